/- A block of 512 bytes into which the program appends: append, make, low. -/
import Derived.Test.YtkjgncmbhkhbnaaPgL
import Derived.Test.YtkjgncmbhkhbnaaApp
namespace Go.Proofs.Ytkjgncmbhkhbnaa
open Go.RowKit
set_option linter.unusedVariables false

/-- the block g: these bytes, zeros behind them, 512 in all -/
def zs (n : Nat) : List UInt8 := List.replicate n 0
def EB (w : World) (g : Nat) (bs : List UInt8) : Prop := bs.length ≤ 512 ∧ w.heap[g]? = some (.cells (cellsB (bs ++ zs (512 - bs.length))).toArray 5)
theorem EB.chg {F : Nat → Prop} {w w' : World} {g : Nat} {bs : List UInt8} (h : EB w g bs) (hc : Chg F w w') (hn : ¬ F g) : EB w' g bs := by
  refine ⟨h.1, ?_⟩
  rw [hc.block g (Array.getElem?_eq_some_iff.1 h.2).1 hn]; exact h.2
theorem EB.lt {w : World} {g : Nat} {bs : List UInt8} (h : EB w g bs) : g < w.heap.size := (Array.getElem?_eq_some_iff.1 h.2).1
theorem EB.below {w w' : World} {g : Nat} {bs : List UInt8} (h : EB w g bs) (hb : Below w.heap.size w w') : EB w' g bs := h.chg (F := fun _ => False) (Chg.of_below hb) (fun f => f)
theorem EB.ob {w : World} {g : Nat} {bs : List UInt8} (h : EB w g bs) : OB w (some ⟨g, 0, none⟩) 512 bs := by
  refine ⟨by rw [cellsB_length]; exact (Nat.mul_one _).symm, .inr ⟨g, 512, _, rfl, Nat.zero_le _, h.2, h.1, by unfold maxLen; omega, ?_, ?_⟩⟩
  · rw [List.size_toArray, cellsB_length, List.length_append, zs, List.length_replicate]
    have := h.1
    show _ = 512 * 1
    omega
  · show ((cellsB (bs ++ zs (512 - bs.length))).toArray.toList).take (bs.length * 1) = _
    rw [Nat.mul_one, cellsB_append, List.take_append_of_le_length (by rw [cellsB_length]; exact Nat.le_refl _), List.take_of_length_le (by rw [cellsB_length]; exact Nat.le_refl _)]
/-- the first 508 of them -/
theorem EB.full {w : World} {g : Nat} {bs : List UInt8} (h : EB w g bs) (hl : bs.length ≤ 508) : EB w g (fullB bs) := by
  refine ⟨by rw [fullB_length hl]; omega, ?_⟩
  rw [h.2, fullB_length hl]
  unfold fullB zs
  rw [List.append_assoc, List.replicate_append_replicate, show 508 - bs.length + (512 - 508) = 512 - bs.length by omega]
theorem chg_setRow (w : World) (g : Nat) (cells : Array Value) : Chg (fun k => k = g) w (w.setRow g cells) ∧ (w.setRow g cells).heap.size = w.heap.size := by
  unfold World.setRow
  refine ⟨⟨rfl, rfl, rfl, by simp, fun k hk hn => ?_⟩, by simp⟩
  simp only [Array.getElem?_modify]
  rw [if_neg (fun e => hn e.symm)]
theorem run_append_eb (w : World) (ty : TypeId) {g n : Nat} {bs xs : List UInt8} (hE : EB w g bs) (hn : n = bs.length) {xa : Option Addr} {m c : Nat} (hm : m = xs.length) (hx : News w xa c m (cellsB xs)) (hroom : n + m ≤ 512) :
    ∃ w', (Builtin.append_ #[eB.t, eB.t] ty #[.slice (some ⟨g, 0, none⟩) n 512, .slice xa m c]).run Try.prog w = .ok (.slice (some ⟨g, 0, none⟩) (n + m) 512) w' ∧ EB w' g (bs ++ xs) ∧ Chg (fun k => k = g) w w' ∧ w'.heap.size = w.heap.size := by
  obtain ⟨i0, hi, hz0, hz1, hz2⟩ := info_parts eB.hi
  rcases hx with ⟨rfl, rfl, rfl, h0⟩ | ⟨ad, rfl, hx⟩
  · refine ⟨w, ?_, ?_, Chg.refl _ _, rfl⟩
    · have hO := hE.ob
      have := run_append_owned_none (P := Try.prog) (w := w) 0 eB.t ty eB.e i0 eB.size eB.hu hi (.slice (some ⟨g, 0, none⟩) bs.length 512) bs.length (cellsB bs) hO
      subst hn
      simpa using this
    · have : xs = [] := by cases xs; rfl; simp [cellsB] at h0
      subst this
      simpa using hE
  · subst hn
    subst hm
    have hfit : bs.length * i0.size + (cellsB xs).length ≤ (cellsB (bs ++ zs (512 - bs.length))).toArray.size := by
      rw [hz1, List.size_toArray, cellsB_length, cellsB_length, List.length_append, zs, List.length_replicate]
      show _ * 1 + _ ≤ _
      omega
    have hr := run_append_room (P := Try.prog) w eB.t ty eB.e i0 eB.hu hi g bs.length 512 _ hE.2 ad xs.length c (cellsB xs) (by rw [hz1, cellsB_length]; exact (Nat.mul_one _).symm) hx (cellsB_one xs) hroom hfit
    refine ⟨_, hr, ⟨by rw [List.length_append]; exact hroom, ?_⟩, chg_setRow _ _ _⟩
    rw [setRow_heap w g _ _ _ (0, 0) hE.2, hz1]
    congr 3
    show (cellsB (bs ++ zs (512 - bs.length))).take (bs.length * 1) ++ cellsB xs ++ (cellsB (bs ++ zs (512 - bs.length))).drop (bs.length * 1 + (cellsB xs).length) = _
    rw [Nat.mul_one, cellsB_append, List.take_append_of_le_length (by rw [cellsB_length]; exact Nat.le_refl _), List.take_of_length_le (by rw [cellsB_length]; exact Nat.le_refl _), cellsB_length, List.drop_append, List.drop_eq_nil_of_le (by rw [cellsB_length]; omega), cellsB_append, cellsB_append, List.nil_append]
    congr 1
    rw [cellsB_length, Nat.add_sub_cancel_left, List.length_append]
    unfold cellsB zs
    rw [← List.map_drop, List.drop_replicate, Nat.sub_add_eq]
theorem wpList_append_eb {ops : Array Oper} {rest : List Oper} {o : Oper} {a : Act} {w : World} {Q : Exit → Act → World → Prop} (hgd : o.guard = none) (s x : Operand)
    (ho : o.op = .call { callee := .builtin .append, args := #[s, x], argTypes := #[25, 25] })
    {g n : Nat} {bs xs : List UInt8} (hs : a.eval s = .slice (some ⟨g, 0, none⟩) n 512) (hE : EB w g bs) (hn : n = bs.length) {xa : Option Addr} {m c : Nat} (hx : a.eval x = .slice xa m c) (hm : m = xs.length) (hnw : News w xa c m (cellsB xs)) (hroom : n + m ≤ 512)
    (h : ∀ w', EB w' g (bs ++ xs) → Chg (fun k => k = g) w w' → w'.heap.size = w.heap.size → wpList Try.prog ops Q rest (a.put o.dst (.slice (some ⟨g, 0, none⟩) (n + m) 512)) w') :
    wpList Try.prog ops Q (o :: rest) a w := by
  refine wpList_plain hgd fun K hK => ?_
  obtain ⟨w', hr, h1, h2, h3⟩ := run_append_eb w o.type hE hn hm hnw hroom
  unfold Oper.wp execOp
  simp only [ho, resolve, invoke, builtin, Sem.run_bind, Sem.run_pure, Result.andThen_ok, List.map_toArray, List.map_cons, List.map_nil, hs, hx]
  rw [show (#[25, 25] : Array TypeId) = #[eB.t, eB.t] from rfl, hr]
  exact hK _ _ (h w' h1 h2 h3)
theorem step_append_eb {ops : Array Oper} {o : Oper} {a : Act} {w : World} {K : Act → World → Prop} {Q : Exit → Act → World → Prop} {F : Prop} (hgd : o.guard = none) (s x : Operand)
    (ho : o.op = .call { callee := .builtin .append, args := #[s, x], argTypes := #[25, 25] })
    {g n : Nat} {bs xs : List UInt8} (hs : a.eval s = .slice (some ⟨g, 0, none⟩) n 512) (hE : EB w g bs) (hn : n = bs.length) {xa : Option Addr} {m c : Nat} (hx : a.eval x = .slice xa m c) (hm : m = xs.length) (hnw : News w xa c m (cellsB xs)) (hroom : n + m ≤ 512)
    (h : ∀ w', EB w' g (bs ++ xs) → Chg (fun k => k = g) w w' → w'.heap.size = w.heap.size → K (a.put o.dst (.slice (some ⟨g, 0, none⟩) (n + m) 512)) w') :
    if Region.wanted o (yielded ops a.tmps) = true then Oper.wp Try.prog o a w K Q else F := by
  have hw : Region.wanted o (yielded ops a.tmps) = true := by simp [Region.wanted, hgd]
  rw [if_pos hw]
  obtain ⟨w', hr, h1, h2, h3⟩ := run_append_eb w o.type hE hn hm hnw hroom
  unfold Oper.wp execOp
  simp only [ho, resolve, invoke, builtin, Sem.run_bind, Sem.run_pure, Result.andThen_ok, List.map_toArray, List.map_cons, List.map_nil, hs, hx]
  rw [show (#[25, 25] : Array TypeId) = #[eB.t, eB.t] from rfl, hr]
  exact h w' h1 h2 h3
/-- bytes that are read, as what is appended -/
theorem Bts.news {w : World} {a : Option Addr} {c : Nat} {bs : List UInt8} (h : Bts w a bs) (hc : a = none → c = 0) : News w a c bs.length (cellsB bs) := by
  rcases h with rfl | ⟨b, off, rfl, h2, h3⟩
  · cases a with
    | none => exact .inl ⟨rfl, hc rfl, rfl, rfl⟩
    | some ad => exact .inr ⟨ad, rfl, fun j u hj => by simp [cellsB] at hj⟩
  · refine .inr ⟨_, rfl, fun j u hj => ?_⟩
    have hjl := (List.getElem?_eq_some_iff.1 hj).1
    rw [cellsB_length] at hjl
    rw [cellsB_get hjl] at hj
    rw [add_none, h3 j hjl]; exact hj
theorem one_news (w : World) (b : UInt8) : News (w.alloc (.cells #[.int .u8 (b.toNat : Int)] 5)) (some ⟨w.heap.size, 0, none⟩) 1 1 (cellsB [b]) :=
  .inr ⟨_, rfl, cell_new w _ _⟩
theorem two_news (w : World) (b c : UInt8) : News (w.alloc (.cells #[.int .u8 (b.toNat : Int), .int .u8 (c.toNat : Int)] 5)) (some ⟨w.heap.size, 0, none⟩) 2 2 (cellsB [b, c]) := by
  refine .inr ⟨_, rfl, fun j u hj => ?_⟩
  rw [add_none, cell_of_row _ _ _ _ _ _ (heap_alloc_new w _), Nat.zero_add]
  simpa [cellsB] using hj
theorem made_zs (n : Nat) : madeCells #[.int .u8 0] n = (cellsB (zs n)).toArray := by
  apply Array.toList_inj.1
  unfold madeCells cellsB zs
  rw [Array.toList_map, Array.toList_range, List.map_replicate]
  rw [List.eq_replicate_iff]
  refine ⟨by simp, fun b hb => ?_⟩
  obtain ⟨i, _, rfl⟩ := List.mem_map.1 hb
  show (#[Value.int .u8 0])[i % 1]! = _
  rw [Nat.mod_one]; rfl
/-- make([]byte, 0, 512) -/
theorem make_eb (w : World) : ∃ w', (Instr.makeSlice 25 (.int .i64 0) (.int .i64 512)).run Try.prog w = .ok (.slice (some ⟨w.heap.size, 0, none⟩) 0 512) w' ∧ EB w' w.heap.size [] ∧ Below w.heap.size w w' ∧ w.heap.size < w'.heap.size := by
  obtain ⟨i0, hi, hz0, hz1, hz2⟩ := info_parts eB.hi
  refine ⟨w.alloc (.cells (cellsB (zs 512)).toArray 5), ?_, ?_, one_below _ _, by simp⟩
  · have h := run_make (P := Try.prog) (w := w) 25 5 i0 (.int .u8 0) eB.hu hi hz0 .i64 .i64 0 512 (by decide) (by decide) (by rw [hz2]; decide) (by decide)
    rw [h, hz1]
    rw [show (512 : Int).toNat * eB.size = 512 from rfl, show (Value.int IntKind.u8 0).cells = #[.int .u8 0] from rfl, made_zs]
    rfl
  · exact ⟨by simp, heap_alloc_new _ _⟩
end Go.Proofs.Ytkjgncmbhkhbnaa
