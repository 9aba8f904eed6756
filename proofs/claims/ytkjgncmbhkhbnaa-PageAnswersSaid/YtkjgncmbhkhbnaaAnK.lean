/- SparePage: items with marked room, as plain data and in memory. SparePage. KeptPage. -/
import Derived.Test.YtkjgncmbhkhbnaaAnA
import Derived.Deep.Cut
import Derived.Deep.CutRange
import Derived.Test.YtkjgncmbhkhbnaaPEqP
import Derived.Deep.RegionHeld3
namespace Go.Proofs.Ytkjgncmbhkhbnaa
open Go.RowKit
set_option linter.unusedVariables false
set_option maxRecDepth 100000

def zZ : PI × TA := (⟨[], [], 0, 0⟩, ⟨none, 0, none, 0⟩)
def mkZ (i : Nat) : PI × TA := (⟨[], [], -5 - (i : Int), -9⟩, ⟨none, 0, none, 0⟩)
def marked (zs : List (PI × TA)) (n : Nat) : List (PI × TA) := zs ++ [mkZ n, mkZ (n + 1)]
theorem cellsZ_cons (z : PI × TA) (zs : List (PI × TA)) : cellsZ (z :: zs) = cellsI z ++ cellsZ zs := rfl
theorem cellsZ_set : ∀ (zs : List (PI × TA)) (i : Nat) (x : PI × TA), i < zs.length → cellsZ (zs.set i x) = ((((cellsZ zs).set (i * 4) (.slice x.2.ka x.1.key.length x.2.kc)).set (i * 4 + 1) (.slice x.2.va x.1.value.length x.2.vc)).set (i * 4 + 2) (.int .i64 x.1.child)).set (i * 4 + 3) (.int .i64 x.1.size)
  | [], i, x, h => by simp at h
  | r :: rs, 0, x, h => by
    rw [List.set_cons_zero, cellsZ_cons, cellsZ_cons]
    simp [cellsI]
  | r :: rs, i + 1, x, h => by
    have ih := cellsZ_set rs i x (by simpa using h)
    rw [List.set_cons_succ, cellsZ_cons, cellsZ_cons, ih]
    rw [show (i + 1) * 4 = 4 + i * 4 by omega, show 4 + i * 4 + 1 = 4 + (i * 4 + 1) by omega, show 4 + i * 4 + 2 = 4 + (i * 4 + 2) by omega, show 4 + i * 4 + 3 = 4 + (i * 4 + 3) by omega]
    simp [cellsI, Nat.add_comm 4]
theorem cellsZ_zero (m : Nat) : ∀ i, i < m * 4 → (cellsZ (List.replicate m zZ))[i]? = some (#[Value.slice none 0 0, Value.slice none 0 0, Value.int .i64 0, Value.int .i64 0][i % 4]!) := by
  intro i hi
  have h1 := cellsZ_get (zs := List.replicate m zZ) (i := i / 4) (z := zZ) (by rw [List.getElem?_replicate, if_pos (by omega)])
  have h2 : i % 4 = 0 ∨ i % 4 = 1 ∨ i % 4 = 2 ∨ i % 4 = 3 := by omega
  rcases h2 with h | h | h | h
  · have := h1 0 _ rfl; rw [show i / 4 * 4 + 0 = i by omega] at this; rw [this, h]; rfl
  · have := h1 1 _ rfl; rw [show i / 4 * 4 + 1 = i by omega] at this; rw [this, h]; rfl
  · have := h1 2 _ rfl; rw [show i / 4 * 4 + 2 = i by omega] at this; rw [this, h]; rfl
  · have := h1 3 _ rfl; rw [show i / 4 * 4 + 3 = i by omega] at this; rw [this, h]; rfl
theorem make_items (w : World) (m : Nat) (hm : m ≤ 2199023255000) : ∃ w', (Instr.makeSlice 24 (.int .i64 (m : Int)) (.int .i64 (m : Int))).run Try.prog w = .ok (.slice (some ⟨w.heap.size, 0, none⟩) m m) w' ∧ OR eIt w' (some ⟨w.heap.size, 0, none⟩) m m (cellsZ (List.replicate m zZ)) ∧ Below w.heap.size w w' ∧ w.heap.size < w'.heap.size := by
  obtain ⟨i0, hi, hz0, hz1, hz2⟩ := info_parts eIt.hi
  obtain ⟨w', hr, ho, hg⟩ := run_make_full (P := Try.prog) (w := w) 0 24 64 i0 (.agg #[.slice none 0 0, .slice none 0 0, .int .i64 0, .int .i64 0]) 4 eIt.hu hi hz0 hz1 .i64 .i64 m (by rw [hz2]; show 64 * m ≤ _; omega) (by unfold maxLen; omega) (Nat.zero_le _)
  have hO : OR eIt w' (some ⟨w.heap.size, 0, none⟩) m m (cellsZ (List.replicate m zZ)) := by
    have e : (madeCells (Value.agg #[.slice none 0 0, .slice none 0 0, .int .i64 0, .int .i64 0]).cells (m * 4)).toList = cellsZ (List.replicate m zZ) := by
      apply List.ext_getElem?
      intro i
      by_cases h : i < m * 4
      · rw [cellsZ_zero m i h]
        simp only [madeCells, Value.cells, List.size_toArray, List.length_cons, List.length_nil, Array.toList_map, List.getElem?_map, Array.toList_range]
        rw [List.getElem?_range h]; rfl
      · rw [List.getElem?_eq_none (by simp [madeCells]; omega), List.getElem?_eq_none (by rw [cellsZ_length, List.length_replicate]; omega)]
    rw [e] at ho
    exact ho
  exact ⟨w', hr, hO, (Below.refl _ _).grown hg (Nat.le_refl _) (fun k hk => by cases hk), hO.lt _ rfl⟩
/-- an item whose lists are spared -/
def SpZ (w : World) (z : PI × TA) : Prop := ∃ k v, z.2 = ⟨some ⟨k, 0, none⟩, z.1.key.length + 64, some ⟨v, 0, none⟩, z.1.value.length + 64⟩ ∧ Spared w k z.1.key ∧ Spared w v z.1.value ∧ z.1.key.length ≤ 140737488351232 ∧ z.1.value.length ≤ 140737488351232 ∧ i64ok z.1.child ∧ i64ok z.1.size
theorem SpZ.chg {F : Nat → Prop} {w w' : World} {z : PI × TA} (h : SpZ w z) (hc : Chg F w w') (hk : ∀ k, blk z.2.ka = some k → ¬ F k) (hv : ∀ k, blk z.2.va = some k → ¬ F k) : SpZ w' z := by
  obtain ⟨k, v, e, h1, h2, h3⟩ := h
  rw [e] at hk hv
  exact ⟨k, v, e, h1.chg hc (hk k rfl), h2.chg hc (hv v rfl), h3⟩
theorem SpZ.below {w w' : World} {z : PI × TA} (h : SpZ w z) (hb : Below w.heap.size w w') : SpZ w' z := h.chg (F := fun _ => False) (Chg.of_below hb) (fun _ _ f => f) (fun _ _ f => f)
/-- a page that SparePage made -/
structure SpP (lo : Nat) (w : World) (p : PP) (gi gd : Nat) (zs : List (PI × TA)) : Prop where
  zp : zs.map (·.1) = p.items
  own : OR eIt w (some ⟨gi, 0, none⟩) (p.items.length + 2) (p.items.length + 2) (cellsZ (marked zs p.items.length))
  obs : ∀ z ∈ zs, SpZ w z
  dat : Spared w gd p.data
  dl : p.data.length ≤ 140737488351232
  gdl : lo ≤ gd ∧ gd < gi
  up : Up (gi + 1) w.heap.size (adrs zs)
  kd : i64ok p.kind
  lv : i64ok p.level
  nx : i64ok p.next
theorem SpP.below {lo : Nat} {w w' : World} {p : PP} {gi gd : Nat} {zs : List (PI × TA)} (h : SpP lo w p gi gd zs) (hb : Below w.heap.size w w') : SpP lo w' p gi gd zs :=
  ⟨h.zp, h.own.chg (F := fun _ => False) (Chg.of_below hb) (fun _ _ f => f), fun z hz => (h.obs z hz).below hb, h.dat.below hb, h.dl, h.gdl, h.up.mono hb.size, h.kd, h.lv, h.nx⟩
theorem marked_at {zs : List (PI × TA)} {n i : Nat} {z : PI × TA} (h : zs[i]? = some z) : (marked zs n)[i]? = some z := by
  unfold marked
  rw [List.getElem?_append_left (List.getElem?_eq_some_iff.1 h).1]; exact h
theorem SpP.z {lo : Nat} {w : World} {p : PP} {gi gd : Nat} {zs : List (PI × TA)} (h : SpP lo w p gi gd zs) : ItZ w (some ⟨gi, 0, none⟩) zs := by
  refine .inr ⟨gi, 0, rfl, h.own.lt gi rfl, fun i z hz j u hj => ?_⟩
  obtain ⟨g', e', hc, _⟩ := h.own.cell (cellsZ_get (marked_at (n := p.items.length) hz) j u hj)
  cases e'
  rw [Nat.zero_add]; exact hc
theorem SpP.pgAt {lo : Nat} {w : World} {p : PP} {gi gd : Nat} {zs : List (PI × TA)} (h : SpP lo w p gi gd zs) (hn : p.items.length ≤ 70000) : PgAt w.heap.size w p (some ⟨gi, 0, none⟩) (p.items.length + 2) (some ⟨gd, 0, none⟩) (p.data.length + 64) := by
  have sl : ∀ {k : Nat} {bs : List UInt8}, Spared w k bs → bs.length ≤ 140737488351232 → Sl w.heap.size w (some ⟨k, 0, none⟩) (bs.length + 64) bs := fun hs hl =>
    ⟨hs.bts, .inr fun j e => by cases e; exact OR.lt hs _ rfl, hl, fun e => by cases e⟩
  refine ⟨.inr ⟨gi, 0, rfl, h.own.lt gi rfl, fun i x hx => ?_⟩, by omega, fun e => (by cases e), sl h.dat h.dl, h.kd, h.lv, h.nx⟩
  rw [← h.zp, List.getElem?_map] at hx
  obtain ⟨z, hz, rfl⟩ := Option.map_eq_some_iff.1 hx
  obtain ⟨b, off, e, hb, c0, c1, c2, c3⟩ := h.z.at hz
  cases e
  obtain ⟨k, v, ez, s1, s2, l1, l2, l3, l4⟩ := h.obs z (List.mem_of_getElem? hz)
  obtain ⟨x, t⟩ := z
  simp only at ez
  subst ez
  exact ⟨_, _, _, _, c0, c1, c2, c3, sl s1 l1, sl s2 l2, l3, l4⟩
def RelSq (W : World) (gi n : Nat) (xs : List PI) (v : Value) (wr : World) : Prop :=
  ∃ (k : Nat) (zs cur : List (PI × TA)), k ≤ n + 2 ∧ v = .int .i64 k ∧ OR eIt wr (some ⟨gi, 0, none⟩) (n + 2) (n + 2) (cellsZ cur) ∧ cur.length = n + 2 ∧ zs.map (·.1) = xs.take k ∧ (∀ j, j < k → cur[j]? = (marked zs n)[j]?) ∧ (∀ z ∈ zs, SpZ wr z) ∧ Up (gi + 1) wr.heap.size (adrs zs) ∧ Chg (fun b => gi ≤ b) W wr
theorem set4_own {w : World} {g c n k : Nat} {cur : List (PI × TA)} (h : OR eIt w (some ⟨g, 0, none⟩) c n (cellsZ cur)) (hk : k < cur.length) (x : PI × TA) :
    OR eIt ((((w.setCell ⟨g, k * 4, none⟩ (.slice x.2.ka x.1.key.length x.2.kc)).setCell ⟨g, k * 4 + 1, none⟩ (.slice x.2.va x.1.value.length x.2.vc)).setCell ⟨g, k * 4 + 2, none⟩ (.int .i64 x.1.child)).setCell ⟨g, k * 4 + 3, none⟩ (.int .i64 x.1.size)) (some ⟨g, 0, none⟩) c n (cellsZ (cur.set k x)) := by
  have hlen4 := cellsZ_length cur
  rw [cellsZ_set cur k x hk]
  exact ((((h.set (k * 4) _ (by omega)).set (k * 4 + 1) _ (by rw [List.length_set]; omega)).set (k * 4 + 2) _ (by rw [List.length_set, List.length_set]; omega)).set (k * 4 + 3) _ (by rw [List.length_set, List.length_set, List.length_set]; omega))
theorem set4_chg (w : World) (g k : Nat) (a b c d : Value) : Chg (fun j => j = g) w ((((w.setCell ⟨g, k * 4, none⟩ a).setCell ⟨g, k * 4 + 1, none⟩ b).setCell ⟨g, k * 4 + 2, none⟩ c).setCell ⟨g, k * 4 + 3, none⟩ d) :=
  ((((Chg.refl (fun j => j = g) _).setCell ⟨g, k * 4, none⟩ _ (fun _ => rfl)).setCell ⟨g, k * 4 + 1, none⟩ _ (fun _ => rfl)).setCell ⟨g, k * 4 + 2, none⟩ _ (fun _ => rfl)).setCell ⟨g, k * 4 + 3, none⟩ _ (fun _ => rfl)
theorem relSq_item {W wr w3 : World} {gi n k : Nat} {xs : List PI} {zs cur : List (PI × TA)} {x : PI} {kb vb : Nat} (hn : xs.length = n) (hx : xs[k]? = some x) (hO : OR eIt wr (some ⟨gi, 0, none⟩) (n + 2) (n + 2) (cellsZ cur)) (hcl : cur.length = n + 2) (hz : zs.map (·.1) = xs.take k) (hE : ∀ j, j < k → cur[j]? = (marked zs n)[j]?) (hS : ∀ z ∈ zs, SpZ wr z) (hU : Up (gi + 1) wr.heap.size (adrs zs)) (hC : Chg (fun b => gi ≤ b) W wr)
    (hb : Below wr.heap.size wr w3) (hk1 : Spared w3 kb x.key) (hv1 : Spared w3 vb x.value) (hkv : wr.heap.size ≤ kb ∧ kb < vb) (hl1 : x.key.length ≤ 140737488351232) (hl2 : x.value.length ≤ 140737488351232) (hc1 : i64ok x.child) (hc2 : i64ok x.size) {i : Value} (hi : i = .int .i64 ((k + 1 : Nat) : Int)) :
    RelSq W gi n xs i ((((w3.setCell ⟨gi, k * 4, none⟩ (.slice (some ⟨kb, 0, none⟩) x.key.length (x.key.length + 64))).setCell ⟨gi, k * 4 + 1, none⟩ (.slice (some ⟨vb, 0, none⟩) x.value.length (x.value.length + 64))).setCell ⟨gi, k * 4 + 2, none⟩ (.int .i64 x.child)).setCell ⟨gi, k * 4 + 3, none⟩ (.int .i64 x.size)) := by
  subst hi
  have hkn : k < n := by rw [← hn]; exact (List.getElem?_eq_some_iff.1 hx).1
  have hzl : zs.length = k := by rw [← List.length_map (f := (·.1)), hz, List.length_take]; omega
  have hgl := hO.lt gi rfl
  have hC4 := set4_chg w3 gi k (.slice (some ⟨kb, 0, none⟩) x.key.length (x.key.length + 64)) (.slice (some ⟨vb, 0, none⟩) x.value.length (x.value.length + 64)) (.int .i64 x.child) (.int .i64 x.size)
  have hvl := OR.lt hv1 vb rfl
  refine ⟨k + 1, zs ++ [(x, ⟨some ⟨kb, 0, none⟩, x.key.length + 64, some ⟨vb, 0, none⟩, x.value.length + 64⟩)], cur.set k (x, ⟨some ⟨kb, 0, none⟩, x.key.length + 64, some ⟨vb, 0, none⟩, x.value.length + 64⟩), by omega, rfl, ?_, by rw [List.length_set]; exact hcl, by rw [List.take_add_one, hx, List.map_append, hz]; rfl, fun j hj => ?_, fun z hz2 => ?_, ?_, ?_⟩
  · exact set4_own (hO.chg (F := fun _ => False) (Chg.of_below hb) (fun _ _ f => f)) (by omega) (x, ⟨some ⟨kb, 0, none⟩, x.key.length + 64, some ⟨vb, 0, none⟩, x.value.length + 64⟩)
  · rcases Nat.lt_succ_iff_lt_or_eq.1 hj with h | rfl
    · rw [List.getElem?_set_ne (by omega), hE j h]
      unfold marked
      rw [List.getElem?_append_left (by omega), List.getElem?_append_left (by rw [List.length_append]; omega), List.getElem?_append_left (by omega)]
    · rw [List.getElem?_set_self (by omega)]
      unfold marked
      rw [List.getElem?_append_left (by rw [List.length_append]; simp; omega), List.getElem?_append_right (by omega), hzl, Nat.sub_self]; rfl
  · rcases List.mem_append.1 hz2 with hm | hm
    · have hup := hU.mem
      have h1 := mem_adrs hm
      exact ((hS z hm).below hb).chg hC4 (fun j e f => by have := hup _ h1.1 j e; omega) (fun j e f => by have := hup _ h1.2 j e; omega)
    · simp at hm; subst hm
      exact ⟨kb, vb, rfl, hk1.chg hC4 (by omega), hv1.chg hC4 (by omega), hl1, hl2, hc1, hc2⟩
  · have ha : adrs (zs ++ [(x, ⟨some ⟨kb, 0, none⟩, x.key.length + 64, some ⟨vb, 0, none⟩, x.value.length + 64⟩)]) = adrs zs ++ [some ⟨kb, 0, none⟩, some ⟨vb, 0, none⟩] := by simp [adrs]
    rw [ha]
    exact Up.append hU (Up.two (m := kb + 1) (by omega) (by have := hC4.size; omega) (fun j e => by have hj : kb = j := Option.some.inj e; omega) (fun j e => by have hj : vb = j := Option.some.inj e; have := hC4.size; omega))
  · exact (hC.trans (Chg.of_below (F := fun b => gi ≤ b) hb) (fun _ _ f => f)).trans hC4 (fun j _ f => by omega)
theorem relSq_mark {W wr : World} {gi n k : Nat} {xs : List PI} {zs cur : List (PI × TA)} (hn : xs.length = n) (hk : n ≤ k) (hk2 : k < n + 2) (hO : OR eIt wr (some ⟨gi, 0, none⟩) (n + 2) (n + 2) (cellsZ cur)) (hcl : cur.length = n + 2) (hz : zs.map (·.1) = xs.take k) (hE : ∀ j, j < k → cur[j]? = (marked zs n)[j]?) (hS : ∀ z ∈ zs, SpZ wr z) (hU : Up (gi + 1) wr.heap.size (adrs zs)) (hC : Chg (fun b => gi ≤ b) W wr)
    {i : Value} (hi : i = .int .i64 ((k + 1 : Nat) : Int)) :
    RelSq W gi n xs i ((((wr.setCell ⟨gi, k * 4, none⟩ (.slice none 0 0)).setCell ⟨gi, k * 4 + 1, none⟩ (.slice none 0 0)).setCell ⟨gi, k * 4 + 2, none⟩ (.int .i64 (-5 - (k : Int)))).setCell ⟨gi, k * 4 + 3, none⟩ (.int .i64 (-9))) := by
  subst hi
  have hzl : zs.length = n := by rw [← List.length_map (f := (·.1)), hz, List.length_take]; omega
  have hC4 := set4_chg wr gi k (.slice none 0 0) (.slice none 0 0) (.int .i64 (-5 - (k : Int))) (.int .i64 (-9))
  refine ⟨k + 1, zs, cur.set k (mkZ k), by omega, rfl, set4_own hO (by omega) (mkZ k), by rw [List.length_set]; exact hcl, by rw [hz, List.take_of_length_le (by omega), List.take_of_length_le (by omega)], fun j hj => ?_, fun z hm => ?_, hU.mono hC4.size, hC.trans hC4 (fun j _ f => by omega)⟩
  · rcases Nat.lt_succ_iff_lt_or_eq.1 hj with h | rfl
    · rw [List.getElem?_set_ne (by omega)]; exact hE j h
    · rw [List.getElem?_set_self (by omega)]
      unfold marked
      rw [List.getElem?_append_right (by omega), hzl]
      rcases (by omega : j = n ∨ j = n + 1) with rfl | rfl
      · simp
      · simp
  · have h1 := mem_adrs hm
    exact (hS z hm).chg hC4 (fun j e f => by have := hU.mem _ h1.1 j e; omega) (fun j e f => by have := hU.mem _ h1.2 j e; omega)
theorem relSq_end {n : Nat} {xs : List PI} {zs cur : List (PI × TA)} (hn : xs.length = n) (hcl : cur.length = n + 2) (hz : zs.map (·.1) = xs.take (n + 2)) (hE : ∀ j, j < n + 2 → cur[j]? = (marked zs n)[j]?) : cur = marked zs n ∧ zs.map (·.1) = xs := by
  have h2 : zs.map (·.1) = xs := by rw [hz, List.take_of_length_le (by omega)]
  have hzl : zs.length = n := by rw [← List.length_map (f := (·.1)), h2, hn]
  refine ⟨List.ext_getElem? fun j => ?_, h2⟩
  by_cases hj : j < n + 2
  · exact hE j hj
  · rw [List.getElem?_eq_none (by omega), List.getElem?_eq_none (by unfold marked; rw [List.length_append]; simp; omega)]
end Go.Proofs.Ytkjgncmbhkhbnaa
namespace Go.Proofs.Ytkjgncmbhkhbnaa
open Go.RowKit
set_option linter.unusedVariables false
set_option maxRecDepth 100000

/-- behind the first statement: the page's box, the data spared -/
def SCut (W : World) (kd lv nx : Int) (data : List UInt8) (dl : Nat) (v : Value) (wx : World) : Prop :=
  ∃ q gd, v = .pointer (some ⟨q, 0, none⟩) ∧ wx.heap[q]? = some (.cells #[.int .i64 kd, .int .i64 lv, .slice none 0 0, .slice (some ⟨gd, 0, none⟩) dl (dl + 64), .int .i64 nx] 27) ∧ Spared wx gd data ∧ W.heap.size ≤ q ∧ W.heap.size ≤ gd ∧ q ≠ gd ∧ Below W.heap.size W wx
theorem meas_upS {n j : Nat} (h : j < n + 2) : n + 2 - (intOf (.int .i64 ((j : Int) + 1))).toNat < n + 2 - (intOf (.int .i64 (j : Int))).toNat := by simp only [intOf]; omega
theorem scut_at {W w3 : World} {kd lv nx : Int} {data : List UInt8} {dl q gd : Nat} {T : TypeId} (hT : T = 27) (hq : w3.heap[q]? = some (.cells #[.int .i64 0, .int .i64 0, .slice none 0 0, .slice none 0 0, .int .i64 0] T)) (hs : Spared w3 gd data) (h1 : W.heap.size ≤ q) (h2 : W.heap.size ≤ gd) (h3 : q ≠ gd) (hb : Below W.heap.size W w3) :
    SCut W kd lv nx data dl (.pointer (some ⟨q, 0, none⟩)) (((((w3.setCell ⟨q, 0, none⟩ (.int .i64 kd)).setCell ⟨q, 1, none⟩ (.int .i64 lv)).setCell ⟨q, 2, none⟩ (.slice none 0 0)).setCell ⟨q, 3, none⟩ (.slice (some ⟨gd, 0, none⟩) dl (dl + 64))).setCell ⟨q, 4, none⟩ (.int .i64 nx)) := by
  subst hT
  have hC := chg_five w3 q (.int .i64 kd) (.int .i64 lv) (.slice none 0 0) (.slice (some ⟨gd, 0, none⟩) dl (dl + 64)) (.int .i64 nx)
  refine ⟨q, gd, rfl, ?_, hs.chg hC (fun e => h3 e.symm), h1, h2, h3, hb.trans (hC.below hb.size (fun k e => by omega))⟩
  rw [set_rowP (set_rowP (set_rowP (set_rowP (set_rowP hq 0 _) 1 _) 2 _) 3 _) 4 _]
  rfl
def NewSpP (p : PP) (w : World) (x : Ending) (w' : World) : Prop :=
  ∃ gi gd zs, x = .returned (pgv p (some ⟨gi, 0, none⟩) (p.items.length + 2) (some ⟨gd, 0, none⟩) (p.data.length + 64)) ∧ SpP w.heap.size w' p gi gd zs ∧ Below w.heap.size w w'
set_option maxHeartbeats 2000000 in
theorem sparePage_any (p : PP) (ia : Option Addr) (ic : Nat) (da : Option Addr) (dc : Nat) (w : World) (hp : PgAt w.heap.size w p ia ic da dc) (hn : p.items.length ≤ 65536) :
    Calls Try.prog 13 #[pgv p ia ic da dc] w (NewSpP p w) := by
  have HSR := Lib.hid fun w1 (h : Below w.heap.size w w1) => spare_any da dc p.data (Nat.le_trans hp.data.2.2.1 (by decide)) w1 (hp.data.below h).1
  have HIT := Lib.hid fun w1 (h : Below w.heap.size w w1) => (hp.its.below h)
  have HOK := Lib.hid (And.intro hp.kd (And.intro hp.lv (And.intro hp.nx hp.data.2.2.1)))
  unfold NewSpare at HSR
  obtain ⟨kd, lv, items, data, nx⟩ := p
  simp only at HSR HIT HOK hn
  obtain ⟨n, hnn⟩ : ∃ n, items.length = n := ⟨_, rfl⟩
  obtain ⟨dl, hdl⟩ : ∃ dl, data.length = dl := ⟨_, rfl⟩
  have HN := Lib.hid hnn
  have HDL := Lib.hid hdl
  simp only [hdl] at HSR
  unfold pgv
  simp only [hnn, hdl]
  rw [hnn] at hn
  clear hp hnn hdl
  have hg1 := heap_alloc_new w (.cells #[.int .i64 kd, .int .i64 lv, .slice ia n ic, .slice da dl dc, .int .i64 nx] 27)
  have hb1 := one_below w (.cells #[.int .i64 kd, .int .i64 lv, .slice ia n ic, .slice da dl dc, .int .i64 nx] 27)
  have hs1 : (w.alloc (.cells #[.int .i64 kd, .int .i64 lv, .slice ia n ic, .slice da dl dc, .int .i64 nx] 27)).heap.size = w.heap.size + 1 := by simp
  go_enter Try.func13, Try.ntmps13
  go_wp2_with fail
  generalize w.alloc (.cells #[.int .i64 kd, .int .i64 lv, .slice ia n ic, .slice da dl dc, .int .i64 nx] 27) = W0 at *
  have hg2 := heap_alloc_new W0 (.cells #[.int .i64 0, .int .i64 0, .slice none 0 0, .slice none 0 0, .int .i64 0] 27)
  have hb2 := one_below W0 (.cells #[.int .i64 0, .int .i64 0, .slice none 0 0, .slice none 0 0, .int .i64 0] 27)
  have hs2 : (W0.alloc (.cells #[.int .i64 0, .int .i64 0, .slice none 0 0, .slice none 0 0, .int .i64 0] 27)).heap.size = W0.heap.size + 1 := by simp
  generalize W0.alloc (.cells #[.int .i64 0, .int .i64 0, .slice none 0 0, .slice none 0 0, .int .i64 0] 27) = W1 at *
  rw [hs1] at hg2 hb2 hs2
  have hg1' := (hb2.block w.heap.size (Nat.lt_succ_self _)).trans hg1
  have hb12 := hb1.trans (hb2.mono (Nat.le_succ _))
  have HB1 := Lib.hid hb12
  have hsz : W1.heap.size = w.heap.size + 2 := hs2
  have HSR := Lib.hid fun w1 (h : Below W1.heap.size W1 w1) => HSR.out w1 (HB1.out.trans (h.mono (by omega)))
  have HSZ := Lib.hid hsz
  obtain ⟨g, hgg⟩ : ∃ g, w.heap.size = g := ⟨_, rfl⟩
  have HGG := Lib.hid hgg
  simp only [hgg] at hg1' hg2 hs2 ⊢
  have HG1 := Lib.hid hg1'
  have HG2 := Lib.hid hg2
  have HS := Lib.hid fun w1 (h : Below W1.heap.size W1 w1) => (show (fun w' : World => w'.cell? ⟨g, 0, none⟩ = some (.int .i64 kd) ∧ w'.cell? ⟨g, 1, none⟩ = some (.int .i64 lv) ∧ w'.cell? ⟨g, 3, none⟩ = some (.slice da dl dc) ∧ w'.cell? ⟨g, 4, none⟩ = some (.int .i64 nx)) w1 from by
    obtain ⟨c0, c1, c2, c3, c4⟩ := cells5 ((h.block g (by rw [hs2]; omega)).trans HG1.out)
    exact ⟨c0, c1, c3, c4⟩)
  clear hg1 hg2 hg1' hb1 hb2 hb12 hs1 hs2 hgg hsz W0
  have HBd := Lib.hid (show Below W1.heap.size W1 W1.drew from (Below.refl W1.heap.size W1).drew)
  have HSe := Lib.hid (HS.out _ HBd.out)
  go_cut [3] from 6 to 15 (fun v wx => SCut W1 kd lv nx data dl v wx)
  case first =>
    refine wp_region_E (fun w' : World => w'.cell? ⟨g, 0, none⟩ = some (.int .i64 kd) ∧ w'.cell? ⟨g, 1, none⟩ = some (.int .i64 lv) ∧ w'.cell? ⟨g, 3, none⟩ = some (.slice da dl dc) ∧ w'.cell? ⟨g, 4, none⟩ = some (.int .i64 nx)) 11 (by kernel_rfl) (by kernel_rfl) ?_
    change At _ _ _ _ _ _ 12 #[false, false, false, false, false, false, false, false, false, false, false, false] _ _
    refine at_take 0 (v := ?_) rfl (by decide) (by kernel_rfl) (by kernel_rfl) (fun _ _ _ h => h) (Or.inl ⟨by rfl, ?_⟩) HSe.out ?_
    rotate_left
    · intro w' hSw; (try dsimp only at hSw); go_simp; (try with_reducible rfl)
    simp only [Act.put, List.setIfInBounds_toArray, List.set_cons_zero, List.set_cons_succ]
    refine at_take 1 (v := ?_) rfl (by decide) (by kernel_rfl) (by kernel_rfl) (fun _ _ _ h => h) (Or.inl ⟨by rfl, ?_⟩) HSe.out ?_
    rotate_left
    · intro w' hSw; (try dsimp only at hSw); go_simp; (try with_reducible rfl)
    simp only [Act.put, List.setIfInBounds_toArray, List.set_cons_zero, List.set_cons_succ]
    refine at_take 2 (v := ?_) rfl (by decide) (by kernel_rfl) (by kernel_rfl) (fun _ _ _ h => h) (Or.inl ⟨by rfl, ?_⟩) HSe.out ?_
    rotate_left
    · intro w' hSw; (try dsimp only at hSw); go_simp; (try with_reducible rfl)
    simp only [Act.put, List.setIfInBounds_toArray, List.set_cons_zero, List.set_cons_succ]
    refine at_take 3 (v := ?_) rfl (by decide) (by kernel_rfl) (by kernel_rfl) (fun _ _ _ h => h) (Or.inl ⟨by rfl, ?_⟩) HSe.out ?_
    rotate_left
    · intro w' hSw; (try dsimp only at hSw); go_simp; (try with_reducible rfl)
    simp only [Act.put, List.setIfInBounds_toArray, List.set_cons_zero, List.set_cons_succ]
    refine at_take 4 (v := ?_) rfl (by decide) (by kernel_rfl) (by kernel_rfl) (fun _ _ _ h => h) (Or.inl ⟨by rfl, ?_⟩) HSe.out ?_
    rotate_left
    · intro w' hSw; (try dsimp only at hSw); go_simp; (try with_reducible rfl)
    simp only [Act.put, List.setIfInBounds_toArray, List.set_cons_zero, List.set_cons_succ]
    refine at_take 5 (v := ?_) rfl (by decide) (by kernel_rfl) (by kernel_rfl) (fun _ _ _ h => h) (Or.inl ⟨by rfl, ?_⟩) HSe.out ?_
    rotate_left
    · intro w' hSw; (try dsimp only at hSw); go_simp; (try with_reducible rfl)
    simp only [Act.put, List.setIfInBounds_toArray, List.set_cons_zero, List.set_cons_succ]
    refine at_take 7 (v := ?_) rfl (by decide) (by kernel_rfl) (by kernel_rfl) (fun _ _ _ h => h) (Or.inl ⟨by rfl, ?_⟩) HSe.out ?_
    rotate_left
    · intro w' hSw; (try dsimp only at hSw); go_simp; (try with_reducible rfl)
    simp only [Act.put, List.setIfInBounds_toArray, List.set_cons_zero, List.set_cons_succ]
    refine at_take 8 (v := ?_) rfl (by decide) (by kernel_rfl) (by kernel_rfl) (fun _ _ _ h => h) (Or.inl ⟨by rfl, ?_⟩) HSe.out ?_
    rotate_left
    · intro w' hSw; (try dsimp only at hSw); go_simp; (try with_reducible rfl)
    simp only [Act.put, List.setIfInBounds_toArray, List.set_cons_zero, List.set_cons_succ]
    refine at_two 6 10 rfl rfl (by decide) (by decide) (by kernel_rfl) (by rfl) (by rfl) ?_ ?_
    · intro K hK
      go_simp
      refine (HSR.out _ HBd.out).mono ?_
      rintro _ w2 ⟨rfl, hS2, hb2⟩
      have HB2 := Lib.hid (HBd.out.trans (hb2.mono HBd.out.size))
      have HS2 := Lib.hid (HS.out w2 HB2.out)
      have ha := one_below w2 (.cells #[.int .i64 0, .int .i64 0, .slice none 0 0, .slice none 0 0, .int .i64 0] 27)
      have HB3 := Lib.hid (HB2.out.trans (ha.mono HB2.out.size))
      have HS3 := Lib.hid (HS.out _ HB3.out)
      have HSC := Lib.hid (scut_at (W := W1) (kd := kd) (lv := lv) (nx := nx) (dl := dl) rfl (heap_alloc_new w2 (.cells #[.int .i64 0, .int .i64 0, .slice none 0 0, .slice none 0 0, .int .i64 0] 27)) (hS2.below ha) HB2.out.size (Nat.le_refl _) (fun e => absurd e (Nat.ne_of_gt (OR.lt hS2 _ rfl))) HB3.out)
      have HQ := Lib.hid (heap_alloc_new w2 (.cells #[.int .i64 0, .int .i64 0, .slice none 0 0, .slice none 0 0, .int .i64 0] 27))
      clear hS2 hb2 ha
      go_simp
      refine hK _ _ HS2.out ?_
      clear hK K
      simp only [Act.put, List.setIfInBounds_toArray, List.set_cons_zero, List.set_cons_succ]
      refine at_take 9 (v := ?_) rfl (by decide) (by kernel_rfl) (by kernel_rfl) (fun _ _ _ h => h) (Or.inl ⟨by rfl, ?_⟩) HS2.out ?_
      rotate_left
      · intro w' hSw; (try dsimp only at hSw); go_simp; (try with_reducible rfl)
      simp only [Act.put, List.setIfInBounds_toArray, List.set_cons_zero, List.set_cons_succ]
      refine at_only 10 rfl (by decide) (by kernel_rfl) (by rfl) ?_
      intro K hK
      go_simp
      refine hK _ _ HS3.out ?_
      clear hK K
      simp only [Act.put, List.setIfInBounds_toArray, List.set_cons_zero, List.set_cons_succ]
      generalize w2.alloc (.cells #[.int .i64 0, .int .i64 0, .slice none 0 0, .slice none 0 0, .int .i64 0] 27) = w3 at HQ HSC ⊢
      generalize w2.heap.size = q at HQ HSC ⊢
      refine at_tail rfl (by kernel_rfl) ?_
      simp only [List.drop_succ_cons, List.drop_zero]
      obtain ⟨r0, r1, r2, r3, r4, rf⟩ := cells5f HQ.out
      have f0 := rf 0
      have f1 := rf 1
      have f2 := rf 2
      have f3 := rf 3
      have f4 := rf 4
      clear rf
      go_wp2_with fail
      go_meet
      exact HSC.out
    · intro K hK
      have hbe : Below W1.heap.size W1 (W1.alloc (.cells #[.int .i64 0, .int .i64 0, .slice none 0 0, .slice none 0 0, .int .i64 0] 27)).drew := ((Below.refl _ _).alloc (Nat.le_refl _) _).drew
      have HBe := Lib.hid hbe
      have HS2 := Lib.hid (HS.out _ HBe.out)
      have hnw := (show (W1.alloc (.cells #[.int .i64 0, .int .i64 0, .slice none 0 0, .slice none 0 0, .int .i64 0] 27)).drew.heap[W1.heap.size]? = some (.cells #[.int .i64 0, .int .i64 0, .slice none 0 0, .slice none 0 0, .int .i64 0] 27) from heap_alloc_new W1 _)
      go_simp
      refine hK _ _ HS2.out ?_
      clear hK K
      simp only [Act.put, List.setIfInBounds_toArray, List.set_cons_zero, List.set_cons_succ]
      refine at_only 6 rfl (by decide) (by kernel_rfl) (by rfl) ?_
      intro K hK
      go_simp
      refine (HSR.out _ HBe.out).mono ?_
      rintro _ w2 ⟨rfl, hS2, hb2⟩
      have HB3 := Lib.hid (HBe.out.trans (hb2.mono HBe.out.size))
      have HS3 := Lib.hid (HS.out w2 HB3.out)
      have hlt := rlt_of_heapP hnw
      have HQ := Lib.hid ((hb2.block W1.heap.size hlt).trans hnw)
      have HSC := Lib.hid (scut_at (W := W1) (kd := kd) (lv := lv) (nx := nx) (dl := dl) rfl HQ.out hS2 (Nat.le_refl _) (Nat.le_of_lt hlt) (Nat.ne_of_lt hlt) HB3.out)
      have hsz1 : (W1.alloc (.cells #[.int .i64 0, .int .i64 0, .slice none 0 0, .slice none 0 0, .int .i64 0] 27)).drew.heap.size = W1.heap.size + 1 := by simp
      rw [hsz1] at HSC
      clear hS2 hb2 hbe hlt hnw hsz1
      go_simp
      refine hK _ _ HS3.out ?_
      clear hK K
      simp only [Act.put, List.setIfInBounds_toArray, List.set_cons_zero, List.set_cons_succ]
      refine at_take 9 (v := ?_) rfl (by decide) (by kernel_rfl) (by kernel_rfl) (fun _ _ _ h => h) (Or.inl ⟨by rfl, ?_⟩) HS3.out ?_
      rotate_left
      · intro w' hSw; (try dsimp only at hSw); go_simp; (try with_reducible rfl)
      simp only [Act.put, List.setIfInBounds_toArray, List.set_cons_zero, List.set_cons_succ]
      generalize W1.heap.size = q at HQ HSC ⊢
      refine at_tail rfl (by kernel_rfl) ?_
      simp only [List.drop_succ_cons, List.drop_zero]
      obtain ⟨r0, r1, r2, r3, r4, rf⟩ := cells5f HQ.out
      have f0 := rf 0
      have f1 := rf 1
      have f2 := rf 2
      have f3 := rf 3
      have f4 := rf 4
      clear rf
      go_wp2_with fail
      go_meet
      exact HSC.out
  case rest =>
    obtain ⟨q, gd, rfl, hq, hsd, hq1, hgd1, hqg, hbc⟩ := hcut
    have hgz : g + 2 = W1.heap.size := by have := HSZ.out; have := HGG.out; omega
    have HGc := Lib.hid ((hbc.block g (by omega)).trans HG1.out)
    have HRc := Lib.hid ((hbc.block (g + 1) (by omega)).trans HG2.out)
    have HBc := Lib.hid (HB1.out.trans (hbc.mono (by have := HSZ.out; omega)))
    have hqc := rlt_of_heapP hq
    have hgdc := OR.lt hsd _ rfl
    have hsc := hbc.size
    have HQc := Lib.hid hq
    have HSD := Lib.hid hsd
    obtain ⟨c0, c1, c2, c3, c4⟩ := cells5 HGc.out
    obtain ⟨w3, hmk, hO, hB3, hz3⟩ := make_items wc (n + 2) (by omega)
    rw [show ((n + 2 : Nat) : Int) = (n : Int) + 2 from rfl] at hmk
    clear HSR HS HSe HBd hbc hq hsd
    go_wp2_with fail
    clear hmk c0 c1 c2 c3 c4
    have HB3 := Lib.hid hB3
    have hgi : wc.heap.size ≤ wc.heap.size := Nat.le_refl _
    have HR0 := Lib.hid (show RelSq w3 wc.heap.size n items (.int .i64 0) w3 from ⟨0, [], List.replicate (n + 2) zZ, Nat.zero_le _, rfl, hO, by simp, rfl, fun j hj => absurd hj (Nat.not_lt_zero j), fun z hz => (by cases hz), hz3, Chg.refl _ _⟩)
    clear hO hB3
    generalize hgg : wc.heap.size = gi at HR0 hz3 hqc hgdc hsc ⊢
    have HGI := Lib.hid hgg
    clear hgg hgi
    go_loopw [5] (fun v wr => RelSq w3 gi n items v wr) (fun v _ => n + 2 - (intOf v).toNat)
    case atStart => exact HR0.out
    case round =>
      clear HR0
      obtain ⟨k, zs, cur, hk, rfl, hO, hcl, hz, hE, hSp, hU, hC⟩ := hrel
      have HGr := Lib.hid ((hC.block g (by omega) (fun e => by omega)).trans ((HB3.out.block g (by have := HGI.out; omega)).trans HGc.out))
      obtain ⟨c0, c1, c2, c3, c4⟩ := cells5 HGr.out
      have hbr : Below w.heap.size w wr := HBc.out.trans (((HB3.out.mono (by have := HGI.out; have := HGG.out; omega)).trans (hC.below (by have := HGG.out; omega) (fun j e => by have := HGG.out; omega))))
      have HBR := Lib.hid hbr
      by_cases hk2 : k < n + 2
      · have hJ := Lib.hid hk2
        have hkI : (k : Int) < (n : Int) + 2 := by omega
        obtain ⟨ck, hck⟩ : ∃ ck, cur[k]? = some ck := ⟨_, List.getElem?_eq_getElem (by omega)⟩
        have HFZ := Lib.hid fun (w' : World) (h : Below wr.heap.size wr w') => (show w'.frozen? ⟨gi, k * 4, none⟩ = false ∧ w'.frozen? ⟨gi, k * 4 + 1, none⟩ = false ∧ w'.frozen? ⟨gi, k * 4 + 2, none⟩ = false ∧ w'.frozen? ⟨gi, k * 4 + 3, none⟩ = false ∧ (∃ u, w'.cell? ⟨gi, k * 4, none⟩ = some u) ∧ (∃ u, w'.cell? ⟨gi, k * 4 + 1, none⟩ = some u) ∧ (∃ u, w'.cell? ⟨gi, k * 4 + 2, none⟩ = some u) ∧ (∃ u, w'.cell? ⟨gi, k * 4 + 3, none⟩ = some u) from by
          have hO2 := hO.chg (F := fun _ => False) (Chg.of_below h) (fun _ _ f => f)
          obtain ⟨_, e0, k0, f0⟩ := hO2.cell (cellsZ_get hck 0 _ rfl)
          obtain ⟨_, e1, k1, f1⟩ := hO2.cell (cellsZ_get hck 1 _ rfl)
          obtain ⟨_, e2, k2, f2⟩ := hO2.cell (cellsZ_get hck 2 _ rfl)
          obtain ⟨_, e3, k3, f3⟩ := hO2.cell (cellsZ_get hck 3 _ rfl)
          cases e0; cases e1; cases e2; cases e3
          exact ⟨f0, f1, f2, f3, ⟨_, k0⟩, ⟨_, k1⟩, ⟨_, k2⟩, ⟨_, k3⟩⟩)
        by_cases hkn : k < n
        · obtain ⟨x, hx⟩ : ∃ x, items[k]? = some x := ⟨_, List.getElem?_eq_getElem (by rw [HN.out]; exact hkn)⟩
          obtain ⟨b, off, ka, kc, va, vc, rfl, hbl, hit⟩ := ((HIT.out wr hbr).at hx)
          obtain ⟨d0, d1, d2, d3, hks, hvs, hch, hsz⟩ := hit
          have hbw : b < wr.heap.size := by have := hbr.size; omega
          have HSK := Lib.hid (spare_any ka kc x.key (Nat.le_trans hks.2.2.1 (by decide)) wr.drew (hks.1.below (Below.refl _ _).drew))
          have HSV := Lib.hid fun w1 (h : Below wr.heap.size wr w1) => spare_any va vc x.value (Nat.le_trans hvs.2.2.1 (by decide)) w1 (hvs.1.below h)
          unfold NewSpare at HSK HSV
          have Hnx := Lib.hid fun (w4 : World) (kb vb : Nat) (i : Value) hb hk1 hv1 hkv => relSq_item (W := w3) (wr := wr) (w3 := w4) (gi := gi) (kb := kb) (vb := vb) (i := i) HN.out hx hO hcl hz hE hSp hU hC hb hk1 hv1 hkv hks.2.2.1 hvs.2.2.1 hch hsz
          obtain ⟨key, value, ch, sz⟩ := x
          simp only at d0 d1 d2 d3 HSK HSV Hnx
          obtain ⟨kl, hkl⟩ : ∃ kl, key.length = kl := ⟨_, rfl⟩
          obtain ⟨vl, hvl⟩ : ∃ vl, value.length = vl := ⟨_, rfl⟩
          simp only [hkl] at d0 HSK Hnx
          simp only [hvl] at d1 HSV Hnx
          have HS := Lib.hid fun w1 (h : Below wr.heap.size wr w1) => (show (fun w' : World => w'.cell? ⟨g, 2, none⟩ = some (.slice (some ⟨b, off, none⟩) n ic) ∧ w'.cell? ⟨b, off + k * 4, none⟩ = some (.slice ka kl kc) ∧ w'.cell? ⟨b, off + k * 4 + 1, none⟩ = some (.slice va vl vc) ∧ w'.cell? ⟨b, off + k * 4 + 2, none⟩ = some (.int .i64 ch) ∧ w'.cell? ⟨b, off + k * 4 + 3, none⟩ = some (.int .i64 sz)) w1 from
            ⟨(h.cell (p := ⟨g, 2, none⟩) (rlt_of_heapP HGr.out)).trans c2, (h.cell (p := ⟨b, off + k * 4, none⟩) hbw).trans d0, (h.cell (p := ⟨b, off + k * 4 + 1, none⟩) hbw).trans d1, (h.cell (p := ⟨b, off + k * 4 + 2, none⟩) hbw).trans d2, (h.cell (p := ⟨b, off + k * 4 + 3, none⟩) hbw).trans d3⟩)
          have HBd := Lib.hid (show Below wr.heap.size wr wr.drew from (Below.refl wr.heap.size wr).drew)
          have HSe := Lib.hid (HS.out _ HBd.out)
          clear hO hcl hz hE hSp hU hC hbr hck hx hks hvs hch hsz hkl hvl d0 d1 d2 d3
          go_wp2_with fail
          refine wp_region_E (fun w' : World => w'.cell? ⟨g, 2, none⟩ = some (.slice (some ⟨b, off, none⟩) n ic) ∧ w'.cell? ⟨b, off + k * 4, none⟩ = some (.slice ka kl kc) ∧ w'.cell? ⟨b, off + k * 4 + 1, none⟩ = some (.slice va vl vc) ∧ w'.cell? ⟨b, off + k * 4 + 2, none⟩ = some (.int .i64 ch) ∧ w'.cell? ⟨b, off + k * 4 + 3, none⟩ = some (.int .i64 sz)) 29 (by kernel_rfl) (by kernel_rfl) ?_
          change At _ _ _ _ _ _ 31 #[false, false, false, false, false, false, false, false, false, false, false, false, false, false, false, false, false, false, false, false, false, false, false, false, false, false, false, false, false, false, false] _ _
          refine at_take 0 (v := ?_) rfl (by decide) (by kernel_rfl) (by kernel_rfl) (fun _ _ _ h => h) (Or.inl ⟨by rfl, ?_⟩) HSe.out ?_
          rotate_left
          · intro w' hSw; (try dsimp only at hSw); go_simp; (try with_reducible rfl)
          simp only [Act.put, List.setIfInBounds_toArray, List.set_cons_zero, List.set_cons_succ]
          refine at_take 1 (v := ?_) rfl (by decide) (by kernel_rfl) (by kernel_rfl) (fun _ _ _ h => h) (Or.inl ⟨by rfl, ?_⟩) HSe.out ?_
          rotate_left
          · intro w' hSw; (try dsimp only at hSw); go_simp; (try with_reducible rfl)
          simp only [Act.put, List.setIfInBounds_toArray, List.set_cons_zero, List.set_cons_succ]
          refine at_take 2 (v := ?_) rfl (by decide) (by kernel_rfl) (by kernel_rfl) (fun _ _ _ h => h) (Or.inl ⟨by rfl, ?_⟩) HSe.out ?_
          rotate_left
          · intro w' hSw; (try dsimp only at hSw); go_simp; (try with_reducible rfl)
          simp only [Act.put, List.setIfInBounds_toArray, List.set_cons_zero, List.set_cons_succ]
          refine at_take 3 (v := ?_) rfl (by decide) (by kernel_rfl) (by kernel_rfl) (fun _ _ _ h => h) (Or.inl ⟨by rfl, ?_⟩) HSe.out ?_
          rotate_left
          · intro w' hSw; (try dsimp only at hSw); go_simp; (try with_reducible rfl)
          simp only [Act.put, List.setIfInBounds_toArray, List.set_cons_zero, List.set_cons_succ]
          refine at_take 4 (v := ?_) rfl (by decide) (by kernel_rfl) (by kernel_rfl) (fun _ _ _ h => h) (Or.inl ⟨by rfl, ?_⟩) HSe.out ?_
          rotate_left
          · intro w' hSw; (try dsimp only at hSw); go_simp; (try with_reducible rfl)
          simp only [Act.put, List.setIfInBounds_toArray, List.set_cons_zero, List.set_cons_succ]
          refine at_take 5 (v := ?_) rfl (by decide) (by kernel_rfl) (by kernel_rfl) (fun _ _ _ h => h) (Or.inl ⟨by rfl, ?_⟩) HSe.out ?_
          rotate_left
          · intro w' hSw; (try dsimp only at hSw); go_simp; (try with_reducible rfl)
          simp only [Act.put, List.setIfInBounds_toArray, List.set_cons_zero, List.set_cons_succ]
          refine at_take 6 (v := ?_) rfl (by decide) (by kernel_rfl) (by kernel_rfl) (fun _ _ _ h => h) (Or.inl ⟨by rfl, ?_⟩) HSe.out ?_
          rotate_left
          · intro w' hSw; (try dsimp only at hSw); go_simp; (try with_reducible rfl)
          simp only [Act.put, List.setIfInBounds_toArray, List.set_cons_zero, List.set_cons_succ]
          refine at_take 7 (v := ?_) rfl (by decide) (by kernel_rfl) (by kernel_rfl) (fun _ _ _ h => h) (Or.inl ⟨by rfl, ?_⟩) HSe.out ?_
          rotate_left
          · intro w' hSw; (try dsimp only at hSw); go_simp; (try with_reducible rfl)
          simp only [Act.put, List.setIfInBounds_toArray, List.set_cons_zero, List.set_cons_succ]
          refine at_take 9 (v := ?_) rfl (by decide) (by kernel_rfl) (by kernel_rfl) (fun _ _ _ h => h) (Or.inl ⟨by rfl, ?_⟩) HSe.out ?_
          rotate_left
          · intro w' hSw; (try dsimp only at hSw); go_simp; (try with_reducible rfl)
          simp only [Act.put, List.setIfInBounds_toArray, List.set_cons_zero, List.set_cons_succ]
          refine at_take 10 (v := ?_) rfl (by decide) (by kernel_rfl) (by kernel_rfl) (fun _ _ _ h => h) (Or.inl ⟨by rfl, ?_⟩) HSe.out ?_
          rotate_left
          · intro w' hSw; (try dsimp only at hSw); go_simp; (try with_reducible rfl)
          simp only [Act.put, List.setIfInBounds_toArray, List.set_cons_zero, List.set_cons_succ]
          refine at_take 11 (v := ?_) rfl (by decide) (by kernel_rfl) (by kernel_rfl) (fun _ _ _ h => h) (Or.inl ⟨by rfl, ?_⟩) HSe.out ?_
          rotate_left
          · intro w' hSw; (try dsimp only at hSw); go_simp; (try with_reducible rfl)
          simp only [Act.put, List.setIfInBounds_toArray, List.set_cons_zero, List.set_cons_succ]
          refine at_take 12 (v := ?_) rfl (by decide) (by kernel_rfl) (by kernel_rfl) (fun _ _ _ h => h) (Or.inl ⟨by rfl, ?_⟩) HSe.out ?_
          rotate_left
          · intro w' hSw; (try dsimp only at hSw); go_simp; (try with_reducible rfl)
          simp only [Act.put, List.setIfInBounds_toArray, List.set_cons_zero, List.set_cons_succ]
          refine at_take 13 (v := ?_) rfl (by decide) (by kernel_rfl) (by kernel_rfl) (fun _ _ _ h => h) (Or.inl ⟨by rfl, ?_⟩) HSe.out ?_
          rotate_left
          · intro w' hSw; (try dsimp only at hSw); go_simp; (try with_reducible rfl)
          simp only [Act.put, List.setIfInBounds_toArray, List.set_cons_zero, List.set_cons_succ]
          refine at_take 14 (v := ?_) rfl (by decide) (by kernel_rfl) (by kernel_rfl) (fun _ _ _ h => h) (Or.inl ⟨by rfl, ?_⟩) HSe.out ?_
          rotate_left
          · intro w' hSw; (try dsimp only at hSw); go_simp; (try with_reducible rfl)
          simp only [Act.put, List.setIfInBounds_toArray, List.set_cons_zero, List.set_cons_succ]
          refine at_take 16 (v := ?_) rfl (by decide) (by kernel_rfl) (by kernel_rfl) (fun _ _ _ h => h) (Or.inl ⟨by rfl, ?_⟩) HSe.out ?_
          rotate_left
          · intro w' hSw; (try dsimp only at hSw); go_simp; (try with_reducible rfl)
          simp only [Act.put, List.setIfInBounds_toArray, List.set_cons_zero, List.set_cons_succ]
          refine at_take 17 (v := ?_) rfl (by decide) (by kernel_rfl) (by kernel_rfl) (fun _ _ _ h => h) (Or.inl ⟨by rfl, ?_⟩) HSe.out ?_
          rotate_left
          · intro w' hSw; (try dsimp only at hSw); go_simp; (try with_reducible rfl)
          simp only [Act.put, List.setIfInBounds_toArray, List.set_cons_zero, List.set_cons_succ]
          refine at_take 18 (v := ?_) rfl (by decide) (by kernel_rfl) (by kernel_rfl) (fun _ _ _ h => h) (Or.inl ⟨by rfl, ?_⟩) HSe.out ?_
          rotate_left
          · intro w' hSw; (try dsimp only at hSw); go_simp; (try with_reducible rfl)
          simp only [Act.put, List.setIfInBounds_toArray, List.set_cons_zero, List.set_cons_succ]
          refine at_take 19 (v := ?_) rfl (by decide) (by kernel_rfl) (by kernel_rfl) (fun _ _ _ h => h) (Or.inl ⟨by rfl, ?_⟩) HSe.out ?_
          rotate_left
          · intro w' hSw; (try dsimp only at hSw); go_simp; (try with_reducible rfl)
          simp only [Act.put, List.setIfInBounds_toArray, List.set_cons_zero, List.set_cons_succ]
          refine at_take 20 (v := ?_) rfl (by decide) (by kernel_rfl) (by kernel_rfl) (fun _ _ _ h => h) (Or.inl ⟨by rfl, ?_⟩) HSe.out ?_
          rotate_left
          · intro w' hSw; (try dsimp only at hSw); go_simp; (try with_reducible rfl)
          simp only [Act.put, List.setIfInBounds_toArray, List.set_cons_zero, List.set_cons_succ]
          refine at_take 21 (v := ?_) rfl (by decide) (by kernel_rfl) (by kernel_rfl) (fun _ _ _ h => h) (Or.inl ⟨by rfl, ?_⟩) HSe.out ?_
          rotate_left
          · intro w' hSw; (try dsimp only at hSw); go_simp; (try with_reducible rfl)
          simp only [Act.put, List.setIfInBounds_toArray, List.set_cons_zero, List.set_cons_succ]
          refine at_take 22 (v := ?_) rfl (by decide) (by kernel_rfl) (by kernel_rfl) (fun _ _ _ h => h) (Or.inl ⟨by rfl, ?_⟩) HSe.out ?_
          rotate_left
          · intro w' hSw; (try dsimp only at hSw); go_simp; (try with_reducible rfl)
          simp only [Act.put, List.setIfInBounds_toArray, List.set_cons_zero, List.set_cons_succ]
          refine at_take 23 (v := ?_) rfl (by decide) (by kernel_rfl) (by kernel_rfl) (fun _ _ _ h => h) (Or.inl ⟨by rfl, ?_⟩) HSe.out ?_
          rotate_left
          · intro w' hSw; (try dsimp only at hSw); go_simp; (try with_reducible rfl)
          simp only [Act.put, List.setIfInBounds_toArray, List.set_cons_zero, List.set_cons_succ]
          refine at_take 24 (v := ?_) rfl (by decide) (by kernel_rfl) (by kernel_rfl) (fun _ _ _ h => h) (Or.inl ⟨by rfl, ?_⟩) HSe.out ?_
          rotate_left
          · intro w' hSw; (try dsimp only at hSw); go_simp; (try with_reducible rfl)
          simp only [Act.put, List.setIfInBounds_toArray, List.set_cons_zero, List.set_cons_succ]
          refine at_take 25 (v := ?_) rfl (by decide) (by kernel_rfl) (by kernel_rfl) (fun _ _ _ h => h) (Or.inl ⟨by rfl, ?_⟩) HSe.out ?_
          rotate_left
          · intro w' hSw; (try dsimp only at hSw); go_simp; (try with_reducible rfl)
          simp only [Act.put, List.setIfInBounds_toArray, List.set_cons_zero, List.set_cons_succ]
          refine at_take 26 (v := ?_) rfl (by decide) (by kernel_rfl) (by kernel_rfl) (fun _ _ _ h => h) (Or.inl ⟨by rfl, ?_⟩) HSe.out ?_
          rotate_left
          · intro w' hSw; (try dsimp only at hSw); go_simp; (try with_reducible rfl)
          simp only [Act.put, List.setIfInBounds_toArray, List.set_cons_zero, List.set_cons_succ]
          refine at_take 27 (v := ?_) rfl (by decide) (by kernel_rfl) (by kernel_rfl) (fun _ _ _ h => h) (Or.inl ⟨by rfl, ?_⟩) HSe.out ?_
          rotate_left
          · intro w' hSw; (try dsimp only at hSw); go_simp; (try with_reducible rfl)
          simp only [Act.put, List.setIfInBounds_toArray, List.set_cons_zero, List.set_cons_succ]
          refine at_only 8 rfl (by decide) (by kernel_rfl) (by rfl) ?_
          intro K hK
          go_simp
          refine HSK.out.mono ?_
          rintro _ w4 ⟨rfl, hS4, hb4⟩
          have HB4 := Lib.hid (HBd.out.trans (hb4.mono HBd.out.size))
          have HS4 := Lib.hid (HS.out w4 HB4.out)
          have HP4 := Lib.hid hS4
          clear hS4 hb4
          go_simp
          refine hK _ _ HS4.out ?_
          clear hK K
          simp only [Act.put, List.setIfInBounds_toArray, List.set_cons_zero, List.set_cons_succ]
          refine at_only 15 rfl (by decide) (by kernel_rfl) (by rfl) ?_
          intro K hK
          go_simp
          refine (HSV.out w4 HB4.out).mono ?_
          rintro _ w5 ⟨rfl, hS5, hb5⟩
          have HB5 := Lib.hid (HB4.out.trans (hb5.mono HB4.out.size))
          have HS5 := Lib.hid (HS.out w5 HB5.out)
          have Hfin := Lib.hid fun i => Hnx.out w5 wr.heap.size w4.heap.size i HB5.out (HP4.out.below hb5) hS5 ⟨Nat.le_refl _, OR.lt HP4.out _ rfl⟩
          clear hS5 hb5
          go_simp
          refine hK _ _ HS5.out ?_
          clear hK K
          simp only [Act.put, List.setIfInBounds_toArray, List.set_cons_zero, List.set_cons_succ]
          refine at_take 28 (v := ?_) rfl (by decide) (by kernel_rfl) (by kernel_rfl) (fun _ _ _ h => h) (Or.inl ⟨by rfl, ?_⟩) HS5.out ?_
          rotate_left
          · intro w' hSw; (try dsimp only at hSw); go_simp; (try with_reducible rfl)
          simp only [Act.put, List.setIfInBounds_toArray, List.set_cons_zero, List.set_cons_succ]
          refine at_tail rfl (by kernel_rfl) ?_
          simp only [List.drop_succ_cons, List.drop_zero]
          obtain ⟨f0, f1, f2, f3, ⟨u0, k0⟩, ⟨u1, k1⟩, ⟨u2, k2⟩, ⟨u3, k3⟩⟩ := HFZ.out w5 HB5.out
          go_wp2_with fail
          exact ⟨Hfin.out _ (by go_num), meas_upS hJ.out⟩
        · have Hnx := Lib.hid fun (i : Value) => relSq_mark (W := w3) (wr := wr) (gi := gi) (k := k) (i := i) HN.out (by omega) hk2 hO hcl hz hE hSp hU hC
          obtain ⟨f0, f1, f2, f3, ⟨u0, k0⟩, ⟨u1, k1⟩, ⟨u2, k2⟩, ⟨u3, k3⟩⟩ := HFZ.out wr (Below.refl _ _)
          clear hO hcl hz hE hSp hU hC hbr hck
          go_wp2_with fail
          exact ⟨Hnx.out _ (by go_num), meas_upS hJ.out⟩
      · have hkI : ¬ (k : Int) < (n : Int) + 2 := by omega
        obtain rfl : k = n + 2 := by omega
        obtain ⟨hcur, hzz⟩ := relSq_end HN.out hcl hz hE
        rw [hcur] at hO
        have hqr := (hC.block q (by omega) (fun e => by omega)).trans ((HB3.out.block q (by have := HGI.out; omega)).trans HQc.out)
        have hrr := (hC.block (g + 1) (by omega) (fun e => by omega)).trans ((HB3.out.block (g + 1) (by have := HGI.out; omega)).trans HRc.out)
        have hsd := (HSD.out.below HB3.out).chg hC (fun e => by omega)
        have hqz : q ≠ g + 1 := by omega
        have hqz2 : g + 1 ≠ q := by omega
        obtain ⟨x0, x1, x2, x3, x4, xf⟩ := cells5f hqr
        obtain ⟨r0, r1, r2, r3, r4, rf⟩ := cells5f hrr
        have xf2 := xf 2
        have f0 := rf 0
        have f1 := rf 1
        have f2 := rf 2
        have f3 := rf 3
        have f4 := rf 4
        have HFin := Lib.hid fun (w9 : World) (hC9 : Chg (fun j => j = q ∨ j = g + 1) wr w9) => (show NewSpP ⟨kd, lv, items, data, nx⟩ w (.returned (.agg #[.int .i64 kd, .int .i64 lv, .slice (some ⟨gi, 0, none⟩) n (n + 2), .slice (some ⟨gd, 0, none⟩) dl (dl + 64), .int .i64 nx])) w9 from by
          have hgw := HGG.out
          have hgie := HGI.out
          have hszW := HSZ.out
          refine ⟨gi, gd, zs, by unfold pgv; simp only [HN.out, HDL.out], ⟨hzz, ?_, fun z hm => ?_, hsd.chg hC9 (fun e => by rcases e with e | e <;> omega), HOK.out.2.2.2, ⟨by omega, by omega⟩, hU.mono hC9.size, HOK.out.1, HOK.out.2.1, HOK.out.2.2.1⟩, HBR.out.trans (hC9.below HBR.out.size (fun j e => by omega))⟩
          · simp only [HN.out]
            exact hO.chg hC9 (fun j e f => by have hj : gi = j := Option.some.inj e; omega)
          · have h1 := mem_adrs hm
            exact (hSp z hm).chg hC9 (fun j e f => by have := hU.mem _ h1.1 j e; omega) (fun j e f => by have := hU.mem _ h1.2 j e; omega))
        clear hO hcl hz hE hSp hU hC hbr hcur hzz hqr hrr hsd xf rf hk2
        go_wp2_with fail
        refine bodyPost_ret (v := .agg #[.int .i64 kd, .int .i64 lv, .slice (some ⟨gi, 0, none⟩) n (n + 2), .slice (some ⟨gd, 0, none⟩) dl (dl + 64), .int .i64 nx]) (by simp [results, Try.results13, go_sem, r0, r1, r2, r3, r4, hqz, hqz2]) rfl ?_
        refine HFin.out _ ?_
        exact ((Chg.refl (fun j => j = q ∨ j = g + 1) _).setCell ⟨q, 2, none⟩ _ (fun _ => .inl rfl)).trans ((chg_five _ (g + 1) _ _ _ _ _)) (fun j _ e => .inr e)
end Go.Proofs.Ytkjgncmbhkhbnaa
namespace Go.Proofs.Ytkjgncmbhkhbnaa
open Go.RowKit
set_option linter.unusedVariables false
set_option maxRecDepth 100000

/-- KeptPage's two boxes -/
structure KZ (W : World) (vs us : Array Value) (w : World) : Prop where
  one : w.heap[W.heap.size]? = some (.cells vs 27)
  two : w.heap[W.heap.size + 1]? = some (.cells us 27)
  bel : Below W.heap.size W w
  siz : W.heap.size + 2 ≤ w.heap.size
theorem KZ.below {W w w2 : World} {vs us : Array Value} (h : KZ W vs us w) (hb : Below w.heap.size w w2) : KZ W vs us w2 :=
  ⟨(hb.block _ (by have := h.siz; omega)).trans h.one, (hb.block _ (by have := h.siz; omega)).trans h.two, h.bel.trans (hb.mono h.bel.size), Nat.le_trans h.siz hb.size⟩
theorem KZ.start (W : World) (vs us : Array Value) : KZ W vs us ((W.alloc (.cells vs 27)).alloc (.cells us 27)) := by
  have h1 := one_below W (.cells vs 27)
  have h2 := one_below (W.alloc (.cells vs 27)) (.cells us 27)
  have hs : (W.alloc (.cells vs 27)).heap.size = W.heap.size + 1 := by simp
  refine ⟨(h2.block _ (by omega)).trans (heap_alloc_new W _), ?_, h1.trans (h2.mono h1.size), by simp⟩
  rw [← hs]; exact heap_alloc_new _ _
theorem meas_upK {n j : Nat} (h : j < n + 2) : n + 2 - (intOf (.int .i64 ((j : Int) + 1))).toNat < n + 2 - (intOf (.int .i64 (j : Int))).toNat := by simp only [intOf]; omega
theorem below_nextK {W w' w1 : World} (h : Below W.heap.size W w') (h1 : Below w'.heap.size w' w1) : Below W.heap.size W w1 := h.trans (h1.mono h.size)
def RelKp (W : World) (n : Nat) (v : Value) (wr : World) : Prop := ∃ k : Nat, k ≤ n + 2 ∧ v = .int .i64 k ∧ Below W.heap.size W wr
set_option maxHeartbeats 4000000 in
theorem keptPage_any (p : PP) (lo gi gd : Nat) (zs : List (PI × TA)) (ja : Option Addr) (jc : Nat) (ea : Option Addr) (ec : Nat) (w : World) (hs : SpP lo w p gi gd zs) (hq : PgAt w.heap.size w p ja jc ea ec) (hn : p.items.length ≤ 65536) :
    Calls Try.prog 18 #[pgv p (some ⟨gi, 0, none⟩) (p.items.length + 2) (some ⟨gd, 0, none⟩) (p.data.length + 64), pgv p ja jc ea ec] w fun x w' => x = .returned (.bool true) ∧ Below w.heap.size w w' := by
  have HEQ := Lib.hid fun w1 (h : Below w.heap.size w w1) => eqPage_any p p (some ⟨gi, 0, none⟩) (p.items.length + 2) (some ⟨gd, 0, none⟩) (p.data.length + 64) ja jc ea ec w1 ((hs.below h).pgAt (by omega)) ((hq.below h).mono h.size)
  have HKD := Lib.hid fun w1 (h : Below w.heap.size w w1) => kept_any gd ea ec p.data (Nat.le_trans hs.dl (by decide)) w1 (hs.below h).dat (hq.data.below h).1
  have HSP := Lib.hid fun w1 (h : Below w.heap.size w w1) => hs.below h
  have HIT := Lib.hid fun w1 (h : Below w.heap.size w w1) => (hq.its.below h)
  have hzl : zs.length = p.items.length := by rw [← hs.zp, List.length_map]
  have HZP := Lib.hid hs.zp
  unfold EqA at HEQ
  unfold pgv at HEQ ⊢
  simp only [decide_true] at HEQ
  obtain ⟨kd, lv, items, data, nx⟩ := p
  simp only at HEQ HKD HIT hzl HZP hn ⊢
  obtain ⟨n, hnn⟩ : ∃ n, items.length = n := ⟨_, rfl⟩
  have HNN := Lib.hid hnn
  have HOW := Lib.hid fun w1 (h : Below w.heap.size w w1) => (show OR eIt w1 (some ⟨gi, 0, none⟩) (n + 2) (n + 2) (cellsZ (marked zs n)) by have := (HSP.out w1 h).own; simp only [hnn] at this; exact this)
  simp only [hnn] at HEQ hzl hn ⊢
  generalize data.length = dl at *
  have HZL := Lib.hid hzl
  have HZ := Lib.hid (KZ.start w #[.int .i64 kd, .int .i64 lv, .slice (some ⟨gi, 0, none⟩) n (n + 2), .slice (some ⟨gd, 0, none⟩) dl (dl + 64), .int .i64 nx] #[.int .i64 kd, .int .i64 lv, .slice ja n jc, .slice ea dl ec, .int .i64 nx])
  clear hs hq hnn hzl
  go_enter Try.func18, Try.ntmps18
  go_wp2_with fail
  generalize (w.alloc _).alloc _ = W2 at HZ ⊢
  obtain ⟨c0, c1, c2, c3, c4⟩ := cells5 HZ.out.one
  obtain ⟨e0, e1, e2, e3, e4⟩ := cells5 HZ.out.two
  go_wp2_with fail
  refine (HEQ.out _ HZ.out.bel).mono ?_
  rintro _ w3 ⟨rfl, hb3⟩
  have HZ3 := Lib.hid (HZ.out.below hb3)
  clear hb3 HEQ HZ c0 c1 c2 c3 c4 e0 e1 e2 e3 e4
  obtain ⟨c0, c1, c2, c3, c4⟩ := cells5 HZ3.out.one
  obtain ⟨e0, e1, e2, e3, e4⟩ := cells5 HZ3.out.two
  go_wp2_with fail
  refine (HKD.out _ HZ3.out.bel).mono ?_
  rintro _ w4 ⟨rfl, hb4⟩
  have HZ4 := Lib.hid (HZ3.out.below hb4)
  clear hb4 HKD HZ3 c0 c1 c2 c3 c4 e0 e1 e2 e3 e4
  obtain ⟨c0, c1, c2, c3, c4⟩ := cells5 HZ4.out.one
  obtain ⟨e0, e1, e2, e3, e4⟩ := cells5 HZ4.out.two
  have hle : (n : Int) + 2 ≤ ((n + 2 : Nat) : Int) := by omega
  go_wp2_with fail
  clear c0 c1 c2 c3 c4 e0 e1 e2 e3 e4
  go_loopw [6] (fun v wr => RelKp w4 n v wr) (fun v _ => n + 2 - (intOf v).toNat)
  case atStart => exact ⟨0, Nat.zero_le _, rfl, Below.refl _ _⟩
  case round =>
    obtain ⟨k, hk, rfl, hB⟩ := hrel
    have HZr := Lib.hid (HZ4.out.below hB)
    have HB := Lib.hid hB
    obtain ⟨c0, c1, c2, c3, c4⟩ := cells5 HZr.out.one
    obtain ⟨e0, e1, e2, e3, e4⟩ := cells5 HZr.out.two
    by_cases hk2 : k < n + 2
    · have HJ := Lib.hid hk2
      have hkI : (k : Int) < (n : Int) + 2 := by omega
      by_cases hkn : k < n
      · obtain ⟨x, hx⟩ : ∃ x, items[k]? = some x := ⟨_, List.getElem?_eq_getElem (by rw [HNN.out]; exact hkn)⟩
        obtain ⟨z, hz⟩ : ∃ z, zs[k]? = some z := ⟨_, List.getElem?_eq_getElem (by rw [HZL.out]; exact hkn)⟩
        have hzx : z.1 = x := by
          have h1 : (zs.map (·.1))[k]? = some z.1 := by rw [List.getElem?_map, hz]; rfl
          rw [HZP.out, hx] at h1
          exact (Option.some.inj h1).symm
        obtain ⟨b, off, ka, kc, va, vc, rfl, hbl, hit⟩ := (HIT.out wr HZr.out.bel).at hx
        obtain ⟨d0, d1, -, -, hks, hvs, -, -⟩ := hit
        have hSp := HSP.out wr HZr.out.bel
        obtain ⟨gg2, off2, eg, hgl, z0, z1, -, -⟩ := hSp.z.at hz
        cases eg
        obtain ⟨kb, vb, ez, s1, s2, l1, l2, -, -⟩ := hSp.obs z (List.mem_of_getElem? hz)
        obtain ⟨x', t⟩ := z
        simp only at hzx ez s1 s2 l1 l2 z0 z1
        subst hzx ez
        simp only [Nat.zero_add] at z0 z1
        have hbw : b < wr.heap.size := by have := HZr.out.bel.size; omega
        have HK1 := Lib.hid fun w1 (h : Below wr.heap.size wr w1) => kept_any kb ka kc x'.key (Nat.le_trans l1 (by decide)) w1 (s1.below h) (hks.1.below h)
        have HK2 := Lib.hid fun w1 (h : Below wr.heap.size wr w1) => kept_any vb va vc x'.value (Nat.le_trans l2 (by decide)) w1 (s2.below h) (hvs.1.below h)
        generalize x'.key.length = kl at *
        generalize x'.value.length = vl at *
        obtain ⟨g, hgg⟩ : ∃ g, w.heap.size = g := ⟨_, rfl⟩
        have hgw : g + 1 < wr.heap.size := by have := HZr.out.siz; omega
        have Hk := Lib.hid fun (w' : World) (h : Below wr.heap.size wr w') => (show w'.cell? ⟨g, 2, none⟩ = some (.slice (some ⟨gi, 0, none⟩) n (n + 2)) ∧ w'.cell? ⟨g + 1, 2, none⟩ = some (.slice (some ⟨b, off, none⟩) n jc) ∧ w'.cell? ⟨gi, k * 4, none⟩ = some (.slice (some ⟨kb, 0, none⟩) kl (kl + 64)) ∧ w'.cell? ⟨gi, k * 4 + 1, none⟩ = some (.slice (some ⟨vb, 0, none⟩) vl (vl + 64)) ∧ w'.cell? ⟨b, off + k * 4, none⟩ = some (.slice ka kl kc) ∧ w'.cell? ⟨b, off + k * 4 + 1, none⟩ = some (.slice va vl vc) ∧ Below wr.heap.size wr w' from by
          rw [hgg] at c2 e2
          exact ⟨(h.cell (p := ⟨g, 2, none⟩) (by show g < _; omega)).trans c2, (h.cell (p := ⟨g + 1, 2, none⟩) hgw).trans e2, (h.cell (p := ⟨gi, k * 4, none⟩) hgl).trans z0, (h.cell (p := ⟨gi, k * 4 + 1, none⟩) hgl).trans z1, (h.cell (p := ⟨b, off + k * 4, none⟩) hbw).trans d0, (h.cell (p := ⟨b, off + k * 4 + 1, none⟩) hbw).trans d1, h⟩)
        simp only [hgg] at c0 c1 c2 c3 c4 e0 e1 e2 e3 e4 ⊢
        clear hx hz hks hvs hSp s1 s2 hB hgl d0 d1 z0 z1 hgg
        go_wp2_with fail
        go_region_held3 (fun w' => w'.cell? ⟨g, 2, none⟩ = some (.slice (some ⟨gi, 0, none⟩) n (n + 2)) ∧ w'.cell? ⟨g + 1, 2, none⟩ = some (.slice (some ⟨b, off, none⟩) n jc) ∧ w'.cell? ⟨gi, k * 4, none⟩ = some (.slice (some ⟨kb, 0, none⟩) kl (kl + 64)) ∧ w'.cell? ⟨gi, k * 4 + 1, none⟩ = some (.slice (some ⟨vb, 0, none⟩) vl (vl + 64)) ∧ w'.cell? ⟨b, off + k * 4, none⟩ = some (.slice ka kl kc) ∧ w'.cell? ⟨b, off + k * 4 + 1, none⟩ = some (.slice va vl vc) ∧ Below wr.heap.size wr w')
          (first
            | exact Hk.out _ (Below.drew (Below.refl _ _))
            | (refine Hk.out _ ?_; with_reducible assumption))
          (first
            | (go_at_call 19; go_split_ands; ((with_reducible refine (HK1.out _ (by with_reducible assumption)).mono ?_); rintro e v1 ⟨rfl, hc1⟩)
               have hbn : Below wr.heap.size wr v1 := below_nextK (by with_reducible assumption) hc1)
            | (go_at_call 19; go_split_ands; ((with_reducible refine (HK2.out _ (by with_reducible assumption)).mono ?_); rintro e v2 ⟨rfl, hc2⟩)
               have hbn2 : Below wr.heap.size wr v2 := below_nextK (by with_reducible assumption) hc2))
        have HBZ := Lib.hid (HB.out.trans (hbn2.mono HB.out.size))
        clear hbn hc1 hc2 hbn2 HK1 HK2 Hk
        go_wp2_with fail
        go_roundw
        case rel => exact ⟨k + 1, HJ.out, by go_num, HBZ.out⟩
        case measure => exact meas_upK HJ.out
      · have hm := (marked zs n)[k]?
        have hmk : (marked zs n)[k]? = some (mkZ k) := by
          unfold marked
          rw [List.getElem?_append_right (by rw [HZL.out]; omega), HZL.out]
          rcases (by omega : k = n ∨ k = n + 1) with rfl | rfl
          · simp
          · simp
        have hO := HOW.out wr HZr.out.bel
        obtain ⟨_, e', m0, -⟩ := hO.cell (cellsZ_get hmk 0 _ rfl)
        cases e'
        obtain ⟨_, e', m1, -⟩ := hO.cell (cellsZ_get hmk 1 _ rfl)
        cases e'
        obtain ⟨_, e', m2, -⟩ := hO.cell (cellsZ_get hmk 2 _ rfl)
        cases e'
        obtain ⟨_, e', m3, -⟩ := hO.cell (cellsZ_get hmk 3 _ rfl)
        cases e'
        simp only [mkZ, List.length_nil, Nat.add_zero] at m0 m1 m2 m3
        have hne : ((-5 - (k : Int)) != (-5 - (k : Int))) = false := by simp
        clear hO hm hmk hB
        go_wp2_with fail
        go_roundw
        case rel => exact ⟨k + 1, HJ.out, by go_num, HB.out⟩
        case measure => exact meas_upK HJ.out
    · have hkI : ¬ (k : Int) < (n : Int) + 2 := by omega
      have HF := Lib.hid (HZr.out.bel)
      clear hB
      go_wp2_with fail
      go_ret
      exact ⟨rfl, HF.out⟩
end Go.Proofs.Ytkjgncmbhkhbnaa
