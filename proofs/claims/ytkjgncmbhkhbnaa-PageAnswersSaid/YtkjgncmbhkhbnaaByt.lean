/- Bytes in memory: slices that are read, lists of bytes that the program made. -/
import Derived.Test.YtkjgncmbhkhbnaaChg
namespace Go.Proofs.Ytkjgncmbhkhbnaa
open Go.RowKit

/-- an ending that returns an integer -/
theorem ret_int {k : IntKind} {a b : Int} (h : a = b) : Ending.returned (.int k a) = .returned (.int k b) := by rw [h]
theorem add_none (b o i : Nat) : (⟨b, o, none⟩ : Addr).add i = ⟨b, o + i, none⟩ := by unfold Addr.add; split <;> simp_all

/-- a slice of bytes that is read: it is empty, or its cells hold these bytes -/
def Bts (w : World) (a : Option Addr) (bs : List UInt8) : Prop :=
  bs = [] ∨ ∃ b off, a = some ⟨b, off, none⟩ ∧ b < w.heap.size ∧ ∀ i, i < bs.length → w.cell? ⟨b, off + i, none⟩ = some (.int .u8 ((bs.getD i 0).toNat : Int))
theorem Bts.below {w w' : World} {a : Option Addr} {bs : List UInt8} (h : Bts w a bs) (hb : Below w.heap.size w w') : Bts w' a bs := by
  rcases h with h | ⟨b, off, h1, h2, h3⟩
  · exact .inl h
  · exact .inr ⟨b, off, h1, Nat.lt_of_lt_of_le h2 hb.size, fun i hi => (hb.cell (p := ⟨b, off + i, none⟩) h2).trans (h3 i hi)⟩
theorem Bts.chg {F : Nat → Prop} {w w' : World} {a : Option Addr} {bs : List UInt8} (h : Bts w a bs) (hc : Chg F w w') (hn : ∀ k, blk a = some k → ¬ F k) : Bts w' a bs := by
  rcases h with h | ⟨b, off, rfl, h2, h3⟩
  · exact .inl h
  · exact .inr ⟨b, off, rfl, Nat.lt_of_lt_of_le h2 hc.size, fun i hi => (hc.cell (p := ⟨b, off + i, none⟩) h2 (hn b rfl)).trans (h3 i hi)⟩
/-- a byte of a slice of bytes -/
theorem Bts.at {w : World} {a : Option Addr} {bs : List UInt8} (h : Bts w a bs) {k : Nat} (hk : k < bs.length) : ∃ b off, a = some ⟨b, off, none⟩ ∧ b < w.heap.size ∧ w.cell? ⟨b, off + k, none⟩ = some (.int .u8 ((bs.getD k 0).toNat : Int)) := by
  rcases h with rfl | ⟨b, off, h1, h2, h3⟩
  · simp at hk
  · exact ⟨b, off, h1, h2, h3 k hk⟩
theorem take_snoc {bs : List UInt8} {k : Nat} (h : k < bs.length) : bs.take (k + 1) = bs.take k ++ [bs.getD k 0] := by
  rw [List.take_succ_eq_append_getElem h, List.getD_eq_getElem?_getD, List.getElem?_eq_getElem h]; rfl

/-- bytes as cells -/
def cellsB (bs : List UInt8) : List Value := bs.map fun b => Value.int .u8 (b.toNat : Int)
theorem cellsB_length (bs : List UInt8) : (cellsB bs).length = bs.length := by simp [cellsB]
theorem cellsB_append (a b : List UInt8) : cellsB (a ++ b) = cellsB a ++ cellsB b := by simp [cellsB]
theorem cellsB_get {bs : List UInt8} {i : Nat} (h : i < bs.length) : (cellsB bs)[i]? = some (.int .u8 ((bs.getD i 0).toNat : Int)) := by
  simp [cellsB, List.getElem?_map, List.getElem?_eq_getElem h, List.getD_eq_getElem?_getD]
theorem cellsB_set (bs : List UInt8) (i : Nat) (b : UInt8) : (cellsB bs).set i (.int .u8 (b.toNat : Int)) = cellsB (bs.set i b) := by
  simp [cellsB, List.map_set]
theorem cellsB_one (bs : List UInt8) : ∀ u ∈ cellsB bs, u.oneCell' = true := by
  intro u hu
  simp only [cellsB, List.mem_map] at hu
  obtain ⟨b, _, rfl⟩ := hu
  rfl

def eB : Elt := { t := 25, e := 5, size := 1, bytes := 1, z := .int .u8 0, hu := Try.underlying25, hi := by kernel_rfl, hz := rfl, h0 := by decide }

/-- a list of bytes that the program made -/
def OB (w : World) (oa : Option Addr) (cap : Nat) (bs : List UInt8) : Prop := OR eB w oa cap bs.length (cellsB bs)
theorem OB.nil (w : World) : OB w none 0 [] := OR.nil eB w
theorem OB.lt {w : World} {oa : Option Addr} {cap : Nat} {bs : List UInt8} (h : OB w oa cap bs) : ∀ k, blk oa = some k → k < w.heap.size := OR.lt h
theorem OB.chg {F : Nat → Prop} {w w' : World} {oa : Option Addr} {cap : Nat} {bs : List UInt8} (h : OB w oa cap bs) (hc : Chg F w w') (hn : ∀ k, blk oa = some k → ¬ F k) : OB w' oa cap bs := OR.chg h hc hn
theorem OB.below {w w' : World} {oa : Option Addr} {cap : Nat} {bs : List UInt8} (h : OB w oa cap bs) (hb : Below w.heap.size w w') : OB w' oa cap bs := h.chg (F := fun _ => False) (Chg.of_below hb) (fun _ _ f => f)
theorem OB.none_cap {w : World} {oa : Option Addr} {cap : Nat} {bs : List UInt8} (h : OB w oa cap bs) (hn : oa = none) : cap = 0 ∧ bs = [] := by
  rcases OR.form h with ⟨h1, ⟨_, h2, h3, _⟩ | ⟨g, h2, _⟩⟩
  · exact ⟨h2, List.length_eq_zero_iff.1 h3⟩
  · rw [hn] at h2; cases h2
theorem OB.bts {w : World} {oa : Option Addr} {cap : Nat} {bs : List UInt8} (h : OB w oa cap bs) : Bts w oa bs := by
  rcases (OR.form h).2 with ⟨_, _, h0, _⟩ | ⟨g, rfl, hg, _⟩
  · exact .inl (List.length_eq_zero_iff.1 h0)
  · refine .inr ⟨g, 0, rfl, hg, fun i hi => ?_⟩
    obtain ⟨g', he, hc, _⟩ := OR.cell h (cellsB_get hi)
    cases he
    rw [Nat.zero_add]; exact hc
theorem OB.cell {w : World} {g cap : Nat} {bs : List UInt8} (h : OB w (some ⟨g, 0, none⟩) cap bs) {i : Nat} (hi : i < bs.length) : w.cell? ⟨g, i, none⟩ = some (.int .u8 ((bs.getD i 0).toNat : Int)) ∧ w.frozen? ⟨g, i, none⟩ = false := by
  obtain ⟨g', he, hc, hf⟩ := OR.cell h (cellsB_get hi)
  cases he
  exact ⟨hc, hf⟩
theorem OB.set {w : World} {g cap : Nat} {bs : List UInt8} (h : OB w (some ⟨g, 0, none⟩) cap bs) {i : Nat} (hi : i < bs.length) (b : UInt8) : OB (w.setCell ⟨g, i, none⟩ (.int .u8 (b.toNat : Int))) (some ⟨g, 0, none⟩) cap (bs.set i b) := by
  have h1 := OR.set h i (.int .u8 (b.toNat : Int)) (by rw [cellsB_length]; exact hi)
  rw [cellsB_set] at h1
  unfold OB
  rw [List.length_set]; exact h1
theorem OB.made (w : World) (bs : List UInt8) (hm : bs.length ≤ maxLen) : OB (w.alloc (.cells (cellsB bs).toArray 5)) (some ⟨w.heap.size, 0, none⟩) bs.length bs :=
  OR.made eB w (cellsB bs) bs.length (by rw [cellsB_length]; exact (Nat.mul_one _).symm) hm
theorem OB.cap {w : World} {oa : Option Addr} {cap : Nat} {bs : List UInt8} (h : OB w oa cap bs) : bs.length ≤ cap ∧ cap ≤ maxLen := by
  rcases (OR.form h).2 with ⟨_, rfl, h0, _⟩ | ⟨g, _, _, h1, h2, _⟩
  · exact ⟨by omega, Nat.zero_le _⟩
  · exact ⟨h1, h2⟩

/-- append of bytes to a list that the program made -/
theorem wpList_append_bytes {ops : Array Oper} {rest : List Oper} {o : Oper} {a : Act} {w : World} {Q : Exit → Act → World → Prop} (hgd : o.guard = none) (s x : Operand)
    (ho : o.op = .call { callee := .builtin .append, args := #[s, x], argTypes := #[25, 25] })
    {oa : Option Addr} {cap n : Nat} {bs : List UInt8} (hn : n = bs.length) (hs : a.eval s = .slice oa n cap) (hown : OB w oa cap bs)
    {xa : Option Addr} {m c : Nat} {xs : List UInt8} (hm : m = xs.length) (hx : a.eval x = .slice xa m c) (hxs : Bts w xa xs) (hc : xa = none → c = 0) (hlen : n + m ≤ 140737488355328)
    (h : ∀ oa' cap' w', OB w' oa' cap' (bs ++ xs) → Chg (fun k => blk oa = some k) w w' → (blk oa' = blk oa ∨ blk oa' = some w.heap.size) → (oa' = none ↔ oa = none ∧ m = 0) → wpList Try.prog ops Q rest (a.put o.dst (.slice oa' (n + m) cap')) w') :
    wpList Try.prog ops Q (o :: rest) a w := by
  subst hn; subst hm
  refine wpList_append_or eB hgd s x ho hs hown hx (news := cellsB xs) (by rw [cellsB_length]; exact (Nat.mul_one _).symm) ?_ (cellsB_one xs) (by show (bs.length + xs.length) * 1 ≤ _; omega) hlen ?_
  · rcases hxs with rfl | ⟨b, off, rfl, _, h3⟩
    · cases hxa : xa with
      | none => exact .inl ⟨rfl, hc hxa, rfl, rfl⟩
      | some ad => exact .inr ⟨ad, rfl, fun j u hj => by simp [cellsB] at hj⟩
    · refine .inr ⟨_, rfl, fun j u hj => ?_⟩
      have hjl := (List.getElem?_eq_some_iff.1 hj).1
      rw [cellsB_length] at hjl
      rw [add_none, h3 j hjl, ← cellsB_get hjl]; exact hj
  · intro oa' cap' w' h1 h2 h3 h4
    refine h oa' cap' w' ?_ h2 h3 h4
    unfold OB
    rw [List.length_append, cellsB_append]
    exact h1
end Go.Proofs.Ytkjgncmbhkhbnaa
