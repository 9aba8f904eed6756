/- Lists of bytes that a call itself makes: what is known of them, how they grow by one byte, how a byte of them is written over. -/
import Derived.Test.YtdonocchidfooaaSumA
import Derived.Laws.OwnMore
import Derived.Laws.AppendOwn
import Derived.OwnWalk
namespace Go.Proofs.Ytdonocchidfooaa
open Go.RowKit

/-- bytes as cells -/
def cellsB (bs : List UInt8) : List Value := bs.map fun b => Value.int .u8 (b.toNat : Int)
theorem cellsB_length (bs : List UInt8) : (cellsB bs).length = bs.length := by simp [cellsB]
theorem cellsB_append (a b : List UInt8) : cellsB (a ++ b) = cellsB a ++ cellsB b := by simp [cellsB]
theorem cellsB_get {bs : List UInt8} {i : Nat} (h : i < bs.length) : (cellsB bs)[i]? = some (.int .u8 ((bs.getD i 0).toNat : Int)) := by
  simp [cellsB, List.getElem?_map, List.getElem?_eq_getElem h, List.getD_eq_getElem?_getD]
theorem cellsB_set (bs : List UInt8) (i : Nat) (b : UInt8) : (cellsB bs).set i (.int .u8 (b.toNat : Int)) = cellsB (bs.set i b) := by
  simp [cellsB, List.map_set]

/-- the slice of block g, of capacity cap, is a list of the call's own (its block is one of those from base on) and holds these bytes -/
def OwnB (w : World) (base g cap : Nat) (bs : List UInt8) : Prop := w.ownsRow base 5 1 (.slice (some ⟨g, 0, none⟩) bs.length cap) bs.length (cellsB bs)

theorem OwnB.lt {w : World} {base g cap : Nat} {bs : List UInt8} (h : OwnB w base g cap bs) : base ≤ g ∧ g < w.heap.size := World.ownsRow.lt h g rfl
theorem OwnB.cell {w : World} {base g cap : Nat} {bs : List UInt8} (h : OwnB w base g cap bs) {i : Nat} (hi : i < bs.length) : w.cell? ⟨g, i, none⟩ = some (.int .u8 ((bs.getD i 0).toNat : Int)) := by
  rw [World.ownsRow.cellAt h i (by omega), cellsB_get hi]
theorem OwnB.free {w : World} {base g cap : Nat} {bs : List UInt8} (h : OwnB w base g cap bs) (i : Nat) : w.frozen? ⟨g, i, none⟩ = false := World.ownsRow.frozenAt h i
theorem OwnB.bts {w : World} {base g cap : Nat} {bs : List UInt8} (h : OwnB w base g cap bs) : Bts w (some ⟨g, 0, none⟩) bs :=
  .inr ⟨g, 0, rfl, h.lt.2, fun i hi => by rw [Nat.zero_add]; exact h.cell hi⟩
theorem OwnB.below {w w' : World} {base g cap : Nat} {bs : List UInt8} (h : OwnB w base g cap bs) (hb : Below w.heap.size w w') : OwnB w' base g cap bs := by
  have hl := h.lt
  obtain ⟨h1, h2⟩ := h
  refine ⟨h1, ?_⟩
  rcases h2 with ⟨h2, _⟩ | ⟨g', cap', cur, hv, hg, hh, r⟩
  · simp at h2
  · simp only [Value.slice.injEq, Option.some.injEq, Addr.mk.injEq, and_true, true_and] at hv
    obtain ⟨rfl, rfl⟩ := hv
    exact .inr ⟨g, cap, cur, rfl, hg, (hb.block g hl.2).trans hh, r⟩
theorem OwnB.base {w : World} {base base' g cap : Nat} {bs : List UInt8} (h : OwnB w base g cap bs) (hb : base' ≤ g) : OwnB w base' g cap bs := by
  obtain ⟨h1, h2⟩ := h
  refine ⟨h1, ?_⟩
  rcases h2 with ⟨h2, _⟩ | ⟨g', cap', cur, hv, hg, hh, r⟩
  · simp at h2
  · simp only [Value.slice.injEq, Option.some.injEq, Addr.mk.injEq, and_true, true_and] at hv
    obtain ⟨rfl, rfl⟩ := hv
    exact .inr ⟨g, cap, cur, rfl, hb, hh, r⟩
theorem OwnB.set {w : World} {base g cap : Nat} {bs : List UInt8} (h : OwnB w base g cap bs) (i : Nat) (b : UInt8) : OwnB (w.setCell ⟨g, i, none⟩ (.int .u8 (b.toNat : Int))) base g cap (bs.set i b) := by
  have h1 := (World.ownsRow.stored h i (.int .u8 (b.toNat : Int))).1
  rw [cellsB_set] at h1
  have e : (bs.set i b).length = bs.length := by simp
  unfold OwnB
  rw [e]; exact h1
theorem OwnB.made (w : World) (bs : List UInt8) (hm : bs.length ≤ maxLen) : OwnB (w.alloc (.cells (cellsB bs).toArray 5)) w.heap.size w.heap.size bs.length bs := by
  have h := World.ownsRow_lit (base := w.heap.size) (e := 5) (size := 1) w (cellsB bs).toArray bs.length (Nat.le_refl _) hm (by simp [cellsB_length])
  unfold OwnB; simpa using h

theorem info5 : (Try.prog.info? 5).map (fun i => (i.zero, i.size, i.bytes)) = some (some (.int .u8 0), 1, 1) := by kernel_rfl

/-- what an append of one byte leaves -/
theorem wpList_append_b {ops : Array Oper} {rest : List Oper} {o : Oper} {a : Act} {Q : Exit → Act → World → Prop} (hgd : o.guard = none) (s x : Operand)
    (ho : o.op = .call { callee := .builtin .append, args := #[s, x], argTypes := #[25, 25] })
    {w0 w : World} {g cap n : Nat} {bs : List UInt8} (b : UInt8) (hn : n = bs.length) (hs : a.eval s = .slice (some ⟨g, 0, none⟩) n cap) (hx : a.eval x = .slice (some ⟨w.heap.size, 0, none⟩) 1 1)
    (hown : OwnB w w0.heap.size g cap bs) (hB : Below w0.heap.size w0 w) (hlen : n + 1 ≤ 140737488355328)
    (h : ∀ g' cap' w', OwnB w' w0.heap.size g' cap' (bs ++ [b]) → Below w0.heap.size w0 w' → wpList Try.prog ops Q rest (a.put o.dst (.slice (some ⟨g', 0, none⟩) (n + 1) cap')) w') :
    wpList Try.prog ops Q (o :: rest) a (w.alloc (.cells #[.int .u8 (b.toNat : Int)] 5)) := by
  subst hn
  obtain ⟨i0, hi, hz0, hz1, hz2⟩ := info_parts info5
  have hB2 : Below w0.heap.size w0 (w.alloc (.cells #[.int .u8 (b.toNat : Int)] 5)) := hB.alloc hB.size _
  refine wpList_append_own _ hgd s x 25 ho w0.heap.size 5 i0 (.int .u8 0) 1 1 Try.underlying25 hi hz0 hz1 hz2 rfl (by decide) _ _ _ hs (hown.alloc _) ⟨w.heap.size, 0, none⟩ 1 1 [.int .u8 (b.toNat : Int)] hx rfl ?_ ?_ ?_ (by omega) hB2.size ?_
  · exact cell_one_new _ _ _
  · intro u hu; simp at hu; subst hu; rfl
  · unfold maxLen; omega
  · intro v' w' hown' hgrow hnil
    have hB3 : Below w0.heap.size w0 w' := hB2.grown hgrow hB2.size (fun k hk => by
      have := (hown.alloc (.cells #[.int .u8 (b.toNat : Int)] 5)).lt k hk
      exact this.1)
    have hs2 := hown'
    obtain ⟨hl, h2⟩ := hs2
    rcases h2 with ⟨hv, _⟩ | ⟨g', cap', cur, hv, _⟩
    · exact absurd (hnil.1 hv).1 (by simp)
    · have e : (bs ++ [b]).length = bs.length + 1 := by simp
      have := h g' cap' w' (by unfold OwnB; rw [e, cellsB_append, ← hv]; exact hown') hB3
      rw [← hv] at this
      exact this
theorem take_snoc {bs : List UInt8} {k : Nat} (h : k < bs.length) : bs.take (k + 1) = bs.take k ++ [bs.getD k 0] := by
  rw [List.take_succ_eq_append_getElem h, List.getD_eq_getElem?_getD, List.getElem?_eq_getElem h]; rfl
/-- a byte of a slice of bytes -/
theorem Bts.at {w : World} {a : Option Addr} {bs : List UInt8} (h : Bts w a bs) {k : Nat} (hk : k < bs.length) : ∃ b off, a = some ⟨b, off, none⟩ ∧ b < w.heap.size ∧ w.cell? ⟨b, off + k, none⟩ = some (.int .u8 ((bs.getD k 0).toNat : Int)) := by
  rcases h with rfl | ⟨b, off, h1, h2, h3⟩
  · simp at hk
  · exact ⟨b, off, h1, h2, h3 k hk⟩
end Go.Proofs.Ytdonocchidfooaa
