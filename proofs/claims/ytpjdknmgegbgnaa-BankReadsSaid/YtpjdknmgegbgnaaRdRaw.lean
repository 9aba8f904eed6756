/- The reader's Raw and Short: what their closures do. -/
import Derived.Test.YtpjdknmgegbgnaaRdOps
namespace Go.Proofs.Ytpjdknmgegbgnaa
open Go.RowKit

theorem Threw.same {w : World} {p e : Nat} {a : Option Addr} {cap : Nat} {s : RS} (h : IsR w p a cap s) : Threw p e w (.panicked [thrown e false]) w := ⟨rfl, Chg.refl _ w, a, cap, s, h⟩
theorem AftB.read {w w1 w2 w' : World} {p : Nat} {a : Option Addr} {bs : List UInt8} {s : RS} {v : Value} (hp : p < w.heap.size) (ha : ∀ k, blk a = some k → k < w.heap.size) (hb : Below w.heap.size w w1) (hs : w.heap.size + 3 = w1.heap.size) (h : AftB w1 p a bs s (.returned v) w2) (hc : Chg (fun k => k = w.heap.size + 1) w2 w') : AftB w p a bs s (.returned v) w' := by
  obtain ⟨oa, cap2, h1, h2, h3, h4⟩ := h
  refine ⟨oa, cap2, h1, h2.chg hc (fun k hk => ?_), fun k hk => ?_, h4.read hp ha hb hs hc⟩
  · have := h3 k hk; omega
  · have := h3 k hk; omega

theorem Took.aftB {w w' : World} {p : Nat} {a : Option Addr} {s : RS} {n : Nat} {x : Ending} (hn : n ≤ s.rest.length) (h : Took w p a s n x w') : AftB w p a (s.rest.take n) { s with rest := s.rest.drop n } x w' := by
  obtain ⟨oa, cap2, a', cap', h1, h2, h3, h4, h5, h6⟩ := h
  have hl : (s.rest.take n).length = n := by rw [List.length_take]; omega
  refine ⟨oa, cap2, by rw [hl]; exact h1, h2, fun k hk => ?_, a', cap', h4, h5, h6⟩
  rcases h3 with e | e <;> rw [e] at hk <;> cases hk
  exact Nat.le_refl _
theorem AftB.pre {w0 w w' : World} {p : Nat} {a : Option Addr} {bs : List UInt8} {s : RS} {x : Ending} (h : AftB w p a bs s x w') (hb : Chg (fun k => k = p) w0 w) : AftB w0 p a bs s x w' := by
  obtain ⟨oa, cap2, h1, h2, h3, h4⟩ := h
  exact ⟨oa, cap2, h1, h2, fun k hk => Nat.le_trans hb.size (h3 k hk), h4.pre hb⟩
theorem Threw.pre {w0 w w' : World} {p e : Nat} {x : Ending} (h : Threw p e w x w') (hb : Chg (fun k => k = p) w0 w) : Threw p e w0 x w' := ⟨h.1, hb.trans h.2.1 (fun _ _ f => f), h.2.2⟩

/-- the variables of a method that a closure captures -/
def Caps (w : World) (p g : Nat) (n : Int) : Prop := (∃ t, w.heap[g]? = some (.cells #[.pointer (some ⟨p, 0, none⟩)] t)) ∧ (∃ t, w.heap[g + 1]? = some (.cells #[.int .i64 n] t)) ∧ g ≠ p ∧ g + 1 ≠ p
theorem Caps.chg {w w' : World} {p g : Nat} {n : Int} (h : Caps w p g n) (hc : Chg (fun k => k = p) w w') : Caps w' p g n := by
  obtain ⟨⟨t, h1⟩, ⟨t2, h2⟩, h3, h4⟩ := h
  exact ⟨⟨t, (hc.block g (rlt_of_heap h1) h3).trans h1⟩, ⟨t2, (hc.block (g + 1) (rlt_of_heap h2) h4).trans h2⟩, h3, h4⟩
theorem Caps.cells {w : World} {p g : Nat} {n : Int} (h : Caps w p g n) : w.cell? ⟨g, 0, none⟩ = some (.pointer (some ⟨p, 0, none⟩)) ∧ w.cell? ⟨g + 1, 0, none⟩ = some (.int .i64 n) := by
  obtain ⟨⟨t, h1⟩, ⟨t2, h2⟩, _⟩ := h
  exact ⟨(cell1 h1).1, (cell1 h2).1⟩
theorem Caps.below {w w' : World} {p g : Nat} {n : Int} (h : Caps w p g n) (hc : Below w.heap.size w w') : Caps w' p g n := h.chg (Chg.of_below hc)

theorem u8_wrap64 (b : UInt8) : wrap64 ((b.toNat : Nat) : Int) = ((b.toNat : Nat) : Int) := by
  have := b.toNat_lt
  unfold wrap64; omega

theorem caps_new {w : World} {p : Nat} (hp : p < w.heap.size) (n : Int) (t1 t2 : TypeId) : Caps ((w.alloc (.cells #[.pointer (some ⟨p, 0, none⟩)] t1)).alloc (.cells #[.int .i64 n] t2)) p w.heap.size n := by
  refine ⟨⟨t1, by rw [heap_alloc_old _ _ (by simp), heap_alloc_new]⟩, ⟨t2, ?_⟩, by omega, by omega⟩
  have h := heap_alloc_new (w.alloc (.cells #[.pointer (some ⟨p, 0, none⟩)] t1)) (.cells #[.int .i64 n] t2)
  rwa [show (w.alloc (.cells #[.pointer (some ⟨p, 0, none⟩)] t1)).heap.size = w.heap.size + 1 by simp] at h
end Go.Proofs.Ytpjdknmgegbgnaa
