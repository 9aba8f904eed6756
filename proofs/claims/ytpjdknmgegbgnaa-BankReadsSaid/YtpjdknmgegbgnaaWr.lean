/- The program's writer: what it holds, and the walks of its methods fail, add. -/
import Derived.Test.YtpjdknmgegbgnaaByt
namespace Go.Proofs.Ytpjdknmgegbgnaa
open Go.RowKit

/-- what a writer holds -/
structure WS where
  (most : Nat) (bs : List UInt8) (err : Nat)
def WS.fail (s : WS) (e : Nat) : WS := if s.err = 0 then { s with err := e } else s
def WS.add (s : WS) (xs : List UInt8) : WS := if s.err ≠ 0 then s else if s.most < s.bs.length + xs.length then { s with err := 4 } else { s with bs := s.bs ++ xs }

/-- a writer in memory: its three cells, and its list -/
def IsW (w : World) (p : Nat) (oa : Option Addr) (cap : Nat) (s : WS) : Prop :=
  (∃ T, w.heap[p]? = some (.cells #[.int .i64 (s.most : Int), .slice oa s.bs.length cap, .int .i64 (s.err : Int)] T)) ∧ OB w oa cap s.bs ∧ blk oa ≠ some p ∧ s.bs.length ≤ s.most ∧ s.most ≤ 16777216 ∧ s.err ≤ 1000

theorem cells3 {w : World} {p : Nat} {v0 v1 v2 : Value} {T : TypeId} (h : w.heap[p]? = some (.cells #[v0, v1, v2] T)) :
    w.cell? ⟨p, 0, none⟩ = some v0 ∧ w.cell? ⟨p, 1, none⟩ = some v1 ∧ w.cell? ⟨p, 2, none⟩ = some v2 ∧ (∀ k, w.frozen? ⟨p, k, none⟩ = false) := by
  simp [World.cell?, World.frozen?, h]
theorem set3_1 {w : World} {p : Nat} {v0 v1 v2 : Value} {T : TypeId} (h : w.heap[p]? = some (.cells #[v0, v1, v2] T)) (u : Value) : (w.setCell ⟨p, 1, none⟩ u).heap[p]? = some (.cells #[v0, u, v2] T) := by
  rw [setCell_eq_setRow w p 1 _ T (0, 0) u h, setRow_heap w p _ _ T (0, 0) h]; rfl
theorem set3_2 {w : World} {p : Nat} {v0 v1 v2 : Value} {T : TypeId} (h : w.heap[p]? = some (.cells #[v0, v1, v2] T)) (u : Value) : (w.setCell ⟨p, 2, none⟩ u).heap[p]? = some (.cells #[v0, v1, u] T) := by
  rw [setCell_eq_setRow w p 2 _ T (0, 0) u h, setRow_heap w p _ _ T (0, 0) h]; rfl
theorem lt_of_heap {w : World} {p : Nat} {o : Obj} (h : w.heap[p]? = some o) : p < w.heap.size := by
  rcases Nat.lt_or_ge p w.heap.size with h1 | h1
  · exact h1
  · rw [Array.getElem?_eq_none h1] at h; cases h

theorem IsW.lt {w : World} {p : Nat} {oa : Option Addr} {cap : Nat} {s : WS} (h : IsW w p oa cap s) : p < w.heap.size := by
  obtain ⟨⟨T, h⟩, _⟩ := h
  exact lt_of_heap h
theorem IsW.chg {F : Nat → Prop} {w w' : World} {p : Nat} {oa : Option Addr} {cap : Nat} {s : WS} (h : IsW w p oa cap s) (hc : Chg F w w') (h1 : ¬ F p) (h2 : ∀ k, blk oa = some k → ¬ F k) : IsW w' p oa cap s := by
  have hlt := h.lt
  obtain ⟨⟨T, h3⟩, h4, h5⟩ := h
  exact ⟨⟨T, (hc.block p hlt h1).trans h3⟩, h4.chg hc h2, h5⟩

/-- what a method of a writer leaves -/
def Wrote (w : World) (p : Nat) (oa : Option Addr) (s' : WS) (w' : World) : Prop :=
  ∃ oa' cap', IsW w' p oa' cap' s' ∧ Chg (fun k => k = p ∨ blk oa = some k) w w' ∧ (blk oa' = blk oa ∨ ∃ k, blk oa' = some k ∧ w.heap.size ≤ k)
theorem Wrote.same {w : World} {p : Nat} {oa : Option Addr} {cap : Nat} {s : WS} (h : IsW w p oa cap s) : Wrote w p oa s w := ⟨oa, cap, h, Chg.refl _ _, .inl rfl⟩
theorem Wrote.after {w w1 w2 : World} {p : Nat} {oa : Option Addr} {s : WS} (hc : Chg (fun _ => False) w w1) (h : Wrote w1 p oa s w2) : Wrote w p oa s w2 := by
  obtain ⟨oa', cap', h1, h2, h3⟩ := h
  refine ⟨oa', cap', h1, (hc.mono (fun _ _ f => f.elim)).trans h2 (fun _ _ g => g), ?_⟩
  rcases h3 with h3 | ⟨k, h3, h4⟩
  · exact .inl h3
  · exact .inr ⟨k, h3, Nat.le_trans hc.size h4⟩
theorem Wrote.chain {w0 w1 w2 : World} {p : Nat} {oa oa1 : Option Addr} {s2 : WS} (hc : Chg (fun k => k = p ∨ blk oa = some k) w0 w1) (hb : blk oa1 = blk oa ∨ ∃ k, blk oa1 = some k ∧ w0.heap.size ≤ k) (h2 : Wrote w1 p oa1 s2 w2) : Wrote w0 p oa s2 w2 := by
  obtain ⟨oa2, cap2, h3, h4, h5⟩ := h2
  refine ⟨oa2, cap2, h3, hc.trans h4 (fun i hi e => ?_), ?_⟩
  · rcases e with e | e
    · exact .inl e
    · rcases hb with h | ⟨k, h, h'⟩
      · exact .inr (by rw [← h]; exact e)
      · rw [h] at e; cases e; omega
  · rcases h5 with h | ⟨k, h, h'⟩
    · rw [h]; exact hb
    · exact .inr ⟨k, h, Nat.le_trans hc.size h'⟩
theorem IsW.drewN {w : World} {p : Nat} {oa : Option Addr} {cap : Nat} {s : WS} (h : IsW w p oa cap s) (n : Nat) : IsW (w.drewN n) p oa cap s := h
theorem IsW.set_err {w : World} {p : Nat} {oa : Option Addr} {cap : Nat} {s : WS} (h : IsW w p oa cap s) (e : Nat) (he : e ≤ 1000) : Wrote w p oa { s with err := e } (w.setCell ⟨p, 2, none⟩ (.int .i64 (e : Int))) := by
  obtain ⟨⟨T, h3⟩, h4, h5, h6, h7, h8⟩ := h
  refine ⟨oa, cap, ⟨⟨T, set3_2 h3 _⟩, h4.chg (Chg.set w ⟨p, 2, none⟩ _) (fun k hk e => h5 (by rw [hk]; exact congrArg some e)), h5, h6, h7, he⟩, (Chg.set w ⟨p, 2, none⟩ _).mono (fun k _ hk => .inl hk), .inl rfl⟩

set_option maxHeartbeats 400000 in
theorem fail_any (p : Nat) (oa : Option Addr) (cap : Nat) (s : WS) (e : Nat) (he : e ≤ 1000) (w : World) (h : IsW w p oa cap s) :
    Calls Try.prog 79 #[.pointer (some ⟨p, 0, none⟩), .int .i64 (e : Int)] w fun r w' => r = .returned (.tuple #[]) ∧ Wrote w p oa (s.fail e) w' := by
  have hs := Lib.hid h
  obtain ⟨⟨T, h3⟩, h4⟩ := h
  obtain ⟨c0, c1, c2, f⟩ := cells3 h3
  have f2 := f 2
  clear h3 h4 f
  by_cases h0 : s.err = 0
  · have e1 : ((s.err : Int) == 0) = true := by rw [beq_iff_eq]; omega
    have H := Lib.hid (hs.out.set_err e he)
    have HF := Lib.hid (show s.fail e = { s with err := e } by simp [WS.fail, h0])
    clear hs h0
    go_enter Try.func79, Try.ntmps79
    go_wp2_with fail
    go_end0
    exact ⟨rfl, by rw [HF.out]; exact H.out⟩
  · have e1 : ((s.err : Int) == 0) = false := by rw [beq_eq_false_iff_ne]; omega
    have HF := Lib.hid (show s.fail e = s by simp [WS.fail, h0])
    clear h0
    go_enter Try.func79, Try.ntmps79
    go_wp2_with fail
    go_end0
    exact ⟨rfl, by rw [HF.out]; exact Wrote.same hs.out⟩
end Go.Proofs.Ytpjdknmgegbgnaa
