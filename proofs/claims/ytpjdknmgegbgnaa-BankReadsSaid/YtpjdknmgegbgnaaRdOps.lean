/- The reader's other methods. -/
import Derived.Test.YtpjdknmgegbgnaaRdGet
namespace Go.Proofs.Ytpjdknmgegbgnaa
open Go.RowKit

/-- what a read of bytes leaves of the reader, and its answer -/
def AftB (w : World) (p : Nat) (a : Option Addr) (bs : List UInt8) (s : RS) (x : Ending) (w' : World) : Prop :=
  ∃ oa cap2, x = .returned (.slice oa bs.length cap2) ∧ OB w' oa cap2 bs ∧ (∀ k, blk oa = some k → w.heap.size ≤ k) ∧ Aft w p a s w'

def RS.raw (n : Int) (s : RS) : List UInt8 × RS := if s.err ≠ 0 then ([], s) else if n < 0 then ([], { s with err := 1 }) else if (s.rest.length : Int) < n then ([], { s with err := 2 }) else (s.rest.take n.toNat, { s with rest := s.rest.drop n.toNat })
def RS.short (most : Int) (s : RS) : List UInt8 × RS := if s.err ≠ 0 then ([], s) else match s.rest with
  | [] => ([], { s with err := 2 })
  | b :: t => if most < b.toNat then ([], { s with err := 4 }) else if t.length < b.toNat then ([], { s with err := 2 }) else (t.take b.toNat, { s with rest := t.drop b.toNat })
def RS.zeros (s : RS) : RS := if s.err ≠ 0 then s else if s.rest.any (· != 0) then { s with err := 5 } else { s with rest := [] }
def RS.ending (s : RS) : Nat := if s.err = 0 ∧ s.rest ≠ [] then 3 else s.err

theorem end_any (p : Nat) (a : Option Addr) (cap : Nat) (s : RS) (w : World) (h : IsR w p a cap s) :
    Calls Try.prog 39 #[.pointer (some ⟨p, 0, none⟩)] w fun x w' => x = .returned (.int .i64 (s.ending : Int)) ∧ w = w' := by
  obtain ⟨⟨T, h3⟩, _⟩ := h
  obtain ⟨c0, c1, f⟩ := cells2 h3
  clear h3 f
  by_cases he : s.err = 0
  · by_cases hl : s.rest = []
    · have e : s.ending = s.err := by simp [RS.ending, hl]
      rw [e]
      have hl2 : s.rest.length = 0 := by simp [hl]
      rw [hl2] at c0
      rw [he] at c1 ⊢
      go_enter Try.func39, Try.ntmps39
      go_wp2_with fail
      go_ret
      exact ⟨rfl, rfl⟩
    · have e : s.ending = 3 := by simp [RS.ending, hl, he]
      rw [e]
      have hl2 : (0 : Int) < s.rest.length := by have := List.length_pos_iff.2 hl; omega
      rw [he] at c1
      go_enter Try.func39, Try.ntmps39
      go_wp2_with fail
      go_ret
      exact ⟨rfl, rfl⟩
  · have e : s.ending = s.err := by simp [RS.ending, he]
    rw [e]
    have hd := drop_dec he
    go_enter Try.func39, Try.ntmps39
    go_wp2_with fail
    go_ret
    exact ⟨rfl, rfl⟩

end Go.Proofs.Ytpjdknmgegbgnaa
