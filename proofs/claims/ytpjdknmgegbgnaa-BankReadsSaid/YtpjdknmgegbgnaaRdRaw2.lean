/- The reader's Raw, Short, NewReader. -/
import Derived.Test.YtpjdknmgegbgnaaRdRaw
namespace Go.Proofs.Ytpjdknmgegbgnaa
open Go.RowKit

/-- what NewReader leaves -/
def NewR (w : World) (bs : List UInt8) (x : Ending) (w' : World) : Prop := ∃ p a' cap', x = .returned (.pointer (some ⟨p, 0, none⟩)) ∧ IsR w' p a' cap' ⟨bs, 0⟩ ∧ w.heap.size ≤ p ∧ (∀ k, blk a' = some k → w.heap.size ≤ k) ∧ Below w.heap.size w w'
theorem newReader_any (a : Option Addr) (c : Nat) (bs : List UInt8) (w : World) (hx : Bts w a bs) (hc : a = none → c = 0) (hl : bs.length ≤ 140737488355328) :
    Calls Try.prog 33 #[.slice a bs.length c] w (NewR w bs) := by
  obtain ⟨n, hn⟩ : ∃ n, bs.length = n := ⟨_, rfl⟩
  rw [hn]
  have Hn := Lib.hid hn
  have hl2 : n ≤ 140737488355328 := by omega
  have Hl := Lib.hid hl
  clear hn hl
  go_enter Try.func33, Try.ntmps33
  go_wp2_with (at_builtin; go_must (refine wpList_append_bytes rfl (.const (.slice none 0 0)) (.tmp 3) rfl (n := 0) (bs := []) rfl rfl (OB.nil _) Hn.out.symm rfl hx hc (by omega) ?_)
               intro oa2 cap2 w2 hO2 hC2 hb2 _)
  have hO3 : OB w2 oa2 cap2 bs := by simpa using hO2
  have hB : Below w.heap.size w w2 := hC2.below (Nat.le_refl _) (fun k e => by cases e)
  have hB2 := (Below.refl w2.heap.size w2).alloc (Nat.le_refl _) (.cells #[.slice oa2 n cap2, .int .i64 0] 86)
  have hO4 := hO3.below hB2
  have hlt := hO3.lt
  have hz := hB.size
  go_ret
  refine ⟨w2.heap.size, oa2, cap2, rfl, ⟨⟨86, by rw [heap_alloc_new, Hn.out]; rfl⟩, hO4.bts, fun e => (hO4.none_cap e).1, fun e => absurd (hlt _ e) (by omega), hO4.cap.1, Hl.out, Nat.zero_le _, hO4.lt⟩, hz, fun k hk => ?_, hB.alloc hz _⟩
  · rcases hb2 with e | e <;> rw [e] at hk <;> cases hk
    exact Nat.le_refl _

end Go.Proofs.Ytpjdknmgegbgnaa
