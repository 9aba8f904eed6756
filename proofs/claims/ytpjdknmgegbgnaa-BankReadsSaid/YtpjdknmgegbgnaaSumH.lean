/- The walk of sum.halves. -/
import Derived.Test.YtpjdknmgegbgnaaSumA
namespace Go.Proofs.Ytpjdknmgegbgnaa
open Go.RowKit

set_option maxHeartbeats 400000 in
theorem halves_any (w : World) : Calls Try.prog 82 #[] w fun e w' => e = .returned (.agg (rowOf tab)) ∧ Below w.heap.size w w' := by
  go_enter Try.func82, Try.ntmps82
  go_wp2
  go_returns
  exact ⟨rfl, (Below.refl _ _).alloc (Nat.le_refl _) _⟩

end Go.Proofs.Ytpjdknmgegbgnaa
