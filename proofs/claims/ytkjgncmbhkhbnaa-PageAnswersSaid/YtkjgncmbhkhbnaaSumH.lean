/- The walk of sum.halves. -/
import Derived.Test.YtkjgncmbhkhbnaaSumA
namespace Go.Proofs.Ytkjgncmbhkhbnaa
open Go.RowKit

set_option maxHeartbeats 400000 in
theorem halves_any (w : World) : Calls Try.prog 68 #[] w fun e w' => e = .returned (.agg (rowOf tab)) ∧ Below w.heap.size w w' := by
  go_enter Try.func68, Try.ntmps68
  go_wp2
  go_returns
  exact ⟨rfl, (Below.refl _ _).alloc (Nat.le_refl _) _⟩

end Go.Proofs.Ytkjgncmbhkhbnaa
