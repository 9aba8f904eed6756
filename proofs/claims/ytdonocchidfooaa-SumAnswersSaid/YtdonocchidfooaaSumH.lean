/- The walk of sum.halves. -/
import Derived.Test.YtdonocchidfooaaSumA
namespace Go.Proofs.Ytdonocchidfooaa
open Go.RowKit

set_option maxHeartbeats 400000 in
theorem halves_any (w : World) : Calls Try.prog 32 #[] w fun e w' => e = .returned (.agg (rowOf tab)) ∧ Below w.heap.size w w' := by
  go_enter Try.func32, Try.ntmps32
  go_wp2
  go_returns
  exact ⟨rfl, (Below.refl _ _).alloc (Nat.le_refl _) _⟩

end Go.Proofs.Ytdonocchidfooaa
