/- The reader's other methods. -/
import Derived.Test.YthkopgmkdenebaaRdGet
namespace Go.Proofs.Ythkopgmkdenebaa
open Go.RowKit

/-- what a read of bytes leaves of the reader, and its answer -/
def AftB (w : World) (p : Nat) (a : Option Addr) (bs : List UInt8) (s : RS) (x : Ending) (w' : World) : Prop :=
  ∃ oa cap2, x = .returned (.slice oa bs.length cap2) ∧ OB w' oa cap2 bs ∧ (∀ k, blk oa = some k → w.heap.size ≤ k) ∧ Aft w p a s w'

def RS.raw (n : Int) (s : RS) : List UInt8 × RS := if s.err ≠ 0 then ([], s) else if n < 0 then ([], { s with err := 1 }) else if (s.rest.length : Int) < n then ([], { s with err := 2 }) else (s.rest.take n.toNat, { s with rest := s.rest.drop n.toNat })
def RS.short (most : Int) (s : RS) : List UInt8 × RS := if s.err ≠ 0 then ([], s) else match s.rest with
  | [] => ([], { s with err := 2 })
  | b :: t => if most < b.toNat then ([], { s with err := 4 }) else if t.length < b.toNat then ([], { s with err := 2 }) else (t.take b.toNat, { s with rest := t.drop b.toNat })
def RS.zeros (s : RS) : RS := if s.err ≠ 0 then s else if s.rest.any (· != 0) then { s with err := 5 } else { s with rest := [] }
def RS.ending (s : RS) : Nat := if s.err = 0 ∧ s.rest ≠ [] then 3 else s.err

end Go.Proofs.Ythkopgmkdenebaa
