/- The program's Decode, joined. -/
import Derived.Test.YtkjgncmbhkhbnaaPDec
namespace Go.Proofs.Ytkjgncmbhkhbnaa
open Go.RowKit

theorem pDecode_any (no : Int) (a : Option Addr) (cap : Nat) (bs : List UInt8) (w : World) (hb : Bts w a bs) (hc : bs.length ≤ cap) :
    Calls Try.prog 31 #[.int .i64 no, .slice a bs.length cap] w (DecdP (pdec no bs) w) := by
  rw [← pdecP_eq]
  by_cases h1 : isPg no = false
  · exact pDecode_early no a cap bs w (.inl h1)
  have h1 : isPg no = true := by simpa using h1
  by_cases h2 : bs.length = 512
  · exact pDecode_late no a cap bs w h1 h2 hb hc
  · exact pDecode_early no a cap bs w (.inr ⟨h1, h2⟩)
end Go.Proofs.Ytkjgncmbhkhbnaa
