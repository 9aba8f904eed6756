/- The walk of sum.Of. -/
import Derived.Test.YtkjgncmbhkhbnaaSumOn
namespace Go.Proofs.Ytkjgncmbhkhbnaa
open Go.RowKit

theorem bits_no (n : Nat) (h : n < 4294967296) : bits .xor .u32 IntKind.u32.max (n : Int) = (Crc.no n : Int) := by
  rw [show IntKind.u32.max = ((4294967295 : Nat) : Int) from rfl, u32_xor_nat _ _ (by omega) h, Crc.no_eq]

set_option maxHeartbeats 400000 in
theorem sumOf_any (bs : List UInt8) (a : Option Addr) (cap : Nat) (hb : bs.length ≤ 9223372036854775807) (w : World) (hc : Bts w a bs) : Calls Try.prog 50 #[.slice a bs.length cap] w fun e w' => e = .returned (.int .u32 (Crc.ofs bs)) ∧ Below w.heap.size w w' := by
  have hl := Crc.on_lt (w := 4294967295) (by omega) bs
  have e1 := bits_no _ hl
  have hx : Crc.no (Crc.on 4294967295 bs) = Crc.ofs bs := rfl
  rw [hx] at e1
  have hon := on_any 4294967295 (by omega) bs a cap hb w hc
  have Hon := Lib.hid hon
  clear hon
  generalize Crc.ofs bs = r at e1 ⊢
  clear hx
  go_enter Try.func50, Try.ntmps50
  go_wp2_with (go_at_call 63; refine (Hon.out).mono ?_; rintro e w1 ⟨rfl, hb1⟩)
  go_ret
  exact ⟨rfl, hb1⟩

end Go.Proofs.Ytkjgncmbhkhbnaa
