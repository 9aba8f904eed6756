/- The walks of coppiceref01.step, eight. -/
import Derived.Test.YtkjgncmbhkhbnaaSumC
namespace Go.Proofs.Ytkjgncmbhkhbnaa
open Go.RowKit

theorem refStep_any (x : Nat) (hx : x < 4294967296) (w : World) : Calls Try.prog 70 #[.int .u32 x] w fun e w' => e = .returned (.int .u32 (Crc.stp x)) ∧ w = w' := by
  by_cases h : x % 2 = 1
  · have e1 : ((x : Int) % 2 == 1) = true := by rw [beq_iff_eq]; omega
    have e2 : bits .xor .u32 ((x : Int) / 2) 2197175160 = ((Crc.stp x : Nat) : Int) := by
      rw [show (x : Int) / 2 = ((x / 2 : Nat) : Int) from by omega, show (2197175160 : Int) = ((2197175160 : Nat) : Int) from rfl, u32_xor_nat _ _ (by omega) (by omega)]
      unfold Crc.stp; rw [if_pos h]
    generalize Crc.stp x = r at e2 ⊢
    clear h
    go_enter Try.func70, Try.ntmps70
    go_wp2
    go_ret
    exact ⟨rfl, rfl⟩
  · have e1 : ((x : Int) % 2 == 1) = false := by rw [beq_eq_false_iff_ne]; omega
    have e2 : (Crc.stp x : Int) = (x : Int) / 2 := by unfold Crc.stp; rw [if_neg h]; omega
    rw [e2]
    clear h e2
    go_enter Try.func70, Try.ntmps70
    go_wp2
    go_ret
    exact ⟨rfl, rfl⟩

set_option maxHeartbeats 400000 in
theorem refEight_any (x : Nat) (hx : x < 4294967296) (w : World) : Calls Try.prog 69 #[.int .u32 x] w fun e w' => e = .returned (.int .u32 (Crc.eig x)) ∧ w = w' := by
  go_enter Try.func69, Try.ntmps69
  go_wp2
  go_loop [0, 3] (fun v i => ∃ k : Nat, k ≤ 8 ∧ i = .int .i64 k ∧ v = .int .u32 (Crc.stps k x : Nat)) (fun _ i => 8 - (intOf i).toNat)
  case atStart => exact ⟨0, Nat.zero_le _, rfl, rfl⟩
  case round =>
    obtain ⟨k, hk, rfl, rfl⟩ := hrel
    have hA := Crc.stps_lt k hx
    have hS : Crc.stps (k + 1) x = Crc.stp (Crc.stps k x) := Crc.stps_add k 1 x
    have h8 : Crc.eig x = Crc.stps 8 x := Crc.eig_eq x
    have HS := Lib.hid hS
    have H8 := Lib.hid h8
    clear hS h8
    by_cases hlt : k < 8
    · go_wp2_with (go_at_call 70; refine (refStep_any _ hA _).mono ?_; rintro e w1 ⟨rfl, rfl⟩)
      go_round
      case rel => exact ⟨k + 1, by omega, by go_num, by rw [HS.out]⟩
      case measure => simp [intOf]; omega
    · obtain rfl : k = 8 := by omega
      go_wp2
      go_ret
      exact ⟨ret_int (congrArg _ H8.out.symm), rfl⟩
end Go.Proofs.Ytkjgncmbhkhbnaa
