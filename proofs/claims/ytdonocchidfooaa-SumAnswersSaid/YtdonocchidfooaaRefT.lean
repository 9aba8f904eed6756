/- The walk of coppiceref01.turned. -/
import Derived.Test.YtdonocchidfooaaSumT
namespace Go.Proofs.Ytdonocchidfooaa
open Go.RowKit

def RelTu (m : List Nat) (x : Nat) (v i : Value) : Prop := ∃ k : Nat, k ≤ 32 ∧ i = .int .i64 k ∧ v = .int .u32 (Crc.tur (at0 m) k x : Nat)

set_option maxHeartbeats 400000 in
theorem turned_any (m : List Nat) (hm : m.length = 32) (hml : ∀ n ∈ m, n < 4294967296) (x : Nat) (_hx : x < 4294967296) (w : World) : Calls Try.prog 37 #[.agg (rowOf m), .int .u32 x] w fun e w' => e = .returned (.int .u32 (Crc.tur (at0 m) 32 x)) ∧ Below w.heap.size w w' := by
  have hbox := fun w => run_box_row 51 m w
  go_enter Try.func37, Try.ntmps37
  go_wp2_with fail
  have hb2 : Below w.heap.size w (w.alloc (.cells (rowOf m) 51)) := (Below.refl _ _).alloc (Nat.le_refl _) _
  have hg : (w.alloc (.cells (rowOf m) 51)).heap[w.heap.size]? = some (.cells (rowOf m) 51) := heap_alloc_new _ _
  generalize w.alloc (.cells (rowOf m) 51) = w2 at hb2 hg ⊢
  clear hbox
  go_loop [5, 6] (fun v i => RelTu m x v i) (fun _ i => 32 - (intOf i).toNat)
  case atStart => exact ⟨0, Nat.zero_le _, rfl, rfl⟩
  case round =>
    obtain ⟨k, hk, rfl, rfl⟩ := hrel
    by_cases hlt : k < 32
    · have hgt : m[k]? = some (at0 m k) := at0_get (by omega)
      have c1 := cell_rowOf hg hgt
      have hmk := at0_lt hml
      have hr := tur_lt (at0 m) k (fun i _ => hmk i) x
      have e2 : Crc.tur (at0 m) (k + 1) x = Crc.tur (at0 m) k x ^^^ (if x / 2 ^ k % 2 = 1 then at0 m k else 0) := rfl
      have e1 := u32_xor_nat _ _ hr (hmk k)
      have hR : Crc.tur (at0 m) (k + 1) x = Crc.tur (at0 m) (k + 1) x := rfl
      have hmk1 := hmk k
      have ed : (x : Int) / 2 ^ k = ((x / 2 ^ k : Nat) : Int) := by simp
      have h0 : (0 : Int) ≤ (x : Int) / 2 ^ k := by rw [ed]; exact Int.natCast_nonneg _
      have Hed := Lib.hid ed
      clear hgt hg hR hmk ed
      by_cases ho : x / 2 ^ k % 2 = 1
      · rw [if_pos ho] at e2
        have b1 : ((x : Int) / 2 ^ k % 2 == 1) = true := by rw [Hed.out, beq_iff_eq]; omega
        generalize Crc.tur (at0 m) k x = r at e1 e2 hr
        generalize at0 m k = mk at c1 e1 e2 hmk1
        generalize r ^^^ mk = R at e1 e2
        have E2 := Lib.hid e2
        clear ho e2
        go_wp2_with fail
        go_round
        case rel => exact ⟨k + 1, by omega, by go_num, by rw [E2.out]⟩
        case measure => simp [intOf]; omega
      · rw [if_neg ho, Nat.xor_zero] at e2
        have b1 : ((x : Int) / 2 ^ k % 2 == 1) = false := by rw [Hed.out, beq_eq_false_iff_ne]; omega
        generalize Crc.tur (at0 m) k x = r at e1 e2 hr
        have E2 := Lib.hid e2
        clear ho e2 e1 c1
        go_wp2_with fail
        go_round
        case rel => exact ⟨k + 1, by omega, by go_num, by rw [E2.out]⟩
        case measure => simp [intOf]; omega
    · obtain rfl : k = 32 := by omega
      go_wp2_with fail
      go_ret
      exact ⟨rfl, hb2⟩
end Go.Proofs.Ytdonocchidfooaa
