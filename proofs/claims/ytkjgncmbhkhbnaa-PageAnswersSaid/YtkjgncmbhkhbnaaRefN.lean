/- The walks of coppiceref01.on, Of. -/
import Derived.Test.YtkjgncmbhkhbnaaRefA
namespace Go.Proofs.Ytkjgncmbhkhbnaa
open Go.RowKit

def RelOn (x : Nat) (bs : List UInt8) (v i : Value) : Prop := ∃ k : Nat, k ≤ bs.length ∧ i = .int .i64 k ∧ v = .int .u32 (Crc.on x (bs.take k) : Nat)

set_option maxHeartbeats 400000 in
theorem refOn_any (x : Nat) (hx : x < 4294967296) (bs : List UInt8) (a : Option Addr) (cap : Nat) (hb : bs.length ≤ 9223372036854775807) (w : World) (hc : Bts w a bs) : Calls Try.prog 66 #[.int .u32 x, .slice a bs.length cap] w fun e w' => e = .returned (.int .u32 (Crc.on x bs)) ∧ w = w' := by
  go_enter Try.func66, Try.ntmps66
  go_wp2_with fail
  go_loop [0, 5] (fun v i => RelOn x bs v i) (fun _ i => bs.length - (intOf i).toNat)
  case atStart => exact ⟨0, Nat.zero_le _, rfl, by simp [Crc.on]⟩
  case round =>
    obtain ⟨k, hk, rfl, rfl⟩ := hrel
    by_cases hlt : k < bs.length
    · obtain ⟨b, off, rfl, hbw, hcell⟩ : ∃ b off, a = some ⟨b, off, none⟩ ∧ b < w.heap.size ∧ ∀ i, i < bs.length → w.cell? ⟨b, off + i, none⟩ = some (.int .u8 ((bs.getD i 0).toNat : Int)) := by
        rcases hc with rfl | h
        · simp at hlt
        · exact h
      have hz := hcell k hlt
      clear hcell
      have hA := Crc.on_lt hx (bs.take k)
      have htk : bs.take (k + 1) = bs.take k ++ [bs.getD k 0] := by
        rw [List.take_succ_eq_append_getElem hlt, List.getD_eq_getElem?_getD, List.getElem?_eq_getElem hlt]; rfl
      have hfin : Crc.on x (bs.take (k + 1)) = Crc.eig (Crc.on x (bs.take k) ^^^ (bs.getD k 0).toNat) := by rw [htk, Crc.on_snoc]
      generalize Crc.on x (bs.take k) = A at hA hfin ⊢
      generalize bs.getD k 0 = z at hz hfin ⊢
      have hzl := z.toNat_lt
      have e1 := u32_xor_nat A z.toNat hA (by omega)
      have hC : A ^^^ z.toNat < 4294967296 := Nat.xor_lt_two_pow (n := 32) hA (by omega)
      generalize A ^^^ z.toNat = C at e1 hC hfin
      have HE := Lib.hid hfin
      clear htk hfin hc
      go_wp2_with fail
      refine (refEight_any C hC _).mono ?_
      rintro _ _ ⟨rfl, rfl⟩
      go_wp2_with fail
      go_round
      case rel => exact ⟨k + 1, by omega, by go_num, by rw [HE.out]⟩
      case measure => simp [intOf]; omega
    · have e : bs.take k = bs := List.take_of_length_le (by omega)
      rw [e]
      go_wp2_with fail
      go_ret
      exact ⟨rfl, rfl⟩

set_option maxHeartbeats 400000 in
theorem refOf_any (bs : List UInt8) (a : Option Addr) (cap : Nat) (hb : bs.length ≤ 9223372036854775807) (w : World) (hc : Bts w a bs) : Calls Try.prog 58 #[.slice a bs.length cap] w fun e w' => e = .returned (.int .u32 (Crc.ofs bs)) ∧ w = w' := by
  have hl := Crc.on_lt (w := 4294967295) (by omega) bs
  have e1 := bits_no _ hl
  have hx : Crc.no (Crc.on 4294967295 bs) = Crc.ofs bs := rfl
  rw [hx] at e1
  have Hon := Lib.hid (refOn_any 4294967295 (by omega) bs a cap hb w hc)
  generalize Crc.ofs bs = r at e1 ⊢
  clear hx
  go_enter Try.func58, Try.ntmps58
  go_wp2_with fail
  refine Hon.out.mono ?_
  rintro _ _ ⟨rfl, rfl⟩
  go_wp2_with fail
  go_ret
  exact ⟨rfl, rfl⟩

end Go.Proofs.Ytkjgncmbhkhbnaa
