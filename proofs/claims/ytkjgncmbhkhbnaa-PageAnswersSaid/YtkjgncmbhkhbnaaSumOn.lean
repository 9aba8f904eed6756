/- The walk of sum.on. -/
import Derived.Test.YtkjgncmbhkhbnaaSumH
import Derived.Test.YtkjgncmbhkhbnaaCrc
namespace Go.Proofs.Ytkjgncmbhkhbnaa
open Go.RowKit

theorem tab_stps : ∀ k, k < 16 → tab[k]? = some (Crc.stps 4 k) := by decide
theorem half_step (C : Nat) (hC : C < 4294967296) : ∃ d T D : Nat, d < 16 ∧ D < 4294967296 ∧ tab[d]? = some T ∧ bits .and .u32 (C : Int) 15 = (d : Int) ∧ bits .xor .u32 ((C : Int) / 16) (T : Int) = (D : Int) ∧ D = Crc.stps 4 C := by
  have hd : C % 16 < 16 := Nat.mod_lt _ (by omega)
  have hT := Crc.stps_lt 4 (w := C % 16) (by omega)
  refine ⟨C % 16, Crc.stps 4 (C % 16), Crc.stps 4 C, hd, Crc.stps_lt 4 hC, tab_stps _ hd, ?_, ?_, rfl⟩
  · rw [show (15 : Int) = ((15 : Nat) : Int) from rfl, u32_and_nat C 15 hC (by omega), nat_mask4]
  · rw [show (C : Int) / 16 = ((C / 16 : Nat) : Int) from by omega, u32_xor_nat _ _ (by omega) hT, ← Crc.stps4]

set_option maxHeartbeats 400000 in
theorem on_any (x : Nat) (hx : x < 4294967296) (bs : List UInt8) (a : Option Addr) (cap : Nat) (hb : bs.length ≤ 9223372036854775807) (w : World) (hc : Bts w a bs) : Calls Try.prog 63 #[.int .u32 x, .slice a bs.length cap] w fun e w' => e = .returned (.int .u32 (Crc.on x bs)) ∧ Below w.heap.size w w' := by
  have h48 := row48
  go_enter Try.func63, Try.ntmps63
  go_wp2_with (first
    | (go_at_call 68; refine (halves_any _).mono ?_; rintro e w1 ⟨rfl, hb1⟩)
    | (refine wpList_store_row rfl 87 (.tmp 5) (.tmp 8) rfl w1.heap.size (rowOf tab) rfl rfl 87 _ (heap_alloc_new _ _) row48 rfl (rowOf_one _) ?_; rw [World.setRow_alloc_new]))
  have hb2 : Below w.heap.size w (w1.alloc (.cells (rowOf tab) 87)) := hb1.alloc hb1.size _
  have hg : (w1.alloc (.cells (rowOf tab) 87)).heap[w1.heap.size]? = some (.cells (rowOf tab) 87) := heap_alloc_new _ _
  generalize w1.alloc (.cells (rowOf tab) 87) = w2 at hb2 hg ⊢
  have hc2 := hc.below hb2
  clear h48
  go_loop [0, 11] (fun v i => ∃ k : Nat, k ≤ bs.length ∧ i = .int .i64 k ∧ v = .int .u32 (Crc.on x (bs.take k) : Nat)) (fun _ i => bs.length - (intOf i).toNat)
  case atStart => exact ⟨0, Nat.zero_le _, rfl, by simp [Crc.on]⟩
  case round =>
    obtain ⟨k, hk, rfl, rfl⟩ := hrel
    by_cases hlt : k < bs.length
    · obtain ⟨b, off, rfl, hbw, hcell⟩ : ∃ b off, a = some ⟨b, off, none⟩ ∧ b < w2.heap.size ∧ ∀ i, i < bs.length → w2.cell? ⟨b, off + i, none⟩ = some (.int .u8 ((bs.getD i 0).toNat : Int)) := by
        rcases hc2 with rfl | h
        · simp at hlt
        · exact h
      have hz := hcell k hlt
      clear hcell
      have hA := Crc.on_lt hx (bs.take k)
      have htk : bs.take (k + 1) = bs.take k ++ [bs.getD k 0] := by
        rw [List.take_succ_eq_append_getElem hlt, List.getD_eq_getElem?_getD, List.getElem?_eq_getElem hlt]; rfl
      have hfin : Crc.on x (bs.take (k + 1)) = Crc.eig (Crc.on x (bs.take k) ^^^ (bs.getD k 0).toNat) := by rw [htk, Crc.on_snoc]
      generalize Crc.on x (bs.take k) = A at hA hfin ⊢
      generalize bs.getD k 0 = z at hz hfin ⊢
      have hzl := z.toNat_lt
      have e1 := u32_xor_nat A z.toNat hA (by omega)
      have hC : A ^^^ z.toNat < 4294967296 := Nat.xor_lt_two_pow (n := 32) hA (by omega)
      generalize A ^^^ z.toNat = C at e1 hC hfin
      obtain ⟨d, T, D, hd, hD, ht, e2, e3, rD⟩ := half_step C hC
      obtain ⟨d2, T2, E, hd2, hE, ht2, e4, e5, rE⟩ := half_step D hD
      have c1 := cell_rowOf hg ht
      have c2 := cell_rowOf hg ht2
      have HE : Hid (Crc.on x (bs.take (k + 1)) = E) := by
        rw [hfin, rE, rD, ← Crc.stps8]; exact Crc.eig_eq C
      clear htk hfin ht ht2 rD rE hg hc hc2
      go_wp2
      go_round
      case rel => exact ⟨k + 1, by omega, by go_num, by rw [HE.out]⟩
      case measure => simp [intOf]; omega
    · have e : bs.take k = bs := List.take_of_length_le (by omega)
      rw [e]
      go_wp2
      go_ret
      exact ⟨rfl, hb2⟩
end Go.Proofs.Ytkjgncmbhkhbnaa
