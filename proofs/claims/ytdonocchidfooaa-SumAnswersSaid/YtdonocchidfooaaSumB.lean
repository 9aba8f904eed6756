/- The walks of sum.Of, sum.More, sum.eight. -/
import Derived.Test.YtdonocchidfooaaSumOn
namespace Go.Proofs.Ytdonocchidfooaa
open Go.RowKit

theorem bits_no (n : Nat) (h : n < 4294967296) : bits .xor .u32 IntKind.u32.max (n : Int) = (Crc.no n : Int) := by
  rw [show IntKind.u32.max = ((4294967295 : Nat) : Int) from rfl, u32_xor_nat _ _ (by omega) h, Crc.no_eq]

set_option maxHeartbeats 400000 in
theorem sumOf_any (bs : List UInt8) (a : Option Addr) (cap : Nat) (hb : bs.length ≤ 9223372036854775807) (w : World) (hc : Bts w a bs) : Calls Try.prog 20 #[.slice a bs.length cap] w fun e w' => e = .returned (.int .u32 (Crc.ofs bs)) ∧ Below w.heap.size w w' := by
  have hl := Crc.on_lt (w := 4294967295) (by omega) bs
  have e1 := bits_no _ hl
  have hx : Crc.no (Crc.on 4294967295 bs) = Crc.ofs bs := rfl
  rw [hx] at e1
  have hon := on_any 4294967295 (by omega) bs a cap hb w hc
  have Hon := Lib.hid hon
  clear hon
  generalize Crc.ofs bs = r at e1 ⊢
  clear hx
  go_enter Try.func20, Try.ntmps20
  go_wp2_with (go_at_call 28; refine (Hon.out).mono ?_; rintro e w1 ⟨rfl, hb1⟩)
  go_ret
  exact ⟨rfl, hb1⟩

set_option maxHeartbeats 400000 in
theorem sumMore_any (s : Nat) (hs : s < 4294967296) (bs : List UInt8) (a : Option Addr) (cap : Nat) (hb : bs.length ≤ 9223372036854775807) (w : World) (hc : Bts w a bs) : Calls Try.prog 22 #[.int .u32 s, .slice a bs.length cap] w fun e w' => e = .returned (.int .u32 (Crc.mor s bs)) ∧ Below w.heap.size w w' := by
  have hl := Crc.on_lt (Crc.no_lt hs) bs
  have e0 := bits_no _ hs
  have e1 := bits_no _ hl
  have hon := on_any (Crc.no s) (Crc.no_lt hs) bs a cap hb w hc
  have Hon := Lib.hid hon
  clear hon
  rw [show Crc.mor s bs = Crc.no (Crc.on (Crc.no s) bs) from rfl]
  generalize Crc.no (Crc.on (Crc.no s) bs) = r at e1 ⊢
  go_enter Try.func22, Try.ntmps22
  go_wp2_with fail
  refine (Hon.out).mono ?_
  rintro e w1 ⟨rfl, hb1⟩
  go_wp2_with fail
  go_ret
  exact ⟨rfl, hb1⟩

set_option maxHeartbeats 400000 in
theorem sumEight_any (x : Nat) (hx : x < 4294967296) (w : World) : Calls Try.prog 34 #[.int .u32 x] w fun e w' => e = .returned (.int .u32 (Crc.eig x)) ∧ Below w.heap.size w w' := by
  go_enter Try.func34, Try.ntmps34
  go_wp2_with (first
    | (go_at_call 32; refine (halves_any _).mono ?_; rintro e w1 ⟨rfl, hb1⟩)
    | (refine wpList_store_row rfl 48 (.tmp 3) (.tmp 4) rfl w1.heap.size (rowOf tab) rfl rfl 48 _ (heap_alloc_new _ _) row48 rfl (rowOf_one _) ?_; rw [World.setRow_alloc_new]
       have hb2 : Below w.heap.size w (w1.alloc (.cells (rowOf tab) 48)) := hb1.alloc hb1.size _
       have hg : (w1.alloc (.cells (rowOf tab) 48)).heap[w1.heap.size]? = some (.cells (rowOf tab) 48) := heap_alloc_new _ _
       generalize w1.alloc (.cells (rowOf tab) 48) = w2 at hb2 hg ⊢
       obtain ⟨d, T, D, hd, hD, ht, e2, e3, rD⟩ := half_step x hx
       obtain ⟨d2, T2, E, hd2, hE, ht2, e4, e5, rE⟩ := half_step D hD
       have c1 := cell_rowOf hg ht
       have c2 := cell_rowOf hg ht2
       have HE : Hid (Crc.eig x = E) := by rw [rE, rD, ← Crc.stps8]; exact Crc.eig_eq x
       clear ht ht2 rD rE hg))
  go_ret
  exact ⟨ret_int (congrArg _ HE.out.symm), hb2⟩
end Go.Proofs.Ytdonocchidfooaa
