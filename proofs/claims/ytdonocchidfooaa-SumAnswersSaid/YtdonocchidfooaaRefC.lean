/- The walks of coppiceref01.Join, Zeros, and of coppicelaw01.fixed. -/
import Derived.Test.YtdonocchidfooaaRefS
import Derived.Lib.SlBytesConst
namespace Go.Proofs.Ytdonocchidfooaa
open Go.RowKit

set_option maxHeartbeats 400000 in
theorem refJoin_any (a b : Nat) (ha : a < 4294967296) (hb : b < 4294967296) (n : Int) (hn : n ≤ 9223372036854775807) (w : World) : Calls Try.prog 25 #[.int .u32 a, .int .u32 b, .int .i64 n] w fun e w' => e = .returned (.int .u32 (Crc.joi a b n.toNat)) ∧ Below w.heap.size w w' := by
  have e1 := u32_xor_nat _ b (Crc.stps_lt (8 * n.toNat) ha) hb
  have e2 : Crc.joi a b n.toNat = Crc.stps (8 * n.toNat) a ^^^ b := rfl
  rw [← e2] at e1
  generalize Crc.joi a b n.toNat = r at e1
  have H := Lib.hid (refSteps_any a ha n hn w)
  clear e2
  generalize Crc.stps (8 * n.toNat) a = s at e1 H
  go_enter Try.func25, Try.ntmps25
  go_wp2_with fail
  refine H.out.mono ?_
  rintro e w1 ⟨rfl, hb1⟩
  go_wp2_with fail
  go_ret
  exact ⟨rfl, hb1⟩

set_option maxHeartbeats 400000 in
theorem refZeros_any (n : Int) (hn : n ≤ 9223372036854775807) (w : World) : Calls Try.prog 27 #[.int .i64 n] w fun e w' => e = .returned (.int .u32 (Crc.zer n.toNat)) ∧ Below w.heap.size w w' := by
  have e1 := bits_no _ (Crc.stps_lt (8 * n.toNat) (w := 4294967295) (by omega))
  have e2 : Crc.zer n.toNat = Crc.no (Crc.stps (8 * n.toNat) 4294967295) := rfl
  rw [← e2] at e1
  generalize Crc.zer n.toNat = r at e1
  have H := Lib.hid (refSteps_any 4294967295 (by omega) n hn w)
  clear e2
  generalize Crc.stps (8 * n.toNat) 4294967295 = s at e1 H
  go_enter Try.func27, Try.ntmps27
  go_wp2_with fail
  refine H.out.mono ?_
  rintro e w1 ⟨rfl, hb1⟩
  go_wp2_with fail
  go_ret
  exact ⟨rfl, hb1⟩

/-- bytes as cells -/
def bytesOf (bs : List UInt8) : Array Value := (bs.map fun b => Value.int .u8 (b.toNat : Int)).toArray
theorem Bts.new (w : World) (bs : List UInt8) (t : TypeId) (fr : Nat × Nat) : Bts (w.alloc (.cells (bytesOf bs) t fr)) (some ⟨w.heap.size, 0, none⟩) bs := by
  refine .inr ⟨_, _, rfl, by simp, fun i hi => ?_⟩
  rw [Nat.zero_add, cell_of_row _ _ i _ t fr (heap_alloc_new _ _)]
  simp [bytesOf, List.getD_eq_getElem?_getD, List.getElem?_eq_getElem hi]

theorem fix1 : Crc.ofs [49, 50, 51, 52, 53, 54, 55, 56, 57] = 3808858755 := by decide +kernel
theorem fix2 : Crc.mor 0 [97] = 3251651376 := by decide +kernel
theorem fix3 : Crc.joi 1 0 1 = 4067132163 := by decide +kernel
theorem fix4 : Crc.zer 32 = 2324772522 := by decide +kernel

set_option maxHeartbeats 400000 in
theorem fixed_any (w : World) : Calls Try.prog 14 #[] w fun e w' => e = .returned (.bool true) ∧ Below w.heap.size w w' := by
  have kc := fun (w : World) (C : Array Value) (n c : Nat) => Lib.run_convert_bytes_const (P := Try.prog) w 25 5 C n c Try.underlying25 Try.underlying5
  have b0 := (Below.refl w.heap.size w).alloc (Nat.le_refl _) (.cells (bytesOf [49, 50, 51, 52, 53, 54, 55, 56, 57]) 5 (9, 10))
  have t0 := Bts.new w [49, 50, 51, 52, 53, 54, 55, 56, 57] 5 (9, 10)
  go_enter Try.func14, Try.ntmps14
  go_wp2_with fail
  refine (sumOf_any [49, 50, 51, 52, 53, 54, 55, 56, 57] _ _ (by decide) _ t0).mono ?_
  rintro e w1 ⟨rfl, b1⟩
  rw [fix1]
  replace b1 := b0.trans (b1.mono b0.size)
  clear b0 t0
  have b2 := b1.alloc b1.size (.cells (bytesOf [97]) 5 (1, 2))
  have t2 := Bts.new w1 [97] 5 (1, 2)
  go_wp2_with fail
  refine (sumMore_any 0 (by decide) [97] _ _ (by decide) _ t2).mono ?_
  rintro e w3 ⟨rfl, b3⟩
  rw [fix2]
  replace b3 := b2.trans (b3.mono b2.size)
  clear b1 b2 t2
  go_wp2_with fail
  refine (sumJoin_any 1 0 (by decide) (by decide) 1 (by decide) _).mono ?_
  rintro e w4 ⟨rfl, b4⟩
  rw [show Crc.joi 1 0 (1 : Int).toNat = 4067132163 from fix3]
  replace b4 := b3.trans (b4.mono b3.size)
  clear b3
  go_wp2_with fail
  refine (sumZeros_any 32 (by decide) _).mono ?_
  rintro e w5 ⟨rfl, b5⟩
  rw [show Crc.zer (32 : Int).toNat = 2324772522 from fix4]
  replace b5 := b4.trans (b5.mono b4.size)
  clear b4
  go_wp2_with fail
  go_ret
  exact ⟨rfl, b5⟩
end Go.Proofs.Ytdonocchidfooaa
