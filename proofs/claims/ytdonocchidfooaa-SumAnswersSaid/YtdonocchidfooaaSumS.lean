/- The walks of sum.steps, sum.Join, sum.Zeros. -/
import Derived.Test.YtdonocchidfooaaSumT2
import Derived.Laws.BitsLemmas
namespace Go.Proofs.Ytdonocchidfooaa
open Go.RowKit

theorem i64_and1 (n : Int) : bits .and .i64 n 1 = n % 2 := by
  have h1 : (BitVec.ofInt 64 1).toNat = 2 ^ 1 - 1 := by decide
  have key : (BitVec.ofInt 64 n &&& BitVec.ofInt 64 1).toNat = (n % ((2 ^ 64 : Nat) : Int)).toNat % 2 ^ 1 := by
    rw [BitVec.toNat_and, BitVec.toNat_ofInt, h1, Nat.and_two_pow_sub_one_eq_mod]
  show IntKind.i64.wrap ((BitVec.ofInt 64 n &&& BitVec.ofInt 64 1).toNat : Nat) = n % 2
  rw [key, IntKind.wrap_i64]
  omega

/-- a list of 32 numbers that says what n steps do with each bit -/
def Mat (n : Nat) (m : List Nat) : Prop := m.length = 32 ∧ ∀ i, i < 32 → m[i]? = some (Crc.stps n (2 ^ i))
theorem Mat.at0 {n : Nat} {m : List Nat} (h : Mat n m) (i : Nat) (hi : i < 32) : at0 m i = Crc.stps n (2 ^ i) := at0_of (h.2 i hi)
theorem two_pow_lt {i : Nat} (hi : i < 32) : 2 ^ i < 4294967296 := Nat.pow_lt_pow_right (a := 2) (m := i) (n := 32) (by omega) hi
theorem pow2_mod {k : Nat} (hk : k < 32) : (2 : Int) ^ k % 4294967296 = ((2 ^ k : Nat) : Int) := by
  have hp := two_pow_lt hk
  have e : ((2 ^ k : Nat) : Int) = (2 : Int) ^ k := Int.natCast_pow 2 k
  rw [← e]
  generalize 2 ^ k = y at hp
  omega
theorem Mat.lt {n : Nat} {m : List Nat} (h : Mat n m) : ∀ x ∈ m, x < 4294967296 := by
  intro x hx
  obtain ⟨i, hi, rfl⟩ := List.getElem_of_mem hx
  have h1 := h.2 i (by rw [← h.1]; exact hi)
  rw [List.getElem?_eq_getElem hi] at h1
  rw [Option.some.inj h1]
  exact Crc.stps_lt n (two_pow_lt (by rw [← h.1]; exact hi))
theorem Mat.tur {n : Nat} {m : List Nat} (h : Mat n m) {x : Nat} (hx : x < 4294967296) : Crc.tur (Proofs.Ytdonocchidfooaa.at0 m) 32 x = Crc.stps n x := Crc.tur_all _ n h.at0 hx
theorem Mat.twice {n : Nat} {m : List Nat} (h : Mat n m) : Mat (2 * n) (twc m) := by
  refine ⟨by simp [twc], fun i hi => ?_⟩
  simp only [twc, List.getElem?_map, List.getElem?_range hi, Option.map_some]
  rw [Crc.tur_twice _ n h.at0 i hi]

/-- a round of the loop: an even power is left, or one step more is done -/
theorem pow_even (e q v : Nat) (h : q % 2 = 0) : Crc.stps (2 * e * (q / 2)) v = Crc.stps (e * q) v := by
  congr 1
  rw [Nat.mul_comm 2 e, Nat.mul_assoc]; congr 1; omega
theorem pow_odd (e q v : Nat) (h : q % 2 = 1) : Crc.stps (2 * e * (q / 2)) (Crc.stps e v) = Crc.stps (e * q) v := by
  rw [← Crc.stps_add]
  congr 1
  have : q = 2 * (q / 2) + 1 := by omega
  conv => rhs; rw [this]
  rw [Nat.mul_add, Nat.mul_one, Nat.mul_comm 2 e, Nat.mul_assoc, Nat.add_comm]

def Fits (q : Int) : Prop := q ≤ 9223372036854775807
def RelS (x : Nat) (n : Int) (w : World) (v i : Value) (wr : World) : Prop :=
  ∃ (q a e : Nat) (m : List Nat), i = .int .i64 (if n < 0 then n else q) ∧ (n < 0 → q = 0) ∧ Fits q ∧ v = .int .u32 a ∧ a < 4294967296 ∧ Mat e m ∧ Crc.stps (e * q) a = Crc.stps (8 * n.toNat) x ∧
        wr.heap[w.heap.size]? = some (.cells (rowOf m) 52) ∧ Below w.heap.size w wr ∧ w.heap.size + 1 ≤ wr.heap.size

set_option maxHeartbeats 400000 in
theorem steps_any (x : Nat) (hx : x < 4294967296) (n : Int) (hn : n ≤ 9223372036854775807) (w : World) : Calls Try.prog 30 #[.int .u32 x, .int .i64 n] w fun e w' => e = .returned (.int .u32 (Crc.stps (8 * n.toNat) x)) ∧ Below w.heap.size w w' := by
  go_enter Try.func30, Try.ntmps30
  go_wp2_with fail
  go_loopw [7] (fun i wr => ∃ k : Nat, k ≤ 32 ∧ i = .int .i64 k ∧ ∃ cur : List Nat, cur.length = 32 ∧ (∀ j, j < k → cur[j]? = some (Crc.stps 8 (2 ^ j))) ∧
    wr.heap[w.heap.size]? = some (.cells (rowOf cur) 52) ∧ Below w.heap.size w wr ∧ w.heap.size + 1 ≤ wr.heap.size) (fun i _ => 32 - (intOf i).toNat)
  case atStart =>
    have h1 := heap_alloc_new w (.cells (rowOf (List.replicate 32 0)) 52)
    exact ⟨0, Nat.zero_le _, rfl, _, rfl, fun j hj => absurd hj (by omega), h1, (Below.refl _ _).alloc (Nat.le_refl _) _, by simp⟩
  case round =>
    obtain ⟨k, hk, rfl, cur, hcl, hcur, g1, hb, hz⟩ := hrel
    by_cases hlt : k < 32
    · have hp := two_pow_lt hlt
      have Hcur := Lib.hid hcur
      clear hcur
      go_wp2_with fail
      rw [pow2_mod hlt]
      refine (sumEight_any (2 ^ k) hp _).mono ?_
      rintro e w1 ⟨rfl, hb1⟩
      have g2 : w1.heap[w.heap.size]? = some (.cells (rowOf cur) 52) := (hb1.block w.heap.size (by omega)).trans g1
      have hb2 : Below w.heap.size w w1 := hb.trans (hb1.mono (by omega))
      have hz2 : w.heap.size + 1 ≤ w1.heap.size := Nat.le_trans hz hb1.size
      have c3 := cell_rowOf g2 (at0_get (m := cur) (i := k) (by omega))
      have f3 := free_rowOf g2 k
      have H3 := Lib.hid (setCell_rowOf g2 k (Crc.eig (2 ^ k)))
      clear g1 g2 hb hz hb1
      have H8 := Lib.hid (Crc.eig_eq (2 ^ k))
      generalize Crc.eig (2 ^ k) = v at H3 H8
      go_wp2_with fail
      go_roundw
      case rel =>
        refine ⟨k + 1, by omega, by go_num, cur.set k v, by simpa using hcl, fun j hj => ?_, H3.out, hb2.setCell (Nat.le_refl _) _, by simpa [World.setCell] using hz2⟩
        by_cases e : j = k
        · subst e; rw [List.getElem?_set_self (by omega), H8.out]
        · rw [List.getElem?_set_ne (by omega)]; exact Hcur.out j (by omega)
      case measure => simp [intOf]; omega
    · have hM : Mat 8 cur := ⟨hcl, fun i hi => hcur i (by omega)⟩
      clear hcur hcl
      obtain ⟨wo, rfl⟩ : ∃ wo : World, wo = wr := ⟨_, rfl⟩
      go_wp2_with fail
      go_loopw [0, 1] (fun v i wr => RelS x n w v i wr) (fun _ i _ => (intOf i).toNat)
      case atStart =>
        refine ⟨n.toNat, x, 8, cur, ?_, fun h => by omega, (show ((n.toNat : Int) ≤ 9223372036854775807) by omega), rfl, hx, hM, rfl, g1, hb, hz⟩
        congr 1
        split <;> omega
      case round =>
        obtain ⟨q, a, e, m, rfl, hq0, hq1', rfl, ha, hM, hS, g1, hb, hz⟩ := hrel
        have hq1 : (q : Int) ≤ 9223372036854775807 := hq1'
        have hsz : (Try.prog.info? 52).map (·.size) = some (rowOf m).size := by rw [rowOf_size, hM.1]; exact row52
        have hsz2 : (Try.prog.info? 52).map (·.size) = some (rowOf (twc m)).size := by rw [rowOf_size, hM.twice.1]; exact row52
        by_cases hlt : 0 < q
        · have hn0 : ¬ n < 0 := fun h => by have := hq0 h; omega
          rw [if_neg hn0]
          clear hq0
          have ht := hM.tur ha
          have hal := Crc.stps_lt e ha
          have Ht := Lib.hid ht
          have HS := Lib.hid hS
          clear ht hS
          have hand := i64_and1 (q : Int)
          have hdv := Lib.hid (show (q : Int) / 2 = ((q / 2 : Nat) : Int) by omega)
          by_cases hodd : q % 2 = 1
          · have b1 : ((q : Int) % 2 == 1) = true := by rw [beq_iff_eq]; omega
            have HS2 := Lib.hid ((pow_odd e q a hodd).trans HS.out)
            clear hodd
            go_wp2_with (refine wpList_load_row rfl 52 (.tmp 5) rfl w.heap.size rfl 52 (rowOf m) (0, 0) _ g1 Try.underlying52 rfl hsz ?_)
            refine (turnOf_any m hM.1 hM.lt a ha _).mono ?_
            rintro _ w1 ⟨rfl, hb1⟩
            rw [Ht.out]
            have g2 : w1.heap[w.heap.size]? = some (.cells (rowOf m) 52) := (hb1.block w.heap.size (by omega)).trans g1
            have hb2' : Below w.heap.size w w1 := hb.trans (hb1.mono (by omega))
            have hz2' : w.heap.size + 1 ≤ w1.heap.size := Nat.le_trans hz hb1.size
            clear g1 hb hz hb1
            go_wp2_with (refine wpList_load_row rfl 52 (.tmp 5) rfl w.heap.size rfl 52 (rowOf m) (0, 0) _ g2 Try.underlying52 rfl hsz ?_)
            refine (turnTwice_any m hM.1 hM.lt _).mono ?_
            rintro _ w2 ⟨rfl, hb2⟩
            have g3 : w2.heap[w.heap.size]? = some (.cells (rowOf m) 52) := (hb2.block w.heap.size (by omega)).trans g2
            have hb3 : Below w.heap.size w w2 := hb2'.trans (hb2.mono (by omega))
            have hz3 : w.heap.size + 1 ≤ w2.heap.size := Nat.le_trans hz2' hb2.size
            clear g2 hb2' hz2'
            go_wp2_with (refine wpList_store_row rfl 52 (.tmp 5) (.tmp 27) rfl w.heap.size (rowOf (twc m)) rfl rfl 52 _ g3 hsz2 ?_ (rowOf_one _) ?_; (rw [rowOf_size, rowOf_size, hM.1, hM.twice.1]))
            clear hq1 hn
            go_roundw
            case rel =>
              have hq1 : (q : Int) ≤ 9223372036854775807 := hq1'
              refine ⟨q / 2, Crc.stps e a, 2 * e, twc m, by rw [if_neg (by omega)]; exact congrArg _ hdv.out, fun h => by omega, (show (((q / 2 : Nat) : Int) ≤ 9223372036854775807) by omega), rfl, hal, hM.twice, HS2.out, setRow_heap w2 _ _ _ _ _ g3, below_setRow hb3 (Nat.le_refl _) _, by rw [setRow_size]; exact hz3⟩
            case measure => simp [intOf]; omega
          · have b1 : ((q : Int) % 2 == 1) = false := by rw [beq_eq_false_iff_ne]; omega
            have HS2 := Lib.hid ((pow_even e q a (by omega)).trans HS.out)
            clear hodd
            go_wp2_with (refine wpList_load_row rfl 52 (.tmp 5) rfl w.heap.size rfl 52 (rowOf m) (0, 0) _ g1 Try.underlying52 rfl hsz ?_)
            refine (turnTwice_any m hM.1 hM.lt _).mono ?_
            rintro _ w2 ⟨rfl, hb2⟩
            have g3 : w2.heap[w.heap.size]? = some (.cells (rowOf m) 52) := (hb2.block w.heap.size (by omega)).trans g1
            have hb3 : Below w.heap.size w w2 := hb.trans (hb2.mono (by omega))
            have hz3 : w.heap.size + 1 ≤ w2.heap.size := Nat.le_trans hz hb2.size
            clear g1 hb hz
            go_wp2_with (refine wpList_store_row rfl 52 (.tmp 5) (.tmp 27) rfl w.heap.size (rowOf (twc m)) rfl rfl 52 _ g3 hsz2 ?_ (rowOf_one _) ?_; (rw [rowOf_size, rowOf_size, hM.1, hM.twice.1]))
            clear hq1 hn
            go_roundw
            case rel =>
              have hq1 : (q : Int) ≤ 9223372036854775807 := hq1'
              refine ⟨q / 2, a, 2 * e, twc m, by rw [if_neg (by omega)]; exact congrArg _ hdv.out, fun h => by omega, (show (((q / 2 : Nat) : Int) ≤ 9223372036854775807) by omega), rfl, ha, hM.twice, HS2.out, setRow_heap w2 _ _ _ _ _ g3, below_setRow hb3 (Nat.le_refl _) _, by rw [setRow_size]; exact hz3⟩
            case measure => simp [intOf]; omega
        · obtain rfl : q = 0 := by omega
          have hng : ((if n < 0 then n else ((0 : Nat) : Int)) : Int) ≤ 0 := by split <;> omega
          generalize ((if n < 0 then n else ((0 : Nat) : Int)) : Int) = n' at hng
          have hS' : a = Crc.stps (8 * n.toNat) x := hS
          have HS' := Lib.hid hS'
          clear hS hS' hq0 hq1 hq1'
          go_wp2_with fail
          go_ret
          exact ⟨ret_int (congrArg _ HS'.out), hb⟩

set_option maxHeartbeats 400000 in
theorem sumJoin_any (a b : Nat) (ha : a < 4294967296) (hb : b < 4294967296) (n : Int) (hn : n ≤ 9223372036854775807) (w : World) : Calls Try.prog 24 #[.int .u32 a, .int .u32 b, .int .i64 n] w fun e w' => e = .returned (.int .u32 (Crc.joi a b n.toNat)) ∧ Below w.heap.size w w' := by
  have e1 := u32_xor_nat _ b (Crc.stps_lt (8 * n.toNat) ha) hb
  have e2 : Crc.joi a b n.toNat = Crc.stps (8 * n.toNat) a ^^^ b := rfl
  rw [← e2] at e1
  generalize Crc.joi a b n.toNat = r at e1
  have H := Lib.hid (steps_any a ha n hn w)
  clear e2
  generalize Crc.stps (8 * n.toNat) a = s at e1 H
  go_enter Try.func24, Try.ntmps24
  go_wp2_with fail
  refine H.out.mono ?_
  rintro e w1 ⟨rfl, hb1⟩
  go_wp2_with fail
  go_ret
  exact ⟨rfl, hb1⟩

set_option maxHeartbeats 400000 in
theorem sumZeros_any (n : Int) (hn : n ≤ 9223372036854775807) (w : World) : Calls Try.prog 26 #[.int .i64 n] w fun e w' => e = .returned (.int .u32 (Crc.zer n.toNat)) ∧ Below w.heap.size w w' := by
  have e1 := bits_no _ (Crc.stps_lt (8 * n.toNat) (w := 4294967295) (by omega))
  have e2 : Crc.zer n.toNat = Crc.no (Crc.stps (8 * n.toNat) 4294967295) := rfl
  rw [← e2] at e1
  generalize Crc.zer n.toNat = r at e1
  have H := Lib.hid (steps_any 4294967295 (by omega) n hn w)
  clear e2
  generalize Crc.stps (8 * n.toNat) 4294967295 = s at e1 H
  go_enter Try.func26, Try.ntmps26
  go_wp2_with fail
  refine H.out.mono ?_
  rintro e w1 ⟨rfl, hb1⟩
  go_wp2_with fail
  go_ret
  exact ⟨rfl, hb1⟩
end Go.Proofs.Ytdonocchidfooaa
