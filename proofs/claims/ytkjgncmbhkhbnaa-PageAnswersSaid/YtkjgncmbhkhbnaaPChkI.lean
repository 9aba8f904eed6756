/- The program's Check: index. -/
import Derived.Test.YtkjgncmbhkhbnaaPChk
import Derived.Deep.Cut
import Derived.Deep.CutRange
namespace Go.Proofs.Ytkjgncmbhkhbnaa
open Go.RowKit
set_option linter.unusedVariables false

set_option maxHeartbeats 4000000 in
set_option maxRecDepth 20000 in
theorem pCheck_index (level : Int) (items : List PI) (data : List UInt8) (next : Int) (ia : Option Addr) (ic : Nat) (da : Option Addr) (dc : Nat) (w : World) (hp : PgAt w.heap.size w ⟨2, level, items, data, next⟩ ia ic da dc) (hf : okForm 2 level items.length data.length next = true) :
    Calls Try.prog 26 #[.agg #[.int .i64 2, .int .i64 level, .slice ia items.length ic, .slice da data.length dc, .int .i64 next]] w (Checked ⟨2, level, items, data, next⟩ w) := by
  have hmf : ∀ (fn : Fn) (first cap : Array Value) (w : World), (Instr.makeFunc fn first cap).run Try.prog w = .ok (.func fn first cap) w := fun _ _ _ _ => rfl
  have HP := Lib.hid hp
  have HCk := Lib.hid (Ck.start w ⟨2, level, items, data, next⟩ ia ic da dc)
  have HF := Lib.hid fun w => pForm_any ⟨2, level, items, data, next⟩ ia ic da dc w
  have HR := Lib.hid (pcheck_end ⟨2, level, items, data, next⟩ (by show 1 ≤ (2 : Int); decide) (by show (2 : Int) ≤ 3; decide) hf)
  simp only [pgv] at *
  obtain ⟨n, hn⟩ : ∃ n, items.length = n := ⟨_, rfl⟩
  obtain ⟨m, hm⟩ : ∃ m, data.length = m := ⟨_, rfl⟩
  rw [hn, hm] at HCk HF hf ⊢
  have HN := Lib.hid hn
  have HM := Lib.hid hm
  have Hf := Lib.hid hf
  clear hp hn hm hf
  go_enter Try.func26, Try.ntmps26
  go_wp2_with fail
  have hS := HCk.out
  refine (must_any _ _ _ _ _ hS.first).mono ?_
  rintro _ u hmu
  obtain rfl := hmu.1
  replace hS : Ck w ⟨2, level, items, data, next⟩ ia ic da dc 0 u := (hS.must hmu).cast (by simp [latch])
  clear hmu
  obtain ⟨c0, c1, c2, c3, c4⟩ := cells5 hS.box
  go_wp2_with fail
  rw [HN.out, HM.out]
  refine (HF.out _).mono ?_
  rintro _ u2 ⟨⟨bf, rfl, hbf⟩, hB2⟩
  obtain rfl : bf = true := (hbf (by show 1 ≤ (2 : Int); decide) (by show (2 : Int) ≤ 3; decide)).trans Hf.out
  replace hS := hS.below hB2
  clear c0 c1 c2 c3 c4 hB2 hbf
  go_wp2_with fail
  refine (must_any _ _ _ _ _ hS.first).mono ?_
  rintro _ u3 hmu
  obtain rfl := hmu.1
  replace hS := (hS.must hmu).cast (show latch 0 true 5 = 0 by simp [latch])
  clear hmu
  have cf := hS.first.cell
  obtain ⟨c0, c1, c2, c3, c4⟩ := cells5 hS.box
  go_wp2_with fail
  have HS := Lib.hid hS
  clear hS cf c0 c1 c2 c3 c4
  go_loopw [5, 30] (fun above i wr => RelCk w ⟨2, level, items, data, next⟩ ia ic da dc above i wr) (fun _ i _ => n - (intOf i).toNat)
  case atStart => exact ⟨0, Nat.zero_le _, rfl, HS.out, none, 0, [], rfl, ⟨.inl rfl, .inl rfl, by simp, fun _ => rfl⟩, fun h => absurd h (by omega)⟩
  case round =>
    obtain ⟨j, hj, rfl, hS, ka0, kc0, ks, rfl, hks, hab⟩ := hrel
    have hj : j ≤ n := by rw [← HN.out]; exact hj
    have HKS := Lib.hid hks
    have HAB := Lib.hid hab
    clear HS hks hab
    by_cases hjn : j < n
    · obtain ⟨x, hx⟩ : ∃ x, items[j]? = some x := ⟨_, List.getElem?_eq_getElem (by rw [HN.out]; exact hjn)⟩
      obtain ⟨b, off, ka, kc, va, vc, rfl, hb, hit⟩ := HP.out.its.at hx
      have hl : j < items.length := by rw [HN.out]; exact hjn
      have HNX := Lib.hid (firstBad_next 2 items j x ks hx HAB.out)
      have HAN := Lib.hid (show x.key = aboveAt items (j + 1) by unfold aboveAt; rw [Nat.add_sub_cancel, hx])
      have HIT := Lib.hid hit
      have i0 := ((hit.below hb hS.bel).c0)
      have i1 := ((hit.below hb hS.bel).c1)
      have i2 := ((hit.below hb hS.bel).c2)
      have i3 := ((hit.below hb hS.bel).c3)
      have hX := hS.item x ka kc va vc
      obtain ⟨key, value, child, size⟩ := x
      have c0 := (cells5 hX.ck.box).1
      have HJ := Lib.hid hjn
      have hnb : n ≤ 9223372036854775807 := by rw [← HN.out]; exact HP.out.len
      have hw : wrap64 ((j : Int) + 1) = (j : Int) + 1 := IntWalk.wrap64_in _ ⟨by omega, by omega⟩
      clear hit hx hS hj hnb hjn
      by_cases hj0 : j = 0
      · subst hj0
        clear hw
        simp only [Nat.zero_mul, Nat.add_zero] at i0 i1 i2 i3
        rw [show ((0 : Nat) : Int) = 0 from rfl]
        by_cases hv0 : (value.length : Int) = 0
        · have hd : decide ((value.length : Int) = 0) = true := by simpa using hv0
          have hd2 : ((value.length : Int) == 0) = true := by simpa using hv0
          as_aux_lemma =>
            go_wp2_with (first
              | (go_at_call 39; refine (must_any _ _ _ _ _ hX.ck.first).mono ?_; rintro _ u hmu; obtain rfl := hmu.1; replace hX := hX.must hmu; clear hmu; replace c0 := (cells5 hX.ck.box).1; obtain ⟨x0, x1, x2, x3⟩ := cells4P hX.row)
              | (go_at_call 41; refine (HCM.out _ hX.ck.bel).mono ?_; rintro _ _ ⟨rfl, rfl⟩)
              | (go_at_call 42; refine (pIsPage_any _ _).mono ?_; rintro _ _ ⟨rfl, rfl⟩))
            all_goals
              go_roundw
              case rel =>
                refine ⟨1, by rw [HN.out]; exact HJ.out, by go_num, hX.ck.cast ?_, ka, kc, key, rfl, HIT.out.k, fun _ => HAN.out⟩
                rw [HNX.out]
                generalize firstBad _ _ = r
                exact rel_index0 key_c (by first | exact val_d hv0 | exact val_e hv0) chi_c
              case measure => exact meas_one HJ.out
        · have hd : decide ((value.length : Int) = 0) = false := by simpa using hv0
          have hd2 : ((value.length : Int) == 0) = false := by simpa using hv0
          as_aux_lemma =>
            go_wp2_with (first
              | (go_at_call 39; refine (must_any _ _ _ _ _ hX.ck.first).mono ?_; rintro _ u hmu; obtain rfl := hmu.1; replace hX := hX.must hmu; clear hmu; replace c0 := (cells5 hX.ck.box).1; obtain ⟨x0, x1, x2, x3⟩ := cells4P hX.row)
              | (go_at_call 41; refine (HCM.out _ hX.ck.bel).mono ?_; rintro _ _ ⟨rfl, rfl⟩)
              | (go_at_call 42; refine (pIsPage_any _ _).mono ?_; rintro _ _ ⟨rfl, rfl⟩))
            all_goals
              go_roundw
              case rel =>
                refine ⟨1, by rw [HN.out]; exact HJ.out, by go_num, hX.ck.cast ?_, ka, kc, key, rfl, HIT.out.k, fun _ => HAN.out⟩
                rw [HNX.out]
                generalize firstBad _ _ = r
                exact rel_index0 key_c (by first | exact val_d hv0 | exact val_e hv0) chi_c
              case measure => exact meas_one HJ.out
      · have hj1 : ((j : Int) == 0) = false := by rw [beq_eq_false_iff_ne]; omega
        obtain ⟨c, ec⟩ : ∃ c, Lib.compareBytes key ks = c := ⟨_, rfl⟩
        have HCM := Lib.hid fun w1 (hB : Below w.heap.size w w1) => ec ▸ bytesCompare_any key ks ka ka0 kc kc0 w1 (HIT.out.k.below hB).1 (HKS.out.below hB).1
        have HEC := Lib.hid ec
        clear ec
        by_cases hk1 : (1 : Int) ≤ (key.length : Int)
        · by_cases hv0 : (value.length : Int) = 0
          · have hd : decide ((value.length : Int) = 0) = true := by simpa using hv0
            have hd2 : ((value.length : Int) == 0) = true := by simpa using hv0
            as_aux_lemma =>
              go_wp2_with (first
                | (go_at_call 39; refine (must_any _ _ _ _ _ hX.ck.first).mono ?_; rintro _ u hmu; obtain rfl := hmu.1; replace hX := hX.must hmu; clear hmu; replace c0 := (cells5 hX.ck.box).1; obtain ⟨x0, x1, x2, x3⟩ := cells4P hX.row)
                | (go_at_call 41; refine (HCM.out _ hX.ck.bel).mono ?_; rintro _ _ ⟨rfl, rfl⟩)
                | (go_at_call 42; refine (pIsPage_any _ _).mono ?_; rintro _ _ ⟨rfl, rfl⟩))
              all_goals
                go_roundw
                case rel =>
                  refine ⟨j + 1, by rw [HN.out]; exact HJ.out, by go_num, hX.ck.cast ?_, ka, kc, key, rfl, HIT.out.k, fun _ => HAN.out⟩
                  rw [HNX.out]
                  generalize firstBad _ _ = r
                  exact rel_index (by first | exact key_a (.inr hj0) hk1 | exact key_b (.inr hj0) hk1 | exact key_b (.inr hj0) (Int.not_le.2 hk1)) (cmp_b hj0 HEC.out) (by first | exact val_d hv0 | exact val_e hv0) chi_c
                case measure => exact meas_next HJ.out hw
          · have hd : decide ((value.length : Int) = 0) = false := by simpa using hv0
            have hd2 : ((value.length : Int) == 0) = false := by simpa using hv0
            as_aux_lemma =>
              go_wp2_with (first
                | (go_at_call 39; refine (must_any _ _ _ _ _ hX.ck.first).mono ?_; rintro _ u hmu; obtain rfl := hmu.1; replace hX := hX.must hmu; clear hmu; replace c0 := (cells5 hX.ck.box).1; obtain ⟨x0, x1, x2, x3⟩ := cells4P hX.row)
                | (go_at_call 41; refine (HCM.out _ hX.ck.bel).mono ?_; rintro _ _ ⟨rfl, rfl⟩)
                | (go_at_call 42; refine (pIsPage_any _ _).mono ?_; rintro _ _ ⟨rfl, rfl⟩))
              all_goals
                go_roundw
                case rel =>
                  refine ⟨j + 1, by rw [HN.out]; exact HJ.out, by go_num, hX.ck.cast ?_, ka, kc, key, rfl, HIT.out.k, fun _ => HAN.out⟩
                  rw [HNX.out]
                  generalize firstBad _ _ = r
                  exact rel_index (by first | exact key_a (.inr hj0) hk1 | exact key_b (.inr hj0) hk1 | exact key_b (.inr hj0) (Int.not_le.2 hk1)) (cmp_b hj0 HEC.out) (by first | exact val_d hv0 | exact val_e hv0) chi_c
                case measure => exact meas_next HJ.out hw
        · by_cases hv0 : (value.length : Int) = 0
          · have hd : decide ((value.length : Int) = 0) = true := by simpa using hv0
            have hd2 : ((value.length : Int) == 0) = true := by simpa using hv0
            as_aux_lemma =>
              go_wp2_with (first
                | (go_at_call 39; refine (must_any _ _ _ _ _ hX.ck.first).mono ?_; rintro _ u hmu; obtain rfl := hmu.1; replace hX := hX.must hmu; clear hmu; replace c0 := (cells5 hX.ck.box).1; obtain ⟨x0, x1, x2, x3⟩ := cells4P hX.row)
                | (go_at_call 41; refine (HCM.out _ hX.ck.bel).mono ?_; rintro _ _ ⟨rfl, rfl⟩)
                | (go_at_call 42; refine (pIsPage_any _ _).mono ?_; rintro _ _ ⟨rfl, rfl⟩))
              all_goals
                go_roundw
                case rel =>
                  refine ⟨j + 1, by rw [HN.out]; exact HJ.out, by go_num, hX.ck.cast ?_, ka, kc, key, rfl, HIT.out.k, fun _ => HAN.out⟩
                  rw [HNX.out]
                  generalize firstBad _ _ = r
                  exact rel_index (by first | exact key_a (.inr hj0) hk1 | exact key_b (.inr hj0) hk1 | exact key_b (.inr hj0) (Int.not_le.2 hk1)) (cmp_b hj0 HEC.out) (by first | exact val_d hv0 | exact val_e hv0) chi_c
                case measure => exact meas_next HJ.out hw
          · have hd : decide ((value.length : Int) = 0) = false := by simpa using hv0
            have hd2 : ((value.length : Int) == 0) = false := by simpa using hv0
            as_aux_lemma =>
              go_wp2_with (first
                | (go_at_call 39; refine (must_any _ _ _ _ _ hX.ck.first).mono ?_; rintro _ u hmu; obtain rfl := hmu.1; replace hX := hX.must hmu; clear hmu; replace c0 := (cells5 hX.ck.box).1; obtain ⟨x0, x1, x2, x3⟩ := cells4P hX.row)
                | (go_at_call 41; refine (HCM.out _ hX.ck.bel).mono ?_; rintro _ _ ⟨rfl, rfl⟩)
                | (go_at_call 42; refine (pIsPage_any _ _).mono ?_; rintro _ _ ⟨rfl, rfl⟩))
              all_goals
                go_roundw
                case rel =>
                  refine ⟨j + 1, by rw [HN.out]; exact HJ.out, by go_num, hX.ck.cast ?_, ka, kc, key, rfl, HIT.out.k, fun _ => HAN.out⟩
                  rw [HNX.out]
                  generalize firstBad _ _ = r
                  exact rel_index (by first | exact key_a (.inr hj0) hk1 | exact key_b (.inr hj0) hk1 | exact key_b (.inr hj0) (Int.not_le.2 hk1)) (cmp_b hj0 HEC.out) (by first | exact val_d hv0 | exact val_e hv0) chi_c
                case measure => exact meas_next HJ.out hw
    · obtain rfl : j = n := by omega
      have hl : ¬ j < items.length := by rw [HN.out]; omega
      obtain ⟨c0, c1, c2, c3, c4⟩ := cells5 hS.box
      have HE := Lib.hid (show pcheck ⟨2, level, items, data, next⟩ = latch (firstBad (itErr 2 items) j) (next == 0 || isPg next) 15 by rw [HR.out, HN.out])
      clear hj HR
      go_wp2_with (first
        | (go_at_call 39; refine (must_any _ _ _ _ _ hS.first).mono ?_; rintro _ u hmu; obtain rfl := hmu.1; replace hS := hS.must hmu; clear hmu; have cf := hS.first.cell)
        | (go_at_call 42; refine (pIsPage_any _ _).mono ?_; rintro _ _ ⟨rfl, rfl⟩))
      all_goals
        go_ret
        refine ⟨ret_i64 ?_, hS.bel⟩
        rw [HE.out] <;> (clear HE hS; first | rfl | (simp; done) | grind)
end Go.Proofs.Ytkjgncmbhkhbnaa
