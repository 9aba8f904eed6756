/- The document's reader: Get, Short, Zeros. -/
import Derived.Test.YtpjdknmgegbgnaaRq
namespace Go.Proofs.Ytpjdknmgegbgnaa
open Go.RowKit
set_option linter.unusedVariables false

theorem get_raw (s : RS) (k : Nat) : (s.get k).1 = unle (s.raw (k : Int)).1 ∧ (s.get k).2 = (s.raw (k : Int)).2 := by
  simp only [RS.get, RS.raw]
  by_cases h1 : s.err ≠ 0
  · rw [if_pos h1, if_pos h1]; exact ⟨rfl, rfl⟩
  · rw [if_neg h1, if_neg h1, if_neg (by omega : ¬ (k : Int) < 0)]
    by_cases h2 : s.rest.length < k
    · rw [if_pos h2, if_pos (by omega)]; exact ⟨rfl, rfl⟩
    · rw [if_neg h2, if_neg (by omega), Int.toNat_natCast]; exact ⟨rfl, rfl⟩
theorem raw_len (s : RS) (k : Nat) : (s.raw (k : Int)).1.length ≤ k := by
  simp only [RS.raw]
  repeat' split
  all_goals first | (rw [List.length_take, Int.toNat_natCast]; omega) | simp
theorem unle_drop {bs : List UInt8} {j : Nat} (h : j < bs.length) : unle (bs.drop j) = unle (bs.drop (j + 1)) * 256 + (bs.getD j 0).toNat := by
  rw [List.drop_eq_getElem_cons h, unle, List.getD_eq_getElem?_getD, List.getElem?_eq_getElem h]
  simp only [Option.getD_some]; omega
theorem unle_small {bs : List UInt8} (h : bs.length ≤ 8) (j : Nat) (hj : 1 ≤ j) : unle (bs.drop j) ≤ 72057594037927935 := by
  have h1 := unle_lt (bs.drop j)
  have h2 : 256 ^ (bs.drop j).length ≤ 256 ^ 7 := Nat.pow_le_pow_right (by decide) (by rw [List.length_drop]; omega)
  omega

set_option maxHeartbeats 1000000 in
theorem qget_any (p : Nat) (oa : Option Addr) (s : RS) (k : Nat) (hk : k ≤ 8) (w : World) (h : IsQ w p oa s) :
    Calls Try.prog 42 #[.pointer (some ⟨p, 0, none⟩), .int .i64 (k : Int)] w fun x w' => x = .returned (.int .u64 ((s.get k).1 : Nat)) ∧ AftQ w p oa (s.get k).2 w' := by
  have H := Lib.hid (qraw_any p oa s (k : Int) w h)
  have HG := Lib.hid (get_raw s k)
  have hl := raw_len s k
  have HG1 := Lib.hid HG.out.1
  have HG2 := Lib.hid HG.out.2
  obtain ⟨bs, hbs⟩ : ∃ bs, (s.raw (k : Int)).1 = bs := ⟨_, rfl⟩
  rw [hbs] at H hl HG1
  have hl8 : bs.length ≤ 8 := by omega
  clear h HG hl hbs
  go_enter Try.func42, Try.ntmps42
  go_wp2_with fail
  refine H.out.mono ?_
  rintro _ w1 ⟨ob, cb, rfl, hO, hn, hA⟩
  have hbt := hO.bts
  have HA := Lib.hid hA
  clear hO hn hA
  go_wp2_with fail
  go_loop [6, 7] (fun x i => ∃ j : Nat, j ≤ bs.length ∧ i = .int .i64 ((j : Int) - 1) ∧ x = .int .u64 ((unle (bs.drop j) : Nat) : Int)) (fun _ i => (intOf i + 1).toNat)
  case atStart => exact ⟨bs.length, Nat.le_refl _, rfl, by rw [List.drop_length]; rfl⟩
  case round =>
    obtain ⟨j, hj, rfl, rfl⟩ := hrel
    cases j with
    | zero =>
      have HF := Lib.hid (show AftQ w p oa (s.get k).2 w1 from by rw [HG2.out]; exact HA.out)
      rw [List.drop_zero, ← HG1.out]
      clear hbt
      go_wp2_with fail
      go_ret
      exact ⟨rfl, HF.out⟩
    | succ j =>
      obtain ⟨b, off, rfl, -, hc⟩ := hbt.at (k := j) (by omega)
      have hs := unle_small hl8 (j + 1) (by omega)
      have HD := Lib.hid (unle_drop (bs := bs) (j := j) (by omega))
      have hb := (bs.getD j 0).toNat_lt
      generalize bs.getD j 0 = y at hc HD hb
      generalize unle (bs.drop (j + 1)) = x at hs HD
      rw [show ((j + 1 : Nat) : Int) - 1 = (j : Int) by omega]
      have hji : (j : Int) < (bs.length : Int) := by omega
      clear hbt
      go_wp2_with fail
      go_round
      case rel => exact ⟨j, by omega, rfl, by rw [HD.out]; go_num⟩
      case measure => simp [intOf]

theorem qfail_zero (p : Nat) (oa : Option Addr) (s : RS) (e : Nat) (he : e ≤ 1000) (h0 : s.err = 0) (w : World) (h : IsQ w p oa s) :
    Calls Try.prog 76 #[.pointer (some ⟨p, 0, none⟩), .int .i64 (e : Int)] w fun x w' => x = .returned (.tuple #[]) ∧ AftQ w p oa { s with err := e } w' :=
  (qfail_any p oa s e he w h).mono fun x w' ⟨h1, h2⟩ => ⟨h1, by rwa [show s.fail e = { s with err := e } by simp [RS.fail, h0]] at h2⟩

theorem drop_get {all rest : List UInt8} {at' j : Nat} (h7 : all.drop at' = rest) (h : at' ≤ j) : all.getD j 0 = rest.getD (j - at') 0 := by
  rw [← h7, List.getD_eq_getElem?_getD, List.getD_eq_getElem?_getD, List.getElem?_drop, show at' + (j - at') = j by omega]

set_option maxHeartbeats 1000000 in
theorem qzeros_any (p : Nat) (oa : Option Addr) (s : RS) (w : World) (h : IsQ w p oa s) :
    Calls Try.prog 43 #[.pointer (some ⟨p, 0, none⟩)] w fun x w' => x = .returned (.tuple #[]) ∧ AftQ w p oa s.zeros w' := by
  have Hh := Lib.hid h
  obtain ⟨all, cap, at', T, h3, h4, h5, h6, h7, h8, h9⟩ := h
  obtain ⟨c0, c1, c2, f⟩ := qcells3 h3
  have f1 := f 1
  have H3 := Lib.hid h3
  by_cases he : s.err = 0
  · have e1 : ((s.err : Int) != 0) = false := by rw [bne_eq_false_iff_eq]; omega
    have hbt := h4.bts
    have hrl : s.rest.length = all.length - at' := by rw [← h7, List.length_drop]
    have Hd := Lib.hid fun (j : Nat) (hj : at' ≤ j) => drop_get h7 hj
    have HA := Lib.hid (IsQ.set_at h3 h4 h5 h7 h8 h9 (all.length - at') (by omega))
    have HF := Lib.hid (qfail_zero p oa s 5 (by decide) he w Hh.out)
    have Hrl := Lib.hid hrl
    have He := Lib.hid he
    have hal : at' ≤ all.length := h6
    have h8' : all.length ≤ 140737488355328 := h8
    clear h3 h4 h5 h6 h7 h8 h9 f hrl he
    go_enter Try.func43, Try.ntmps43
    go_wp2_with fail
    go_loop [2] (fun i => ∃ j : Nat, at' ≤ j ∧ j ≤ all.length ∧ i = .int .i64 j ∧ (s.rest.take (j - at')).any (· != 0) = false) (fun i => all.length - (intOf i).toNat)
    case atStart => exact ⟨at', Nat.le_refl _, hal, rfl, by simp⟩
    case round =>
      obtain ⟨j, hj1, hj2, rfl, ht⟩ := hrel
      have Ht := Lib.hid ht
      clear ht
      by_cases hlt : j < all.length
      · obtain ⟨b0, o0, rfl, -, hc⟩ := hbt.at hlt
        have hd := Hd.out j hj1
        have hjr : j - at' < s.rest.length := by rw [Hrl.out]; omega
        by_cases hb : all.getD j 0 = 0
        · rw [hb] at hc
          have HN := Lib.hid (show (s.rest.take (j + 1 - at')).any (· != 0) = false by
            rw [show j + 1 - at' = (j - at') + 1 by omega, take_snoc hjr, List.any_append, Ht.out, ← hd, hb]; rfl)
          clear hd hb
          go_wp2_with fail
          go_round
          case rel => exact ⟨j + 1, by omega, by omega, by go_num, HN.out⟩
          case measure => simp [intOf]; omega
        · have HZ := Lib.hid (show s.zeros = { s with err := 5 } by
            have h2 : s.rest.any (· != 0) = true := by
              rw [List.any_eq_true]
              refine ⟨s.rest.getD (j - at') 0, ?_, by rw [← hd]; simpa using hb⟩
              rw [List.getD_eq_getElem?_getD, List.getElem?_eq_getElem hjr]; exact List.getElem_mem _
            simp only [RS.zeros, He.out, h2]; simp)
          have hb1 : ((((all.getD j 0).toNat : Nat) : Int) != 0) = true := by
            rw [bne_iff_ne]; intro e; apply hb; exact UInt8.toNat_inj.1 (by simpa using e)
          generalize all.getD j 0 = y at hc hb1
          clear hd hb
          go_wp2_with fail
          refine HF.out.mono ?_
          rintro _ w1 ⟨rfl, hA⟩
          go_wp2_with fail
          go_returns
          exact ⟨rfl, by rw [HZ.out]; exact hA⟩
      · have HZ := Lib.hid (show s.zeros = { s with rest := s.rest.drop (all.length - at') } by
          have h2 : s.rest.any (· != 0) = false := by
            have h := Ht.out
            rwa [List.take_of_length_le (by rw [Hrl.out]; omega)] at h
          simp only [RS.zeros, He.out, h2]
          rw [List.drop_eq_nil_of_le (by rw [Hrl.out]; omega)]; simp)
        have HA2 := HA.out
        rw [show at' + (all.length - at') = all.length by omega] at HA2
        have HA2 := Lib.hid HA2
        clear hbt
        go_wp2_with fail
        go_end0
        exact ⟨rfl, by rw [HZ.out]; exact HA2.out⟩
  · have e1 : ((s.err : Int) != 0) = true := by rw [bne_iff_ne]; omega
    have HZ := Lib.hid (show s.zeros = s by simp [RS.zeros, he])
    clear he h3 h4 h5 h6 h7 h8 h9 f
    go_enter Try.func43, Try.ntmps43
    go_wp2_with fail
    go_returns
    exact ⟨rfl, by rw [HZ.out]; exact AftQ.same Hh.out⟩
end Go.Proofs.Ytpjdknmgegbgnaa
