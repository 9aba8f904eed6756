/- A bank's Block, whole. -/
import Derived.Test.YtpjdknmgegbgnaaBkBlk
namespace Go.Proofs.Ytpjdknmgegbgnaa
open Go.RowKit
set_option linter.unusedVariables false
set_option maxRecDepth 100000

theorem blkP_yes {w W : World} {n : Nat} {l : List Nat} {oa : Option Addr} {oc : Nat} (hl : l.length = n) (hO : OR eN W oa oc n (cellsN (ints l))) (ho : ∀ k, blk oa = some k → w.heap.size ≤ k) (hb : Below w.heap.size w W) : BlkP (0, l) w (.returned (.tuple #[.slice oa n oc, .int .i64 0])) W := by
  subst hl
  exact ⟨oa, oc, rfl, by unfold ON; rw [ints_length]; exact hO, ho, hb⟩
set_option maxHeartbeats 2000000 in
theorem block_late (gen pages i : Nat) (a : Option Addr) (cap : Nat) (bs : List UInt8) (w : World) (hg : gen ≤ 1099511627776) (hp : pages ≤ 65536) (hi : i < nblocks pages) (hcap : bs.length ≤ cap) (hll : bs.length ≤ 140737488355328) (hb : Bts w a bs) :
    Calls Try.prog 20 #[.int .i64 (gen : Int), .int .i64 (pages : Int), .int .i64 (i : Int), .slice a bs.length cap] w (BlkP (bread gen pages i bs) w) := by
  have HM := Lib.hid fun w1 => may_any gen pages w1
  rw [decide_eq_true (show (0 ≤ (gen : Int) ∧ (gen : Int) ≤ 1099511627776) ∧ 0 ≤ (pages : Int) ∧ (pages : Int) ≤ 65536 by omega)] at HM
  have HB := Lib.hid fun w1 => blocks_any (pages : Int) (by omega) w1
  rw [Int.toNat_natCast] at HB
  have hi240 : i * 240 ≤ pages := by unfold nblocks at hi; omega
  have hil : i ≤ 300 := by unfold nblocks at hi; omega
  have hiI : ¬ ((nblocks pages : Nat) : Int) ≤ (i : Int) := by omega
  by_cases h5 : bs.length = 512
  rotate_left
  · have HE := Lib.hid (show bread gen pages i bs = (16, []) by unfold bread; rw [if_pos h5])
    rw [HE.out]
    have hl1 : ((bs.length : Int) != 512) = true := by rw [bne_iff_ne]; omega
    generalize bs.length = n at *
    generalize ((nblocks pages : Nat) : Int) = nb at *
    clear hi hb
    go_enter Try.func20, Try.ntmps20
    go_wp2_with (first
      | (go_at_call 30; refine (HM.out _).mono ?_; rintro _ _ ⟨rfl, rfl⟩)
      | (go_at_call 8; refine (HB.out _).mono ?_; rintro _ _ ⟨rfl, rfl⟩))
    refine bodyPost_ret (v := .tuple #[.slice none 0 0, .int .i64 16]) (by simp [results, Try.results20, go_sem]) rfl ?_
    exact blkP_no (Below.refl _ _)
  have hlt : (bs.take 508).length = 508 := by rw [List.length_take]; omega
  have hld : (bs.drop 508).length = 4 := by rw [List.length_drop]; omega
  obtain ⟨b, off, rfl, hbw, -⟩ := hb.at (k := 0) (by omega)
  have hbt := hb.cut 0 508
  have hbd := hb.cut 508 4
  rw [List.drop_zero, Nat.add_zero] at hbt
  rw [List.take_of_length_le (by omega)] at hbd
  have HNR := Lib.hid fun w1 (h : Below w.heap.size w w1) => newReader_any (some ⟨b, off + 508, none⟩) (cap - 508) (bs.drop 508) w1 (hbd.below h) (fun e => by cases e) (by omega)
  have HN2 := Lib.hid fun w1 (h : Below w.heap.size w w1) => newReader_any (some ⟨b, off, none⟩) cap (bs.take 508) w1 (hbt.below h) (fun e => by cases e) (by omega)
  have HSO := Lib.hid fun w1 (h : Below w.heap.size w w1) => sumOf_any (bs.take 508) (some ⟨b, off, none⟩) cap (by omega) w1 (hbt.below h)
  rw [hlt] at HN2 HSO
  rw [hld] at HNR
  unfold NewR at HNR HN2
  have hv4 : ((⟨bs.drop 508, 0⟩ : RS).get 4).1 = unle (bs.drop 508) := by
    have := get_go (xs := bs) (o := 508) (k := 4) (by omega)
    rw [this]; unfold fld; rw [List.take_of_length_le (by omega)]
  have hul : unle (bs.drop 508) < 4294967296 := by have := unle_lt (bs.drop 508); rw [hld] at this; exact this
  have hofl := Crc.ofs_lt (bs.take 508)
  have HR := Lib.hid (show bread gen pages i bs = if unle (bs.drop 508) ≠ Crc.ofs (bs.take 508) then (6, []) else if fld (bs.take 508) 0 1 ≠ 66 then (5, []) else if ¬ (fld (bs.take 508) 1 8 = gen ∧ fld (bs.take 508) 9 4 = i ∧ fld (bs.take 508) 13 4 = pages) then (25, [])
      else if ((bs.take 508).drop (17 + 2 * inBlk pages i)).all (· == 0) = false then (5, []) else (0, numsAt (bs.take 508) 17 (inBlk pages i)) by
    have := inBlk_le pages i
    unfold bread
    rw [if_neg (by simp [h5]), fld_take (by omega), fld_take (by omega), fld_take (by omega), fld_take (by omega), numsAt_take (by omega)])
  have HG4 := Lib.hid hv4
  rw [h5] at hcap ⊢
  have hc1 : (508 : Int) ≤ (cap : Int) := by omega
  have hc2 : (512 : Int) ≤ (cap : Int) := by omega
  have hc3 : ((cap : Int) - 508).toNat = cap - 508 := by omega
  generalize hsv : unle (bs.drop 508) = sv at *
  generalize Crc.ofs (bs.take 508) = sm at *
  generalize bs.take 508 = xs at *
  have HOF := Lib.hid fun w1 => of_any pages i hp hi240 w1
  have hn240 := inBlk_le pages i
  generalize inBlk pages i = n at *
  generalize ((nblocks pages : Nat) : Int) = nb at *
  have HXL := Lib.hid hlt
  clear hb hbt hbd hi h5 hld hsv hv4 hlt hbw hll
  go_enter Try.func20, Try.ntmps20
  go_wp2_with (first
    | (go_at_call 30; refine (HM.out _).mono ?_; rintro _ wx ⟨rfl, e0⟩; rw [e0]; clear e0 wx)
    | (go_at_call 8; refine (HB.out _).mono ?_; rintro _ wx ⟨rfl, e0⟩; rw [e0]; clear e0 wx))
  go_quiet (fail)
  have HB0 := Lib.hid (below_drewN (Below.refl w.heap.size w) nq)
  generalize w.drewN nq = W0 at HB0 ⊢
  clear HM HB hc1 hc2 hc3 hcap
  go_wp2_with fail
  refine (HNR.out _ HB0.out).mono ?_
  rintro _ w1 ⟨p, ra, rc, rfl, hI, hp1, ha1, hb1⟩
  have hR1 : RAt W0.heap.size w1.heap.size p ⟨bs.drop 508, 0⟩ w1 := ⟨ra, rc, hI, ⟨hp1, hI.lt⟩, fun k hk => ⟨ha1 k hk, hI.2.2.2.2.2.2.2 k hk⟩⟩
  have HB1 := Lib.hid (HB0.out.trans (hb1.mono HB0.out.size))
  have H := Lib.hid (getR32 _ _ _ _ w1 hR1)
  unfold Gets at H
  rw [HG4.out] at H
  have hs0 := HB0.out.size
  clear hI hp1 ha1 hb1 hR1 HNR
  go_wp2_with fail
  refine H.out.mono ?_
  clear H
  rintro _ w2 ⟨rfl, -, hc2⟩
  have HB2 := Lib.hid (HB1.out.trans (hc2.below HB1.out.size (fun j e => by omega)))
  clear hc2 HB1 HB0 hs0
  go_wp2_with fail
  refine (HSO.out _ HB2.out).mono ?_
  rintro _ w3 ⟨rfl, hb3⟩
  have HB3 := Lib.hid (HB2.out.trans (hb3.mono HB2.out.size))
  clear hb3 HB2 HSO
  by_cases hss : sv = sm
  rotate_left
  · have HE := Lib.hid (show bread gen pages i bs = (6, []) by rw [HR.out, if_pos hss])
    have hsd : ((sv : Int) != (sm : Int)) = true := by rw [bne_iff_ne]; omega
    go_wp2_with fail
    refine bodyPost_ret (v := .tuple #[.slice none 0 0, .int .i64 6]) (by simp [results, Try.results20, go_sem]) rfl ?_
    rw [HE.out]
    exact blkP_no HB3.out
  rw [if_neg (by simpa using hss)] at HR
  subst hss
  have hsd : ((sv : Int) != (sv : Int)) = false := by simp
  go_wp2_with fail
  refine (HN2.out _ HB3.out).mono ?_
  rintro _ w4 ⟨p, ra, rc, rfl, hI, hp1, ha1, hb4⟩
  have hR4 : RAt w3.heap.size w4.heap.size p ⟨xs.drop 0, 0⟩ w4 := ⟨ra, rc, by rw [List.drop_zero]; exact hI, ⟨hp1, hI.lt⟩, fun k hk => ⟨ha1 k hk, hI.2.2.2.2.2.2.2 k hk⟩⟩
  have hs3 := HB3.out.size
  have hs4 := hb4.size
  have HB4 := Lib.hid (HB3.out.trans (hb4.mono HB3.out.size))
  have hz4 : w4.heap.size ≤ w4.heap.size := Nat.le_refl _
  generalize w3.heap.size = lo at *
  generalize hhi : w4.heap.size = hi at hR4 hs4
  have hz4 : hi ≤ w4.heap.size := by omega
  clear hhi
  have H := Lib.hid (getR8 _ _ _ _ w4 hR4)
  unfold Gets at H
  rw [get_go (by rw [HXL.out]; decide)] at H
  simp only [Nat.zero_add] at H
  have hf0 := fld_lt xs 0 1
  have hf1 := fld_lt xs 1 8
  have hf2 := fld_lt xs 9 4
  have hf3 := fld_lt xs 13 4
  generalize fld xs 0 1 = f0 at *
  clear hI hp1 ha1 hb4 hR4 HN2 HB3
  go_wp2_with fail
  refine H.out.mono ?_
  clear H
  rintro _ w5 ⟨rfl, hR5, hc5⟩
  have HB5 := Lib.hid (HB4.out.trans (hc5.below HB4.out.size (fun j e => by omega)))
  have hz5 : hi ≤ w5.heap.size := Nat.le_trans hz4 hc5.size
  clear hc5 HB4 hz4
  by_cases h66 : f0 = 66
  rotate_left
  · have HE := Lib.hid (show bread gen pages i bs = (5, []) by rw [HR.out, if_pos h66])
    have hsd : ((f0 : Int) != 66) = true := by rw [bne_iff_ne]; omega
    go_wp2_with fail
    refine bodyPost_ret (v := .tuple #[.slice none 0 0, .int .i64 5]) (by simp [results, Try.results20, go_sem]) rfl ?_
    rw [HE.out]
    exact blkP_no HB5.out
  rw [if_neg (by simpa using h66)] at HR
  have h66d : ((f0 : Int) != 66) = false := by rw [bne_eq_false_iff_eq]; omega
  have H := Lib.hid (getR64 _ _ _ _ w5 hR5)
  unfold Gets at H
  rw [get_go (by rw [HXL.out]; decide)] at H
  simp only [show (1 + 8 : Nat) = 9 from rfl] at H
  generalize fld xs 1 8 = f1 at *
  clear hR5 h66
  go_wp2_with fail
  refine H.out.mono ?_
  clear H
  rintro _ w6 ⟨rfl, hR6, hc6⟩
  have HB6 := Lib.hid (HB5.out.trans (hc6.below HB5.out.size (fun j e => by omega)))
  have hz6 : hi ≤ w6.heap.size := Nat.le_trans hz5 hc6.size
  have H := Lib.hid (getR32 _ _ _ _ w6 hR6)
  unfold Gets at H
  rw [get_go (by rw [HXL.out]; decide)] at H
  simp only [show (9 + 4 : Nat) = 13 from rfl] at H
  generalize fld xs 9 4 = f2 at *
  clear hR6 hc6 HB5 hz5
  go_wp2_with fail
  refine H.out.mono ?_
  clear H
  rintro _ w7 ⟨rfl, hR7, hc7⟩
  have HB7 := Lib.hid (HB6.out.trans (hc7.below HB6.out.size (fun j e => by omega)))
  have hz7 : hi ≤ w7.heap.size := Nat.le_trans hz6 hc7.size
  have H := Lib.hid (getR32 _ _ _ _ w7 hR7)
  unfold Gets at H
  rw [get_go (by rw [HXL.out]; decide)] at H
  simp only [show (13 + 4 : Nat) = 17 from rfl] at H
  generalize fld xs 13 4 = f3 at *
  clear hR7 hc7 HB6 hz6
  go_wp2_with fail
  refine H.out.mono ?_
  clear H
  rintro _ w8 ⟨rfl, hR8, hc8⟩
  have HB8 := Lib.hid (HB7.out.trans (hc8.below HB7.out.size (fun j e => by omega)))
  have hz8 : hi ≤ w8.heap.size := Nat.le_trans hz7 hc8.size
  have HR8 := Lib.hid hR8
  clear hR8 hc8 HB7 hz7
  by_cases hall : f1 = gen ∧ f2 = i ∧ f3 = pages
  rotate_left
  · have HE := Lib.hid (show bread gen pages i bs = (25, []) by rw [HR.out, if_pos hall])
    by_cases k1 : f1 = gen
    · have k1d : ((f1 : Int) != (gen : Int)) = false := by rw [bne_eq_false_iff_eq]; omega
      by_cases k2 : f2 = i
      · have k2d : ((f2 : Int) != (i : Int)) = false := by rw [bne_eq_false_iff_eq]; omega
        have k3d : ((f3 : Int) != (pages : Int)) = true := by rw [bne_iff_ne]; omega
        clear k1 k2 hall
        go_wp2_with fail
        refine bodyPost_ret (v := .tuple #[.slice none 0 0, .int .i64 25]) (by simp [results, Try.results20, go_sem]) rfl ?_
        rw [HE.out]
        exact blkP_no HB8.out
      · have k2d : ((f2 : Int) != (i : Int)) = true := by rw [bne_iff_ne]; omega
        clear k1 k2 hall
        go_wp2_with fail
        refine bodyPost_ret (v := .tuple #[.slice none 0 0, .int .i64 25]) (by simp [results, Try.results20, go_sem]) rfl ?_
        rw [HE.out]
        exact blkP_no HB8.out
    · have k1d : ((f1 : Int) != (gen : Int)) = true := by rw [bne_iff_ne]; omega
      clear k1 hall
      go_wp2_with fail
      refine bodyPost_ret (v := .tuple #[.slice none 0 0, .int .i64 25]) (by simp [results, Try.results20, go_sem]) rfl ?_
      rw [HE.out]
      exact blkP_no HB8.out
  rw [if_neg (fun h => h hall)] at HR
  obtain ⟨rfl, rfl, rfl⟩ := hall
  have k1d : ((f1 : Int) != (f1 : Int)) = false := by simp
  have k2d : ((f2 : Int) != (f2 : Int)) = false := by simp
  have k3d : ((f3 : Int) != (f3 : Int)) = false := by simp
  go_wp2_with fail
  refine (HOF.out _).mono ?_
  rintro _ wx ⟨rfl, e0⟩
  rw [e0]
  clear e0 wx HOF
  go_wp2_with fail
  go_loopw [17, 76] (fun o v wr => RelBl w lo hi p xs n o v wr) (fun _ v _ => n - (intOf v).toNat)
  case atStart => exact ⟨0, none, 0, Nat.zero_le _, rfl, rfl, HR8.out, OR.nil eN _, fun j e => (by cases e), HB8.out, hz8⟩
  case round =>
    clear HR8 HB8 hz8
    obtain ⟨k, oa, oc, hk, rfl, rfl, hR, hO, hof, hB, hz⟩ := hrel
    by_cases hkn : k < n
    · have H := Lib.hid (getR16 _ _ _ _ wr hR)
      unfold Gets at H
      rw [get_go (by rw [HXL.out]; omega)] at H
      simp only at H
      have hxl := fld_lt xs (17 + 2 * k) 2
      have HXE := Lib.hid (show fld xs (17 + 2 * k) 2 = fld xs (17 + 2 * k) 2 from rfl)
      generalize hxx : fld xs (17 + 2 * k) 2 = x at H hxl
      have HX := Lib.hid hxx
      have HO := Lib.hid hO
      have HB := Lib.hid hB
      have HOF := Lib.hid hof
      have HJ := Lib.hid hkn
      clear hR hO hof hB hxx HXE
      go_wp2_with fail
      refine H.out.mono ?_
      clear H
      rintro _ w9 ⟨rfl, hR9, hc9⟩
      have HR9 := Lib.hid hR9
      have HC9 := Lib.hid hc9
      have hz9 : hi ≤ w9.heap.size := Nat.le_trans hz hc9.size
      have ha := one_below w9 (.cells #[.int .i64 (x : Int)] 3)
      have HO9 := Lib.hid (OR.chg (F := fun _ => False) (HO.out.chg hc9 (fun j e f => by have := HOF.out j e; omega)) (Chg.of_below ha) (fun _ _ f => f))
      have HNW := Lib.hid (cell_new w9 (.int .i64 (x : Int)) 3)
      clear hR9 hc9 ha HO
      go_wp2_with (at_builtin; go_must (refine wpList_append_or eN rfl (.tmp 78) (.tmp 82) rfl rfl HO9.out rfl (m := 1) (news := [.int .i64 (x : Int)]) rfl (.inr ⟨_, rfl, HNW.out⟩) (by simp [Value.oneCell']) (by show (k + 1) * 8 ≤ _; omega) (by omega) ?_)
                   intro oa2 oc2 w10 hO10 hC10 hb10 _)
      go_roundw
      case rel => exact relBl_next HJ.out hs3 hs4 HB.out HC9.out HR9.out hz9 HOF.out HX.out hO10 hC10 hb10 (by go_num)
      case measure => exact meas_up HJ.out
    · obtain rfl : k = n := by omega
      have H := Lib.hid (zerosR _ _ _ _ wr hR)
      have HO := Lib.hid hO
      have HB := Lib.hid hB
      have HOF := Lib.hid hof
      clear hR hO hof hB hkn
      go_wp2_with fail
      refine H.out.mono ?_
      clear H
      rintro _ w9 ⟨rfl, hR9, hc9⟩
      have HB9 := Lib.hid (HB.out.trans (hc9.below HB.out.size (fun j e => by omega)))
      have HO9 := Lib.hid (HO.out.chg hc9 (fun j e f => by have := HOF.out j e; omega))
      have H := Lib.hid (endR _ _ _ _ w9 hR9)
      clear hR9 hc9 HB HO
      by_cases hzz : (xs.drop (17 + 2 * k)).all (· == 0) = true
      · rw [ending_all hzz] at H
        have HE := Lib.hid (show bread f1 f3 f2 bs = (0, numsAt xs 17 k) by rw [HR.out, if_neg (by simp [hzz])])
        have HF := Lib.hid (blkP_yes (w := w) (numsAt_length xs 17 k) HO9.out (fun j e => Nat.le_trans hs3 (Nat.le_trans hs4 (HOF.out j e))) HB9.out)
        clear hzz
        go_wp2_with fail
        refine H.out.mono ?_
        rintro _ wx ⟨rfl, e0⟩
        rw [← e0]
        clear e0 wx H
        go_wp2_with fail
        refine bodyPost_ret (v := .tuple #[.slice oa k oc, .int .i64 0]) (by simp [results, Try.results20, go_sem]) rfl ?_
        rw [HE.out]
        exact HF.out
      · have hzf : (xs.drop (17 + 2 * k)).all (· == 0) = false := by simpa using hzz
        rw [ending_not hzf] at H
        have HE := Lib.hid (show bread f1 f3 f2 bs = (5, []) by rw [HR.out, if_pos hzf])
        clear hzz hzf
        go_wp2_with fail
        refine H.out.mono ?_
        rintro _ wx ⟨rfl, e0⟩
        rw [← e0]
        clear e0 wx H
        go_wp2_with fail
        refine bodyPost_ret (v := .tuple #[.slice none 0 0, .int .i64 5]) (by simp [results, Try.results20, go_sem]) rfl ?_
        rw [HE.out]
        exact blkP_no HB9.out
theorem blockB_any (gen pages i : Int) (a : Option Addr) (cap : Nat) (bs : List UInt8) (w : World) (hp : pages ≤ 9223372036854775807) (hcap : bs.length ≤ cap) (hll : bs.length ≤ 140737488355328) (hb : Bts w a bs) :
    Calls Try.prog 20 #[.int .i64 gen, .int .i64 pages, .int .i64 i, .slice a bs.length cap] w (BlkP (bblock gen pages i bs) w) := by
  by_cases h : mayB gen pages i
  · have he : bblock gen pages i bs = bread gen.toNat pages.toNat i.toNat bs := by unfold bblock; rw [if_pos h]
    rw [he]
    obtain ⟨h1, h2, h3, h4⟩ := h
    obtain ⟨g, rfl⟩ := Int.eq_ofNat_of_zero_le h1.1
    obtain ⟨q, rfl⟩ := Int.eq_ofNat_of_zero_le h2.1
    obtain ⟨j, rfl⟩ := Int.eq_ofNat_of_zero_le h3
    rw [Int.toNat_natCast] at h4
    exact block_late g q j a cap bs w (by omega) (by omega) (by omega) hcap hll hb
  · exact block_early gen pages i a cap bs w hp h
end Go.Proofs.Ytpjdknmgegbgnaa
