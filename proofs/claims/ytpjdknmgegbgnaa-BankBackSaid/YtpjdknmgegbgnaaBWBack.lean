/- The walk of BankBack. -/
import Derived.Test.YtpjdknmgegbgnaaBkArg
import Derived.BigQuiet
import Derived.Deep.QuietTactic
namespace Go.Proofs.Ytpjdknmgegbgnaa
open Go.RowKit
set_option linter.unusedVariables false
set_option maxRecDepth 100000

theorem bblock_same {g n k : Nat} {b : List UInt8} {l : List Nat} (h : bread g n k b = (0, l)) {gen pages i : Int} (h2 : (bblock gen pages i b).1 = 0) : gen = g ∧ pages = n ∧ i = k := by
  unfold bblock at h2
  split at h2
  · rename_i hm
    obtain ⟨⟨e2, l2⟩, hr⟩ : ∃ r, bread gen.toNat pages.toNat i.toNat b = r := ⟨_, rfl⟩
    rw [hr] at h2
    simp only at h2
    subst h2
    obtain ⟨-, -, -, -, -, a1, a2, a3⟩ := bread_one h
    obtain ⟨-, -, -, -, -, b1, b2, b3⟩ := bread_one hr
    obtain ⟨m1, m2, m3, m4⟩ := hm
    refine ⟨?_, ?_, ?_⟩ <;> omega
  · cases h2
theorem ints_back {cs : List Int} (h : okL cs) : ints (cs.map Int.toNat) = cs := by
  unfold ints
  rw [List.map_map]
  conv => rhs; rw [← List.map_id cs]
  apply List.map_congr_left
  intro c hc
  have := (h c hc).1
  simp only [Function.comp, id]
  omega
def RelC2 (W : World) (cs : List Int) (v : Value) (wr : World) : Prop := ∃ k : Nat, k ≤ cs.length ∧ v = .int .i64 k ∧ wr = W ∧ ∀ j, j < k → okC (cs.getD j 0)
def RelBb (W : World) (v : Value) (wr : World) : Prop := ∃ d : Int, v = .int .i64 d ∧ (d = -1 ∨ d = 1 ∨ d = 3) ∧ Below W.heap.size W wr
theorem bankBack_far (gen : Int) (n : Nat) (a : Option Addr) (cap : Nat) (at_ : Int) (x : Int) (W : World) (h : gen < 0 ∨ 1099511627776 < gen ∨ 65536 < n) (hn : n ≤ 9223372036854775807) :
    Calls Try.prog 5 #[.int .i64 gen, .slice a n cap, .int .i64 at_, .int .u8 x] W fun e w' => e = .returned (.bool true) ∧ Below W.heap.size W w' := by
  by_cases h1 : gen < 0
  · clear h
    go_enter Try.func5, Try.ntmps5
    go_wp2_with fail
    refine (works_any _).mono ?_
    rintro _ w1 ⟨rfl, hb1⟩
    go_wp2_with fail
    go_ret
    exact ⟨rfl, hb1⟩
  · by_cases h2 : 1099511627776 < gen
    · clear h
      go_enter Try.func5, Try.ntmps5
      go_wp2_with fail
      refine (works_any _).mono ?_
      rintro _ w1 ⟨rfl, hb1⟩
      go_wp2_with fail
      go_ret
      exact ⟨rfl, hb1⟩
    · have h3 : (65536 : Int) < (n : Int) := by omega
      clear h
      go_enter Try.func5, Try.ntmps5
      go_wp2_with fail
      refine (works_any _).mono ?_
      rintro _ w1 ⟨rfl, hb1⟩
      go_wp2_with fail
      go_ret
      exact ⟨rfl, hb1⟩
set_option maxHeartbeats 4000000 in
theorem bankBack_near (g : Nat) (hg : g ≤ 1099511627776) (cs : List Int) (a : Option Addr) (cap : Nat) (at_ : Int) (hat : -9223372036854775808 ≤ at_ ∧ at_ ≤ 9223372036854775807) (x : Nat) (hx : x < 256) (W : World) (hn : cs.length ≤ 65536) (hb : Nts W a cs) :
    Calls Try.prog 5 #[.int .i64 (g : Int), .slice a cs.length cap, .int .i64 at_, .int .u8 (x : Int)] W fun e w' => e = .returned (.bool true) ∧ Below W.heap.size W w' := by
  have HNT := Lib.hid hb
  have HEN := Lib.hid (encodeB_any (g : Int) cs a cap W (by omega) hb)
  obtain ⟨n, hnl⟩ : ∃ n, cs.length = n := ⟨_, rfl⟩
  rw [hnl] at hn HEN ⊢
  have HL := Lib.hid hnl
  clear hb hnl
  go_enter Try.func5, Try.ntmps5
  go_wp2_with fail
  go_loopw [9] (fun v wr => RelC2 W cs v wr) (fun i _ => n - (intOf i).toNat)
  case atStart => exact ⟨0, Nat.zero_le _, rfl, rfl, fun j hj => absurd hj (Nat.not_lt_zero j)⟩
  case round =>
    obtain ⟨k, hk, rfl, hwr, hok⟩ := hrel
    rw [hwr]
    clear hwr
    rw [HL.out] at hk
    by_cases hkn : k < n
    · obtain ⟨b, off, rfl, -, hc⟩ := HNT.out.at (k := k) (by rw [HL.out]; exact hkn)
      by_cases hgood : okC (cs.getD k 0)
      · have Hok := Lib.hid (show ∀ j, j < k + 1 → okC (cs.getD j 0) from fun j hj => by
          rcases Nat.lt_succ_iff_lt_or_eq.1 hj with hj | rfl
          · exact hok j hj
          · exact hgood)
        obtain ⟨g1, g2⟩ := hgood
        have g3 : ¬ (cs.getD k 0) < 0 := by omega
        have g4 : ¬ (65536 : Int) ≤ cs.getD k 0 := by omega
        generalize cs.getD k 0 = c at *
        have HJ := Lib.hid hkn
        clear hok
        go_wp2_with fail
        go_roundw
        case rel => exact ⟨k + 1, by rw [HL.out]; exact HJ.out, by go_num, rfl, Hok.out⟩
        case measure => exact meas_up HJ.out
      · unfold okC at hgood
        generalize cs.getD k 0 = c at *
        clear hok
        by_cases hc0 : c < 0
        · clear hgood
          go_wp2_with fail
          refine (works_any _).mono ?_
          rintro _ w1 ⟨rfl, hb1⟩
          go_wp2_with fail
          go_ret
          exact ⟨rfl, hb1⟩
        · have hc1 : (65536 : Int) ≤ c := by omega
          clear hgood
          go_wp2_with fail
          refine (works_any _).mono ?_
          rintro _ w1 ⟨rfl, hb1⟩
          go_wp2_with fail
          go_ret
          exact ⟨rfl, hb1⟩
    · obtain rfl : k = n := by omega
      have hokL : okL cs := fun c hc => by
        obtain ⟨i, hi⟩ := List.mem_iff_getElem?.1 hc
        have h1 := hok i (by rw [← HL.out]; exact (List.getElem?_eq_some_iff.1 hi).1)
        rw [List.getD_eq_getElem?_getD, hi] at h1
        exact h1
      have hcx := hokL.nat
      have hn' : cs.length ≤ 65536 := by rw [HL.out]; exact hn
      have HOK := Lib.hid hokL
      rw [benc_ok hg hn' hokL] at HEN
      unfold EncB at HEN
      simp only [rowsB_length] at HEN
      have HBD := Lib.hid (bdec_laid hg hn' hcx)
      rw [HL.out] at HEN HBD
      have HFB := Lib.hid fun (j : Nat) (hj : j < nblocks k) => (show (rowsB g cs (nblocks k)).getD j [] = blk1 g j k (part (cs.map Int.toNat) j) ∧ bread g k j (blk1 g j k (part (cs.map Int.toNat) j)) = (0, part (cs.map Int.toNat) j) from
        ⟨by rw [rowsB_get hj, HL.out], bread_laid (by omega) (by omega) (by have := nblocks_le hn; omega) (by rw [part_length, List.length_map, HL.out]) (fun v hv => hcx v (part_mem hv))⟩)
      have HBL := Lib.hid fun w1 => blocks_any (k : Int) (by omega) w1
      rw [Int.toNat_natCast] at HBL
      have hnb1 : nblocks k * 240 < k + 240 := by unfold nblocks; omega
      have hnb2 := nblocks_le hn
      have hcase : (¬ (0 : Int) < (k : Int) ∧ (((nblocks k : Nat) : Int) == 0) = true ∧ nblocks k = 0) ∨ ((0 : Int) < (k : Int) ∧ (((nblocks k : Nat) : Int) == 0) = false ∧ 0 < nblocks k) := by
        by_cases h0 : k = 0
        · subst h0; exact .inl ⟨by decide, rfl, rfl⟩
        · have : 0 < nblocks k := by unfold nblocks; omega
          exact .inr ⟨by omega, by rw [beq_eq_false_iff_ne]; omega, this⟩
      have HRL := Lib.hid (rowsB_length g cs (nblocks k))
      generalize rowsB g cs (nblocks k) = rws at *
      generalize hnbk : nblocks k = nb at *
      have HNBK := Lib.hid hnbk
      clear hnbk
      have hnbb : ((nb : Int) != (nb : Int)) = false := by simp
      have hIC := ints_back hokL
      have HIC := Lib.hid hIC
      clear hok hcx hkn hokL hIC hn'
      rcases hcase with ⟨h0I, nbz, hnb0⟩ | ⟨h0I, nbz, hnb0⟩
      all_goals
        have HNB0 := Lib.hid hnb0
        clear hnb0
        go_wp2_with fail
        refine HEN.out.mono ?_
        rintro _ w1 ⟨la, lc, rs, rfl, hrs, hR, hb1⟩
        have HR := Lib.hid hR
        have HB1 := Lib.hid hb1
        have HRS := Lib.hid hrs
        have HRL2 := Lib.hid (show ∀ r ∈ rs, r.1.length = 512 from fun r hr => by
          obtain ⟨i, hi⟩ := List.mem_iff_getElem?.1 hr
          have hil : i < nb := by have h1 := (List.getElem?_eq_some_iff.1 hi).1; have h2 := congrArg List.length hrs; rw [List.length_map, HRL.out] at h2; omega
          obtain ⟨e1, e2⟩ := HFB.out i hil
          have e3 : rws.getD i [] = r.1 := by rw [← hrs, List.getD_eq_getElem?_getD, List.getElem?_map, hi]; rfl
          rw [← e3, e1]
          exact (bread_one e2).2.2.2.1)
        clear hR hb1 hrs HEN
        go_wp2_with fail
        refine (works_any _).mono ?_
        rintro _ w2 ⟨rfl, hb2⟩
        have HR2 := Lib.hid (HR.out.below hb2)
        have HB2 := Lib.hid (HB1.out.trans (hb2.mono HB1.out.size))
        clear hb2 HR HB1
        go_wp2_with fail
        refine (HBL.out _).mono ?_
        rintro _ wx ⟨rfl, e0⟩
        rw [e0]
        clear e0 wx HBL
        have HD := Lib.hid (decodeB_any (g : Int) (k : Int) la lc rs rws HRS.out w2 (by omega) (by rw [HRL.out]; omega) (HR2.out.rd (fun r hr => by rw [HRL2.out r hr]; decide)))
        rw [HBD.out, HRL.out] at HD
        unfold BlkP at HD
        simp only [List.length_map, HL.out] at HD
        go_wp2_with fail
        refine HD.out.mono ?_
        rintro _ w3 ⟨na, nc, rfl, hN, -, hb3⟩
        have HR3 := Lib.hid (HR2.out.below hb3)
        have HB3 := Lib.hid (HB2.out.trans (hb3.mono HB2.out.size))
        rw [HIC.out] at hN
        have H5 := Lib.hid (eqInts_any cs cs na a nc cap w3 hN.nts (HNT.out.below HB3.out) (by rw [HL.out]; omega) (by rw [HL.out]; omega))
        rw [HL.out] at H5
        unfold EqA at H5
        simp only [decide_true] at H5
        clear hN hb3 HR2 HB2 HD
        go_wp2_with fail
        refine H5.out.mono ?_
        rintro _ w4 ⟨rfl, hb4⟩
        have HR4 := Lib.hid (HR3.out.below hb4)
        have HB4 := Lib.hid (HB3.out.trans (hb4.mono HB3.out.size))
        clear hb4 H5 HR3 HB3
      · go_wp2_with fail
        go_ret
        exact ⟨rfl, HB4.out⟩
      · by_cases ha0 : at_ < 0
        · go_wp2_with fail
          go_ret
          exact ⟨rfl, HB4.out⟩
        by_cases ha1 : 512 * (nb : Int) ≤ at_
        · go_wp2_with fail
          go_ret
          exact ⟨rfl, HB4.out⟩
        obtain ⟨t, rfl⟩ := Int.eq_ofNat_of_zero_le (Int.not_lt.1 ha0)
        obtain ⟨j, hj⟩ : ∃ j, t / 512 = j := ⟨_, rfl⟩
        obtain ⟨o, ho⟩ : ∃ o, t % 512 = o := ⟨_, rfl⟩
        have hjI : (t : Int) / 512 = (j : Int) := by omega
        have hoI : (t : Int) % 512 = (o : Int) := by omega
        have hjn : j < nb := by omega
        have ho5 : o < 512 := by omega
        have hjnI : (j : Int) < (nb : Int) := by omega
        have hoII : (o : Int) < 512 := by omega
        obtain ⟨e1, e2⟩ := HFB.out j hjn
        have hpl : (part (cs.map Int.toNat) j).length = inBlk k j := by rw [part_length, List.length_map, HL.out]
        have hp1 : 1 ≤ inBlk k j := by unfold inBlk; omega
        have hp0 : (part (cs.map Int.toNat) j)[0]? = some (cs.getD (j * 240) 0).toNat := by
          unfold part
          rw [List.getElem?_take_of_lt (by omega), List.getElem?_drop, List.getElem?_map, Nat.add_zero, List.getElem?_eq_getElem (by rw [HL.out]; omega), List.getD_eq_getElem?_getD, List.getElem?_eq_getElem (by rw [HL.out]; omega)]
          rfl
        obtain ⟨r, hr⟩ : ∃ r, rs[j]? = some r := ⟨_, List.getElem?_eq_getElem (by have := congrArg List.length HRS.out; rw [List.length_map, HRL.out] at this; omega)⟩
        have hrb : r.1 = blk1 g j k (part (cs.map Int.toNat) j) := by rw [← e1, ← HRS.out, List.getD_eq_getElem?_getD, List.getElem?_map, hr]; rfl
        rw [← hrb] at e2
        have hr5 := HRL2.out r (List.mem_of_getElem? hr)
        have hmayb : mayB (g : Int) (k : Int) (j : Int) := ⟨by omega, by omega, by omega, by rw [Int.toNat_natCast, HNBK.out]; exact hjnI⟩
        have e4 : bblock (g : Int) (k : Int) (j : Int) r.1 = (0, part (cs.map Int.toNat) j) := by
          unfold bblock
          rw [if_pos hmayb, Int.toNat_natCast, Int.toNat_natCast, Int.toNat_natCast]
          exact e2
        have hc0 : (0 : Int) ≤ cs.getD (j * 240) 0 := by
          rw [List.getD_eq_getElem?_getD, List.getElem?_eq_getElem (by rw [HL.out]; omega)]
          exact (HOK.out _ (List.getElem_mem _)).1
        obtain ⟨c, hcc⟩ := Int.eq_ofNat_of_zero_le hc0
        rw [hcc, Int.toNat_natCast] at hp0
        have HSAME := Lib.hid fun gen pages i (h : (bblock gen pages i r.1).1 = 0) => bblock_same e2 h
        obtain ⟨gl, rfl, hcell⟩ := HR4.out.at hr
        have hbts := (HR4.out.obs r (List.mem_of_getElem? hr)).bts
        have hcap := (HR4.out.obs r (List.mem_of_getElem? hr)).cap.1
        obtain ⟨sp, hsp⟩ : ∃ sp, bread g k j (r.1.set o (UInt8.ofNat x)) = sp := ⟨_, rfl⟩
        have HSP := Lib.hid (show (UInt8.ofNat x = r.1.getD o 0 → sp.1 = 0) ∧ (UInt8.ofNat x ≠ r.1.getD o 0 → sp.1 = 6) from by
          rw [← hsp]
          refine ⟨fun h => ?_, fun h => ?_⟩
          · have : r.1.set o (UInt8.ofNat x) = r.1 := by
              rw [h, List.getD_eq_getElem?_getD, List.getElem?_eq_getElem (by omega)]; simp
            rw [this, e2]
          · rw [bread_told (bread_one e2).2.2.2.1 (bread_one e2).2.2.2.2.1 ho5 h])
        have HE5 := Lib.hid (show bblock (g : Int) (k : Int) (j : Int) (r.1.set o (UInt8.ofNat x)) = sp from by
          unfold bblock
          rw [if_pos hmayb, Int.toNat_natCast, Int.toNat_natCast, Int.toNat_natCast]; exact hsp)
        have hq0 : j * 240 < k := by omega
        generalize part (cs.map Int.toNat) j = pt at *
        generalize inBlk k j = il at *
        have HPL := Lib.hid hpl
        have HP0 := Lib.hid hp0
        have HCC := Lib.hid hcc
        have HE4 := Lib.hid e4
        obtain ⟨rb, ra, rc⟩ := r
        simp only at hr5 hcell hbts hcap HSAME HSP HE4 HE5
        have HR5 := Lib.hid hr5
        have HCAP := Lib.hid hcap
        rw [hr5] at hcell hcap
        have HCE := Lib.hid fun w' (h : Below w4.heap.size w4 w') => (h.cell (p := ⟨gl, j, none⟩) (block_lt_of_cell hcell)).trans hcell
        have HBT := Lib.hid fun w' (h : Below w4.heap.size w4 w') => hbts.below h
        have HBK := Lib.hid fun gen pages i (hp : pages ≤ 9223372036854775807) w' (h : Below w4.heap.size w4 w') => blockB_any gen pages i ra rc rb w' hp HCAP.out (by rw [HR5.out]; decide) (hbts.below h)
        unfold BlkP at HBK
        simp only [hr5] at HBK
        have H6 := Lib.hid (HBK.out (g : Int) (k : Int) (j : Int) (by omega) w4 (Below.refl _ _))
        rw [HE4.out] at H6
        simp only [HPL.out] at H6
        have HW4 := Lib.hid (Below.refl w4.heap.size w4)
        clear hbts hcap hr5 e1 e2 e4 hrb hr hp0 hpl hcc hc0 hmayb hsp hj ho ha0 HR4 HRS HRL2 HFB HOK
        go_wp2_with fail
        refine H6.out.mono ?_
        clear H6
        rintro _ w5 ⟨na2, nc2, rfl, hN5, -, hb5⟩
        have HB5 := Lib.hid hb5
        have hcell5 := HCE.out w5 hb5
        obtain ⟨nb2, noff, rfl, -, hn0⟩ := hN5.nts.at (k := 0) (by rw [ints_length, HPL.out]; omega)
        rw [show (ints pt).getD 0 0 = (c : Int) by rw [List.getD_eq_getElem?_getD]; simp [ints, HP0.out]] at hn0
        obtain ⟨cb, coff, rfl, -, hcc0⟩ := (HNT.out.below (HB4.out.trans (hb5.mono HB4.out.size))).at (k := j * 240) (by rw [HL.out]; exact hq0)
        rw [HCC.out] at hcc0
        obtain ⟨q, hq⟩ : ∃ q, j * 240 = q := ⟨_, rfl⟩
        have hqI : (j : Int) * 240 = (q : Int) := by omega
        rw [hq] at hcc0 hq0
        have hqk : (q : Int) < (k : Int) := by omega
        have hil0 : ((il : Int) == 0) = false := by rw [beq_eq_false_iff_ne]; omega
        have hilI : (0 : Int) < (il : Int) := by omega
        have hccd : ((c : Int) != (c : Int)) = false := by simp
        rw [Nat.add_zero] at hn0
        clear hN5 hb5 hcell hq
        go_wp2_with fail
        go_quiet (fail)
        have HB6 := Lib.hid (below_drewN HB5.out nq)
        generalize w5.drewN nq = w6 at HB6 ⊢
        clear HB5 hn0 hcc0 hcell5
        go_wp2_with fail
        go_loopw [15] (fun v wr => RelBb w4 v wr) (fun v _ => (3 - intOf v).toNat)
        case atStart => exact ⟨-1, rfl, .inl rfl, HB6.out⟩
        case round =>
          clear HB6
          obtain ⟨d, rfl, hd, hB⟩ := hrel
          have hcell := HCE.out _ hB
          by_cases hd3 : d = 3
          · have hdI : ¬ d ≤ 1 := by omega
            have hcpy := Lib.hid (copyBytes_any ra rc rb (by rw [HR5.out]; decide) wr (HBT.out _ hB))
            unfold NewB at hcpy
            rw [HR5.out] at hcpy
            have HBl := Lib.hid hB
            clear hB hd hd3
            go_wp2_with fail
            refine hcpy.out.mono ?_
            rintro _ w7 ⟨oa, oc, rfl, hO7, ho7, hb7⟩
            obtain ⟨g7, rfl, -, -⟩ := OR.cell (j := 0) (u := .int .u8 ((rb.getD 0 0).toNat : Int)) hO7 (by
              have h1 : 0 < rb.length := by rw [HR5.out]; decide
              simp [cellsB, List.getD_eq_getElem?_getD, List.getElem?_eq_getElem h1])
            obtain ⟨d0, df⟩ := hO7.cell (i := o) (by rw [HR5.out]; exact ho5)
            have HO8 := Lib.hid (hO7.set (i := o) (by rw [HR5.out]; exact ho5) (UInt8.ofNat x))
            have hxn : ((UInt8.ofNat x).toNat : Int) = (x : Int) := by rw [UInt8.toNat_ofNat']; omega
            rw [hxn] at HO8
            have HB8 := Lib.hid (show Below w4.heap.size w4 (w7.setCell ⟨g7, o, none⟩ (.int .u8 (x : Int))) from (HBl.out.trans (hb7.mono HBl.out.size)).setCell (Nat.le_trans HBl.out.size (ho7 g7 rfl)) _)
            have H9 := Lib.hid (blockB_any (g : Int) (k : Int) (j : Int) (some ⟨g7, 0, none⟩) oc (rb.set o (UInt8.ofNat x)) (w7.setCell ⟨g7, o, none⟩ (.int .u8 (x : Int))) (by omega) HO8.out.cap.1 (by rw [List.length_set, HR5.out]; decide) HO8.out.bts)
            rw [HE5.out] at H9
            unfold BlkP at H9
            rw [List.length_set, HR5.out] at H9
            obtain ⟨e9, l9⟩ := sp
            simp only at H9 HSP
            generalize l9.length = ln9 at *
            clear hO7 ho7 hb7 hcpy hcell
            go_wp2_with fail
            refine H9.out.mono ?_
            rintro _ w10 ⟨ua, uc, rfl, -, -, hb10⟩
            have HB10 := Lib.hid (HB8.out.trans (hb10.mono HB8.out.size))
            have hcell := HCE.out _ HB10.out
            obtain ⟨zb, zoff, rfl, -, hz⟩ := (HBT.out _ HB10.out).at (k := o) (by rw [HR5.out]; exact ho5)
            have HXY := Lib.hid (show (x = (rb.getD o 0).toNat → e9 = 0) ∧ (x ≠ (rb.getD o 0).toNat → e9 = 6) from
              ⟨fun h => HSP.out.1 (by rw [h]; exact UInt8.toNat_inj.1 (by rw [UInt8.toNat_ofNat']; have := (rb.getD o 0).toNat_lt; omega)), fun h => HSP.out.2 (fun h2 => h (by rw [← h2, UInt8.toNat_ofNat']; omega))⟩)
            generalize (rb.getD o 0).toNat = y at *
            clear hb10 H9 HO8 d0 df hxn
            by_cases hxy : x = y
            · have he := HXY.out.1 hxy
              subst hxy
              subst he
              have hxx : ((x : Int) == (x : Int)) = true := by simp
              go_wp2_with fail
              go_ret
              exact ⟨by simp, HB4.out.trans (HB10.out.mono HB4.out.size)⟩
            · have he := HXY.out.2 hxy
              subst he
              have hxx : ((x : Int) == (y : Int)) = false := by rw [beq_eq_false_iff_ne]; omega
              clear hxy
              go_wp2_with fail
              go_ret
              exact ⟨by simp, HB4.out.trans (HB10.out.mono HB4.out.size)⟩
          · have hd1 : -1 ≤ d := by omega
            have hd2 : d ≤ 1 := by omega
            have HD := Lib.hid (show d = -1 ∨ d = 1 by omega)
            have HBl := Lib.hid hB
            clear hd hd3 hB
            obtain ⟨⟨e1, l1⟩, he1⟩ : ∃ r, bblock ((g : Int) + d) (k : Int) (j : Int) rb = r := ⟨_, rfl⟩
            have hn1 : (e1 == 0) = false := by
              rw [beq_eq_false_iff_ne]; intro h; have := HSAME.out _ _ _ (by rw [he1]; exact h); have := HD.out; omega
            have H1 := Lib.hid (HBK.out ((g : Int) + d) (k : Int) (j : Int) (by omega) wr HBl.out)
            rw [he1] at H1
            obtain ⟨⟨e2, l2⟩, he2⟩ : ∃ r, bblock (g : Int) (k : Int) ((j : Int) + d) rb = r := ⟨_, rfl⟩
            have hn2 : (e2 == 0) = false := by
              rw [beq_eq_false_iff_ne]; intro h; have := HSAME.out _ _ _ (by rw [he2]; exact h); have := HD.out; omega
            obtain ⟨⟨e3, l3⟩, he3⟩ : ∃ r, bblock (g : Int) ((k : Int) + d) (j : Int) rb = r := ⟨_, rfl⟩
            have hn3 : (e3 == 0) = false := by
              rw [beq_eq_false_iff_ne]; intro h; have := HSAME.out _ _ _ (by rw [he3]; exact h); have := HD.out; omega
            have HE2 := Lib.hid he2
            have HE3 := Lib.hid he3
            simp only at H1
            generalize l1.length = ln1 at *
            clear he1 he2 he3
            go_wp2_with fail
            refine H1.out.mono ?_
            rintro _ w7 ⟨ua, uc, rfl, -, -, hb7⟩
            have HB7 := Lib.hid (HBl.out.trans (hb7.mono HBl.out.size))
            have H2 := Lib.hid (HBK.out (g : Int) (k : Int) ((j : Int) + d) (by omega) w7 HB7.out)
            rw [HE2.out] at H2
            simp only at H2
            generalize l2.length = ln2 at *
            clear hb7 H1 hcell
            have hcell := HCE.out _ HB7.out
            go_wp2_with fail
            refine H2.out.mono ?_
            rintro _ w8 ⟨ua2, uc2, rfl, -, -, hb8⟩
            have HB8 := Lib.hid (HB7.out.trans (hb8.mono HB7.out.size))
            have H3 := Lib.hid (HBK.out (g : Int) ((k : Int) + d) (j : Int) (by omega) w8 HB8.out)
            rw [HE3.out] at H3
            simp only at H3
            generalize l3.length = ln3 at *
            clear hb8 H2 hcell
            have hcell := HCE.out _ HB8.out
            go_wp2_with fail
            refine H3.out.mono ?_
            rintro _ w9 ⟨ua3, uc3, rfl, -, -, hb9⟩
            have HB9 := Lib.hid (HB8.out.trans (hb9.mono HB8.out.size))
            clear hb9 H3 hcell
            go_wp2_with fail
            go_roundw
            case rel => exact ⟨d + 2, by go_num, by have := HD.out; omega, HB9.out⟩
            case measure => simp [intOf]; omega
theorem bankBack_walk (gen : Int) (a : Option Addr) (len cap : Nat) (zs : List Int) (at_ x : Int) (W : World) (h0 : (Lit.int .i64 gen).wf = true) (hr : IsRow .i64 W a len cap zs) (h2 : (Lit.int .i64 at_).wf = true) (h3 : (Lit.int .u8 x).wf = true) :
    Calls Try.prog 5 #[.int .i64 gen, .slice a len cap, .int .i64 at_, .int .u8 x] W fun e w' => e = .returned (.bool true) ∧ Below W.heap.size W w' := by
  have hlen := hr.len_le
  have hx : 0 ≤ x ∧ x < 256 := by
    simp [Lit.wf, IntKind.min, IntKind.max, IntKind.signed, IntKind.bits] at h3; omega
  obtain ⟨x, rfl⟩ := Int.eq_ofNat_of_zero_le hx.1
  obtain ⟨cs, rfl, hb⟩ := hr.nts
  by_cases h : gen < 0 ∨ 1099511627776 < gen ∨ 65536 < cs.length
  · exact bankBack_far gen cs.length a cap at_ x W h hlen
  · obtain ⟨g, rfl⟩ := Int.eq_ofNat_of_zero_le (show 0 ≤ gen by omega)
    exact bankBack_near g (by omega) cs a cap at_ (i64_le h2) x (by omega) W (by omega) hb
end Go.Proofs.Ytpjdknmgegbgnaa
