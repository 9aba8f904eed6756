/- The document's Encode; rows compared. -/
import Derived.Test.YtpjdknmgegbgnaaBkRef
import Derived.StillTailTactics
import Derived.Deep.QuietTactic
import Derived.BigQuiet
namespace Go.Proofs.Ytpjdknmgegbgnaa
open Go.RowKit
set_option linter.unusedVariables false
set_option maxRecDepth 100000

theorem genIs_any (gen : Int) (w : World) : Calls Try.prog 28 #[.int .i64 gen] w fun e w' => e = .returned (.bool (decide (0 ≤ gen ∧ gen ≤ 1099511627776))) ∧ w' = w := by
  obtain ⟨b, hb⟩ : ∃ b, decide (0 ≤ gen ∧ gen ≤ 1099511627776) = b := ⟨_, rfl⟩
  have HB := Lib.hid hb
  rw [hb]
  clear hb
  go_enter Try.func28, Try.ntmps28
  go_wp2_with fail
  all_goals
    go_ret
    rw [← HB.out]
    first
      | exact ⟨congrArg (fun b => Ending.returned (.bool b)) (decide_eq_decide.2 ⟨fun _ => by omega, fun _ => by omega⟩), rfl⟩
      | exact ⟨congrArg (fun b => Ending.returned (.bool b)) (decide_eq_false (by omega)).symm, rfl⟩
theorem dEnc8_early (gen : Int) (cs : List Int) (a : Option Addr) (cap : Nat) (w : World) (h : (gen < 0 ∨ 1099511627776 < gen) ∨ (¬ (gen < 0 ∨ 1099511627776 < gen) ∧ 65536 < cs.length)) (hl : cs.length ≤ 9223372036854775807) :
    Calls Try.prog 12 #[.int .i64 gen, .slice a cs.length cap] w (EncB (benc gen cs) w) := by
  have HG := Lib.hid fun w1 => genIs_any gen w1
  rcases h with h | ⟨h, h2⟩
  · have HE := Lib.hid (show benc gen cs = (1, []) by unfold benc; rw [if_pos h])
    rw [HE.out]
    rw [decide_eq_false (by omega)] at HG
    generalize cs.length = n at *
    clear h
    go_enter Try.func12, Try.ntmps12
    go_wp2_with (first
      | (go_at_call 28; refine (HG.out _).mono ?_; rintro _ wx ⟨rfl, e0⟩; rw [e0]; clear e0 wx))
    refine bodyPost_ret (v := .tuple #[.slice none 0 0, .int .i64 1]) (by simp [results, Try.results12, go_sem]) rfl ?_
    exact encB_no (Below.refl _ _)
  · have HE := Lib.hid (show benc gen cs = (4, []) by unfold benc; rw [if_neg h, if_pos h2])
    rw [HE.out]
    rw [decide_eq_true (by omega)] at HG
    generalize cs.length = n at *
    have h5 : (65536 : Int) < (n : Int) := by omega
    clear h
    go_enter Try.func12, Try.ntmps12
    go_wp2_with (first
      | (go_at_call 28; refine (HG.out _).mono ?_; rintro _ wx ⟨rfl, e0⟩; rw [e0]; clear e0 wx))
    refine bodyPost_ret (v := .tuple #[.slice none 0 0, .int .i64 4]) (by simp [results, Try.results12, go_sem]) rfl ?_
    exact encB_no (Below.refl _ _)
set_option maxHeartbeats 2000000 in
theorem dEnc8_late (gen : Nat) (hg : gen ≤ 1099511627776) (cs : List Int) (a : Option Addr) (cap : Nat) (w : World) (hn : cs.length ≤ 65536) (hb : Nts w a cs) :
    Calls Try.prog 12 #[.int .i64 (gen : Int), .slice a cs.length cap] w (EncB (benc gen cs) w) := by
  have HG := Lib.hid fun w1 => genIs_any (gen : Int) w1
  rw [decide_eq_true (by omega)] at HG
  have HNT := Lib.hid hb
  have HON := Lib.hid fun (i : Nat) (hi : i < nblocks cs.length) (hok : okL cs) w1 (h : Below w.heap.size w w1) => dOne_any gen i hg cs a cap hn hi hok w1 (hb.below h)
  unfold NewB at HON
  obtain ⟨n, hnl⟩ : ∃ n, cs.length = n := ⟨_, rfl⟩
  have HLN := Lib.hid fun (i : Nat) => blk1_length (gen := gen) (i := i) (n := n) (xs := part (cs.map Int.toNat) i) (by rw [part_length]; exact inBlk_le _ _)
  rw [hnl] at hn HON ⊢
  simp only [HLN.out] at HON
  have HL := Lib.hid hnl
  clear hb hnl
  go_enter Try.func12, Try.ntmps12
  go_wp2_with (first
    | (go_at_call 28; refine (HG.out _).mono ?_; rintro _ wx ⟨rfl, e0⟩; rw [e0]; clear e0 wx))
  go_loop [6] (RelC1 cs) (fun i => n - (intOf i).toNat)
  case atStart => exact ⟨0, Nat.zero_le _, rfl, fun j hj => absurd hj (Nat.not_lt_zero j)⟩
  case round =>
    obtain ⟨k, hk, rfl, hok⟩ := hrel
    rw [HL.out] at hk
    by_cases hkn : k < n
    · obtain ⟨b, off, rfl, -, hc⟩ := HNT.out.at (k := k) (by rw [HL.out]; exact hkn)
      by_cases hgood : okC (cs.getD k 0)
      · have Hok := Lib.hid (show ∀ j, j < k + 1 → okC (cs.getD j 0) from fun j hj => by
          rcases Nat.lt_succ_iff_lt_or_eq.1 hj with hj | rfl
          · exact hok j hj
          · exact hgood)
        obtain ⟨g1, g2⟩ := hgood
        have g3 : ¬ (cs.getD k 0) < 0 := by omega
        have g4 : ¬ (65536 : Int) ≤ cs.getD k 0 := by omega
        generalize cs.getD k 0 = c at *
        have HJ := Lib.hid hkn
        clear hok
        go_wp2_with fail
        go_round
        case rel => exact ⟨k + 1, by rw [HL.out]; exact HJ.out, by go_num, Hok.out⟩
        case measure => exact meas_up HJ.out
      · have HE := Lib.hid (show benc gen cs = (13, []) by
          unfold benc
          rw [if_neg (by omega), if_neg (by rw [HL.out]; omega), if_pos]
          rw [List.any_eq_true]
          refine ⟨cs.getD k 0, ?_, ?_⟩
          · rw [List.getD_eq_getElem?_getD, List.getElem?_eq_getElem (by rw [HL.out]; exact hkn)]
            exact List.getElem_mem _
          · unfold okC at hgood
            exact decide_eq_true (by omega))
        unfold okC at hgood
        generalize cs.getD k 0 = c at *
        clear hok
        by_cases hc0 : c < 0
        · go_wp2_with fail
          refine bodyPost_ret (v := .tuple #[.slice none 0 0, .int .i64 13]) (by simp [results, Try.results12, go_sem]) rfl ?_
          rw [HE.out]
          exact encB_no (Below.refl _ _)
        · have hc1 : (65536 : Int) ≤ c := by omega
          clear hgood
          go_wp2_with fail
          refine bodyPost_ret (v := .tuple #[.slice none 0 0, .int .i64 13]) (by simp [results, Try.results12, go_sem]) rfl ?_
          rw [HE.out]
          exact encB_no (Below.refl _ _)
    · obtain rfl : k = n := by omega
      have hokL : okL cs := fun c hc => by
        obtain ⟨i, hi⟩ := List.mem_iff_getElem?.1 hc
        have h1 := hok i (by rw [← HL.out]; exact (List.getElem?_eq_some_iff.1 hi).1)
        rw [List.getD_eq_getElem?_getD, hi] at h1
        exact h1
      have HE := Lib.hid (benc_ok hg (by rw [HL.out]; exact hn) hokL)
      rw [HL.out] at HE
      have HOK := Lib.hid hokL
      have hnb2 := nblocks_le hn
      have HBL := Lib.hid fun w1 => dBlocks_any (k : Int) (by omega) w1
      rw [Int.toNat_natCast] at HBL
      generalize nblocks k = nb at *
      clear hok hkn hokL HG
      go_wp2_with fail
      go_loopw [7, 8] (fun o v wr => RelEc w gen cs nb o v wr) (fun _ v _ => nb - (intOf v).toNat)
      case atStart => exact ⟨0, none, 0, [], Nat.zero_le _, rfl, rfl, rfl, Rws.nil (Nat.le_refl _), Below.refl _ _⟩
      case round =>
        obtain ⟨j, la, lc, rs, hj, rfl, rfl, hrs, hR, hB⟩ := hrel
        by_cases hjn : j < nb
        · have HR := Lib.hid hR
          have HB := Lib.hid hB
          have HRS := Lib.hid hrs
          have HJ := Lib.hid hjn
          have H := Lib.hid (HON.out j hjn HOK.out wr hB)
          have hjI : (j : Int) < (nb : Int) := by omega
          clear hR hB hrs hj
          go_wp2_with fail
          refine (HBL.out _).mono ?_
          rintro _ wx ⟨rfl, e0⟩
          rw [e0]
          clear e0 wx
          go_wp2_with fail
          refine H.out.mono ?_
          clear H
          rintro _ w5 ⟨oa, oc, rfl, hO5, ho5, hb5⟩
          have HR5 := Lib.hid (HR.out.below hb5)
          have HLT := Lib.hid HR.out.own.lt
          have HZL := Lib.hid (show rs.length = j by have := congrArg List.length HRS.out; rw [List.length_map, rowsB_length] at this; exact this)
          have HB5 := Lib.hid (HB.out.trans (hb5.mono HB.out.size))
          have ha6 := one_below w5 (.cells #[.slice oa 512 oc] 32)
          have HR6 := Lib.hid (HR5.out.below ha6)
          have HB6 := Lib.hid (HB5.out.trans (ha6.mono HB5.out.size))
          have HO6 := Lib.hid (hO5.below ha6)
          have HU6 := Lib.hid ho5
          have HNW := Lib.hid (cell_new w5 (.slice oa 512 oc) 32)
          have HOL := Lib.hid (show OR eSl (w5.alloc (.cells #[.slice oa 512 oc] 32)) la lc j (cellsRw rs) by have := HR6.out.own; rwa [HZL.out] at this)
          have HB12 := Lib.hid (HLN.out j)
          clear hO5 ho5 hb5 ha6 HR HB HR5 HB5
          go_wp2_with (at_builtin; go_must (refine wpList_append_or eSl rfl (.tmp 40) (.tmp 45) rfl rfl HOL.out rfl (m := 1) (news := [.slice oa 512 oc]) rfl (.inr ⟨_, rfl, HNW.out⟩) (by simp [Value.oneCell']) (by show (j + 1) * 24 ≤ _; omega) (by omega) ?_)
                       intro la2 lc2 w7 hO7 hC7 hb7 _)
          go_roundw
          case rel => exact relEc_next HJ.out HRS.out HR6.out HB6.out HLT.out (by rw [HL.out]) HB12.out HO6.out HU6.out hO7 hC7 hb7 (by go_num)
          case measure => exact meas_up HJ.out
        · obtain rfl : j = nb := by omega
          have HF := Lib.hid (show EncB (0, rowsB gen cs j) w (.returned (.tuple #[.slice la j lc, .int .i64 0])) wr from ⟨la, lc, rs, by simp only [rowsB_length], hrs, hR, hB⟩)
          clear hrs hR hB
          go_wp2_with fail
          refine (HBL.out _).mono ?_
          rintro _ wx ⟨rfl, e0⟩
          rw [e0]
          clear e0 wx
          go_wp2_with fail
          refine bodyPost_ret (v := .tuple #[.slice la j lc, .int .i64 0]) (by simp [results, Try.results12, go_sem]) rfl ?_
          rw [HE.out]
          exact HF.out
theorem dEncode8_any (gen : Int) (cs : List Int) (a : Option Addr) (cap : Nat) (w : World) (hl : cs.length ≤ 9223372036854775807) (hb : Nts w a cs) :
    Calls Try.prog 12 #[.int .i64 gen, .slice a cs.length cap] w (EncB (benc gen cs) w) := by
  by_cases h1 : gen < 0 ∨ 1099511627776 < gen
  · exact dEnc8_early gen cs a cap w (.inl h1) hl
  by_cases h2 : 65536 < cs.length
  · exact dEnc8_early gen cs a cap w (.inr ⟨h1, h2⟩) hl
  obtain ⟨g, rfl⟩ := Int.eq_ofNat_of_zero_le (show 0 ≤ gen by omega)
  exact dEnc8_late g (by omega) cs a cap w (by omega) hb
/-- the same rows -/
def RelEr (W : World) (n : Nat) (v : Value) (wr : World) : Prop := ∃ k : Nat, k ≤ n ∧ v = .int .i64 k ∧ Below W.heap.size W wr
set_option maxHeartbeats 1000000 in
theorem eqRows_same (rs ss : List Row) (la lb : Option Addr) (ca cb : Nat) (rows : List (List UInt8)) (hr : rs.map (·.1) = rows) (hs : ss.map (·.1) = rows) (hl : rows.length ≤ 1000000) (w : World) (h1 : RdRw w la rs) (h2 : RdRw w lb ss) :
    Calls Try.prog 13 #[.slice la rows.length ca, .slice lb rows.length cb] w fun e w' => e = .returned (.bool true) ∧ Below w.heap.size w w' := by
  have H1 := Lib.hid h1
  have H2 := Lib.hid h2
  have HGT := Lib.hid fun (k : Nat) (hk : k < rows.length) => (show ∃ b a1 c1 a2 c2, rs[k]? = some (b, a1, c1) ∧ ss[k]? = some (b, a2, c2) from by
    have k1 : k < rs.length := by rw [← hr, List.length_map] at hk; exact hk
    have k2 : k < ss.length := by rw [← hs, List.length_map] at hk; exact hk
    obtain ⟨⟨b1, a1, c1⟩, e1⟩ : ∃ r, rs[k]? = some r := ⟨_, List.getElem?_eq_getElem k1⟩
    obtain ⟨⟨b2, a2, c2⟩, e2⟩ : ∃ r, ss[k]? = some r := ⟨_, List.getElem?_eq_getElem k2⟩
    have q1 : rows[k]? = some b1 := by rw [← hr, List.getElem?_map, e1]; rfl
    have q2 : rows[k]? = some b2 := by rw [← hs, List.getElem?_map, e2]; rfl
    rw [q1] at q2; cases q2
    exact ⟨b1, a1, c1, a2, c2, e1, e2⟩)
  generalize rows.length = n at *
  have hnn : ((n : Int) != (n : Int)) = false := by simp
  clear h1 h2 hr hs
  go_enter Try.func13, Try.ntmps13
  go_wp2_with fail
  go_loopw [5] (fun v wr => RelEr w n v wr) (fun v _ => n - (intOf v).toNat)
  case atStart => exact ⟨0, Nat.zero_le _, rfl, Below.refl _ _⟩
  case round =>
    obtain ⟨k, hk, rfl, hB⟩ := hrel
    by_cases hkn : k < n
    · obtain ⟨b, a1, c1, a2, c2, e1, e2⟩ := HGT.out k hkn
      obtain ⟨b1, o1, rfl, hc1, t1, -, hl1⟩ := (H1.out.below hB).at e1
      obtain ⟨b2, o2, rfl, hc2, t2, -, -⟩ := (H2.out.below hB).at e2
      simp only at hc1 t1 hl1 hc2 t2
      have H := Lib.hid fun w1 (h : Below wr.heap.size wr w1) => eqBytes_any b b a1 a2 c1 c2 (by omega) (by omega) w1 (t1.below h) (t2.below h)
      unfold Same at H
      simp only [decide_true] at H
      have HB := Lib.hid hB
      have HJ := Lib.hid hkn
      generalize b.length = bl at *
      clear t1 t2 e1 e2 hB
      go_wp2_with fail
      go_still_tail 8, (by kernel_rfl)
      change wpList _ _ _ _ _ wr.drew
      have hd : Below wr.heap.size wr wr.drew := (Below.refl wr.heap.size wr).drew
      have HH := Lib.hid (H.out wr.drew hd)
      have HB2 := Lib.hid (HB.out.trans (hd.mono HB.out.size))
      clear hd H
      generalize wr.drew = w1 at *
      go_wp2_with fail
      refine HH.out.mono ?_
      rintro _ w2 ⟨rfl, hb2⟩
      go_wp2_with fail
      go_roundw
      case rel => exact ⟨k + 1, HJ.out, by go_num, HB2.out.trans (hb2.mono HB2.out.size)⟩
      case measure => exact meas_up HJ.out
    · have hk2 : k = n := by omega
      subst hk2
      go_wp2_with fail
      go_ret
      exact ⟨rfl, hB⟩
end Go.Proofs.Ytpjdknmgegbgnaa
