/- The document's Decode. -/
import Derived.Test.YtpjdknmgegbgnaaBkRd
namespace Go.Proofs.Ytpjdknmgegbgnaa
open Go.RowKit
set_option linter.unusedVariables false
set_option maxRecDepth 100000

theorem decD_early (gen pages : Int) (a : Option Addr) (cap : Nat) (rows : List (List UInt8)) (w : World) (hp : pages ≤ 9223372036854775807) (hl : rows.length ≤ 9223372036854775807) (h : ¬ (((0 ≤ gen ∧ gen ≤ 1099511627776) ∧ 0 ≤ pages ∧ pages ≤ 65536) ∧ rows.length = nblocks pages.toNat)) :
    Calls Try.prog 18 #[.int .i64 gen, .int .i64 pages, .slice a rows.length cap] w (BlkP (bdec gen pages rows) w) := by
  have HE := Lib.hid (show bdec gen pages rows = (1, []) by unfold bdec; rw [if_pos h])
  rw [HE.out]
  have HG := Lib.hid fun w1 => genIs_any gen w1
  have HP := Lib.hid fun w1 => pagesAre_any pages w1
  have HB := Lib.hid fun w1 => dBlocks_any pages hp w1
  by_cases hm1 : 0 ≤ gen ∧ gen ≤ 1099511627776
  · rw [decide_eq_true hm1] at HG
    by_cases hm2 : 0 ≤ pages ∧ pages ≤ 65536
    · rw [decide_eq_true hm2] at HP
      have hne : ((rows.length : Int) != ((nblocks pages.toNat : Nat) : Int)) = true := by
        rw [bne_iff_ne]; intro e; exact h ⟨⟨hm1, hm2⟩, by omega⟩
      generalize rows.length = n at *
      generalize ((nblocks pages.toNat : Nat) : Int) = nb at *
      clear h hm1 hm2
      go_enter Try.func18, Try.ntmps18
      go_wp2_with (first
        | (go_at_call 28; refine (HG.out _).mono ?_; rintro _ wx ⟨rfl, e0⟩; rw [e0]; clear e0 wx)
        | (go_at_call 31; refine (HP.out _).mono ?_; rintro _ wx ⟨rfl, e0⟩; rw [e0]; clear e0 wx)
        | (go_at_call 9; refine (HB.out _).mono ?_; rintro _ wx ⟨rfl, e0⟩; rw [e0]; clear e0 wx))
      refine bodyPost_ret (v := .tuple #[.slice none 0 0, .int .i64 1]) (by simp [results, Try.results18, go_sem]) rfl ?_
      exact blkP_no (Below.refl _ _)
    · rw [decide_eq_false hm2] at HP
      generalize rows.length = n at *
      clear h hm1 hm2
      go_enter Try.func18, Try.ntmps18
      go_wp2_with (first
        | (go_at_call 28; refine (HG.out _).mono ?_; rintro _ wx ⟨rfl, e0⟩; rw [e0]; clear e0 wx)
        | (go_at_call 31; refine (HP.out _).mono ?_; rintro _ wx ⟨rfl, e0⟩; rw [e0]; clear e0 wx))
      refine bodyPost_ret (v := .tuple #[.slice none 0 0, .int .i64 1]) (by simp [results, Try.results18, go_sem]) rfl ?_
      exact blkP_no (Below.refl _ _)
  · rw [decide_eq_false hm1] at HG
    generalize rows.length = n at *
    clear h hm1
    go_enter Try.func18, Try.ntmps18
    go_wp2_with (first
      | (go_at_call 28; refine (HG.out _).mono ?_; rintro _ wx ⟨rfl, e0⟩; rw [e0]; clear e0 wx))
    refine bodyPost_ret (v := .tuple #[.slice none 0 0, .int .i64 1]) (by simp [results, Try.results18, go_sem]) rfl ?_
    exact blkP_no (Below.refl _ _)
theorem Nts.chgF {F : Nat → Prop} {w w' : World} {a : Option Addr} {cs : List Int} (h : Nts w a cs) (hc : Chg F w w') (hn : ∀ k, blk a = some k → ¬ F k) : Nts w' a cs := by
  rcases h with h | ⟨b, off, rfl, h2, h3⟩
  · exact .inl h
  · have hs := hc.block b h2 (hn b rfl)
    refine .inr ⟨b, off, rfl, Nat.lt_of_lt_of_le h2 hc.size, fun i hi => ?_⟩
    rw [World.cell?_of_block (w := w) hs]
    exact h3 i hi
def RelDk (W : World) (pre l : List Int) (m n : Nat) (la : Option Addr) (o v : Value) (wr : World) : Prop :=
  ∃ (k : Nat) (oa : Option Addr) (oc : Nat), k ≤ n ∧ v = .int .i64 k ∧ o = .slice oa (m + k) oc ∧ OR eN wr oa oc (m + k) (cellsN (pre ++ l.take k)) ∧ (∀ j, blk oa = some j → W.heap.size ≤ j) ∧ (∀ j, blk oa = some j → blk la ≠ some j) ∧ Nts wr la l ∧ Below W.heap.size W wr ∧ (∀ j, blk la = some j → j < wr.heap.size)
theorem relDk_next {W wr w1 w2 : World} {pre l : List Int} {m n k : Nat} {la oa oa2 : Option Addr} {oc2 : Nat} {x : Int} (hk : k < n) (hx : l[k]? = some x) (ho : ∀ j, blk oa = some j → W.heap.size ≤ j) (hd : ∀ j, blk oa = some j → blk la ≠ some j) (hN : Nts wr la l) (hB : Below W.heap.size W wr) (hl : ∀ j, blk la = some j → j < wr.heap.size)
    (h1 : Below wr.heap.size wr w1) (hO : OR eN w2 oa2 oc2 (m + k + 1) (cellsN (pre ++ l.take k) ++ [.int .i64 x])) (hC : Chg (fun j => blk oa = some j) w1 w2) (hb2 : blk oa2 = blk oa ∨ blk oa2 = some w1.heap.size) {i : Value} (hi : i = .int .i64 ((k + 1 : Nat) : Int)) :
    RelDk W pre l m n la (.slice oa2 (m + (k + 1)) oc2) i w2 := by
  subst hi
  have hB1 := hB.trans (h1.mono hB.size)
  have ht : l.take (k + 1) = l.take k ++ [x] := by rw [List.take_add_one, hx]; rfl
  refine ⟨k + 1, oa2, oc2, hk, rfl, rfl, ?_, fun j e => ?_, fun j e f => ?_, (hN.below h1).chgF hC (fun j e f => hd j f e), hB1.trans (hC.below hB1.size ho), fun j e => Nat.lt_of_lt_of_le (hl j e) (Nat.le_trans h1.size hC.size)⟩
  · rw [ht, ← List.append_assoc]
    have : cellsN (pre ++ l.take k ++ [x]) = cellsN (pre ++ l.take k) ++ [.int .i64 x] := by simp [cellsN]
    rw [this]; exact hO
  · rcases hb2 with hb2 | hb2
    · exact ho j (hb2 ▸ e)
    · rw [hb2] at e; cases e; exact hB1.size
  · rcases hb2 with hb2 | hb2
    · exact hd j (hb2 ▸ e) f
    · rw [hb2] at e; cases e; have := hl _ f; have := h1.size; omega
theorem relDb_step {W w' : World} {gen pages : Int} {rows : List (List UInt8)} {n k m nn : Nat} {oa' : Option Addr} {oc' : Nat} {l : List Nat} (hk : k < n) (h0 : berr (fE gen pages rows) k = 0) (hf : fB gen pages rows k = (0, l)) (hm : (bcat gen pages rows k).length = m) (hn : l.length = nn) (ho : ∀ j, blk oa' = some j → W.heap.size ≤ j) (hB : Below W.heap.size W w')
    (hO : OR eN w' oa' oc' (m + nn) (cellsN (ints (bcat gen pages rows k) ++ ints l))) {v : Value} (hv : v = .int .i64 ((k + 1 : Nat) : Int)) :
    RelDb W gen pages rows n (.slice oa' (m + nn) oc') v w' := by
  subst hv
  have hc : bcat gen pages rows (k + 1) = bcat gen pages rows k ++ l := by rw [bcat_snoc, hf]
  refine ⟨k + 1, oa', oc', hk, rfl, by rw [hc, List.length_append, hm, hn], ?_, ?_, ho, hB⟩
  · rw [berr, if_neg (by simp [h0])]; unfold fE; rw [hf]
  · rw [hc]
    unfold ON
    rw [ints_length, List.length_append, hm, hn]
    simpa [ints, cellsN] using hO
set_option maxHeartbeats 2000000 in
theorem decD_late (gen pages : Int) (a : Option Addr) (cap : Nat) (rs : List Row) (rows : List (List UInt8)) (hrs : rs.map (·.1) = rows) (w : World) (hr : RdRw w a rs) (h : ((0 ≤ gen ∧ gen ≤ 1099511627776) ∧ 0 ≤ pages ∧ pages ≤ 65536) ∧ rows.length = nblocks pages.toNat) :
    Calls Try.prog 18 #[.int .i64 gen, .int .i64 pages, .slice a rows.length cap] w (BlkP (bdec gen pages rows) w) := by
  have HE := Lib.hid (show bdec gen pages rows = if berr (fE gen pages rows) rows.length ≠ 0 then (berr (fE gen pages rows) rows.length, []) else (0, bcat gen pages rows rows.length) by unfold bdec; rw [if_neg (fun g => g h)])
  obtain ⟨⟨hm1, hm2⟩, hl⟩ := h
  have HG := Lib.hid fun w1 => genIs_any gen w1
  have HP := Lib.hid fun w1 => pagesAre_any pages w1
  rw [decide_eq_true hm1] at HG
  rw [decide_eq_true hm2] at HP
  have HB := Lib.hid fun w1 => dBlocks_any pages (by omega) w1
  have hnb : nblocks pages.toNat ≤ 274 := by unfold nblocks; omega
  have hne : ((rows.length : Int) != ((nblocks pages.toNat : Nat) : Int)) = false := by rw [bne_eq_false_iff_eq]; omega
  have HBK := Lib.hid fun (i : Int) a cap bs w1 (hcap : bs.length ≤ cap) hll hb => dBlock8_any gen pages i a cap bs w1 (by omega) hcap hll hb
  have HRR := Lib.hid hr
  have HRL := Lib.hid (show rs.length = rows.length by rw [← hrs, List.length_map])
  have HRD := Lib.hid fun (k : Nat) (r : Row) (h : rs[k]? = some r) => show rows.getD k [] = r.1 by rw [← hrs, List.getD_eq_getElem?_getD, List.getElem?_map, h]; rfl
  generalize hnn : rows.length = n at *
  generalize ((nblocks pages.toNat : Nat) : Int) = nb at *
  have hn274 : n ≤ 274 := by omega
  clear hl hm1 hm2 hnn hr hrs
  go_enter Try.func18, Try.ntmps18
  go_wp2_with (first
    | (go_at_call 28; refine (HG.out _).mono ?_; rintro _ wx ⟨rfl, e0⟩; rw [e0]; clear e0 wx)
    | (go_at_call 31; refine (HP.out _).mono ?_; rintro _ wx ⟨rfl, e0⟩; rw [e0]; clear e0 wx)
    | (go_at_call 9; refine (HB.out _).mono ?_; rintro _ wx ⟨rfl, e0⟩; rw [e0]; clear e0 wx))
  clear HG HP HB
  go_loopw [8, 9] (fun o v wr => RelDb w gen pages rows n o v wr) (fun _ v _ => n - (intOf v).toNat)
  case atStart => exact ⟨0, none, 0, Nat.zero_le _, rfl, rfl, rfl, OR.nil eN _, fun j e => (by cases e), Below.refl _ _⟩
  case round =>
    obtain ⟨k, oa, oc, hk, rfl, rfl, h0, hO, ho, hBl⟩ := hrel
    have hcl := bcat_length gen pages rows k
    by_cases hkn : k < n
    · obtain ⟨r, hr⟩ : ∃ r, rs[k]? = some r := ⟨_, List.getElem?_eq_getElem (by rw [HRL.out]; exact hkn)⟩
      obtain ⟨b, off, rfl, hcell, hbt, hcap, hll⟩ := (HRR.out.below hBl).at hr
      have hrd := HRD.out k r hr
      have H := HBK.out (k : Int) r.2.1 r.2.2 r.1 wr hcap hll hbt
      obtain ⟨⟨e, l⟩, hfb⟩ : ∃ q, fB gen pages rows k = q := ⟨_, rfl⟩
      have hfb2 : bblock gen pages (k : Int) r.1 = (e, l) := by rw [← hrd]; exact hfb
      rw [hfb2] at H
      unfold BlkP at H
      simp only at H
      have hll2 : l.length ≤ 240 := by have := bblock_length (gen := gen) (pages := pages) (i := (k : Int)) (bs := r.1); rw [hfb2] at this; exact this
      obtain ⟨rb, ra, rc⟩ := r
      simp only at hcell H
      generalize rb.length = rl at *
      obtain ⟨ln, hln⟩ : ∃ ln, l.length = ln := ⟨_, rfl⟩
      rw [hln] at hll2
      simp only [hln] at H
      have HLN := Lib.hid hln
      obtain ⟨m, hml⟩ : ∃ m, (bcat gen pages rows k).length = m := ⟨_, rfl⟩
      rw [hml] at hcl ⊢
      have HML := Lib.hid hml
      have HJ := Lib.hid hkn
      have HO := Lib.hid hO
      have HO2 := Lib.hid ho
      have HBB := Lib.hid hBl
      have H0 := Lib.hid h0
      have HFB := Lib.hid hfb
      have H := Lib.hid H
      clear hO ho hBl h0 hfb hfb2 hr hrd hbt hln hml
      by_cases he : e = 0
      · subst he
        go_wp2_with fail
        refine H.out.mono ?_
        clear H
        rintro _ w5 ⟨la, lc, rfl, hL, hl0, hb5⟩
        have HOL := Lib.hid (show OR eN w5 oa oc m (cellsN (ints (bcat gen pages rows k))) by
          have := OR.chg (F := fun _ => False) HO.out (Chg.of_below hb5) (fun _ _ f => f)
          rwa [ints_length, HML.out] at this)
        have HR0 := Lib.hid (show RelDk w (ints (bcat gen pages rows k)) (ints l) m ln la (.slice oa m oc) (.int .i64 0) w5 from
          ⟨0, oa, oc, Nat.zero_le _, rfl, rfl, by rw [List.take_zero, List.append_nil]; exact HOL.out, HO2.out, fun j e f => by have h1 := OR.lt HO.out j e; have h2 := hl0 j f; omega, hL.nts, HBB.out.trans (hb5.mono HBB.out.size), fun j e => OR.lt hL j e⟩)
        have HIL := Lib.hid (show (ints l).length = ln by rw [ints_length, HLN.out])
        clear hL hl0 hb5 HO hcell HOL HBB
        go_wp2_with fail
        go_loopw [8, 12] (fun o v wr => RelDk w (ints (bcat gen pages rows k)) (ints l) m ln la o v wr) (fun _ v _ => ln - (intOf v).toNat)
        case atStart => exact HR0.out
        case round =>
          clear HR0 HO2
          obtain ⟨k2, oa, oc, hk2, rfl, rfl, hO, ho, hd, hN, hB, hlt⟩ := hrel
          by_cases hkm : k2 < ln
          · obtain ⟨x, hx⟩ : ∃ x, (ints l)[k2]? = some x := ⟨_, List.getElem?_eq_getElem (by rw [HIL.out]; exact hkm)⟩
            obtain ⟨nb2, noff, rfl, -, hc⟩ := hN.at (k := k2) (by rw [HIL.out]; exact hkm)
            rw [List.getD_eq_getElem?_getD, hx, Option.getD_some] at hc
            have Hnx := Lib.hid fun (w1 w2 : World) (oa2 : Option Addr) (oc2 : Nat) (i : Value) => relDk_next (W := w) (wr := wr) (pre := ints (bcat gen pages rows k)) (l := ints l) (m := m) (n := ln) (w1 := w1) (w2 := w2) (oa2 := oa2) (oc2 := oc2) (i := i) hkm hx ho hd hN hB hlt
            have ha := one_below wr (.cells #[.int .i64 x] 3)
            have HA1 := Lib.hid ha
            have HO1 := Lib.hid (OR.chg (F := fun _ => False) hO (Chg.of_below ha) (fun _ _ f => f))
            have HNW := Lib.hid (cell_new wr (.int .i64 x) 3)
            have HJ2 := Lib.hid hkm
            clear hO ho hd hN hB hlt hx ha
            go_wp2_with (at_builtin; go_must (refine wpList_append_or eN rfl (.tmp 54) (.tmp 59) rfl rfl HO1.out rfl (m := 1) (news := [.int .i64 x]) rfl (.inr ⟨_, rfl, HNW.out⟩) (by simp [Value.oneCell']) (by show (m + k2 + 1) * 8 ≤ _; omega) (by omega) ?_)
                         intro oa2 oc2 w7 hO7 hC7 hb7 _)
            go_roundw
            case rel => exact Hnx.out _ _ _ _ _ HA1.out hO7 hC7 hb7 (by go_num)
            case measure => exact meas_up HJ2.out
          · obtain rfl : k2 = ln := by omega
            rw [List.take_of_length_le (by rw [HIL.out]; exact Nat.le_refl _)] at hO
            have Hst := Lib.hid fun (v : Value) (hv : v = .int .i64 ((k + 1 : Nat) : Int)) => relDb_step HJ.out H0.out HFB.out HML.out HLN.out ho hB hO hv
            clear hO ho hd hN hB hlt hkm
            go_wp2_with fail
            go_roundw
            case rel => exact Hst.out _ (by go_num)
            case measure => exact meas_up HJ.out
      · have hed : (e != 0) = true := by rw [bne_iff_ne]; exact he
        have HX := Lib.hid (show bdec gen pages rows = (e, []) by
          have hs := berr_stop H0.out (show fE gen pages rows k = e by unfold fE; rw [HFB.out]) he HJ.out
          rw [HE.out, hs, if_pos he])
        clear he
        go_wp2_with fail
        refine H.out.mono ?_
        clear H
        rintro _ w5 ⟨la, lc, rfl, -, -, hb5⟩
        have HB5 := Lib.hid (HBB.out.trans (hb5.mono HBB.out.size))
        clear hb5 hcell
        go_wp2_with fail
        refine bodyPost_ret (v := .tuple #[.slice none 0 0, .int .i64 e]) (by simp [results, Try.results18, go_sem]) rfl ?_
        rw [HX.out]
        exact blkP_no HB5.out
    · obtain rfl : k = n := by omega
      have HX := Lib.hid (show bdec gen pages rows = (0, bcat gen pages rows k) by rw [HE.out, if_neg (by simp [h0])])
      have HF := Lib.hid (show BlkP (0, bcat gen pages rows k) w (.returned (.tuple #[.slice oa (bcat gen pages rows k).length oc, .int .i64 0])) wr from ⟨oa, oc, rfl, hO, ho, hBl⟩)
      generalize (bcat gen pages rows k).length = m at *
      clear hO ho hBl h0 hkn
      go_wp2_with fail
      refine bodyPost_ret (v := .tuple #[.slice oa m oc, .int .i64 0]) (by simp [results, Try.results18, go_sem]) rfl ?_
      rw [HX.out]
      exact HF.out
theorem dDecode8_any (gen pages : Int) (a : Option Addr) (cap : Nat) (rs : List Row) (rows : List (List UInt8)) (hrs : rs.map (·.1) = rows) (w : World) (hp : pages ≤ 9223372036854775807) (hl : rows.length ≤ 9223372036854775807) (hr : RdRw w a rs) :
    Calls Try.prog 18 #[.int .i64 gen, .int .i64 pages, .slice a rows.length cap] w (BlkP (bdec gen pages rows) w) := by
  by_cases h : ((0 ≤ gen ∧ gen ≤ 1099511627776) ∧ 0 ≤ pages ∧ pages ≤ 65536) ∧ rows.length = nblocks pages.toNat
  · exact decD_late gen pages a cap rs rows hrs w hr h
  · exact decD_early gen pages a cap rows w hp hl h
end Go.Proofs.Ytpjdknmgegbgnaa
