/- A bank's Decode. -/
import Derived.Test.YtpjdknmgegbgnaaBkBlW
import Derived.Test.YtpjdknmgegbgnaaBkR
namespace Go.Proofs.Ytpjdknmgegbgnaa
open Go.RowKit
set_option linter.unusedVariables false
set_option maxRecDepth 100000

def berr (f : Nat → Int) : Nat → Int
  | 0 => 0
  | n + 1 => if berr f n ≠ 0 then berr f n else f n
theorem berr_stop {f : Nat → Int} {k : Nat} (h0 : berr f k = 0) {e : Int} (he : f k = e) (hn : e ≠ 0) : ∀ {n : Nat}, k < n → berr f n = e
  | n + 1, h => by
    rcases Nat.lt_succ_iff_lt_or_eq.1 h with h | rfl
    · have := berr_stop h0 he hn h
      rw [berr, if_pos (by rw [this]; exact hn), this]
    · rw [berr, if_neg (by simp [h0]), he]
theorem berr_all {f : Nat → Int} : ∀ {n : Nat}, berr f n = 0 → ∀ i, i < n → f i = 0
  | n + 1, h, i, hi => by
    rw [berr] at h
    split at h
    · rename_i h1; exact absurd h h1
    · rename_i h1
      rcases Nat.lt_succ_iff_lt_or_eq.1 hi with hi | rfl
      · exact berr_all (Decidable.not_not.1 h1) i hi
      · exact h
theorem berr_zero {f : Nat → Int} : ∀ {n : Nat}, (∀ i, i < n → f i = 0) → berr f n = 0
  | 0, _ => rfl
  | n + 1, h => by
    rw [berr, if_neg (by simp [berr_zero fun i hi => h i (Nat.lt_succ_of_lt hi)])]
    exact h n (Nat.lt_succ_self n)
/-- the answer of a block of a list -/
def fB (gen pages : Int) (rows : List (List UInt8)) (j : Nat) : Int × List Nat := bblock gen pages ((j : Nat) : Int) (rows.getD j [])
def fE (gen pages : Int) (rows : List (List UInt8)) (j : Nat) : Int := (fB gen pages rows j).1
/-- the counts of the first k blocks -/
def bcat (gen pages : Int) (rows : List (List UInt8)) (k : Nat) : List Nat := (List.range k).flatMap fun j => (fB gen pages rows j).2
theorem bcat_snoc (gen pages : Int) (rows : List (List UInt8)) (k : Nat) : bcat gen pages rows (k + 1) = bcat gen pages rows k ++ (fB gen pages rows k).2 := by simp [bcat, List.range_succ]
/-- what Decode answers -/
def bdec (gen pages : Int) (rows : List (List UInt8)) : Int × List Nat :=
  if ¬ (((0 ≤ gen ∧ gen ≤ 1099511627776) ∧ 0 ≤ pages ∧ pages ≤ 65536) ∧ rows.length = nblocks pages.toNat) then (1, [])
  else if berr (fE gen pages rows) rows.length ≠ 0 then (berr (fE gen pages rows) rows.length, [])
  else (0, bcat gen pages rows rows.length)
theorem bread_length {gen pages i : Nat} {bs : List UInt8} : (bread gen pages i bs).2.length ≤ 240 := by
  have := inBlk_le pages i
  unfold bread
  repeat' split
  all_goals first
    | (simp only [List.length_nil]; omega)
    | (simp only [numsAt_length]; omega)
theorem bblock_length {gen pages i : Int} {bs : List UInt8} : (bblock gen pages i bs).2.length ≤ 240 := by
  unfold bblock
  split
  · exact bread_length
  · exact Nat.zero_le _
theorem bcat_length (gen pages : Int) (rows : List (List UInt8)) : ∀ k, (bcat gen pages rows k).length ≤ 240 * k
  | 0 => Nat.zero_le _
  | k + 1 => by
    have h1 := bcat_length gen pages rows k
    have h2 : (fB gen pages rows k).2.length ≤ 240 := bblock_length
    rw [bcat_snoc, List.length_append]; omega
/-- rows that are read -/
def RdRw (w : World) (a : Option Addr) (rs : List Row) : Prop :=
  rs = [] ∨ ∃ b off, a = some ⟨b, off, none⟩ ∧ b < w.heap.size ∧ ∀ i r, rs[i]? = some r → w.cell? ⟨b, off + i, none⟩ = some (.slice r.2.1 r.1.length r.2.2) ∧ Bts w r.2.1 r.1 ∧ r.1.length ≤ r.2.2 ∧ r.1.length ≤ 140737488355328
theorem RdRw.below {w w' : World} {a : Option Addr} {rs : List Row} (h : RdRw w a rs) (hb : Below w.heap.size w w') : RdRw w' a rs := by
  rcases h with h | ⟨b, off, h1, h2, h3⟩
  · exact .inl h
  · refine .inr ⟨b, off, h1, Nat.lt_of_lt_of_le h2 hb.size, fun i r hi => ?_⟩
    obtain ⟨g1, g2, g3⟩ := h3 i r hi
    exact ⟨(hb.cell (p := ⟨b, off + i, none⟩) h2).trans g1, g2.below hb, g3⟩
theorem RdRw.at {w : World} {a : Option Addr} {rs : List Row} (h : RdRw w a rs) {i : Nat} {r : Row} (hi : rs[i]? = some r) : ∃ b off, a = some ⟨b, off, none⟩ ∧ w.cell? ⟨b, off + i, none⟩ = some (.slice r.2.1 r.1.length r.2.2) ∧ Bts w r.2.1 r.1 ∧ r.1.length ≤ r.2.2 ∧ r.1.length ≤ 140737488355328 := by
  rcases h with rfl | ⟨b, off, h1, h2, h3⟩
  · simp at hi
  · exact ⟨b, off, h1, h3 i r hi⟩
theorem Rws.rd {lo hi : Nat} {w : World} {la : Option Addr} {lc : Nat} {rs : List Row} (h : Rws lo hi w la lc rs) (hl : ∀ r ∈ rs, r.1.length ≤ 140737488355328) : RdRw w la rs := by
  rcases h.own.form.2 with ⟨_, _, h0, _⟩ | ⟨g, e, hg, _⟩
  · exact .inl (List.length_eq_zero_iff.1 h0)
  · refine .inr ⟨g, 0, e, hg, fun i r hr => ?_⟩
    have hm := List.mem_of_getElem? hr
    obtain ⟨g', e', hcell⟩ := h.at hr
    rw [e] at e'; cases e'
    exact ⟨by rw [Nat.zero_add]; exact hcell, (h.obs r hm).bts, (h.obs r hm).cap.1, hl r hm⟩
theorem ON.news {w : World} {oa : Option Addr} {cap : Nat} {l : List Int} (h : ON w oa cap l) : (oa = none ∧ cap = 0 ∧ l.length = 0 ∧ cellsN l = []) ∨ ∃ ad, oa = some ad ∧ ∀ j u, (cellsN l)[j]? = some u → w.cell? (ad.add j) = some u := by
  rcases (OR.form h).2 with ⟨h1, h2, h0, _⟩ | ⟨g, h1, _⟩
  · exact .inl ⟨h1, h2, h0, by rw [List.length_eq_zero_iff.1 h0]; rfl⟩
  · refine .inr ⟨_, h1, fun j u hj => ?_⟩
    obtain ⟨g', e, hc, _⟩ := OR.cell h hj
    rw [h1] at e; cases e
    rw [add_none, Nat.zero_add]; exact hc
theorem cellsN_one (l : List Int) : ∀ u ∈ cellsN l, u.oneCell' = true := by
  intro u hu
  simp only [cellsN, List.mem_map] at hu
  obtain ⟨b, _, rfl⟩ := hu
  rfl
theorem cellsN_length (l : List Int) : (cellsN l).length = l.length := by simp [cellsN]
def RelDb (W : World) (gen pages : Int) (rows : List (List UInt8)) (n : Nat) (o v : Value) (wr : World) : Prop :=
  ∃ (k : Nat) (oa : Option Addr) (oc : Nat), k ≤ n ∧ v = .int .i64 k ∧ o = .slice oa (bcat gen pages rows k).length oc ∧ berr (fE gen pages rows) k = 0 ∧ ON wr oa oc (ints (bcat gen pages rows k)) ∧ (∀ j, blk oa = some j → W.heap.size ≤ j) ∧ Below W.heap.size W wr
theorem relDb_next {W w w' : World} {gen pages : Int} {rows : List (List UInt8)} {n k m nn : Nat} {oa oa' : Option Addr} {oc' : Nat} {l : List Nat} (hk : k < n) (h0 : berr (fE gen pages rows) k = 0) (hf : fB gen pages rows k = (0, l)) (hm : (bcat gen pages rows k).length = m) (hn : l.length = nn) (ho : ∀ j, blk oa = some j → W.heap.size ≤ j) (hB : Below W.heap.size W w)
    (hO : OR eN w' oa' oc' (m + nn) (cellsN (ints (bcat gen pages rows k)) ++ cellsN (ints l))) (hC : Chg (fun j => blk oa = some j) w w') (hb : blk oa' = blk oa ∨ blk oa' = some w.heap.size) {v : Value} (hv : v = .int .i64 ((k + 1 : Nat) : Int)) :
    RelDb W gen pages rows n (.slice oa' (m + nn) oc') v w' := by
  subst hv
  have hc : bcat gen pages rows (k + 1) = bcat gen pages rows k ++ l := by rw [bcat_snoc, hf]
  refine ⟨k + 1, oa', oc', hk, rfl, by rw [hc, List.length_append, hm, hn], ?_, ?_, fun j e => ?_, hB.trans (hC.below hB.size ho)⟩
  · rw [berr, if_neg (by simp [h0])]; unfold fE; rw [hf]
  · rw [hc]
    unfold ON
    rw [ints_length, List.length_append, hm, hn]
    simpa [ints, cellsN] using hO
  · rcases hb with hb | hb
    · exact ho j (hb ▸ e)
    · rw [hb] at e; cases e; exact hB.size
theorem decB_early (gen pages : Int) (a : Option Addr) (cap : Nat) (rows : List (List UInt8)) (w : World) (hp : pages ≤ 9223372036854775807) (hl : rows.length ≤ 9223372036854775807) (h : ¬ (((0 ≤ gen ∧ gen ≤ 1099511627776) ∧ 0 ≤ pages ∧ pages ≤ 65536) ∧ rows.length = nblocks pages.toNat)) :
    Calls Try.prog 17 #[.int .i64 gen, .int .i64 pages, .slice a rows.length cap] w (BlkP (bdec gen pages rows) w) := by
  have HE := Lib.hid (show bdec gen pages rows = (1, []) by unfold bdec; rw [if_pos h])
  rw [HE.out]
  have HM := Lib.hid fun w1 => may_any gen pages w1
  have HB := Lib.hid fun w1 => blocks_any pages hp w1
  by_cases hm : (0 ≤ gen ∧ gen ≤ 1099511627776) ∧ 0 ≤ pages ∧ pages ≤ 65536
  · rw [decide_eq_true hm] at HM
    have hne : ((rows.length : Int) != ((nblocks pages.toNat : Nat) : Int)) = true := by
      rw [bne_iff_ne]; intro e; exact h ⟨hm, by omega⟩
    generalize rows.length = n at *
    generalize ((nblocks pages.toNat : Nat) : Int) = nb at *
    clear h hm
    go_enter Try.func17, Try.ntmps17
    go_wp2_with (first
      | (go_at_call 30; refine (HM.out _).mono ?_; rintro _ wx ⟨rfl, e0⟩; rw [e0]; clear e0 wx)
      | (go_at_call 8; refine (HB.out _).mono ?_; rintro _ wx ⟨rfl, e0⟩; rw [e0]; clear e0 wx))
    refine bodyPost_ret (v := .tuple #[.slice none 0 0, .int .i64 1]) (by simp [results, Try.results17, go_sem]) rfl ?_
    exact blkP_no (Below.refl _ _)
  · rw [decide_eq_false hm] at HM
    generalize rows.length = n at *
    clear h hm
    go_enter Try.func17, Try.ntmps17
    go_wp2_with (first
      | (go_at_call 30; refine (HM.out _).mono ?_; rintro _ wx ⟨rfl, e0⟩; rw [e0]; clear e0 wx))
    refine bodyPost_ret (v := .tuple #[.slice none 0 0, .int .i64 1]) (by simp [results, Try.results17, go_sem]) rfl ?_
    exact blkP_no (Below.refl _ _)
set_option maxHeartbeats 2000000 in
theorem decB_late (gen pages : Int) (a : Option Addr) (cap : Nat) (rs : List Row) (rows : List (List UInt8)) (hrs : rs.map (·.1) = rows) (w : World) (hr : RdRw w a rs) (h : ((0 ≤ gen ∧ gen ≤ 1099511627776) ∧ 0 ≤ pages ∧ pages ≤ 65536) ∧ rows.length = nblocks pages.toNat) :
    Calls Try.prog 17 #[.int .i64 gen, .int .i64 pages, .slice a rows.length cap] w (BlkP (bdec gen pages rows) w) := by
  have HE := Lib.hid (show bdec gen pages rows = if berr (fE gen pages rows) rows.length ≠ 0 then (berr (fE gen pages rows) rows.length, []) else (0, bcat gen pages rows rows.length) by unfold bdec; rw [if_neg (fun g => g h)])
  obtain ⟨hm, hl⟩ := h
  have HM := Lib.hid fun w1 => may_any gen pages w1
  rw [decide_eq_true hm] at HM
  have HB := Lib.hid fun w1 => blocks_any pages (by omega) w1
  have hnb : nblocks pages.toNat ≤ 274 := by unfold nblocks; omega
  have hne : ((rows.length : Int) != ((nblocks pages.toNat : Nat) : Int)) = false := by rw [bne_eq_false_iff_eq]; omega
  have HBK := Lib.hid fun (i : Int) a cap bs w1 (hcap : bs.length ≤ cap) hll hb => blockB_any gen pages i a cap bs w1 (by omega) hcap hll hb
  have HRR := Lib.hid hr
  have HRL := Lib.hid (show rs.length = rows.length by rw [← hrs, List.length_map])
  have HRD := Lib.hid fun (k : Nat) (r : Row) (h : rs[k]? = some r) => show rows.getD k [] = r.1 by rw [← hrs, List.getD_eq_getElem?_getD, List.getElem?_map, h]; rfl
  generalize hnn : rows.length = n at *
  generalize ((nblocks pages.toNat : Nat) : Int) = nb at *
  have hn274 : n ≤ 274 := by omega
  clear hl hm hnn hr hrs
  go_enter Try.func17, Try.ntmps17
  go_wp2_with (first
    | (go_at_call 30; refine (HM.out _).mono ?_; rintro _ wx ⟨rfl, e0⟩; rw [e0]; clear e0 wx)
    | (go_at_call 8; refine (HB.out _).mono ?_; rintro _ wx ⟨rfl, e0⟩; rw [e0]; clear e0 wx))
  clear HM HB
  go_loopw [8, 26] (fun o v wr => RelDb w gen pages rows n o v wr) (fun _ v _ => n - (intOf v).toNat)
  case atStart => exact ⟨0, none, 0, Nat.zero_le _, rfl, rfl, rfl, OR.nil eN _, fun j e => (by cases e), Below.refl _ _⟩
  case round =>
    obtain ⟨k, oa, oc, hk, rfl, rfl, h0, hO, ho, hBl⟩ := hrel
    have hcl := bcat_length gen pages rows k
    by_cases hkn : k < n
    · obtain ⟨r, hr⟩ : ∃ r, rs[k]? = some r := ⟨_, List.getElem?_eq_getElem (by rw [HRL.out]; exact hkn)⟩
      obtain ⟨b, off, rfl, hcell, hbt, hcap, hll⟩ := (HRR.out.below hBl).at hr
      have hrd := HRD.out k r hr
      have H := HBK.out (k : Int) r.2.1 r.2.2 r.1 wr hcap hll hbt
      obtain ⟨⟨e, l⟩, hfb⟩ : ∃ q, fB gen pages rows k = q := ⟨_, rfl⟩
      have hfb2 : bblock gen pages (k : Int) r.1 = (e, l) := by rw [← hrd]; exact hfb
      rw [hfb2] at H
      unfold BlkP at H
      simp only at H
      have hll2 : l.length ≤ 240 := by have := bblock_length (gen := gen) (pages := pages) (i := (k : Int)) (bs := r.1); rw [hfb2] at this; exact this
      obtain ⟨rb, ra, rc⟩ := r
      simp only at hcell H
      generalize rb.length = rl at *
      obtain ⟨ln, hln⟩ : ∃ ln, l.length = ln := ⟨_, rfl⟩
      rw [hln] at hll2
      simp only [hln] at H
      have HLN := Lib.hid hln
      obtain ⟨m, hml⟩ : ∃ m, (bcat gen pages rows k).length = m := ⟨_, rfl⟩
      rw [hml] at hcl ⊢
      have HML := Lib.hid hml
      have HJ := Lib.hid hkn
      have HO := Lib.hid hO
      have HO2 := Lib.hid ho
      have HBB := Lib.hid hBl
      have H0 := Lib.hid h0
      have HFB := Lib.hid hfb
      have H := Lib.hid H
      clear hO ho hBl h0 hfb hfb2 hr hrd hbt hln hml
      by_cases he : e = 0
      · subst he
        go_wp2_with fail
        refine H.out.mono ?_
        clear H
        rintro _ w5 ⟨la, lc, rfl, hL, hl0, hb5⟩
        have HOL := Lib.hid (show OR eN w5 oa oc m (cellsN (ints (bcat gen pages rows k))) by
          have := OR.chg (F := fun _ => False) HO.out (Chg.of_below hb5) (fun _ _ f => f)
          rwa [ints_length, HML.out] at this)
        have HNW := Lib.hid (hL.news)
        rw [ints_length, HLN.out] at HNW
        have HB5 := Lib.hid (HBB.out.trans (hb5.mono HBB.out.size))
        have HCL := Lib.hid (show (cellsN (ints l)).length = ln * eN.size by rw [cellsN_length, ints_length, HLN.out]; exact (Nat.mul_one _).symm)
        clear hL hl0 hb5 HO hcell
        go_wp2_with (at_builtin; go_must (refine wpList_append_or eN rfl (.tmp 42) (.tmp 43) rfl rfl HOL.out rfl (m := ln) (news := cellsN (ints l)) HCL.out HNW.out (cellsN_one _) (by show (m + ln) * 8 ≤ _; omega) (by omega) ?_)
                     intro oa2 oc2 w7 hO7 hC7 hb7 _)
        go_roundw
        case rel => exact relDb_next HJ.out H0.out HFB.out HML.out HLN.out HO2.out HB5.out hO7 hC7 hb7 (by go_num)
        case measure => exact meas_up HJ.out
      · have hed : (e != 0) = true := by rw [bne_iff_ne]; exact he
        have HX := Lib.hid (show bdec gen pages rows = (e, []) by
          have hs := berr_stop H0.out (show fE gen pages rows k = e by unfold fE; rw [HFB.out]) he HJ.out
          rw [HE.out, hs, if_pos he])
        clear he
        go_wp2_with fail
        refine H.out.mono ?_
        clear H
        rintro _ w5 ⟨la, lc, rfl, -, -, hb5⟩
        have HB5 := Lib.hid (HBB.out.trans (hb5.mono HBB.out.size))
        clear hb5 hcell
        go_wp2_with fail
        refine bodyPost_ret (v := .tuple #[.slice none 0 0, .int .i64 e]) (by simp [results, Try.results17, go_sem]) rfl ?_
        rw [HX.out]
        exact blkP_no HB5.out
    · obtain rfl : k = n := by omega
      have HX := Lib.hid (show bdec gen pages rows = (0, bcat gen pages rows k) by rw [HE.out, if_neg (by simp [h0])])
      have HF := Lib.hid (show BlkP (0, bcat gen pages rows k) w (.returned (.tuple #[.slice oa (bcat gen pages rows k).length oc, .int .i64 0])) wr from ⟨oa, oc, rfl, hO, ho, hBl⟩)
      generalize (bcat gen pages rows k).length = m at *
      clear hO ho hBl h0 hkn
      go_wp2_with fail
      refine bodyPost_ret (v := .tuple #[.slice oa m oc, .int .i64 0]) (by simp [results, Try.results17, go_sem]) rfl ?_
      rw [HX.out]
      exact HF.out
theorem decodeB_any (gen pages : Int) (a : Option Addr) (cap : Nat) (rs : List Row) (rows : List (List UInt8)) (hrs : rs.map (·.1) = rows) (w : World) (hp : pages ≤ 9223372036854775807) (hl : rows.length ≤ 9223372036854775807) (hr : RdRw w a rs) :
    Calls Try.prog 17 #[.int .i64 gen, .int .i64 pages, .slice a rows.length cap] w (BlkP (bdec gen pages rows) w) := by
  by_cases h : ((0 ≤ gen ∧ gen ≤ 1099511627776) ∧ 0 ≤ pages ∧ pages ≤ 65536) ∧ rows.length = nblocks pages.toNat
  · exact decB_late gen pages a cap rs rows hrs w hr h
  · exact decB_early gen pages a cap rows w hp hl h
end Go.Proofs.Ytpjdknmgegbgnaa
