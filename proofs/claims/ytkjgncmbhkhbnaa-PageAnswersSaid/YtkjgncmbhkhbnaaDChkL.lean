/- The document's Check of a page: a leaf. -/
import Derived.Test.YtkjgncmbhkhbnaaDChk
namespace Go.Proofs.Ytkjgncmbhkhbnaa
open Go.RowKit
set_option linter.unusedVariables false

set_option maxHeartbeats 4000000 in
set_option maxRecDepth 20000 in
theorem dCheck_go1 (level : Int) (items : List PI) (data : List UInt8) (next : Int) (ia : Option Addr) (ic : Nat) (da : Option Addr) (dc : Nat) (w : World) (hp : PgAt w.heap.size w ⟨1, level, items, data, next⟩ ia ic da dc) (hf : okForm 1 level items.length data.length next = true) :
    Calls Try.prog 27 #[.agg #[.int .i64 1, .int .i64 level, .slice ia items.length ic, .slice da data.length dc, .int .i64 next]] w (Checked ⟨1, level, items, data, next⟩ w) := by
  have HP := Lib.hid hp
  have HD := Lib.hid (DB.start w ⟨1, level, items, data, next⟩ ia ic da dc)
  have HF := Lib.hid fun w => dForm_any ⟨1, level, items, data, next⟩ ia ic da dc w
  have HEND := Lib.hid (pcheck_end ⟨1, level, items, data, next⟩ (by show 1 ≤ (1 : Int); decide) (by show (1 : Int) ≤ 3; decide) hf)
  simp only [hf] at HF
  simp only [pgv] at *
  obtain ⟨n, hn⟩ : ∃ n, items.length = n := ⟨_, rfl⟩
  obtain ⟨m, hm⟩ : ∃ m, data.length = m := ⟨_, rfl⟩
  rw [hn, hm] at HD HF hf ⊢
  have HN := Lib.hid hn
  have HM := Lib.hid hm
  have Hf := Lib.hid hf
  clear hp hn hm hf
  go_enter Try.func27, Try.ntmps27
  have hD := HD.out
  obtain ⟨c0, c1, c2, c3, c4⟩ := cells5 hD.box
  simp only [] at c0 c1 c2 c3 c4
  rw [HN.out] at c2
  rw [HM.out] at c3
  go_wp2_with fail
  refine (HF.out _).mono ?_
  rintro _ w2 ⟨rfl, hB2⟩
  replace hD := hD.below hB2
  clear c0 c1 c2 c3 c4 hB2
  obtain ⟨c0, c1, c2, c3, c4⟩ := cells5 hD.box
  simp only [] at c0 c1 c2 c3 c4
  rw [HN.out] at c2
  rw [HM.out] at c3
  go_wp2_with fail
  have HDD := Lib.hid hD
  clear hD c0 c1 c2 c3 c4
  go_loopw [3] (fun i wr => RelDC w ⟨1, level, items, data, next⟩ ia ic da dc i wr) (fun i _ => n - (intOf i).toNat)
  case atStart => exact ⟨0, Nat.zero_le _, rfl, HDD.out, rfl⟩
  case round =>
    clear HDD
    obtain ⟨j, hj, rfl, hD, hfb⟩ := hrel
    have hj : j ≤ n := by rw [← HN.out]; exact hj
    have HFB := Lib.hid hfb
    clear hfb
    by_cases hjn : j < n
    · obtain ⟨x, hx⟩ : ∃ x, items[j]? = some x := ⟨_, List.getElem?_eq_getElem (by rw [HN.out]; exact hjn)⟩
      obtain ⟨b, off, ka, kc, va, vc, hia, hb, hit⟩ := HP.out.its.at hx
      have HKY := Lib.hid fun w1 (h : Below w.heap.size w w1) => dKey_any ⟨1, level, items, data, next⟩ ia ic da dc w1 h.size (HP.out.below h) j x hx
      have HVA := Lib.hid fun w1 => dValue_any ⟨1, level, items, data, next⟩ ia ic da dc x ka kc va vc w1
      have HCH := Lib.hid fun w1 => dChild_any ⟨1, level, items, data, next⟩ ia ic da dc x ka kc va vc w1
      simp only [pgv] at HKY HVA HCH
      rw [HN.out, HM.out] at HKY HVA HCH
      subst hia
      have HIT := Lib.hid hit
      have HB := Lib.hid hb
      have HJ := Lib.hid hjn
      have HJL := Lib.hid (show j < items.length by rw [HN.out]; exact hjn)
      have hnb : n ≤ 9223372036854775807 := by rw [← HN.out]; exact HP.out.len
      clear hit hj
      by_cases hj0 : j = 0
      · subst hj0
        simp only [Nat.zero_mul, Nat.add_zero] at HIT
        rw [show ((0 : Nat) : Int) = 0 from rfl] at *
        clear hnb hjn
        by_cases hky : okKey 1 0 x = false
        · as_aux_lemma =>
          have HE := Lib.hid (show itErr 1 items 0 = 7 from (itErr_at hx).trans (ie_key hky))
          have HR := Lib.hid (pcheck_stop (p := ⟨1, level, items, data, next⟩) (by show (1 : Int) ≤ 1; decide) (by show (1 : Int) ≤ 3; decide) (by simp only; rw [HN.out, HM.out]; exact Hf.out) HJL.out HFB.out HE.out (by decide))
          rw [hky] at HKY
          clear hky hx
          obtain ⟨key, value, child, size⟩ := x
          simp only [itc] at HIT HVA HCH
          obtain ⟨c0, c1, c2, c3, c4⟩ := cells5 hD.box
          simp only [] at c0 c1 c2 c3 c4
          rw [HN.out] at c2
          rw [HM.out] at c3
          have hit := HIT.out.below HB.out hD.bel
          have i0 := hit.c0
          have i1 := hit.c1
          have i2 := hit.c2
          have i3 := hit.c3
          clear hit
          go_wp2_with fail
          refine (HKY.out _ hD.bel).mono ?_
          rintro _ w2 ⟨rfl, hB2⟩
          replace hD := hD.below hB2
          clear c0 c1 c2 c3 c4 i0 i1 i2 i3 hB2
          obtain ⟨c0, c1, c2, c3, c4⟩ := cells5 hD.box
          simp only [] at c0 c1 c2 c3 c4
          rw [HN.out] at c2
          rw [HM.out] at c3
          have hit := HIT.out.below HB.out hD.bel
          have i0 := hit.c0
          have i1 := hit.c1
          have i2 := hit.c2
          have i3 := hit.c3
          clear hit
          go_wp2_with fail
          go_ret
          exact ⟨ret_i64 HR.out.symm, hD.bel⟩
        have hky : okKey 1 0 x = true := by simpa using hky
        by_cases hva : okValue 1 x = false
        · as_aux_lemma =>
          have HE := Lib.hid (show itErr 1 items 0 = 8 from (itErr_at hx).trans (ie_val hky (fun g => absurd g.1 (by decide)) hva))
          have HR := Lib.hid (pcheck_stop (p := ⟨1, level, items, data, next⟩) (by show (1 : Int) ≤ 1; decide) (by show (1 : Int) ≤ 3; decide) (by simp only; rw [HN.out, HM.out]; exact Hf.out) HJL.out HFB.out HE.out (by decide))
          rw [hky] at HKY
          rw [hva] at HVA
          clear hky hx hva
          obtain ⟨key, value, child, size⟩ := x
          simp only [itc] at HIT HVA HCH
          obtain ⟨c0, c1, c2, c3, c4⟩ := cells5 hD.box
          simp only [] at c0 c1 c2 c3 c4
          rw [HN.out] at c2
          rw [HM.out] at c3
          have hit := HIT.out.below HB.out hD.bel
          have i0 := hit.c0
          have i1 := hit.c1
          have i2 := hit.c2
          have i3 := hit.c3
          clear hit
          go_wp2_with fail
          refine (HKY.out _ hD.bel).mono ?_
          rintro _ w2 ⟨rfl, hB2⟩
          replace hD := hD.below hB2
          clear c0 c1 c2 c3 c4 i0 i1 i2 i3 hB2
          obtain ⟨c0, c1, c2, c3, c4⟩ := cells5 hD.box
          simp only [] at c0 c1 c2 c3 c4
          rw [HN.out] at c2
          rw [HM.out] at c3
          have hit := HIT.out.below HB.out hD.bel
          have i0 := hit.c0
          have i1 := hit.c1
          have i2 := hit.c2
          have i3 := hit.c3
          clear hit
          go_wp2_with fail
          go_quiet (fail)
          replace hD := hD.drN nq
          clear c0 c1 c2 c3 c4 i0 i1 i2 i3
          generalize w2.drewN nq = W3 at hD ⊢
          obtain ⟨c0, c1, c2, c3, c4⟩ := cells5 hD.box
          simp only [] at c0 c1 c2 c3 c4
          rw [HN.out] at c2
          rw [HM.out] at c3
          have hit := HIT.out.below HB.out hD.bel
          have i0 := hit.c0
          have i1 := hit.c1
          have i2 := hit.c2
          have i3 := hit.c3
          clear hit
          go_wp2_with fail
          go_still_tail 6, (by kernel_rfl)
          change wpList _ _ _ _ _ (World.drew _)
          go_wp2_with fail
          refine (HVA.out _).mono ?_
          rintro _ w3 ⟨rfl, hB3⟩
          replace hD := (hD.drN 1).below hB3
          clear c0 c1 c2 c3 c4 i0 i1 i2 i3 hB3
          obtain ⟨c0, c1, c2, c3, c4⟩ := cells5 hD.box
          simp only [] at c0 c1 c2 c3 c4
          rw [HN.out] at c2
          rw [HM.out] at c3
          have hit := HIT.out.below HB.out hD.bel
          have i0 := hit.c0
          have i1 := hit.c1
          have i2 := hit.c2
          have i3 := hit.c3
          clear hit
          go_wp2_with fail
          go_ret
          exact ⟨ret_i64 HR.out.symm, hD.bel⟩
        have hva : okValue 1 x = true := by simpa using hva
        by_cases hch : okChild 1 x = false
        · as_aux_lemma =>
          have HE := Lib.hid (show itErr 1 items 0 = 15 from (itErr_at hx).trans (ie_chi hky (fun g => absurd g.1 (by decide)) hva hch))
          have HR := Lib.hid (pcheck_stop (p := ⟨1, level, items, data, next⟩) (by show (1 : Int) ≤ 1; decide) (by show (1 : Int) ≤ 3; decide) (by simp only; rw [HN.out, HM.out]; exact Hf.out) HJL.out HFB.out HE.out (by decide))
          rw [hky] at HKY
          rw [hva] at HVA
          rw [hch] at HCH
          clear hky hx hva hch
          obtain ⟨key, value, child, size⟩ := x
          simp only [itc] at HIT HVA HCH
          obtain ⟨c0, c1, c2, c3, c4⟩ := cells5 hD.box
          simp only [] at c0 c1 c2 c3 c4
          rw [HN.out] at c2
          rw [HM.out] at c3
          have hit := HIT.out.below HB.out hD.bel
          have i0 := hit.c0
          have i1 := hit.c1
          have i2 := hit.c2
          have i3 := hit.c3
          clear hit
          go_wp2_with fail
          refine (HKY.out _ hD.bel).mono ?_
          rintro _ w2 ⟨rfl, hB2⟩
          replace hD := hD.below hB2
          clear c0 c1 c2 c3 c4 i0 i1 i2 i3 hB2
          obtain ⟨c0, c1, c2, c3, c4⟩ := cells5 hD.box
          simp only [] at c0 c1 c2 c3 c4
          rw [HN.out] at c2
          rw [HM.out] at c3
          have hit := HIT.out.below HB.out hD.bel
          have i0 := hit.c0
          have i1 := hit.c1
          have i2 := hit.c2
          have i3 := hit.c3
          clear hit
          go_wp2_with fail
          go_quiet (fail)
          replace hD := hD.drN nq
          clear c0 c1 c2 c3 c4 i0 i1 i2 i3
          generalize w2.drewN nq = W3 at hD ⊢
          obtain ⟨c0, c1, c2, c3, c4⟩ := cells5 hD.box
          simp only [] at c0 c1 c2 c3 c4
          rw [HN.out] at c2
          rw [HM.out] at c3
          have hit := HIT.out.below HB.out hD.bel
          have i0 := hit.c0
          have i1 := hit.c1
          have i2 := hit.c2
          have i3 := hit.c3
          clear hit
          go_wp2_with fail
          go_still_tail 6, (by kernel_rfl)
          change wpList _ _ _ _ _ (World.drew _)
          go_wp2_with fail
          refine (HVA.out _).mono ?_
          rintro _ w3 ⟨rfl, hB3⟩
          replace hD := (hD.drN 1).below hB3
          clear c0 c1 c2 c3 c4 i0 i1 i2 i3 hB3
          obtain ⟨c0, c1, c2, c3, c4⟩ := cells5 hD.box
          simp only [] at c0 c1 c2 c3 c4
          rw [HN.out] at c2
          rw [HM.out] at c3
          have hit := HIT.out.below HB.out hD.bel
          have i0 := hit.c0
          have i1 := hit.c1
          have i2 := hit.c2
          have i3 := hit.c3
          clear hit
          go_wp2_with fail
          go_still_tail 6, (by kernel_rfl)
          change wpList _ _ _ _ _ (World.drew _)
          go_wp2_with fail
          refine (HCH.out _).mono ?_
          rintro _ w4 ⟨rfl, hB4⟩
          replace hD := (hD.drN 1).below hB4
          clear c0 c1 c2 c3 c4 i0 i1 i2 i3 hB4
          go_wp2_with fail
          go_ret
          exact ⟨ret_i64 HR.out.symm, hD.bel⟩
        have hch : okChild 1 x = true := by simpa using hch
        · as_aux_lemma =>
          have HE := Lib.hid (show itErr 1 items 0 = 0 from (itErr_at hx).trans (ie_ok hky (fun g => absurd g.1 (by decide)) hva hch))
          rw [hky] at HKY
          rw [hva] at HVA
          rw [hch] at HCH
          clear hky hx hva hch
          obtain ⟨key, value, child, size⟩ := x
          simp only [itc] at HIT HVA HCH
          obtain ⟨c0, c1, c2, c3, c4⟩ := cells5 hD.box
          simp only [] at c0 c1 c2 c3 c4
          rw [HN.out] at c2
          rw [HM.out] at c3
          have hit := HIT.out.below HB.out hD.bel
          have i0 := hit.c0
          have i1 := hit.c1
          have i2 := hit.c2
          have i3 := hit.c3
          clear hit
          go_wp2_with fail
          refine (HKY.out _ hD.bel).mono ?_
          rintro _ w2 ⟨rfl, hB2⟩
          replace hD := hD.below hB2
          clear c0 c1 c2 c3 c4 i0 i1 i2 i3 hB2
          obtain ⟨c0, c1, c2, c3, c4⟩ := cells5 hD.box
          simp only [] at c0 c1 c2 c3 c4
          rw [HN.out] at c2
          rw [HM.out] at c3
          have hit := HIT.out.below HB.out hD.bel
          have i0 := hit.c0
          have i1 := hit.c1
          have i2 := hit.c2
          have i3 := hit.c3
          clear hit
          go_wp2_with fail
          go_quiet (fail)
          replace hD := hD.drN nq
          clear c0 c1 c2 c3 c4 i0 i1 i2 i3
          generalize w2.drewN nq = W3 at hD ⊢
          obtain ⟨c0, c1, c2, c3, c4⟩ := cells5 hD.box
          simp only [] at c0 c1 c2 c3 c4
          rw [HN.out] at c2
          rw [HM.out] at c3
          have hit := HIT.out.below HB.out hD.bel
          have i0 := hit.c0
          have i1 := hit.c1
          have i2 := hit.c2
          have i3 := hit.c3
          clear hit
          go_wp2_with fail
          go_still_tail 6, (by kernel_rfl)
          change wpList _ _ _ _ _ (World.drew _)
          go_wp2_with fail
          refine (HVA.out _).mono ?_
          rintro _ w3 ⟨rfl, hB3⟩
          replace hD := (hD.drN 1).below hB3
          clear c0 c1 c2 c3 c4 i0 i1 i2 i3 hB3
          obtain ⟨c0, c1, c2, c3, c4⟩ := cells5 hD.box
          simp only [] at c0 c1 c2 c3 c4
          rw [HN.out] at c2
          rw [HM.out] at c3
          have hit := HIT.out.below HB.out hD.bel
          have i0 := hit.c0
          have i1 := hit.c1
          have i2 := hit.c2
          have i3 := hit.c3
          clear hit
          go_wp2_with fail
          go_still_tail 6, (by kernel_rfl)
          change wpList _ _ _ _ _ (World.drew _)
          go_wp2_with fail
          refine (HCH.out _).mono ?_
          rintro _ w4 ⟨rfl, hB4⟩
          replace hD := (hD.drN 1).below hB4
          clear c0 c1 c2 c3 c4 i0 i1 i2 i3 hB4
          go_wp2_with fail
          go_roundw
          case rel => exact ⟨1, by rw [HN.out]; exact HJ.out, by go_num, hD, firstBad_snoc HE.out HFB.out⟩
          case measure => exact meas_one HJ.out
      · obtain ⟨q, rfl⟩ : ∃ q, j = q + 1 := ⟨j - 1, by omega⟩
        obtain ⟨y, hy⟩ : ∃ y, items[q]? = some y := ⟨_, List.getElem?_eq_getElem (by rw [HN.out]; omega)⟩
        obtain ⟨b2, off2, ya, yc, yva, yvc, he2, -, hyt⟩ := HP.out.its.at hy
        cases he2
        have HYT := Lib.hid hyt
        have hcx : x.key.length ≤ 4611686018427387904 ∧ y.key.length ≤ 4611686018427387904 := ⟨Nat.le_trans HIT.out.k.2.2.1 (by decide), Nat.le_trans hyt.k.2.2.1 (by decide)⟩
        have HCQ := Lib.hid fun w1 (h : Below w.heap.size w w1) => show Calls Try.prog 45 #[.slice ka x.key.length kc, .slice ya y.key.length yc] w1 fun e w' => e = .returned (.int .i64 (Lib.compareBytes x.key y.key)) ∧ ∃ m, w' = w1.drewN m from compareQ_any x.key y.key ka ya kc yc hcx.1 hcx.2 w1 (HIT.out.k.below h).1 (HYT.out.k.below h).1
        clear hyt hcx
        have hw1 : wrap64 ((q : Int) + 1 - 1) = (q : Int) := by rw [Int.add_sub_cancel]; exact IntWalk.wrap64_in _ ⟨by omega, by omega⟩
        have hqn : (q : Int) < (n : Int) := by omega
        have hqn1 : (q : Int) + 1 < (n : Int) := by omega
        have hq0 : (0 : Int) ≤ (q : Int) + 1 := by omega
        have hqt : ((q : Int) + 1).toNat = q + 1 := by omega
        have HNB := Lib.hid hnb
        by_cases hky : okKey 1 (q + 1) x = false
        · as_aux_lemma =>
          have HE := Lib.hid (show itErr 1 items (q + 1) = 7 from (itErr_at hx).trans (by rw [aboveAt_at hy]; exact ie_key hky))
          have HR := Lib.hid (pcheck_stop (p := ⟨1, level, items, data, next⟩) (by show (1 : Int) ≤ 1; decide) (by show (1 : Int) ≤ 3; decide) (by simp only; rw [HN.out, HM.out]; exact Hf.out) HJL.out HFB.out HE.out (by decide))
          rw [hky] at HKY
          clear hky hx
          clear hy
          obtain ⟨key, value, child, size⟩ := x
          obtain ⟨ykey, yvalue, ychild, ysize⟩ := y
          simp only [itc] at HIT HVA HCH
          obtain ⟨c0, c1, c2, c3, c4⟩ := cells5 hD.box
          simp only [] at c0 c1 c2 c3 c4
          rw [HN.out] at c2
          rw [HM.out] at c3
          have hit := HIT.out.below HB.out hD.bel
          have i0 := hit.c0
          have i1 := hit.c1
          have i2 := hit.c2
          have i3 := hit.c3
          clear hit
          have hyt := HYT.out.below HB.out hD.bel
          have y0 := hyt.c0
          clear hyt
          go_wp2_with fail
          refine (HKY.out _ hD.bel).mono ?_
          rintro _ w2 ⟨rfl, hB2⟩
          replace hD := hD.below hB2
          clear c0 c1 c2 c3 c4 i0 i1 i2 i3 y0 hB2
          obtain ⟨c0, c1, c2, c3, c4⟩ := cells5 hD.box
          simp only [] at c0 c1 c2 c3 c4
          rw [HN.out] at c2
          rw [HM.out] at c3
          have hit := HIT.out.below HB.out hD.bel
          have i0 := hit.c0
          have i1 := hit.c1
          have i2 := hit.c2
          have i3 := hit.c3
          clear hit
          have hyt := HYT.out.below HB.out hD.bel
          have y0 := hyt.c0
          clear hyt
          go_wp2_with fail
          go_ret
          exact ⟨ret_i64 HR.out.symm, hD.bel⟩
        have hky : okKey 1 (q + 1) x = true := by simpa using hky
        by_cases hcmp : Lib.compareBytes x.key y.key ≤ 0
        · as_aux_lemma =>
          have HE := Lib.hid (show itErr 1 items (q + 1) = 11 from (itErr_at hx).trans (by rw [aboveAt_at hy]; exact ie_cmp hky ⟨Nat.succ_pos _, hcmp⟩))
          have HR := Lib.hid (pcheck_stop (p := ⟨1, level, items, data, next⟩) (by show (1 : Int) ≤ 1; decide) (by show (1 : Int) ≤ 3; decide) (by simp only; rw [HN.out, HM.out]; exact Hf.out) HJL.out HFB.out HE.out (by decide))
          rw [hky] at HKY
          clear HE
          generalize Lib.compareBytes x.key y.key = cm at HCQ hcmp
          have hcd : decide (cm ≤ 0) = true := by simpa using hcmp
          clear hky hx
          clear hy
          obtain ⟨key, value, child, size⟩ := x
          obtain ⟨ykey, yvalue, ychild, ysize⟩ := y
          simp only [itc] at HIT HVA HCH HCQ
          obtain ⟨c0, c1, c2, c3, c4⟩ := cells5 hD.box
          simp only [] at c0 c1 c2 c3 c4
          rw [HN.out] at c2
          rw [HM.out] at c3
          have hit := HIT.out.below HB.out hD.bel
          have i0 := hit.c0
          have i1 := hit.c1
          have i2 := hit.c2
          have i3 := hit.c3
          clear hit
          have hyt := HYT.out.below HB.out hD.bel
          have y0 := hyt.c0
          clear hyt
          go_wp2_with fail
          refine (HKY.out _ hD.bel).mono ?_
          rintro _ w2 ⟨rfl, hB2⟩
          replace hD := hD.below hB2
          clear c0 c1 c2 c3 c4 i0 i1 i2 i3 y0 hB2
          obtain ⟨c0, c1, c2, c3, c4⟩ := cells5 hD.box
          simp only [] at c0 c1 c2 c3 c4
          rw [HN.out] at c2
          rw [HM.out] at c3
          have hit := HIT.out.below HB.out hD.bel
          have i0 := hit.c0
          have i1 := hit.c1
          have i2 := hit.c2
          have i3 := hit.c3
          clear hit
          have hyt := HYT.out.below HB.out hD.bel
          have y0 := hyt.c0
          clear hyt
          go_wp2_with fail
          go_quiet (exact Calls.quiet_of (HCQ.out _ (below_drewN hD.bel _)))
          go_wp2_with fail
          go_ret
          exact ⟨ret_i64 HR.out.symm, below_drewN hD.bel _⟩
        by_cases hva : okValue 1 x = false
        · as_aux_lemma =>
          have HE := Lib.hid (show itErr 1 items (q + 1) = 8 from (itErr_at hx).trans (by rw [aboveAt_at hy]; exact ie_val hky (fun g => hcmp g.2) hva))
          have HR := Lib.hid (pcheck_stop (p := ⟨1, level, items, data, next⟩) (by show (1 : Int) ≤ 1; decide) (by show (1 : Int) ≤ 3; decide) (by simp only; rw [HN.out, HM.out]; exact Hf.out) HJL.out HFB.out HE.out (by decide))
          rw [hky] at HKY
          rw [hva] at HVA
          clear HE
          generalize Lib.compareBytes x.key y.key = cm at HCQ hcmp
          have hcm1 : 0 < cm := Int.not_le.1 hcmp
          have hcd : decide (cm ≤ 0) = false := by simpa using hcmp
          clear hky hx hva
          clear hy
          obtain ⟨key, value, child, size⟩ := x
          obtain ⟨ykey, yvalue, ychild, ysize⟩ := y
          simp only [itc] at HIT HVA HCH HCQ
          obtain ⟨c0, c1, c2, c3, c4⟩ := cells5 hD.box
          simp only [] at c0 c1 c2 c3 c4
          rw [HN.out] at c2
          rw [HM.out] at c3
          have hit := HIT.out.below HB.out hD.bel
          have i0 := hit.c0
          have i1 := hit.c1
          have i2 := hit.c2
          have i3 := hit.c3
          clear hit
          have hyt := HYT.out.below HB.out hD.bel
          have y0 := hyt.c0
          clear hyt
          go_wp2_with fail
          refine (HKY.out _ hD.bel).mono ?_
          rintro _ w2 ⟨rfl, hB2⟩
          replace hD := hD.below hB2
          clear c0 c1 c2 c3 c4 i0 i1 i2 i3 y0 hB2
          obtain ⟨c0, c1, c2, c3, c4⟩ := cells5 hD.box
          simp only [] at c0 c1 c2 c3 c4
          rw [HN.out] at c2
          rw [HM.out] at c3
          have hit := HIT.out.below HB.out hD.bel
          have i0 := hit.c0
          have i1 := hit.c1
          have i2 := hit.c2
          have i3 := hit.c3
          clear hit
          have hyt := HYT.out.below HB.out hD.bel
          have y0 := hyt.c0
          clear hyt
          go_wp2_with fail
          go_quiet (exact Calls.quiet_of (HCQ.out _ (below_drewN hD.bel _)))
          replace hD := hD.drN nq
          clear c0 c1 c2 c3 c4 i0 i1 i2 i3 y0
          generalize w2.drewN nq = W3 at hD ⊢
          obtain ⟨c0, c1, c2, c3, c4⟩ := cells5 hD.box
          simp only [] at c0 c1 c2 c3 c4
          rw [HN.out] at c2
          rw [HM.out] at c3
          have hit := HIT.out.below HB.out hD.bel
          have i0 := hit.c0
          have i1 := hit.c1
          have i2 := hit.c2
          have i3 := hit.c3
          clear hit
          go_wp2_with fail
          go_still_tail 6, (by kernel_rfl)
          change wpList _ _ _ _ _ (World.drew _)
          go_wp2_with fail
          refine (HVA.out _).mono ?_
          rintro _ w3 ⟨rfl, hB3⟩
          replace hD := (hD.drN 1).below hB3
          clear c0 c1 c2 c3 c4 i0 i1 i2 i3 hB3
          obtain ⟨c0, c1, c2, c3, c4⟩ := cells5 hD.box
          simp only [] at c0 c1 c2 c3 c4
          rw [HN.out] at c2
          rw [HM.out] at c3
          have hit := HIT.out.below HB.out hD.bel
          have i0 := hit.c0
          have i1 := hit.c1
          have i2 := hit.c2
          have i3 := hit.c3
          clear hit
          go_wp2_with fail
          go_ret
          exact ⟨ret_i64 HR.out.symm, hD.bel⟩
        have hva : okValue 1 x = true := by simpa using hva
        by_cases hch : okChild 1 x = false
        · as_aux_lemma =>
          have HE := Lib.hid (show itErr 1 items (q + 1) = 15 from (itErr_at hx).trans (by rw [aboveAt_at hy]; exact ie_chi hky (fun g => hcmp g.2) hva hch))
          have HR := Lib.hid (pcheck_stop (p := ⟨1, level, items, data, next⟩) (by show (1 : Int) ≤ 1; decide) (by show (1 : Int) ≤ 3; decide) (by simp only; rw [HN.out, HM.out]; exact Hf.out) HJL.out HFB.out HE.out (by decide))
          rw [hky] at HKY
          rw [hva] at HVA
          rw [hch] at HCH
          clear HE
          generalize Lib.compareBytes x.key y.key = cm at HCQ hcmp
          have hcm1 : 0 < cm := Int.not_le.1 hcmp
          have hcd : decide (cm ≤ 0) = false := by simpa using hcmp
          clear hky hx hva hch
          clear hy
          obtain ⟨key, value, child, size⟩ := x
          obtain ⟨ykey, yvalue, ychild, ysize⟩ := y
          simp only [itc] at HIT HVA HCH HCQ
          obtain ⟨c0, c1, c2, c3, c4⟩ := cells5 hD.box
          simp only [] at c0 c1 c2 c3 c4
          rw [HN.out] at c2
          rw [HM.out] at c3
          have hit := HIT.out.below HB.out hD.bel
          have i0 := hit.c0
          have i1 := hit.c1
          have i2 := hit.c2
          have i3 := hit.c3
          clear hit
          have hyt := HYT.out.below HB.out hD.bel
          have y0 := hyt.c0
          clear hyt
          go_wp2_with fail
          refine (HKY.out _ hD.bel).mono ?_
          rintro _ w2 ⟨rfl, hB2⟩
          replace hD := hD.below hB2
          clear c0 c1 c2 c3 c4 i0 i1 i2 i3 y0 hB2
          obtain ⟨c0, c1, c2, c3, c4⟩ := cells5 hD.box
          simp only [] at c0 c1 c2 c3 c4
          rw [HN.out] at c2
          rw [HM.out] at c3
          have hit := HIT.out.below HB.out hD.bel
          have i0 := hit.c0
          have i1 := hit.c1
          have i2 := hit.c2
          have i3 := hit.c3
          clear hit
          have hyt := HYT.out.below HB.out hD.bel
          have y0 := hyt.c0
          clear hyt
          go_wp2_with fail
          go_quiet (exact Calls.quiet_of (HCQ.out _ (below_drewN hD.bel _)))
          replace hD := hD.drN nq
          clear c0 c1 c2 c3 c4 i0 i1 i2 i3 y0
          generalize w2.drewN nq = W3 at hD ⊢
          obtain ⟨c0, c1, c2, c3, c4⟩ := cells5 hD.box
          simp only [] at c0 c1 c2 c3 c4
          rw [HN.out] at c2
          rw [HM.out] at c3
          have hit := HIT.out.below HB.out hD.bel
          have i0 := hit.c0
          have i1 := hit.c1
          have i2 := hit.c2
          have i3 := hit.c3
          clear hit
          go_wp2_with fail
          go_still_tail 6, (by kernel_rfl)
          change wpList _ _ _ _ _ (World.drew _)
          go_wp2_with fail
          refine (HVA.out _).mono ?_
          rintro _ w3 ⟨rfl, hB3⟩
          replace hD := (hD.drN 1).below hB3
          clear c0 c1 c2 c3 c4 i0 i1 i2 i3 hB3
          obtain ⟨c0, c1, c2, c3, c4⟩ := cells5 hD.box
          simp only [] at c0 c1 c2 c3 c4
          rw [HN.out] at c2
          rw [HM.out] at c3
          have hit := HIT.out.below HB.out hD.bel
          have i0 := hit.c0
          have i1 := hit.c1
          have i2 := hit.c2
          have i3 := hit.c3
          clear hit
          go_wp2_with fail
          go_still_tail 6, (by kernel_rfl)
          change wpList _ _ _ _ _ (World.drew _)
          go_wp2_with fail
          refine (HCH.out _).mono ?_
          rintro _ w4 ⟨rfl, hB4⟩
          replace hD := (hD.drN 1).below hB4
          clear c0 c1 c2 c3 c4 i0 i1 i2 i3 hB4
          go_wp2_with fail
          go_ret
          exact ⟨ret_i64 HR.out.symm, hD.bel⟩
        have hch : okChild 1 x = true := by simpa using hch
        · as_aux_lemma =>
          have HE := Lib.hid (show itErr 1 items (q + 1) = 0 from (itErr_at hx).trans (by rw [aboveAt_at hy]; exact ie_ok hky (fun g => hcmp g.2) hva hch))
          rw [hky] at HKY
          rw [hva] at HVA
          rw [hch] at HCH
          skip
          generalize Lib.compareBytes x.key y.key = cm at HCQ hcmp
          have hcm1 : 0 < cm := Int.not_le.1 hcmp
          have hcd : decide (cm ≤ 0) = false := by simpa using hcmp
          clear hky hx hva hch
          clear hy
          obtain ⟨key, value, child, size⟩ := x
          obtain ⟨ykey, yvalue, ychild, ysize⟩ := y
          simp only [itc] at HIT HVA HCH HCQ
          obtain ⟨c0, c1, c2, c3, c4⟩ := cells5 hD.box
          simp only [] at c0 c1 c2 c3 c4
          rw [HN.out] at c2
          rw [HM.out] at c3
          have hit := HIT.out.below HB.out hD.bel
          have i0 := hit.c0
          have i1 := hit.c1
          have i2 := hit.c2
          have i3 := hit.c3
          clear hit
          have hyt := HYT.out.below HB.out hD.bel
          have y0 := hyt.c0
          clear hyt
          go_wp2_with fail
          refine (HKY.out _ hD.bel).mono ?_
          rintro _ w2 ⟨rfl, hB2⟩
          replace hD := hD.below hB2
          clear c0 c1 c2 c3 c4 i0 i1 i2 i3 y0 hB2
          obtain ⟨c0, c1, c2, c3, c4⟩ := cells5 hD.box
          simp only [] at c0 c1 c2 c3 c4
          rw [HN.out] at c2
          rw [HM.out] at c3
          have hit := HIT.out.below HB.out hD.bel
          have i0 := hit.c0
          have i1 := hit.c1
          have i2 := hit.c2
          have i3 := hit.c3
          clear hit
          have hyt := HYT.out.below HB.out hD.bel
          have y0 := hyt.c0
          clear hyt
          go_wp2_with fail
          go_quiet (exact Calls.quiet_of (HCQ.out _ (below_drewN hD.bel _)))
          replace hD := hD.drN nq
          clear c0 c1 c2 c3 c4 i0 i1 i2 i3 y0
          generalize w2.drewN nq = W3 at hD ⊢
          obtain ⟨c0, c1, c2, c3, c4⟩ := cells5 hD.box
          simp only [] at c0 c1 c2 c3 c4
          rw [HN.out] at c2
          rw [HM.out] at c3
          have hit := HIT.out.below HB.out hD.bel
          have i0 := hit.c0
          have i1 := hit.c1
          have i2 := hit.c2
          have i3 := hit.c3
          clear hit
          go_wp2_with fail
          go_still_tail 6, (by kernel_rfl)
          change wpList _ _ _ _ _ (World.drew _)
          go_wp2_with fail
          refine (HVA.out _).mono ?_
          rintro _ w3 ⟨rfl, hB3⟩
          replace hD := (hD.drN 1).below hB3
          clear c0 c1 c2 c3 c4 i0 i1 i2 i3 hB3
          obtain ⟨c0, c1, c2, c3, c4⟩ := cells5 hD.box
          simp only [] at c0 c1 c2 c3 c4
          rw [HN.out] at c2
          rw [HM.out] at c3
          have hit := HIT.out.below HB.out hD.bel
          have i0 := hit.c0
          have i1 := hit.c1
          have i2 := hit.c2
          have i3 := hit.c3
          clear hit
          go_wp2_with fail
          go_still_tail 6, (by kernel_rfl)
          change wpList _ _ _ _ _ (World.drew _)
          go_wp2_with fail
          refine (HCH.out _).mono ?_
          rintro _ w4 ⟨rfl, hB4⟩
          replace hD := (hD.drN 1).below hB4
          clear c0 c1 c2 c3 c4 i0 i1 i2 i3 hB4
          go_wp2_with fail
          go_roundw
          case rel => exact ⟨q + 2, by rw [HN.out]; exact HJ.out, by go_num, hD, firstBad_snoc HE.out HFB.out⟩
          case measure => exact meas_nextS HJ.out HNB.out
    · obtain rfl : j = n := by omega
      have HR := Lib.hid (show pcheck ⟨1, level, items, data, next⟩ = 0 by
        unfold pcheck
        rw [if_neg (by show ¬ ((1 : Int) < 1 ∨ 3 < (1 : Int)); decide), if_neg (by simp only; rw [HN.out, HM.out, Hf.out]; decide)]
        simp only
        rw [HN.out, if_neg (fun g => g HFB.out), if_neg (fun g => absurd g.1 (by decide))])
      obtain ⟨c0, c1, c2, c3, c4⟩ := cells5 hD.box
      simp only [] at c0 c1 c2 c3 c4
      rw [HN.out] at c2
      rw [HM.out] at c3
      clear hj hjn
      go_wp2_with fail
      go_ret
      exact ⟨ret_i64 HR.out.symm, hD.bel⟩

end Go.Proofs.Ytkjgncmbhkhbnaa
