/- The walk of PageBack. -/
import Derived.Test.YtkjgncmbhkhbnaaPWOneForm
namespace Go.Proofs.Ytkjgncmbhkhbnaa
open Go.RowKit
set_option linter.unusedVariables false
set_option maxRecDepth 100000

theorem penc_zero {no gen : Int} {p : PP} (h : (penc no gen p).1 = 0) : isPg no = true ∧ 0 ≤ gen ∧ gen ≤ 1099511627776 ∧ pcheck p = 0 ∧ penc no gen p = (0, pblock no.toNat gen.toNat p) := by
  unfold penc at *
  split at h
  · cases h
  rename_i h1
  rw [if_neg h1]
  split at h
  · cases h
  rename_i h2
  rw [if_neg h2]
  split at h
  · contradiction
  rename_i h3
  rw [if_neg h3]
  exact ⟨by simpa using h1, by omega, by omega, by simpa using h3, rfl⟩
theorem penc_nil {no gen : Int} {p : PP} (h : (penc no gen p).1 ≠ 0) : (penc no gen p).2 = [] := by
  unfold penc at *
  repeat' split
  all_goals first
    | rfl
    | skip
  rename_i h1 h2 h3
  rw [if_neg h1, if_neg h2, if_neg h3] at h
  exact absurd rfl h

set_option maxHeartbeats 1000000 in
theorem pageBack_walk (no gen : Int) (p : PP) (ia : Option Addr) (ic : Nat) (da : Option Addr) (dc : Nat) (W : World) (h0 : (Lit.int .i64 no).wf = true) (h1 : (Lit.int .i64 gen).wf = true) (hp : PgAt W.heap.size W p ia ic da dc) :
    Calls Try.prog 7 #[.int .i64 no, .int .i64 gen, pgv p ia ic da dc] W fun e W' => e = .returned (.bool true) ∧ Below W.heap.size W W' := by
  have HD := Lib.hid (DB.start W p ia ic da dc)
  have HP := Lib.hid hp
  have HE := Lib.hid fun w1 (h : Below W.heap.size W w1) => pEncode_any no gen p ia ic da dc w1 ((hp.below h).mono h.size)
  unfold Encd at HE
  have HC := Lib.hid fun w1 (h : Below W.heap.size W w1) => show Calls Try.prog 26 #[pgv p ia ic da dc] w1 fun e w' => e = .returned (.int .i64 (pcheck p)) ∧ Below w1.heap.size w1 w' from pCheck_any p ia ic da dc w1 ((hp.below h).mono h.size)
  have hz := fun h => penc_zero (no := no) (gen := gen) (p := p) h
  have hnl := fun h => penc_nil (no := no) (gen := gen) (p := p) h
  generalize hr : penc no gen p = r at HE hz hnl
  obtain ⟨e, bl⟩ := r
  simp only at HE hz hnl
  clear hp
  by_cases he : e = 0
  · subst he
    obtain ⟨g1, g2, g3, g4, g5⟩ := hz rfl
    have hno : 1 ≤ no ∧ no ≤ 65536 := by simpa [isPg] using g1
    obtain ⟨no, rfl⟩ := Int.eq_ofNat_of_zero_le (show 0 ≤ no by omega)
    obtain ⟨gen, rfl⟩ := Int.eq_ofNat_of_zero_le g2
    injection g5 with _ g6
    subst g6
    rw [Int.toNat_natCast, Int.toNat_natCast] at HE
    have hRt := pcheck_right g4
    have HR := Lib.hid hRt
    have hbl := pblock_length hRt no gen
    have HD1 := Lib.hid fun w1 oa oc (hO : OB w1 oa oc (pblock no gen p)) => pDecode_any (no : Int) oa oc (pblock no gen p) w1 hO.bts hO.cap.1
    have hd1 := pdec_laid g4 g1 (gen := gen) (by omega)
    rw [Int.toNat_natCast] at hd1
    rw [hd1] at HD1
    have HD2 := Lib.hid fun w1 oa oc (hO : OB w1 oa oc (pblock no gen p)) => pDecode_any ((no % 65536 + 1 : Nat) : Int) oa oc (pblock no gen p) w1 hO.bts hO.cap.1
    have hd2 : no % 65536 + 1 ≠ no → (pdec ((no % 65536 + 1 : Nat) : Int) (pblock no gen p)).1 = 25 := fun hne => by
      have := pdec_other g4 (no := (no : Int)) (k := ((no % 65536 + 1 : Nat) : Int)) g1 (by unfold isPg; have := Nat.mod_lt no (show 0 < 65536 by decide); simp; omega) (fun e => hne (by omega)) (gen := gen) (by omega)
      rw [Int.toNat_natCast] at this
      rw [this]
    unfold DecdP at HD1 HD2
    rw [hbl] at HD1 HD2
    simp only [hbl] at HE
    generalize pdec ((no % 65536 + 1 : Nat) : Int) (pblock no gen p) = r2 at HD2 hd2
    generalize pblock no gen p = B at HD1 HD2 HE hbl
    obtain ⟨e2, p2, gen2⟩ := r2
    simp only at HD1 HD2 hd2
    rw [g4] at HC
    obtain ⟨k, hk⟩ : ∃ k, no % 65536 + 1 = k := ⟨_, rfl⟩
    rw [hk] at HD2 hd2
    have hkI : (no : Int) % 65536 + 1 = (k : Int) := by omega
    have hkl : k ≤ 65536 := by have := Nat.mod_lt no (show 0 < 65536 by decide); omega
    clear hz hnl hr g1 g2 g3 g4 hd1 hRt h0 h1
    obtain ⟨kd, lv, its, ds, nx⟩ := p
    simp only [pgv_row] at HD HE HC HD1 ⊢
    obtain ⟨il, hil⟩ : ∃ il, its.length = il := ⟨_, rfl⟩
    obtain ⟨dl, hdl⟩ : ∃ dl, ds.length = dl := ⟨_, rfl⟩
    rw [hil, hdl] at HD HC HE ⊢
    simp only [hil, hdl] at HD1
    have HIL := Lib.hid hil
    have HDL := Lib.hid hdl
    clear hil hdl
    go_enter Try.func7, Try.ntmps7
    go_wp2_with fail
    generalize W.alloc (.cells #[.int .i64 kd, .int .i64 lv, .slice ia il ic, .slice da dl dc, .int .i64 nx] 27) = w0 at HD ⊢
    refine (fixed_any _).mono ?_
    rintro _ w1 ⟨rfl, hb1⟩
    have hD := HD.out.below hb1
    clear hb1
    obtain ⟨c0, c1, c2, c3, c4⟩ := cells5 hD.box
    simp only [] at c0 c1 c2 c3 c4
    rw [HIL.out] at c2
    rw [HDL.out] at c3
    go_wp2_with fail
    refine (HE.out _ hD.bel).mono ?_
    rintro _ w2 ⟨oa, oc, rfl, hO, -, hb2⟩
    replace hD := hD.below hb2
    have H3 := Lib.hid (HD1.out w2 oa oc hO)
    clear hb2 c0 c1 c2 c3 c4 HE
    go_wp2_with fail
    refine H3.out.mono ?_
    rintro _ w3 ⟨ja, jc, ea, ec, rfl, hN, hb3⟩
    have hb4 := one_below w3 (.cells #[.int .i64 kd, .int .i64 lv, .slice ja il jc, .slice ea dl ec, .int .i64 nx] 27)
    have HG4 := Lib.hid (heap_alloc_new w3 (.cells #[.int .i64 kd, .int .i64 lv, .slice ja il jc, .slice ea dl ec, .int .i64 nx] 27))
    have HP4 := Lib.hid (((hN.right HR.out).below hb4).mono hb4.size)
    replace hD := (hD.below hb3).below hb4
    have H5 := Lib.hid (HD2.out _ oa oc ((hO.below hb3).below hb4))
    have hkw : wrap64 (((k - 1 : Nat) : Int) + 1) = (k : Int) := by rw [show ((k - 1 : Nat) : Int) + 1 = (k : Int) by omega]; exact IntWalk.wrap64_in _ ⟨by omega, by omega⟩
    have hkw2 : wrap64 ((no : Int) % 65536 + 1) = (k : Int) := by rw [hkI]; exact IntWalk.wrap64_in _ ⟨by omega, by omega⟩
    clear hN hb3 hb4 hO H3
    have HDD := Lib.hid hD
    clear hD
    go_wp2_with fail
    generalize w3.alloc (.cells #[.int .i64 kd, .int .i64 lv, .slice ja il jc, .slice ea dl ec, .int .i64 nx] 27) = w4 at HG4 HP4 H5 HDD ⊢
    generalize w3.heap.size = q at HG4 ⊢
    refine H5.out.mono ?_
    rintro _ w5 ⟨ka, kc2, fa, fc, rfl, -, hb5⟩
    rw [pgv_row]
    obtain ⟨kd2, lv2, its2, ds2, nx2⟩ := p2
    simp only
    generalize its2.length = il2
    generalize ds2.length = dl2
    have hb6 := one_below w5 (.cells #[.int .i64 kd2, .int .i64 lv2, .slice ka il2 kc2, .slice fa dl2 fc, .int .i64 nx2] 27)
    have hD6 := (HDD.out.below hb5).below hb6
    have hG6 := (hb6.block q (Nat.lt_of_lt_of_le (rlt_of_heapP HG4.out) hb5.size)).trans ((hb5.block q (rlt_of_heapP HG4.out)).trans HG4.out)
    have hP6 := (((HP4.out.below hb5).mono hb5.size).below hb6).mono hb6.size
    have hA6 := (HP.out.below hD6.bel).mono hD6.bel.size
    have H7 := Lib.hid (eqPage_any ⟨kd, lv, its, ds, nx⟩ ⟨kd, lv, its, ds, nx⟩ ia ic da dc ja jc ea ec _ hA6 hP6)
    unfold EqA at H7
    simp only [pgv_row, decide_true] at H7
    rw [HIL.out, HDL.out] at H7
    obtain ⟨c0, c1, c2, c3, c4⟩ := cells5 hD6.box
    simp only [] at c0 c1 c2 c3 c4
    rw [HIL.out] at c2
    rw [HDL.out] at c3
    obtain ⟨d0, d1, d2, d3, d4⟩ := cells5 hG6
    have HD6 := Lib.hid hD6
    clear hb5 hb6 hD6 hG6 hP6 hA6 H5 HDD HG4 HP4
    by_cases hkn : k = no
    · have hkI2 : ((k : Int) == (no : Int)) = true := by rw [hkn]; simp
      clear hd2 hkn
      go_wp2_with fail
      refine H7.out.mono ?_
      rintro _ w7 ⟨rfl, hb7⟩
      have hD7 := HD6.out.below hb7
      have H8 := Lib.hid (HC.out w7 hD7.bel)
      clear c0 c1 c2 c3 c4 d0 d1 d2 d3 d4 hb7 H7
      obtain ⟨c0, c1, c2, c3, c4⟩ := cells5 hD7.box
      simp only [] at c0 c1 c2 c3 c4
      rw [HIL.out] at c2
      rw [HDL.out] at c3
      have HD7 := Lib.hid hD7
      clear hD7
      go_wp2_with fail
      refine H8.out.mono ?_
      rintro _ w8 ⟨rfl, hb8⟩
      have HD8 := Lib.hid (HD7.out.below hb8)
      clear hb8 H8 c0 c1 c2 c3 c4
      go_wp2_with fail
      all_goals
        go_ret
        exact ⟨rfl, HD8.out.bel⟩
    · have he2 := hd2 hkn
      subst he2
      have hkI2 : ((k : Int) == (no : Int)) = false := by rw [beq_eq_false_iff_ne]; omega
      go_wp2_with fail
      refine H7.out.mono ?_
      rintro _ w7 ⟨rfl, hb7⟩
      have hD7 := HD6.out.below hb7
      have H8 := Lib.hid (HC.out w7 hD7.bel)
      clear c0 c1 c2 c3 c4 d0 d1 d2 d3 d4 hb7 H7
      obtain ⟨c0, c1, c2, c3, c4⟩ := cells5 hD7.box
      simp only [] at c0 c1 c2 c3 c4
      rw [HIL.out] at c2
      rw [HDL.out] at c3
      have HD7 := Lib.hid hD7
      clear hD7
      go_wp2_with fail
      refine H8.out.mono ?_
      rintro _ w8 ⟨rfl, hb8⟩
      have HD8 := Lib.hid (HD7.out.below hb8)
      clear hb8 H8 c0 c1 c2 c3 c4
      go_wp2_with fail
      all_goals
        go_ret
        exact ⟨rfl, HD8.out.bel⟩
  · have hed : (e != 0) = true := by rw [bne_iff_ne]; exact he
    obtain rfl := hnl he
    clear hz hnl hr h0 h1
    simp only [List.length_nil] at HE
    obtain ⟨kd, lv, its, ds, nx⟩ := p
    simp only [pgv_row] at HD HE HC ⊢
    obtain ⟨il, hil⟩ : ∃ il, its.length = il := ⟨_, rfl⟩
    obtain ⟨dl, hdl⟩ : ∃ dl, ds.length = dl := ⟨_, rfl⟩
    rw [hil, hdl] at HD HC HE ⊢
    have HIL := Lib.hid hil
    have HDL := Lib.hid hdl
    clear hil hdl
    go_enter Try.func7, Try.ntmps7
    go_wp2_with fail
    generalize W.alloc (.cells #[.int .i64 kd, .int .i64 lv, .slice ia il ic, .slice da dl dc, .int .i64 nx] 27) = w0 at HD ⊢
    refine (fixed_any _).mono ?_
    rintro _ w1 ⟨rfl, hb1⟩
    have hD := HD.out.below hb1
    clear hb1
    obtain ⟨c0, c1, c2, c3, c4⟩ := cells5 hD.box
    simp only [] at c0 c1 c2 c3 c4
    rw [HIL.out] at c2
    rw [HDL.out] at c3
    go_wp2_with fail
    refine (HE.out _ hD.bel).mono ?_
    rintro _ w2 ⟨oa, oc, rfl, hO, -, hb2⟩
    replace hD := hD.below hb2
    clear hb2 c0 c1 c2 c3 c4 hO
    go_wp2_with fail
    go_ret
    exact ⟨rfl, hD.bel⟩
end Go.Proofs.Ytkjgncmbhkhbnaa
