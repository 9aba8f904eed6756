/- The walk of SuperApart. -/
import Derived.Test.YthkopgmkdenebaaSWPlaces
import Derived.Test.YthkopgmkdenebaaSWPlans
namespace Go.Proofs.Ythkopgmkdenebaa
open Go.RowKit
set_option linter.unusedVariables false
set_option maxRecDepth 100000

set_option maxHeartbeats 4000000 in
theorem superApart_walk (c : CF) (no other : Int) (W : World) (h1 : i64ok c.blocks) (h2 : i64ok c.clones) (h3 : i64ok c.refs) (hno : (Lit.int .i64 no).wf = true) (hot : (Lit.int .i64 other).wf = true) :
    Calls Try.prog 13 #[.agg #[.int .i64 c.blocks, .int .i64 c.clones, .int .i64 c.refs], .int .i64 no, .int .i64 other] W fun e w' => e = .returned (.bool true) ∧ Below W.heap.size W w' := by
  have hno := i64_le hno
  have hot := i64_le hot
  have HP := Lib.hid (plan_any c h1 h2 h3)
  have HM := Lib.hid (mayBe_any c)
  have HB0 := Lib.hid (one_below W (.cells #[.int .i64 c.blocks, .int .i64 c.clones, .int .i64 c.refs] 24))
  have Hg0 := Lib.hid (heap_alloc_new W (.cells #[.int .i64 c.blocks, .int .i64 c.clones, .int .i64 c.refs] 24))
  have Hz0 := Lib.hid (show W.heap.size < (W.alloc (.cells #[.int .i64 c.blocks, .int .i64 c.clones, .int .i64 c.refs] 24)).heap.size by simp)
  by_cases hm : MayC c
  · obtain ⟨Bk, hB⟩ : ∃ B : Nat, c.blocks = (B : Int) := ⟨c.blocks.toNat, by have := hm.1; omega⟩
    have hBl : 8 ≤ Bk ∧ Bk ≤ 65536 := by have := hm.1; omega
    have hpg : c.pages = pagesN Bk := by rw [CF.pages, hB]; rfl
    have hf := downN_fits Bk Bk (by omega)
    have hmost : ∀ q, q ≤ Bk → 2 + 2 * bankN q + q ≤ Bk → q ≤ downN Bk Bk := fun q h1 h2 => downN_most Bk Bk q (by omega) h1 h2
    have h4 := hmost 4 (by omega) (by unfold bankN; omega)
    have hle := pagesN_le Bk
    rw [planned, if_pos hm, hpg] at HP
    unfold planV at HP
    have hnx : ¬ (2 + 2 * bankN (downN Bk Bk + 1) + (downN Bk Bk + 1) ≤ Bk) := fun h => by
      have := hmost (downN Bk Bk + 1) (by omega) h
      omega
    change 4 ≤ pagesN Bk at h4
    change 2 + 2 * bankN (pagesN Bk) + pagesN Bk ≤ Bk at hf
    change ¬ (2 + 2 * bankN (pagesN Bk + 1) + (pagesN Bk + 1) ≤ Bk) at hnx
    generalize pagesN Bk = P at *
    have hbn : bankN P = (P + 239) / 240 := rfl
    have hbn1 : bankN (P + 1) = (P + 240) / 240 := rfl
    obtain ⟨bn, hbe⟩ : ∃ b, bankN P = b := ⟨_, rfl⟩
    rw [hbe] at HP hf hbn
    rw [hbn1] at hnx
    have hba : P ≤ 240 * bn := by omega
    have hbb : 240 * bn < P + 240 := by omega
    clear hmost hbn1 hpg hbe hbn
    obtain ⟨bl, cl, re⟩ := c
    simp only at hB HP HM h1 h2 h3 HB0 Hg0 Hz0 ⊢
    subst hB
    have Hm := Lib.hid hm
    clear hm
    go_enter Try.func13, Try.ntmps13
    go_wp2_with fail
    generalize W.alloc (.cells #[.int .i64 Bk, .int .i64 cl, .int .i64 re] 24) = W0 at *
    refine (works_any _).mono ?_
    rintro _ w1 ⟨rfl, hb1⟩
    obtain ⟨z0, z1, z2, -⟩ := cells3 ((hb1.block _ Hz0.out).trans Hg0.out)
    have HB1 := Lib.hid (HB0.out.trans (hb1.mono HB0.out.size))
    have Hg1 := Lib.hid ((hb1.block _ Hz0.out).trans Hg0.out)
    have Hz1 := Lib.hid (Nat.lt_of_lt_of_le Hz0.out hb1.size)
    clear hb1
    go_wp2_with fail
    refine (HP.out _).mono ?_
    rintro _ w2 ⟨rfl, hb2⟩
    clear z0 z1 z2
    have hb3 := one_below w2 (.cells #[.int .i64 P, .int .i64 bn, .int .i64 (2 + 2 * (bn : Int))] 26)
    have hp3 := heap_alloc_new w2 (.cells #[.int .i64 P, .int .i64 bn, .int .i64 (2 + 2 * (bn : Int))] 26)
    have hz3 : w2.heap.size < (w2.alloc (.cells #[.int .i64 P, .int .i64 bn, .int .i64 (2 + 2 * (bn : Int))] 26)).heap.size := by simp
    have hg3 := (hb3.block _ (Nat.lt_of_lt_of_le Hz1.out hb2.size)).trans ((hb2.block _ Hz1.out).trans Hg1.out)
    have hB2 := HB1.out.trans (hb2.mono HB1.out.size)
    have HB3 := Lib.hid (hB2.trans (hb3.mono hB2.size))
    have Hp3 := Lib.hid hp3
    have Hz3 := Lib.hid hz3
    have Hg3 := Lib.hid hg3
    have Hzw := Lib.hid (Nat.lt_of_lt_of_le Hz1.out (Nat.le_trans hb2.size hb3.size))
    clear hb2 hb3 hp3 hz3 hg3 hB2
    go_wp2_with fail
    generalize w2.alloc (.cells #[.int .i64 P, .int .i64 bn, .int .i64 (2 + 2 * (bn : Int))] 26) = W3 at *
    have Hk := Lib.hid fun (w' : World) (h : Below W3.heap.size W3 w') => show w'.cell? ⟨w2.heap.size, 0, none⟩ = some (.int .i64 P) ∧ w'.cell? ⟨w2.heap.size, 1, none⟩ = some (.int .i64 bn) ∧ w'.cell? ⟨w2.heap.size, 2, none⟩ = some (.int .i64 (2 + 2 * (bn : Int))) ∧ w'.cell? ⟨W.heap.size, 0, none⟩ = some (.int .i64 Bk) ∧ Below W3.heap.size W3 w' from by
      obtain ⟨a0, a1, a2, -⟩ := cells3 ((h.block _ Hz3.out).trans Hp3.out)
      obtain ⟨b0, b1, b2, -⟩ := cells3 ((h.block _ Hzw.out).trans Hg3.out)
      exact ⟨a0, a1, a2, b0, h⟩
    have hbi : i64ok (bn : Int) := by unfold i64ok; omega
    have HA0 := Lib.hid (bankP_any (P : Int) bn (2 + 2 * (bn : Int)) 0 hbi)
    have HA1 := Lib.hid (bankP_any (P : Int) bn (2 + 2 * (bn : Int)) 1 hbi)
    rw [show bankAt (bn : Int) 0 = 2 from rfl] at HA0
    rw [show bankAt (bn : Int) 1 = 2 + (bn : Int) by simp [bankAt, wrap64]; omega] at HA1
    have hw1 : IntKind.i64.wrap (2 + (bn : Int)) = 2 + bn := by rw [IntKind.wrap_i64]; omega
    have hw2 : IntKind.i64.wrap (2 * (bn : Int)) = 2 * bn := by rw [IntKind.wrap_i64]; omega
    have hw3 : IntKind.i64.wrap (2 + 2 * (bn : Int)) = 2 + 2 * bn := by rw [IntKind.wrap_i64]; omega
    go_region_held3 (fun w' => w'.cell? ⟨w2.heap.size, 0, none⟩ = some (.int .i64 P) ∧ w'.cell? ⟨w2.heap.size, 1, none⟩ = some (.int .i64 bn) ∧ w'.cell? ⟨w2.heap.size, 2, none⟩ = some (.int .i64 (2 + 2 * (bn : Int))) ∧ w'.cell? ⟨W.heap.size, 0, none⟩ = some (.int .i64 Bk) ∧ Below W3.heap.size W3 w')
      (first
        | exact Hk.out _ (Below.drew (Below.refl _ _))
        | (refine Hk.out _ (Below.drew ?_); with_reducible assumption)
        | (refine Hk.out _ ?_; with_reducible assumption))
      (first
        | (go_at_call 37; go_split_ands; ((with_reducible refine (HA0.out _).mono ?_); rintro e v1 ⟨rfl, hc1⟩)
           have hbn : Below W3.heap.size W3 v1 := below_nextW (by with_reducible assumption) hc1)
        | (go_at_call 37; go_split_ands; ((with_reducible refine (HA1.out _).mono ?_); rintro e v1 ⟨rfl, hc1⟩)
           have hbn2 : Below W3.heap.size W3 v1 := below_nextW (by with_reducible assumption) hc1))
    clear hbn
    go_wp2_with fail
    have hfw : (((2 + 2 * bn : Nat) : Int)) = 2 + 2 * (bn : Int) := by simp
    have HX := Lib.hid fun n (hn : 1 ≤ n ∧ n ≤ (P : Int)) w => (show Calls Try.prog 38 #[.agg #[.int .i64 P, .int .i64 bn, .int .i64 (2 + 2 * (bn : Int))], .int .i64 n] w fun e w' => e = .returned (.tuple #[.int .i64 (2 + 2 * (bn : Int) + n - 1), .bool true]) ∧ Below w.heap.size w w' from by
      have := block_any (P : Int) bn (2 + 2 * (bn : Int)) n w
      rw [blockAt, if_pos hn, show wrap64 (wrap64 (2 + 2 * (bn : Int) + n) - 1) = 2 + 2 * (bn : Int) + n - 1 by unfold wrap64; omega] at this
      exact this)
    have HY := Lib.hid fun n (hn : ¬ (1 ≤ n ∧ n ≤ (P : Int))) w => (show Calls Try.prog 38 #[.agg #[.int .i64 P, .int .i64 bn, .int .i64 (2 + 2 * (bn : Int))], .int .i64 n] w fun e w' => e = .returned (.tuple #[.int .i64 0, .bool false]) ∧ Below w.heap.size w w' from by
      have := block_any (P : Int) bn (2 + 2 * (bn : Int)) n w
      rw [blockAt, if_neg hn] at this
      exact this)
    have Hbn2 := Lib.hid hbn2
    clear hbn2 hc1
    by_cases hn : 1 ≤ no ∧ no ≤ (P : Int) <;> by_cases ho : 1 ≤ other ∧ other ≤ (P : Int)
    · obtain ⟨bv, hbv⟩ : ∃ v : Int, 2 + 2 * (bn : Int) + no - 1 = v := ⟨_, rfl⟩
      obtain ⟨dv, hdv⟩ : ∃ v : Int, 2 + 2 * (bn : Int) + other - 1 = v := ⟨_, rfl⟩
      have H1 := HX.out no hn
      have H2 := HX.out other ho
      rw [hbv] at H1
      rw [hdv] at H2
      have H1 := Lib.hid H1
      have H2 := Lib.hid H2
      have q1 : decide (2 + (bn : Int) + bn ≤ bv) = true := by rw [decide_eq_true_iff]; omega
      have q2 : decide (bv < (Bk : Int)) = true := by rw [decide_eq_true_iff]; omega
      have q3 : decide (dv < (Bk : Int)) = true := by rw [decide_eq_true_iff]; omega
      have p1 : 2 + (bn : Int) + bn ≤ bv := by omega
      have p2 : bv < (Bk : Int) := by omega
      have p3 : dv < (Bk : Int) := by omega
      have q4 : (bv == dv) = (no == other) := by
        by_cases h : no = other
        · rw [show bv = dv by omega, h]; simp
        · rw [beq_eq_false_iff_ne.2 h, beq_eq_false_iff_ne.2 (show bv ≠ dv by omega)]
      have hw4 : IntKind.i64.wrap (2 + (bn : Int) + bn) = 2 + bn + bn := by rw [IntKind.wrap_i64]; omega
      clear hbv hdv
      refine (H1.out _).mono ?_
      rintro _ v2 ⟨rfl, hc2⟩
      have hd2 := Hbn2.out.trans (hc2.mono Hbn2.out.size)
      obtain ⟨a0, a1, a2, b0, -⟩ := Hk.out _ hd2
      have Hd2 := Lib.hid hd2
      clear hc2 hd2
      go_wp2_with fail
      refine (H2.out _).mono ?_
      rintro _ v3 ⟨rfl, hc3⟩
      clear a0 a1 a2 b0
      have hd3 := Hd2.out.trans (hc3.mono Hd2.out.size)
      have hk3 := Hk.out _ hd3
      obtain ⟨a0, a1, a2, b0, -⟩ := hk3
      have Hd3 := Lib.hid hd3
      clear hc3
      go_wp2_with fail
      clear a0 a1 a2 b0
      go_region_held3 (fun w' => w'.cell? ⟨w2.heap.size, 0, none⟩ = some (.int .i64 P) ∧ w'.cell? ⟨w2.heap.size, 1, none⟩ = some (.int .i64 bn) ∧ w'.cell? ⟨w2.heap.size, 2, none⟩ = some (.int .i64 (2 + 2 * (bn : Int))) ∧ w'.cell? ⟨W.heap.size, 0, none⟩ = some (.int .i64 Bk) ∧ Below W3.heap.size W3 w')
        (first
          | exact Hk.out _ (Below.drew (Below.refl _ _))
          | (refine Hk.out _ (Below.drew ?_); with_reducible assumption)
          | (refine Hk.out _ ?_; with_reducible assumption))
        (first
          | (go_at_call 37; go_split_ands; ((with_reducible refine (HA1.out _).mono ?_); rintro e v1 ⟨rfl, hc1⟩)
             have hbn5 : Below W3.heap.size W3 v1 := below_nextW (by with_reducible assumption) hc1))
      go_wp2_with fail
      all_goals try (exfalso; omega)
      all_goals
        go_ret
        exact ⟨rfl, HB3.out.trans (hbn5.mono HB3.out.size)⟩
    · refine (HX.out no hn _).mono ?_
      rintro _ v2 ⟨rfl, hc2⟩
      have hd2 := Hbn2.out.trans (hc2.mono Hbn2.out.size)
      obtain ⟨a0, a1, a2, b0, -⟩ := Hk.out _ hd2
      have Hd2 := Lib.hid hd2
      clear hc2 hd2
      go_wp2_with fail
      refine (HY.out other ho _).mono ?_
      rintro _ v3 ⟨rfl, hc3⟩
      clear a0 a1 a2 b0
      have hd3 := Hd2.out.trans (hc3.mono Hd2.out.size)
      obtain ⟨a0, a1, a2, b0, -⟩ := Hk.out _ hd3
      have Hd3 := Lib.hid hd3
      clear hc3 hd3
      go_wp2_with fail
      all_goals try (exfalso; omega)
      all_goals
        go_ret
        exact ⟨rfl, HB3.out.trans (Hd3.out.mono HB3.out.size)⟩
    · refine (HY.out no hn _).mono ?_
      rintro _ v2 ⟨rfl, hc2⟩
      have hd2 := Hbn2.out.trans (hc2.mono Hbn2.out.size)
      obtain ⟨a0, a1, a2, b0, -⟩ := Hk.out _ hd2
      have Hd2 := Lib.hid hd2
      clear hc2 hd2
      go_wp2_with fail
      refine (HX.out other ho _).mono ?_
      rintro _ v3 ⟨rfl, hc3⟩
      clear a0 a1 a2 b0
      have hd3 := Hd2.out.trans (hc3.mono Hd2.out.size)
      obtain ⟨a0, a1, a2, b0, -⟩ := Hk.out _ hd3
      have Hd3 := Lib.hid hd3
      clear hc3 hd3
      go_wp2_with fail
      all_goals try (exfalso; omega)
      all_goals
        go_ret
        exact ⟨rfl, HB3.out.trans (Hd3.out.mono HB3.out.size)⟩
    · refine (HY.out no hn _).mono ?_
      rintro _ v2 ⟨rfl, hc2⟩
      have hd2 := Hbn2.out.trans (hc2.mono Hbn2.out.size)
      obtain ⟨a0, a1, a2, b0, -⟩ := Hk.out _ hd2
      have Hd2 := Lib.hid hd2
      clear hc2 hd2
      go_wp2_with fail
      refine (HY.out other ho _).mono ?_
      rintro _ v3 ⟨rfl, hc3⟩
      clear a0 a1 a2 b0
      have hd3 := Hd2.out.trans (hc3.mono Hd2.out.size)
      obtain ⟨a0, a1, a2, b0, -⟩ := Hk.out _ hd3
      have Hd3 := Lib.hid hd3
      clear hc3 hd3
      go_wp2_with fail
      all_goals try (exfalso; omega)
      all_goals
        go_ret
        exact ⟨rfl, HB3.out.trans (Hd3.out.mono HB3.out.size)⟩
  · have hd : decide (MayC c) = false := by simpa using hm
    rw [planned, if_neg hm] at HP
    unfold plan0 at HP
    rw [hd] at HM
    obtain ⟨bl, cl, re⟩ := c
    simp only at HP HM h1 h2 h3 HB0 Hg0 Hz0 ⊢
    clear hm hd
    go_enter Try.func13, Try.ntmps13
    go_wp2_with fail
    generalize W.alloc (.cells #[.int .i64 bl, .int .i64 cl, .int .i64 re] 24) = W0 at *
    refine (works_any _).mono ?_
    rintro _ w1 ⟨rfl, hb1⟩
    obtain ⟨z0, z1, z2, -⟩ := cells3 ((hb1.block _ Hz0.out).trans Hg0.out)
    have HB1 := Lib.hid (HB0.out.trans (hb1.mono HB0.out.size))
    have Hg1 := Lib.hid ((hb1.block _ Hz0.out).trans Hg0.out)
    have Hz1 := Lib.hid (Nat.lt_of_lt_of_le Hz0.out hb1.size)
    clear hb1
    go_wp2_with fail
    refine (HP.out _).mono ?_
    rintro _ w2 ⟨rfl, hb2⟩
    clear z0 z1 z2
    have hb3 := one_below w2 (.cells #[.int .i64 0, .int .i64 0, .int .i64 0] 26)
    obtain ⟨z0, z1, z2, -⟩ := cells3 ((hb3.block _ (Nat.lt_of_lt_of_le Hz1.out hb2.size)).trans ((hb2.block _ Hz1.out).trans Hg1.out))
    have hB2 := HB1.out.trans (hb2.mono HB1.out.size)
    have HB3 := Lib.hid (hB2.trans (hb3.mono hB2.size))
    clear hb2 hb3 hB2
    go_wp2_with fail
    refine (HM.out _).mono ?_
    rintro _ w4 ⟨rfl, rfl⟩
    have HB4 := Lib.hid (HB3.out.alloc HB3.out.size (.cells #[.int .i64 bl, .int .i64 cl, .int .i64 re] 24))
    go_wp2_with fail
    go_ret
    exact ⟨rfl, HB4.out⟩
end Go.Proofs.Ythkopgmkdenebaa
