/- try -/
import Derived.Test.YtofialinjbjcmaaTwo
namespace Go.Proofs.Ytofialinjbjcmaa
open Go.RowKit
set_option linter.unusedVariables false
set_option maxRecDepth 100000 in
set_option maxHeartbeats 8000000 in
theorem wireTwo_all (m0 m1 : Int) (s0 s1 : Scr) (at' : Option Addr) (lt ct : Nat) (w : World) (h0 : s0.ok w) (h1 : s1.ok w) (ht : IsBools w at' lt) (hlt : lt ≤ 9223372036854775807) :
    Calls Try.prog 7 #[.agg #[.int .i64 m0, .int .i64 m1], .agg #[.slice s0.a s0.len s0.cap, .slice s1.a s1.len s1.cap], .slice at' lt ct] w fun e w' => e = .returned (.bool true) ∧ Below w.heap.size w w' := by
  obtain ⟨ho0, hp0, hn0, hc0, hmin0⟩ := h0
  obtain ⟨ho1, hp1, hn1, hc1, hmin1⟩ := h1
  have Ho0 := Lib.hid ho0
  have Ho1 := Lib.hid ho1
  have Hp0 := Lib.hid hp0
  have Hp1 := Lib.hid hp1
  have Ht := Lib.hid ht
  have Hm0 := Lib.hid hmin0
  have Hm1 := Lib.hid hmin1
  clear ho0 ho1 hp0 hp1 ht hmin0 hmin1
  go_enter Try.func7, Try.ntmps7
  go_wp2_with fail
  go_loopw [20] (fun i wr => RelT1 w (.int .i64 m0, .int .i64 m1) s0 s1 i wr) (fun i _ => 2 - (intOf i).toNat)
  case atStart =>
    have hB0 := (Below.refl w.heap.size w).alloc (Nat.le_refl _) (.cells #[.int .i64 m0, .int .i64 m1] 60)
    have hz : (w.alloc (.cells #[.int .i64 m0, .int .i64 m1] 60)).heap.size = w.heap.size + 1 := by simp
    refine ⟨0, by omega, rfl, by simp, hB0.alloc hB0.size _, ?_, ?_⟩
    · rw [((Below.refl _ _).alloc (Nat.le_refl _) _ : Below (w.alloc (.cells #[.int .i64 m0, .int .i64 m1] 60)).heap.size _ _).block _ (by rw [hz]; omega)]
      exact heap_alloc_new w _
    · have h := heap_alloc_new (w.alloc (.cells #[.int .i64 m0, .int .i64 m1] 60)) (.cells #[.slice s0.a s0.len s0.cap, .slice s1.a s1.len s1.cap] 61)
      rw [hz] at h
      exact h
  case round =>
    obtain ⟨j, hj, rfl, hz, hB, hm, hs⟩ := hrel
    have HB := Lib.hid hB
    have Hz := Lib.hid hz
    have Hm := Lib.hid hm
    have Hs := Lib.hid hs
    clear hz hB hm hs
    obtain rfl | rfl | rfl : j = 0 ∨ j = 1 ∨ j = 2 := by omega
    · obtain ⟨x0, x1, xf⟩ := two_cells Hs.out
      have hm0 := Hm0.out
      have xf0 := xf 0
      have HN := Lib.hid (show RelT1 w (.int .i64 m0, .int .i64 m1) s0 s1 (.int .i64 1) (wr.setCell ⟨w.heap.size + 1, 0, none⟩ (.slice s0.a s0.n s0.cap)).drew from
        ⟨1, by omega, rfl, by simpa [World.setCell] using Hz.out, (HB.out.setCell (by show _ ≤ w.heap.size + 1; omega) _).drew, (two_other (by omega) _).trans Hm.out, two_set0 Hs.out _⟩)
      simp only [Nat.lt_irrefl, if_false] at x0
      clear xf x1
      go_wp2_with fail
      go_still_tail 11, (by kernel_rfl)
      change wpList _ _ _ _ _ wr.drew
      go_wp2_with fail
      go_roundw
      case rel => exact HN.out
      case measure => simp [intOf]
    · obtain ⟨x0, x1, xf⟩ := two_cells Hs.out
      have hm1 := Hm1.out
      have xf1 := xf 1
      have HN := Lib.hid (show RelT1 w (.int .i64 m0, .int .i64 m1) s0 s1 (.int .i64 2) (wr.setCell ⟨w.heap.size + 1, 1, none⟩ (.slice s1.a s1.n s1.cap)).drew from
        ⟨2, by omega, rfl, by simpa [World.setCell] using Hz.out, (HB.out.setCell (by show _ ≤ w.heap.size + 1; omega) _).drew, (two_other (by omega) _).trans Hm.out, two_set1 Hs.out _⟩)
      simp only [Nat.lt_irrefl, if_false] at x1
      clear xf x0
      go_wp2_with fail
      go_still_tail 11, (by kernel_rfl)
      change wpList _ _ _ _ _ wr.drew
      go_wp2_with fail
      go_roundw
      case rel => exact HN.out
      case measure => simp [intOf]
    · obtain ⟨W, hW⟩ : ∃ W, W = wr := ⟨_, rfl⟩
      subst hW
      have hz3 : (W.alloc (.cells #[.pointer none, .pointer none] 63)).heap.size = W.heap.size + 1 := by simp
      have Hz3 := Lib.hid hz3
      clear hz3
      go_wp2_with fail
      go_loopw [9] (fun i wr => RelT2 W m0 m1 i wr) (fun i _ => 2 - (intOf i).toNat)
      case atStart => exact ⟨0, _, _, by omega, rfl, heap_alloc_new W _, Chg.refl _ _, fun _ => rfl, fun _ => rfl, fun h => absurd h (by omega), fun h => absurd h (by omega)⟩
      case round =>
        obtain ⟨j, p0, p1, hj, rfl, hx, hC, hq0, hq1, ha, hb⟩ := hrel
        have HX := Lib.hid hx
        have HC := Lib.hid hC
        have HM := Lib.hid (show wr.heap[w.heap.size]? = some (.cells #[.int .i64 m0, .int .i64 m1] 60) from
          (hC.block _ (by rw [Hz3.out, Hz.out]; omega) (by rw [Hz.out]; omega)).trans ((((Below.refl W.heap.size W).alloc (Nat.le_refl _) _).block _ (by rw [Hz.out]; omega)).trans Hm.out))
        have hsz : W.heap.size + 1 ≤ wr.heap.size := by rw [← Hz3.out]; exact hC.size
        have Hzw := Lib.hid (show w.heap.size + 2 = W.heap.size from Hz.out.symm)
        clear hx hC
        obtain rfl | rfl | rfl : j = 0 ∨ j = 1 ∨ j = 2 := by omega
        · obtain rfl := hq0 (by decide)
          obtain rfl := hq1 (by decide)
          have Hcm := Lib.hid fun (u : World) (h : Below wr.heap.size wr u) => two_cells ((h.block _ (two_lt HM.out)).trans HM.out)
          have Hcx := Lib.hid fun (u : World) (h : Below wr.heap.size wr u) => two_cells ((h.block _ (two_lt HX.out)).trans HX.out)
          obtain ⟨y0, -, -⟩ := Hcm.out wr.drew (Below.refl _ _).drew
          have HNW := Lib.hid (show Calls Try.prog 8 #[.int .i64 m0] wr.drew fun r w' => r = .returned (.pointer (some ⟨wr.heap.size, 0, none⟩)) ∧ IsW w' wr.heap.size none 0 (WS.new m0) ∧ Below wr.heap.size wr w' from (newWriter_any m0 wr.drew).mono fun r w' ⟨h1, h2, h3⟩ => ⟨h1, h2, (Below.refl wr.heap.size wr).drew.trans h3⟩)
          clear ha hb hq0 hq1
          go_wp2_with fail
          go_region_with (first
            | (go_at_call 8; refine HNW.out.mono ?_; rintro _ u1 ⟨rfl, hW1, hBu1⟩
               have y1 := (Hcm.out u1 hBu1).1)
            | (go_at_call 9; refine (rwNew_any _ _).mono ?_; rintro _ u2 ⟨rfl, hW2, hB2⟩
               have hBu2 := hBu1.trans (hB2.mono hBu1.size)
               have hBu3 := hBu2.alloc hBu2.size (.cells #[.pointer (some ⟨wr.heap.size, 0, none⟩), .pointer (some ⟨u1.heap.size, 0, none⟩), .slice none 0 0] 31)
               have y2 := (Hcx.out _ hBu3).1
               have y3 := (Hcx.out _ hBu3).2.2 0))
          all_goals
            have hN := relT2_one (m1 := m1) hsz HX.out HC.out hW1 hBu1 hW2 hB2
            obtain ⟨y4, -, -⟩ := two_cells (two_set0 (((hBu2.alloc hBu2.size (.cells #[.pointer (some ⟨wr.heap.size, 0, none⟩), .pointer (some ⟨u1.heap.size, 0, none⟩), .slice none 0 0] 31)).block _ (two_lt HX.out)).trans HX.out) (.pointer (some ⟨u2.heap.size, 0, none⟩)))
            have y5 : ((u2.alloc (.cells #[.pointer (some ⟨wr.heap.size, 0, none⟩), .pointer (some ⟨u1.heap.size, 0, none⟩), .slice none 0 0] 31)).setCell ⟨W.heap.size, 0, none⟩ (.pointer (some ⟨u2.heap.size, 0, none⟩))).cell? ⟨u2.heap.size, 0, none⟩ = some (.pointer (some ⟨wr.heap.size, 0, none⟩)) := by
              have h := ((Chg.set (u2.alloc (.cells #[.pointer (some ⟨wr.heap.size, 0, none⟩), .pointer (some ⟨u1.heap.size, 0, none⟩), .slice none 0 0] 31)) ⟨W.heap.size, 0, none⟩ (.pointer (some ⟨u2.heap.size, 0, none⟩))).cell (p := ⟨u2.heap.size, 0, none⟩) (by simp) (fun e => by have e2 : u2.heap.size = W.heap.size := e; have := hBu2.size; omega))
              rw [h, cell_of_row _ _ _ _ _ _ (heap_alloc_new u2 _)]; rfl
            have HN := Lib.hid hN
            clear hN hW1 hW2 hBu1 hBu2 hBu3 hB2 y1 y2 y3
            go_wp2_with fail
            go_roundw
            case rel => exact HN.out
            case measure => simp [intOf]
        · obtain rfl := hq1 (by decide)
          obtain ⟨x, d, rfl, hI, hes⟩ := ha (by decide)
          have HI := Lib.hid hI
          have Hes := Lib.hid hes
          have Hcm := Lib.hid fun (u : World) (h : Below wr.heap.size wr u) => two_cells ((h.block _ (two_lt HM.out)).trans HM.out)
          have Hcx := Lib.hid fun (u : World) (h : Below wr.heap.size wr u) => two_cells ((h.block _ (two_lt HX.out)).trans HX.out)
          obtain ⟨-, y0, -⟩ := Hcm.out wr.drew (Below.refl _ _).drew
          have HNW := Lib.hid (show Calls Try.prog 8 #[.int .i64 m1] wr.drew fun r w' => r = .returned (.pointer (some ⟨wr.heap.size, 0, none⟩)) ∧ IsW w' wr.heap.size none 0 (WS.new m1) ∧ Below wr.heap.size wr w' from (newWriter_any m1 wr.drew).mono fun r w' ⟨h1, h2, h3⟩ => ⟨h1, h2, (Below.refl wr.heap.size wr).drew.trans h3⟩)
          clear hq0 hq1 ha hb hI hes
          go_wp2_with fail
          go_region_with (first
            | (go_at_call 8; refine HNW.out.mono ?_; rintro _ u1 ⟨rfl, hW1, hBu1⟩
               have y1 := (Hcm.out u1 hBu1).2.1)
            | (go_at_call 9; refine (rwNew_any _ _).mono ?_; rintro _ u2 ⟨rfl, hW2, hB2⟩
               have hBu2 := hBu1.trans (hB2.mono hBu1.size)
               have hBu3 := hBu2.alloc hBu2.size (.cells #[.pointer (some ⟨wr.heap.size, 0, none⟩), .pointer (some ⟨u1.heap.size, 0, none⟩), .slice none 0 0] 31)
               have y2 := (Hcx.out _ hBu3).2.1
               have y3 := (Hcx.out _ hBu3).2.2 1))
          all_goals
            have hN := relT2_two hsz HX.out HC.out HI.out Hes.out hW1 hBu1 hW2 hB2
            obtain ⟨-, y4, -⟩ := two_cells (two_set1 (((hBu2.alloc hBu2.size (.cells #[.pointer (some ⟨wr.heap.size, 0, none⟩), .pointer (some ⟨u1.heap.size, 0, none⟩), .slice none 0 0] 31)).block _ (two_lt HX.out)).trans HX.out) (.pointer (some ⟨u2.heap.size, 0, none⟩)))
            have y5 : ((u2.alloc (.cells #[.pointer (some ⟨wr.heap.size, 0, none⟩), .pointer (some ⟨u1.heap.size, 0, none⟩), .slice none 0 0] 31)).setCell ⟨W.heap.size, 1, none⟩ (.pointer (some ⟨u2.heap.size, 0, none⟩))).cell? ⟨u2.heap.size, 0, none⟩ = some (.pointer (some ⟨wr.heap.size, 0, none⟩)) := by
              have h := ((Chg.set (u2.alloc (.cells #[.pointer (some ⟨wr.heap.size, 0, none⟩), .pointer (some ⟨u1.heap.size, 0, none⟩), .slice none 0 0] 31)) ⟨W.heap.size, 1, none⟩ (.pointer (some ⟨u2.heap.size, 0, none⟩))).cell (p := ⟨u2.heap.size, 0, none⟩) (by simp) (fun e => by have e2 : u2.heap.size = W.heap.size := e; have := hBu2.size; omega))
              rw [h, cell_of_row _ _ _ _ _ _ (heap_alloc_new u2 _)]; rfl
            have HN := Lib.hid hN
            clear hN hW1 hW2 hBu1 hBu2 hBu3 hB2 y1 y2 y3
            go_wp2_with fail
            go_roundw
            case rel => exact HN.out
            case measure => simp [intOf]
        · obtain ⟨x0, x1, d0, d1, rfl, rfl, hI0, hI1, he0, he1, hdj⟩ := hb (by decide)
          rw [show ((2 : Nat) : Int) = (2 : Int) from rfl]
          have hBr : Below w.heap.size w wr := HB.out.trans ((((Chg.refl (fun k => k = W.heap.size) W).alloc _).trans HC.out fun _ _ h => h).below (by have := Hzw.out; omega) fun k e => by have := Hzw.out; omega)
          have hSr : wr.heap[w.heap.size + 1]? = some (.cells #[.slice s0.a s0.n s0.cap, .slice s1.a s1.n s1.cap] 61) :=
            ((((Chg.refl (fun k => k = W.heap.size) W).alloc _).trans HC.out fun _ _ h => h).block (w.heap.size + 1) (by rw [Hz.out]; omega) (by rw [Hz.out]; omega)).trans Hs.out
          have hP0 : PrAt w (W.heap.size + 1) W.heap.size (w.heap.size + 1) wr.heap.size x0 x1 s0 s1 (wr.alloc (.cells #[.int .i64 0, .int .i64 0] 60)) (WS.new m0) (WS.new m1) d0 d1 := by
            have hb1 : Below wr.heap.size wr (wr.alloc (.cells #[.int .i64 0, .int .i64 0] 60)) := (Below.refl _ _).alloc (Nat.le_refl _) _
            exact ⟨hI0.below (PW.stable _) (PW.stable _) hb1, hI1.below (PW.stable _) (PW.stable _) hb1, hdj, fun e => by have := (hI0.lt e).2; omega, fun e => by have := (hI1.lt e).2; omega, by simp, hBr.trans (hb1.mono hBr.size), (hb1.block W.heap.size (by omega)).trans HX.out, (hb1.block (w.heap.size + 1) (by have := Hzw.out; omega)).trans hSr, by omega, by rw [Hz.out]; omega, hsz, Nat.le_trans hsz hb1.size, by rw [Hz.out]; omega⟩
          have HP0 := Lib.hid hP0
          have He0 := Lib.hid he0
          have He1 := Lib.hid he1
          clear ha hb hq0 hq1 hI0 hI1 hdj hBr hSr hP0 he0 he1
          have Hab := Lib.hid (heap_alloc_new wr (.cells #[.int .i64 0, .int .i64 0] 60))
          go_wp2_with fail
          generalize wr.heap.size = ab at HP0 Hab hsz ⊢
          generalize W.heap.size = xb at *
          go_loopw [11] (fun i wr2 => RelT3 w (xb + 1) xb (w.heap.size + 1) ab x0 x1 s0 s1 lt i wr2) (fun i _ => lt - (intOf i).toNat)
          case atStart => exact ⟨0, 0, 0, _, _, _, _, Nat.zero_le _, rfl, Nat.zero_le _, Nat.zero_le _, Hab.out, HP0.out, by rw [He0.out]; exact Nat.le_refl _, by rw [He1.out]; exact Nat.le_refl _⟩
          case round =>
            clear HP0 Hab HX HC HM He0 He1
            obtain ⟨j, k0, k1, t0, t1, d0, d1, hj, rfl, hk0, hk1, hA, hP, hn0', hn1'⟩ := hrel
            have HA := Lib.hid hA
            have HP := Lib.hid hP
            clear hA hP
            by_cases hjl : j < lt
            · obtain ⟨tb, tof, rfl, htb, tu, hu⟩ : ∃ b off, at' = some ⟨b, off, none⟩ ∧ b < wr.heap.size ∧ ∃ t : Bool, wr.cell? ⟨b, off + j, none⟩ = some (.bool t) := by
                rcases Ht.out.below HP.out.bel with h | ⟨b, off, h1, h2, h3⟩
                · omega
                · exact ⟨b, off, h1, h2, h3 j hjl⟩
              cases tu with
              | false =>
                by_cases hk : k0 < s0.n
                · have hki : (k0 : Int) < (s0.n : Int) := by omega
                  obtain ⟨y0, -, yf⟩ := two_cells HA.out
                  obtain ⟨z0, -, -⟩ := two_cells HP.out.hs
                  clear yf
                  go_wp2_with fail
                  go_quiet (fail)
                  have hW3 : Below wr.heap.size wr (wr.drewN nq) := below_drewN (Below.refl _ _) nq
                  go_wp2_with fail
                  clear y0 z0 hu
                  generalize wr.drewN nq = W3 at hW3 ⊢
                  have HP3 := Lib.hid (HP.out.below hW3)
                  have HA3 := Lib.hid ((hW3.block _ HP.out.lt).trans HA.out)
                  obtain ⟨o, hok⟩ : ∃ o, s0.os[k0]? = some o := ⟨_, List.getElem?_eq_getElem (by rw [Ho0.out]; exact hk)⟩
                  obtain ⟨bb, off, hsa, hbb, hf, ⟨l0, l1, l2, l3⟩, hbt, hbl⟩ := (Hp0.out.below HP3.out.bel).at hok
                  have H := write_any (xb + 1) x0 True t0 d0 o hf W3.drew (HP3.out.i0.below (PW.stable _) (PW.stable _) (Below.refl _ _).drew) HP3.out.hB (by omega) hbt (hbl.imp id fun h b hb => by have := h b hb; have := HP.out.wB; omega)
                  simp only [Op2.val] at H
                  have H := Lib.hid H
                  obtain ⟨y0, -, yf⟩ := two_cells HA3.out
                  obtain ⟨z0, -, -⟩ := two_cells HP3.out.hs
                  obtain ⟨v0, v1, -⟩ := two_cells HP3.out.hx
                  rw [hsa] at z0
                  clear hW3 hf hbt hbl hok hsa yf
                  go_still_tail 11, (by kernel_rfl)
                  change wpList _ _ _ _ _ W3.drew
                  go_wp2_with fail
                  refine H.out.mono ?_
                  rintro _ w4 ⟨rfl, hb4⟩
                  obtain ⟨t', d', hP4, hn4, hC4⟩ := (HP3.out.below (Below.refl W3.heap.size W3).drew).step0 hb4
                  have hA4 := (hC4.block ab HP3.out.lt HP3.out.n0).trans HA3.out
                  clear y0 z0 v0 v1 l0 l1 l2 l3
                  obtain ⟨y0, -, yf⟩ := two_cells hA4
                  have yf0 := yf 0
                  have HN := Lib.hid (show RelT3 w (xb + 1) xb (w.heap.size + 1) ab x0 x1 s0 s1 lt (.int .i64 ((j + 1 : Nat) : Int)) (w4.setCell ⟨ab, 0, none⟩ (.int .i64 ((k0 + 1 : Nat) : Int))) from
                    ⟨j + 1, k0 + 1, k1, t', t1, d', d1, by omega, rfl, by omega, by omega, two_set0 hA4 _, hP4.tick _ _, by omega, by omega⟩)
                  rw [show ((k0 + 1 : Nat) : Int) = (k0 : Int) + 1 by omega] at HN
                  clear hP4 hC4 hA4 yf hb4
                  go_wp2_with fail
                  go_roundw
                  case rel => exact HN.out
                  case measure => simp [intOf]; omega
                · have hki : (s0.n : Int) ≤ (k0 : Int) := by omega
                  obtain ⟨y0, -, yf⟩ := two_cells HA.out
                  obtain ⟨z0, -, -⟩ := two_cells HP.out.hs
                  clear yf
                  go_wp2_with fail
                  go_quiet (fail)
                  have hW3 : Below wr.heap.size wr (wr.drewN nq) := below_drewN (Below.refl _ _) nq
                  have HN := Lib.hid (show RelT3 w (xb + 1) xb (w.heap.size + 1) ab x0 x1 s0 s1 lt (.int .i64 ((j + 1 : Nat) : Int)) (wr.drewN nq) from
                    ⟨j + 1, k0, k1, t0, t1, d0, d1, by omega, rfl, by omega, by omega, (hW3.block _ HP.out.lt).trans HA.out, HP.out.below hW3, by omega, by omega⟩)
                  clear hW3
                  go_wp2_with fail
                  go_roundw
                  case rel => exact HN.out
                  case measure => simp [intOf]; omega
              | true =>
                by_cases hk : k1 < s1.n
                · have hki : (k1 : Int) < (s1.n : Int) := by omega
                  obtain ⟨-, y0, yf⟩ := two_cells HA.out
                  obtain ⟨-, z0, -⟩ := two_cells HP.out.hs
                  clear yf
                  go_wp2_with fail
                  go_quiet (fail)
                  have hW3 : Below wr.heap.size wr (wr.drewN nq) := below_drewN (Below.refl _ _) nq
                  go_wp2_with fail
                  clear y0 z0 hu
                  generalize wr.drewN nq = W3 at hW3 ⊢
                  have HP3 := Lib.hid (HP.out.below hW3)
                  have HA3 := Lib.hid ((hW3.block _ HP.out.lt).trans HA.out)
                  obtain ⟨o, hok⟩ : ∃ o, s1.os[k1]? = some o := ⟨_, List.getElem?_eq_getElem (by rw [Ho1.out]; exact hk)⟩
                  obtain ⟨bb, off, hsa, hbb, hf, ⟨l0, l1, l2, l3⟩, hbt, hbl⟩ := (Hp1.out.below HP3.out.bel).at hok
                  have H := write_any (xb + 1) x1 True t1 d1 o hf W3.drew (HP3.out.i1.below (PW.stable _) (PW.stable _) (Below.refl _ _).drew) HP3.out.hB (by omega) hbt (hbl.imp id fun h b hb => by have := h b hb; have := HP.out.wB; omega)
                  simp only [Op2.val] at H
                  have H := Lib.hid H
                  obtain ⟨-, y0, yf⟩ := two_cells HA3.out
                  obtain ⟨-, z0, -⟩ := two_cells HP3.out.hs
                  obtain ⟨v0, v1, -⟩ := two_cells HP3.out.hx
                  rw [hsa] at z0
                  clear hW3 hf hbt hbl hok hsa yf
                  go_still_tail 11, (by kernel_rfl)
                  change wpList _ _ _ _ _ W3.drew
                  go_wp2_with fail
                  refine H.out.mono ?_
                  rintro _ w4 ⟨rfl, hb4⟩
                  obtain ⟨t', d', hP4, hn4, hC4⟩ := (HP3.out.below (Below.refl W3.heap.size W3).drew).step1 hb4
                  have hA4 := (hC4.block ab HP3.out.lt HP3.out.n1).trans HA3.out
                  clear y0 z0 v0 v1 l0 l1 l2 l3
                  obtain ⟨-, y0, yf⟩ := two_cells hA4
                  have yf0 := yf 1
                  have HN := Lib.hid (show RelT3 w (xb + 1) xb (w.heap.size + 1) ab x0 x1 s0 s1 lt (.int .i64 ((j + 1 : Nat) : Int)) (w4.setCell ⟨ab, 1, none⟩ (.int .i64 ((k1 + 1 : Nat) : Int))) from
                    ⟨j + 1, k0, k1 + 1, t0, t', d0, d', by omega, rfl, by omega, by omega, two_set1 hA4 _, hP4.tick _ _, by omega, by omega⟩)
                  rw [show ((k1 + 1 : Nat) : Int) = (k1 : Int) + 1 by omega] at HN
                  clear hP4 hC4 hA4 yf hb4
                  go_wp2_with fail
                  go_roundw
                  case rel => exact HN.out
                  case measure => simp [intOf]; omega
                · have hki : (s1.n : Int) ≤ (k1 : Int) := by omega
                  obtain ⟨-, y0, yf⟩ := two_cells HA.out
                  obtain ⟨-, z0, -⟩ := two_cells HP.out.hs
                  clear yf
                  go_wp2_with fail
                  go_quiet (fail)
                  have hW3 : Below wr.heap.size wr (wr.drewN nq) := below_drewN (Below.refl _ _) nq
                  have HN := Lib.hid (show RelT3 w (xb + 1) xb (w.heap.size + 1) ab x0 x1 s0 s1 lt (.int .i64 ((j + 1 : Nat) : Int)) (wr.drewN nq) from
                    ⟨j + 1, k0, k1, t0, t1, d0, d1, by omega, rfl, by omega, by omega, (hW3.block _ HP.out.lt).trans HA.out, HP.out.below hW3, by omega, by omega⟩)
                  clear hW3
                  go_wp2_with fail
                  go_roundw
                  case rel => exact HN.out
                  case measure => simp [intOf]; omega
            · obtain ⟨q0, q1, -⟩ := two_cells HP.out.hx
              obtain ⟨e0, e1, -, -⟩ := HP.out.i0.cells
              obtain ⟨oar, car, hV, -, -⟩ := HP.out.i0.atV HP.out.hB
              have hVl := hV.2.2.2
              have HC := copyBytes_any oar car t0.bs (by omega) wr hV.2.1.bts
              obtain ⟨⟨TV, hV1⟩, -⟩ := hV
              obtain ⟨-, ev1, -, -⟩ := cells3 hV1
              have HC := Lib.hid HC
              obtain ⟨bs, hbs⟩ : ∃ bs, t0.bs = bs := ⟨_, rfl⟩
              rw [hbs] at HC ev1
              have hbl : bs.length ≤ 16777216 := by rw [← hbs]; omega
              clear hV1 hVl hbs q1 e0
              go_wp2_with fail
              refine HC.out.mono ?_
              rintro _ w1 ⟨ob, cb, rfl, hOb, hnb, hB1⟩
              have HO := Lib.hid hOb
              have HB1 := Lib.hid hB1
              have HN1 := Lib.hid (newReader_any ob cb bs w1 hOb.bts (fun e => (hOb.none_cap e).1) (by omega))
              clear hOb hnb hB1 q0 e1 ev1
              go_wp2_with fail
              refine HN1.out.mono ?_
              rintro _ w2 ⟨p, ar, cr, rfl, hR, hp, har, hB2⟩
              have HQ := Lib.hid (qnew_any ob cb bs w2 (HO.out.below hB2).bts (by omega))
              have HR := Lib.hid hR
              have Hp := Lib.hid hp
              have Har := Lib.hid har
              have HB2 := Lib.hid hB2
              clear hR hp har hB2
              go_wp2_with fail
              refine HQ.out.mono ?_
              rintro _ w3 ⟨q, oq, rfl, hQ, hq, hoq, hB3⟩
              have hF := look_new HR.out Hp.out Har.out HB2.out hQ hq hoq hB3 w1.heap.size (Nat.le_refl _) True
              have hBF : Below w1.heap.size w1 (w3.alloc (.cells #[.pointer (some ⟨p, 0, none⟩), .pointer (some ⟨q, 0, none⟩), .slice none 0 0] 45)) := (HB2.out.trans (hB3.mono HB2.out.size)).alloc (HB2.out.trans (hB3.mono HB2.out.size)).size _
              have HF := Lib.hid hF
              have HBF := Lib.hid hBF
              clear hQ hq hoq hB3 hF hBF HR Hp Har HB2
              go_wp2_with fail
              generalize w3.alloc (.cells #[.pointer (some ⟨p, 0, none⟩), .pointer (some ⟨q, 0, none⟩), .slice none 0 0] 45) = W4 at HF HBF ⊢
              generalize w3.heap.size = f at HF ⊢
              obtain ⟨lf, hlf⟩ : ∃ lf : Duo, (⟨p, q, blk ar, blk oq, none, 0, []⟩ : Duo) = lf := ⟨_, rfl⟩
              have Hlf := Lib.hid (show lf.es = [] by rw [← hlf])
              rw [hlf] at HF
              clear hlf
              have HN2 := Lib.hid (newReader_any ob cb bs W4 (HO.out.below HBF.out).bts (fun e => (HO.out.none_cap e).1) (by omega))
              refine HN2.out.mono ?_
              rintro _ w5 ⟨p', ar', cr', rfl, hR, hp, har, hB2⟩
              have HQ2 := Lib.hid (qnew_any ob cb bs w5 ((HO.out.below HBF.out).below hB2).bts (by omega))
              have HR := Lib.hid hR
              have Hp := Lib.hid hp
              have Har := Lib.hid har
              have HB2 := Lib.hid hB2
              clear hR hp har hB2
              go_wp2_with fail
              refine HQ2.out.mono ?_
              rintro _ w6 ⟨q', oq', rfl, hQ, hq, hoq, hB3⟩
              have hG := look_new HR.out Hp.out Har.out HB2.out hQ hq hoq hB3 W4.heap.size (Nat.le_refl _) True
              have hBG : Below W4.heap.size W4 (w6.alloc (.cells #[.pointer (some ⟨p', 0, none⟩), .pointer (some ⟨q', 0, none⟩), .slice none 0 0] 45)) := (HB2.out.trans (hB3.mono HB2.out.size)).alloc (HB2.out.trans (hB3.mono HB2.out.size)).size _
              have HG := Lib.hid hG
              have HBG := Lib.hid hBG
              clear hQ hq hoq hB3 hG hBG HR Hp Har HB2
              have hP7 : FourAt w (xb + 1) xb x0 x1 f w6.heap.size (w6.alloc (.cells #[.pointer (some ⟨p', 0, none⟩), .pointer (some ⟨q', 0, none⟩), .slice none 0 0] 45)) t0 t1 d0 d1 ⟨bs, 0⟩ ⟨bs, 0⟩ lf ⟨p', q', blk ar', blk oq', none, 0, []⟩ := by
                have hb1 : Below wr.heap.size wr W4 := HB1.out.trans (HBF.out.mono HB1.out.size)
                have hb2 := hb1.trans (HBG.out.mono hb1.size)
                have hz4 := HBF.out.size
                have hz1 := HB1.out.size
                have hw := HP.out.hB
                have p7 := HP.out.below hb2
                have hf4 := HF.out
                have hg7 := HG.out
                exact ⟨p7.i0, p7.i1, (hf4.below (PR.stable _) (PQ.stable _) HBG.out).weak (by omega), hg7.weak (by omega), p7.dj,
                  fun b h0 h1 => by have := (HP.out.i0.lt h0).2; have := (hf4.lt h1).1; omega, fun b h0 h1 => by have := (HP.out.i0.lt h0).2; have := (hg7.lt h1).1; omega,
                  fun b h0 h1 => by have := (HP.out.i1.lt h0).2; have := (hf4.lt h1).1; omega, fun b h0 h1 => by have := (HP.out.i1.lt h0).2; have := (hg7.lt h1).1; omega,
                  fun b h0 h1 => by have := (hf4.lt h0).2; have := (hg7.lt h1).1; omega, p7.bel, p7.hx, p7.xB, p7.hB, p7.wB⟩
              have HP7 := Lib.hid hP7
              have hcf := hP7.jf.cells.1
              have Hle := Lib.hid (show lf.es = [] from Hlf.out)
              clear hP7
              go_wp2_with fail
              clear hcf
              generalize w6.alloc (.cells #[.pointer (some ⟨p', 0, none⟩), .pointer (some ⟨q', 0, none⟩), .slice none 0 0] 45) = W7 at HP7 ⊢
              generalize w6.heap.size = g at HP7 ⊢
              have Hbnd := Lib.hid (show d0.es.length ≤ 300 ∧ d1.es.length ≤ 300 from ⟨by omega, by omega⟩)
              go_loopw [17] (fun i wr2 => RelT4 w (xb + 1) xb x0 x1 f g lt i wr2) (fun i _ => lt - (intOf i).toNat)
              case atStart => exact ⟨0, t0, t1, d0, d1, _, _, _, _, Nat.zero_le _, rfl, HP7.out, Hbnd.out.1, Hbnd.out.2, by rw [Hle.out]; exact Nat.le_refl _, Nat.le_refl _, hbl, hbl⟩
              case round =>
                clear HP7 Hle Hbnd hn0' hn1' hk0 hk1 hbl
                obtain ⟨j, t0, t1, d0, d1, r1, r2, l1, l2, hj, rfl, hP, hn0, hn1, hl1, hl2, hr1, hr2⟩ := hrel
                have HP := Lib.hid hP
                clear hP
                obtain ⟨B, hBx⟩ : ∃ B, xb + 1 = B := ⟨_, rfl⟩
                rw [hBx] at HP
                have HBx := Lib.hid hBx
                clear hBx
                by_cases hjl : j < lt
                · obtain ⟨tb, tof, rfl, htb, tu, hu2⟩ : ∃ b off, at' = some ⟨b, off, none⟩ ∧ b < wr.heap.size ∧ ∃ t : Bool, wr.cell? ⟨b, off + j, none⟩ = some (.bool t) := by
                    rcases Ht.out.below HP.out.bel with h | ⟨b, off, h1, h2, h3⟩
                    · omega
                    · exact ⟨b, off, h1, h2, h3 j hjl⟩
                  cases tu with
                  | false =>
                    by_cases hpar : j % 2 = 0
                    · have hpar' : j % 2 = 0 := hpar
                      have H := Lib.hid (read_bare 2 0 B f True r1 (by omega) l1 wr HP.out.jf HP.out.hB (by omega))
                      have hmod : (j : Int) % 2 = 0 := by omega
                      clear hpar hpar'
                      go_wp2_with fail
                      refine H.out.mono ?_
                      rintro _ w6 ⟨rfl, hb6⟩
                      rw [show told1 2 = 0 from rfl] at hb6
                      obtain ⟨r', l', hP6, hn6, hm6⟩ := HP.out.stepf hb6
                      have HP6 := Lib.hid hP6
                      have H2 := Lib.hid (state_any B f True r' (by omega) l' w6 HP6.out.jf HP6.out.hB (by omega))
                      clear hb6 hP6
                      go_wp2_with fail
                      refine H2.out.mono ?_
                      rintro _ w7 ⟨rfl, hb7⟩
                      obtain ⟨r'', l'', hP7, hn7, hm7⟩ := HP6.out.stepf hb7
                      have HN := Lib.hid (show RelT4 w (xb + 1) xb x0 x1 f g lt (.int .i64 ((j + 1 : Nat) : Int)) w7 from ⟨j + 1, t0, t1, d0, d1, r'', r2, l'', l2, by omega, rfl, by rw [HBx.out]; exact hP7, hn0, hn1, by omega, hl2, by omega, hr2⟩)
                      clear hb7 hP7 hmod
                      go_wp2_with fail
                      go_roundw
                      case rel => exact HN.out
                      case measure => simp [intOf]; omega
                    · have hpar' : j % 2 = 1 := by omega
                      have H := Lib.hid (read_bare 1 0 B f True r1 (by omega) l1 wr HP.out.jf HP.out.hB (by omega))
                      have hmod : (j : Int) % 2 = 1 := by omega
                      clear hpar hpar'
                      go_wp2_with fail
                      refine H.out.mono ?_
                      rintro _ w6 ⟨rfl, hb6⟩
                      rw [show told1 1 = 0 from rfl] at hb6
                      obtain ⟨r', l', hP6, hn6, hm6⟩ := HP.out.stepf hb6
                      have HP6 := Lib.hid hP6
                      have H2 := Lib.hid (state_any B f True r' (by omega) l' w6 HP6.out.jf HP6.out.hB (by omega))
                      clear hb6 hP6
                      go_wp2_with fail
                      refine H2.out.mono ?_
                      rintro _ w7 ⟨rfl, hb7⟩
                      obtain ⟨r'', l'', hP7, hn7, hm7⟩ := HP6.out.stepf hb7
                      have HN := Lib.hid (show RelT4 w (xb + 1) xb x0 x1 f g lt (.int .i64 ((j + 1 : Nat) : Int)) w7 from ⟨j + 1, t0, t1, d0, d1, r'', r2, l'', l2, by omega, rfl, by rw [HBx.out]; exact hP7, hn0, hn1, by omega, hl2, by omega, hr2⟩)
                      clear hb7 hP7 hmod
                      go_wp2_with fail
                      go_roundw
                      case rel => exact HN.out
                      case measure => simp [intOf]; omega
                  | true =>
                    by_cases hpar : j % 2 = 0
                    · have hpar' : j % 2 = 0 := hpar
                      have H := Lib.hid (read_bare 2 0 B g True r2 (by omega) l2 wr HP.out.jg HP.out.hB (by omega))
                      have hmod : (j : Int) % 2 = 0 := by omega
                      clear hpar hpar'
                      go_wp2_with fail
                      refine H.out.mono ?_
                      rintro _ w6 ⟨rfl, hb6⟩
                      rw [show told1 2 = 0 from rfl] at hb6
                      obtain ⟨r', l', hP6, hn6, hm6⟩ := HP.out.stepg hb6
                      have HP6 := Lib.hid hP6
                      have H2 := Lib.hid (state_any B g True r' (by omega) l' w6 HP6.out.jg HP6.out.hB (by omega))
                      clear hb6 hP6
                      go_wp2_with fail
                      refine H2.out.mono ?_
                      rintro _ w7 ⟨rfl, hb7⟩
                      obtain ⟨r'', l'', hP7, hn7, hm7⟩ := HP6.out.stepg hb7
                      have HN := Lib.hid (show RelT4 w (xb + 1) xb x0 x1 f g lt (.int .i64 ((j + 1 : Nat) : Int)) w7 from ⟨j + 1, t0, t1, d0, d1, r1, r'', l1, l'', by omega, rfl, by rw [HBx.out]; exact hP7, hn0, hn1, hl1, by omega, hr1, by omega⟩)
                      clear hb7 hP7 hmod
                      go_wp2_with fail
                      go_roundw
                      case rel => exact HN.out
                      case measure => simp [intOf]; omega
                    · have hpar' : j % 2 = 1 := by omega
                      have H := Lib.hid (read_bare 1 0 B g True r2 (by omega) l2 wr HP.out.jg HP.out.hB (by omega))
                      have hmod : (j : Int) % 2 = 1 := by omega
                      clear hpar hpar'
                      go_wp2_with fail
                      refine H.out.mono ?_
                      rintro _ w6 ⟨rfl, hb6⟩
                      rw [show told1 1 = 0 from rfl] at hb6
                      obtain ⟨r', l', hP6, hn6, hm6⟩ := HP.out.stepg hb6
                      have HP6 := Lib.hid hP6
                      have H2 := Lib.hid (state_any B g True r' (by omega) l' w6 HP6.out.jg HP6.out.hB (by omega))
                      clear hb6 hP6
                      go_wp2_with fail
                      refine H2.out.mono ?_
                      rintro _ w7 ⟨rfl, hb7⟩
                      obtain ⟨r'', l'', hP7, hn7, hm7⟩ := HP6.out.stepg hb7
                      have HN := Lib.hid (show RelT4 w (xb + 1) xb x0 x1 f g lt (.int .i64 ((j + 1 : Nat) : Int)) w7 from ⟨j + 1, t0, t1, d0, d1, r1, r'', l1, l'', by omega, rfl, by rw [HBx.out]; exact hP7, hn0, hn1, hl1, by omega, hr1, by omega⟩)
                      clear hb7 hP7 hmod
                      go_wp2_with fail
                      go_roundw
                      case rel => exact HN.out
                      case measure => simp [intOf]; omega
                · have hl0 := fun b (h : Own d0 x0 b) => HP.out.i0.lt h
                  have H0 := Lib.hid (wend_any B x0 t0 d0 wr HP.out.i0 HP.out.hB (by omega))
                  obtain ⟨q0, q1, -⟩ := two_cells HP.out.hx
                  go_wp2_with fail
                  refine H0.out.mono ?_
                  rintro _ w6 ⟨rfl, hC6⟩
                  have hx6 := (hC6.block xb (Nat.lt_of_lt_of_le HP.out.xB HP.out.hB) fun e => by have := (HP.out.i0.lt e).1; have := HP.out.xB; omega).trans HP.out.hx
                  have hI1 := HP.out.i1.chg (PW.stable _) (PW.stable _) hC6 fun b h1 h0 => HP.out.d01 b h0 h1
                  have hJf := HP.out.jf.chg (PR.stable _) (PQ.stable _) hC6 fun b h1 h0 => HP.out.d0f b h0 h1
                  have hJg := HP.out.jg.chg (PR.stable _) (PQ.stable _) hC6 fun b h1 h0 => HP.out.d0g b h0 h1
                  have hz6 := Nat.le_trans HP.out.hB hC6.size
                  have HB6 := Lib.hid (HP.out.bel.trans ((hC6.below HP.out.hB fun b h => (HP.out.i0.lt h).1).mono HP.out.wB))
                  have H1 := Lib.hid (wend_any B x1 t1 d1 w6 hI1 hz6 (by omega))
                  have HI1 := Lib.hid hI1
                  have HJf := Lib.hid hJf
                  have HJg := Lib.hid hJg
                  clear q0 q1 hl0 hC6 hI1 hJf hJg
                  obtain ⟨q0, q1, -⟩ := two_cells hx6
                  clear hx6
                  go_wp2_with fail
                  refine H1.out.mono ?_
                  rintro _ w7 ⟨rfl, hC7⟩
                  have hJf := HJf.out.chg (PR.stable _) (PQ.stable _) hC7 fun b h1 h0 => HP.out.d1f b h0 h1
                  have hJg := HJg.out.chg (PR.stable _) (PQ.stable _) hC7 fun b h1 h0 => HP.out.d1g b h0 h1
                  have hz7 := Nat.le_trans hz6 hC7.size
                  have HB7 := Lib.hid (HB6.out.trans ((hC7.below hz6 fun b h => (HP.out.i1.lt h).1).mono HP.out.wB))
                  have H2 := Lib.hid (state_any B f True r1 (by omega) l1 w7 hJf hz7 (by omega))
                  have HJf7 := Lib.hid hJf
                  have HJg7 := Lib.hid hJg
                  clear q0 q1 hC7 hJf hJg
                  go_wp2_with fail
                  refine H2.out.mono ?_
                  rintro _ w8 ⟨rfl, r8, l8, hI8, hS8, -, -⟩
                  have hJg := HJg7.out.chg (PR.stable _) (PQ.stable _) hS8.1 fun b h1 h0 => HP.out.dfg b h0 h1
                  have hz8 := Nat.le_trans hz7 hS8.1.size
                  have HB8 := Lib.hid (HB7.out.trans ((hS8.1.below hz7 fun b h => (HP.out.jf.lt h).1).mono HP.out.wB))
                  have H3 := Lib.hid (state_any B g True r2 (by omega) l2 w8 hJg hz8 (by omega))
                  clear hI8 hS8 hJg
                  go_wp2_with fail
                  refine H3.out.mono ?_
                  rintro _ w9 ⟨rfl, r9, l9, hI9, hS9, -, -⟩
                  have HB9 := Lib.hid (HB8.out.trans ((hS9.1.below hz8 fun b h => (HP.out.jg.lt h).1).mono HP.out.wB))
                  clear hI9 hS9
                  go_wp2_with fail
                  go_ret
                  exact ⟨rfl, HB9.out⟩
end Go.Proofs.Ytofialinjbjcmaa
