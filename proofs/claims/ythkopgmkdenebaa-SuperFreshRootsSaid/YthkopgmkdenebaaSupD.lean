/- The walk of the document's Check of superblocks. -/
import Derived.Test.YthkopgmkdenebaaSupC
namespace Go.Proofs.Ythkopgmkdenebaa
open Go.RowKit
set_option linter.unusedVariables false
set_option maxRecDepth 100000

def RelD1 (W : World) (s : SP) (i : Value) (wr : World) : Prop := ∃ k : Nat, k ≤ s.roots.length ∧ i = .int .i64 k ∧ (∀ j, j < k → OrdAt s.next s.roots j) ∧ Below W.heap.size W wr

set_option maxHeartbeats 2000000 in
theorem dCheck_any (s : SP) (a : Option Addr) (cap : Nat) (w : World) (B : Nat) (hB : B ≤ w.heap.size) (hs : SpAt B w s a cap) :
    Calls Try.prog 35 #[spv s a cap] w (Checked s w) := by
  have Hs := Lib.hid hs
  have HP := Lib.hid (dPlan_any s.cf)
  obtain ⟨gen, ⟨bl, cl, re⟩, nx, rs⟩ := s
  unfold spv
  simp only at HP ⊢
  by_cases hm : MayC ⟨bl, cl, re⟩
  · rw [planned, if_pos hm] at HP
    unfold planV at HP
    generalize hPg : CF.pages ⟨bl, cl, re⟩ = P at HP
    obtain ⟨bn, hbn⟩ : ∃ b, bankN P = b := ⟨_, rfl⟩
    have hPl : P ≤ 65536 := by
      have := pagesN_le bl.toNat
      have := hm.1
      rw [← hPg]; unfold CF.pages; simp only at *; omega
    rw [hbn] at HP
    have hlen := hs.len
    simp only at hlen
    obtain ⟨n, hnl⟩ : ∃ n, rs.length = n := ⟨_, rfl⟩
    have Hnl := Lib.hid hnl
    rw [hnl] at hlen ⊢
    have HK : ∀ w1, Below (w.alloc (sBox gen bl cl re nx a n cap)).heap.size (w.alloc (sBox gen bl cl re nx a n cap)) w1 → ∀ o, SBox (w1.alloc o) w.heap.size gen bl cl re nx a n cap := fun w1 hb o =>
      SBox.kept (w := w.alloc (sBox gen bl cl re nx a n cap)) (heap_alloc_new w _) (hb.alloc hb.size o) (by simp)
    have HK := Lib.hid HK
    unfold sBox at HK
    have hpb : ∀ w1 : World, Below (w.alloc (sBox gen bl cl re nx a n cap)).heap.size (w.alloc (sBox gen bl cl re nx a n cap)) w1 → Below w.heap.size w (w1.alloc (.cells #[.int .i64 P, .int .i64 bn, .int .i64 (2 + 2 * (bn : Int))] 26)) := fun w1 hb1 =>
      ((one_below w _).trans (hb1.mono (by simp))).alloc (((one_below w _).trans (hb1.mono (by simp))).size) _
    have Hpb := Lib.hid hpb
    unfold sBox at Hpb
    clear hpb
    by_cases hn : NumOk ⟨gen, ⟨bl, cl, re⟩, nx, rs⟩
    · have hn2 := hn
      unfold NumOk at hn
      simp only at hn
      rw [hnl] at hn
      obtain ⟨⟨hg1, hg2⟩, ⟨hx1, hx2⟩, hnc⟩ := hn
      have hclen : n ≤ 16 := by have := hm.2.1.2; simp only at this; omega
      have Hm := Lib.hid hm
      have Hn2 := Lib.hid hn2
      have Hpg := Lib.hid hPg
      clear hm hs hPg hbn hnl hn2
      go_enter Try.func35, Try.ntmps35
      go_wp2_with fail
      refine (HP.out _).mono ?_
      rintro _ w1 ⟨rfl, hb1⟩
      obtain ⟨z0, z1, z2, z3, z4, z5⟩ := (HK.out w1 hb1 (.cells #[.int .i64 P, .int .i64 bn, .int .i64 (2 + 2 * (bn : Int))] 26)).cells
      have hp1 := heap_alloc_new w1 (.cells #[.int .i64 P, .int .i64 bn, .int .i64 (2 + 2 * (bn : Int))] 26)
      have hB1 := Hpb.out w1 hb1
      have hS1 := HK.out w1 hb1 (.cells #[.int .i64 P, .int .i64 bn, .int .i64 (2 + 2 * (bn : Int))] 26)
      have hz1 : w.heap.size < w1.heap.size := Nat.lt_of_lt_of_le (by simp) hb1.size
      have hz2 : w1.heap.size < (w1.alloc (.cells #[.int .i64 P, .int .i64 bn, .int .i64 (2 + 2 * (bn : Int))] 26)).heap.size := by simp
      have Hp1 := Lib.hid hp1
      have HB1 := Lib.hid hB1
      have HS1 := Lib.hid hS1
      clear hp1 hB1 hS1 hb1
      go_wp2_with fail
      all_goals try (exfalso; omega)
      all_goals
        clear z0 z1 z2 z3 z4 z5
        generalize w1.alloc (.cells #[.int .i64 P, .int .i64 bn, .int .i64 (2 + 2 * (bn : Int))] 26) = W2 at *
        go_loopw [5] (fun i wr => RelD1 W2 ⟨gen, ⟨bl, cl, re⟩, nx, rs⟩ i wr) (fun i _ => n - (intOf i).toNat)
        case atStart => exact ⟨0, Nat.zero_le _, rfl, fun j hj => by omega, Below.refl _ _⟩
        case round =>
          obtain ⟨k, hk, rfl, hO, hBw⟩ := hrel
          have hid := idAt_ok hk ⟨hx1, hx2⟩ hO
          simp only at hk hid hO ⊢
          rw [Hnl.out] at hk
          by_cases hlt : k < n
          · obtain ⟨x, hxk⟩ : ∃ x, rs[k]? = some x := ⟨_, List.getElem?_eq_getElem (by rw [Hnl.out]; exact hlt)⟩
            have hBr : Below B w wr := (HB1.out.trans (hBw.mono HB1.out.size)).mono hB
            have hat := Hs.out.rts.below hBr
            obtain ⟨b, off, rfl, hb, ⟨c0, c1, c2, c3⟩⟩ := hat.at hxk
            obtain ⟨y0, y1, y2, y3, y4, y5⟩ := (HS1.out.kept hBw (by omega)).cells
            have HO := Lib.hid hO
            have HBw := Lib.hid hBw
            have Hio := Lib.hid (ordAt_iff (nx := nx) hxk)
            have Hxo := Lib.hid (Hs.out.rok x (List.mem_of_getElem? hxk))
            have hszw : W2.heap.size ≤ wr.heap.size := hBw.size
            obtain ⟨id, ro, he, it⟩ := x
            simp only at c0 c1 c2 c3 Hio
            by_cases hk0 : k = 0
            · have hab : idAt rs k = 0 := by unfold idAt; rw [if_pos hk0]
              have d0 : decide ((0 : Int) < (k : Int)) = false := by simp [hk0]
              have d9 : decide (0 < k) = false := by simp [hk0]
              rw [hab] at Hio
              clear hO hBw hxk hBr hat hab hid hk0
              by_cases hd : 0 + 1 ≤ id ∧ id ≤ nx - 1 <;> by_cases g1 : id < 1 <;> by_cases g2 : nx ≤ id
              all_goals try (exfalso; omega)
              · skip
                first | have d1 : decide (id < 1) = true := decide_eq_true g1 | have d1 : decide (id < 1) = false := decide_eq_false g1
                first | have d2 : decide (nx ≤ id) = true := decide_eq_true g2 | have d2 : decide (nx ≤ id) = false := decide_eq_false g2
                go_wp2_with fail
                go_quiet (fail)
                go_wp2_with fail
                go_roundw
                case rel =>
                  refine ⟨k + 1, by simp only; rw [Hnl.out]; omega, by go_num, fun i hi => ?_, below_drewN HBw.out _⟩
                  rcases Nat.lt_succ_iff_lt_or_eq.1 hi with h | rfl
                  · exact HO.out i h
                  · exact Hio.out.2 hd
                case measure => simp [intOf]; omega
              · skip
                first | have d1 : decide (id < 1) = true := decide_eq_true g1 | have d1 : decide (id < 1) = false := decide_eq_false g1
                first | have d2 : decide (nx ≤ id) = true := decide_eq_true g2 | have d2 : decide (nx ≤ id) = false := decide_eq_false g2
                have HC := Lib.hid (show scheck ⟨gen, ⟨bl, cl, re⟩, nx, rs⟩ = 11 by
                  rw [scheck, if_neg (by simpa using Hm.out), if_neg (by simpa using Hn2.out), if_pos]
                  intro h
                  exact hd (Hio.out.1 (h _ (by simp only; rw [Hnl.out]; exact hlt))))
                go_wp2_with fail
                go_quiet (fail)
                go_wp2_with fail
                go_ret
                exact ⟨by rw [HC.out]; rfl, HB1.out.trans ((below_drewN HBw.out _).mono HB1.out.size)⟩
              · skip
                first | have d1 : decide (id < 1) = true := decide_eq_true g1 | have d1 : decide (id < 1) = false := decide_eq_false g1
                first | have d2 : decide (nx ≤ id) = true := decide_eq_true g2 | have d2 : decide (nx ≤ id) = false := decide_eq_false g2
                have HC := Lib.hid (show scheck ⟨gen, ⟨bl, cl, re⟩, nx, rs⟩ = 11 by
                  rw [scheck, if_neg (by simpa using Hm.out), if_neg (by simpa using Hn2.out), if_pos]
                  intro h
                  exact hd (Hio.out.1 (h _ (by simp only; rw [Hnl.out]; exact hlt))))
                go_wp2_with fail
                go_quiet (fail)
                go_wp2_with fail
                go_ret
                exact ⟨by rw [HC.out]; rfl, HB1.out.trans ((below_drewN HBw.out _).mono HB1.out.size)⟩
            · obtain ⟨j, rfl⟩ : ∃ j, k = j + 1 := ⟨k - 1, by omega⟩
              clear hk0
              obtain ⟨px, hpx⟩ : ∃ px, rs[j]? = some px := ⟨_, List.getElem?_eq_getElem (by rw [Hnl.out]; omega)⟩
              obtain ⟨b2, off2, he2, -, ⟨q0, -, -, -⟩⟩ := hat.at hpx
              cases he2
              have hab : idAt rs (j + 1) = px.id := by unfold idAt; rw [if_neg (by omega), Nat.add_sub_cancel, List.getD_eq_getElem?_getD, hpx]; rfl
              rw [hab] at Hio hid
              generalize px.id = pid at q0 Hio hid
              clear hO hBw hxk hBr hat hab hpx
              by_cases hd : pid + 1 ≤ id ∧ id ≤ nx - 1 <;> by_cases g1 : id < 1 <;> by_cases g2 : nx ≤ id <;> by_cases g3 : id ≤ pid
              all_goals try (exfalso; omega)
              · skip
                first | have d1 : decide (id < 1) = true := decide_eq_true g1 | have d1 : decide (id < 1) = false := decide_eq_false g1
                first | have d2 : decide (nx ≤ id) = true := decide_eq_true g2 | have d2 : decide (nx ≤ id) = false := decide_eq_false g2
                first | have d3 : decide (id ≤ pid) = true := decide_eq_true g3 | have d3 : decide (id ≤ pid) = false := decide_eq_false g3
                go_wp2_with fail
                go_quiet (fail)
                go_wp2_with fail
                go_roundw
                case rel =>
                  refine ⟨j + 2, by simp only; rw [Hnl.out]; omega, by go_num, fun i hi => ?_, below_drewN HBw.out _⟩
                  rcases Nat.lt_succ_iff_lt_or_eq.1 hi with h | rfl
                  · exact HO.out i h
                  · exact Hio.out.2 hd
                case measure => simp [intOf]; omega
              · skip
                first | have d1 : decide (id < 1) = true := decide_eq_true g1 | have d1 : decide (id < 1) = false := decide_eq_false g1
                first | have d2 : decide (nx ≤ id) = true := decide_eq_true g2 | have d2 : decide (nx ≤ id) = false := decide_eq_false g2
                first | have d3 : decide (id ≤ pid) = true := decide_eq_true g3 | have d3 : decide (id ≤ pid) = false := decide_eq_false g3
                have HC := Lib.hid (show scheck ⟨gen, ⟨bl, cl, re⟩, nx, rs⟩ = 11 by
                  rw [scheck, if_neg (by simpa using Hm.out), if_neg (by simpa using Hn2.out), if_pos]
                  intro h
                  exact hd (Hio.out.1 (h _ (by simp only; rw [Hnl.out]; exact hlt))))
                go_wp2_with fail
                go_quiet (fail)
                go_wp2_with fail
                go_ret
                exact ⟨by rw [HC.out]; rfl, HB1.out.trans ((below_drewN HBw.out _).mono HB1.out.size)⟩
              · skip
                first | have d1 : decide (id < 1) = true := decide_eq_true g1 | have d1 : decide (id < 1) = false := decide_eq_false g1
                first | have d2 : decide (nx ≤ id) = true := decide_eq_true g2 | have d2 : decide (nx ≤ id) = false := decide_eq_false g2
                first | have d3 : decide (id ≤ pid) = true := decide_eq_true g3 | have d3 : decide (id ≤ pid) = false := decide_eq_false g3
                have HC := Lib.hid (show scheck ⟨gen, ⟨bl, cl, re⟩, nx, rs⟩ = 11 by
                  rw [scheck, if_neg (by simpa using Hm.out), if_neg (by simpa using Hn2.out), if_pos]
                  intro h
                  exact hd (Hio.out.1 (h _ (by simp only; rw [Hnl.out]; exact hlt))))
                go_wp2_with fail
                go_quiet (fail)
                go_wp2_with fail
                go_ret
                exact ⟨by rw [HC.out]; rfl, HB1.out.trans ((below_drewN HBw.out _).mono HB1.out.size)⟩
              · skip
                first | have d1 : decide (id < 1) = true := decide_eq_true g1 | have d1 : decide (id < 1) = false := decide_eq_false g1
                first | have d2 : decide (nx ≤ id) = true := decide_eq_true g2 | have d2 : decide (nx ≤ id) = false := decide_eq_false g2
                first | have d3 : decide (id ≤ pid) = true := decide_eq_true g3 | have d3 : decide (id ≤ pid) = false := decide_eq_false g3
                have HC := Lib.hid (show scheck ⟨gen, ⟨bl, cl, re⟩, nx, rs⟩ = 11 by
                  rw [scheck, if_neg (by simpa using Hm.out), if_neg (by simpa using Hn2.out), if_pos]
                  intro h
                  exact hd (Hio.out.1 (h _ (by simp only; rw [Hnl.out]; exact hlt))))
                go_wp2_with fail
                go_quiet (fail)
                go_wp2_with fail
                go_ret
                exact ⟨by rw [HC.out]; rfl, HB1.out.trans ((below_drewN HBw.out _).mono HB1.out.size)⟩
              · skip
                first | have d1 : decide (id < 1) = true := decide_eq_true g1 | have d1 : decide (id < 1) = false := decide_eq_false g1
                first | have d2 : decide (nx ≤ id) = true := decide_eq_true g2 | have d2 : decide (nx ≤ id) = false := decide_eq_false g2
                first | have d3 : decide (id ≤ pid) = true := decide_eq_true g3 | have d3 : decide (id ≤ pid) = false := decide_eq_false g3
                have HC := Lib.hid (show scheck ⟨gen, ⟨bl, cl, re⟩, nx, rs⟩ = 11 by
                  rw [scheck, if_neg (by simpa using Hm.out), if_neg (by simpa using Hn2.out), if_pos]
                  intro h
                  exact hd (Hio.out.1 (h _ (by simp only; rw [Hnl.out]; exact hlt))))
                go_wp2_with fail
                go_quiet (fail)
                go_wp2_with fail
                go_ret
                exact ⟨by rw [HC.out]; rfl, HB1.out.trans ((below_drewN HBw.out _).mono HB1.out.size)⟩
          · have hO2 : ∀ j, j < n → OrdAt nx rs j := fun j hj => hO j (by omega)
            have HO1 := Lib.hid hO2
            have HBw := Lib.hid hBw
            obtain ⟨y0, y1, y2, y3, y4, y5⟩ := (HS1.out.kept hBw (by omega)).cells
            clear hO hO2 hBw
            go_wp2_with fail
            go_loopw [6] (fun i wr => RelC2 W2 ⟨gen, ⟨bl, cl, re⟩, nx, rs⟩ i wr) (fun i _ => n - (intOf i).toNat)
            case atStart => exact ⟨0, Nat.zero_le _, rfl, fun j hj => by omega, HBw.out⟩
            case round =>
              clear y0 y1 y2 y3 y4 y5 HBw
              obtain ⟨k, hk, rfl, hO, hBw⟩ := hrel
              simp only at hk hO ⊢
              rw [Hnl.out] at hk
              obtain ⟨y0, y1, y2, y3, y4, y5⟩ := (HS1.out.kept hBw (by omega)).cells
              by_cases hlt : k < n
              · obtain ⟨x, hxk⟩ : ∃ x, rs[k]? = some x := ⟨_, List.getElem?_eq_getElem (by rw [Hnl.out]; exact hlt)⟩
                have hBr : Below B w wr := (HB1.out.trans (hBw.mono HB1.out.size)).mono hB
                obtain ⟨b, off, rfl, hb, ⟨c0, c1, c2, c3⟩⟩ := (Hs.out.rts.below hBr).at hxk
                obtain ⟨p0, p1, p2, -⟩ := cells3 (box_kept Hp1.out hBw hz2)
                have hxo := Hs.out.rok x (List.mem_of_getElem? hxk)
                have HCan := Lib.hid (treeCan_any P bn (2 + 2 * (bn : Int)) (by omega) x)
                have hxd : rs.getD k ⟨0, 0, 0, 0⟩ = x := by rw [List.getD_eq_getElem?_getD, hxk]; rfl
                have HO := Lib.hid hO
                have HBx := Lib.hid hBw
                have Hxd := Lib.hid hxd
                have hszw : W2.heap.size ≤ wr.heap.size := hBw.size
                obtain ⟨id, ro, he, it⟩ := x
                simp only [trv] at c0 c1 c2 c3 HCan
                clear hO hBw hxk hBr hxo hxd
                by_cases hd : CanT P ⟨id, ro, he, it⟩
                · have hdd : decide (CanT P ⟨id, ro, he, it⟩) = true := by simpa using hd
                  rw [hdd] at HCan
                  go_wp2_with fail
                  go_still_tail 7, (by kernel_rfl)
                  change wpList _ _ _ _ _ wr.drew
                  go_wp2_with fail
                  refine (HCan.out _).mono ?_
                  rintro _ w3 ⟨rfl, hb3⟩
                  go_wp2_with fail
                  go_roundw
                  case rel =>
                    refine ⟨k + 1, by simp only; rw [Hnl.out]; omega, by go_num, fun j hj => ?_, (below_drewN HBx.out 1).trans (hb3.mono HBx.out.size)⟩
                    rcases Nat.lt_succ_iff_lt_or_eq.1 hj with h | rfl
                    · exact HO.out j h
                    · rw [Hpg.out, Hxd.out]; exact hd
                  case measure => simp [intOf]; omega
                · have hdd : decide (CanT P ⟨id, ro, he, it⟩) = false := by simpa using hd
                  rw [hdd] at HCan
                  have HC := Lib.hid (show scheck ⟨gen, ⟨bl, cl, re⟩, nx, rs⟩ = 5 by
                    rw [scheck, if_neg (by simpa using Hm.out), if_neg (by simpa using Hn2.out), if_neg, if_pos]
                    · intro h
                      have := h k (by simp only; rw [Hnl.out]; exact hlt)
                      rw [Hpg.out, Hxd.out] at this
                      exact hd this
                    · intro h
                      exact h fun i hi => HO1.out i (by simp only at hi; rw [Hnl.out] at hi; exact hi))
                  go_wp2_with fail
                  go_still_tail 7, (by kernel_rfl)
                  change wpList _ _ _ _ _ wr.drew
                  go_wp2_with fail
                  refine (HCan.out _).mono ?_
                  rintro _ w3 ⟨rfl, hb3⟩
                  go_wp2_with fail
                  go_ret
                  exact ⟨by rw [HC.out]; rfl, HB1.out.trans (((below_drewN HBx.out 1).trans (hb3.mono HBx.out.size)).mono HB1.out.size)⟩
              · have HC := Lib.hid (show scheck ⟨gen, ⟨bl, cl, re⟩, nx, rs⟩ = 0 by
                  refine scheck_ok.2 ⟨Hm.out, Hn2.out, fun i hi => HO1.out i (by simp only at hi; rw [Hnl.out] at hi; exact hi), fun i hi => hO i (by simp only at hi; rw [Hnl.out] at hi; omega)⟩)
                have HBw := Lib.hid hBw
                clear hO hBw
                go_wp2_with fail
                go_ret
                exact ⟨by rw [HC.out]; rfl, HB1.out.trans (HBw.out.mono HB1.out.size)⟩
    · have HC := Lib.hid (show scheck ⟨gen, ⟨bl, cl, re⟩, nx, rs⟩ = 4 by rw [scheck, if_neg (by simpa using hm), if_pos hn])
      unfold NumOk at hn
      simp only at hn
      rw [hnl] at hn
      clear hm hs hPg hbn hnl
      go_enter Try.func35, Try.ntmps35
      go_wp2_with fail
      refine (HP.out _).mono ?_
      rintro _ w1 ⟨rfl, hb1⟩
      obtain ⟨z0, z1, z2, z3, z4, z5⟩ := (HK.out w1 hb1 (.cells #[.int .i64 P, .int .i64 bn, .int .i64 (2 + 2 * (bn : Int))] 26)).cells
      have Hb1 := Lib.hid hb1
      clear hb1
      go_wp2_with fail
      all_goals try (exfalso; omega)
      all_goals
        go_ret
        exact ⟨by rw [HC.out]; rfl, Hpb.out w1 Hb1.out⟩
  · rw [planned, if_neg hm] at HP
    have HC := Lib.hid (show scheck ⟨gen, ⟨bl, cl, re⟩, nx, rs⟩ = 1 by rw [scheck, if_pos hm])
    clear hm hs
    go_enter Try.func35, Try.ntmps35
    go_wp2_with fail
    refine (HP.out _).mono ?_
    rintro _ w1 ⟨rfl, hb1⟩
    unfold plan0
    go_wp2_with fail
    go_ret
    refine ⟨by rw [HC.out]; rfl, ?_⟩
    exact ((one_below w _).trans (hb1.mono (by simp))).alloc (((one_below w _).trans (hb1.mono (by simp))).size) _
end Go.Proofs.Ythkopgmkdenebaa
