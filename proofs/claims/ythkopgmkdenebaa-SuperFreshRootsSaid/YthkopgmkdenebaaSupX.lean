/- The walks of EqRoots, EqSuper. -/
import Derived.Test.YthkopgmkdenebaaSupQ
import Derived.Test.YthkopgmkdenebaaEq
import Derived.Test.YthkopgmkdenebaaSpare
import Derived.StillTailTactics
namespace Go.Proofs.Ythkopgmkdenebaa
open Go.RowKit
set_option linter.unusedVariables false
set_option maxRecDepth 100000

def RelQ (W : World) (xs ys : List RT) (i : Value) (wr : World) : Prop := ∃ k n : Nat, k ≤ xs.length ∧ i = .int .i64 k ∧ (∀ j, j < k → xs[j]? = ys[j]?) ∧ wr = W.drewN n

set_option maxHeartbeats 1000000 in
theorem eqRoots_any (xs ys : List RT) (a b : Option Addr) (ca cb B : Nat) (w : World) (hx : RtsAt B w a xs) (hy : RtsAt B w b ys) (hl : xs.length ≤ 4611686018427387904) (hm : ys.length ≤ 4611686018427387904) :
    Calls Try.prog 61 #[.slice a xs.length ca, .slice b ys.length cb] w fun e w' => e = .returned (.bool (decide (xs = ys))) ∧ Below w.heap.size w w' := by
  obtain ⟨n, hn⟩ : ∃ n, xs.length = n := ⟨_, rfl⟩
  obtain ⟨m, hmm⟩ : ∃ m, ys.length = m := ⟨_, rfl⟩
  have Hn := Lib.hid hn
  have Hm := Lib.hid hmm
  rw [hn] at hl ⊢
  rw [hmm] at hm ⊢
  by_cases hnm : n = m
  · subst hnm
    have Hx := Lib.hid hx
    have Hy := Lib.hid hy
    clear hn hmm hx hy
    go_enter Try.func61, Try.ntmps61
    go_wp2_with fail
    go_loopw [5] (fun i wr => RelQ w xs ys i wr) (fun i _ => n - (intOf i).toNat)
    case atStart => exact ⟨0, 0, Nat.zero_le _, rfl, fun j hj => by omega, (World.drewN_zero _).symm⟩
    case round =>
      obtain ⟨k, d, hk, rfl, hE, hw⟩ := hrel
      rw [Hn.out] at hk
      by_cases hlt : k < n
      · obtain ⟨x, hxk⟩ : ∃ x, xs[k]? = some x := ⟨_, List.getElem?_eq_getElem (by rw [Hn.out]; exact hlt)⟩
        obtain ⟨y, hyk⟩ : ∃ y, ys[k]? = some y := ⟨_, List.getElem?_eq_getElem (by rw [Hm.out]; exact hlt)⟩
        obtain ⟨bx, ox, rfl, -, ⟨c0, c1, c2, c3⟩⟩ := (Hx.out.below (w' := wr) (by rw [hw]; exact below_drewN (Below.refl _ _) _)).at hxk
        obtain ⟨by', oy, rfl, -, ⟨e0, e1, e2, e3⟩⟩ := (Hy.out.below (w' := wr) (by rw [hw]; exact below_drewN (Below.refl _ _) _)).at hyk
        have HE := Lib.hid hE
        have Hw := Lib.hid hw
        have Hxk := Lib.hid hxk
        have Hyk := Lib.hid hyk
        clear hE hw hxk hyk
        by_cases hq : x = y
        · subst hq
          go_wp2_with fail
          go_quiet (fail)
          go_wp2_with fail
          go_roundw
          case rel =>
            refine ⟨k + 1, d + nq, by rw [Hn.out]; omega, by go_num, fun j hj => ?_, by rw [Hw.out, World.drewN_drewN]⟩
            rcases Nat.lt_succ_iff_lt_or_eq.1 hj with h | rfl
            · exact HE.out j h
            · rw [Hxk.out, Hyk.out]
          case measure => simp [intOf]; omega
        · have hne : decide (xs = ys) = false := by
            rw [decide_eq_false_iff_not]; rintro rfl
            have := Hxk.out; rw [Hyk.out] at this; exact hq (Option.some.inj this).symm
          have HN := Lib.hid hne
          clear hne
          obtain ⟨id, ro, he, it⟩ := x
          obtain ⟨id', ro', he', it'⟩ := y
          simp only [RT.mk.injEq] at hq c0 c1 c2 c3 e0 e1 e2 e3
          go_wp2_with fail
          go_still_tail 8, (by kernel_rfl)
          change wpList _ _ _ _ _ wr.drew
          go_wp2_with fail
          all_goals try (exfalso; revert hq; simp_all; done)
          all_goals
            go_ret
            exact ⟨by rw [HN.out]; rfl, by rw [Hw.out]; exact below_drewN (below_drewN (Below.refl _ _) _) 1⟩
      · have hqe : xs = ys := by
          apply List.ext_getElem?
          intro j
          by_cases hj : j < k
          · exact hE j hj
          · rw [List.getElem?_eq_none (by rw [Hn.out]; omega), List.getElem?_eq_none (by rw [Hm.out]; omega)]
        have HN := Lib.hid (show decide (xs = ys) = true by simpa using hqe)
        have Hw := Lib.hid hw
        clear hqe hE hw
        go_wp2_with fail
        go_ret
        exact ⟨by rw [HN.out]; rfl, by rw [Hw.out]; exact below_drewN (Below.refl _ _) _⟩
  · have hne : decide (xs = ys) = false := by rw [decide_eq_false_iff_not]; rintro rfl; omega
    have hnm' : ((n : Int) != (m : Int)) = true := by rw [bne_iff_ne]; omega
    rw [hne]
    clear hn hmm hx hy
    go_enter Try.func61, Try.ntmps61
    go_wp2_with fail
    go_ret
    exact ⟨rfl, Below.refl _ _⟩

set_option maxHeartbeats 1000000 in
theorem eqSuper_any (s t : SP) (a b : Option Addr) (ca cb B : Nat) (w : World) (hB : B ≤ w.heap.size) (hs : SpAt B w s a ca) (ht : SpAt B w t b cb) :
    Calls Try.prog 26 #[spv s a ca, spv t b cb] w fun e w' => e = .returned (.bool (decide (s = t))) ∧ Below w.heap.size w w' := by
  have HE := Lib.hid fun w' (h : Below w.heap.size w w') => eqRoots_any s.roots t.roots a b ca cb B w' (hs.rts.below (h.mono hB)) (ht.rts.below (h.mono hB)) (by have := hs.len; omega) (by have := ht.len; omega)
  have HB := Lib.hid (two_below w)
  obtain ⟨gen, ⟨bl, cl, re⟩, nx, rs⟩ := s
  obtain ⟨gen', ⟨bl', cl', re'⟩, nx', rs'⟩ := t
  simp only [spv, SP.mk.injEq, CF.mk.injEq] at HE ⊢
  clear hs ht
  generalize rs.length = n at HE ⊢
  generalize rs'.length = m at HE ⊢
  by_cases hq : (gen = gen' ∧ (bl = bl' ∧ cl = cl' ∧ re = re') ∧ nx = nx')
  · obtain ⟨rfl, ⟨rfl, rfl, rfl⟩, rfl⟩ := hq
    rw [show decide (gen = gen ∧ (bl = bl ∧ cl = cl ∧ re = re) ∧ nx = nx ∧ rs = rs') = decide (rs = rs') by simp]
    generalize decide (rs = rs') = r at HE ⊢
    go_enter Try.func26, Try.ntmps26
    go_wp2_with fail
    refine (HE.out _ (HB.out _ _)).mono ?_
    rintro _ w2 ⟨rfl, hb2⟩
    have HB2 := Lib.hid ((HB.out _ _).trans (hb2.mono (HB.out _ _).size))
    clear hb2 HE HB
    go_wp2_with fail
    all_goals
      go_ret
      exact ⟨rfl, HB2.out⟩
  · have hne : decide (gen = gen' ∧ (bl = bl' ∧ cl = cl' ∧ re = re') ∧ nx = nx' ∧ rs = rs') = false := by
      rw [decide_eq_false_iff_not]; rintro ⟨h1, h2, h3, h4⟩; exact hq ⟨h1, h2, h3⟩
    rw [hne]
    clear HE hne
    go_enter Try.func26, Try.ntmps26
    go_wp2_with fail
    all_goals first
      | (go_ret; exact ⟨rfl, HB.out _ _⟩)
      | (exfalso; simp_all; done)
end Go.Proofs.Ythkopgmkdenebaa
