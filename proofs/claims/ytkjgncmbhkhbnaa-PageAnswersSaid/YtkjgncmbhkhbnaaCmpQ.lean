/- The document's Compare once more: it only reads. -/
import Derived.Test.YtkjgncmbhkhbnaaCmp
namespace Go.Proofs.Ytkjgncmbhkhbnaa
open Go.RowKit
set_option linter.unusedVariables false

/-- nothing but draws -/
def QD (w w' : World) : Prop := ∃ m, w' = w.drewN m
theorem QD.refl (w : World) : QD w w := ⟨0, rfl⟩
theorem QD.drewN {w w' : World} (h : QD w w') (n : Nat) : QD w (w'.drewN n) := by
  obtain ⟨m, rfl⟩ := h
  exact ⟨_, World.drewN_drewN _ _ _⟩
theorem QD.below {w w' : World} (h : QD w w') : Below w.heap.size w w' := by
  obtain ⟨m, rfl⟩ := h
  exact below_drewN (Below.refl _ _) _
def RelCmpQ (xs ys : List UInt8) (w0 : World) (i : Value) (wr : World) : Prop := ∃ j : Nat, j ≤ xs.length ∧ j ≤ ys.length ∧ i = .int .i64 j ∧ xs.take j = ys.take j ∧ QD w0 wr

/-- what Compare answers -/
def CmpQ (xs ys : List UInt8) (w : World) (x : Ending) (w' : World) : Prop := x = .returned (.int .i64 (Lib.compareBytes xs ys)) ∧ QD w w'
theorem compareQ_any (xs ys : List UInt8) (a b : Option Addr) (c d : Nat) (hx : xs.length ≤ 4611686018427387904) (hy : ys.length ≤ 4611686018427387904) (w : World) (ha : Bts w a xs) (hb : Bts w b ys) :
    Calls Try.prog 45 #[.slice a xs.length c, .slice b ys.length d] w (CmpQ xs ys w) := by
  obtain ⟨n, en⟩ : ∃ n, xs.length = n := ⟨_, rfl⟩
  obtain ⟨m, em⟩ : ∃ m, ys.length = m := ⟨_, rfl⟩
  rw [en, em]
  have En := Lib.hid en
  have Em := Lib.hid em
  rw [en] at hx
  rw [em] at hy
  clear en em
  go_enter Try.func45, Try.ntmps45
  go_wp2_with fail
  go_loopw [5] (fun i wr => RelCmpQ xs ys w i wr) (fun i _ => n - (intOf i).toNat)
  case atStart => exact ⟨0, Nat.zero_le _, Nat.zero_le _, rfl, rfl, QD.refl _⟩
  case round =>
    obtain ⟨j, hj1, hj2, rfl, ht, hB⟩ := hrel
    rw [En.out] at hj1
    rw [Em.out] at hj2
    have Ht := Lib.hid ht
    have HB := Lib.hid hB
    have ha1 := ha.below hB.below
    have hb1 := hb.below hB.below
    clear ht hB ha hb
    by_cases h1 : j < n
    · by_cases h2 : j < m
      · obtain ⟨b1, o1, rfl, -, c1⟩ := ha1.at (k := j) (by rw [En.out]; exact h1)
        obtain ⟨b2, o2, rfl, -, c2⟩ := hb1.at (k := j) (by rw [Em.out]; exact h2)
        have hi1 : (j : Int) < (n : Int) := by omega
        have hi2 : (j : Int) < (m : Int) := by omega
        have HL := Lib.hid (fun h => cmp_lt Ht.out (by rw [En.out]; exact h1) (by rw [Em.out]; exact h2) h)
        have HG := Lib.hid (fun h => cmp_gt Ht.out (by rw [En.out]; exact h1) (by rw [Em.out]; exact h2) h)
        obtain ⟨x, ex⟩ : ∃ x, xs.getD j 0 = x := ⟨_, rfl⟩
        obtain ⟨y, ey⟩ : ∃ y, ys.getD j 0 = y := ⟨_, rfl⟩
        rw [ex] at c1 HL HG
        rw [ey] at c2 HL HG
        by_cases hxy : x = y
        · subst hxy
          have HN := Lib.hid (show xs.take (j + 1) = ys.take (j + 1) by rw [take_snoc (by rw [En.out]; exact h1), take_snoc (by rw [Em.out]; exact h2), Ht.out, ex, ey])
          clear ex ey HL HG
          go_wp2_with fail
          go_quiet (fail)
          go_wp2_with fail
          go_quiet (fail)
          go_wp2_with fail
          go_roundw
          case rel => exact ⟨j + 1, by rw [En.out]; omega, by rw [Em.out]; omega, by go_num, HN.out, QD.drewN HB.out _⟩
          case measure => simp [intOf]; omega
        · by_cases hl : x.toNat < y.toNat
          · have HR := Lib.hid (HL.out hl)
            have hl2 : (x.toNat : Int) < (y.toNat : Int) := by omega
            clear ex ey HL HG
            go_wp2_with fail
            go_quiet (fail)
            go_wp2_with fail
            go_ret
            exact ⟨ret_i64 HR.out.symm, QD.drewN HB.out _⟩
          · have hne2 : x.toNat ≠ y.toNat := fun e => hxy (UInt8.toNat_inj.1 e)
            have hl2 : (y.toNat : Int) < (x.toNat : Int) := by omega
            have hl3 : ¬ (x.toNat : Int) < (y.toNat : Int) := by omega
            have HR := Lib.hid (HG.out (by omega))
            clear ex ey HL HG
            go_wp2_with fail
            go_quiet (fail)
            go_wp2_with fail
            go_quiet (fail)
            go_wp2_with fail
            go_ret
            exact ⟨ret_i64 HR.out.symm, QD.drewN (QD.drewN HB.out _) _⟩
      · have HR := Lib.hid (cmp_long Ht.out (by rw [En.out]; exact h1) (by rw [Em.out]; omega))
        have hl2 : (m : Int) < (n : Int) := by omega
        have hl3 : ¬ (n : Int) < (m : Int) := by omega
        go_wp2_with fail
        all_goals
          go_ret
          exact ⟨ret_i64 HR.out.symm, HB.out⟩
    · by_cases h3 : n < m
      · have HR := Lib.hid (cmp_short Ht.out (by rw [En.out]; omega) (by rw [Em.out]; omega))
        have hl2 : (n : Int) < (m : Int) := by omega
        go_wp2_with fail
        all_goals
          go_ret
          exact ⟨ret_i64 HR.out.symm, HB.out⟩
      · have heq : xs = ys := by
          have h := Ht.out
          rwa [List.take_of_length_le (by rw [En.out]; omega), List.take_of_length_le (by rw [Em.out]; omega)] at h
        have HR := Lib.hid (show Lib.compareBytes xs ys = 0 by rw [heq]; exact cmp_self ys)
        go_wp2_with fail
        all_goals
          go_ret
          exact ⟨ret_i64 HR.out.symm, HB.out⟩
end Go.Proofs.Ytkjgncmbhkhbnaa
