/- The document's Compare, EqBytes, Long. -/
import Derived.Test.YtkjgncmbhkhbnaaByt
import Derived.BigQuiet
import Derived.Deep.QuietTactic
namespace Go.Proofs.Ytkjgncmbhkhbnaa
open Go.RowKit
set_option linter.unusedVariables false

/-- what the round of Compare keeps -/
def RelCmp (xs ys : List UInt8) (w0 : World) (i : Value) (wr : World) : Prop := ∃ j : Nat, j ≤ xs.length ∧ j ≤ ys.length ∧ i = .int .i64 j ∧ xs.take j = ys.take j ∧ Below w0.heap.size w0 wr

/-- what Compare answers -/
def Compared (xs ys : List UInt8) (w : World) (x : Ending) (w' : World) : Prop := ∃ r : Int, x = .returned (.int .i64 r) ∧ (r = 0 ↔ xs = ys) ∧ Below w.heap.size w w'
theorem below_drewN {B : Nat} {a b : World} (h : Below B a b) (n : Nat) : Below B a (b.drewN n) := ⟨h.os, h.tape, h.output, h.size, h.block⟩

theorem compare_any (xs ys : List UInt8) (a b : Option Addr) (c d : Nat) (hx : xs.length ≤ 4611686018427387904) (hy : ys.length ≤ 4611686018427387904) (w : World) (ha : Bts w a xs) (hb : Bts w b ys) :
    Calls Try.prog 45 #[.slice a xs.length c, .slice b ys.length d] w (Compared xs ys w) := by
  obtain ⟨n, en⟩ : ∃ n, xs.length = n := ⟨_, rfl⟩
  obtain ⟨m, em⟩ : ∃ m, ys.length = m := ⟨_, rfl⟩
  rw [en, em]
  have En := Lib.hid en
  have Em := Lib.hid em
  rw [en] at hx
  rw [em] at hy
  clear en em
  go_enter Try.func45, Try.ntmps45
  go_wp2_with fail
  go_loopw [5] (fun i wr => RelCmp xs ys w i wr) (fun i _ => n - (intOf i).toNat)
  case atStart => exact ⟨0, Nat.zero_le _, Nat.zero_le _, rfl, rfl, Below.refl _ _⟩
  case round =>
    obtain ⟨j, hj1, hj2, rfl, ht, hB⟩ := hrel
    rw [En.out] at hj1
    rw [Em.out] at hj2
    have Ht := Lib.hid ht
    have HB := Lib.hid hB
    have ha1 := ha.below hB
    have hb1 := hb.below hB
    clear ht hB ha hb
    by_cases h1 : j < n
    · by_cases h2 : j < m
      · obtain ⟨b1, o1, rfl, -, c1⟩ := ha1.at (k := j) (by rw [En.out]; exact h1)
        obtain ⟨b2, o2, rfl, -, c2⟩ := hb1.at (k := j) (by rw [Em.out]; exact h2)
        have hi1 : (j : Int) < (n : Int) := by omega
        have hi2 : (j : Int) < (m : Int) := by omega
        obtain ⟨x, ex⟩ : ∃ x, xs.getD j 0 = x := ⟨_, rfl⟩
        obtain ⟨y, ey⟩ : ∃ y, ys.getD j 0 = y := ⟨_, rfl⟩
        rw [ex] at c1
        rw [ey] at c2
        by_cases hxy : x = y
        · subst hxy
          have HN := Lib.hid (show xs.take (j + 1) = ys.take (j + 1) by rw [take_snoc (by rw [En.out]; exact h1), take_snoc (by rw [Em.out]; exact h2), Ht.out, ex, ey])
          clear ex ey
          go_wp2_with fail
          go_quiet (fail)
          go_wp2_with fail
          go_quiet (fail)
          go_wp2_with fail
          go_roundw
          case rel => exact ⟨j + 1, by rw [En.out]; omega, by rw [Em.out]; omega, by go_num, HN.out, below_drewN HB.out _⟩
          case measure => simp [intOf]; omega
        · have hne : xs ≠ ys := fun e => hxy (by rw [← ex, ← ey, e])
          by_cases hl : x.toNat < y.toNat
          · have hl2 : (x.toNat : Int) < (y.toNat : Int) := by omega
            clear ex ey
            go_wp2_with fail
            go_quiet (fail)
            go_wp2_with fail
            go_ret
            exact ⟨-1, rfl, ⟨fun e => absurd e (by decide), fun e => absurd e hne⟩, below_drewN HB.out _⟩
          · have hne2 : x.toNat ≠ y.toNat := fun e => hxy (UInt8.toNat_inj.1 e)
            have hl2 : (y.toNat : Int) < (x.toNat : Int) := by omega
            have hl3 : ¬ (x.toNat : Int) < (y.toNat : Int) := by omega
            clear ex ey
            go_wp2_with fail
            go_quiet (fail)
            go_wp2_with fail
            go_quiet (fail)
            go_wp2_with fail
            go_ret
            exact ⟨1, rfl, ⟨fun e => absurd e (by decide), fun e => absurd e hne⟩, below_drewN (below_drewN HB.out _) _⟩
      · have hne : xs ≠ ys := fun e => by have := En.out; have := Em.out; rw [e] at *; omega
        have hl2 : (m : Int) < (n : Int) := by omega
        have hl3 : ¬ (n : Int) < (m : Int) := by omega
        go_wp2_with fail
        all_goals
          go_ret
          exact ⟨1, rfl, ⟨fun e => absurd e (by decide), fun e => absurd e hne⟩, HB.out⟩
    · by_cases h3 : n < m
      · have hne : xs ≠ ys := fun e => by have := En.out; have := Em.out; rw [e] at *; omega
        have hl2 : (n : Int) < (m : Int) := by omega
        go_wp2_with fail
        all_goals
          go_ret
          exact ⟨-1, rfl, ⟨fun e => absurd e (by decide), fun e => absurd e hne⟩, HB.out⟩
      · have heq : xs = ys := by
          have h := Ht.out
          rwa [List.take_of_length_le (by rw [En.out]; omega), List.take_of_length_le (by rw [Em.out]; omega)] at h
        go_wp2_with fail
        all_goals
          go_ret
          exact ⟨0, rfl, ⟨fun _ => heq, fun _ => rfl⟩, HB.out⟩

theorem ret_bool {a b : Bool} (h : a = b) : Ending.returned (.bool a) = .returned (.bool b) := by rw [h]
/-- what EqBytes answers -/
def Same (xs ys : List UInt8) (w : World) (x : Ending) (w' : World) : Prop := x = .returned (.bool (decide (xs = ys))) ∧ Below w.heap.size w w'
theorem eqBytes_any (xs ys : List UInt8) (a b : Option Addr) (c d : Nat) (hx : xs.length ≤ 4611686018427387904) (hy : ys.length ≤ 4611686018427387904) (w : World) (ha : Bts w a xs) (hb : Bts w b ys) :
    Calls Try.prog 30 #[.slice a xs.length c, .slice b ys.length d] w (Same xs ys w) := by
  have H := Lib.hid (compare_any xs ys a b c d hx hy w ha hb)
  clear ha hb hx hy
  go_enter Try.func30, Try.ntmps30
  go_wp2_with fail
  refine H.out.mono ?_
  rintro _ w1 ⟨r, rfl, hr, hB⟩
  have HR := Lib.hid hr
  clear hr
  go_wp2_with fail
  go_ret
  exact ⟨ret_bool (by rw [Bool.eq_iff_iff, beq_iff_eq, decide_eq_true_iff]; exact HR.out), hB⟩
end Go.Proofs.Ytkjgncmbhkhbnaa
