/- The layout of a config: in plain terms, and the walks of both Plans. -/
import Derived.Test.YthkopgmkdenebaaSup
import Derived.Test.YthkopgmkdenebaaWrOps
import Derived.Deep.QuietTactic
namespace Go.Proofs.Ythkopgmkdenebaa
open Go.RowKit
set_option linter.unusedVariables false

/-- blocks of the counts of so many pages -/
def bankN (p : Nat) : Nat := (p + 239) / 240
/-- the greatest number of pages up to q that has room -/
def downN (B : Nat) : Nat → Nat
  | 0 => 0
  | p + 1 => if B < 2 + 2 * bankN (p + 1) + (p + 1) then downN B p else p + 1
def pagesN (B : Nat) : Nat := downN B B
def MayC (c : CF) : Prop := (8 ≤ c.blocks ∧ c.blocks ≤ 65536) ∧ (1 ≤ c.clones ∧ c.clones ≤ 16) ∧ (2 ≤ c.refs ∧ c.refs ≤ 65535)
instance (c : CF) : Decidable (MayC c) := inferInstanceAs (Decidable (_ ∧ _))
/-- the pages of a config's plan -/
def CF.pages (c : CF) : Nat := pagesN c.blocks.toNat
/-- what Plan answers -/
def planV (p : Nat) : Value := .agg #[.int .i64 (p : Int), .int .i64 (bankN p : Int), .int .i64 ((2 + 2 * bankN p : Nat) : Int)]
def plan0 : Value := .agg #[.int .i64 0, .int .i64 0, .int .i64 0]
def planned (c : CF) : Ending := if MayC c then .returned (.tuple #[planV c.pages, .int .i64 0]) else .returned (.tuple #[plan0, .int .i64 1])

theorem downN_le (B p : Nat) : downN B p ≤ p := by
  induction p with
  | zero => exact Nat.le_refl _
  | succ p ih => unfold downN; split <;> omega
theorem downN_fits (B p : Nat) (hB : 2 ≤ B) : 2 + 2 * bankN (downN B p) + downN B p ≤ B := by
  induction p with
  | zero => show 2 + 2 * bankN 0 + 0 ≤ B; unfold bankN; omega
  | succ p ih => unfold downN; split <;> omega
theorem downN_most (B p q : Nat) (hB : 2 ≤ B) (hq : q ≤ p) (hf : 2 + 2 * bankN q + q ≤ B) : q ≤ downN B p := by
  induction p with
  | zero => omega
  | succ p ih =>
    unfold downN
    split
    · rename_i h
      by_cases e : q = p + 1
      · subst e; omega
      · exact ih (by omega)
    · omega
theorem downN_step {B p : Nat} (h : B < 2 + 2 * bankN (p + 1) + (p + 1)) : downN B (p + 1) = downN B p := by rw [downN, if_pos h]
theorem downN_end {B p : Nat} (h : 2 + 2 * bankN p + p ≤ B) : downN B p = p := by
  cases p with
  | zero => rfl
  | succ p => rw [downN, if_neg (by omega)]
theorem pagesN_le (B : Nat) : pagesN B ≤ B := downN_le B B

theorem one_below (w : World) (o1 : Obj) : Below w.heap.size w (w.alloc o1) := (Below.refl _ _).alloc (Nat.le_refl _) _
theorem two_below (w : World) (o1 o2 : Obj) : Below w.heap.size w ((w.alloc o1).alloc o2) := ((Below.refl _ _).alloc (Nat.le_refl _) _).alloc ((Below.refl _ _).alloc (Nat.le_refl _) _).size _
theorem three_below (w : World) (o1 o2 o3 : Obj) : Below w.heap.size w (((w.alloc o1).alloc o2).alloc o3) := (two_below w o1 o2).alloc (two_below w o1 o2).size _
theorem ret_bool {a b : Bool} (h : a = b) : Ending.returned (.bool a) = .returned (.bool b) := by rw [h]

theorem in_any (x lo hi : Int) (w : World) (h1 : i64ok x) : Calls Try.prog 62 #[.int .i64 x, .int .i64 lo, .int .i64 hi] w fun e w' => e = .returned (.bool (decide (lo ≤ x ∧ x ≤ hi))) ∧ w' = w := by
  by_cases h : lo ≤ x <;> by_cases g : x ≤ hi
  all_goals
    go_enter Try.func62, Try.ntmps62
    go_wp2_with fail
    go_ret
    exact ⟨by simp [h, g], rfl⟩

theorem may_any (c : CF) (h1 : i64ok c.blocks) (h2 : i64ok c.clones) (h3 : i64ok c.refs) (w : World) : Calls Try.prog 43 #[.agg #[.int .i64 c.blocks, .int .i64 c.clones, .int .i64 c.refs]] w fun e w' => e = .returned (.bool (decide (MayC c))) ∧ w' = w.alloc (.cells #[.int .i64 c.blocks, .int .i64 c.clones, .int .i64 c.refs] 24) := by
  go_enter Try.func43, Try.ntmps43
  go_wp2_with (go_at_call 62; refine (in_any _ _ _ _ (by assumption)).mono ?_; rintro _ _ ⟨rfl, rfl⟩)
  all_goals
    go_ret
    refine ⟨ret_bool ?_, rfl⟩
    grind [MayC]

set_option maxRecDepth 100000 in
theorem bank_any (p : Nat) (hp : p ≤ 65536) (w : World) : Calls Try.prog 44 #[.int .i64 (p : Int)] w fun e w' => e = .returned (.int .i64 (bankN p : Int)) ∧ w' = w := by
  go_enter Try.func44, Try.ntmps44
  go_wp2_with fail
  go_ret
  exact ⟨by apply ret_int; unfold bankN; go_num, rfl⟩

def RelP (B : Nat) (w1 : World) (i : Value) (wr : World) : Prop := ∃ p n : Nat, p ≤ B ∧ i = .int .i64 p ∧ downN B p = pagesN B ∧ wr = w1.drewN n

set_option maxRecDepth 100000 in
set_option maxHeartbeats 400000 in
theorem plan_any (c : CF) (h1 : i64ok c.blocks) (h2 : i64ok c.clones) (h3 : i64ok c.refs) (w : World) : Calls Try.prog 15 #[.agg #[.int .i64 c.blocks, .int .i64 c.clones, .int .i64 c.refs]] w fun e w' => e = planned c ∧ Below w.heap.size w w' := by
  by_cases hm : MayC c
  · have hd : decide (MayC c) = true := by simpa using hm
    have hpl : planned c = .returned (.tuple #[planV c.pages, .int .i64 0]) := by rw [planned, if_pos hm]
    obtain ⟨B, hB⟩ : ∃ B : Nat, c.blocks = (B : Int) := ⟨c.blocks.toNat, by have := hm.1; omega⟩
    have hBl : 8 ≤ B ∧ B ≤ 65536 := by have := hm.1; omega
    have hpg : c.pages = pagesN B := by rw [CF.pages, hB]; rfl
    rw [hpl, hpg]
    have HM := Lib.hid (may_any c h1 h2 h3)
    rw [hd] at HM
    obtain ⟨bl, cl, re⟩ := c
    simp only at hB HM
    subst hB
    clear hm hd hpl hpg h1 h2 h3
    have HB := Lib.hid (one_below w)
    go_enter Try.func15, Try.ntmps15
    go_wp2_with fail
    refine (HM.out _).mono ?_
    rintro _ _ ⟨rfl, rfl⟩
    go_wp2_with fail

    go_loopw [4] (fun i wr => RelP B (((w.alloc (.cells #[.int .i64 B, .int .i64 cl, .int .i64 re] 24)).alloc (.cells #[.int .i64 0, .int .i64 0, .int .i64 0] 26)).alloc (.cells #[.int .i64 B, .int .i64 cl, .int .i64 re] 24)) i wr) (fun i _ => (intOf i).toNat)
    case atStart => exact ⟨B, 0, Nat.le_refl _, rfl, rfl, (World.drewN_zero _).symm⟩
    case round =>
      obtain ⟨p, n, hp, rfl, hd, hw⟩ := hrel
      have z0 : wr.cell? ⟨w.heap.size, 0, none⟩ = some (.int .i64 B) := by
        rw [hw]; show (((w.alloc _).alloc _).alloc _).cell? ⟨w.heap.size, 0, none⟩ = _
        go_simp
      have Hw := Lib.hid hw
      clear hw
      obtain ⟨b, hb⟩ : ∃ b, bankN p = b := ⟨_, rfl⟩
      have hbl : b ≤ 274 := by rw [← hb]; unfold bankN; omega
      have HK := Lib.hid (bank_any p (by omega))
      rw [hb] at HK
      by_cases hf : B < 2 + 2 * b + p
      · have hp0 : 0 < p := by
          rcases Nat.eq_zero_or_pos p with rfl | h
          · have : bankN 0 = 0 := by unfold bankN; omega
            omega
          · exact h
        obtain ⟨q, rfl⟩ : ∃ q, p = q + 1 := ⟨p - 1, by omega⟩
        have hq : downN B q = pagesN B := by rw [← hd, downN_step (by rw [hb]; exact hf)]
        have Hq := Lib.hid hq
        clear hd hq hb
        go_wp2_with fail
        go_quiet (exact Calls.quiet_of_same (HK.out _))
        go_wp2_with fail
        go_roundw
        case rel => exact ⟨q, n + nq, by omega, by go_num, Hq.out, by rw [Hw.out, World.drewN_drewN]⟩
        case measure => simp [intOf]
      · have hq : pagesN B = p := by rw [← hd, downN_end (by omega)]
        have Hq := Lib.hid hq
        have Hb := Lib.hid hb
        clear hd hq hb
        go_wp2_with fail
        go_quiet (exact Calls.quiet_of_same (HK.out _))
        have hw := Hw.out
        subst hw
        go_wp2_with (go_at_call 44; refine (HK.out _).mono ?_; rintro _ _ ⟨rfl, rfl⟩)
        refine bodyPost_ret (v := .tuple #[.agg #[.int .i64 p, .int .i64 b, .int .i64 (2 + 2 * (b : Int))], .int .i64 0]) (by simp [results, Try.results15, go_sem]) rfl ?_
        exact ⟨by rw [Hq.out, planV, Hb.out]; rfl, (((below_drewN (three_below w _ _ _) _).setCell (Nat.le_succ _) _).setCell (Nat.le_succ _) _).setCell (Nat.le_succ _) _⟩
  · have hd : decide (MayC c) = false := by simpa using hm
    have hpl : planned c = .returned (.tuple #[plan0, .int .i64 1]) := by rw [planned, if_neg hm]
    rw [hpl]
    have HM := Lib.hid (may_any c h1 h2 h3)
    rw [hd] at HM
    clear hm hd hpl h1 h2 h3
    have HB := Lib.hid (one_below w)
    go_enter Try.func15, Try.ntmps15
    go_wp2_with fail
    refine (HM.out _).mono ?_
    rintro _ _ ⟨rfl, rfl⟩
    go_wp2_with fail
    refine bodyPost_ret (v := .tuple #[plan0, .int .i64 1]) (by simp [results, Try.results15, go_sem, plan0]) rfl ?_
    exact ⟨rfl, three_below w _ _ _⟩

theorem mayBe_any (c : CF) (w : World) : Calls Try.prog 36 #[.agg #[.int .i64 c.blocks, .int .i64 c.clones, .int .i64 c.refs]] w fun e w' => e = .returned (.bool (decide (MayC c))) ∧ w' = w.alloc (.cells #[.int .i64 c.blocks, .int .i64 c.clones, .int .i64 c.refs] 24) := by
  go_enter Try.func36, Try.ntmps36
  go_wp2_with fail
  all_goals
    go_ret
    refine ⟨ret_bool ?_, rfl⟩
    grind [MayC]

set_option maxRecDepth 100000 in
set_option maxHeartbeats 400000 in
theorem dPlan_any (c : CF) (w : World) : Calls Try.prog 16 #[.agg #[.int .i64 c.blocks, .int .i64 c.clones, .int .i64 c.refs]] w fun e w' => e = planned c ∧ Below w.heap.size w w' := by
  by_cases hm : MayC c
  · have hd : decide (MayC c) = true := by simpa using hm
    have hpl : planned c = .returned (.tuple #[planV c.pages, .int .i64 0]) := by rw [planned, if_pos hm]
    obtain ⟨B, hB⟩ : ∃ B : Nat, c.blocks = (B : Int) := ⟨c.blocks.toNat, by have := hm.1; omega⟩
    have hBl : 8 ≤ B ∧ B ≤ 65536 := by have := hm.1; omega
    have hpg : c.pages = pagesN B := by rw [CF.pages, hB]; rfl
    rw [hpl, hpg]
    have HM := Lib.hid (mayBe_any c)
    rw [hd] at HM
    obtain ⟨bl, cl, re⟩ := c
    simp only at hB HM
    subst hB
    clear hm hd hpl hpg
    go_enter Try.func16, Try.ntmps16
    go_wp2_with fail
    refine (HM.out _).mono ?_
    rintro _ _ ⟨rfl, rfl⟩
    go_wp2_with fail
    go_loopw [4] (fun i wr => RelP B (((w.alloc (.cells #[.int .i64 B, .int .i64 cl, .int .i64 re] 24)).alloc (.cells #[.int .i64 0, .int .i64 0, .int .i64 0] 26)).alloc (.cells #[.int .i64 B, .int .i64 cl, .int .i64 re] 24)) i wr) (fun i _ => (intOf i).toNat)
    case atStart => exact ⟨B, 0, Nat.le_refl _, rfl, rfl, (World.drewN_zero _).symm⟩
    case round =>
      obtain ⟨p, n, hp, rfl, hd, hw⟩ := hrel
      have z0 : wr.cell? ⟨w.heap.size, 0, none⟩ = some (.int .i64 B) := by
        rw [hw]; show (((w.alloc _).alloc _).alloc _).cell? ⟨w.heap.size, 0, none⟩ = _
        go_simp
      have Hw := Lib.hid hw
      clear hw
      obtain ⟨b, hb⟩ : ∃ b, bankN p = b := ⟨_, rfl⟩
      have hbl : b ≤ 274 := by rw [← hb]; unfold bankN; omega
      have hdv : ((p : Int) + 239) / 240 = (b : Int) := by rw [← hb]; unfold bankN; omega
      by_cases hf : B < 2 + 2 * b + p
      · have hp0 : 0 < p := by
          rcases Nat.eq_zero_or_pos p with rfl | h
          · have : bankN 0 = 0 := by unfold bankN; omega
            omega
          · exact h
        obtain ⟨q, rfl⟩ : ∃ q, p = q + 1 := ⟨p - 1, by omega⟩
        have hq : downN B q = pagesN B := by rw [← hd, downN_step (by rw [hb]; exact hf)]
        have Hq := Lib.hid hq
        clear hd hq hb
        go_wp2_with fail
        go_roundw
        case rel => exact ⟨q, n, by omega, by go_num, Hq.out, Hw.out⟩
        case measure => simp [intOf]
      · have hq : pagesN B = p := by rw [← hd, downN_end (by omega)]
        have Hq := Lib.hid hq
        have Hb := Lib.hid hb
        clear hd hq hb
        have hw := Hw.out
        subst hw
        go_wp2_with fail
        all_goals refine bodyPost_ret (v := .tuple #[.agg #[.int .i64 p, .int .i64 b, .int .i64 (2 + 2 * (b : Int))], .int .i64 0]) (by simp [results, Try.results16, go_sem]; omega) rfl ?_
        all_goals exact ⟨by rw [Hq.out, planV, Hb.out]; rfl, (((below_drewN (three_below w _ _ _) _).setCell (Nat.le_succ _) _).setCell (Nat.le_succ _) _).setCell (Nat.le_succ _) _⟩
  · have hd : decide (MayC c) = false := by simpa using hm
    have hpl : planned c = .returned (.tuple #[plan0, .int .i64 1]) := by rw [planned, if_neg hm]
    rw [hpl]
    have HM := Lib.hid (mayBe_any c)
    rw [hd] at HM
    clear hm hd hpl
    go_enter Try.func16, Try.ntmps16
    go_wp2_with fail
    refine (HM.out _).mono ?_
    rintro _ _ ⟨rfl, rfl⟩
    go_wp2_with fail
    refine bodyPost_ret (v := .tuple #[plan0, .int .i64 1]) (by simp [results, Try.results16, go_sem, plan0]) rfl ?_
    exact ⟨rfl, three_below w _ _ _⟩
end Go.Proofs.Ythkopgmkdenebaa
