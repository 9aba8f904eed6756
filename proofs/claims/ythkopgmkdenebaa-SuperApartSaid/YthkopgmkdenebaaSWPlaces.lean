/- The walk of SuperPlaces. -/
import Derived.Test.YthkopgmkdenebaaSupW
namespace Go.Proofs.Ythkopgmkdenebaa
open Go.RowKit
set_option linter.unusedVariables false
set_option maxRecDepth 100000

theorem in_any2 (x lo hi : Int) (w : World) : Calls Try.prog 62 #[.int .i64 x, .int .i64 lo, .int .i64 hi] w fun e w' => e = .returned (.bool (decide (lo ≤ x ∧ x ≤ hi))) ∧ w' = w := by
  by_cases h : lo ≤ x <;> by_cases g : x ≤ hi
  all_goals
    go_enter Try.func62, Try.ntmps62
    go_wp2_with fail
    go_ret
    exact ⟨by simp [h, g], rfl⟩
theorem and_one_i64 (n : Int) : bits .and .i64 n 1 = if n % 2 = 0 then 0 else 1 := by
  have h1 : (BitVec.ofInt 64 1).toNat = 2 ^ 1 - 1 := by decide
  have key : (BitVec.ofInt 64 n &&& BitVec.ofInt 64 1).toNat = (n % ((2 ^ 64 : Nat) : Int)).toNat % 2 ^ 1 := by
    rw [BitVec.toNat_and, BitVec.toNat_ofInt, h1, Nat.and_two_pow_sub_one_eq_mod]
  show IntKind.i64.wrap ((BitVec.ofInt 64 n &&& BitVec.ofInt 64 1).toNat : Nat) = _
  rw [key, IntKind.wrap_i64]
  split <;> omega
def slotOf (g : Int) : Int := if g % 2 = 0 then 0 else 1
def bankAt (b : Int) (s : Int) : Int := if s = 0 then 2 else if s = 1 then wrap64 (2 + b) else 0
/-- what Block answers -/
def blockAt (p f n : Int) : Ending := if 1 ≤ n ∧ n ≤ p then .returned (.tuple #[.int .i64 (wrap64 (wrap64 (f + n) - 1)), .bool true]) else .returned (.tuple #[.int .i64 0, .bool false])

theorem slot_any (g : Int) (hg : i64ok g) (w : World) : Calls Try.prog 40 #[.int .i64 g] w fun e w' => e = .returned (.int .i64 (slotOf g)) ∧ w' = w := by
  go_enter Try.func40, Try.ntmps40
  go_wp2_with fail
  go_ret
  refine ⟨ret_int ?_, rfl⟩
  exact and_one_i64 g
theorem dSlot_any (g : Int) (hg : i64ok g) (w : World) : Calls Try.prog 41 #[.int .i64 g] w fun e w' => e = .returned (.int .i64 (slotOf g)) ∧ w' = w := by
  by_cases h : g % 2 = 0
  · have ht : g.tmod 2 = 0 := Int.dvd_iff_tmod_eq_zero.1 (Int.dvd_of_emod_eq_zero h)
    have hb : (g.tmod 2 == 0) = true := by rw [ht]; rfl
    have HS := Lib.hid (show slotOf g = 0 by rw [slotOf, if_pos h])
    go_enter Try.func41, Try.ntmps41
    go_wp2_with fail
    all_goals try (exfalso; simp_all; done)
    all_goals
      go_ret
      exact ⟨by rw [HS.out]; rfl, rfl⟩
  · have ht : ¬ g.tmod 2 = 0 := fun e => h (Int.emod_eq_zero_of_dvd (Int.dvd_iff_tmod_eq_zero.2 e))
    have hb : (g.tmod 2 == 0) = false := by rw [beq_eq_false_iff_ne]; exact ht
    have HS := Lib.hid (show slotOf g = 1 by rw [slotOf, if_neg h])
    go_enter Try.func41, Try.ntmps41
    go_wp2_with fail
    all_goals try (exfalso; simp_all; done)
    all_goals
      go_ret
      exact ⟨by rw [HS.out]; rfl, rfl⟩
theorem bankP_any (p b f s : Int) (hb : i64ok b) (w : World) : Calls Try.prog 37 #[.agg #[.int .i64 p, .int .i64 b, .int .i64 f], .int .i64 s] w fun e w' => e = .returned (.int .i64 (bankAt b s)) ∧ Below w.heap.size w w' := by
  have HB := Lib.hid (one_below w)
  go_enter Try.func37, Try.ntmps37
  go_wp2_with fail
  all_goals
    go_ret
    refine ⟨ret_int ?_, HB.out _⟩
    clear HB
    unfold bankAt
    first | rfl | grind
theorem dBankP_any (p b f s : Int) (hb : i64ok b) (w : World) : Calls Try.prog 42 #[.agg #[.int .i64 p, .int .i64 b, .int .i64 f], .int .i64 s] w fun e w' => e = .returned (.int .i64 (bankAt b s)) ∧ Below w.heap.size w w' := by
  have HB := Lib.hid (one_below w)
  go_enter Try.func42, Try.ntmps42
  go_wp2_with fail
  all_goals
    go_ret
    refine ⟨ret_int ?_, HB.out _⟩
    clear HB
    unfold bankAt
    first | rfl | grind
theorem block_any (p b f n : Int) (w : World) : Calls Try.prog 38 #[.agg #[.int .i64 p, .int .i64 b, .int .i64 f], .int .i64 n] w fun e w' => e = blockAt p f n ∧ Below w.heap.size w w' := by
  have HB := Lib.hid (one_below w)
  by_cases hn : 1 ≤ n ∧ n ≤ p
  · have HE := Lib.hid (show blockAt p f n = .returned (.tuple #[.int .i64 (wrap64 (wrap64 (f + n) - 1)), .bool true]) by rw [blockAt, if_pos hn])
    have hd : decide (1 ≤ n ∧ n ≤ p) = true := by simpa using hn
    go_enter Try.func38, Try.ntmps38
    go_wp2_with (go_at_call 62; refine (in_any2 _ _ _ _).mono ?_; rintro _ _ ⟨rfl, rfl⟩)
    go_ret2
    exact ⟨by rw [HE.out]; rfl, HB.out _⟩
  · have HE := Lib.hid (show blockAt p f n = .returned (.tuple #[.int .i64 0, .bool false]) by rw [blockAt, if_neg hn])
    have hd : decide (1 ≤ n ∧ n ≤ p) = false := by simpa using hn
    go_enter Try.func38, Try.ntmps38
    go_wp2_with (go_at_call 62; refine (in_any2 _ _ _ _).mono ?_; rintro _ _ ⟨rfl, rfl⟩)
    go_ret2
    exact ⟨by rw [HE.out]; rfl, HB.out _⟩
theorem dBlock_any (p b f n : Int) (w : World) : Calls Try.prog 39 #[.agg #[.int .i64 p, .int .i64 b, .int .i64 f], .int .i64 n] w fun e w' => e = blockAt p f n ∧ Below w.heap.size w w' := by
  have HB := Lib.hid (one_below w)
  by_cases hn : 1 ≤ n ∧ n ≤ p
  · have HE := Lib.hid (show blockAt p f n = .returned (.tuple #[.int .i64 (wrap64 (wrap64 (f + n) - 1)), .bool true]) by rw [blockAt, if_pos hn])
    obtain ⟨h1, h2⟩ := hn
    go_enter Try.func39, Try.ntmps39
    go_wp2_with fail
    all_goals try (exfalso; omega)
    go_ret2
    exact ⟨by rw [HE.out]; rfl, HB.out _⟩
  · have HE := Lib.hid (show blockAt p f n = .returned (.tuple #[.int .i64 0, .bool false]) by rw [blockAt, if_neg hn])
    go_enter Try.func39, Try.ntmps39
    go_wp2_with fail
    all_goals try (exfalso; omega)
    all_goals
      go_ret2
      exact ⟨by rw [HE.out]; rfl, HB.out _⟩

theorem IsRow.i64cell {w : World} {a : Option Addr} {len cap : Nat} {zs : List Int} (h : IsRow .i64 w a len cap zs) {k : Nat} (hk : k < len) :
    ∃ bb off, a = some ⟨bb, off, none⟩ ∧ bb < w.heap.size ∧ w.cell? ⟨bb, off + k, none⟩ = some (.int .i64 (zs.getD k 0)) ∧ i64ok (zs.getD k 0) := by
  rcases h with ⟨_, h0, _⟩ | ⟨x, rfl, hl, hm, hz, hc, hw⟩
  · omega
  · obtain ⟨bb, off, spot⟩ := x
    have e00 := hc 0 (by omega)
    have hspot : spot = none := by simpa [Addr.add] using World.cell?_spot e00
    subst hspot
    have e0 := hc k (by omega)
    rw [add_none] at e0
    refine ⟨bb, off, rfl, block_lt_of_cell e0, e0, ?_⟩
    have hkz : k < zs.length := by omega
    have hm : zs.getD k 0 ∈ zs := by rw [List.getD_eq_getElem?_getD, List.getElem?_eq_getElem hkz]; exact List.getElem_mem hkz
    exact i64_le (hw _ hm)
def RelL (W : World) (len : Nat) (i : Value) (wr : World) : Prop := ∃ k : Nat, k ≤ len ∧ i = .int .i64 k ∧ Below W.heap.size W wr

set_option maxHeartbeats 4000000 in
theorem superPlaces_walk (p b f : Int) (a : Option Addr) (len cap : Nat) (zs : List Int) (W : World) (h1 : i64ok p) (h2 : i64ok b) (h3 : i64ok f) (hr : IsRow .i64 W a len cap zs) :
    Calls Try.prog 14 #[.agg #[.int .i64 p, .int .i64 b, .int .i64 f], .slice a len cap] W fun e w' => e = .returned (.bool true) ∧ Below W.heap.size W w' := by
  have hlen := hr.len_le
  have Hr := Lib.hid hr
  have HB := Lib.hid (one_below W (.cells #[.int .i64 p, .int .i64 b, .int .i64 f] 26))
  have hg := heap_alloc_new W (.cells #[.int .i64 p, .int .i64 b, .int .i64 f] 26)
  have hz : W.heap.size < (W.alloc (.cells #[.int .i64 p, .int .i64 b, .int .i64 f] 26)).heap.size := by simp
  have Hg := Lib.hid hg
  have Hz := Lib.hid hz
  clear hr hg hz
  go_enter Try.func14, Try.ntmps14
  go_wp2_with fail
  generalize W.alloc (.cells #[.int .i64 p, .int .i64 b, .int .i64 f] 26) = W0 at *
  go_loopw [5] (fun i wr => RelL W0 len i wr) (fun i _ => len - (intOf i).toNat)
  case atStart => exact ⟨0, Nat.zero_le _, rfl, Below.refl _ _⟩
  case round =>
    obtain ⟨k, hk, rfl, hBw⟩ := hrel
    by_cases hlt : k < len
    · obtain ⟨bb, off, rfl, hbb, hc, hok⟩ := Hr.out.i64cell hlt
      have Hk := Lib.hid fun (w' : World) (h : Below W0.heap.size W0 w') => show w'.cell? ⟨W.heap.size, 0, none⟩ = some (.int .i64 p) ∧ w'.cell? ⟨W.heap.size, 1, none⟩ = some (.int .i64 b) ∧ w'.cell? ⟨W.heap.size, 2, none⟩ = some (.int .i64 f) ∧ w'.cell? ⟨bb, off + k, none⟩ = some (.int .i64 (zs.getD k 0)) ∧ Below W0.heap.size W0 w' from by
        obtain ⟨y0, y1, y2, -⟩ := cells3 ((h.block W.heap.size Hz.out).trans Hg.out)
        exact ⟨y0, y1, y2, ((HB.out.trans (h.mono (Nat.le_of_lt Hz.out))).cell (p := ⟨bb, off + k, none⟩) hbb).trans hc, h⟩
      generalize zs.getD k 0 = z at hok Hk
      obtain ⟨x, ok, hx⟩ : ∃ x ok, blockAt p f z = .returned (.tuple #[.int .i64 x, .bool ok]) := by
        unfold blockAt
        split
        · exact ⟨_, _, rfl⟩
        · exact ⟨_, _, rfl⟩
      have H1 := Lib.hid (block_any p b f z)
      have H2 := Lib.hid (dBlock_any p b f z)
      rw [hx] at H1 H2
      have H3 := Lib.hid fun w => (slot_any z hok w).mono fun e w' (h : _ ∧ w' = w) => (⟨h.1, by rw [h.2]; exact Below.refl _ _⟩ : _ ∧ Below w.heap.size w w')
      have H4 := Lib.hid fun w => (dSlot_any z hok w).mono fun e w' (h : _ ∧ w' = w) => (⟨h.1, by rw [h.2]; exact Below.refl _ _⟩ : _ ∧ Below w.heap.size w w')
      have H5 := Lib.hid (bankP_any p b f z h2)
      have H6 := Lib.hid (dBankP_any p b f z h2)
      generalize slotOf z = sl at H3 H4
      generalize bankAt b z = bk at H5 H6
      clear hc hx
      go_wp2_with fail
      go_region_held3 (fun w' => w'.cell? ⟨W.heap.size, 0, none⟩ = some (.int .i64 p) ∧ w'.cell? ⟨W.heap.size, 1, none⟩ = some (.int .i64 b) ∧ w'.cell? ⟨W.heap.size, 2, none⟩ = some (.int .i64 f) ∧ w'.cell? ⟨bb, off + k, none⟩ = some (.int .i64 z) ∧ Below W0.heap.size W0 w')
          (first
            | exact Hk.out _ (Below.drew (Below.refl _ _))
            | (refine Hk.out _ (Below.drew ?_); with_reducible assumption)
            | (refine Hk.out _ ?_; with_reducible assumption))
          (first
            | (go_at_call 38; go_split_ands; ((with_reducible refine (H1.out _).mono ?_); rintro e w1 ⟨rfl, hb1⟩)
               have hbn : Below W0.heap.size W0 w1 := below_nextW (by with_reducible assumption) hb1))

      go_wp2_with fail
      go_region_held3 (fun w' => w'.cell? ⟨W.heap.size, 0, none⟩ = some (.int .i64 p) ∧ w'.cell? ⟨W.heap.size, 1, none⟩ = some (.int .i64 b) ∧ w'.cell? ⟨W.heap.size, 2, none⟩ = some (.int .i64 f) ∧ w'.cell? ⟨bb, off + k, none⟩ = some (.int .i64 z) ∧ Below W0.heap.size W0 w')
          (first
            | exact Hk.out _ (Below.drew (Below.refl _ _))
            | (refine Hk.out _ (Below.drew ?_); with_reducible assumption)
            | (refine Hk.out _ ?_; with_reducible assumption))
          (first
            | (go_at_call 39; go_split_ands; ((with_reducible refine (H2.out _).mono ?_); rintro e w1 ⟨rfl, hb1⟩)
               have hbn2 : Below W0.heap.size W0 w1 := below_nextW (by with_reducible assumption) hb1))

      go_wp2_with fail
      go_region_held3 (fun w' => w'.cell? ⟨W.heap.size, 0, none⟩ = some (.int .i64 p) ∧ w'.cell? ⟨W.heap.size, 1, none⟩ = some (.int .i64 b) ∧ w'.cell? ⟨W.heap.size, 2, none⟩ = some (.int .i64 f) ∧ w'.cell? ⟨bb, off + k, none⟩ = some (.int .i64 z) ∧ Below W0.heap.size W0 w')
          (first
            | exact Hk.out _ (Below.drew (Below.refl _ _))
            | (refine Hk.out _ (Below.drew ?_); with_reducible assumption)
            | (refine Hk.out _ ?_; with_reducible assumption))
          (first
            | (go_at_call 40; go_split_ands; ((with_reducible refine (H3.out _).mono ?_); rintro e w1 ⟨rfl, hb1⟩)
               have hbn3 : Below W0.heap.size W0 w1 := below_nextW (by with_reducible assumption) hb1)
            | (go_at_call 41; go_split_ands; ((with_reducible refine (H4.out _).mono ?_); rintro e w1 ⟨rfl, hb1⟩)
               have hbn4 : Below W0.heap.size W0 w1 := below_nextW (by with_reducible assumption) hb1)
            | (go_at_call 37; go_split_ands; ((with_reducible refine (H5.out _).mono ?_); rintro e w1 ⟨rfl, hb1⟩)
               have hbn5 : Below W0.heap.size W0 w1 := below_nextW (by with_reducible assumption) hb1)
            | (go_at_call 42; go_split_ands; ((with_reducible refine (H6.out _).mono ?_); rintro e w1 ⟨rfl, hb1⟩)
               have hbn6 : Below W0.heap.size W0 w1 := below_nextW (by with_reducible assumption) hb1))

      go_wp2_with fail
      go_roundw
      case rel => exact ⟨k + 1, by omega, by go_num, hbn6⟩
      case measure => simp [intOf]; omega
    · have HBw := Lib.hid hBw
      clear hBw
      go_wp2_with fail
      refine (works_any _).mono ?_
      rintro _ w3 ⟨rfl, hb3⟩
      go_wp2_with fail
      go_ret
      exact ⟨rfl, HB.out.trans ((below_nextW HBw.out hb3).mono (Nat.le_of_lt Hz.out))⟩
end Go.Proofs.Ythkopgmkdenebaa
