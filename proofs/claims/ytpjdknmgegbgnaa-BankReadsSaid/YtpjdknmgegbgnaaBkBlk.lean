/- A bank's Block. -/
import Derived.Test.YtpjdknmgegbgnaaBkE
import Derived.BigQuiet
import Derived.Deep.QuietTactic
namespace Go.Proofs.Ytpjdknmgegbgnaa
open Go.RowKit
set_option linter.unusedVariables false
set_option maxRecDepth 100000

theorem get_go {xs : List UInt8} {o k : Nat} (h : o + k ≤ xs.length) : (⟨xs.drop o, 0⟩ : RS).get k = (fld xs o k, ⟨xs.drop (o + k), 0⟩) := by
  unfold RS.get
  rw [if_neg (by simp), if_neg (by simp only [List.length_drop]; omega)]
  simp only [List.drop_drop]
  rfl
theorem fld_take {bs : List UInt8} {o k n : Nat} (h : o + k ≤ n) : fld (bs.take n) o k = fld bs o k := by
  unfold fld
  rw [List.drop_take, List.take_take, Nat.min_eq_left (by omega)]
theorem numsAt_take {bs : List UInt8} {o n m : Nat} (h : o + 2 * n ≤ m) : numsAt (bs.take m) o n = numsAt bs o n := by
  unfold numsAt
  apply List.map_congr_left
  intro k hk
  rw [List.mem_range] at hk
  exact fld_take (by omega)
theorem zerosR (lo hi p : Nat) (s : RS) (w : World) (h : RAt lo hi p s w) :
    Calls Try.prog 38 #[.pointer (some ⟨p, 0, none⟩)] w fun x w' => x = .returned (.tuple #[]) ∧ RAt lo hi p s.zeros w' ∧ Chg (fun j => lo ≤ j ∧ j < hi) w w' := by
  obtain ⟨a, cap, h1, h2, h3⟩ := h
  refine (rzeros_any p a cap s w h1).mono ?_
  rintro _ w' ⟨rfl, h4⟩
  exact ⟨rfl, RAt.aft h2 h3 h4⟩
theorem endR (lo hi p : Nat) (s : RS) (w : World) (h : RAt lo hi p s w) :
    Calls Try.prog 39 #[.pointer (some ⟨p, 0, none⟩)] w fun x w' => x = .returned (.int .i64 (s.ending : Int)) ∧ w = w' := by
  obtain ⟨a, cap, h1, h2, h3⟩ := h
  exact end_any p a cap s w h1
theorem ending_all {l : List UInt8} (h : l.all (· == 0) = true) : (⟨l, 0⟩ : RS).zeros.ending = 0 := by
  have h2 : l.any (· != 0) = false := by
    rw [List.any_eq_false]; intro x hx
    have := List.all_eq_true.1 h x hx
    simpa using this
  have hz : (⟨l, 0⟩ : RS).zeros = ⟨[], 0⟩ := by
    show (if (0 : Nat) ≠ 0 then (⟨l, 0⟩ : RS) else if l.any (· != 0) then (⟨l, 5⟩ : RS) else ⟨[], 0⟩) = _
    rw [if_neg (by simp), h2]; rfl
  rw [hz]; rfl
theorem ending_not {l : List UInt8} (h : l.all (· == 0) = false) : (⟨l, 0⟩ : RS).zeros.ending = 5 := by
  have h2 : l.any (· != 0) = true := by
    rw [List.all_eq_false] at h
    obtain ⟨x, hx, h⟩ := h
    rw [List.any_eq_true]
    exact ⟨x, hx, by simpa using h⟩
  have hz : (⟨l, 0⟩ : RS).zeros = ⟨l, 5⟩ := by
    show (if (0 : Nat) ≠ 0 then (⟨l, 0⟩ : RS) else if l.any (· != 0) then (⟨l, 5⟩ : RS) else ⟨[], 0⟩) = _
    rw [if_neg (by simp), h2]; rfl
  rw [hz]; unfold RS.ending; rw [if_neg (by simp)]
theorem Bts.cut {w : World} {b off : Nat} {bs : List UInt8} (h : Bts w (some ⟨b, off, none⟩) bs) (o n : Nat) : Bts w (some ⟨b, off + o, none⟩) ((bs.drop o).take n) := by
  by_cases hn : (bs.drop o).take n = []
  · exact .inl hn
  · rcases h with h | ⟨b2, o2, h1, h2, h3⟩
    · rw [h] at hn; simp at hn
    · cases h1
      refine .inr ⟨b, off + o, rfl, h2, fun i hi => ?_⟩
      rw [List.length_take, List.length_drop] at hi
      have := h3 (o + i) (by omega)
      rw [Nat.add_assoc, this, List.getD_eq_getElem?_getD, List.getD_eq_getElem?_getD, List.getElem?_take_of_lt (by omega), List.getElem?_drop]
def ints (xs : List Nat) : List Int := xs.map fun (x : Nat) => ((x : Nat) : Int)
theorem ints_length (xs : List Nat) : (ints xs).length = xs.length := by simp [ints]
/-- what Block leaves -/
def BlkP (r : Int × List Nat) (w : World) (e : Ending) (w' : World) : Prop :=
  ∃ oa cap, e = .returned (.tuple #[.slice oa r.2.length cap, .int .i64 r.1]) ∧ ON w' oa cap (ints r.2) ∧ (∀ k, blk oa = some k → w.heap.size ≤ k) ∧ Below w.heap.size w w'
theorem blkP_no {w w' : World} {e : Int} (hb : Below w.heap.size w w') : BlkP (e, []) w (.returned (.tuple #[.slice none 0 0, .int .i64 e])) w' :=
  ⟨none, 0, rfl, OR.nil eN _, fun k hk => (by cases hk), hb⟩
def RelBl (W : World) (lo hi p : Nat) (xs : List UInt8) (n : Nat) (o v : Value) (wr : World) : Prop :=
  ∃ (k : Nat) (oa : Option Addr) (oc : Nat), k ≤ n ∧ v = .int .i64 k ∧ o = .slice oa k oc ∧ RAt lo hi p ⟨xs.drop (17 + 2 * k), 0⟩ wr ∧ OR eN wr oa oc k (cellsN (ints (numsAt xs 17 k))) ∧ (∀ j, blk oa = some j → hi ≤ j) ∧ Below W.heap.size W wr ∧ hi ≤ wr.heap.size
theorem relBl_next {W w1 w2 w' : World} {lo hi p : Nat} {xs : List UInt8} {n k : Nat} {oa oa' : Option Addr} {oc' x : Nat} (hk : k < n) (hlo : W.heap.size ≤ lo) (hlh : lo ≤ hi) (hB : Below W.heap.size W w1) (hc : Chg (fun j => lo ≤ j ∧ j < hi) w1 w2) (hR : RAt lo hi p ⟨xs.drop (17 + 2 * k + 2), 0⟩ w2) (hz : hi ≤ w2.heap.size)
    (hof : ∀ j, blk oa = some j → hi ≤ j) (hx : fld xs (17 + 2 * k) 2 = x) (hO : OR eN w' oa' oc' (k + 1) (cellsN (ints (numsAt xs 17 k)) ++ [.int .i64 (x : Int)])) (hC : Chg (fun j => blk oa = some j) (w2.alloc (.cells #[.int .i64 (x : Int)] 3)) w') (hb : blk oa' = blk oa ∨ blk oa' = some (w2.alloc (.cells #[.int .i64 (x : Int)] 3)).heap.size) {v : Value} (hv : v = .int .i64 ((k + 1 : Nat) : Int)) :
    RelBl W lo hi p xs n (.slice oa' (k + 1) oc') v w' := by
  subst hv
  have ha := one_below w2 (.cells #[.int .i64 (x : Int)] 3)
  have hB2 := hB.trans (hc.below hB.size (fun j e => by omega))
  have hB3 := hB2.trans (ha.mono hB2.size)
  refine ⟨k + 1, oa', oc', hk, rfl, rfl, ?_, ?_, fun j e => ?_, hB3.trans (hC.below hB3.size (fun j e => by have := hof j e; omega)), ?_⟩
  · have := (hR.chg (F := fun _ => False) (Chg.of_below ha) (fun _ f => f.elim)).chg hC (fun j e => by have := hof j e; omega)
    rw [show 17 + 2 * (k + 1) = 17 + 2 * k + 2 by omega]; exact this
  · rw [numsAt_snoc, hx]
    simp only [ints, cellsN, List.map_append, List.map_cons, List.map_nil] at hO ⊢
    exact hO
  · rcases hb with hb | hb
    · exact hof j (hb ▸ e)
    · rw [hb] at e; cases e; exact Nat.le_trans hz ha.size
  · exact Nat.le_trans (Nat.le_trans hz ha.size) hC.size
set_option maxHeartbeats 1000000 in
theorem block_early (gen pages i : Int) (a : Option Addr) (cap : Nat) (bs : List UInt8) (w : World) (hp : pages ≤ 9223372036854775807) (h : ¬ mayB gen pages i) :
    Calls Try.prog 20 #[.int .i64 gen, .int .i64 pages, .int .i64 i, .slice a bs.length cap] w (BlkP (bblock gen pages i bs) w) := by
  have HE := Lib.hid (show bblock gen pages i bs = (1, []) by unfold bblock; rw [if_neg h])
  rw [HE.out]
  have HM := Lib.hid fun w1 => may_any gen pages w1
  have HB := Lib.hid fun w1 => blocks_any pages hp w1
  generalize bs.length = n
  unfold mayB at h
  by_cases hm : (0 ≤ gen ∧ gen ≤ 1099511627776) ∧ 0 ≤ pages ∧ pages ≤ 65536
  · rw [decide_eq_true hm] at HM
    by_cases hi : i < 0
    · clear h hm
      go_enter Try.func20, Try.ntmps20
      go_wp2_with (first
        | (go_at_call 30; refine (HM.out _).mono ?_; rintro _ _ ⟨rfl, rfl⟩))
      refine bodyPost_ret (v := .tuple #[.slice none 0 0, .int .i64 1]) (by simp [results, Try.results20, go_sem]) rfl ?_
      exact blkP_no (Below.refl _ _)
    · have hge : ((nblocks pages.toNat : Nat) : Int) ≤ i := by
        obtain ⟨h1, h2, h3⟩ := hm
        apply Int.not_lt.1
        intro hlt
        exact h ⟨h1, ⟨h2, h3⟩, by omega, hlt⟩
      generalize ((nblocks pages.toNat : Nat) : Int) = nb at *
      clear h hm
      go_enter Try.func20, Try.ntmps20
      go_wp2_with (first
        | (go_at_call 30; refine (HM.out _).mono ?_; rintro _ _ ⟨rfl, rfl⟩)
        | (go_at_call 8; refine (HB.out _).mono ?_; rintro _ _ ⟨rfl, rfl⟩))
      refine bodyPost_ret (v := .tuple #[.slice none 0 0, .int .i64 1]) (by simp [results, Try.results20, go_sem]) rfl ?_
      exact blkP_no (Below.refl _ _)
  · rw [decide_eq_false hm] at HM
    clear h hm
    go_enter Try.func20, Try.ntmps20
    go_wp2_with (first
      | (go_at_call 30; refine (HM.out _).mono ?_; rintro _ _ ⟨rfl, rfl⟩))
    refine bodyPost_ret (v := .tuple #[.slice none 0 0, .int .i64 1]) (by simp [results, Try.results20, go_sem]) rfl ?_
    exact blkP_no (Below.refl _ _)
end Go.Proofs.Ytpjdknmgegbgnaa
