/- A bank's Blocks, of, may, laid. -/
import Derived.Test.YtpjdknmgegbgnaaBkW
import Derived.Deep.WholeRow
namespace Go.Proofs.Ytpjdknmgegbgnaa
open Go.RowKit
set_option linter.unusedVariables false
set_option maxRecDepth 100000

theorem blocks_any (n : Int) (hn : n ≤ 9223372036854775807) (w : World) : Calls Try.prog 8 #[.int .i64 n] w fun e w' => e = .returned (.int .i64 (nblocks n.toNat : Nat)) ∧ w' = w := by
  by_cases h : n < 1
  · have HR := Lib.hid (show nblocks n.toNat = 0 by unfold nblocks; omega)
    rw [HR.out]
    go_enter Try.func8, Try.ntmps8
    go_wp2_with fail
    go_ret
    exact ⟨rfl, rfl⟩
  · obtain ⟨m, rfl⟩ : ∃ m : Nat, n = ((m + 1 : Nat) : Int) := ⟨(n - 1).toNat, by omega⟩
    have HR := Lib.hid (show nblocks ((m + 1 : Nat) : Int).toNat = m / 240 + 1 by unfold nblocks; omega)
    rw [HR.out]
    have h1 : ((m + 1 : Nat) : Int) - 1 = (m : Int) := by omega
    have hm : (m : Int) < 9223372036854775807 := by omega
    generalize ((m + 1 : Nat) : Int) = k at *
    obtain rfl : k = (m : Int) + 1 := by omega
    clear h1
    go_enter Try.func8, Try.ntmps8
    go_wp2_with fail
    go_ret
    exact ⟨by simp, rfl⟩
theorem of_any (n i : Nat) (hn : n ≤ 65536) (hi : i * 240 ≤ n) (w : World) : Calls Try.prog 26 #[.int .i64 (n : Int), .int .i64 (i : Int)] w fun e w' => e = .returned (.int .i64 (inBlk n i : Nat)) ∧ w' = w := by
  have H1 := Lib.hid fun (h : (n : Int) - (i : Int) * 240 ≤ 240) => (show (n : Int) - (i : Int) * 240 = ((inBlk n i : Nat) : Int) by unfold inBlk; omega)
  have H2 := Lib.hid fun (h : ¬ (n : Int) - (i : Int) * 240 < 240) => (show (240 : Int) = ((inBlk n i : Nat) : Int) by unfold inBlk; omega)
  generalize ((inBlk n i : Nat) : Int) = v at *
  go_enter Try.func26, Try.ntmps26
  go_wp2_with fail
  all_goals
    go_ret
    first
      | exact ⟨by rw [← H1.out (by omega)]; rfl, rfl⟩
      | exact ⟨by rw [← H2.out (by omega)]; rfl, rfl⟩
theorem may_any (gen pages : Int) (w : World) : Calls Try.prog 30 #[.int .i64 gen, .int .i64 pages] w fun e w' => e = .returned (.bool (decide ((0 ≤ gen ∧ gen ≤ 1099511627776) ∧ 0 ≤ pages ∧ pages ≤ 65536))) ∧ w' = w := by
  obtain ⟨b, hb⟩ : ∃ b, decide ((0 ≤ gen ∧ gen ≤ 1099511627776) ∧ 0 ≤ pages ∧ pages ≤ 65536) = b := ⟨_, rfl⟩
  have HB := Lib.hid hb
  rw [hb]
  clear hb
  go_enter Try.func30, Try.ntmps30
  go_wp2_with fail
  all_goals
    go_ret
    rw [← HB.out]
    first
      | exact ⟨congrArg (fun b => Ending.returned (.bool b)) (decide_eq_decide.2 ⟨fun _ => by omega, fun _ => by omega⟩), rfl⟩
      | exact ⟨congrArg (fun b => Ending.returned (.bool b)) (decide_eq_false (by omega)).symm, rfl⟩
def cells16 (xs : List Nat) : List Value := xs.map fun (x : Nat) => Value.int .u16 ((x : Nat) : Int)
theorem cells16_length (xs : List Nat) : (cells16 xs).length = xs.length := by simp [cells16]
/-- a box of counts -/
def CBox (w : World) (g : Nat) (xs : List Nat) : Prop := ∃ T, w.heap[g]? = some (.cells (cells16 xs).toArray T)
theorem CBox.lt {w : World} {g : Nat} {xs : List Nat} (h : CBox w g xs) : g < w.heap.size := by obtain ⟨T, h⟩ := h; exact rlt_of_heap h
theorem CBox.chg {F : Nat → Prop} {w w' : World} {g : Nat} {xs : List Nat} (h : CBox w g xs) (hc : Chg F w w') (hn : ¬ F g) : CBox w' g xs := by
  have hl := h.lt
  obtain ⟨T, h⟩ := h
  exact ⟨T, (hc.block g hl hn).trans h⟩
theorem CBox.cell {w : World} {g : Nat} {xs : List Nat} (h : CBox w g xs) {k : Nat} (hk : k < xs.length) : w.cell? ⟨g, k, none⟩ = some (.int .u16 (xs.getD k 0 : Nat)) := by
  obtain ⟨T, h⟩ := h
  rw [cell_of_row _ _ k _ T (0, 0) h]
  simp [cells16, List.getD_eq_getElem?_getD, hk]
def laidB (gen pages i : Nat) (xs : List Nat) : List UInt8 := blk1 gen i pages (xs.take (inBlk pages i))
def RelLd (W : World) (g p : Nat) (hd : List UInt8) (xs : List Nat) (n : Nat) (i : Value) (wr : World) : Prop :=
  ∃ k : Nat, k ≤ n ∧ i = .int .i64 k ∧ WAt (· < W.heap.size) p (hd ++ cntB (xs.take k)) wr ∧ Chg (fun k => ¬ k < W.heap.size) W wr
set_option maxHeartbeats 2000000 in
theorem laid_any (gen pages i : Nat) (xs : List Nat) (hx : xs.length = 240) (hxs : ∀ v ∈ xs, v < 65536) (hg : gen ≤ 1099511627776) (hp : pages ≤ 65536) (hi : i * 240 ≤ pages) (w : World) :
    Calls Try.prog 27 #[.int .i64 (gen : Int), .int .i64 (pages : Int), .int .i64 (i : Int), .agg (cells16 xs).toArray] w (fun e w' => ∃ oa cap, e = .returned (.slice oa 512 cap) ∧ OB w' oa cap (laidB gen pages i xs) ∧ (∀ k, blk oa = some k → w.heap.size ≤ k) ∧ Below w.heap.size w w') := by
  have HO := Lib.hid fun w1 => of_any pages i hp hi w1
  have HN := Lib.hid (inBlk_le pages i)
  have HLB := Lib.hid (show laidB gen pages i xs = blk1 gen i pages (xs.take (inBlk pages i)) from rfl)
  generalize inBlk pages i = n at *
  have HX := Lib.hid hx
  have HXS := Lib.hid fun (k : Nat) (hk : k < xs.length) => (show xs[k]? = some (xs.getD k 0) ∧ xs.getD k 0 < 65536 by
    rw [List.getD_eq_getElem?_getD, List.getElem?_eq_getElem hk]; exact ⟨rfl, hxs _ (List.getElem_mem hk)⟩)
  have HC0 := Lib.hid (show CBox (w.alloc (.cells (cells16 xs).toArray 47)) w.heap.size xs from ⟨_, heap_alloc_new _ _⟩)
  have HB0 := Lib.hid (one_below w (.cells (cells16 xs).toArray 47))
  have HS0 := Lib.hid (show (w.alloc (.cells (cells16 xs).toArray 47)).heap.size = w.heap.size + 1 by simp)
  clear hx hxs
  go_enter Try.func27, Try.ntmps27
  go_wp2_with fail
  generalize w.alloc (.cells (cells16 xs).toArray 47) = w1 at *
  have hgw : w.heap.size < w1.heap.size := by rw [HS0.out]; exact Nat.lt_succ_self _
  refine (newWriter_any 512 w1).mono ?_
  rintro _ w2 ⟨rfl, hW2, hb2⟩
  have hW2 : WAt (· < w1.heap.size) w1.heap.size [] w2 := ⟨none, 0, hW2, by omega, fun k e => by cases e⟩
  have hz2 := hb2.size
  have HC2 := Lib.hid (Chg.of_below (F := fun k => ¬ k < w1.heap.size) hb2)
  have H := Lib.hid (putW8 _ _ _ 66 (by omega) w2 (fun k (hk : k < _) => by omega) hW2 (by decide))
  clear hb2 hW2
  go_wp2_with fail
  refine H.out.mono ?_
  clear H
  rintro _ w3 ⟨rfl, hW3, hc3⟩
  have HC3 := Lib.hid (HC2.out.trans hc3 (fun _ _ f => f))
  have hz3 := HC3.out.size
  have H := Lib.hid (putW64 _ _ _ gen (by omega) w3 (fun k (hk : k < _) => by omega) hW3 (by simp [leb_length]))
  clear hc3 hW3 HC2
  go_wp2_with fail
  refine H.out.mono ?_
  clear H
  rintro _ w4 ⟨rfl, hW4, hc4⟩
  have HC4 := Lib.hid (HC3.out.trans hc4 (fun _ _ f => f))
  have hz4 := HC4.out.size
  have H := Lib.hid (putW32 _ _ _ i (by omega) w4 (fun k (hk : k < _) => by omega) hW4 (by simp [leb_length]))
  clear hc4 hW4 HC3
  go_wp2_with fail
  refine H.out.mono ?_
  clear H
  rintro _ w5 ⟨rfl, hW5, hc5⟩
  have HC5 := Lib.hid (HC4.out.trans hc5 (fun _ _ f => f))
  have hz5 := HC5.out.size
  have H := Lib.hid (putW32 _ _ _ pages (by omega) w5 (fun k (hk : k < _) => by omega) hW5 (by simp [leb_length]))
  clear hc5 hW5 HC4
  go_wp2_with fail
  refine H.out.mono ?_
  clear H
  rintro _ w6 ⟨rfl, hW6, hc6⟩
  have HC6 := Lib.hid (HC5.out.trans hc6 (fun _ _ f => f))
  have HW6 := Lib.hid (show WAt (· < w1.heap.size) w1.heap.size (bhead gen i pages) w6 from by simpa [bhead] using hW6)
  clear hc6 hW6 HC5
  go_wp2_with fail
  refine (HO.out _).mono ?_
  rintro _ wx ⟨rfl, e0⟩
  rw [e0]
  clear e0 wx
  have hn := HN.out
  go_wp2_with fail
  go_loopw [33] (fun v wr => RelLd w1 w.heap.size w1.heap.size (bhead gen i pages) xs n v wr) (fun v _ => n - (intOf v).toNat)
  case atStart => exact ⟨0, Nat.zero_le _, rfl, by simpa [cntB] using HW6.out, HC6.out⟩
  case round =>
    clear HW6 HC6
    obtain ⟨k, hk, rfl, hW, hC⟩ := hrel
    by_cases hkn : k < n
    · obtain ⟨hxk, hxl⟩ := HXS.out k (by rw [HX.out]; omega)
      have hcell := (HC0.out.chg hC (fun f => f hgw)).cell (k := k) (by rw [HX.out]; omega)
      have hk240 : (k : Int) < 240 := by omega
      have Hsn := Lib.hid (cntB_snoc hxk)
      have HCC := Lib.hid hC
      have HJ := Lib.hid hkn
      have hz := hC.size
      generalize xs.getD k 0 = x at *
      have hlen : (bhead gen i pages ++ cntB (xs.take k)).length + 2 ≤ 512 := by
        rw [List.length_append, bhead_length, cntB_length, List.length_take]; omega
      have H := Lib.hid (putW16 _ _ _ x hxl wr (fun k (hk : k < _) => by omega) hW hlen)
      clear hxk hW hC hlen
      go_wp2_with fail
      refine H.out.mono ?_
      clear H
      rintro _ w7 ⟨rfl, hW7, hc7⟩
      go_wp2_with fail
      go_roundw
      case rel => exact ⟨k + 1, HJ.out, by go_num, by rw [Hsn.out, ← List.append_assoc]; exact hW7, HCC.out.trans hc7 (fun _ _ f => f)⟩
      case measure => exact meas_up HJ.out
    · obtain rfl : k = n := by omega
      have hlen : (bhead gen i pages ++ cntB (xs.take k)).length ≤ 508 := by
        rw [List.length_append, bhead_length, cntB_length, List.length_take]; omega
      have hz := hC.size
      have HCC := Lib.hid hC
      have HFL := Lib.hid (fullB_length hlen)
      have HBL := Lib.hid (show laidB gen pages i xs = fullB (bhead gen i pages ++ cntB (xs.take k)) ++ leb 4 (Crc.ofs (fullB (bhead gen i pages ++ cntB (xs.take k)))) from HLB.out)
      have H := Lib.hid (fillW _ _ _ wr (fun k (hk : k < _) => by omega) hW hlen)
      generalize fullB (bhead gen i pages ++ cntB (xs.take k)) = fb at *
      have hof := Crc.ofs_lt fb
      clear hW hC hlen
      go_wp2_with fail
      refine H.out.mono ?_
      clear H
      rintro _ w7 ⟨rfl, hW7, hc7⟩
      have HC7 := Lib.hid (HCC.out.trans hc7 (fun _ _ f => f))
      have H := Lib.hid (doneW _ _ _ w7 hW7)
      unfold Dones at H
      rw [HFL.out] at H
      clear hW7 hc7 HCC
      go_wp2_with fail
      refine H.out.mono ?_
      clear H
      rintro _ w8 ⟨oa, oc, rfl, hO8, ho8, hW8, hb8⟩
      have HC8 := Lib.hid (HC7.out.trans (Chg.of_below (F := fun k => ¬ k < w1.heap.size) hb8) (fun _ _ f => f))
      have H := Lib.hid (sumOf_any fb oa oc (by rw [HFL.out]; decide) w8 hO8.bts)
      rw [HFL.out] at H
      have HW8 := Lib.hid hW8
      clear hO8 ho8 hW8 hb8 HC7
      go_wp2_with fail
      refine H.out.mono ?_
      clear H
      rintro _ w9 ⟨rfl, hb9⟩
      have HC9 := Lib.hid (HC8.out.trans (Chg.of_below (F := fun k => ¬ k < w1.heap.size) hb9) (fun _ _ f => f))
      have hz9 := HC9.out.size
      have H := Lib.hid (putW32 _ _ _ (Crc.ofs fb) (by omega) w9 (fun k (hk : k < _) => by omega) (HW8.out.below hb9) (by rw [HFL.out]; decide))
      clear hb9 HC8 HW8
      generalize Crc.ofs fb = sm at *
      go_wp2_with fail
      refine H.out.mono ?_
      clear H
      rintro _ w10 ⟨rfl, hW10, hc10⟩
      have HC10 := Lib.hid (HC9.out.trans hc10 (fun _ _ f => f))
      rw [← HBL.out] at hW10
      have HL12 := Lib.hid (show (laidB gen pages i xs).length = 512 by rw [HBL.out, List.length_append, HFL.out, leb_length])
      have H := Lib.hid (doneW _ _ _ w10 hW10)
      unfold Dones at H
      rw [HL12.out] at H
      clear hW10 hc10 HC9
      go_wp2_with fail
      refine H.out.mono ?_
      clear H
      rintro _ w11 ⟨oa2, oc2, rfl, hO11, ho11, -, hb11⟩
      have HB10 := Lib.hid (HB0.out.trans (kbelow (B := w1.heap.size) HC10.out (Nat.le_refl _) |>.mono (Nat.le_of_lt hgw)))
      have HF := Lib.hid (show ∃ oa cap, Ending.returned (.slice oa2 512 oc2) = .returned (.slice oa 512 cap) ∧ OB w11 oa cap (laidB gen pages i xs) ∧ (∀ k, blk oa = some k → w.heap.size ≤ k) ∧ Below w.heap.size w w11 from
        ⟨oa2, oc2, rfl, hO11, fun k e => Nat.le_trans HB10.out.size (ho11 k e), HB10.out.trans (hb11.mono HB10.out.size)⟩)
      clear hO11 ho11 hb11
      go_wp2_with fail
      go_ret
      exact HF.out
end Go.Proofs.Ytpjdknmgegbgnaa
