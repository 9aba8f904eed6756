/- The document's number and piece. The document's guess: what its loop keeps. The document's guess. The document's guess: items. -/
import Derived.Test.YtkjgncmbhkhbnaaPgL
import Derived.Test.YtkjgncmbhkhbnaaApp
import Derived.Test.YtkjgncmbhkhbnaaPRdN
import Derived.Test.YtkjgncmbhkhbnaaPDec0
import Derived.StillTailTactics
namespace Go.Proofs.Ytkjgncmbhkhbnaa
open Go.RowKit
set_option linter.unusedVariables false
set_option maxRecDepth 100000

theorem fld_cons (bs : List UInt8) (o n : Nat) : fld bs o (n + 1) = (bs.getD o 0).toNat + 256 * fld bs (o + 1) n := by
  unfold fld
  by_cases h : o < bs.length
  · rw [List.drop_eq_getElem_cons h, List.take_succ_cons, unle, List.getD_eq_getElem?_getD, List.getElem?_eq_getElem h]; rfl
  · rw [List.drop_eq_nil_of_le (by omega), List.drop_eq_nil_of_le (by omega), List.getD_eq_getElem?_getD, List.getElem?_eq_none (by omega)]
    simp [unle]
theorem fld_none (bs : List UInt8) (o : Nat) : fld bs o 0 = 0 := by simp [fld, unle]
theorem fld_beyond {bs : List UInt8} {o n : Nat} (h : bs.length ≤ o) : fld bs o n = 0 := by
  unfold fld; rw [List.drop_eq_nil_of_le h]; simp [unle]
theorem fld_high (bs : List UInt8) (o : Nat) : ∀ (k n : Nat), k ≤ n → fld bs (o + k) (n - k) ≤ fld bs o n
  | 0, n, _ => Nat.le_refl _
  | k + 1, n, h => by
    have h1 := fld_high bs o k n (by omega)
    have e : n - k = (n - (k + 1)) + 1 := by omega
    rw [e, fld_cons] at h1
    rw [← Nat.add_assoc]
    omega
def RelNb (bs : List UInt8) (o n : Nat) (x i : Value) : Prop :=
  ∃ k : Nat, k ≤ n ∧ i = .int .i64 ((k : Int) - 1) ∧ x = .int .i64 (fld bs (o + k) (n - k) : Nat)
theorem relNb_next {bs : List UInt8} {o n k : Nat} (hk : k + 1 ≤ n) {x i : Value} {v : Nat} (hv : v = (bs.getD (o + k) 0).toNat + 256 * fld bs (o + (k + 1)) (n - (k + 1))) (hx : x = .int .i64 (v : Int)) (hi : i = .int .i64 ((k : Int) - 1)) : RelNb bs o n x i := by
  refine ⟨k, by omega, hi, ?_⟩
  rw [hx, hv, show n - k = (n - (k + 1)) + 1 by omega, fld_cons]; rfl
theorem meas_down {k : Nat} : (intOf (.int .i64 ((k : Int) - 1)) + 1).toNat < (intOf (.int .i64 (k : Int)) + 1).toNat := by simp only [intOf]; omega
set_option maxHeartbeats 1000000 in
theorem dNumber_any (a : Option Addr) (cap : Nat) (bs : List UInt8) (o n : Nat) (ho : o ≤ 1000000) (hn : n ≤ 8) (hl : bs.length ≤ 1000000) (w : World) (hb : Bts w a bs) (hf : fld bs o n < 9223372036854775808) :
    Calls Try.prog 57 #[.slice a bs.length cap, .int .i64 (o : Int), .int .i64 (n : Int)] w fun e w' => e = .returned (.int .i64 (fld bs o n : Nat)) ∧ w' = w := by
  have HB := Lib.hid hb
  obtain ⟨m, hm⟩ : ∃ m, bs.length = m := ⟨_, rfl⟩
  rw [hm] at hl ⊢
  have HM := Lib.hid hm
  clear hb hm
  go_enter Try.func57, Try.ntmps57
  go_wp2_with fail
  go_loop [7, 8] (RelNb bs o n) (fun _ i => (intOf i + 1).toNat)
  case atStart => exact ⟨n, Nat.le_refl _, rfl, by rw [Nat.sub_self, fld_none]; rfl⟩
  case round =>
    obtain ⟨k, hk, rfl, rfl⟩ := hrel
    cases k with
    | zero =>
      have hneg : ¬ (0 : Int) ≤ ((0 : Nat) : Int) - 1 := by decide
      rw [Nat.add_zero, Nat.sub_zero]
      go_wp2_with fail
      go_ret
      exact ⟨rfl, rfl⟩
    | succ k =>
      rw [show (((k + 1 : Nat) : Int) - 1) = (k : Int) by omega]
      have hhi := fld_high bs o k n (by omega)
      rw [show n - k = (n - (k + 1)) + 1 by omega, fld_cons, Nat.add_assoc] at hhi
      have Hnx := Lib.hid fun v x i hv hx hi => relNb_next (bs := bs) (o := o) (n := n) (k := k) (x := x) (i := i) (v := v) hk hv hx hi
      have HB0 := Lib.hid fun (h : ¬ o + k < m) => show fld bs (o + (k + 1)) (n - (k + 1)) = 0 ∧ (bs.getD (o + k) 0).toNat = 0 from ⟨fld_beyond (by rw [HM.out]; omega), by rw [List.getD_eq_getElem?_getD, List.getElem?_eq_none (by rw [HM.out]; omega)]; rfl⟩
      by_cases hlt : o + k < m
      · obtain ⟨b, off, rfl, -, hc⟩ := HB.out.at (k := o + k) (by rw [HM.out]; exact hlt)
        generalize (bs.getD (o + k) 0).toNat = y at *
        generalize fld bs (o + (k + 1)) (n - (k + 1)) = f at *
        generalize fld bs o n = ff at *
        rw [show off + (o + k) = off + (o + k) from rfl] at hc
        clear HB0
        have hyI : (0 : Int) ≤ (y : Int) := by omega
        have h1 : wrap64 ((f : Int) * 256) = (f : Int) * 256 := IntWalk.wrap64_in _ ⟨by omega, by omega⟩
        have h2 : wrap64 ((f : Int) * 256 + (y : Int)) = (f : Int) * 256 + (y : Int) := IntWalk.wrap64_in _ ⟨by omega, by omega⟩
        go_wp2_with fail
        go_round
        case rel => exact Hnx.out (y + 256 * f) _ _ rfl (by go_num) rfl
        case measure => exact meas_down
      · obtain ⟨e1, e2⟩ := HB0.out hlt
        rw [e1, e2] at Hnx
        rw [e1]
        clear HB0 hhi e1 e2
        go_wp2_with fail
        go_round
        case rel => exact Hnx.out 0 _ _ rfl (by go_num) rfl
        case measure => exact meas_down
theorem meas_up {n j : Nat} (h : j < n) : n - (intOf (.int .i64 ((j : Int) + 1))).toNat < n - (intOf (.int .i64 (j : Int))).toNat := by simp only [intOf]; omega
theorem piece_snoc {bs : List UInt8} {o k : Nat} (h : o + k < bs.length) : piece bs o (k + 1) = piece bs o k ++ [bs.getD (o + k) 0] := by
  unfold piece
  rw [List.take_add_one, List.getElem?_drop, List.getElem?_eq_getElem h, List.getD_eq_getElem?_getD, List.getElem?_eq_getElem h]; rfl
theorem piece_over {bs : List UInt8} {o k : Nat} (h : ¬ o + k < bs.length) : piece bs o (k + 1) = piece bs o k := by
  unfold piece
  rw [List.take_add_one, List.getElem?_drop, List.getElem?_eq_none (by omega)]; simp
theorem piece_le (bs : List UInt8) (o k : Nat) : (piece bs o k).length ≤ k := by unfold piece; simp; omega
/-- a piece is given: a list of its own -/
def PiecP (l : List UInt8) (w : World) (e : Ending) (w' : World) : Prop :=
  ∃ oa cap, e = .returned (.slice oa l.length cap) ∧ OB w' oa cap l ∧ (∀ k, blk oa = some k → w.heap.size ≤ k) ∧ Below w.heap.size w w'
def RelPi (W : World) (bs : List UInt8) (o n : Nat) (l i : Value) (wr : World) : Prop :=
  ∃ (k : Nat) (oa : Option Addr) (cap : Nat), k ≤ n ∧ i = .int .i64 k ∧ l = .slice oa (piece bs o k).length cap ∧ OB wr oa cap (piece bs o k) ∧ (∀ q, blk oa = some q → W.heap.size ≤ q) ∧ Below W.heap.size W wr
theorem relPi_more {W wr w1 w2 : World} {bs : List UInt8} {o n k : Nat} (hk : k < n) (h : o + k < bs.length) {oa oa2 : Option Addr} {cap2 : Nat} (ho : ∀ q, blk oa = some q → W.heap.size ≤ q) (hb : Below W.heap.size W wr) (h1 : Below wr.heap.size wr w1)
    (hO : OB w2 oa2 cap2 (piece bs o k ++ [bs.getD (o + k) 0])) (hC : Chg (fun q => blk oa = some q) w1 w2) (hB : blk oa2 = blk oa ∨ blk oa2 = some w1.heap.size) {i : Value} (hi : i = .int .i64 ((k + 1 : Nat) : Int)) : RelPi W bs o n (.slice oa2 ((piece bs o k).length + 1) cap2) i w2 := by
  subst hi
  have hb1 := hb.trans (h1.mono hb.size)
  refine ⟨k + 1, oa2, cap2, hk, rfl, by rw [piece_snoc h, List.length_append]; rfl, by rw [piece_snoc h]; exact hO, fun q e => ?_, hb1.trans (hC.below hb1.size (fun k e => ho k e))⟩
  rcases hB with hB | hB
  · exact ho q (hB ▸ e)
  · rw [hB] at e; cases e; exact hb1.size
theorem relPi_same {W wr : World} {bs : List UInt8} {o n k : Nat} (hk : k < n) (h : ¬ o + k < bs.length) {oa : Option Addr} {cap : Nat} (ho : ∀ q, blk oa = some q → W.heap.size ≤ q) (hb : Below W.heap.size W wr) (hO : OB wr oa cap (piece bs o k)) {i : Value} (hi : i = .int .i64 ((k + 1 : Nat) : Int)) : RelPi W bs o n (.slice oa (piece bs o k).length cap) i wr := by
  subst hi
  exact ⟨k + 1, oa, cap, hk, rfl, by rw [piece_over h], by rw [piece_over h]; exact hO, ho, hb⟩
set_option maxHeartbeats 1000000 in
theorem dPiece_any (a : Option Addr) (cap : Nat) (bs : List UInt8) (o n : Nat) (ho : o ≤ 1000000) (hn : n ≤ 100000) (hl : bs.length ≤ 1000000) (w : World) (hb : Bts w a bs) :
    Calls Try.prog 67 #[.slice a bs.length cap, .int .i64 (o : Int), .int .i64 (n : Int)] w (PiecP (piece bs o n) w) := by
  have HB := Lib.hid hb
  obtain ⟨m, hm⟩ : ∃ m, bs.length = m := ⟨_, rfl⟩
  rw [hm] at hl ⊢
  have HM := Lib.hid hm
  have HO := Lib.hid (OB.made w [] (Nat.zero_le _))
  have HB0 := Lib.hid (one_below w (.cells #[] 5))
  clear hb hm
  go_enter Try.func67, Try.ntmps67
  go_wp2_with fail
  go_loopw [7, 8] (fun l i wr => RelPi w bs o n l i wr) (fun _ i _ => n - (intOf i).toNat)
  case atStart => exact ⟨0, some ⟨w.heap.size, 0, none⟩, 0, Nat.zero_le _, rfl, by simp [piece], by simpa [piece, cellsB] using HO.out, fun q e => (by cases e; exact Nat.le_refl _), HB0.out⟩
  case round =>
    clear HO HB0
    obtain ⟨k, oa, oc, hk, rfl, rfl, hO, ho2, hBl⟩ := hrel
    have hpl := piece_le bs o k
    have hp1 : (piece bs o k).length ≤ 100000 := Nat.le_trans hpl (Nat.le_trans hk hn)
    by_cases hkn : k < n
    · by_cases hlt : o + k < m
      · obtain ⟨b, off, rfl, -, hc⟩ := (HB.out.below hBl).at (k := o + k) (by rw [HM.out]; exact hlt)
        have HOx := Lib.hid hO
        generalize hby : bs.getD (o + k) 0 = y at *
        have Hnx := Lib.hid fun w1 w2 oa2 cap2 h1 hO2 hC hB i hi => relPi_more (W := w) (wr := wr) (w1 := w1) (w2 := w2) (bs := bs) (o := o) (n := n) (k := k) hkn (by rw [HM.out]; exact hlt) (oa := oa) (oa2 := oa2) (cap2 := cap2) ho2 hBl h1 hO2 hC hB (i := i) hi
        rw [hby] at Hnx
        have hb1 := one_below wr (.cells #[.int .u8 (y.toNat : Int)] 5)
        have HO2 := Lib.hid (hO.below hb1)
        have hx1 := one_new wr y
        have HB1 := Lib.hid hb1
        have HJ := Lib.hid hkn
        generalize piece bs o k = ps at *
        clear hO ho2 hBl hb1 hby HOx
        obtain ⟨pl, hpl2⟩ : ∃ pl, ps.length = pl := ⟨_, rfl⟩
        rw [hpl2] at Hnx hp1 ⊢
        have HPL := Lib.hid hpl2
        clear hpl hpl2
        go_wp2_with (at_builtin; refine wpList_append_bytes rfl (.tmp 21) (.tmp 28) rfl (n := pl) (m := 1) (xs := [y]) HPL.out.symm rfl HO2.out rfl rfl hx1 (fun e => by cases e) (by omega) ?_
                     intro oa2 cap2 w2 hO3 hC2 hb2 _)
        go_roundw
        case rel => exact Hnx.out _ _ _ _ HB1.out hO3 hC2 hb2 _ (by go_num)
        case measure => exact meas_up HJ.out
      · have Hnx := Lib.hid fun i hi => relPi_same (W := w) (wr := wr) (bs := bs) (o := o) (n := n) (k := k) hkn (by rw [HM.out]; exact hlt) (oa := oa) (cap := oc) ho2 hBl hO (i := i) hi
        have HJ := Lib.hid hkn
        clear hO ho2 hBl hpl
        generalize piece bs o k = ps at *
        go_wp2_with fail
        go_roundw
        case rel => exact Hnx.out _ (by go_num)
        case measure => exact meas_up HJ.out
    · obtain rfl : k = n := by omega
      have HF := Lib.hid (show PiecP (piece bs o k) w (.returned (.slice oa (piece bs o k).length oc)) wr from ⟨oa, oc, rfl, hO, ho2, hBl⟩)
      clear hO ho2 hBl hpl
      go_wp2_with fail
      go_ret
      exact HF.out
end Go.Proofs.Ytkjgncmbhkhbnaa
namespace Go.Proofs.Ytkjgncmbhkhbnaa
open Go.RowKit
set_option linter.unusedVariables false
set_option maxRecDepth 100000

theorem ditem_a {kind : Int} {bs : List UInt8} {o k s : Nat} {key value : List UInt8} (h1 : kind = 1) (e1 : fld bs o 1 = k) (e2 : piece bs (o + 1) k = key) (e3 : fld bs (o + 1 + k) 2 = s) (h : s ≤ 32) (e4 : piece bs (o + 1 + k + 2) s = value) : ditem kind bs o = (⟨key, value, 0, s⟩, o + 1 + k + 2 + s) := by
  subst e1; subst e2; subst e3; subst e4; unfold ditem; simp only; rw [if_pos h1, if_pos h]
theorem ditem_b {kind : Int} {bs : List UInt8} {o k s c : Nat} {key : List UInt8} (h1 : kind = 1) (e1 : fld bs o 1 = k) (e2 : piece bs (o + 1) k = key) (e3 : fld bs (o + 1 + k) 2 = s) (h : ¬ s ≤ 32) (e4 : fld bs (o + 1 + k + 2) 4 = c) : ditem kind bs o = (⟨key, [], c, s⟩, o + 1 + k + 2 + 4) := by
  subst e1; subst e2; subst e3; subst e4; unfold ditem; simp only; rw [if_pos h1, if_neg h]
theorem ditem_c {kind : Int} {bs : List UInt8} {o k c : Nat} {key : List UInt8} (h1 : ¬ kind = 1) (e1 : fld bs o 1 = k) (e2 : piece bs (o + 1) k = key) (e4 : fld bs (o + 1 + k) 4 = c) : ditem kind bs o = (⟨key, [], c, 0⟩, o + 1 + k + 4) := by
  subst e1; subst e2; subst e4; unfold ditem; simp only; rw [if_neg h1]
theorem ditem_le (kind : Int) (bs : List UInt8) (o : Nat) : (ditem kind bs o).2 ≤ o + 300 := by
  have h1 := fld_lt bs o 1
  unfold ditem
  simp only
  split
  · split
    · simp only; omega
    · simp only; omega
  · simp only; omega
theorem dst_le (kind : Int) (bs : List UInt8) : ∀ i, (dst kind bs i).1 ≤ 15 + 300 * i
  | 0 => Nat.le_refl _
  | i + 1 => by
    have h1 := dst_le kind bs i
    have h2 := ditem_le kind bs (dst kind bs i).1
    rw [dst]; simp only; omega
theorem ditem_small (kind : Int) (bs : List UInt8) (o : Nat) : (ditem kind bs o).1.key.length ≤ 255 ∧ (ditem kind bs o).1.value.length ≤ 65535 := by
  have h1 := fld_lt bs o 1
  have h2 := piece_le bs (o + 1) (fld bs o 1)
  unfold ditem
  simp only
  split
  · split
    · have h3 := piece_le bs (o + 1 + fld bs o 1 + 2) (fld bs (o + 1 + fld bs o 1) 2)
      simp only; omega
    · simp only [List.length_nil]; omega
  · simp only [List.length_nil]; omega
theorem dst_small (kind : Int) (bs : List UInt8) : ∀ (i : Nat), ∀ x ∈ (dst kind bs i).2, x.key.length ≤ 255 ∧ x.value.length ≤ 65535
  | 0, x, hx => by cases hx
  | i + 1, x, hx => by
    rw [dst] at hx
    rcases List.mem_append.1 hx with hx | hx
    · exact dst_small kind bs i x hx
    · simp at hx; subst hx; exact ditem_small kind bs _
/-- while guess runs: its boxes and the list so far -/
structure GS (w0 : World) (kind lv : Int) (hi : Nat) (la : Option Addr) (lc n : Nat) (zs : List (PI × TA)) (w : World) : Prop where
  its : Its (w0.heap.size + 2) hi w la lc zs
  lat : ∀ k, blk la = some k → k < hi
  row : w.heap[w0.heap.size + 1]? = some (.cells #[.int .i64 kind, .int .i64 lv, .slice la n lc, .slice none 0 0, .int .i64 0] 27)
  zr : w.heap[w0.heap.size]? = some (.cells #[.int .i64 0, .int .i64 0, .slice none 0 0, .slice none 0 0, .int .i64 0] 27)
  bel : Below w0.heap.size w0 w
section
variable {w0 w w2 : World} {kind lv : Int} {hi n : Nat} {la : Option Addr} {lc : Nat} {zs : List (PI × TA)}
theorem GS.loc (h : GS w0 kind lv hi la lc n zs w) {t : Nat} (hc : Chg (fun k => k = t) w w2) (ht : hi ≤ t) : GS w0 kind lv hi la lc n zs w2 := by
  have hu := h.its.up.le
  exact ⟨h.its.chg hc (fun k e f => by have := h.lat k e; omega) (fun a ha k e f => by have := (h.its.up.mem a ha k e).2; omega), h.lat,
    (hc.block _ (rlt_of_heapP h.row) (by omega)).trans h.row, (hc.block _ (rlt_of_heapP h.zr) (by omega)).trans h.zr, h.bel.trans (hc.below h.bel.size (fun k e => by omega))⟩
theorem GS.below (h : GS w0 kind lv hi la lc n zs w) (hb : Below w.heap.size w w2) : GS w0 kind lv hi la lc n zs w2 :=
  ⟨h.its.below hb, h.lat, (hb.block _ (rlt_of_heapP h.row)).trans h.row, (hb.block _ (rlt_of_heapP h.zr)).trans h.zr, h.bel.trans (hb.mono h.bel.size)⟩
end
theorem dst_next {kind : Int} {bs : List UInt8} {j : Nat} {x : PI} {o : Nat} (h : ditem kind bs (dst kind bs j).1 = (x, o)) : dst kind bs (j + 1) = (o, (dst kind bs j).2 ++ [x]) := by rw [dst, h]
/-- where the loop stands -/
def RelGs (w0 : World) (kind lv : Int) (bs : List UInt8) (n : Nat) (at_ i : Value) (wr : World) : Prop :=
  ∃ (j : Nat) (la : Option Addr) (lc : Nat) (zs : List (PI × TA)), j ≤ n ∧ i = .int .i64 j ∧ at_ = .int .i64 ((dst kind bs j).1 : Nat) ∧ zs.map (·.1) = (dst kind bs j).2 ∧ GS w0 kind lv wr.heap.size la lc j zs wr
theorem relGs_next {w0 : World} {kind lv : Int} {bs : List UInt8} {n j hi : Nat} {la la' : Option Addr} {lc lc' : Nat} {zs : List (PI × TA)} {x : PI} {t : TA} {o : Nat} {w w' : World} (hj : j < n) (hz : zs.map (·.1) = (dst kind bs j).2) (hp : ditem kind bs (dst kind bs j).1 = (x, o))
    (h : GS w0 kind lv hi la lc j zs w) (hk : OB w t.ka t.kc x.key) (hv : OB w t.va t.vc x.value) (hu : Up hi w.heap.size [t.ka, t.va]) (h1 : i64ok x.child) (h3 : i64ok x.size)
    (hO : OR eIt w' la' lc' (j + 1) (cellsZ zs ++ cellsI (x, t))) (hC : Chg (fun k => blk la = some k) w w') (hb : blk la' = blk la ∨ blk la' = some w.heap.size) {a i : Value} (ha : a = .int .i64 (o : Nat)) (hi : i = .int .i64 ((j + 1 : Nat) : Int)) :
    RelGs w0 kind lv bs n a i (w'.setCell ⟨w0.heap.size + 1, 2, none⟩ (.slice la' (j + 1) lc')) := by
  subst hi
  subst ha
  have hl : zs.length = j := by have := congrArg List.length hz; rw [List.length_map, dst_length] at this; exact this
  have hI := h.its.snoc (x := x) (t := t) hk hv hu (Nat.le_refl _) h.lat h1 h3 (by rw [hl]; exact hO) hC hb
  have hS := Chg.set w' ⟨w0.heap.size + 1, 2, none⟩ (.slice la' (j + 1) lc')
  have hrow := (hC.block _ (rlt_of_heapP h.row) (fun e => by have := h.its.lob _ e; omega)).trans h.row
  refine ⟨j + 1, la', lc', zs ++ [(x, t)], hj, rfl, by rw [dst_next hp], by rw [dst_next hp, List.map_append, hz]; rfl, ?_, ?_, ?_, ?_, ?_⟩
  · refine (hI.chg hS (fun k e f => ?_) (fun a ha k e f => ?_)).hi ?_ (Nat.le_refl _)
    · simp only at f; have := hI.lob k e; omega
    · simp only at f; have := (hI.up.mem a ha k e).1; omega
    · exact Nat.le_trans hC.size hS.size
  · intro k e
    exact Nat.lt_of_lt_of_le (hI.own.lt k e) hS.size
  · rw [set_rowP hrow]; rfl
  · exact (hS.block _ (Nat.lt_of_lt_of_le (rlt_of_heapP h.zr) hC.size) (by simp)).trans ((hC.block _ (rlt_of_heapP h.zr) (fun e => by have := h.its.lob _ e; omega)).trans h.zr)
  · exact (h.bel.trans (hC.below h.bel.size (fun k e => by have := h.its.lob k e; omega))).trans (hS.below (Nat.le_trans h.bel.size hC.size) (fun k e => by simp only at e; omega))
/-- what guess leaves -/
def GuesP (p : PP) (w : World) (x : Ending) (w' : World) : Prop :=
  ∃ ia ic da dc, x = .returned (pgv p ia ic da dc) ∧ NewPg w.heap.size w' p ia ic da dc ∧ Below w.heap.size w w'
theorem gues_yes {w W : World} {p : PP} {ia : Option Addr} {ic : Nat} {da : Option Addr} {dc : Nat} (h : NewPg (w.heap.size + 1) W p ia ic da dc) (hb : Below w.heap.size w W) (v0 v1 v2 v3 v4 : Value) :
    GuesP p w (.returned (pgv p ia ic da dc)) (((((W.setCell ⟨w.heap.size, 0, none⟩ v0).setCell ⟨w.heap.size, 1, none⟩ v1).setCell ⟨w.heap.size, 2, none⟩ v2).setCell ⟨w.heap.size, 3, none⟩ v3).setCell ⟨w.heap.size, 4, none⟩ v4) :=
  ⟨ia, ic, da, dc, rfl, (h.chg (chg_five W w.heap.size v0 v1 v2 v3 v4) (fun k e => by omega)).low (by omega), below_five hb (Nat.le_refl _) _ _ _ _ _⟩
theorem dguess_b {bs : List UInt8} (hk : fld bs 0 1 = 3) {lv x m : Nat} {d : List UInt8} (h0 : fld bs 1 1 = lv) (h1 : fld bs 16 4 = x) (h2 : fld bs 14 2 = m) (h3 : piece bs 20 m = d) : dguess bs = ⟨3, lv, [], d, x⟩ := by
  subst h0; subst h1; subst h2; subst h3; unfold dguess; rw [if_pos hk]
theorem dguess_i {bs : List UInt8} {k lv c : Nat} (e : fld bs 0 1 = k) (hk : ¬ k = 3) (h0 : fld bs 1 1 = lv) (h1 : fld bs 14 1 = c) : dguess bs = ⟨k, lv, (dst (k : Int) bs (min c 9)).2, [], 0⟩ := by
  subst e; subst h0; subst h1; unfold dguess; rw [if_neg hk]
theorem fld_byte (bs : List UInt8) (o : Nat) : fld bs o 1 = (bs.getD o 0).toNat := by
  rw [fld_cons, fld_none]; rfl
end Go.Proofs.Ytkjgncmbhkhbnaa
namespace Go.Proofs.Ytkjgncmbhkhbnaa
open Go.RowKit
set_option linter.unusedVariables false
set_option maxRecDepth 100000

theorem fld_small (bs : List UInt8) (o k : Nat) (hk : k ≤ 4) : fld bs o k < 9223372036854775808 :=
  Nat.lt_of_lt_of_le (fld_lt bs o k) (Nat.le_trans (Nat.pow_le_pow_right (by decide) hk) (by decide))
/-- the boxes of a blob -/
structure GB (w0 : World) (lv : Int) (da : Option Addr) (dl dc : Nat) (nx : Int) (w : World) : Prop where
  row : w.heap[w0.heap.size + 1]? = some (.cells #[.int .i64 3, .int .i64 lv, .slice none 0 0, .slice da dl dc, .int .i64 nx] 27)
  zr : w.heap[w0.heap.size]? = some (.cells #[.int .i64 0, .int .i64 0, .slice none 0 0, .slice none 0 0, .int .i64 0] 27)
  bel : Below w0.heap.size w0 w
section
variable {w0 w w2 : World} {lv nx : Int} {dl dc : Nat} {da : Option Addr}
theorem GB.below (h : GB w0 lv da dl dc nx w) (hb : Below w.heap.size w w2) : GB w0 lv da dl dc nx w2 :=
  ⟨(hb.block _ (rlt_of_heapP h.row)).trans h.row, (hb.block _ (rlt_of_heapP h.zr)).trans h.zr, h.bel.trans (hb.mono h.bel.size)⟩
theorem GB.next (h : GB w0 lv da dl dc nx w) (n2 : Int) : GB w0 lv da dl dc n2 (w.setCell ⟨w0.heap.size + 1, 4, none⟩ (.int .i64 n2)) :=
  ⟨by rw [set_rowP h.row]; rfl, ((Chg.set w ⟨w0.heap.size + 1, 4, none⟩ (.int .i64 n2)).block _ (rlt_of_heapP h.zr) (by simp)).trans h.zr, h.bel.setCell (Nat.le_succ _) _⟩
theorem GB.data (h : GB w0 lv da dl dc nx w) (da2 : Option Addr) (dl2 dc2 : Nat) : GB w0 lv da2 dl2 dc2 nx (w.setCell ⟨w0.heap.size + 1, 3, none⟩ (.slice da2 dl2 dc2)) :=
  ⟨by rw [set_rowP h.row]; rfl, ((Chg.set w ⟨w0.heap.size + 1, 3, none⟩ (.slice da2 dl2 dc2)).block _ (rlt_of_heapP h.zr) (by simp)).trans h.zr, h.bel.setCell (Nat.le_succ _) _⟩
end
set_option maxHeartbeats 1000000 in
theorem dGuess_blob (a : Option Addr) (cap : Nat) (bs : List UInt8) (hl : bs.length = 512) (hk : fld bs 0 1 = 3) (w : World) (hb : Bts w a bs) :
    Calls Try.prog 59 #[.slice a 512 cap] w (GuesP (dguess bs) w) := by
  have HNU := Lib.hid fun (o n : Nat) (ho : o ≤ 1000000) (hn : n ≤ 4) (w1 : World) (h : Below w.heap.size w w1) => dNumber_any a cap bs o n ho (by omega) (by omega) w1 (hb.below h) (fld_small bs o n hn)
  have HPI := Lib.hid fun (o n : Nat) (ho : o ≤ 1000000) (hn : n ≤ 100000) (w1 : World) (h : Below w.heap.size w w1) => dPiece_any a cap bs o n ho hn (by omega) w1 (hb.below h)
  simp only [hl] at HNU HPI
  unfold PiecP at HPI
  obtain ⟨b, off, rfl, hbw, -⟩ := hb.at (k := 0) (by omega)
  have HB := Lib.hid hb
  have HL := Lib.hid hl
  have h0 : bs.getD 0 0 = 3 := by rw [fld_byte] at hk; exact UInt8.toNat_inj.1 hk
  have hlt := (bs.getD 1 0).toNat_lt
  obtain ⟨lv, hlv⟩ : ∃ lv, (bs.getD 1 0).toNat = lv := ⟨_, rfl⟩
  rw [hlv] at hlt
  have HLV := Lib.hid hlv
  have HG := Lib.hid (dguess_b hk ((fld_byte bs 1).trans hlv) rfl rfl rfl)
  obtain ⟨nx, hnx⟩ : ∃ nx, fld bs 16 4 = nx := ⟨_, rfl⟩
  obtain ⟨m, hm⟩ : ∃ m, fld bs 14 2 = m := ⟨_, rfl⟩
  have hnl := fld_lt bs 16 4
  have hml := fld_lt bs 14 2
  have H1 := HNU.out 16 4 (by decide) (by decide)
  have H2 := HNU.out 14 2 (by decide) (by decide)
  rw [hnx] at H1 HG hnl
  rw [hm] at H2 HG hml
  have H3 := HPI.out 20 m (by decide) (Nat.le_of_lt (Nat.lt_of_lt_of_le hml (by decide)))
  generalize piece bs 20 m = ds at H3 HG
  have H1 := Lib.hid H1
  have H2 := Lib.hid H2
  have H3 := Lib.hid H3
  obtain ⟨dl, hdl⟩ : ∃ dl, ds.length = dl := ⟨_, rfl⟩
  simp only [hdl] at H3
  have HDL := Lib.hid hdl
  have HB0 := Lib.hid (one_below w (.cells #[.int .i64 0, .int .i64 0, .slice none 0 0, .slice none 0 0, .int .i64 0] 27))
  have HZ0 := Lib.hid (heap_alloc_new w (.cells #[.int .i64 0, .int .i64 0, .slice none 0 0, .slice none 0 0, .int .i64 0] 27))
  clear hb hl hk hnx hm hdl hlv HNU HPI hnl hml
  go_enter Try.func59, Try.ntmps59
  have hc0 : (w.alloc (.cells #[.int .i64 0, .int .i64 0, .slice none 0 0, .slice none 0 0, .int .i64 0] 27)).cell? ⟨b, off, none⟩ = some (.int .u8 3) := by
    obtain ⟨b2, o2, e, -, h⟩ := (HB.out.below HB0.out).at (k := 0) (by rw [HL.out]; decide)
    cases e; rw [h0] at h; exact h
  have hc1 : (w.alloc (.cells #[.int .i64 0, .int .i64 0, .slice none 0 0, .slice none 0 0, .int .i64 0] 27)).cell? ⟨b, off + 1, none⟩ = some (.int .u8 lv) := by
    obtain ⟨b2, o2, e, -, h⟩ := (HB.out.below HB0.out).at (k := 1) (by rw [HL.out]; decide)
    cases e; rw [← HLV.out]; exact h
  go_wp2_with fail
  have hW0s : (w.alloc (.cells #[.int .i64 0, .int .i64 0, .slice none 0 0, .slice none 0 0, .int .i64 0] 27)).heap.size = w.heap.size + 1 := by simp
  generalize w.alloc (.cells #[.int .i64 0, .int .i64 0, .slice none 0 0, .slice none 0 0, .int .i64 0] 27) = W0 at *
  have hb1 := one_below W0 (.cells #[.int .i64 0, .int .i64 0, .slice none 0 0, .slice none 0 0, .int .i64 0] 27)
  have hd0 := (hb1.cell (p := ⟨b, off, none⟩) (by show b < W0.heap.size; omega)).trans hc0
  have hd1 := (hb1.cell (p := ⟨b, off + 1, none⟩) (by show b < W0.heap.size; omega)).trans hc1
  have HB1 := Lib.hid (show GB w lv none 0 0 0 (W0.alloc (.cells #[.int .i64 3, .int .i64 lv, .slice none 0 0, .slice none 0 0, .int .i64 0] 27)).drew from
    GB.below (w := W0.alloc (.cells #[.int .i64 3, .int .i64 lv, .slice none 0 0, .slice none 0 0, .int .i64 0] 27)) ⟨by rw [← hW0s]; exact heap_alloc_new _ _, ((one_below W0 _).block _ (by omega)).trans HZ0.out, HB0.out.trans ((one_below W0 _).mono HB0.out.size)⟩ ((Below.refl _ _).drew))
  clear hb1
  go_region
  clear hd0 hd1 hc0 hc1 HZ0 hW0s hbw
  generalize (W0.alloc _).drew = W1 at HB1 ⊢
  clear HB0 HB
  obtain ⟨x0, x1, x2, x3, x4, xf⟩ := cells5f HB1.out.row
  have f4 := xf 4
  clear xf
  go_wp2_with fail
  refine (H1.out _ HB1.out.bel).mono ?_
  rintro _ wx ⟨rfl, e0⟩
  rw [e0]
  clear e0 wx
  have HB2 := Lib.hid (HB1.out.next (nx : Int))
  go_wp2_with fail
  generalize W1.setCell _ _ = W2 at HB2 ⊢
  refine (H2.out _ HB2.out.bel).mono ?_
  rintro _ wx ⟨rfl, e0⟩
  rw [e0]
  clear e0 wx
  clear x0 x1 x2 x3 x4 f4 H1 H2
  go_wp2_with fail
  refine (H3.out _ HB2.out.bel).mono ?_
  rintro _ W3 ⟨da, dc, rfl, hO, ho, hB3⟩
  have HB3 := Lib.hid (HB2.out.below hB3)
  have HN3 := Lib.hid (show NewPg (w.heap.size + 2) W3 ⟨3, lv, [], ds, nx⟩ none 0 da dc from newPg_blob (Nat.le_trans (rlt_of_heapP HB2.out.row) hB3.size) hO (fun k e => Nat.le_trans (rlt_of_heapP HB2.out.row) (ho k e)))
  clear hB3 hO ho H3
  obtain ⟨x0, x1, x2, x3, x4, xf⟩ := cells5f HB3.out.row
  have f3 := xf 3
  clear xf
  have HB4 := Lib.hid (HB3.out.data da dl dc)
  have HN4 := Lib.hid (HN3.out.chg (Chg.set W3 ⟨w.heap.size + 1, 3, none⟩ (.slice da dl dc)) (fun k e => by simp only at e; omega))
  obtain ⟨r0, r1, r2, r3, r4, rf⟩ := cells5f HB3.out.zr
  have g0 := rf 0
  have g1 := rf 1
  have g2 := rf 2
  have g3 := rf 3
  have g4 := rf 4
  have hzq : w.heap.size ≠ w.heap.size + 1 := (Nat.succ_ne_self _).symm
  have hzq2 : w.heap.size + 1 ≠ w.heap.size := Nat.succ_ne_self _
  clear rf
  go_wp2_with fail
  refine bodyPost_ret (v := .agg #[.int .i64 3, .int .i64 lv, .slice none 0 0, .slice da dl dc, .int .i64 nx]) (by simp [results, Try.results59, go_sem, r0, r1, r2, r3, r4]) rfl ?_
  have hf := gues_yes (HN4.out.low (Nat.le_succ _)) HB4.out.bel (.int .i64 3) (.int .i64 lv) (.slice none 0 0) (.slice da dl dc) (.int .i64 nx)
  rw [HG.out]
  unfold pgv at hf
  simp only [HDL.out] at hf
  exact hf
end Go.Proofs.Ytkjgncmbhkhbnaa
namespace Go.Proofs.Ytkjgncmbhkhbnaa
open Go.RowKit
set_option linter.unusedVariables false
set_option maxRecDepth 100000

theorem ItBox.below {w w' : World} {t kl kc vl vc : Nat} {ka va : Option Addr} {child size : Int} (h : ItBox w t ka kl kc va vl vc child size) (hb : Below w.heap.size w w') : ItBox w' t ka kl kc va vl vc child size :=
  (hb.block t (rlt_of_heapP h)).trans h
theorem GS.start {w W : World} {kind lv : Int} (hr : W.heap[w.heap.size + 1]? = some (.cells #[.int .i64 kind, .int .i64 lv, .slice none 0 0, .slice none 0 0, .int .i64 0] 27)) (hz : W.heap[w.heap.size]? = some (.cells #[.int .i64 0, .int .i64 0, .slice none 0 0, .slice none 0 0, .int .i64 0] 27)) (hb : Below w.heap.size w W) : GS w kind lv W.heap.size none 0 0 [] W :=
  ⟨⟨OR.nil eIt _, fun z hz => (by cases hz), fun k hk => (by cases hk), rlt_of_heapP hr, fun a ha => (by cases ha), fun z hz => (by cases hz), Nat.le_refl _⟩, fun k hk => (by cases hk), hr, hz, hb⟩
set_option maxHeartbeats 4000000 in
theorem dGuess_items (a : Option Addr) (cap : Nat) (bs : List UInt8) (hl : bs.length = 512) (hk : ¬ fld bs 0 1 = 3) (w : World) (hb : Bts w a bs) :
    Calls Try.prog 59 #[.slice a 512 cap] w (GuesP (dguess bs) w) := by
  have HNU := Lib.hid fun (o n : Nat) (ho : o ≤ 1000000) (hn : n ≤ 4) (w1 : World) (h : Below w.heap.size w w1) => dNumber_any a cap bs o n ho (by omega) (by omega) w1 (hb.below h) (fld_small bs o n hn)
  have HPI := Lib.hid fun (o n : Nat) (ho : o ≤ 1000000) (hn : n ≤ 100000) (w1 : World) (h : Below w.heap.size w w1) => dPiece_any a cap bs o n ho hn (by omega) w1 (hb.below h)
  simp only [hl] at HNU HPI
  unfold PiecP at HPI
  obtain ⟨b, off, rfl, hbw, -⟩ := hb.at (k := 0) (by omega)
  have HB := Lib.hid hb
  have HL := Lib.hid hl
  have hkt := (bs.getD 0 0).toNat_lt
  have hlt := (bs.getD 1 0).toNat_lt
  have hct := (bs.getD 14 0).toNat_lt
  obtain ⟨k, hkk⟩ : ∃ k, (bs.getD 0 0).toNat = k := ⟨_, rfl⟩
  obtain ⟨lv, hlv⟩ : ∃ lv, (bs.getD 1 0).toNat = lv := ⟨_, rfl⟩
  obtain ⟨c, hcc⟩ : ∃ c, (bs.getD 14 0).toNat = c := ⟨_, rfl⟩
  rw [hkk] at hkt
  rw [hlv] at hlt
  rw [hcc] at hct
  rw [fld_byte, hkk] at hk
  have HLV := Lib.hid hlv
  have HKK := Lib.hid hkk
  have HCC := Lib.hid hcc
  have HG := Lib.hid (dguess_i ((fld_byte bs 0).trans hkk) hk ((fld_byte bs 1).trans hlv) ((fld_byte bs 14).trans hcc))
  have hk3 : ((k : Int) == 3) = false := by rw [beq_eq_false_iff_ne]; omega
  have HB0 := Lib.hid (one_below w (.cells #[.int .i64 0, .int .i64 0, .slice none 0 0, .slice none 0 0, .int .i64 0] 27))
  have HZ0 := Lib.hid (heap_alloc_new w (.cells #[.int .i64 0, .int .i64 0, .slice none 0 0, .slice none 0 0, .int .i64 0] 27))
  clear hb hl hkk hlv hcc
  go_enter Try.func59, Try.ntmps59
  have hc0 : (w.alloc (.cells #[.int .i64 0, .int .i64 0, .slice none 0 0, .slice none 0 0, .int .i64 0] 27)).cell? ⟨b, off, none⟩ = some (.int .u8 k) := by
    obtain ⟨b2, o2, e, -, h⟩ := (HB.out.below HB0.out).at (k := 0) (by rw [HL.out]; decide)
    cases e; rw [← HKK.out]; exact h
  have hc1 : (w.alloc (.cells #[.int .i64 0, .int .i64 0, .slice none 0 0, .slice none 0 0, .int .i64 0] 27)).cell? ⟨b, off + 1, none⟩ = some (.int .u8 lv) := by
    obtain ⟨b2, o2, e, -, h⟩ := (HB.out.below HB0.out).at (k := 1) (by rw [HL.out]; decide)
    cases e; rw [← HLV.out]; exact h
  have H14 := Lib.hid fun (w1 : World) (h : Below w.heap.size w w1) => (show w1.cell? ⟨b, off + 14, none⟩ = some (.int .u8 c) by
    obtain ⟨b2, o2, e, -, h⟩ := (HB.out.below h).at (k := 14) (by rw [HL.out]; decide)
    cases e; rw [← HCC.out]; exact h)
  go_wp2_with fail
  have hW0s : (w.alloc (.cells #[.int .i64 0, .int .i64 0, .slice none 0 0, .slice none 0 0, .int .i64 0] 27)).heap.size = w.heap.size + 1 := by simp
  generalize w.alloc (.cells #[.int .i64 0, .int .i64 0, .slice none 0 0, .slice none 0 0, .int .i64 0] 27) = W0 at *
  have hb1 := one_below W0 (.cells #[.int .i64 0, .int .i64 0, .slice none 0 0, .slice none 0 0, .int .i64 0] 27)
  have hd0 := (hb1.cell (p := ⟨b, off, none⟩) (by show b < W0.heap.size; omega)).trans hc0
  have hd1 := (hb1.cell (p := ⟨b, off + 1, none⟩) (by show b < W0.heap.size; omega)).trans hc1
  have HW1 := Lib.hid (show (W0.alloc (.cells #[.int .i64 k, .int .i64 lv, .slice none 0 0, .slice none 0 0, .int .i64 0] 27)).drew.heap[w.heap.size + 1]? = some (.cells #[.int .i64 k, .int .i64 lv, .slice none 0 0, .slice none 0 0, .int .i64 0] 27) ∧ (W0.alloc (.cells #[.int .i64 k, .int .i64 lv, .slice none 0 0, .slice none 0 0, .int .i64 0] 27)).drew.heap[w.heap.size]? = some (.cells #[.int .i64 0, .int .i64 0, .slice none 0 0, .slice none 0 0, .int .i64 0] 27) ∧ Below w.heap.size w (W0.alloc (.cells #[.int .i64 k, .int .i64 lv, .slice none 0 0, .slice none 0 0, .int .i64 0] 27)).drew from
    ⟨by rw [← hW0s]; exact heap_alloc_new _ _, ((one_below W0 _).block _ (by omega)).trans HZ0.out, (HB0.out.trans ((one_below W0 _).mono HB0.out.size)).drew⟩)
  clear hb1
  go_region
  clear hd0 hd1 hc0 hc1 HZ0 hW0s hbw
  generalize (W0.alloc _).drew = W1 at HW1 ⊢
  have HS1 := Lib.hid (GS.start HW1.out.1 HW1.out.2.1 HW1.out.2.2)
  clear HB0 HW1
  obtain ⟨x0, x1, x2, x3, x4, -⟩ := cells5f HS1.out.row
  go_wp2_with fail
  clear x0 x1 x2 x3 x4
  have hnm : ∃ n, min c 9 = n := ⟨_, rfl⟩
  obtain ⟨n, hn⟩ := hnm
  go_loopw [4, 5] (fun o i wr => RelGs w k lv bs n o i wr) (fun _ i _ => n - (intOf i).toNat)
  case atStart => exact ⟨0, none, 0, [], Nat.zero_le _, rfl, rfl, rfl, HS1.out⟩
  case round =>
    clear HS1
    obtain ⟨j, la, lc, zs, hj, rfl, rfl, hzs, hS⟩ := hrel
    have hc14 := H14.out _ hS.bel
    by_cases hjn : j < n
    · have hjc : (j : Int) < (c : Int) := by omega
      have hj8 : (j : Int) ≤ 8 := by omega
      have hzl : zs.length = j := by have := congrArg List.length hzs; rw [List.length_map, dst_length] at this; exact this
      have hol := dst_le k bs j
      have Hnx := Lib.hid fun x t o w' w'' la' lc' hp h hk hv hu h1 h3 hO hC hb a i ha hi => relGs_next (w0 := w) (lv := lv) (la := la) (la' := la') (lc' := lc') (x := x) (t := t) (o := o) (w := w') (w' := w'') (a := a) (i := i) (hi := wr.heap.size) (lc := lc) hjn hzs hp h hk hv hu h1 h3 hO hC hb ha hi
      have HS := Lib.hid hS
      have HOW := Lib.hid hS.its.own
      have HHI := Lib.hid hS.its.up.le
      have HJ := Lib.hid hjn
      have HZL := Lib.hid hzl
      clear hzs hS hj hjn hzl hn
      generalize (dst k bs j).1 = o at *
      have hoj : o ≤ 3000 := by omega
      clear hol
      generalize hhi : wr.heap.size = hi at HS Hnx HHI
      have HTP := Lib.hid hhi
      clear hhi
      obtain ⟨k1, e1⟩ : ∃ k1, fld bs o 1 = k1 := ⟨_, rfl⟩
      have hk1 := fld_lt bs o 1
      obtain ⟨p1, ep⟩ : ∃ p1, o + 1 = p1 := ⟨_, rfl⟩
      obtain ⟨o1, eo1⟩ : ∃ o1, o + 1 + k1 = o1 := ⟨_, rfl⟩
      obtain ⟨o2, eo2⟩ : ∃ o2, o1 + 2 = o2 := ⟨_, rfl⟩
      have E1 := Lib.hid e1
      have H1 := HNU.out o 1 (by omega) (by decide)
      rw [e1] at H1 hk1
      have H1 := Lib.hid H1
      have hpi : (o : Int) + 1 = (p1 : Int) := by omega
      have hoi1 : (o : Int) + (1 + (k1 : Int)) = (o1 : Int) := by omega
      have hoi2 : (o1 : Int) + 2 = (o2 : Int) := by omega
      have hob1 : o1 ≤ 4000 := by omega
      have hob2 : o2 ≤ 4002 := by omega
      obtain ⟨key, ey⟩ : ∃ key, piece bs p1 k1 = key := ⟨_, rfl⟩
      have H2 := HPI.out p1 k1 (by omega) (by omega)
      rw [ey] at H2
      have EP := Lib.hid ep
      have EO1 := Lib.hid eo1
      have EO2 := Lib.hid eo2
      have EY := Lib.hid ey
      obtain ⟨kl, hkl⟩ : ∃ kl, key.length = kl := ⟨_, rfl⟩
      simp only [hkl] at H2
      have HKL := Lib.hid hkl
      have H2 := Lib.hid H2
      clear e1 ep eo1 eo2 ey hkl
      obtain ⟨x0, x1, x2, x3, x4, -⟩ := cells5f HS.out.row
      go_wp2_with fail
      refine (H1.out _ HS.out.bel).mono ?_
      rintro _ wx ⟨rfl, e0⟩
      rw [e0]
      clear e0 wx
      go_wp2_with fail
      refine (H2.out _ HS.out.bel).mono ?_
      rintro _ w3 ⟨ka, kc, rfl, hK, hk0, hB3⟩
      have HS3 := Lib.hid (HS.out.below hB3)
      have hs3 := hB3.size
      rw [HTP.out] at hs3 hk0
      have hkk1 := hK.lt
      have HK4 := Lib.hid (hK.below (one_below w3 (.cells #[.slice ka kl kc, .slice none 0 0, .int .i64 0, .int .i64 0] 64)))
      have HBX := Lib.hid (show ItBox (w3.alloc (.cells #[.slice ka kl kc, .slice none 0 0, .int .i64 0, .int .i64 0] 64)) w3.heap.size ka kl kc none 0 0 0 0 from heap_alloc_new _ _)
      have HS4 := Lib.hid (HS3.out.below (one_below w3 (.cells #[.slice ka kl kc, .slice none 0 0, .int .i64 0, .int .i64 0] 64)))
      have HK1 := Lib.hid hkk1
      have HK0 := Lib.hid hk0
      clear hK hk0 hkk1 hB3 H2 hc14 x0 x1 x2 x3 x4
      go_wp2_with fail
      generalize w3.alloc (.cells #[.slice ka kl kc, .slice none 0 0, .int .i64 0, .int .i64 0] 64) = w4 at HK4 HBX HS4 ⊢
      have htq : w3.heap.size ≠ w.heap.size + 1 := by have := rlt_of_heapP HS3.out.row; omega
      have htq2 : w.heap.size + 1 ≠ w3.heap.size := fun e => htq e.symm
      generalize w3.heap.size = t at HBX HK1 hs3 htq htq2 ⊢
      have HTH := Lib.hid hs3
      clear HS3 hs3
      refine (H1.out _ HS4.out.bel).mono ?_
      rintro _ wx ⟨rfl, e0⟩
      rw [e0]
      clear e0 wx
      clear H1
      obtain ⟨y0, y1, y2, y3, y4, -⟩ := cells5f HS4.out.row
      by_cases hk1n : k = 1
      · have HK11 := Lib.hid (show (k : Int) = 1 by omega)
        have hkd : ((k : Int) == 1) = true := by rw [beq_iff_eq]; omega
        clear hk1n
        obtain ⟨s, e3⟩ : ∃ s, fld bs o1 2 = s := ⟨_, rfl⟩
        have hsl := fld_lt bs o1 2
        have H3 := HNU.out o1 2 (by omega) (by decide)
        rw [e3] at H3 hsl
        have H3 := Lib.hid H3
        have E3 := Lib.hid e3
        clear e3
        go_wp2_with fail
        refine (H3.out _ HS4.out.bel).mono ?_
        rintro _ wx ⟨rfl, e0⟩
        rw [e0]
        clear e0 wx H3
        obtain ⟨u0, u1, u2, u3, uf⟩ := HBX.out.cells
        have f3 := uf 3
        clear uf
        have HS6 := Lib.hid (HS4.out.loc (Chg.set w4 ⟨t, 3, none⟩ (.int .i64 (s : Int))) HTH.out)
        have HB6 := Lib.hid (HBX.out.setSize (s : Int))
        have HK6 := Lib.hid (HK4.out.chg (Chg.set w4 ⟨t, 3, none⟩ (.int .i64 (s : Int))) (fun k e f => absurd f (Nat.ne_of_lt (HK1.out k e))))
        have hst : (w4.setCell ⟨t, 3, none⟩ (.int .i64 (s : Int))).cell? ⟨t, 3, none⟩ = some (.int .i64 (s : Int)) := HB6.out.cells.2.2.2.1
        by_cases hs : s ≤ 32
        · have hsi : (s : Int) ≤ 32 := by omega
          obtain ⟨value, e4⟩ : ∃ value, piece bs o2 s = value := ⟨_, rfl⟩
          have H4 := HPI.out o2 s (by omega) (by omega)
          rw [e4] at H4
          have E4 := Lib.hid e4
          obtain ⟨vl, hvl⟩ : ∃ vl, value.length = vl := ⟨_, rfl⟩
          simp only [hvl] at H4
          have HVL := Lib.hid hvl
          have H4 := Lib.hid H4
          obtain ⟨o3, eo3⟩ : ∃ o3, o2 + s = o3 := ⟨_, rfl⟩
          have hoi3 : (o2 : Int) + (s : Int) = (o3 : Int) := by omega
          have EO3 := Lib.hid eo3
          clear e4 hvl eo3
          go_wp2_with fail
          refine (H4.out _ HS6.out.bel).mono ?_
          rintro _ w7 ⟨va, vc, rfl, hV, hv0, hB7⟩
          have HS7 := Lib.hid (HS6.out.below hB7)
          have HB7 := Lib.hid (HB6.out.below hB7)
          have HK7 := Lib.hid (HK6.out.below hB7)
          have HV0 := Lib.hid fun k e => Nat.lt_of_lt_of_le (rlt_of_heapP HB6.out) (hv0 k e)
          have HV1 := Lib.hid hV.lt
          have HV := Lib.hid hV
          clear hB7 H4 hV hv0 u0 u1 u2 u3 f3 hst y0 y1 y2 y3 y4
          obtain ⟨u0, u1, u2, u3, uf⟩ := HB7.out.cells
          have f1 := uf 1
          clear uf
          obtain ⟨y0, y1, y2, y3, y4, -⟩ := cells5f HS7.out.row
          have HS8 := Lib.hid (HS7.out.loc (Chg.set w7 ⟨t, 1, none⟩ (.slice va vl vc)) HTH.out)
          have HB8 := Lib.hid (HB7.out.setValue va vl vc)
          have HK8 := Lib.hid (HK7.out.chg (Chg.set w7 ⟨t, 1, none⟩ (.slice va vl vc)) (fun k e f => absurd f (Nat.ne_of_lt (HK1.out k e))))
          have HV8 := Lib.hid (HV.out.chg (Chg.set w7 ⟨t, 1, none⟩ (.slice va vl vc)) (fun k e f => absurd f.symm (Nat.ne_of_lt (HV0.out k e))))
          have HV81 := Lib.hid fun k e => (Nat.lt_of_lt_of_le (HV1.out k e) (Chg.set w7 ⟨t, 1, none⟩ (.slice va vl vc)).size)
          have HT8 := Lib.hid (rlt_of_heapP HB8.out)
          have HS9 := Lib.hid (HS8.out.below (one_below (w7.setCell ⟨t, 1, none⟩ (.slice va vl vc)) (.cells #[.slice ka kl kc, .slice va vl vc, .int .i64 0, .int .i64 (s : Int)] 64)))
          have HK9 := Lib.hid (HK8.out.below (one_below (w7.setCell ⟨t, 1, none⟩ (.slice va vl vc)) (.cells #[.slice ka kl kc, .slice va vl vc, .int .i64 0, .int .i64 (s : Int)] 64)))
          have HV9 := Lib.hid (HV8.out.below (one_below (w7.setCell ⟨t, 1, none⟩ (.slice va vl vc)) (.cells #[.slice ka kl kc, .slice va vl vc, .int .i64 0, .int .i64 (s : Int)] 64)))
          have hnw := news_item (w7.setCell ⟨t, 1, none⟩ (.slice va vl vc)) (.slice ka kl kc) (.slice va vl vc) (.int .i64 0) (.int .i64 (s : Int))
          rw [size_set] at hnw
          have HNW := Lib.hid hnw
          clear hnw
          have HUP := Lib.hid (show Up hi ((w7.setCell ⟨t, 1, none⟩ (.slice va vl vc)).alloc (.cells #[.slice ka kl kc, .slice va vl vc, .int .i64 0, .int .i64 (s : Int)] 64)).heap.size [ka, va] from Up.two (m := t) HTH.out (Nat.le_of_lt (Nat.lt_of_lt_of_le HT8.out (one_below (w7.setCell ⟨t, 1, none⟩ (.slice va vl vc)) _).size)) (fun k e => ⟨HK0.out k e, HK1.out k e⟩) (fun k e => ⟨Nat.le_of_lt (HV0.out k e), Nat.lt_of_lt_of_le (HV81.out k e) (one_below (w7.setCell ⟨t, 1, none⟩ (.slice va vl vc)) _).size⟩))
          have HOL := Lib.hid (show OR eIt ((w7.setCell ⟨t, 1, none⟩ (.slice va vl vc)).alloc (.cells #[.slice ka kl kc, .slice va vl vc, .int .i64 0, .int .i64 (s : Int)] 64)) la lc j (cellsZ zs) by have := HS9.out.its.own; rwa [HZL.out] at this)
          have HRQ := Lib.hid fun (w10 : World) (hC : Chg (fun k => blk la = some k) ((w7.setCell ⟨t, 1, none⟩ (.slice va vl vc)).alloc (.cells #[.slice ka kl kc, .slice va vl vc, .int .i64 0, .int .i64 (s : Int)] 64)) w10) => (hC.block _ (rlt_of_heapP HS9.out.row) (fun e => by have := HS9.out.its.lob _ e; omega)).trans HS9.out.row
          go_wp2_with (at_builtin; go_must (refine wpList_append_or eIt rfl (.tmp 88) (.tmp 90) rfl rfl HOL.out rfl (m := 1) (news := [.slice ka kl kc, .slice va vl vc, .int .i64 0, .int .i64 (s : Int)]) rfl (.inr ⟨_, rfl, HNW.out⟩) (by simp [Value.oneCell']) (by show (j + 1) * 64 ≤ _; omega) (by omega) ?_)
                       intro la2 lc2 w10 hO10 hC10 hb10 _; obtain ⟨z0, z1, z2, z3, z4, zf⟩ := cells5f (HRQ.out w10 hC10); have zf2 := zf 2; clear zf)
          go_roundw
          case rel => exact Hnx.out ⟨key, value, 0, (s : Int)⟩ ⟨ka, kc, va, vc⟩ _ _ _ _ _ (ditem_a HK11.out E1.out (by rw [EP.out]; exact EY.out) (by rw [EO1.out]; exact E3.out) hs (by rw [EO1.out, EO2.out]; exact E4.out)) HS9.out HK9.out HV9.out HUP.out i64_zero (i64_small hsl (by decide)) (by simp only [cellsI, HKL.out, HVL.out]; exact hO10) hC10 hb10 _ _ (by rw [EO1.out, EO2.out]; go_num) (by go_num)
          case measure => exact meas_up HJ.out
        · have hsi : ¬ (s : Int) ≤ 32 := by omega
          obtain ⟨c4, e4⟩ : ∃ c4, fld bs o2 4 = c4 := ⟨_, rfl⟩
          have hcl := fld_lt bs o2 4
          have H4 := HNU.out o2 4 (by omega) (by decide)
          rw [e4] at H4 hcl
          have E4 := Lib.hid e4
          have H4 := Lib.hid H4
          obtain ⟨o3, eo3⟩ : ∃ o3, o2 + 4 = o3 := ⟨_, rfl⟩
          have hoi3 : (o2 : Int) + 4 = (o3 : Int) := by omega
          have EO3 := Lib.hid eo3
          clear e4 eo3
          go_wp2_with fail
          generalize hw7 : w4.setCell ⟨t, 3, none⟩ (.int .i64 (s : Int)) = w7 at HS6 HB6 HK6 hst ⊢
          clear hw7
          refine (H4.out _ HS6.out.bel).mono ?_
          rintro _ wx ⟨rfl, e0⟩
          rw [e0]
          clear e0 wx H4
          have HS7 := HS6
          have HB7 := HB6
          have HK7 := HK6
          clear u0 u1 u2 u3 f3 hst y0 y1 y2 y3 y4
          obtain ⟨u0, u1, u2, u3, uf⟩ := HB7.out.cells
          have f2 := uf 2
          clear uf
          obtain ⟨y0, y1, y2, y3, y4, -⟩ := cells5f HS7.out.row
          have HS8 := Lib.hid (HS7.out.loc (Chg.set w7 ⟨t, 2, none⟩ (.int .i64 (c4 : Int))) HTH.out)
          have HB8 := Lib.hid (HB7.out.setChild (c4 : Int))
          have HK8 := Lib.hid (HK7.out.chg (Chg.set w7 ⟨t, 2, none⟩ (.int .i64 (c4 : Int))) (fun k e f => absurd f (Nat.ne_of_lt (HK1.out k e))))
          have HV8 := Lib.hid (OB.nil (w7.setCell ⟨t, 2, none⟩ (.int .i64 (c4 : Int))))
          have HT8 := Lib.hid (rlt_of_heapP HB8.out)
          have HS9 := Lib.hid (HS8.out.below (one_below (w7.setCell ⟨t, 2, none⟩ (.int .i64 (c4 : Int))) (.cells #[.slice ka kl kc, .slice none 0 0, .int .i64 (c4 : Int), .int .i64 (s : Int)] 64)))
          have HK9 := Lib.hid (HK8.out.below (one_below (w7.setCell ⟨t, 2, none⟩ (.int .i64 (c4 : Int))) (.cells #[.slice ka kl kc, .slice none 0 0, .int .i64 (c4 : Int), .int .i64 (s : Int)] 64)))
          have HV9 := Lib.hid (HV8.out.below (one_below (w7.setCell ⟨t, 2, none⟩ (.int .i64 (c4 : Int))) (.cells #[.slice ka kl kc, .slice none 0 0, .int .i64 (c4 : Int), .int .i64 (s : Int)] 64)))
          have hnw := news_item (w7.setCell ⟨t, 2, none⟩ (.int .i64 (c4 : Int))) (.slice ka kl kc) (.slice none 0 0) (.int .i64 (c4 : Int)) (.int .i64 (s : Int))
          rw [size_set] at hnw
          have HNW := Lib.hid hnw
          clear hnw
          have HUP := Lib.hid (show Up hi ((w7.setCell ⟨t, 2, none⟩ (.int .i64 (c4 : Int))).alloc (.cells #[.slice ka kl kc, .slice none 0 0, .int .i64 (c4 : Int), .int .i64 (s : Int)] 64)).heap.size [ka, none] from Up.two (m := t) HTH.out (Nat.le_of_lt (Nat.lt_of_lt_of_le HT8.out (one_below (w7.setCell ⟨t, 2, none⟩ (.int .i64 (c4 : Int))) _).size)) (fun k e => ⟨HK0.out k e, HK1.out k e⟩) (fun k e => (by cases e)))
          have HOL := Lib.hid (show OR eIt ((w7.setCell ⟨t, 2, none⟩ (.int .i64 (c4 : Int))).alloc (.cells #[.slice ka kl kc, .slice none 0 0, .int .i64 (c4 : Int), .int .i64 (s : Int)] 64)) la lc j (cellsZ zs) by have := HS9.out.its.own; rwa [HZL.out] at this)
          have HRQ := Lib.hid fun (w10 : World) (hC : Chg (fun k => blk la = some k) ((w7.setCell ⟨t, 2, none⟩ (.int .i64 (c4 : Int))).alloc (.cells #[.slice ka kl kc, .slice none 0 0, .int .i64 (c4 : Int), .int .i64 (s : Int)] 64)) w10) => (hC.block _ (rlt_of_heapP HS9.out.row) (fun e => by have := HS9.out.its.lob _ e; omega)).trans HS9.out.row
          go_wp2_with (at_builtin; go_must (refine wpList_append_or eIt rfl (.tmp 88) (.tmp 90) rfl rfl HOL.out rfl (m := 1) (news := [.slice ka kl kc, .slice none 0 0, .int .i64 (c4 : Int), .int .i64 (s : Int)]) rfl (.inr ⟨_, rfl, HNW.out⟩) (by simp [Value.oneCell']) (by show (j + 1) * 64 ≤ _; omega) (by omega) ?_)
                       intro la2 lc2 w10 hO10 hC10 hb10 _; obtain ⟨z0, z1, z2, z3, z4, zf⟩ := cells5f (HRQ.out w10 hC10); have zf2 := zf 2; clear zf)
          go_roundw
          case rel => exact Hnx.out ⟨key, [], (c4 : Int), (s : Int)⟩ ⟨ka, kc, none, 0⟩ _ _ _ _ _ (ditem_b HK11.out E1.out (by rw [EP.out]; exact EY.out) (by rw [EO1.out]; exact E3.out) hs (by rw [EO1.out, EO2.out]; exact E4.out)) HS9.out HK9.out HV9.out HUP.out (i64_small hcl (by decide)) (i64_small hsl (by decide)) (by simp only [cellsI, HKL.out]; exact hO10) hC10 hb10 _ _ (by rw [EO1.out, EO2.out]; go_num) (by go_num)
          case measure => exact meas_up HJ.out
      · have hkd : ((k : Int) == 1) = false := by rw [beq_eq_false_iff_ne]; omega
        obtain ⟨c4, e4⟩ : ∃ c4, fld bs o1 4 = c4 := ⟨_, rfl⟩
        have hcl := fld_lt bs o1 4
        have H4 := HNU.out o1 4 (by omega) (by decide)
        rw [e4] at H4 hcl
        have E4 := Lib.hid e4
        have H4 := Lib.hid H4
        obtain ⟨o3, eo3⟩ : ∃ o3, o1 + 4 = o3 := ⟨_, rfl⟩
        have hoi3 : (o1 : Int) + 4 = (o3 : Int) := by omega
        have EO3 := Lib.hid eo3
        clear e4 eo3
        go_wp2_with fail
        refine (H4.out _ HS4.out.bel).mono ?_
        rintro _ wx ⟨rfl, e0⟩
        rw [e0]
        clear e0 wx H4
        obtain ⟨u0, u1, u2, u3, uf⟩ := HBX.out.cells
        have f2 := uf 2
        clear uf
        have HS7 := HS4
        have HB7 := HBX
        have HK7 := HK4
        generalize w4 = w7 at *
        have HS8 := Lib.hid (HS7.out.loc (Chg.set w7 ⟨t, 2, none⟩ (.int .i64 (c4 : Int))) HTH.out)
        have HB8 := Lib.hid (HB7.out.setChild (c4 : Int))
        have HK8 := Lib.hid (HK7.out.chg (Chg.set w7 ⟨t, 2, none⟩ (.int .i64 (c4 : Int))) (fun k e f => absurd f (Nat.ne_of_lt (HK1.out k e))))
        have HV8 := Lib.hid (OB.nil (w7.setCell ⟨t, 2, none⟩ (.int .i64 (c4 : Int))))
        have HT8 := Lib.hid (rlt_of_heapP HB8.out)
        have HS9 := Lib.hid (HS8.out.below (one_below (w7.setCell ⟨t, 2, none⟩ (.int .i64 (c4 : Int))) (.cells #[.slice ka kl kc, .slice none 0 0, .int .i64 (c4 : Int), .int .i64 0] 64)))
        have HK9 := Lib.hid (HK8.out.below (one_below (w7.setCell ⟨t, 2, none⟩ (.int .i64 (c4 : Int))) (.cells #[.slice ka kl kc, .slice none 0 0, .int .i64 (c4 : Int), .int .i64 0] 64)))
        have HV9 := Lib.hid (HV8.out.below (one_below (w7.setCell ⟨t, 2, none⟩ (.int .i64 (c4 : Int))) (.cells #[.slice ka kl kc, .slice none 0 0, .int .i64 (c4 : Int), .int .i64 0] 64)))
        have hnw := news_item (w7.setCell ⟨t, 2, none⟩ (.int .i64 (c4 : Int))) (.slice ka kl kc) (.slice none 0 0) (.int .i64 (c4 : Int)) (.int .i64 0)
        rw [size_set] at hnw
        have HNW := Lib.hid hnw
        clear hnw
        have HUP := Lib.hid (show Up hi ((w7.setCell ⟨t, 2, none⟩ (.int .i64 (c4 : Int))).alloc (.cells #[.slice ka kl kc, .slice none 0 0, .int .i64 (c4 : Int), .int .i64 0] 64)).heap.size [ka, none] from Up.two (m := t) HTH.out (Nat.le_of_lt (Nat.lt_of_lt_of_le HT8.out (one_below (w7.setCell ⟨t, 2, none⟩ (.int .i64 (c4 : Int))) _).size)) (fun k e => ⟨HK0.out k e, HK1.out k e⟩) (fun k e => (by cases e)))
        have HOL := Lib.hid (show OR eIt ((w7.setCell ⟨t, 2, none⟩ (.int .i64 (c4 : Int))).alloc (.cells #[.slice ka kl kc, .slice none 0 0, .int .i64 (c4 : Int), .int .i64 0] 64)) la lc j (cellsZ zs) by have := HS9.out.its.own; rwa [HZL.out] at this)
        have HRQ := Lib.hid fun (w10 : World) (hC : Chg (fun k => blk la = some k) ((w7.setCell ⟨t, 2, none⟩ (.int .i64 (c4 : Int))).alloc (.cells #[.slice ka kl kc, .slice none 0 0, .int .i64 (c4 : Int), .int .i64 0] 64)) w10) => (hC.block _ (rlt_of_heapP HS9.out.row) (fun e => by have := HS9.out.its.lob _ e; omega)).trans HS9.out.row
        go_wp2_with (at_builtin; go_must (refine wpList_append_or eIt rfl (.tmp 88) (.tmp 90) rfl rfl HOL.out rfl (m := 1) (news := [.slice ka kl kc, .slice none 0 0, .int .i64 (c4 : Int), .int .i64 0]) rfl (.inr ⟨_, rfl, HNW.out⟩) (by simp [Value.oneCell']) (by show (j + 1) * 64 ≤ _; omega) (by omega) ?_)
                     intro la2 lc2 w10 hO10 hC10 hb10 _; obtain ⟨z0, z1, z2, z3, z4, zf⟩ := cells5f (HRQ.out w10 hC10); have zf2 := zf 2; clear zf)
        go_roundw
        case rel => exact Hnx.out ⟨key, [], (c4 : Int), 0⟩ ⟨ka, kc, none, 0⟩ _ _ _ _ _ (ditem_c (fun e => hk1n (by omega)) E1.out (by rw [EP.out]; exact EY.out) (by rw [EO1.out]; exact E4.out)) HS9.out HK9.out HV9.out HUP.out (i64_small hcl (by decide)) i64_zero (by simp only [cellsI, HKL.out]; exact hO10) hC10 hb10 _ _ (by rw [EO1.out]; go_num) (by go_num)
        case measure => exact meas_up HJ.out
    · have hjn2 : j = n := by omega
      subst hjn2
      have hnp : NewPg (w.heap.size + 2) wr ⟨(k : Int), (lv : Int), (dst k bs j).2, [], 0⟩ la lc none 0 := ⟨zs, hzs, hS.its, OB.nil _, fun k e => (by cases e), .inl rfl⟩
      have hzl : (dst k bs j).2.length = j := dst_length _ _ _
      obtain ⟨x0, x1, x2, x3, x4, -⟩ := cells5f hS.row
      obtain ⟨r0, r1, r2, r3, r4, rf⟩ := cells5f hS.zr
      have g0 := rf 0
      have g1 := rf 1
      have g2 := rf 2
      have g3 := rf 3
      have g4 := rf 4
      have hzq : w.heap.size ≠ w.heap.size + 1 := (Nat.succ_ne_self _).symm
      have hzq2 : w.heap.size + 1 ≠ w.heap.size := Nat.succ_ne_self _
      have hf := gues_yes (hnp.low (Nat.le_succ _)) hS.bel (.int .i64 k) (.int .i64 lv) (.slice la j lc) (.slice none 0 0) (.int .i64 0)
      unfold pgv at hf
      simp only [hzl, List.length_nil] at hf
      rw [hn] at HG
      rw [← HG.out] at hf
      have HF := Lib.hid hf
      clear hf hnp hzs hS rf
      by_cases hjc : j < c
      · have hj1 : (j : Int) < (c : Int) := by omega
        have hj2 : ¬ (j : Int) ≤ 8 := by omega
        clear hn
        go_wp2_with fail
        refine bodyPost_ret (v := .agg #[.int .i64 k, .int .i64 lv, .slice la j lc, .slice none 0 0, .int .i64 0]) (by simp [results, Try.results59, go_sem, r0, r1, r2, r3, r4]) rfl ?_
        exact HF.out
      · have hj1 : ¬ (j : Int) < (c : Int) := by omega
        clear hn
        go_wp2_with fail
        refine bodyPost_ret (v := .agg #[.int .i64 k, .int .i64 lv, .slice la j lc, .slice none 0 0, .int .i64 0]) (by simp [results, Try.results59, go_sem, r0, r1, r2, r3, r4]) rfl ?_
        exact HF.out
end Go.Proofs.Ytkjgncmbhkhbnaa
