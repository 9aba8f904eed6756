/- SpareInts and KeptInts. -/
import Derived.Test.YtpjdknmgegbgnaaBkRef2
namespace Go.Proofs.Ytpjdknmgegbgnaa
open Go.RowKit
set_option linter.unusedVariables false
set_option maxRecDepth 100000

def fullI (cs : List Int) : List Int := cs ++ (List.range 64).map fun (j : Nat) => -7 - ((cs.length + j : Nat) : Int)
theorem fullI_length (cs : List Int) : (fullI cs).length = cs.length + 64 := by simp [fullI]
theorem fullI_low {cs : List Int} {k : Nat} (h : k < cs.length) : (fullI cs)[k]? = some (cs.getD k 0) := by
  unfold fullI
  rw [List.getElem?_append_left h, List.getD_eq_getElem?_getD, List.getElem?_eq_getElem h]; rfl
theorem fullI_high {cs : List Int} {k : Nat} (h : cs.length ≤ k) (h2 : k < cs.length + 64) : (fullI cs)[k]? = some (-7 - (k : Int)) := by
  unfold fullI
  rw [List.getElem?_append_right h, List.getElem?_map, List.getElem?_range (by omega), Option.map_some, Nat.add_sub_cancel' h]
/-- a list with marked room behind it -/
def SparedI (w : World) (g : Nat) (cs : List Int) : Prop := ON w (some ⟨g, 0, none⟩) (cs.length + 64) (fullI cs)
theorem ON.low {w : World} {g cap : Nat} {cs : List Int} (h : ON w (some ⟨g, 0, none⟩) cap cs) (n : Nat) : Nts w (some ⟨g, 0, none⟩) (cs.take n) := by
  refine .inr ⟨g, 0, rfl, OR.lt h g rfl, fun i hi => ?_⟩
  rw [List.length_take] at hi
  obtain ⟨h1, -⟩ := h.cellF (j := i) (by omega)
  rw [Nat.zero_add, h1, List.getD_eq_getElem?_getD, List.getD_eq_getElem?_getD, List.getElem?_take_of_lt (by omega)]
theorem fullI_take (cs : List Int) : (fullI cs).take cs.length = cs := by
  unfold fullI; rw [List.take_left']; rfl
theorem SparedI.nts {w : World} {g : Nat} {cs : List Int} (h : SparedI w g cs) : Nts w (some ⟨g, 0, none⟩) cs := by
  have := ON.low h cs.length
  rwa [fullI_take] at this
theorem ON.below {w w' : World} {oa : Option Addr} {cap : Nat} {cs : List Int} (h : ON w oa cap cs) (hb : Below w.heap.size w w') : ON w' oa cap cs := OR.chg (F := fun _ => False) h (Chg.of_below hb) (fun _ _ f => f)
def RelSpI (W : World) (cs : List Int) (i : Value) (wr : World) : Prop :=
  ∃ (k : Nat) (cur : List Int), k ≤ cs.length + 64 ∧ i = .int .i64 k ∧ ON wr (some ⟨W.heap.size, 0, none⟩) (cs.length + 64) cur ∧ cur.length = cs.length + 64 ∧ cur.take k = (fullI cs).take k ∧ Below W.heap.size W wr
theorem relSpI_next {W wr : World} {cs cur : List Int} {k : Nat} {v : Int} (hO : ON wr (some ⟨W.heap.size, 0, none⟩) (cs.length + 64) cur) (hl : cur.length = cs.length + 64) (ht : cur.take k = (fullI cs).take k) (hk : k < cs.length + 64) (hv : (fullI cs)[k]? = some v) (hB : Below W.heap.size W wr) {i : Value} (hi : i = .int .i64 ((k + 1 : Nat) : Int)) :
    RelSpI W cs i (wr.setCell ⟨W.heap.size, k, none⟩ (.int .i64 v)) := by
  subst hi
  exact ⟨k + 1, cur.set k v, hk, rfl, hO.set k (by rw [hl]; exact hk) v, by rw [List.length_set]; exact hl, take_set_next ht hv (by rw [hl]; exact hk), hB.setCell (Nat.le_refl _) _⟩
def NewSpI (w : World) (cs : List Int) (x : Ending) (w' : World) : Prop :=
  x = .returned (.slice (some ⟨w.heap.size, 0, none⟩) cs.length (cs.length + 64)) ∧ SparedI w' w.heap.size cs ∧ Below w.heap.size w w'
set_option maxHeartbeats 1000000 in
theorem spareInts_any (a : Option Addr) (c : Nat) (cs : List Int) (hl : cs.length ≤ 17592186043904) (w : World) (hb : Nts w a cs) :
    Calls Try.prog 10 #[.slice a cs.length c] w (NewSpI w cs) := by
  have HNT := Lib.hid hb
  obtain ⟨w1, hmk, hON, hB1, hz1⟩ := make_ints (cs.length + 64) (by omega) w
  have HR0 := Lib.hid (show RelSpI w cs (.int .i64 0) w1 from ⟨0, _, Nat.zero_le _, rfl, hON, List.length_replicate, by simp, hB1⟩)
  have Hnx := Lib.hid fun (wr : World) (cur : List Int) (k : Nat) (v : Int) hO hl ht hk hv hB i hi => relSpI_next (W := w) (wr := wr) (cs := cs) (cur := cur) (k := k) (v := v) hO hl ht hk hv hB (i := i) hi
  obtain ⟨n, hn⟩ : ∃ n, cs.length = n := ⟨_, rfl⟩
  have HL := Lib.hid hn
  rw [hn] at hmk hl ⊢
  have hnc : ((n + 64 : Nat) : Int) = (n : Int) + 64 := by omega
  rw [hnc] at hmk
  have HFin := Lib.hid fun (wr : World) (hO : ON wr (some ⟨w.heap.size, 0, none⟩) (cs.length + 64) (fullI cs)) (hB : Below w.heap.size w wr) => (show NewSpI w cs (.returned (.slice (some ⟨w.heap.size, 0, none⟩) n (n + 64))) wr from ⟨by rw [hn], hO, hB⟩)
  clear hb hON hB1 hz1 hn
  go_enter Try.func10, Try.ntmps10
  go_wp2_with fail
  clear hmk
  go_loopw [4] (fun v wr => RelSpI w cs v wr) (fun v _ => n + 64 - (intOf v).toNat)
  case atStart => exact HR0.out
  case round =>
    clear HR0
    obtain ⟨k, cur, hk, rfl, hO, hcl, ht, hB⟩ := hrel
    by_cases hk1 : k < n + 64
    · have hkI : (k : Int) < (n : Int) + 64 := by omega
      obtain ⟨hc, hf⟩ := hO.cellF (j := k) (by rw [hcl, HL.out]; exact hk1)
      have HJ := Lib.hid hk1
      by_cases hk2 : k < n
      · obtain ⟨b, off, rfl, -, hcell⟩ := (HNT.out.below hB).at (k := k) (by rw [HL.out]; exact hk2)
        have Hn := Lib.hid fun i hi => Hnx.out wr cur k (cs.getD k 0) hO hcl ht (by rw [HL.out]; exact hk1) (fullI_low (by rw [HL.out]; exact hk2)) hB i hi
        generalize cs.getD k 0 = x at *
        clear hO hcl ht hB hk hk1 Hnx
        go_wp2_with fail
        go_roundw
        case rel => exact Hn.out _ (by go_num)
        case measure => exact meas_up HJ.out
      · have Hn := Lib.hid fun i hi => Hnx.out wr cur k (-7 - (k : Int)) hO hcl ht (by rw [HL.out]; exact hk1) (fullI_high (by rw [HL.out]; omega) (by rw [HL.out]; exact hk1)) hB i hi
        clear hO hcl ht hB hk hk1 Hnx
        go_wp2_with fail
        go_roundw
        case rel => exact Hn.out _ (by go_num)
        case measure => exact meas_up HJ.out
    · have hkI : ¬ (k : Int) < (n : Int) + 64 := by omega
      have hkn : k = n + 64 := by rw [HL.out] at hk; omega
      have hcur : cur = fullI cs := by
        rw [List.take_of_length_le (by rw [hcl, HL.out]; omega), List.take_of_length_le (by rw [fullI_length, HL.out]; omega)] at ht
        exact ht
      rw [hcur] at hO
      have HF := Lib.hid (HFin.out wr hO hB)
      clear hO hcl ht hB hk hk1 Hnx hcur hkn
      go_wp2_with fail
      go_ret
      exact HF.out
def RelKeI (W : World) (n : Nat) (i : Value) (wr : World) : Prop := ∃ k : Nat, n ≤ k ∧ k ≤ n + 64 ∧ i = .int .i64 k ∧ Below W.heap.size W wr ∧ W = wr
set_option maxHeartbeats 1000000 in
theorem keptInts_any (g : Nat) (b : Option Addr) (c : Nat) (cs : List Int) (hl : cs.length ≤ 17592186043904) (w : World) (hg : SparedI w g cs) (hb : Nts w b cs) :
    Calls Try.prog 14 #[.slice (some ⟨g, 0, none⟩) cs.length (cs.length + 64), .slice b cs.length c] w fun e w' => e = .returned (.bool true) ∧ Below w.heap.size w w' := by
  have H := Lib.hid (eqInts_any cs cs (some ⟨g, 0, none⟩) b (cs.length + 64) c w hg.nts hb (by omega) (by omega))
  unfold EqA at H
  simp only [decide_true] at H
  have HG := Lib.hid hg
  obtain ⟨n, hn⟩ : ∃ n, cs.length = n := ⟨_, rfl⟩
  have HL := Lib.hid hn
  rw [hn] at H hl ⊢
  clear hg hb hn
  go_enter Try.func14, Try.ntmps14
  go_wp2_with fail
  refine H.out.mono ?_
  rintro _ w1 ⟨rfl, hb1⟩
  have HG1 := Lib.hid (ON.below HG.out hb1)
  have HB1 := Lib.hid hb1
  have hcI : (n : Int) + 64 ≤ ((n + 64 : Nat) : Int) := by omega
  clear hb1 H HG
  go_wp2_with fail
  go_loopw [6] (fun v wr => RelKeI w1 n v wr) (fun v _ => n + 64 - (intOf v).toNat)
  case atStart => exact ⟨n, Nat.le_refl _, Nat.le_add_right _ _, rfl, Below.refl _ _, rfl⟩
  case round =>
    obtain ⟨k, hk0, hk, rfl, hB, hwr⟩ := hrel
    rw [← hwr]
    clear hwr hB
    by_cases hk1 : k < n + 64
    · have hkI : (k : Int) < (n : Int) + 64 := by omega
      obtain ⟨hc, -⟩ := HG1.out.cellF (j := k) (by rw [fullI_length, HL.out]; exact hk1)
      rw [List.getD_eq_getElem?_getD, fullI_high (by rw [HL.out]; exact hk0) (by rw [HL.out]; exact hk1), Option.getD_some] at hc
      have hne : ((-7 - (k : Int)) != (-7 - (k : Int))) = false := by simp
      have HJ := Lib.hid hk1
      have HK := Lib.hid hk0
      clear hk hk1
      go_wp2_with fail
      go_roundw
      case rel => exact ⟨k + 1, by have := HK.out; omega, HJ.out, by go_num, Below.refl _ _, rfl⟩
      case measure => exact meas_up HJ.out
    · have hkI : ¬ (k : Int) < (n : Int) + 64 := by omega
      go_wp2_with fail
      go_ret
      exact ⟨rfl, HB1.out⟩
theorem up_sep : ∀ {ds : List (Option Addr)} {lo hi : Nat}, Up lo hi ds → ∀ (i j : Nat) (a b : Option Addr), ds[i]? = some a → ds[j]? = some b → i ≠ j → ∀ k, blk a = some k → ¬ blk b = some k
  | [], _, _, _, i, _, _, _, h, _, _, _, _ => by simp at h
  | d :: ds, lo, hi, ⟨m, h1, h2, h3⟩, i, j, a, b, ha, hb, hij, k, ka => fun kb => by
    match i, j, ha, hb, hij with
    | 0, 0, _, _, hij => exact hij rfl
    | 0, j + 1, ha, hb, _ =>
      simp at ha; subst ha
      have q1 := (h2 k ka).2
      have q2 := (h3.mem b (List.mem_of_getElem? (by simpa using hb)) k kb).1
      omega
    | i + 1, 0, ha, hb, _ =>
      simp at hb; subst hb
      have q1 := (h2 k kb).2
      have q2 := (h3.mem a (List.mem_of_getElem? (by simpa using ha)) k ka).1
      omega
    | i + 1, j + 1, ha, hb, hij => exact up_sep h3 i j a b (by simpa using ha) (by simpa using hb) (fun e => hij (by omega)) k ka kb
end Go.Proofs.Ytpjdknmgegbgnaa
