/- The walk of BankReads. -/
import Derived.Test.YtpjdknmgegbgnaaBkGr
import Derived.StillTailTactics
import Derived.Deep.RegionHeld3
namespace Go.Proofs.Ytpjdknmgegbgnaa
open Go.RowKit
set_option linter.unusedVariables false
set_option maxRecDepth 100000

theorem bdec_none {gen pages : Int} {rows : List (List UInt8)} {e : Int} {l : List Nat} (h : bdec gen pages rows = (e, l)) : (e = 0 ∨ l = []) ∧ l.length ≤ 240 * rows.length := by
  unfold bdec at h
  split at h
  · cases h; exact ⟨.inr rfl, Nat.zero_le _⟩
  · split at h
    · cases h; exact ⟨.inr rfl, Nat.zero_le _⟩
    · cases h; exact ⟨.inl rfl, bcat_length _ _ _ _⟩
def RelIn2 (W : World) (rs : List Row) (n : Nat) (o v : Value) (wr : World) : Prop :=
  ∃ (k : Nat) (la : Option Addr) (lc : Nat) (xs : List Row), k ≤ n ∧ v = .int .i64 k ∧ o = .slice la k lc ∧ xs.length = k ∧ xs.map (·.1) = (rs.take k).map (·.1) ∧ GRws kSp eSl W.heap.size wr.heap.size wr la lc xs ∧ Below W.heap.size W wr
theorem relIn2_next {W wr w5 w7 : World} {rs xs : List Row} {n k : Nat} {la la2 : Option Addr} {lc lc2 : Nat} {r : Row} {m : Nat} (hk : k < n) (hr : rs[k]? = some r) (hll : r.1.length ≤ 140737488355328) (hm : r.1.length = m) (hxl : xs.length = k) (hx : xs.map (·.1) = (rs.take k).map (·.1)) (hG : GRws kSp eSl W.heap.size wr.heap.size wr la lc xs) (hB : Below W.heap.size W wr)
    (hS : Spared w5 wr.heap.size r.1) (h5 : Below wr.heap.size wr w5) {o : Obj} (hO : OR eSl w7 la2 lc2 (k + 1) (xs.map cellR ++ [.slice (some ⟨wr.heap.size, 0, none⟩) m (m + 64)])) (hC : Chg (fun j => blk la = some j) (w5.alloc o) w7) (hb2 : blk la2 = blk la ∨ blk la2 = some (w5.alloc o).heap.size) {i : Value} (hi : i = .int .i64 ((k + 1 : Nat) : Int)) :
    RelIn2 W rs n (.slice la2 (k + 1) lc2) i w7 := by
  subst hi hm
  have ha := one_below w5 o
  have hB6 := h5.trans (ha.mono h5.size)
  have hS6 : Spared (w5.alloc o) wr.heap.size r.1 := hS.below ha
  have hlt : wr.heap.size < w5.heap.size := OR.lt hS _ rfl
  have hG6 := hG.below hB6
  have hG7 := hG6.snoc (x := (r.1, some ⟨wr.heap.size, 0, none⟩, r.1.length + 64)) (hi2 := (w5.alloc o).heap.size) (la' := la2) (lc' := lc2) (w' := w7) ⟨hll, wr.heap.size, rfl, rfl, hS6⟩ (fun j e => by cases e; exact ⟨Nat.le_refl _, Nat.lt_of_lt_of_le hlt ha.size⟩) hB6.size (Nat.le_refl _)
    (fun j e f => by have hj : wr.heap.size = j := Option.some.inj f; have := hG.own.lt _ e; omega) (by rw [hxl]; exact hO) hC hb2
  have hB1 := hB.trans (hB6.mono hB.size)
  refine ⟨k + 1, la2, lc2, _, hk, rfl, rfl, by rw [List.length_append, hxl]; rfl, ?_, hG7.hi hC.size (Nat.le_refl _), hB1.trans (hC.below hB1.size hG.lob)⟩
  rw [List.take_add_one, hr, List.map_append, List.map_append, hx]; rfl
def RelTo (W : World) (B lo n : Nat) (o v : Value) (wr : World) : Prop :=
  ∃ (k q : Nat) (ta : Option Addr) (tc : Nat) (ts : List Lst), k ≤ n ∧ q = k + 1 ∧ v = .int .i64 k ∧ o = .slice ta q tc ∧ ts.length = q ∧ GRws kTo eSI lo wr.heap.size wr ta tc ts ∧ (∀ j, blk ta = some j → B ≤ j) ∧ Below B W wr
theorem relTo_next {W wr w5 w6 w7 : World} {B lo : Nat} {ts : List Lst} {n k q : Nat} {ta ta2 : Option Addr} {tc tc2 : Nat} {oa : Option Addr} {oc on : Nat} {cs : List Value} (hBW : B ≤ W.heap.size) (hk : k < n) (hq : q = k + 1) (htl : ts.length = q) (hG : GRws kTo eSI lo wr.heap.size wr ta tc ts) (hta : ∀ j, blk ta = some j → B ≤ j) (hB : Below B W wr)
    (h5 : Below wr.heap.size wr w5) (hon : on ≤ 70000) (hN : OR eN w5 oa oc on cs) (ho : ∀ j, blk oa = some j → wr.heap.size ≤ j) (h6 : Below w5.heap.size w5 w6) (hO : OR eSI w7 ta2 tc2 (q + 1) (ts.map Lst.val ++ [.slice oa on oc])) (hC : Chg (fun j => blk ta = some j) w6 w7) (hb2 : blk ta2 = blk ta ∨ blk ta2 = some w6.heap.size) {i : Value} (hi : i = .int .i64 ((k + 1 : Nat) : Int)) :
    RelTo W B lo n (.slice ta2 (q + 1) tc2) i w7 := by
  subst hi
  have hB6 := h5.trans (h6.mono h5.size)
  have hG6 := hG.below hB6
  have hN6 : OR eN w6 oa oc on cs := hN.chg (F := fun _ => False) (Chg.of_below h6) (fun _ _ f => f)
  have hG7 := hG6.snoc (x := ⟨oa, oc, on⟩) (hi2 := w6.heap.size) (la' := ta2) (lc' := tc2) (w' := w7) ⟨hon, cs, hN6⟩ (fun j e => ⟨ho j e, hN6.lt j e⟩) hB6.size (Nat.le_refl _)
    (fun j e f => by have h1 := hG.own.lt _ e; have h2 := ho j f; omega) (by rw [htl]; exact hO) hC hb2
  have hBs := Nat.le_trans hBW hB.size
  have hB1 := hB.trans (hB6.mono hBs)
  refine ⟨k + 1, q + 1, ta2, tc2, _, hk, by omega, rfl, rfl, by rw [List.length_append, htl]; rfl, hG7.hi hC.size (Nat.le_refl _), fun j e => ?_, hB1.trans (hC.below (Nat.le_trans hBs hB6.size) hta)⟩
  rcases hb2 with hb2 | hb2
  · exact hta j (hb2 ▸ e)
  · rw [hb2] at e; cases e; exact Nat.le_trans hBs hB6.size
theorem chg_of {B : Nat} {W w : World} (h : Below B W w) : Chg (fun k => ¬ k < B) W w := ⟨h.os, h.tape, h.output, h.size, fun k _ hn => h.block k (Decidable.not_not.1 hn)⟩
theorem relFl_next {W wr : World} {rs : List Row} {r : Row} {n k g m : Nat} {v : Int} (hk : k < n) (hs : Shp wr rs) (hC : Chg (fun b => ∃ r ∈ rs, blk r.2.1 = some b) W wr) (hr : r ∈ rs) (hg : r.2.1 = some ⟨g, 0, none⟩) (hkm : k < m) (h0 : 0 ≤ v) (h1 : v < 256)
    (hsep : ∀ x ∈ rs, blk x.2.1 = some g → x.2.1 = some ⟨g, 0, none⟩ ∧ m ≤ x.1.length) {i : Value} (hi : i = .int .i64 ((k + 1 : Nat) : Int)) : RelFl W rs n i (wr.setCell ⟨g, k, none⟩ (.int .u8 v)) := by
  subst hi
  refine ⟨k + 1, hk, rfl, fun x hx => ?_, hC.setCell ⟨g, k, none⟩ _ (fun _ => ⟨r, hr, by rw [hg]; rfl⟩)⟩
  obtain ⟨bs, hb, hO⟩ := hs x hx
  by_cases hxg : blk x.2.1 = some g
  · obtain ⟨e1, e2⟩ := hsep x hx hxg
    rw [e1] at hO ⊢
    exact ⟨_, by rw [List.length_set]; exact hb, hO.set8 k (by omega) v h0 h1⟩
  · exact ⟨bs, hb, hO.chg (Chg.set wr ⟨g, k, none⟩ _) (fun j e f => hxg (by rw [e]; exact congrArg some f))⟩
theorem xor_ok {c : Nat} (h : c < 256) : 0 ≤ bits BinOp.xor IntKind.u8 (if IntKind.u8.signed = true then -1 else IntKind.u8.max) (c : Int) ∧ bits BinOp.xor IntKind.u8 (if IntKind.u8.signed = true then -1 else IntKind.u8.max) (c : Int) < 256 := by
  revert c
  decide +kernel
theorem below_nextB {W w' w1 : World} (h : Below W.heap.size W w') (h1 : Below w'.heap.size w' w1) : Below W.heap.size W w1 := h.trans (h1.mono h.size)
set_option maxHeartbeats 4000000 in
theorem bankReads_rows (gen pages i : Int) (a : Option Addr) (len cap : Nat) (rs : List Row) (m : Nat) (hrl : rs.length = m) (hm : m ≤ 200) (hmc : m ≤ cap) (hmin : (if (200 : Int) < (len : Int) then (200 : Int) else (len : Int)) = (m : Int)) (hp : pages ≤ 9223372036854775807) (W : World) (hr : RdRw W a rs) :
    Calls Try.prog 4 #[.int .i64 gen, .int .i64 pages, .int .i64 i, .slice a len cap] W fun e w' => e = .returned (.bool true) ∧ Below W.heap.size W w' := by
  have HRR := Lib.hid hr
  have HRL := Lib.hid hrl
  obtain ⟨rows, hrows⟩ : ∃ rows, rs.map (·.1) = rows := ⟨_, rfl⟩
  have HROWS := Lib.hid hrows
  have hrwl : rows.length = m := by rw [← hrows, List.length_map]; exact hrl
  have HRWL := Lib.hid hrwl
  obtain ⟨⟨e1, l1⟩, hd1⟩ : ∃ r, bdec gen pages rows = r := ⟨_, rfl⟩
  obtain ⟨-, hll1⟩ := bdec_none hd1
  rw [hrwl] at hll1
  have HDB := Lib.hid fun (la : Option Addr) (lc : Nat) (xs : List Row) (hx : xs.map (·.1) = rows) w1 (h : RdRw w1 la xs) => decodeB_any gen pages la lc xs rows hx w1 hp (by omega) h
  have HDD := Lib.hid fun w1 (h : Below W.heap.size W w1) => dDecode8_any gen pages a cap rs rows hrows w1 hp (by omega) (hr.below h)
  rw [hd1] at HDB HDD
  unfold BlkP at HDB HDD
  simp only [hrwl] at HDB HDD
  obtain ⟨n1, hn1⟩ : ∃ n1, l1.length = n1 := ⟨_, rfl⟩
  simp only [hn1] at HDB HDD
  have HN1 := Lib.hid hn1
  have hil1 : (ints l1).length = n1 := by rw [ints_length]; exact hn1
  rw [hn1] at hll1
  have hn1b : n1 ≤ 48000 := by omega
  have HEI := Lib.hid fun (ga wa : Option Addr) (gc wc : Nat) w1 (hx : Nts w1 ga (ints l1)) (hy : Nts w1 wa (ints l1)) => eqInts_any (ints l1) (ints l1) ga wa gc wc w1 hx hy (by omega) (by omega)
  unfold EqA at HEI
  simp only [decide_true, hil1] at HEI
  have hed1 : (e1 != e1) = false := by simp
  clear hr hrl hrows hrwl hd1 hll1 hn1 hil1
  go_enter Try.func4, Try.ntmps4
  go_wp2_with fail
  refine (works_any _).mono ?_
  rintro _ w1 ⟨rfl, hb1⟩
  have HB1 := Lib.hid hb1
  clear hb1
  go_wp2_with fail
  go_loopw [9, 10] (fun o v wr => RelIn2 w1 rs m o v wr) (fun _ v _ => m - (intOf v).toNat)
  case atStart => exact ⟨0, none, 0, [], Nat.zero_le _, rfl, rfl, rfl, by simp, GRws.nil (Nat.le_refl _), Below.refl _ _⟩
  case round =>
    obtain ⟨k, la, lc, xs, hk, rfl, rfl, hxl, hx, hG, hB⟩ := hrel
    by_cases hkm : k < m
    · obtain ⟨r, hr⟩ : ∃ r, rs[k]? = some r := ⟨_, List.getElem?_eq_getElem (by rw [HRL.out]; exact hkm)⟩
      obtain ⟨b, off, rfl, hcell, hbt, hcap, hll⟩ := (HRR.out.below (HB1.out.trans (hB.mono HB1.out.size))).at hr
      have H := Lib.hid (spare_any r.2.1 r.2.2 r.1 hll wr hbt)
      unfold NewSpare at H
      obtain ⟨ml, hml⟩ : ∃ ml, r.1.length = ml := ⟨_, rfl⟩
      have Hnx := Lib.hid fun (w5 w7 : World) (la2 : Option Addr) (lc2 : Nat) (o : Obj) (i : Value) hS h5 => relIn2_next (W := w1) (wr := wr) (w5 := w5) (w7 := w7) (la2 := la2) (lc2 := lc2) (o := o) (i := i) hkm hr hll hml hxl hx hG hB hS h5
      have HOW := Lib.hid (show OR eSl wr la lc k (xs.map cellR) by have := hG.own; rwa [hxl] at this)
      rw [hml] at H hcell hll hcap
      have HJ := Lib.hid hkm
      clear hr hbt hml hxl hx hG hB
      go_wp2_with fail
      refine H.out.mono ?_
      clear H
      rintro _ w5 ⟨rfl, hS, hb5⟩
      generalize htt : wr.heap.size = t at *
      have HT := Lib.hid htt
      have ha := one_below w5 (.cells #[.slice (some ⟨t, 0, none⟩) ml (ml + 64)] 32)
      have HO6 := Lib.hid ((HOW.out.chg (F := fun _ => False) (Chg.of_below (show Below wr.heap.size wr w5 by rw [htt]; exact hb5)) (fun _ _ f => f)).chg (F := fun _ => False) (Chg.of_below ha) (fun _ _ f => f))
      have HNW := Lib.hid (cell_new w5 (.slice (some ⟨t, 0, none⟩) ml (ml + 64)) 32)
      have HN2 := Lib.hid fun w7 la2 lc2 o i => Hnx.out w5 w7 la2 lc2 o i hS hb5
      clear hS hb5 ha HOW htt Hnx hcell
      go_wp2_with (at_builtin; go_must (refine wpList_append_or eSl rfl (.tmp 40) (.tmp 46) rfl rfl HO6.out rfl (m := 1) (news := [.slice (some ⟨t, 0, none⟩) ml (ml + 64)]) rfl (.inr ⟨_, rfl, HNW.out⟩) (by simp [Value.oneCell']) (by show (k + 1) * 24 ≤ _; omega) (by omega) ?_)
                   intro la2 lc2 w7 hO7 hC7 hb7 _)
      go_roundw
      case rel => exact HN2.out _ _ _ _ _ hO7 hC7 hb7 (by go_num)
      case measure => exact meas_up HJ.out
    · obtain rfl : k = m := by omega
      rw [List.take_of_length_le (by rw [HRL.out]; exact Nat.le_refl _), HROWS.out] at hx
      have HX := Lib.hid hx
      have HXL := Lib.hid hxl
      have HG := Lib.hid hG
      have HB := Lib.hid (HB1.out.trans (hB.mono HB1.out.size))
      have hlo1 : W.heap.size ≤ w1.heap.size := HB1.out.size
      generalize w1.heap.size = lo at *
      clear hx hxl hG hB hkm HB1
      have H := Lib.hid (HDB.out la lc xs HX.out wr HG.out.rd)
      go_wp2_with fail
      refine H.out.mono ?_
      clear H
      rintro _ w2 ⟨ga, gc, rfl, hN, hg0, hb2⟩
      have HGA := Lib.hid hN
      have HG0 := Lib.hid hg0
      have HG2 := Lib.hid (HG.out.below hb2)
      have Hla := Lib.hid (fun j e => HG.out.own.lt j e)
      have HB2 := Lib.hid (HB.out.trans (hb2.mono HB.out.size))
      have hlo2 : lo ≤ wr.heap.size := HG.out.up.le
      have htop := HG2.out.top
      generalize hhi : wr.heap.size = hi at *
      have hhi2 : hi ≤ w2.heap.size := hhi ▸ hb2.size
      clear hN hg0 hb2 HG HB HDB
      go_wp2_with fail
      refine (HDD.out _ HB2.out).mono ?_
      rintro _ w3 ⟨wa, wc, rfl, hN, hw0, hb3⟩
      have HWA := Lib.hid hN
      have HGA3 := Lib.hid (ON.below HGA.out hb3)
      have HG3 := Lib.hid (HG2.out.below hb3)
      have HB3 := Lib.hid (HB2.out.trans (hb3.mono HB2.out.size))
      have hhi3 : hi ≤ w3.heap.size := Nat.le_trans hhi2 hb3.size
      have HW0 := Lib.hid (fun j e => Nat.le_trans hhi2 (hw0 j e))
      clear hN hw0 hb3 HG2 HB2 HDD HGA hhi2
      have H := Lib.hid (HEI.out ga wa gc wc w3 HGA3.out.nts HWA.out.nts)
      go_wp2_with fail
      refine H.out.mono ?_
      clear H
      rintro _ w4 ⟨rfl, hb4⟩
      have HGA4 := Lib.hid (ON.below HGA3.out hb4)
      have HWA4 := Lib.hid (ON.below HWA.out hb4)
      have HG4 := Lib.hid (HG3.out.below hb4)
      have HB4 := Lib.hid (HB3.out.trans (hb4.mono HB3.out.size))
      have hhi4 : hi ≤ w4.heap.size := Nat.le_trans hhi3 hb4.size
      clear hb4 HG3 HB3 HGA3 HWA hhi3
      have ha5 := one_below w4 (.cells #[.slice ga n1 gc] 22)
      have hT5 : GRws kTo eSI hi (w4.alloc (.cells #[.slice ga n1 gc] 22)).heap.size (w4.alloc (.cells #[.slice ga n1 gc] 22)) (some ⟨w4.heap.size, 0, none⟩) 1 [⟨ga, gc, n1⟩] := by
        have hGA5 := ON.below HGA4.out ha5
        refine ⟨OR.made eSI w4 [.slice ga n1 gc] 1 rfl (by decide), fun x hx => ?_, fun j e => by cases e; exact hhi4, ⟨w4.heap.size, hhi4, fun j e => ⟨HG0.out j e, OR.lt HGA4.out j e⟩, ha5.size⟩, fun x hx j e f => ?_, Nat.le_refl _⟩
        · simp at hx; subst hx
          refine ⟨by show n1 ≤ 70000; omega, cellsN (ints l1), ?_⟩
          have := hGA5
          unfold ON at this
          rw [ints_length, HN1.out] at this
          exact this
        · simp [kTo] at hx; subst hx
          have hj : w4.heap.size = j := Option.some.inj f
          have := OR.lt HGA4.out j e; omega
      have HT5 := Lib.hid hT5
      have HGA5 := Lib.hid (ON.below HGA4.out ha5)
      have HWA5 := Lib.hid (ON.below HWA4.out ha5)
      have HG5 := Lib.hid (HG4.out.below ha5)
      have HB5 := Lib.hid (HB4.out.trans (ha5.mono HB4.out.size))
      have hhi5 : hi ≤ (w4.alloc (.cells #[.slice ga n1 gc] 22)).heap.size := Nat.le_trans hhi4 ha5.size
      have Hgl := Lib.hid (fun j e => OR.lt HGA4.out j e)
      have Hwl := Lib.hid (fun j e => OR.lt HWA4.out j e)
      have hT5W : w4.heap.size ≤ (w4.alloc (.cells #[.slice ga n1 gc] 22)).heap.size := ha5.size
      have hWt : W.heap.size ≤ w4.heap.size := HB4.out.size
      clear hT5 ha5 HG4 HB4 HGA4 HWA4
      go_wp2_with fail
      generalize w4.alloc (.cells #[.slice ga n1 gc] 22) = W5 at *
      generalize w4.heap.size = t5 at *
      have HLR := Lib.hid (show xs.length = k by rw [HXL.out])
      go_loopw [15, 16] (fun o v w' => RelTo W5 t5 hi k o v w') (fun _ v _ => k - (intOf v).toNat)
      case atStart => exact ⟨0, 1, _, _, _, Nat.zero_le _, rfl, rfl, rfl, rfl, HT5.out, fun j e => by cases e; exact Nat.le_refl _, Below.refl _ _⟩
      case round =>
        obtain ⟨k2, q, ta, tc, ts, hk2, hq, rfl, rfl, htl, hT, hta, hB⟩ := hrel
        have hC5 := chg_of hB
        by_cases hkm : k2 < k
        · obtain ⟨x, hx⟩ : ∃ x, xs[k2]? = some x := ⟨_, List.getElem?_eq_getElem (by rw [HLR.out]; exact hkm)⟩
          obtain ⟨r, hr⟩ : ∃ r, rs[k2]? = some r := ⟨_, List.getElem?_eq_getElem (by rw [HRL.out]; exact hkm)⟩
          have hxr : x.1 = r.1 := by
            have h1 : (xs.map (·.1))[k2]? = some x.1 := by rw [List.getElem?_map, hx]; rfl
            rw [HX.out, ← HROWS.out, List.getElem?_map, hr] at h1
            exact (Option.some.inj h1).symm
          obtain ⟨b, off, rfl, hcell, hbt, hcap, hll⟩ := (HRR.out.below (HB5.out.trans (hB.mono hWt))).at hr
          have hGx := HG5.out.chg hC5 (fun j e f => by have := Hla.out j e; omega) (fun q hq j e f => by have := (HG5.out.up.mem q hq j e).2; omega)
          obtain ⟨gl, rfl, hcx⟩ := hGx.at hx
          obtain ⟨-, gx, hx1, hx2, hxs⟩ := hGx.obs x (List.mem_of_getElem? hx)
          obtain ⟨xb, xa, xc⟩ := x
          simp only at hxr hx1 hx2 hxs
          subst hxr hx1 hx2
          simp only [kSp, cellR] at hcx
          obtain ⟨ml, hml⟩ : ∃ ml, r.1.length = ml := ⟨_, rfl⟩
          have HB1 := Lib.hid fun (j : Int) => blockB_any gen pages j (some ⟨gx, 0, none⟩) (r.1.length + 64) r.1 wr hp (Nat.le_add_right _ _) hll hxs.bts
          have HB2 := Lib.hid fun (j : Int) w1 (h : Below wr.heap.size wr w1) => dBlock8_any gen pages j r.2.1 r.2.2 r.1 w1 hp hcap hll (hbt.below h)
          have HKP := Lib.hid fun w1 (h : Below wr.heap.size wr w1) => kept_any gx r.2.1 r.2.2 r.1 hll w1 (hxs.below h) (hbt.below h)
          unfold BlkP at HB1 HB2
          rw [hml] at hcell hcx HB1 HKP hcap
          simp only [hml] at HB2
          have HCX := Lib.hid fun w1 (h : Below wr.heap.size wr w1) => (⟨(h.cell (block_lt_of_cell hcell)).trans hcell, (h.cell (block_lt_of_cell hcx)).trans hcx⟩ : w1.cell? ⟨b, off + k2, none⟩ = some (.slice r.2.1 ml r.2.2) ∧ w1.cell? ⟨gl, k2, none⟩ = some (.slice (some ⟨gx, 0, none⟩) ml (ml + 64)))
          have HT := Lib.hid hT
          have HBW := Lib.hid hB
          have HTA := Lib.hid hta
          have HTL := Lib.hid htl
          have HQ := Lib.hid hq
          have HJ := Lib.hid hkm
          generalize r.2.1 = ra at *
          generalize r.2.2 = rc at *
          generalize r.1 = rb at *
          clear hT hB hta hC5 htl hq hx hr hbt hxs hGx hll
          go_wp2_with fail
          obtain ⟨j, hj⟩ : ∃ j : Int, wrap64 (i + (k2 : Int)) = j := ⟨_, rfl⟩
          rw [hj]
          refine (HB1.out j).mono ?_
          obtain ⟨⟨e2, l2⟩, hbk⟩ : ∃ r, bblock gen pages j rb = r := ⟨_, rfl⟩
          have hl2 : l2.length ≤ 240 := by have := bblock_length (gen := gen) (pages := pages) (i := j) (bs := rb); rw [hbk] at this; exact this
          have HB2 := Lib.hid (HB2.out j)
          rw [hbk] at HB2 ⊢
          simp only at HB2 ⊢
          obtain ⟨n2, hn2⟩ : ∃ n2, l2.length = n2 := ⟨_, rfl⟩
          have hil2 : (ints l2).length = n2 := by rw [ints_length]; exact hn2
          have HEQ := Lib.hid fun (oa pa : Option Addr) (oc pc : Nat) w1 (h1 : Nts w1 oa (ints l2)) (h2 : Nts w1 pa (ints l2)) => eqInts_any (ints l2) (ints l2) oa pa oc pc w1 h1 h2 (by omega) (by omega)
          unfold EqA at HEQ
          simp only [hil2, decide_true] at HEQ
          simp only [hn2] at HB2 ⊢
          rw [hn2] at hl2
          have HI2 := Lib.hid hil2
          have hed2 : (e2 != e2) = false := by simp
          have HJW := Lib.hid hj
          clear hj hbk hn2 hil2
          rintro _ w6 ⟨oa, oc, rfl, hN, ho, hb6⟩
          have HN6 := Lib.hid hN
          have HO6 := Lib.hid ho
          have HB6 := Lib.hid hb6
          clear hN ho hb6 hcell hcx
          obtain ⟨hcell, hcx⟩ := HCX.out w6 HB6.out
          go_wp2_with fail
          rw [HJW.out]
          refine (HB2.out w6 HB6.out).mono ?_
          rintro _ w7 ⟨pa, pc, rfl, hN, -, hb7⟩
          have HN7 := Lib.hid (ON.below HN6.out hb7)
          have HB7 := Lib.hid (HB6.out.trans (hb7.mono HB6.out.size))
          have hNp := hN.nts
          have HC1 := Lib.hid fun w1 (h : Below w7.heap.size w7 w1) => HEQ.out oa pa oc pc w1 (Nts.below (ON.nts HN7.out) h) (Nts.below hNp h)
          have HC2 := Lib.hid fun w1 (h : Below w7.heap.size w7 w1) => HKP.out w1 (HB7.out.trans (h.mono HB7.out.size))
          have Hk := Lib.hid fun (w' : World) (h : Below w7.heap.size w7 w') => (show w'.cell? ⟨b, off + k2, none⟩ = some (.slice ra ml rc) ∧ w'.cell? ⟨gl, k2, none⟩ = some (.slice (some ⟨gx, 0, none⟩) ml (ml + 64)) ∧ Below w7.heap.size w7 w' from
            ⟨(HCX.out w' (HB7.out.trans (h.mono HB7.out.size))).1, (HCX.out w' (HB7.out.trans (h.mono HB7.out.size))).2, h⟩)
          clear hN hNp hb7 HN6 HB6 hcell hcx HEQ HKP HCX
          go_wp2_with fail
          go_region_held3 (fun w' => w'.cell? ⟨b, off + k2, none⟩ = some (.slice ra ml rc) ∧ w'.cell? ⟨gl, k2, none⟩ = some (.slice (some ⟨gx, 0, none⟩) ml (ml + 64)) ∧ Below w7.heap.size w7 w')
            (first
              | exact Hk.out _ (Below.drew (Below.refl _ _))
              | (refine Hk.out _ ?_; with_reducible assumption))
            (first
              | (go_at_call 19; go_split_ands; ((with_reducible refine (HC1.out _ (by with_reducible assumption)).mono ?_); rintro e v1 ⟨rfl, hc1⟩)
                 have hbn : Below w7.heap.size w7 v1 := below_nextB (by with_reducible assumption) hc1)
              | (go_at_call 22; go_split_ands; ((with_reducible refine (HC2.out _ (by with_reducible assumption)).mono ?_); rintro e v2 ⟨rfl, hc2⟩)
                 have hbn2 : Below w7.heap.size w7 v2 := below_nextB (by with_reducible assumption) hc2))
          have HBZ := Lib.hid (HB7.out.trans (hbn2.mono HB7.out.size))
          have hN9' := ON.below HN7.out hbn2
          clear hbn hc1 hc2 hbn2 HC1 HC2 Hk
          have hN9 : OR eN v2 oa oc n2 (cellsN (ints l2)) := by have := hN9'; unfold ON at this; rwa [HI2.out] at this
          have hB9 := HBZ.out
          have ha := one_below v2 (.cells #[.slice oa n2 oc] 22)
          have HTO := Lib.hid (show OR eSI (v2.alloc (.cells #[.slice oa n2 oc] 22)) ta tc q (ts.map Lst.val) by
            have h1 := ((HT.out.own.chg (F := fun _ => False) (Chg.of_below hB9) (fun _ _ f => f)).chg (F := fun _ => False) (Chg.of_below ha) (fun _ _ f => f))
            rwa [HTL.out] at h1)
          have HNW := Lib.hid (cell_new v2 (.slice oa n2 oc) 22)
          have Hnx := Lib.hid fun w10 ta2 tc2 i => relTo_next (W := W5) (w7 := w10) (ta2 := ta2) (tc2 := tc2) (i := i) hT5W HJ.out HQ.out HTL.out HT.out HTA.out HBW.out hB9 (show n2 ≤ 70000 by omega) hN9 HO6.out ha
          have hq201 : q ≤ 201 := by have := HQ.out; omega
          clear hN9 hN9' hB9 ha HT HBW HO6 HBZ
          go_wp2_with (at_builtin; go_must (refine wpList_append_or eSI rfl (.tmp 126) (.tmp 128) rfl rfl HTO.out rfl (m := 1) (news := [.slice oa n2 oc]) rfl (.inr ⟨_, rfl, HNW.out⟩) (by simp [Value.oneCell']) (by show (q + 1) * 24 ≤ _; omega) (by omega) ?_)
                       intro ta2 tc2 w10 hO10 hC10 hb10 _)
          go_roundw
          case rel => exact Hnx.out _ _ _ _ hO10 hC10 hb10 (by go_num)
          case measure => exact meas_up HJ.out
        · obtain rfl : k2 = k := by omega
          have HT := Lib.hid hT
          have HBW := Lib.hid hB
          have HTL := Lib.hid htl
          have hq201 : q ≤ 201 := by omega
          have HG6 := Lib.hid (HG5.out.chg hC5 (fun j e f => by have := Hla.out j e; omega) (fun q hq j e f => by have := (HG5.out.up.mem q hq j e).2; omega))
          have HGA6 := Lib.hid (OR.chg HGA5.out hC5 (fun j e f => by have := Hgl.out j e; omega))
          have HWA6 := Lib.hid (OR.chg HWA5.out hC5 (fun j e f => by have := Hwl.out j e; omega))
          have HB6 := Lib.hid (HB5.out.trans (hB.mono hWt))
          have HTA := Lib.hid hta
          have HS6 := Lib.hid (show Shp wr xs from fun x hx => by
            obtain ⟨-, g, h1, h2, h3⟩ := HG6.out.obs x hx
            exact ⟨full x.1, full_length _, by rw [h1]; exact h3⟩)
          clear hT hB hta hC5 htl hq HT5 HG5 HGA5 HWA5 HB5 hkm
          obtain ⟨WF, rfl⟩ : ∃ WF : World, WF = wr := ⟨_, rfl⟩
          go_wp2_with fail
          go_loopw [21] (fun v w' => RelFl WF xs k2 v w') (fun v _ => k2 - (intOf v).toNat)
          case atStart => exact ⟨0, Nat.zero_le _, rfl, HS6.out, Chg.refl _ _⟩
          case round =>
            clear HS6
            obtain ⟨k3, hk3, rfl, hs, hC⟩ := hrel
            by_cases hkm : k3 < k2
            · obtain ⟨x, hx⟩ : ∃ x, xs[k3]? = some x := ⟨_, List.getElem?_eq_getElem (by rw [HLR.out]; exact hkm)⟩
              have hxm := List.mem_of_getElem? hx
              obtain ⟨hx0, gx, hx1, hx2, -⟩ := HG6.out.obs x hxm
              have hsep : ∀ y ∈ xs, blk y.2.1 = some gx → y.2.1 = some ⟨gx, 0, none⟩ ∧ x.1.length ≤ y.1.length := fun y hy e => by
                obtain ⟨j, hj⟩ := List.mem_iff_getElem?.1 hy
                by_cases hjk : j = k3
                · subst hjk
                  rw [hx] at hj; cases hj
                  exact ⟨hx1, Nat.le_refl _⟩
                · exact absurd e (up_sep HG6.out.up k3 j x.2.1 y.2.1 (by rw [List.getElem?_map, hx]; rfl) (by rw [List.getElem?_map, hj]; rfl) (fun e => hjk e.symm) gx (by rw [hx1]; rfl))
              have HCL := Lib.hid fun (w2 : World) (h : Chg (fun b => ∃ r ∈ xs, blk r.2.1 = some b) WF w2) => (show ∃ gl, la = some ⟨gl, 0, none⟩ ∧ w2.cell? ⟨gl, k3, none⟩ = some (cellR x) from by
                have h1 := HG6.out.own.chg h (fun j e ⟨x, hx, f⟩ => HG6.out.sep _ (GRws.mem (K := kSp) hx) j f e)
                obtain ⟨gl, e1, e2, -⟩ := h1.cell (j := k3) (u := cellR x) (by rw [List.getElem?_map, hx]; rfl)
                exact ⟨gl, e1, e2⟩)
              unfold cellR at HCL
              rw [hx1, hx2] at HCL
              obtain ⟨ml, hml⟩ : ∃ ml, x.1.length = ml := ⟨_, rfl⟩
              rw [hml] at HCL hx0 hsep
              obtain ⟨gl, rfl, hcell⟩ := HCL.out wr hC
              have HXM := Lib.hid hxm
              have HX1 := Lib.hid hx1
              have HSEP := Lib.hid hsep
              have HML := Lib.hid hml
              have HR0 := Lib.hid (show RelFl WF xs ml (.int .i64 0) wr from ⟨0, Nat.zero_le _, rfl, hs, hC⟩)
              have HJ := Lib.hid hkm
              clear hxm hx1 hx2 hsep hml hx hs hC
              go_wp2_with fail
              clear hcell
              go_loopw [22] (fun v w2 => RelFl WF xs ml v w2) (fun v _ => ml - (intOf v).toNat)
              case atStart => exact HR0.out
              case round =>
                clear HR0
                obtain ⟨k4, hk4, rfl, hs, hC⟩ := hrel
                obtain ⟨gl2, egl, hcell⟩ := HCL.out _ hC
                cases egl
                by_cases hkl : k4 < ml
                · obtain ⟨bs, hbl, hO⟩ := hs x HXM.out
                  rw [HX1.out, HML.out] at hO
                  rw [HML.out] at hbl
                  obtain ⟨hcb, hfb⟩ := hO.cell (i := k4) (by omega)
                  have hlt := (bs.getD k4 0).toNat_lt
                  have hd : Below wr.heap.size wr wr.drew := (Below.refl wr.heap.size wr).drew
                  have hs3 : Shp wr.drew xs := fun y hy => by obtain ⟨bs, h1, h2⟩ := hs y hy; exact ⟨bs, h1, h2.below hd⟩
                  have hC3 := hC.trans (Chg.of_below (F := fun b => ∃ r ∈ xs, blk r.2.1 = some b) hd) (fun _ _ f => f)
                  have hO3 := hO.below hd
                  have HC3 := Lib.hid (hO3.cell (i := k4) (by omega))
                  have Hnx := Lib.hid fun (v : Int) (h0 : 0 ≤ v) (h1 : v < 256) (i : Value) hi => relFl_next (v := v) (n := ml) (m := ml) (i := i) hkl hs3 hC3 HXM.out HX1.out hkl h0 h1 HSEP.out hi
                  generalize (bs.getD k4 0).toNat = c at *
                  have HJ2 := Lib.hid hkl
                  clear hs hC hO hbl hd hs3 hC3 hO3
                  go_wp2_with fail
                  go_still_tail 14, (by kernel_rfl)
                  change wpList _ _ _ _ _ wr.drew
                  generalize wr.drew = w3 at HC3 Hnx ⊢
                  obtain ⟨hcb3, hfb3⟩ := HC3.out
                  clear hcb hfb hcell
                  go_wp2_with fail
                  go_roundw
                  case rel => exact Hnx.out _ (xor_ok hlt).1 (xor_ok hlt).2 _ (by go_num)
                  case measure => exact meas_up HJ2.out
                · obtain rfl : k4 = ml := by omega
                  have HN := Lib.hid fun (v : Value) (hv : v = .int .i64 ((k3 + 1 : Nat) : Int)) => (show RelFl WF xs k2 v wr from ⟨k3 + 1, HJ.out, hv, hs, hC⟩)
                  clear hs hC
                  go_wp2_with fail
                  go_roundw
                  case rel => exact HN.out _ (by go_num)
                  case measure => exact meas_up HJ.out
            · obtain rfl : k3 = k2 := by omega
              have hTW := HT.out.chg hC (fun j e ⟨x, hx, f⟩ => by
                have h1 := (HG6.out.up.mem _ (GRws.mem (K := kSp) hx) j f).2
                have h2 := HT.out.lob j e
                omega) (fun y hy j e ⟨x, hx, f⟩ => by
                have h1 := (HG6.out.up.mem _ (GRws.mem (K := kSp) hx) j f).2
                have h2 := (HT.out.up.mem y hy j e).1
                omega)
              have hGAW := OR.chg HGA6.out hC (fun j e ⟨x, hx, f⟩ => by
                have h1 := (HG6.out.up.mem _ (GRws.mem (K := kSp) hx) j f).2
                have h2 := HG0.out j e
                omega)
              have hWAW := OR.chg HWA6.out hC (fun j e ⟨x, hx, f⟩ => by
                have h1 := (HG6.out.up.mem _ (GRws.mem (K := kSp) hx) j f).2
                have h2 := HW0.out j e
                omega)
              have HBF := Lib.hid (HB6.out.trans (hC.below HB6.out.size (fun j ⟨x, hx, f⟩ => by
                have h1 := (HG6.out.up.mem _ (GRws.mem (K := kSp) hx) j f).1
                omega)))
              obtain ⟨rs2, hr2l, hrd2⟩ := shp_rd HG6.out hs hC
              rw [HLR.out] at hr2l
              obtain ⟨⟨e3, l3⟩, hd3⟩ : ∃ r, bdec gen pages (rs2.map (·.1)) = r := ⟨_, rfl⟩
              obtain ⟨hz3, hll3⟩ := bdec_none hd3
              rw [List.length_map, hr2l] at hll3
              have HDB := Lib.hid (decodeB_any gen pages la lc rs2 (rs2.map (·.1)) rfl wr hp (by rw [List.length_map]; omega) hrd2)
              have HDD := Lib.hid fun w1 (h : Below wr.heap.size wr w1) => dDecode8_any gen pages la lc rs2 (rs2.map (·.1)) rfl w1 hp (by rw [List.length_map]; omega) (hrd2.below h)
              rw [hd3, List.length_map, hr2l] at HDB
              simp only [hd3, List.length_map, hr2l] at HDD
              unfold BlkP at HDB HDD
              simp only at HDB HDD
              obtain ⟨n3, hn3⟩ : ∃ n3, l3.length = n3 := ⟨_, rfl⟩
              simp only [hn3] at HDB HDD
              have HTW := Lib.hid hTW
              have HGAW := Lib.hid hGAW
              have HWAW := Lib.hid hWAW
              have hed3 : (e3 != e3) = false := by simp
              have hz4 : e3 = 0 ∨ (e3 ≠ 0 ∧ n3 = 0) := by
                by_cases h : e3 = 0
                · exact .inl h
                · refine .inr ⟨h, ?_⟩
                  rcases hz3 with h2 | h2
                  · exact absurd h2 h
                  · rw [← hn3, h2]; rfl
              clear hs hC hTW hGAW hWAW hr2l hrd2 hd3 hll3 hz3 hn3 HG6 HGA6 HWA6 HT hkm
              go_wp2_with fail
              refine HDB.out.mono ?_
              rintro _ w8 ⟨oa, oc, rfl, -, -, hb8⟩
              have HB8 := Lib.hid hb8
              clear hb8 HDB
              go_wp2_with fail
              refine (HDD.out w8 HB8.out).mono ?_
              rintro _ w9 ⟨pa, pc, rfl, -, -, hb9⟩
              have hB9 := HB8.out.trans (hb9.mono HB8.out.size)
              have HTW9 := Lib.hid (HTW.out.below hB9)
              have hGA9 := OR.chg (F := fun _ => False) HGAW.out (Chg.of_below hB9) (fun _ _ f => f)
              have hWA9 := OR.chg (F := fun _ => False) HWAW.out (Chg.of_below hB9) (fun _ _ f => f)
              have H := Lib.hid (HEI.out ga wa gc wc w9 (ON.nts hGA9) (ON.nts hWA9))
              have HB9 := Lib.hid (HBF.out.trans (hB9.mono HBF.out.size))
              clear hb9 hB9 hGA9 hWA9 HB8 HDD HTW HGAW HWAW HBF
              have HA := Lib.hid fun w10 (h : Below w9.heap.size w9 w10) => apart_told (HTW9.out.below h) HTL.out (by omega) (B := W.heap.size) (Nat.le_trans HB9.out.size h.size) (by omega)
              rcases hz4 with rfl | ⟨h4, rfl⟩
              · go_wp2_with fail
                refine H.out.mono ?_
                rintro _ w10 ⟨rfl, hb10⟩
                have HB10 := Lib.hid (HB9.out.trans (hb10.mono HB9.out.size))
                have HA2 := Lib.hid (HA.out w10 hb10)
                clear hb10 H HA HB9
                go_wp2_with fail
                refine HA2.out.mono ?_
                rintro _ w11 ⟨rfl, hb11⟩
                have HBL := Lib.hid (HB10.out.trans hb11)
                clear hb11 HA2
                go_wp2_with fail
                go_ret
                exact ⟨rfl, HBL.out⟩
              · have h4d : (e3 != 0) = true := by rw [bne_iff_ne]; exact h4
                clear h4
                go_wp2_with fail
                refine H.out.mono ?_
                rintro _ w10 ⟨rfl, hb10⟩
                have HB10 := Lib.hid (HB9.out.trans (hb10.mono HB9.out.size))
                have HA2 := Lib.hid (HA.out w10 hb10)
                clear hb10 H HA HB9
                go_wp2_with fail
                refine HA2.out.mono ?_
                rintro _ w11 ⟨rfl, hb11⟩
                have HBL := Lib.hid (HB10.out.trans hb11)
                clear hb11 HA2
                go_wp2_with fail
                go_ret
                exact ⟨rfl, HBL.out⟩
theorem bankReads_walk (gen pages i : Int) (a : Option Addr) (len cap : Nat) (rs : List Row) (W : World) (h0 : (Lit.int .i64 gen).wf = true) (h1 : (Lit.int .i64 pages).wf = true) (h2 : (Lit.int .i64 i).wf = true) (hlc : len ≤ cap) (hcm : cap ≤ 9223372036854775807) (hrl : rs.length = len) (hr : RdRw W a rs) :
    Calls Try.prog 4 #[.int .i64 gen, .int .i64 pages, .int .i64 i, .slice a len cap] W fun e w' => e = .returned (.bool true) ∧ Below W.heap.size W w' := by
  by_cases h : 200 < len
  · exact bankReads_rows gen pages i a len cap (rs.take 200) 200 (by rw [List.length_take]; omega) (Nat.le_refl _) (by omega) (by rw [if_pos (by omega)]; rfl) (i64_le h1).2 W (hr.cut 200)
  · exact bankReads_rows gen pages i a len cap rs len hrl (by omega) hlc (by rw [if_neg (by omega)]) (i64_le h1).2 W hr
end Go.Proofs.Ytpjdknmgegbgnaa
