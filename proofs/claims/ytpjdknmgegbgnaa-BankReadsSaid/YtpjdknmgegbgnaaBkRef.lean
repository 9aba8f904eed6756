/- The document's Summed, One, Encode. -/
import Derived.Test.YtpjdknmgegbgnaaBkArg
import Derived.Test.YtpjdknmgegbgnaaRwOps
import Derived.Test.YtpjdknmgegbgnaaRwShort
import Derived.Test.YtpjdknmgegbgnaaRefN
namespace Go.Proofs.Ytpjdknmgegbgnaa
open Go.RowKit
set_option linter.unusedVariables false
set_option maxRecDepth 100000

def RelS8 (W : World) (bs ns : List UInt8) (m : Nat) (na : Option Addr) (o i : Value) (wr : World) : Prop :=
  ∃ (k : Nat) (oa : Option Addr) (oc : Nat), k ≤ ns.length ∧ i = .int .i64 k ∧ o = .slice oa (m + k) oc ∧ OB wr oa oc (bs ++ ns.take k) ∧ (∀ j, blk oa = some j → W.heap.size ≤ j) ∧ (∀ j, blk oa = some j → blk na ≠ some j) ∧ Bts wr na ns ∧ Below W.heap.size W wr ∧ (∀ j, blk na = some j → j < wr.heap.size)
theorem Bts.chgF {F : Nat → Prop} {w w' : World} {a : Option Addr} {bs : List UInt8} (h : Bts w a bs) (hc : Chg F w w') (hn : ∀ k, blk a = some k → ¬ F k) : Bts w' a bs := by
  rcases h with h | ⟨b, off, rfl, h2, h3⟩
  · exact .inl h
  · have hs := hc.block b h2 (hn b rfl)
    refine .inr ⟨b, off, rfl, Nat.lt_of_lt_of_le h2 hc.size, fun i hi => ?_⟩
    rw [World.cell?_of_block (w := w) hs]
    exact h3 i hi
theorem relS8_next {W wr w1 w2 : World} {bs ns : List UInt8} {m k : Nat} {na oa oa2 : Option Addr} {oc2 : Nat} {b : UInt8} (hk : k < ns.length) (hb : ns.getD k 0 = b) (ho : ∀ j, blk oa = some j → W.heap.size ≤ j) (hd : ∀ j, blk oa = some j → blk na ≠ some j) (hN : Bts wr na ns) (hB : Below W.heap.size W wr) (hl : ∀ j, blk na = some j → j < wr.heap.size)
    (h1 : Below wr.heap.size wr w1) (hO : OB w2 oa2 oc2 (bs ++ ns.take k ++ [b])) (hC : Chg (fun j => blk oa = some j) w1 w2) (hb2 : blk oa2 = blk oa ∨ blk oa2 = some w1.heap.size) {i : Value} (hi : i = .int .i64 ((k + 1 : Nat) : Int)) :
    RelS8 W bs ns m na (.slice oa2 (m + (k + 1)) oc2) i w2 := by
  subst hi
  have hB1 := hB.trans (h1.mono hB.size)
  have ht : ns.take (k + 1) = ns.take k ++ [b] := by rw [take_snoc hk, hb]
  refine ⟨k + 1, oa2, oc2, hk, rfl, rfl, by rw [ht, ← List.append_assoc]; exact hO, fun j e => ?_, fun j e f => ?_, (hN.below h1).chgF hC (fun j e f => hd j f e), hB1.trans (hC.below hB1.size ho), fun j e => Nat.lt_of_lt_of_le (hl j e) (Nat.le_trans h1.size hC.size)⟩
  · rcases hb2 with hb2 | hb2
    · exact ho j (hb2 ▸ e)
    · rw [hb2] at e; cases e; exact hB1.size
  · rcases hb2 with hb2 | hb2
    · exact hd j (hb2 ▸ e) f
    · rw [hb2] at e; cases e; have := hl _ f; have := h1.size; omega
set_option maxHeartbeats 1000000 in
theorem dSum8_any (a : Option Addr) (cap : Nat) (bs : List UInt8) (hl : bs.length ≤ 508) (w : World) (hb : Bts w a bs) :
    Calls Try.prog 40 #[.slice a bs.length cap] w (NewB w (summed bs)) := by
  have HC := Lib.hid (copyBytes_any a cap bs (by omega) w hb)
  have HS := Lib.hid fun w1 (h : Below w.heap.size w w1) => refOf_any bs a cap (by omega) w1 (hb.below h)
  have hof := Crc.ofs_lt bs
  have HN := Lib.hid fun w1 => number_any (Crc.ofs bs) (by omega) 4 (by decide) w1
  have HSM := Lib.hid (show summed bs = bs ++ leb 4 (Crc.ofs bs) from rfl)
  obtain ⟨ns, hns⟩ : ∃ ns, leb 4 (Crc.ofs bs) = ns := ⟨_, rfl⟩
  rw [hns] at HN HSM
  have HNL := Lib.hid (show ns.length = 4 by rw [← hns, leb_length])
  unfold NewB at HC HN
  obtain ⟨m, hm⟩ : ∃ m, bs.length = m := ⟨_, rfl⟩
  rw [hm] at HC HS hl ⊢
  have HM := Lib.hid hm
  simp only [HNL.out] at HN
  generalize Crc.ofs bs = sm at *
  clear hb hm hns
  go_enter Try.func40, Try.ntmps40
  go_wp2_with fail
  refine HC.out.mono ?_
  rintro _ w1 ⟨oa, oc, rfl, hO, ho, hB1⟩
  have HO := Lib.hid hO
  have HO2 := Lib.hid ho
  have HB1 := Lib.hid hB1
  clear hO ho hB1 HC
  go_wp2_with fail
  refine (HS.out _ HB1.out).mono ?_
  rintro _ wx ⟨rfl, e0⟩
  rw [← e0]
  clear e0 wx
  go_wp2_with fail
  refine (HN.out _).mono ?_
  rintro _ w2 ⟨na, nc, rfl, hN, hn0, hB2⟩
  have HR := Lib.hid (show RelS8 w bs ns m na (.slice oa m oc) (.int .i64 0) w2 from
    ⟨0, oa, oc, Nat.zero_le _, rfl, rfl, by simpa using HO.out.below hB2, HO2.out, fun j e f => by have h1 := HO.out.lt j e; have h2 := hn0 j f; omega, hN.bts, HB1.out.trans (hB2.mono HB1.out.size), hN.lt⟩)
  clear hN hn0 hB2 HN HS HO
  go_wp2_with fail
  go_loopw [3, 5] (fun o i wr => RelS8 w bs ns m na o i wr) (fun _ i _ => 4 - (intOf i).toNat)
  case atStart => exact HR.out
  case round =>
    clear HR
    obtain ⟨k, oa, oc, hk, rfl, rfl, hO, ho, hd, hN, hB, hlt⟩ := hrel
    rw [HNL.out] at hk
    by_cases hk4 : k < 4
    · obtain ⟨nb, noff, rfl, -, hc⟩ := hN.at (k := k) (by rw [HNL.out]; exact hk4)
      obtain ⟨b, eb⟩ : ∃ b, ns.getD k 0 = b := ⟨_, rfl⟩
      rw [eb] at hc
      have Hnx := Lib.hid fun (w1 w2 : World) (oa2 : Option Addr) (oc2 : Nat) (i : Value) => relS8_next (W := w) (bs := bs) (m := m) (w1 := w1) (w2 := w2) (oa2 := oa2) (oc2 := oc2) (i := i) (by rw [HNL.out]; exact hk4) eb ho hd hN hB hlt
      have HO := Lib.hid (hO.below (one_below wr (.cells #[.int .u8 (b.toNat : Int)] 5)))
      have HB1 := Lib.hid (one_below wr (.cells #[.int .u8 (b.toNat : Int)] 5))
      have hx := one_new wr b
      have HJ := Lib.hid hk4
      have HLE := Lib.hid (show (bs ++ ns.take k).length = m + k by rw [List.length_append, HM.out, List.length_take, HNL.out]; omega)
      clear hO ho hd hN hB hlt eb
      go_wp2_with (at_builtin; refine wpList_append_bytes rfl (.tmp 18) (.tmp 23) rfl (n := m + k) (m := 1) (xs := [b]) HLE.out.symm rfl HO.out rfl rfl hx (fun e => by cases e) (by omega) ?_
                   intro oa2 cap2 w2 hO3 hC2 hb2 _)
      go_roundw
      case rel => exact Hnx.out _ _ _ _ _ HB1.out hO3 hC2 hb2 (by go_num)
      case measure => exact meas_up HJ.out
    · obtain rfl : k = 4 := by omega
      have hke : ns.take 4 = ns := List.take_of_length_le (by rw [HNL.out]; exact Nat.le_refl _)
      rw [hke] at hO
      have HF := Lib.hid (show NewB w (summed bs) (.returned (.slice oa (m + 4) oc)) wr from ⟨oa, oc, by rw [summed_length, HM.out], by rw [HSM.out]; exact hO, ho, hB⟩)
      clear hO ho hd hN hB hlt hke
      go_wp2_with fail
      go_ret
      exact HF.out
theorem putD (K : Nat → Prop) (p : Nat) (bs : List UInt8) (n m : Nat) (hm : m ≤ 8) (hn : n < 18446744073709551616) (w : World) (hB : ∀ k, K k → k < w.heap.size) (h : WAt K p bs w) (hr : bs.length + m ≤ 512) :
    Calls Try.prog 54 #[.pointer (some ⟨p, 0, none⟩), .int .u64 (n : Int), .int .i64 (m : Int)] w (Puts K p (bs ++ leb m n) w) := by
  obtain ⟨oa, cap, h1, h2, h3⟩ := h
  refine (rwPut_any p oa cap _ n hn m hm w h1).mono ?_
  rintro _ w' ⟨rfl, h4⟩
  rw [add512 (by rw [leb_length]; exact hr)] at h4
  exact ⟨rfl, WAt.wrote hB h2 h3 h4⟩
theorem fillD (K : Nat → Prop) (p : Nat) (bs : List UInt8) (w : World) (hB : ∀ k, K k → k < w.heap.size) (h : WAt K p bs w) (hr : bs.length ≤ 508) :
    Calls Try.prog 55 #[.pointer (some ⟨p, 0, none⟩), .int .i64 508] w (Puts K p (fullB bs) w) := by
  obtain ⟨oa, cap, h1, h2, h3⟩ := h
  refine (rwFill_any p oa cap _ 508 w h1).mono ?_
  rintro _ w' ⟨rfl, h4⟩
  have e : (⟨512, bs, 0⟩ : WS).fill 508 = ⟨512, fullB bs, 0⟩ := by
    simp only [WS.fill]
    rw [if_neg (by omega), if_neg (by omega), add512 (by simp; omega)]
    rfl
  rw [e] at h4
  exact ⟨rfl, WAt.wrote hB h2 h3 h4⟩
theorem WAt.cell {K : Nat → Prop} {p : Nat} {bs : List UInt8} {w : World} (h : WAt K p bs w) : ∃ oa cap, w.cell? ⟨p, 1, none⟩ = some (.slice oa bs.length cap) ∧ Bts w oa bs := by
  obtain ⟨oa, cap, ⟨⟨T, h1⟩, h2, _⟩, _⟩ := h
  obtain ⟨c0, c1, c2, -⟩ := cells3 h1
  exact ⟨oa, cap, c1, h2.bts⟩
def RelOne (W : World) (p q : Nat) (hd : List UInt8) (ps : List Nat) (n : Nat) (v : Value) (wr : World) : Prop :=
  ∃ k qk : Nat, k ≤ n ∧ qk = q + k ∧ v = .int .i64 (qk : Int) ∧ WAt (· < W.heap.size) p (hd ++ cntB (ps.take k)) wr ∧ Chg (fun k => ¬ k < W.heap.size) W wr
theorem meas_on {q m k qk : Nat} (h : k < m) (hq : qk = q + k) : q + m - (intOf (.int .i64 ((qk : Int) + 1))).toNat < q + m - (intOf (.int .i64 (qk : Int))).toNat := by simp only [intOf]; omega
set_option maxHeartbeats 2000000 in
theorem dOne_any (g i : Nat) (hg : g ≤ 1099511627776) (cs : List Int) (a : Option Addr) (cap : Nat) (hn : cs.length ≤ 65536) (hi : i < nblocks cs.length) (hok : okL cs) (w : World) (hb : Nts w a cs) :
    Calls Try.prog 29 #[.int .i64 (g : Int), .int .i64 (i : Int), .slice a cs.length cap] w (NewB w (blk1 g i cs.length (part (cs.map Int.toNat) i))) := by
  have HNT := Lib.hid hb
  obtain ⟨n, hnl⟩ : ∃ n, cs.length = n := ⟨_, rfl⟩
  have HPS := Lib.hid fun (k : Nat) (hk : k < inBlk n i) => (show ∃ x : Nat, cs.getD (i * 240 + k) 0 = (x : Int) ∧ x < 65536 ∧ (part (cs.map Int.toNat) i)[k]? = some x from by
    have h240 := inBlk_le n i
    have hk2 : i * 240 + k < cs.length := by unfold inBlk at hk; omega
    have hm := hok _ (List.getElem_mem hk2)
    refine ⟨cs[i * 240 + k].toNat, ?_, by have := hm.1; have := hm.2; omega, ?_⟩
    · rw [List.getD_eq_getElem?_getD, List.getElem?_eq_getElem hk2]
      have := hm.1
      simp only [Option.getD_some]; omega
    · unfold part
      rw [List.getElem?_take_of_lt (by omega), List.getElem?_drop, List.getElem?_map, List.getElem?_eq_getElem hk2]; rfl)
  have HPL := Lib.hid (show (part (cs.map Int.toNat) i).length = inBlk n i by rw [part_length, List.length_map, hnl])
  rw [hnl] at hn hi ⊢
  have HL := Lib.hid hnl
  have hm240 := inBlk_le n i
  have hmn : i * 240 + inBlk n i ≤ n := by unfold inBlk; unfold nblocks at hi; omega
  have hmx : inBlk n i = 240 ∨ i * 240 + inBlk n i = n := by unfold inBlk; unfold nblocks at hi; omega
  have hi300 : i ≤ 300 := by unfold nblocks at hi; omega
  have HLB := Lib.hid (show blk1 g i n (part (cs.map Int.toNat) i) = summed (fullB (bhead g i n ++ cntB (part (cs.map Int.toNat) i))) from rfl)
  generalize inBlk n i = m at *
  generalize part (cs.map Int.toNat) i = ps at *
  clear hb hnl hok hi
  go_enter Try.func29, Try.ntmps29
  go_wp2_with fail
  refine (rwNew_any 512 w).mono ?_
  rintro _ w2 ⟨rfl, hW2, hb2⟩
  have hW2 : WAt (· < w.heap.size) w.heap.size [] w2 := ⟨none, 0, hW2, by omega, fun k e => by cases e⟩
  have hz2 := hb2.size
  have HC2 := Lib.hid (Chg.of_below (F := fun k => ¬ k < w.heap.size) hb2)
  have H := Lib.hid (putD _ _ _ 66 1 (by decide) (by decide) w2 (fun k (hk : k < _) => by omega) hW2 (by decide))
  clear hb2 hW2
  go_wp2_with fail
  refine H.out.mono ?_
  clear H
  rintro _ w3 ⟨rfl, hW3, hc3⟩
  have HC3 := Lib.hid (HC2.out.trans hc3 (fun _ _ f => f))
  have hz3 := HC3.out.size
  have H := Lib.hid (putD _ _ _ g 8 (by decide) (by omega) w3 (fun k (hk : k < _) => by omega) hW3 (by simp [leb_length]))
  clear hc3 hW3 HC2
  go_wp2_with fail
  refine H.out.mono ?_
  clear H
  rintro _ w4 ⟨rfl, hW4, hc4⟩
  have HC4 := Lib.hid (HC3.out.trans hc4 (fun _ _ f => f))
  have hz4 := HC4.out.size
  have H := Lib.hid (putD _ _ _ i 4 (by decide) (by omega) w4 (fun k (hk : k < _) => by omega) hW4 (by simp [leb_length]))
  clear hc4 hW4 HC3
  go_wp2_with fail
  refine H.out.mono ?_
  clear H
  rintro _ w5 ⟨rfl, hW5, hc5⟩
  have HC5 := Lib.hid (HC4.out.trans hc5 (fun _ _ f => f))
  have hz5 := HC5.out.size
  have H := Lib.hid (putD _ _ _ n 4 (by decide) (by omega) w5 (fun k (hk : k < _) => by omega) hW5 (by simp [leb_length]))
  clear hc5 hW5 HC4
  go_wp2_with fail
  refine H.out.mono ?_
  clear H
  rintro _ w6 ⟨rfl, hW6, hc6⟩
  have HC6 := Lib.hid (HC5.out.trans hc6 (fun _ _ f => f))
  have HW6 := Lib.hid (show WAt (· < w.heap.size) w.heap.size (bhead g i n) w6 from by simpa [bhead] using hW6)
  clear hc6 hW6 HC5
  obtain ⟨q, hq⟩ : ∃ q, i * 240 = q := ⟨_, rfl⟩
  have HQ := Lib.hid hq
  have hiI : (i : Int) * 240 = (q : Int) := by omega
  have hiJ : ((i : Int) + 1) * 240 = (q : Int) + 240 := by omega
  rw [hq] at hmn hmx
  clear hq
  go_wp2_with fail
  go_loopw [8] (fun v wr => RelOne w w.heap.size q (bhead g i n) ps m v wr) (fun v _ => q + m - (intOf v).toNat)
  case atStart => exact ⟨0, q, Nat.zero_le _, rfl, rfl, by simpa [cntB] using HW6.out, HC6.out⟩
  case round =>
    clear HW6 HC6
    obtain ⟨k, qk, hk, hqk, rfl, hW, hC⟩ := hrel
    by_cases hkm : k < m
    · obtain ⟨x, hx1, hx2, hx3⟩ := HPS.out k hkm
      rw [HQ.out, ← hqk] at hx1
      have hqn : (qk : Int) < (n : Int) := by omega
      have hqm : (qk : Int) < (q : Int) + 240 := by omega
      obtain ⟨b, off, rfl, -, hcell⟩ := (HNT.out.below (show Below w.heap.size w wr from hC.below (Nat.le_refl _) (fun j hj => by omega))).at (k := qk) (by rw [HL.out]; omega)
      rw [hx1] at hcell
      have Hsn := Lib.hid (cntB_snoc hx3)
      have HCC := Lib.hid hC
      have HJ := Lib.hid hkm
      have hz := hC.size
      have hlen : (bhead g i n ++ cntB (ps.take k)).length + 2 ≤ 512 := by
        rw [List.length_append, bhead_length, cntB_length, List.length_take]; omega
      have H := Lib.hid (putD _ _ _ x 2 (by decide) (by omega) wr (fun k (hk : k < _) => by omega) hW hlen)
      have HQK := Lib.hid hqk
      clear hx1 hx3 hW hC hlen hqk
      go_wp2_with fail
      refine H.out.mono ?_
      clear H
      rintro _ w7 ⟨rfl, hW7, hc7⟩
      go_wp2_with fail
      go_roundw
      case rel => exact ⟨k + 1, qk + 1, HJ.out, by have := HQK.out; omega, by go_num, by rw [Hsn.out, ← List.append_assoc]; exact hW7, HCC.out.trans hc7 (fun _ _ f => f)⟩
      case measure => exact meas_on HJ.out HQK.out
    · obtain rfl : k = m := by omega
      have hstop : ¬ (qk : Int) < (n : Int) ∨ ((qk : Int) < (n : Int) ∧ ¬ (qk : Int) < (q : Int) + 240) := by omega
      have hlen : (bhead g i n ++ cntB (ps.take k)).length ≤ 508 := by
        rw [List.length_append, bhead_length, cntB_length, List.length_take]; omega
      have hz := hC.size
      have HCC := Lib.hid hC
      have hpt : ps.take k = ps := List.take_of_length_le (by rw [HPL.out]; exact Nat.le_refl _)
      rw [hpt] at hlen hW
      have HFL := Lib.hid (fullB_length hlen)
      have H := Lib.hid (fillD _ _ _ wr (fun k (hk : k < _) => by omega) hW hlen)
      generalize fullB (bhead g i n ++ cntB ps) = fb at *
      clear hW hC hlen hpt hmn hmx hkm hqk
      rcases hstop with h1 | ⟨h1, h2⟩
      all_goals
        go_wp2_with fail
        refine H.out.mono ?_
        clear H
        rintro _ w7 ⟨rfl, hW7, hc7⟩
        have HB7 := Lib.hid (kbelow (B := w.heap.size) (HCC.out.trans hc7 (fun _ _ f => f)) (Nat.le_refl _))
        obtain ⟨oa, oc, hcell, hbts⟩ := hW7.cell
        have H := Lib.hid (dSum8_any oa oc fb (by rw [HFL.out]; exact Nat.le_refl _) w7 hbts)
        rw [← HLB.out] at H
        have HLL := Lib.hid (show (blk1 g i n ps).length = 512 by rw [HLB.out, summed_length, HFL.out])
        unfold NewB at H
        rw [HFL.out] at H hcell
        rw [HLL.out] at H
        clear hW7 hc7 hbts HCC
        go_wp2_with fail
        refine H.out.mono ?_
        clear H
        rintro _ w8 ⟨oa2, oc2, rfl, hO8, ho8, hb8⟩
        have HF := Lib.hid (show NewB w (blk1 g i n ps) (.returned (.slice oa2 512 oc2)) w8 from ⟨oa2, oc2, by rw [HLL.out], hO8, fun j e => Nat.le_trans HB7.out.size (ho8 j e), HB7.out.trans (hb8.mono HB7.out.size)⟩)
        clear hO8 ho8 hb8 hcell
        go_wp2_with fail
        go_ret
        exact HF.out
end Go.Proofs.Ytpjdknmgegbgnaa
