/- The walks of the document's low, Laid, Encode of chapter 9. -/
import Derived.Test.YthkopgmkdenebaaSupD
import Derived.Test.YthkopgmkdenebaaSupR
import Derived.Test.YthkopgmkdenebaaSpare
import Derived.Test.YthkopgmkdenebaaRefN
namespace Go.Proofs.Ythkopgmkdenebaa
open Go.RowKit
set_option linter.unusedVariables false
set_option maxRecDepth 100000

/-- a list that is lengthened -/
def Grew (oa : Option Addr) (bs : List UInt8) (w : World) (e : Ending) (w' : World) : Prop :=
  ∃ oa' cap', e = .returned (.slice oa' bs.length cap') ∧ OB w' oa' cap' bs ∧ (blk oa' = blk oa ∨ ∃ k, blk oa' = some k ∧ w.heap.size ≤ k) ∧ Chg (fun k => blk oa = some k) w w'
def RelLow (W : World) (oa : Option Addr) (bs : List UInt8) (n x : Nat) (o i : Value) (wr : World) : Prop :=
  ∃ (k : Nat) (oa' : Option Addr) (cap' : Nat), k ≤ n ∧ i = .int .i64 k ∧ o = .slice oa' (bs.length + k) cap' ∧ OB wr oa' cap' (bs ++ (leb n x).take k) ∧ (blk oa' = blk oa ∨ ∃ k, blk oa' = some k ∧ W.heap.size ≤ k) ∧ Chg (fun k => blk oa = some k) W wr

theorem relLow_next {W wr W1 w2 : World} {oa oa1 oa2 : Option Addr} {cap2 : Nat} {bs : List UInt8} {n x k : Nat} {b : UInt8} (hk : k < n) (hb : (leb n x)[k]? = some b) (h1 : blk oa1 = blk oa ∨ ∃ k, blk oa1 = some k ∧ W.heap.size ≤ k) (hC : Chg (fun k => blk oa = some k) W wr) (hW : Below wr.heap.size wr W1)
    (hO : OB w2 oa2 cap2 (bs ++ (leb n x).take k ++ [b])) (hC2 : Chg (fun k => blk oa1 = some k) W1 w2) (hb2 : blk oa2 = blk oa1 ∨ blk oa2 = some W1.heap.size) {i : Value} (hi : i = .int .i64 ((k + 1 : Nat) : Int)) : RelLow W oa bs n x (.slice oa2 (bs.length + (k + 1)) cap2) i w2 := by
  subst hi
  refine ⟨k + 1, oa2, cap2, hk, rfl, rfl, ?_, ?_, ?_⟩
  · rw [List.take_add_one, hb]
    simpa using hO
  · rcases hb2 with h | h
    · rw [h]; exact h1
    · exact .inr ⟨_, h, Nat.le_trans hC.size hW.size⟩
  · refine (hC.trans (Chg.of_below hW) (fun i _ e => e)).trans hC2 (fun i hi e => ?_)
    rcases h1 with h | ⟨j, h, h'⟩
    · rw [← h]; exact e
    · rw [h] at e; cases e; omega

set_option maxHeartbeats 2000000 in
theorem dLow_any (oa : Option Addr) (cap : Nat) (bs : List UInt8) (x n : Nat) (hx : x < 9223372036854775808) (hn : n ≤ 8) (hl : bs.length ≤ 1000000) (w : World) (h : OB w oa cap bs) :
    Calls Try.prog 71 #[.slice oa bs.length cap, .int .i64 (x : Int), .int .i64 (n : Int)] w (Grew oa (bs ++ leb n x) w) := by
  have Hh := Lib.hid h
  obtain ⟨m, hm⟩ : ∃ m, bs.length = m := ⟨_, rfl⟩
  have Hm := Lib.hid hm
  rw [hm] at hl ⊢
  clear h hm
  go_enter Try.func71, Try.ntmps71
  go_wp2_with fail

  go_loopw [0, 7] (fun o i wr => RelLow w oa bs n x o i wr) (fun _ i _ => n - (intOf i).toNat)
  case atStart => exact ⟨0, oa, cap, Nat.zero_le _, rfl, by rw [Hm.out]; rfl, by simpa using Hh.out, .inl rfl, Chg.refl _ _⟩
  case round =>
    obtain ⟨k, oa1, cap1, hk, rfl, rfl, hO, h1, hC⟩ := hrel
    rw [Hm.out]
    by_cases hlt : k < n
    · have hk8 : k < 8 := by omega
      have hbk := leb_get n x k hlt
      have hbv : (x : Int) / 2 ^ (8 * k) % 256 = (((UInt8.ofNat (x / 256 ^ k % 256)).toNat : Nat) : Int) := by
        rw [UInt8.toNat_ofNat', show (256 : Nat) ^ k = 2 ^ (8 * k) by rw [Nat.pow_mul]]
        have h1 : x / 2 ^ (8 * k) % 256 % 2 ^ 8 = x / 2 ^ (8 * k) % 256 := Nat.mod_eq_of_lt (by have := Nat.mod_lt (x / 2 ^ (8 * k)) (show 0 < 256 by omega); omega)
        rw [h1]
        simp
      have Hnx := Lib.hid fun W1 w2 oa2 cap2 hW hO hC2 hb2 i hi => relLow_next (W := w) (wr := wr) (W1 := W1) (w2 := w2) (oa := oa) (oa1 := oa1) (oa2 := oa2) (cap2 := cap2) (bs := bs) (i := i) hlt hbk h1 hC hW hO hC2 hb2 hi
      generalize UInt8.ofNat (x / 256 ^ k % 256) = b at hbv Hnx
      have hb1 := one_below wr (.cells #[.int .u8 (b.toNat : Int)] 5)
      have hO2 := hO.below hb1
      have hx1 := one_new wr b
      have Hb1 := Lib.hid hb1
      have hlk : m + k = (bs ++ (leb n x).take k).length := by rw [List.length_append, Hm.out, List.length_take, leb_length]; omega
      have Hlk := Lib.hid hlk
      rw [Hm.out] at Hnx
      clear hO h1 hC hbk hb1 hlk
      go_wp2_with (at_builtin; refine wpList_append_bytes rfl (.tmp 13) (.tmp 19) rfl (n := m + k) (m := 1) (xs := [b]) Hlk.out rfl hO2 rfl rfl hx1 (fun e => by cases e) (by omega) ?_
                   intro oa2 cap2 w2 hO3 hC2 hb2 _)
      refine ⟨Hnx.out _ _ _ _ Hb1.out hO3 hC2 hb2 _ (by go_num), by simp [intOf]; omega⟩
    · have hkn : k = n := by omega
      subst hkn
      have HF : Grew oa (bs ++ leb k x) w (.returned (.slice oa1 (m + k) cap1)) wr := by
        have ht : (leb k x).take k = leb k x := List.take_of_length_le (by rw [leb_length]; exact Nat.le_refl _)
        rw [ht] at hO
        exact ⟨oa1, cap1, by rw [List.length_append, leb_length, Hm.out], hO, h1, hC⟩
      have HF := Lib.hid HF
      clear hO h1 hC
      go_wp2_with fail
      go_ret
      exact HF.out

/-- a list of the program's own, above B -/
def OwnB (B m : Nat) (bs : List UInt8) (oa : Option Addr) (cap : Nat) (w : World) : Prop := OB w oa cap bs ∧ bs.length = m ∧ ∀ k, blk oa = some k → B ≤ k
def LowB (B m : Nat) (bs : List UInt8) (w : World) (e : Ending) (w' : World) : Prop := ∃ oa cap, e = .returned (.slice oa m cap) ∧ OwnB B m bs oa cap w' ∧ Below B w w'
theorem lowB (B : Nat) (oa : Option Addr) (cap m : Nat) (bs : List UInt8) (x n : Nat) (hx : x < 9223372036854775808) (hn : n ≤ 8) (hl : m ≤ 1000000) (w : World) (hB : B ≤ w.heap.size) (h : OwnB B m bs oa cap w) :
    Calls Try.prog 71 #[.slice oa m cap, .int .i64 (x : Int), .int .i64 (n : Int)] w (LowB B (m + n) (bs ++ leb n x) w) := by
  obtain ⟨h1, rfl, h3⟩ := h
  refine (dLow_any oa cap bs x n hx hn hl w h1).mono ?_
  rintro e w' ⟨oa', cap', rfl, h4, h5, h6⟩
  refine ⟨oa', cap', by rw [List.length_append, leb_length], ⟨h4, by rw [List.length_append, leb_length], fun k hk => ?_⟩, h6.below hB h3⟩
  rcases h5 with h5 | ⟨j, h5, h7⟩
  · exact h3 k (h5 ▸ hk)
  · rw [h5] at hk; cases hk; omega
theorem OwnB.below {B m : Nat} {bs : List UInt8} {oa : Option Addr} {cap : Nat} {w w' : World} (h : OwnB B m bs oa cap w) (hb : Below w.heap.size w w') : OwnB B m bs oa cap w' := ⟨h.1.below hb, h.2⟩
def lenOf : Value → Nat
  | .slice _ n _ => n
  | _ => 0
def RelN1 (W : World) (B : Nat) (hd : List UInt8) (rs : List RT) (o i : Value) (wr : World) : Prop :=
  ∃ (k : Nat) (oa : Option Addr) (cap : Nat), k ≤ rs.length ∧ i = .int .i64 k ∧ o = .slice oa (26 + 13 * k) cap ∧ OwnB B (26 + 13 * k) (hd ++ rootsB (rs.take k)) oa cap wr ∧ Below B W wr
def RelN2 (W : World) (B : Nat) (bs : List UInt8) (o : Value) (wr : World) : Prop :=
  ∃ (k : Nat) (oa : Option Addr) (cap : Nat), bs.length + k ≤ 508 ∧ o = .slice oa (bs.length + k) cap ∧ OwnB B (bs.length + k) (bs ++ List.replicate k 0) oa cap wr ∧ Below B W wr

/-- what a call of Laid leaves -/
def LaidB (s : SP) (w : World) (e : Ending) (w' : World) : Prop := ∃ oa cap, e = .returned (.slice oa 512 cap) ∧ OB w' oa cap (laid s) ∧ (∀ k, blk oa = some k → w.heap.size ≤ k) ∧ Below w.heap.size w w'

set_option maxHeartbeats 4000000 in
theorem dLaid_any (s : SP) (hR : Right s) (a : Option Addr) (cap : Nat) (w : World) (B : Nat) (hB : B ≤ w.heap.size) (hs : SpAt B w s a cap) :
    Calls Try.prog 53 #[spv s a cap] w (LaidB s w) := by
  have HR := Lib.hid hR
  have hrl := hR.len
  obtain ⟨⟨hg1, hg2⟩, ⟨hx1, hx2⟩, -⟩ := hR.num
  obtain ⟨⟨hb1, hb2⟩, ⟨hc1, hc2⟩, ⟨he1, he2⟩⟩ := hR.may
  have Hs := Lib.hid hs
  obtain ⟨gen, ⟨bl, cl, re⟩, nx, rs⟩ := s
  simp only at hg1 hg2 hx1 hx2 hb1 hb2 hc1 hc2 he1 he2 hrl
  obtain ⟨gen, rfl⟩ := Int.eq_ofNat_of_zero_le hg1
  obtain ⟨bl, rfl⟩ := Int.eq_ofNat_of_zero_le (show 0 ≤ bl by omega)
  obtain ⟨cl, rfl⟩ := Int.eq_ofNat_of_zero_le (show 0 ≤ cl by omega)
  obtain ⟨re, rfl⟩ := Int.eq_ofNat_of_zero_le (show 0 ≤ re by omega)
  obtain ⟨nx, rfl⟩ := Int.eq_ofNat_of_zero_le (show 0 ≤ nx by omega)
  unfold spv
  simp only
  obtain ⟨n, hnl⟩ : ∃ n, rs.length = n := ⟨_, rfl⟩
  have Hnl := Lib.hid hnl
  rw [hnl] at hrl ⊢
  have hb0 := two_below w (sBox gen bl cl re nx a n cap) (.cells (cellsB (leb 4 827346755)).toArray 5)
  have hO0 : OB ((w.alloc (sBox gen bl cl re nx a n cap)).alloc (.cells (cellsB (leb 4 827346755)).toArray 5)) (some ⟨w.heap.size + 1, 0, none⟩) 4 (leb 4 827346755) := by
    have := OB.made (w.alloc (sBox gen bl cl re nx a n cap)) (leb 4 827346755) (by rw [leb_length]; decide)
    rw [show (w.alloc (sBox gen bl cl re nx a n cap)).heap.size = w.heap.size + 1 by simp, leb_length] at this
    exact this
  have hg0 : ((w.alloc (sBox gen bl cl re nx a n cap)).alloc (.cells (cellsB (leb 4 827346755)).toArray 5)).heap[w.heap.size]? = some (sBox gen bl cl re nx a n cap) := (heap_alloc_old _ _ (by simp)).trans (heap_alloc_new w _)
  have hz0 : ((w.alloc (sBox gen bl cl re nx a n cap)).alloc (.cells (cellsB (leb 4 827346755)).toArray 5)).heap.size = w.heap.size + 2 := by simp
  have hcb : (cellsB (leb 4 827346755)).toArray = #[.int .u8 67, .int .u8 79, .int .u8 80, .int .u8 49] := rfl
  rw [hcb] at hb0 hO0 hg0 hz0
  unfold sBox at hb0 hO0 hg0 hz0
  have Hg0 := Lib.hid hg0
  have HO0 := Lib.hid hO0
  have HB0 := Lib.hid hb0
  have Hz0 := Lib.hid hz0
  clear hs hnl hR hb0 hO0 hg0 hz0 hcb
  go_enter Try.func53, Try.ntmps53
  go_wp2_with fail
  generalize ((w.alloc (.cells #[.int .i64 gen, .int .i64 bl, .int .i64 cl, .int .i64 re, .int .i64 nx, .slice a n cap] 33)).alloc (.cells #[.int .u8 67, .int .u8 79, .int .u8 80, .int .u8 49] 5)) = W1 at *
  have hz1 : w.heap.size + 1 ≤ W1.heap.size := by have := Hz0.out; omega
  have H := Lib.hid (lowB (w.heap.size + 1) _ 4 4 _ gen 8 (by omega) (by omega) (by omega) W1 hz1 ⟨HO0.out, by rw [leb_length], fun k hk => by have h2 : w.heap.size + 1 = k := Option.some.inj hk; omega⟩)
  have Hb1 := Lib.hid (Below.refl (w.heap.size + 1) W1)
  clear HO0
  refine H.out.mono ?_
  clear H
  rintro _ w2 ⟨oa2, oc2, rfl, hO2, hb2⟩
  have hb2 := Hb1.out.trans hb2
  have hz2 := Nat.le_trans hz1 hb2.size
  obtain ⟨y0, y1, y2, y3, y4, y5, -⟩ := cells6 ((hb2.block w.heap.size (Nat.lt_succ_self _)).trans Hg0.out)
  have Hb2 := Lib.hid hb2
  have H := Lib.hid (lowB (w.heap.size + 1) _ _ 12 _ bl 4 (by omega) (by omega) (by omega) w2 hz2 hO2)
  clear hb2 hO2
  go_wp2_with fail
  clear y0 y1 y2 y3 y4 y5
  refine H.out.mono ?_
  clear H
  rintro _ w3 ⟨oa3, oc3, rfl, hO3, hb3⟩
  have hb3 := Hb2.out.trans hb3
  have hz3 := Nat.le_trans hz1 hb3.size
  obtain ⟨y0, y1, y2, y3, y4, y5, -⟩ := cells6 ((hb3.block w.heap.size (Nat.lt_succ_self _)).trans Hg0.out)
  have Hb3 := Lib.hid hb3
  have H := Lib.hid (lowB (w.heap.size + 1) _ _ 16 _ cl 1 (by omega) (by omega) (by omega) w3 hz3 hO3)
  clear hb3 hO3
  go_wp2_with fail
  clear y0 y1 y2 y3 y4 y5
  refine H.out.mono ?_
  clear H
  rintro _ w4 ⟨oa4, oc4, rfl, hO4, hb4⟩
  have hb4 := Hb3.out.trans hb4
  have hz4 := Nat.le_trans hz1 hb4.size
  obtain ⟨y0, y1, y2, y3, y4, y5, -⟩ := cells6 ((hb4.block w.heap.size (Nat.lt_succ_self _)).trans Hg0.out)
  have Hb4 := Lib.hid hb4
  have H := Lib.hid (lowB (w.heap.size + 1) _ _ 17 _ re 4 (by omega) (by omega) (by omega) w4 hz4 hO4)
  clear hb4 hO4
  go_wp2_with fail
  clear y0 y1 y2 y3 y4 y5
  refine H.out.mono ?_
  clear H
  rintro _ w5 ⟨oa5, oc5, rfl, hO5, hb5⟩
  have hb5 := Hb4.out.trans hb5
  have hz5 := Nat.le_trans hz1 hb5.size
  obtain ⟨y0, y1, y2, y3, y4, y5, -⟩ := cells6 ((hb5.block w.heap.size (Nat.lt_succ_self _)).trans Hg0.out)
  have Hb5 := Lib.hid hb5
  have H := Lib.hid (lowB (w.heap.size + 1) _ _ 21 _ nx 4 (by omega) (by omega) (by omega) w5 hz5 hO5)
  clear hb5 hO5
  go_wp2_with fail
  clear y0 y1 y2 y3 y4 y5
  refine H.out.mono ?_
  clear H
  rintro _ w6 ⟨oa6, oc6, rfl, hO6, hb6⟩
  have hb6 := Hb5.out.trans hb6
  have hz6 := Nat.le_trans hz1 hb6.size
  obtain ⟨y0, y1, y2, y3, y4, y5, -⟩ := cells6 ((hb6.block w.heap.size (Nat.lt_succ_self _)).trans Hg0.out)
  have Hb6 := Lib.hid hb6
  have H := Lib.hid (lowB (w.heap.size + 1) _ _ 25 _ n 1 (by omega) (by omega) (by omega) w6 hz6 hO6)
  clear hb6 hO6
  go_wp2_with fail
  clear y0 y1 y2 y3 y4 y5
  refine H.out.mono ?_
  clear H
  rintro _ w7 ⟨oa7, oc7, rfl, hO7, hb7⟩
  have hb7 := Hb6.out.trans hb7
  have hz7 := Nat.le_trans hz1 hb7.size
  obtain ⟨y0, y1, y2, y3, y4, y5, -⟩ := cells6 ((hb7.block w.heap.size (Nat.lt_succ_self _)).trans Hg0.out)
  have Hb7 := Lib.hid hb7
  have hhd : headB ⟨gen, ⟨bl, cl, re⟩, nx, rs⟩ = leb 4 827346755 ++ leb 8 gen ++ leb 4 bl ++ leb 1 cl ++ leb 4 re ++ leb 4 nx ++ leb 1 n := by
    simp [headB, Hnl.out]
  rw [← hhd] at hO7
  have hhl := headB_length ⟨gen, ⟨bl, cl, re⟩, nx, rs⟩
  have Hhd := Lib.hid (show bodyB ⟨gen, ⟨bl, cl, re⟩, nx, rs⟩ = headB ⟨gen, ⟨bl, cl, re⟩, nx, rs⟩ ++ rootsB rs from rfl)
  generalize headB ⟨gen, ⟨bl, cl, re⟩, nx, rs⟩ = hd at hO7 hhl Hhd
  have HO7 := Lib.hid hO7
  clear hhd hb7 hO7
  go_wp2_with fail
  clear y0 y1 y2 y3 y4 y5
  go_loopw [3, 4] (fun o i wr => RelN1 W1 (w.heap.size + 1) hd rs o i wr) (fun _ i _ => n - (intOf i).toNat)
  case atStart => exact ⟨0, oa7, oc7, Nat.zero_le _, rfl, rfl, by simpa [rootsB] using HO7.out, Hb7.out⟩
  case round =>
    clear HO7 Hb7
    obtain ⟨k, oa0, oc0, hk, rfl, rfl, hO0, hb0⟩ := hrel
    rw [Hnl.out] at hk
    have hz0 := Nat.le_trans hz1 hb0.size
    obtain ⟨y0, y1, y2, y3, y4, y5, -⟩ := cells6 ((hb0.block w.heap.size (Nat.lt_succ_self _)).trans Hg0.out)
    by_cases hlt : k < n
    · obtain ⟨x, hxk⟩ : ∃ x, rs[k]? = some x := ⟨_, List.getElem?_eq_getElem (by rw [Hnl.out]; exact hlt)⟩
      have hxr := HR.out.root hxk
      have Hat := Lib.hid fun w' (h : Below (w.heap.size + 1) W1 w') => (Hs.out.rts.below ((HB0.out.trans (h.mono (Nat.le_succ _))).mono hB)).at hxk
      have Hsn := Lib.hid (show hd ++ rootsB (rs.take (k + 1)) = hd ++ rootsB (rs.take k) ++ rootB x by rw [rootsB_snoc hxk, List.append_assoc])
      obtain ⟨b, off, rfl, -, ⟨c0, c1, c2, c3⟩⟩ := Hat.out _ hb0
      obtain ⟨id, ro, he, it⟩ := x
      obtain ⟨⟨i1, i2⟩, ⟨r1, r2⟩, ⟨e1, e2⟩, ⟨t1, t2⟩⟩ := hxr
      simp only at c0 c1 c2 c3 i1 i2 r1 r2 e1 e2 t1 t2
      obtain ⟨id, rfl⟩ := Int.eq_ofNat_of_zero_le i1
      obtain ⟨ro, rfl⟩ := Int.eq_ofNat_of_zero_le r1
      obtain ⟨he, rfl⟩ := Int.eq_ofNat_of_zero_le e1
      obtain ⟨it, rfl⟩ := Int.eq_ofNat_of_zero_le t1
      generalize hd ++ rootsB (rs.take k) = bs at hO0 Hsn
      have H := Lib.hid (lowB (w.heap.size + 1) _ _ (26 + 13 * k) _ id 4 (by omega) (by omega) (by omega) wr hz0 hO0)
      have Hb0 := Lib.hid hb0
      clear hxk hO0 hb0
      go_wp2_with fail
      clear y0 y1 y2 y3 y4 y5 c0 c1 c2 c3
      refine H.out.mono ?_
      clear H
      rintro _ v1 ⟨oa1, oc1, rfl, hO1, hb1⟩
      have hb1 := Hb0.out.trans hb1
      have hzv1 := Nat.le_trans hz1 hb1.size
      obtain ⟨y0, y1, y2, y3, y4, y5, -⟩ := cells6 ((hb1.block w.heap.size (Nat.lt_succ_self _)).trans Hg0.out)
      obtain ⟨b1, off1, hbo, -, ⟨c0, c1, c2, c3⟩⟩ := Hat.out _ hb1
      cases hbo
      simp only at c0 c1 c2 c3
      have H := Lib.hid (lowB (w.heap.size + 1) _ _ (26 + 13 * k + 4) _ ro 4 (by omega) (by omega) (by omega) v1 hzv1 hO1)
      have Hb1 := Lib.hid hb1
      clear hb1 hO1
      go_wp2_with fail
      clear y0 y1 y2 y3 y4 y5 c0 c1 c2 c3
      refine H.out.mono ?_
      clear H
      rintro _ v2 ⟨oa2, oc2, rfl, hO2, hb2⟩
      have hb2 := Hb1.out.trans hb2
      have hzv2 := Nat.le_trans hz1 hb2.size
      obtain ⟨y0, y1, y2, y3, y4, y5, -⟩ := cells6 ((hb2.block w.heap.size (Nat.lt_succ_self _)).trans Hg0.out)
      obtain ⟨b2, off2, hbo, -, ⟨c0, c1, c2, c3⟩⟩ := Hat.out _ hb2
      cases hbo
      simp only at c0 c1 c2 c3
      have H := Lib.hid (lowB (w.heap.size + 1) _ _ (26 + 13 * k + 8) _ he 1 (by omega) (by omega) (by omega) v2 hzv2 hO2)
      have Hb2 := Lib.hid hb2
      clear hb2 hO2
      go_wp2_with fail
      clear y0 y1 y2 y3 y4 y5 c0 c1 c2 c3
      refine H.out.mono ?_
      clear H
      rintro _ v3 ⟨oa3, oc3, rfl, hO3, hb3⟩
      have hb3 := Hb2.out.trans hb3
      have hzv3 := Nat.le_trans hz1 hb3.size
      obtain ⟨y0, y1, y2, y3, y4, y5, -⟩ := cells6 ((hb3.block w.heap.size (Nat.lt_succ_self _)).trans Hg0.out)
      obtain ⟨b3, off3, hbo, -, ⟨c0, c1, c2, c3⟩⟩ := Hat.out _ hb3
      cases hbo
      simp only at c0 c1 c2 c3
      have H := Lib.hid (lowB (w.heap.size + 1) _ _ (26 + 13 * k + 9) _ it 4 (by omega) (by omega) (by omega) v3 hzv3 hO3)
      have Hb3 := Lib.hid hb3
      clear hb3 hO3
      go_wp2_with fail
      clear y0 y1 y2 y3 y4 y5 c0 c1 c2 c3
      refine H.out.mono ?_
      clear H
      rintro _ v4 ⟨oa4, oc4, rfl, hO4, hb4⟩
      have Hb4 := Lib.hid (Hb3.out.trans hb4)
      have HO4 := Lib.hid hO4
      clear hb4 hO4
      go_wp2_with fail
      go_roundw
      case rel =>
        refine ⟨k + 1, oa4, oc4, by rw [Hnl.out]; omega, by go_num, by congr 1, ?_, Hb4.out⟩
        rw [Hsn.out]
        have h4 := HO4.out
        rw [show 26 + 13 * (k + 1) = 26 + 13 * k + 4 + 4 + 1 + 4 by omega]
        simpa [rootB, Nat.add_assoc] using h4
      case measure => simp [intOf]; omega
    · have hkn : k = n := by omega
      subst hkn
      have hke : rs.take k = rs := List.take_of_length_le (by rw [Hnl.out]; exact Nat.le_refl _)
      rw [hke, ← Hhd.out] at hO0
      have hBl : (bodyB ⟨gen, ⟨bl, cl, re⟩, nx, rs⟩).length ≤ 508 := HR.out.body
      have HLd := Lib.hid (show laid ⟨gen, ⟨bl, cl, re⟩, nx, rs⟩ = fullB (bodyB ⟨gen, ⟨bl, cl, re⟩, nx, rs⟩) ++ leb 4 (Crc.ofs (fullB (bodyB ⟨gen, ⟨bl, cl, re⟩, nx, rs⟩))) from rfl)
      generalize bodyB ⟨gen, ⟨bl, cl, re⟩, nx, rs⟩ = bs at hO0 hBl HLd
      have hml := hO0.2.1
      have HO0 := Lib.hid hO0
      have Hb0 := Lib.hid hb0
      clear hke hO0 hb0
      go_wp2_with fail
      clear y0 y1 y2 y3 y4 y5
      go_loopw [3] (fun o wr => RelN2 W1 (w.heap.size + 1) bs o wr) (fun o _ => 508 - lenOf o)
      case atStart => exact ⟨0, oa0, oc0, by omega, by rw [hml]; rfl, by rw [hml]; simpa using HO0.out, Hb0.out⟩
      case round =>
        clear HO0 Hb0
        obtain ⟨j, oa1, oc1, hj, rfl, hO1, hb1⟩ := hrel
        rw [hml] at hj ⊢
        have hzw := Nat.le_trans hz1 hb1.size
        by_cases hj5 : 26 + 13 * k + j < 508
        · have hba := one_below wr (.cells #[.int .u8 0] 5)
          have hx0 : Bts (wr.alloc (.cells #[.int .u8 0] 5)) (some ⟨wr.heap.size, 0, none⟩) [0] := one_new wr 0
          have hOa := hO1.1.below hba
          have hlj := hO1.2.1
          rw [hml] at hlj
          have Hlj := Lib.hid hlj.symm
          have Hof := Lib.hid hO1.2.2
          have Hb1 := Lib.hid (hb1.alloc hzw (.cells #[.int .u8 0] 5))
          have hza : wr.heap.size ≤ (wr.alloc (.cells #[.int .u8 0] 5)).heap.size := hba.size
          clear hO1 hb1 hba hlj
          go_wp2_with (at_builtin; refine wpList_append_bytes rfl (.tmp 79) (.tmp 80) rfl (n := 26 + 13 * k + j) (m := 1) (xs := [0]) Hlj.out rfl hOa rfl rfl hx0 (fun e => by cases e) (by omega) ?_
                       intro oa2 cap2 w2 hO3 hC2 hb2 _)
          refine ⟨⟨j + 1, oa2, cap2, by omega, by rw [hml]; rfl, ⟨?_, ?_, ?_⟩, ?_⟩, by simp only [lenOf]; omega⟩
          · rw [show j + 1 = j + 1 from rfl, List.replicate_succ', ← List.append_assoc]; exact hO3
          · rw [List.length_append, List.length_replicate]
          · intro q hq
            rcases hb2 with e | e
            · exact Hof.out q (e ▸ hq)
            · rw [e] at hq; cases hq; omega
          · exact Hb1.out.trans (hC2.below (by omega) Hof.out)
        · have hje : 26 + 13 * k + j = 508 := by omega
          rw [hml] at hO1
          rw [hje] at hO1 ⊢
          have hfs : bs ++ List.replicate j 0 = fullB bs := by rw [fullB, hml, show j = 508 - (26 + 13 * k) by omega]
          rw [hfs] at hO1
          have hfl := fullB_length hBl
          generalize fullB bs = fs at hO1 HLd hfl
          have H := Lib.hid (refOf_any fs oa1 oc1 (by omega) wr hO1.1.bts)
          rw [hfl] at H
          have Hlo := Lib.hid (lowB (w.heap.size + 1) oa1 oc1 508 fs (Crc.ofs fs) 4 (by have := Crc.ofs_lt fs; omega) (by omega) (by omega) wr hzw hO1)
          have hsl := Crc.ofs_lt fs
          rw [← HLd.out] at Hlo
          generalize Crc.ofs fs = sm at H Hlo hsl
          have Hb1 := Lib.hid hb1
          clear hO1 hb1 hfs hje
          go_wp2_with fail
          refine H.out.mono ?_
          clear H
          rintro _ _ ⟨rfl, rfl⟩
          go_wp2_with fail
          refine Hlo.out.mono ?_
          clear Hlo
          rintro _ v5 ⟨oa9, oc9, rfl, hO9, hb9⟩
          have HO9 := Lib.hid hO9.1
          have Hof := Lib.hid (show ∀ q, blk oa9 = some q → w.heap.size ≤ q from fun q hq => Nat.le_trans (Nat.le_succ _) (hO9.2.2 q hq))
          have HB9 := Lib.hid (HB0.out.trans ((Hb1.out.trans hb9).mono (Nat.le_succ _)))
          clear hO9 hb9
          go_wp2_with fail
          go_ret
          exact ⟨oa9, oc9, rfl, HO9.out, Hof.out, HB9.out⟩
end Go.Proofs.Ythkopgmkdenebaa
