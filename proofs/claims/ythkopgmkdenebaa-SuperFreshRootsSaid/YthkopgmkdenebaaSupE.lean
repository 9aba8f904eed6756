/- The walk of super's Encode. -/
import Derived.Test.YthkopgmkdenebaaSupC
import Derived.Test.YthkopgmkdenebaaSumC
namespace Go.Proofs.Ythkopgmkdenebaa
open Go.RowKit
set_option linter.unusedVariables false
set_option maxRecDepth 100000

/-- a writer of 512 bytes that lies, its list too, outside the blocks of K -/
def WAt (K : Nat → Prop) (p : Nat) (bs : List UInt8) (w : World) : Prop := ∃ oa cap, IsW w p oa cap ⟨512, bs, 0⟩ ∧ ¬ K p ∧ ∀ k, blk oa = some k → ¬ K k
/-- what a put leaves -/
def Puts (K : Nat → Prop) (p : Nat) (bs : List UInt8) (w : World) (r : Ending) (w' : World) : Prop := r = .returned (.tuple #[]) ∧ WAt K p bs w' ∧ Chg (fun k => ¬ K k) w w'
theorem WAt.wrote {K : Nat → Prop} {p : Nat} {bs' : List UInt8} {w w' : World} {oa : Option Addr} (hB : ∀ k, K k → k < w.heap.size) (hp : ¬ K p) (ha : ∀ k, blk oa = some k → ¬ K k) (h : Wrote w p oa ⟨512, bs', 0⟩ w') : WAt K p bs' w' ∧ Chg (fun k => ¬ K k) w w' := by
  obtain ⟨oa', cap', h1, h2, h3⟩ := h
  refine ⟨⟨oa', cap', h1, hp, fun k hk => ?_⟩, h2.mono fun k _ hk => hk.elim (fun e => e ▸ hp) (ha k)⟩
  rcases h3 with h3 | ⟨j, h3, h4⟩
  · exact ha k (h3 ▸ hk)
  · rw [h3] at hk; cases hk; intro e; have := hB _ e; omega
theorem WAt.below {K : Nat → Prop} {p : Nat} {bs : List UInt8} {w w' : World} (h : WAt K p bs w) (hb : Below w.heap.size w w') : WAt K p bs w' := by
  obtain ⟨oa, cap, h1, h2⟩ := h
  exact ⟨oa, cap, h1.below hb, h2⟩
/-- one block more that is kept: a new one -/
theorem WAt.more {K : Nat → Prop} {p : Nat} {bs : List UInt8} {w : World} (h : WAt K p bs w) (o : Obj) : WAt (fun k => K k ∨ k = w.heap.size) p bs (w.alloc o) := by
  have h' := h.below (one_below w o)
  obtain ⟨oa, cap, h1, h2, h3⟩ := h
  have hp := h1.lt
  have hb := h1.2.1.lt
  exact ⟨oa, cap, h1.below (one_below w o), fun e => e.elim h2 (fun e => by omega), fun k hk e => e.elim (h3 k hk) (fun e => by have := hb k hk; omega)⟩
theorem WAt.less {K L : Nat → Prop} {p : Nat} {bs : List UInt8} {w : World} (h : WAt K p bs w) (hL : ∀ k, L k → K k) : WAt L p bs w := by
  obtain ⟨oa, cap, h1, h2, h3⟩ := h
  exact ⟨oa, cap, h1, fun e => h2 (hL _ e), fun k hk e => h3 k hk (hL _ e)⟩
theorem add512 {bs xs : List UInt8} (h : bs.length + xs.length ≤ 512) : (⟨512, bs, 0⟩ : WS).add xs = ⟨512, bs ++ xs, 0⟩ := by
  simp only [WS.add]
  rw [if_neg (by simp), if_neg (by omega)]
theorem putW8 (K : Nat → Prop) (p : Nat) (bs : List UInt8) (n : Nat) (hn : n < 256) (w : World) (hB : ∀ k, K k → k < w.heap.size) (h : WAt K p bs w) (hr : bs.length + 1 ≤ 512) :
    Calls Try.prog 49 #[.pointer (some ⟨p, 0, none⟩), .int .u8 (n : Int)] w (Puts K p (bs ++ leb 1 n) w) := by
  obtain ⟨oa, cap, h1, h2, h3⟩ := h
  refine (put_uint8 p oa cap _ n (by omega) w h1).mono ?_
  rintro _ w' ⟨rfl, h4⟩
  rw [add512 (by rw [leb_length]; exact hr)] at h4
  exact ⟨rfl, WAt.wrote hB h2 h3 h4⟩
theorem putW32 (K : Nat → Prop) (p : Nat) (bs : List UInt8) (n : Nat) (hn : n < 4294967296) (w : World) (hB : ∀ k, K k → k < w.heap.size) (h : WAt K p bs w) (hr : bs.length + 4 ≤ 512) :
    Calls Try.prog 47 #[.pointer (some ⟨p, 0, none⟩), .int .u32 (n : Int)] w (Puts K p (bs ++ leb 4 n) w) := by
  obtain ⟨oa, cap, h1, h2, h3⟩ := h
  refine (put_uint32 p oa cap _ n (by omega) w h1).mono ?_
  rintro _ w' ⟨rfl, h4⟩
  rw [add512 (by rw [leb_length]; exact hr)] at h4
  exact ⟨rfl, WAt.wrote hB h2 h3 h4⟩
theorem putW64 (K : Nat → Prop) (p : Nat) (bs : List UInt8) (n : Nat) (hn : n < 18446744073709551616) (w : World) (hB : ∀ k, K k → k < w.heap.size) (h : WAt K p bs w) (hr : bs.length + 8 ≤ 512) :
    Calls Try.prog 48 #[.pointer (some ⟨p, 0, none⟩), .int .u64 (n : Int)] w (Puts K p (bs ++ leb 8 n) w) := by
  obtain ⟨oa, cap, h1, h2, h3⟩ := h
  refine (put_uint64 p oa cap _ n (by omega) w h1).mono ?_
  rintro _ w' ⟨rfl, h4⟩
  rw [add512 (by rw [leb_length]; exact hr)] at h4
  exact ⟨rfl, WAt.wrote hB h2 h3 h4⟩
theorem fillW (K : Nat → Prop) (p : Nat) (bs : List UInt8) (w : World) (hB : ∀ k, K k → k < w.heap.size) (h : WAt K p bs w) (hr : bs.length ≤ 508) :
    Calls Try.prog 50 #[.pointer (some ⟨p, 0, none⟩), .int .i64 508] w (Puts K p (fullB bs) w) := by
  obtain ⟨oa, cap, h1, h2, h3⟩ := h
  refine (fill_any p oa cap _ 508 (by omega) w h1).mono ?_
  rintro _ w' ⟨rfl, h4⟩
  have e : (⟨512, bs, 0⟩ : WS).fill 508 = ⟨512, fullB bs, 0⟩ := by
    simp only [WS.fill]
    rw [if_neg (by omega), if_neg (by omega), add512 (by simp; omega)]
    rfl
  rw [e] at h4
  exact ⟨rfl, WAt.wrote hB h2 h3 h4⟩
/-- what Done leaves of a writer -/
def Dones (K : Nat → Prop) (p : Nat) (bs : List UInt8) (w : World) (r : Ending) (w' : World) : Prop :=
  ∃ oa cap, r = .returned (.tuple #[.slice oa bs.length cap, .int .i64 0]) ∧ OB w' oa cap bs ∧ (∀ k, blk oa = some k → w.heap.size ≤ k) ∧ WAt K p bs w' ∧ Below w.heap.size w w'
theorem doneW (K : Nat → Prop) (p : Nat) (bs : List UInt8) (w : World) (h : WAt K p bs w) :
    Calls Try.prog 51 #[.pointer (some ⟨p, 0, none⟩)] w (Dones K p bs w) := by
  have hw := h
  obtain ⟨oa, cap, h1, h2, h3⟩ := h
  refine (done_ok p oa cap _ rfl w h1).mono ?_
  rintro _ w' ⟨oa', cap', rfl, h4, h5, h6⟩
  refine ⟨oa', cap', rfl, h4, fun k hk => ?_, hw.below h6, h6⟩
  rcases h5 with h5 | h5
  · rw [h5] at hk; cases hk
  · rw [h5] at hk; cases hk; exact Nat.le_refl _
theorem kbelow {B : Nat} {w w' : World} (h : Chg (fun k => ¬ k < B) w w') (hB : B ≤ w.heap.size) : Below B w w' := h.below hB fun k hk => by omega

theorem rtBox_cells {w : World} {g : Nat} {x : RT} (h : w.heap[g]? = some (rtBox x)) :
    w.cell? ⟨g, 0, none⟩ = some (.int .i64 x.id) ∧ w.cell? ⟨g, 1, none⟩ = some (.int .i64 x.root) ∧ w.cell? ⟨g, 2, none⟩ = some (.int .i64 x.height) ∧ w.cell? ⟨g, 3, none⟩ = some (.int .i64 x.items) := by
  unfold rtBox at h
  simp [World.cell?, h]
def RelE (W : World) (B p : Nat) (hd : List UInt8) (rs : List RT) (i : Value) (wr : World) : Prop :=
  ∃ k : Nat, k ≤ rs.length ∧ i = .int .i64 k ∧ WAt (· < B) p (hd ++ rootsB (rs.take k)) wr ∧ Below B W wr

/-- the bytes that Encode answers -/
def encB (s : SP) : List UInt8 := if scheck s = 0 then laid s else []
def Enc (s : SP) (w : World) (e : Ending) (w' : World) : Prop :=
  ∃ oa cap, e = .returned (.tuple #[.slice oa (encB s).length cap, .int .i64 (scheck s : Int)]) ∧ OB w' oa cap (encB s) ∧ (∀ k, blk oa = some k → w.heap.size ≤ k) ∧ Below w.heap.size w w'

set_option maxHeartbeats 4000000 in
theorem encode_any (s : SP) (a : Option Addr) (cap : Nat) (w : World) (B : Nat) (hB : B ≤ w.heap.size) (hs : SpAt B w s a cap) :
    Calls Try.prog 19 #[spv s a cap] w (Enc s w) := by
  have HC := Lib.hid fun w' (hb : Below w.heap.size w w') (hz : w.heap.size ≤ w'.heap.size) => check_any s a cap w' B (Nat.le_trans hB hz) (hs.below (hb.mono hB))
  by_cases h0 : scheck s = 0
  · have hR := scheck_ok.1 h0
    have HE := Lib.hid (show encB s = laid s by rw [encB, if_pos h0])
    have HS0 := Lib.hid h0
    have HR := Lib.hid hR
    have hrl := hR.len
    obtain ⟨⟨hg1, hg2⟩, ⟨hx1, hx2⟩, -⟩ := hR.num
    obtain ⟨⟨hb1, hb2⟩, ⟨hc1, hc2⟩, ⟨he1, he2⟩⟩ := hR.may
    unfold Checked at HC
    rw [h0] at HC
    have Hs := Lib.hid hs
    obtain ⟨gen, ⟨bl, cl, re⟩, nx, rs⟩ := s
    simp only at hg1 hg2 hx1 hx2 hb1 hb2 hc1 hc2 he1 he2 hrl
    obtain ⟨gen, rfl⟩ := Int.eq_ofNat_of_zero_le hg1
    obtain ⟨bl, rfl⟩ := Int.eq_ofNat_of_zero_le (show 0 ≤ bl by omega)
    obtain ⟨cl, rfl⟩ := Int.eq_ofNat_of_zero_le (show 0 ≤ cl by omega)
    obtain ⟨re, rfl⟩ := Int.eq_ofNat_of_zero_le (show 0 ≤ re by omega)
    obtain ⟨nx, rfl⟩ := Int.eq_ofNat_of_zero_le (show 0 ≤ nx by omega)
    unfold spv at *
    simp only at HC ⊢
    obtain ⟨n, hnl⟩ : ∃ n, rs.length = n := ⟨_, rfl⟩
    have Hnl := Lib.hid hnl
    rw [hnl] at hrl HC ⊢
    have HK : ∀ w1, Below (w.alloc (sBox gen bl cl re nx a n cap)).heap.size (w.alloc (sBox gen bl cl re nx a n cap)) w1 → SBox w1 w.heap.size gen bl cl re nx a n cap := fun w1 hb =>
      SBox.kept (w := w.alloc (sBox gen bl cl re nx a n cap)) (heap_alloc_new w _) hb (by simp)
    have HK := Lib.hid HK
    unfold sBox at HK
    clear hs hnl h0 hR
    go_enter Try.func19, Try.ntmps19
    go_wp2_with fail
    refine (HC.out _ (one_below w _) (one_below w _).size).mono ?_
    rintro _ w1 ⟨rfl, hb1⟩
    have hS1 := HK.out w1 hb1
    have hB1 := (one_below w (.cells #[.int .i64 gen, .int .i64 bl, .int .i64 cl, .int .i64 re, .int .i64 nx, .slice a n cap] 33)).trans (hb1.mono (by simp))
    have hz1 : w.heap.size < w1.heap.size := Nat.lt_of_lt_of_le (by simp) hb1.size
    have HS1 := Lib.hid hS1
    have HB1 := Lib.hid hB1
    clear hS1 hB1 hb1 HK HC
    go_wp2_with fail
    refine (newWriter_any 512 w1).mono ?_
    rintro _ w2 ⟨rfl, hW2, hb2⟩
    have hW2 : WAt (· < w1.heap.size) w1.heap.size [] w2 := ⟨none, 0, hW2, by omega, fun k e => by cases e⟩
    have hz2 := hb2.size
    have H := Lib.hid (putW32 _ _ _ 827346755 (by omega) w2 (fun k (hk : k < _) => by omega) hW2 (by decide))
    have Hb2 := Lib.hid hb2
    clear hb2 hW2
    go_wp2_with fail
    refine H.out.mono ?_
    clear H
    rintro _ w3 ⟨rfl, hW3, hb3⟩
    have hb3 := Hb2.out.trans (kbelow hb3 hz2)
    have hz3 := hb3.size
    have H := Lib.hid (putW64 _ _ _ gen (by omega) w3 (fun k (hk : k < _) => by omega) hW3 (by simp [leb_length]))
    obtain ⟨y0, y1, y2, y3, y4, y5⟩ := (HS1.out.kept hb3 hz1).cells
    have Hb3 := Lib.hid hb3
    clear hb3 hW3
    go_wp2_with fail
    clear y0 y1 y2 y3 y4 y5
    refine H.out.mono ?_
    clear H
    rintro _ w4 ⟨rfl, hW4, hb4⟩
    have hb4 := Hb3.out.trans (kbelow hb4 hz3)
    have hz4 := hb4.size
    have H := Lib.hid (putW32 _ _ _ bl (by omega) w4 (fun k (hk : k < _) => by omega) hW4 (by simp [leb_length]))
    obtain ⟨y0, y1, y2, y3, y4, y5⟩ := (HS1.out.kept hb4 hz1).cells
    have Hb4 := Lib.hid hb4
    clear hb4 hW4
    go_wp2_with fail
    clear y0 y1 y2 y3 y4 y5
    refine H.out.mono ?_
    clear H
    rintro _ w5 ⟨rfl, hW5, hb5⟩
    have hb5 := Hb4.out.trans (kbelow hb5 hz4)
    have hz5 := hb5.size
    have H := Lib.hid (putW8 _ _ _ cl (by omega) w5 (fun k (hk : k < _) => by omega) hW5 (by simp [leb_length]))
    obtain ⟨y0, y1, y2, y3, y4, y5⟩ := (HS1.out.kept hb5 hz1).cells
    have Hb5 := Lib.hid hb5
    clear hb5 hW5
    go_wp2_with fail
    clear y0 y1 y2 y3 y4 y5
    refine H.out.mono ?_
    clear H
    rintro _ w6 ⟨rfl, hW6, hb6⟩
    have hb6 := Hb5.out.trans (kbelow hb6 hz5)
    have hz6 := hb6.size
    have H := Lib.hid (putW32 _ _ _ re (by omega) w6 (fun k (hk : k < _) => by omega) hW6 (by simp [leb_length]))
    obtain ⟨y0, y1, y2, y3, y4, y5⟩ := (HS1.out.kept hb6 hz1).cells
    have Hb6 := Lib.hid hb6
    clear hb6 hW6
    go_wp2_with fail
    clear y0 y1 y2 y3 y4 y5
    refine H.out.mono ?_
    clear H
    rintro _ w7 ⟨rfl, hW7, hb7⟩
    have hb7 := Hb6.out.trans (kbelow hb7 hz6)
    have hz7 := hb7.size
    have H := Lib.hid (putW32 _ _ _ nx (by omega) w7 (fun k (hk : k < _) => by omega) hW7 (by simp [leb_length]))
    obtain ⟨y0, y1, y2, y3, y4, y5⟩ := (HS1.out.kept hb7 hz1).cells
    have Hb7 := Lib.hid hb7
    clear hb7 hW7
    go_wp2_with fail
    clear y0 y1 y2 y3 y4 y5
    refine H.out.mono ?_
    clear H
    rintro _ w8 ⟨rfl, hW8, hb8⟩
    have hb8 := Hb7.out.trans (kbelow hb8 hz7)
    have hz8 := hb8.size
    have H := Lib.hid (putW8 _ _ _ n (by omega) w8 (fun k (hk : k < _) => by omega) hW8 (by simp [leb_length]))
    obtain ⟨y0, y1, y2, y3, y4, y5⟩ := (HS1.out.kept hb8 hz1).cells
    have Hb8 := Lib.hid hb8
    clear hb8 hW8
    go_wp2_with fail
    clear y0 y1 y2 y3 y4 y5
    refine H.out.mono ?_
    clear H
    rintro _ w9 ⟨rfl, hW9, hb9⟩
    have hb9 := Hb8.out.trans (kbelow hb9 hz8)
    have hz9 := hb9.size
    obtain ⟨y0, y1, y2, y3, y4, y5⟩ := (HS1.out.kept hb9 hz1).cells
    have Hb9 := Lib.hid hb9
    have HW9 := Lib.hid hW9
    clear hb9 hW9
    go_wp2_with fail
    clear y0 y1 y2 y3 y4 y5
    have hhd : headB ⟨gen, ⟨bl, cl, re⟩, nx, rs⟩ = [] ++ leb 4 827346755 ++ leb 8 gen ++ leb 4 bl ++ leb 1 cl ++ leb 4 re ++ leb 4 nx ++ leb 1 n := by
      simp [headB, Hnl.out]
    rw [← hhd] at HW9
    have hhl := headB_length ⟨gen, ⟨bl, cl, re⟩, nx, rs⟩
    have Hhd := Lib.hid (show bodyB ⟨gen, ⟨bl, cl, re⟩, nx, rs⟩ = headB ⟨gen, ⟨bl, cl, re⟩, nx, rs⟩ ++ rootsB rs from rfl)
    generalize headB ⟨gen, ⟨bl, cl, re⟩, nx, rs⟩ = hd at HW9 hhl Hhd
    clear hhd
    go_loopw [55] (fun i wr => RelE w1 w1.heap.size w1.heap.size hd rs i wr) (fun i _ => n - (intOf i).toNat)
    case atStart => exact ⟨0, Nat.zero_le _, rfl, by simpa [rootsB] using HW9.out, Hb9.out⟩
    case round =>
      clear HW9 Hb9
      obtain ⟨k, hk, rfl, hW, hBw⟩ := hrel
      rw [Hnl.out] at hk
      by_cases hlt : k < n
      · obtain ⟨x, hxk⟩ : ∃ x, rs[k]? = some x := ⟨_, List.getElem?_eq_getElem (by rw [Hnl.out]; exact hlt)⟩
        have hBr : Below B w wr := (HB1.out.trans (hBw.mono HB1.out.size)).mono hB
        obtain ⟨b, off, rfl, hb, ⟨c0, c1, c2, c3⟩⟩ := (Hs.out.rts.below hBr).at hxk
        have hxr := HR.out.root hxk
        have hblen : (hd ++ rootsB (rs.take k)).length = 26 + 13 * k := by rw [List.length_append, hhl, rootsB_length, List.length_take, Hnl.out]; omega
        have Hsn := Lib.hid (show hd ++ rootsB (rs.take (k + 1)) = hd ++ rootsB (rs.take k) ++ rootB x by rw [rootsB_snoc hxk, List.append_assoc])
        have hV0 := hW.more (rtBox x)
        have hg0 := heap_alloc_new wr (rtBox x)
        have hzr := hBw.size
        have hcB : Below w1.heap.size w1 (wr.alloc (rtBox x)) := hBw.alloc hzr _
        obtain ⟨id, ro, he, it⟩ := x
        obtain ⟨⟨i1, i2⟩, ⟨r1, r2⟩, ⟨e1, e2⟩, ⟨t1, t2⟩⟩ := hxr
        simp only at c0 c1 c2 c3 i1 i2 r1 r2 e1 e2 t1 t2
        obtain ⟨id, rfl⟩ := Int.eq_ofNat_of_zero_le i1
        obtain ⟨ro, rfl⟩ := Int.eq_ofNat_of_zero_le r1
        obtain ⟨he, rfl⟩ := Int.eq_ofNat_of_zero_le e1
        obtain ⟨it, rfl⟩ := Int.eq_ofNat_of_zero_le t1
        generalize hd ++ rootsB (rs.take k) = bs at hV0 hblen Hsn
        have hz0 : wr.heap.size < (wr.alloc (rtBox ⟨id, ro, he, it⟩)).heap.size := by simp
        have H := Lib.hid (putW32 _ _ _ id (by omega) _ (fun j (hj : j < _ ∨ j = _) => by omega) hV0 (by omega))
        have Hc0 := Lib.hid (Chg.refl (fun j => ¬ (j < w1.heap.size ∨ j = wr.heap.size)) (wr.alloc (rtBox ⟨id, ro, he, it⟩)))
        have Hg0 := Lib.hid hg0
        have HcB := Lib.hid hcB
        have Hz0 := Lib.hid hz0
        unfold rtBox at H Hz0
        clear hBw hW hxk hBr hV0 hg0 hcB hz0
        go_wp2_with fail
        refine H.out.mono ?_
        clear H
        rintro _ v1 ⟨rfl, hV1, hc1⟩
        have hc1 := Hc0.out.trans hc1 (fun i _ e => e)
        have hz1 := Nat.lt_of_lt_of_le Hz0.out hc1.size
        obtain ⟨c0, c1, c2, c3⟩ := rtBox_cells ((hc1.block wr.heap.size Hz0.out (fun e => e (.inr rfl))).trans Hg0.out)
        have H := Lib.hid (putW32 _ _ _ ro (by omega) v1 (fun j (hj : j < _ ∨ j = _) => by omega) hV1 (by simp [leb_length]; omega))
        have Hc1 := Lib.hid hc1
        simp only at c0 c1 c2 c3
        clear hc1 hV1
        go_wp2_with fail
        clear c0 c1 c2 c3
        refine H.out.mono ?_
        clear H
        rintro _ v2 ⟨rfl, hV2, hc2⟩
        have hc2 := Hc1.out.trans hc2 (fun i _ e => e)
        have hz2 := Nat.lt_of_lt_of_le Hz0.out hc2.size
        obtain ⟨c0, c1, c2, c3⟩ := rtBox_cells ((hc2.block wr.heap.size Hz0.out (fun e => e (.inr rfl))).trans Hg0.out)
        have H := Lib.hid (putW8 _ _ _ he (by omega) v2 (fun j (hj : j < _ ∨ j = _) => by omega) hV2 (by simp [leb_length]; omega))
        have Hc2 := Lib.hid hc2
        simp only at c0 c1 c2 c3
        clear hc2 hV2
        go_wp2_with fail
        clear c0 c1 c2 c3
        refine H.out.mono ?_
        clear H
        rintro _ v3 ⟨rfl, hV3, hc3⟩
        have hc3 := Hc2.out.trans hc3 (fun i _ e => e)
        have hz3 := Nat.lt_of_lt_of_le Hz0.out hc3.size
        obtain ⟨c0, c1, c2, c3⟩ := rtBox_cells ((hc3.block wr.heap.size Hz0.out (fun e => e (.inr rfl))).trans Hg0.out)
        have H := Lib.hid (putW32 _ _ _ it (by omega) v3 (fun j (hj : j < _ ∨ j = _) => by omega) hV3 (by simp [leb_length]; omega))
        have Hc3 := Lib.hid hc3
        simp only at c0 c1 c2 c3
        clear hc3 hV3
        go_wp2_with fail
        clear c0 c1 c2 c3
        refine H.out.mono ?_
        clear H
        rintro _ v4 ⟨rfl, hV4, hc4⟩
        have hc4 := Hc3.out.trans hc4 (fun i _ e => e)
        have HV4 := Lib.hid (hV4.less (L := (· < w1.heap.size)) fun j hj => .inl hj)
        have HB4 := Lib.hid (HcB.out.trans ((hc4.mono (G := fun j => ¬ j < w1.heap.size) fun j _ hj e => hj (.inl e)).below HcB.out.size (fun j hj => by omega)))
        clear hc4 hV4
        go_wp2_with fail
        go_roundw
        case rel =>
          refine ⟨k + 1, by rw [Hnl.out]; omega, by go_num, ?_, HB4.out⟩
          rw [Hsn.out]
          simpa [rootB] using HV4.out
        case measure => simp [intOf]; omega
      · have hke : rs.take k = rs := List.take_of_length_le (by rw [Hnl.out]; omega)
        rw [hke, ← Hhd.out] at hW
        have hBl : (bodyB ⟨gen, ⟨bl, cl, re⟩, nx, rs⟩).length ≤ 508 := HR.out.body
        have HLd := Lib.hid (show laid ⟨gen, ⟨bl, cl, re⟩, nx, rs⟩ = fullB (bodyB ⟨gen, ⟨bl, cl, re⟩, nx, rs⟩) ++ leb 4 (Crc.ofs (fullB (bodyB ⟨gen, ⟨bl, cl, re⟩, nx, rs⟩))) from rfl)
        generalize bodyB ⟨gen, ⟨bl, cl, re⟩, nx, rs⟩ = bs at hW hBl HLd
        have hfl := fullB_length hBl
        have hzr := hBw.size
        have H := Lib.hid (fillW _ _ _ wr (fun j (hj : j < _) => by omega) hW hBl)
        generalize fullB bs = fs at hfl H HLd
        have HBw := Lib.hid hBw
        clear hke hW hBw
        go_wp2_with fail
        refine H.out.mono ?_
        clear H
        rintro _ v1 ⟨rfl, hV1, hc1⟩
        have hb1 := HBw.out.trans (kbelow hc1 hzr)
        have hz1 := hb1.size
        have H := Lib.hid (doneW _ _ _ v1 hV1)
        have Hb1 := Lib.hid hb1
        clear hb1 hV1 hc1
        go_wp2_with fail
        refine H.out.mono ?_
        clear H
        rintro _ v2 ⟨oa, oc, rfl, hO, hof, hV2, hb2⟩
        have hb2 := Hb1.out.trans (hb2.mono hz1)
        have hz2 := hb2.size
        have H := Lib.hid (sumOf_any fs oa oc (by omega) v2 hO.bts)
        rw [hfl] at H
        have Hb2 := Lib.hid hb2
        have HV2 := Lib.hid hV2
        clear hb2 hV2 hO hof
        rw [hfl]
        go_wp2_with fail
        refine H.out.mono ?_
        clear H
        rintro _ v3 ⟨rfl, hb3⟩
        have hV3 := HV2.out.below hb3
        have hb3 := Hb2.out.trans (hb3.mono hz2)
        have hz3 := hb3.size
        have H := Lib.hid (putW32 _ _ _ (Crc.ofs fs) (Crc.ofs_lt _) v3 (fun j (hj : j < _) => by omega) hV3 (by omega))
        rw [← HLd.out] at H
        generalize Crc.ofs fs = sm at H
        have Hb3 := Lib.hid hb3
        clear hb3 hV3
        go_wp2_with fail
        refine H.out.mono ?_
        clear H
        rintro _ v4 ⟨rfl, hV4, hc4⟩
        have hb4 := Hb3.out.trans (kbelow hc4 hz3)
        have hz4 := hb4.size
        have H := Lib.hid (doneW _ _ _ v4 hV4)
        have Hb4 := Lib.hid hb4
        clear hb4 hV4 hc4
        go_wp2_with fail
        refine H.out.mono ?_
        clear H
        rintro _ v5 ⟨oa5, oc5, rfl, hO5, hof5, hV5, hb5⟩
        have hb5' := Hb4.out.trans (hb5.mono hz4)
        have HO5 := Lib.hid hO5
        have Hb5 := Lib.hid (HB1.out.trans (hb5'.mono HB1.out.size))
        have Hof := Lib.hid (show ∀ j, blk oa5 = some j → w.heap.size ≤ j from fun j hj => by have := hof5 j hj; omega)
        clear hO5 hof5 hV5 hb5 hb5'
        go_wp2_with fail
        go_ret2
        exact ⟨oa5, oc5, by rw [HE.out, HS0.out]; rfl, by rw [HE.out]; exact HO5.out, Hof.out, Hb5.out⟩
  · have HE := Lib.hid (show encB s = [] by rw [encB, if_neg h0])
    have hlt := scheck_le s
    have Hsc := Lib.hid (show ((scheck s : Int) == 0) = false by rw [beq_eq_false_iff_ne]; omega)
    have hne : ((scheck s : Int) != 0) = true := by rw [bne_iff_ne]; omega
    unfold Checked at HC
    generalize hsc : scheck s = sc at *
    have Hsc2 := Lib.hid hsc
    obtain ⟨gen, ⟨bl, cl, re⟩, nx, rs⟩ := s
    unfold spv at *
    simp only at HC ⊢
    clear hs hsc
    go_enter Try.func19, Try.ntmps19
    go_wp2_with fail
    refine (HC.out _ (one_below w _) (one_below w _).size).mono ?_
    rintro _ w1 ⟨rfl, hb1⟩
    go_wp2_with fail
    go_ret2
    refine ⟨none, 0, by rw [HE.out, Hsc2.out]; rfl, by rw [HE.out]; exact OB.nil _, (fun k hk => by cases hk), (one_below w _).trans (hb1.mono (by simp))⟩
end Go.Proofs.Ythkopgmkdenebaa
