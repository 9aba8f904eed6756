/- The walk of SuperReturns. -/
import Derived.Test.YthkopgmkdenebaaSupO
import Derived.Test.YthkopgmkdenebaaSupW
namespace Go.Proofs.Ythkopgmkdenebaa
open Go.RowKit
set_option linter.unusedVariables false
set_option maxRecDepth 100000

/-- a superblock whose roots lie as spare leaves them -/
theorem SparedR.sp {w : World} {g : Nat} {s : SP} (h : SparedR w g s) {B : Nat} {w0 : World} {a : Option Addr} {cap : Nat} (hs : SpAt B w0 s a cap) : SpAt w.heap.size w s (some ⟨g, 0, none⟩) (s.roots.length + 2) := by
  refine ⟨?_, hs.rok, hs.len, (fun e => by cases e), hs.g, hs.b, hs.c, hs.r, hs.n⟩
  have hlt : g < w.heap.size := OR.lt h g rfl
  refine .inr ⟨g, 0, rfl, hlt, fun i x hi => ?_⟩
  have hil := (List.getElem?_eq_some_iff.1 hi).1
  obtain ⟨h0, h1, h2, h3⟩ := cellsR_get (rs := markedR s.roots) (i := i) (x := x) (by rw [markedR, List.getElem?_append_left hil]; exact hi)
  obtain ⟨_, e0, k0, _⟩ := OR.cell h h0
  obtain ⟨_, e1, k1, _⟩ := OR.cell h h1
  obtain ⟨_, e2, k2, _⟩ := OR.cell h h2
  obtain ⟨_, e3, k3, _⟩ := OR.cell h h3
  cases e0; cases e1; cases e2; cases e3
  rw [Nat.zero_add]
  exact ⟨k0, k1, k2, k3⟩

set_option maxHeartbeats 4000000 in
theorem superReturns_walk (s : SP) (a : Option Addr) (cap : Nat) (W : World) (hs : SpAt W.heap.size W s a cap ∧ s.roots.length ≤ 4398046511000) :
    Calls Try.prog 7 #[spv s a cap] W fun e w' => e = .returned (.bool true) ∧ Below W.heap.size W w' := by
  obtain ⟨hs, hl⟩ := hs
  have HS := Lib.hid fun w' (h : Below W.heap.size W w') => spareS_any s a cap w' W.heap.size h.size (hs.below h) hl
  have HC := Lib.hid fun w' (h : Below W.heap.size W w') => check_any s a cap w' W.heap.size h.size (hs.below h)
  have Hs := Lib.hid hs
  clear hs hl
  obtain ⟨A, hA⟩ : ∃ A, A = sBox s.gen s.cf.blocks s.cf.clones s.cf.refs s.next a s.roots.length cap := ⟨_, rfl⟩
  have hv : spv s a cap = .agg #[.int .i64 s.gen, .int .i64 s.cf.blocks, .int .i64 s.cf.clones, .int .i64 s.cf.refs, .int .i64 s.next, .slice a s.roots.length cap] := rfl
  rw [hv] at HS HC ⊢
  clear hv hA
  have HB0 := Lib.hid (one_below W (sBox s.gen s.cf.blocks s.cf.clones s.cf.refs s.next a s.roots.length cap))
  have Hg0 := Lib.hid (heap_alloc_new W (sBox s.gen s.cf.blocks s.cf.clones s.cf.refs s.next a s.roots.length cap))
  unfold sBox at HB0 Hg0
  go_enter Try.func7, Try.ntmps7
  go_wp2_with fail
  generalize W.alloc (.cells #[.int .i64 s.gen, .int .i64 s.cf.blocks, .int .i64 s.cf.clones, .int .i64 s.cf.refs, .int .i64 s.next, .slice a s.roots.length cap] 33) = W0 at HB0 Hg0 ⊢
  have hz0 : W.heap.size < W0.heap.size := lt_of_heap Hg0.out
  refine (works_any _).mono ?_
  rintro _ w1 ⟨rfl, hb1⟩
  have hB1 := HB0.out.trans (hb1.mono HB0.out.size)
  have hg1 := (hb1.block _ hz0).trans Hg0.out
  obtain ⟨y0, y1, y2, y3, y4, y5, -⟩ := cells6 hg1
  have hz1 : W.heap.size < w1.heap.size := Nat.lt_of_lt_of_le hz0 hb1.size
  have H := Lib.hid (HS.out _ hB1)
  have HB1 := Lib.hid hB1
  have Hg1 := Lib.hid hg1
  clear hb1 hB1 hg1 Hg0 HB0 HS
  go_wp2_with fail
  refine H.out.mono ?_
  clear H
  rintro _ w2 ⟨g, rfl, hsp, hgf, hb2⟩
  have hsp2 := hsp.sp Hs.out
  have H := Lib.hid (encode_any s _ _ w2 _ (Nat.le_refl _) hsp2)
  have HB2 := Lib.hid (HB1.out.trans (hb2.mono HB1.out.size))
  have Hg2 := Lib.hid ((hb2.block _ hz1).trans Hg1.out)
  have hz2 : W.heap.size < w2.heap.size := Nat.lt_of_lt_of_le hz1 hb2.size
  clear hb2 hsp hsp2 hgf y0 y1 y2 y3 y4 y5 Hg1
  go_wp2_with fail
  refine H.out.mono ?_
  clear H
  rintro _ w3 ⟨ea, ec, rfl, hE, hef, hb3⟩
  have HB3 := Lib.hid (HB2.out.trans (hb3.mono HB2.out.size))
  have hg3 := (hb3.block _ hz2).trans Hg2.out
  obtain ⟨y0, y1, y2, y3, y4, y5, -⟩ := cells6 hg3
  have hz3 : W.heap.size < w3.heap.size := Nat.lt_of_lt_of_le hz2 hb3.size
  have H := Lib.hid (HC.out _ HB3.out)
  have HE := Lib.hid hE
  have Hg3 := Lib.hid hg3
  clear hb3 hg3 hE Hg2 HC
  have hle := scheck_le s
  unfold Checked at H
  go_wp2_with fail
  refine H.out.mono ?_
  clear H
  rintro _ w4 ⟨rfl, hb4⟩
  have HB4 := Lib.hid (HB3.out.trans (hb4.mono HB3.out.size))
  have HE4 := Lib.hid (HE.out.below hb4)
  have HZ4 := Lib.hid hb4.size
  have Hg4 := Lib.hid ((hb4.block _ hz3).trans Hg3.out)
  clear hb4 y0 y1 y2 y3 y4 y5
  have hss : ((scheck s : Int) != (scheck s : Int)) = false := by simp
  by_cases h0 : scheck s = 0
  · have hR := scheck_ok.1 h0
    have hl := laid_length hR
    have he : encB s = laid s := by rw [encB, if_pos h0]
    have hE4 := HE4.out
    rw [he] at hE4 ⊢
    rw [h0] at hss ⊢
    have hcp := hE4.cap
    have HD := Lib.hid (decode_any (laid s) ea ec w4 hE4.bts hcp.1 (by omega))
    rw [sdec_laid hR] at HD
    rw [hl] at HD ⊢
    have HR := Lib.hid hR
    clear hE4 hcp HE HE4 he hl hR h0
    go_wp2_with fail
    refine HD.out.mono ?_
    clear HD
    rintro _ w5 ⟨da, dc, rfl, hO, hdf, hb5⟩
    have HB5 := Lib.hid (HB4.out.trans (hb5.mono HB4.out.size))
    have hvt : spv (((0, s) : Nat × SP)).2 da dc = .agg #[.int .i64 s.gen, .int .i64 s.cf.blocks, .int .i64 s.cf.clones, .int .i64 s.cf.refs, .int .i64 s.next, .slice da s.roots.length dc] := rfl
    rw [hvt, show (((((0, s) : Nat × SP)).1 : Nat) : Int) = 0 from rfl]
    have hg4 := (hb5.block _ (Nat.lt_of_lt_of_le hz3 HZ4.out)).trans Hg4.out
    have hb6 := one_below w5 (.cells #[.int .i64 s.gen, .int .i64 s.cf.blocks, .int .i64 s.cf.clones, .int .i64 s.cf.refs, .int .i64 s.next, .slice da s.roots.length dc] 33)
    have hg6 := heap_alloc_new w5 (.cells #[.int .i64 s.gen, .int .i64 s.cf.blocks, .int .i64 s.cf.clones, .int .i64 s.cf.refs, .int .i64 s.next, .slice da s.roots.length dc] 33)
    obtain ⟨y0, y1, y2, y3, y4, y5, -⟩ := cells6 ((hb6.block W.heap.size (Nat.lt_of_lt_of_le hz3 (Nat.le_trans HZ4.out hb5.size))).trans hg4)
    obtain ⟨t0, t1, t2, t3, t4, t5, -⟩ := cells6 hg6
    have h6s := (Hs.out.below (HB5.out.trans (hb6.mono HB5.out.size))).mono (Nat.le_trans HB5.out.size hb6.size)
    have h6t := ((HR.out.sp hO).below hb6).mono hb6.size
    have H := Lib.hid fun (w' : World) (h : Below (w5.alloc (.cells #[.int .i64 s.gen, .int .i64 s.cf.blocks, .int .i64 s.cf.clones, .int .i64 s.cf.refs, .int .i64 s.next, .slice da s.roots.length dc] 33)).heap.size (w5.alloc (.cells #[.int .i64 s.gen, .int .i64 s.cf.blocks, .int .i64 s.cf.clones, .int .i64 s.cf.refs, .int .i64 s.next, .slice da s.roots.length dc] 33)) w') => eqSuper_any s s a da cap dc _ w' (Nat.le_refl _) ((h6s.below h).mono h.size) ((h6t.below h).mono h.size)
    rw [show decide (s = s) = true by simp] at H
    have HB6 := Lib.hid (HB5.out.trans (hb6.mono HB5.out.size))
    simp only [spv] at H
    clear hb5 hO hb6 hg4 hg6 h6s h6t hdf hvt
    go_wp2_with fail
    generalize w5.alloc (.cells #[.int .i64 s.gen, .int .i64 s.cf.blocks, .int .i64 s.cf.clones, .int .i64 s.cf.refs, .int .i64 s.next, .slice da s.roots.length dc] 33) = W6 at *
    refine (H.out _ (Below.refl _ _)).mono ?_
    clear H
    rintro _ w7 ⟨rfl, hb7⟩
    have HB7 := Lib.hid (HB6.out.trans (hb7.mono HB6.out.size))
    clear hb7 t0 t1 t2 t3 t4 t5 y0 y1 y2 y3 y4 y5
    go_wp2_with fail
    go_ret
    exact ⟨rfl, HB7.out⟩
  · have he : encB s = [] := by rw [encB, if_neg h0]
    rw [he]
    have hne : ((scheck s : Int) != 0) = true := by rw [bne_iff_ne]; omega
    generalize scheck s = sc at *
    clear HE HE4 he h0
    go_wp2_with fail
    go_ret
    exact ⟨rfl, HB4.out⟩
end Go.Proofs.Ythkopgmkdenebaa
