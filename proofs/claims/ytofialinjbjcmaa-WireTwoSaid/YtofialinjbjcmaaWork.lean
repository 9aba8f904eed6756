/- The walk of chapter 2's work: a call of the program's writer beside the document's. -/
import Derived.Test.YtofialinjbjcmaaDuo
import Derived.Test.YtofialinjbjcmaaRwShort
import Derived.Test.YtofialinjbjcmaaFld
import Derived.Deep.Cut
import Derived.Deep.CutRange
import Derived.Deep.CutBlock
import Derived.StillTailTactics
namespace Go.Proofs.Ytofialinjbjcmaa
open Go.RowKit
set_option linter.unusedVariables false

def PW (s : WS) (p : Nat) (b : Option Nat) (w : World) : Prop := ∃ oa cap, blk oa = b ∧ IsW w p oa cap s
theorem PW.stable (s : WS) : Stable (PW s) := fun F p b w w' h hc h1 h2 => by
  obtain ⟨oa, cap, e, h⟩ := h
  exact ⟨oa, cap, e, h.chg hc h1 fun k hk => h2 k (by rw [← e]; exact hk)⟩
theorem PW.of {w : World} {p : Nat} {oa : Option Addr} {cap : Nat} {s : WS} (h : IsW w p oa cap s) : PW s p (blk oa) w := ⟨oa, cap, rfl, h⟩
/-- the program's writer of the two -/
theorem IsDuo.atW {s sr : WS} {lv : Prop} {B x : Nat} {w : World} {d : Duo} (h : IsDuo (PW s) (PW sr) lv B w x d) (hB : B ≤ w.heap.size) :
    ∃ oa cap, IsW w d.p oa cap s ∧ (∀ k, blk oa = some k → Own d x k) ∧ ∀ s' w', Wrote w d.p oa s' w' → ∃ d' : Duo, d'.es = d.es ∧ IsDuo (PW s') (PW sr) lv B w' x d' ∧ Step w d w' d' x := by
  obtain ⟨oa, cap, e, hW⟩ := h.2.1
  refine ⟨oa, cap, hW, fun k hk => Duo.mem_b1 (by rw [← e]; exact hk), fun s' w' h' => ?_⟩
  obtain ⟨oa', cap', h1, h2, h3⟩ := h'
  obtain ⟨h4, h5⟩ := h.step1 (PW.stable sr) (P1' := PW s') (PW.of h1) (h2.mono fun k _ hk => by rw [← e]; exact hk) (by rw [← e]; exact h3) h1.2.1.lt hB
  exact ⟨{ d with b1 := blk oa' }, rfl, h4, h5⟩
theorem IsDuo.atV {s sr : WS} {lv : Prop} {B x : Nat} {w : World} {d : Duo} (h : IsDuo (PW s) (PW sr) lv B w x d) (hB : B ≤ w.heap.size) :
    ∃ oa cap, IsW w d.r oa cap sr ∧ (∀ k, blk oa = some k → Own d x k) ∧ ∀ s' w', Wrote w d.r oa s' w' → ∃ d' : Duo, d'.es = d.es ∧ IsDuo (PW s) (PW s') lv B w' x d' ∧ Step w d w' d' x := by
  obtain ⟨oa, cap, e, hW⟩ := h.2.2.1
  refine ⟨oa, cap, hW, fun k hk => Duo.mem_b2 (by rw [← e]; exact hk), fun s' w' h' => ?_⟩
  obtain ⟨oa', cap', h1, h2, h3⟩ := h'
  obtain ⟨h4, h5⟩ := h.step2 (PW.stable s) (P2' := PW s') (PW.of h1) (h2.mono fun k _ hk => by rw [← e]; exact hk) (by rw [← e]; exact h3) h1.2.1.lt hB
  exact ⟨{ d with b2 := blk oa' }, rfl, h4, h5⟩

/-- what a call leaves: both have come to the same -/
def Both (lv : Prop) (B : Nat) (w : World) (x : Nat) (d : Duo) (n : Nat) (w' : World) : Prop := ∃ (s' : WS) (d' : Duo), IsDuo (PW s') (PW s') lv B w' x d' ∧ Step w d w' d' x ∧ d'.es.length ≤ n
/-- what stays of a call's box, and of what was handed in -/
def Side (g bx : Nat) (o : Op2) (w : World) : Prop := Spared w g o.bs ∧ w.cell? ⟨bx, 1, none⟩ = some (.int .u64 o.n) ∧ w.cell? ⟨bx, 2, none⟩ = some (.slice o.a o.bs.length o.cap) ∧ w.cell? ⟨bx, 3, none⟩ = some (.int .i64 o.k) ∧ Bts w o.a o.bs
theorem Side.chg {F : Nat → Prop} {w w' : World} {g bx : Nat} {o : Op2} (h : Side g bx o w) (hc : Chg F w w') (h1 : ¬ F g) (h2 : ¬ F bx) (hb : bx < w.heap.size) (h3 : o.bs = [] ∨ ∀ k, blk o.a = some k → ¬ F k) : Side g bx o w' := by
  obtain ⟨a1, a2, a3, a4, a5⟩ := h
  exact ⟨a1.chg hc h1, (hc.cell (p := ⟨bx, 1, none⟩) hb h2).trans a2, (hc.cell (p := ⟨bx, 2, none⟩) hb h2).trans a3, (hc.cell (p := ⟨bx, 3, none⟩) hb h2).trans a4, h3.elim .inl fun h3 => a5.chg hc h3⟩

def WCut (lv : Prop) (B : Nat) (W : World) (x : Nat) (d : Duo) (n g bx : Nat) (o : Op2) (wx : World) : Prop := Both lv B W x d n wx ∧ Side g bx o wx

theorem Step.drew_left {w w' : World} {d d' : Duo} {x : Nat} (h : Step w.drew d w' d' x) : Step w d w' d' x := ⟨⟨h.1.os, h.1.tape, h.1.output, h.1.size, h.1.block⟩, h.2⟩
theorem Step.drewN_left {w w' : World} {d d' : Duo} {x n : Nat} (h : Step (w.drewN n) d w' d' x) : Step w d w' d' x := ⟨⟨h.1.os, h.1.tape, h.1.output, h.1.size, h.1.block⟩, h.2⟩
theorem wcut_mk {lv : Prop} {B : Nat} {W w3 w4 : World} {x n g bx : Nat} {d d3 d4 : Duo} {o : Op2} {s' : WS} (hl : ∀ b, Own d x b → b < W.heap.size) (hs : ∀ wx, Chg (Own d x) W wx → Side g bx o wx) (h3 : Step W d w3 d3 x) (e3 : d3.es = d.es) (hI : IsDuo (PW s') (PW s') lv B w4 x d4) (h4 : Step w3 d3 w4 d4 x) (e4 : d4.es = d3.es) (hn : d.es.length ≤ n) : WCut lv B W x d n g bx o w4 :=
  have h := h3.trans h4 hl
  ⟨⟨s', d4, hI, h, by rw [e4, e3]; exact hn⟩, hs w4 h.1⟩

set_option maxRecDepth 100000 in
set_option maxHeartbeats 8000000 in
theorem write_any (B x : Nat) (lv : Prop) (s : WS) (d : Duo) (o : Op2) (ho : o.fits) (w : World) (hI : IsDuo (PW s) (PW s) lv B w x d) (hB : B ≤ w.heap.size) (hn : d.es.length ≤ 1000000) (hb : Bts w o.a o.bs) (hba : o.bs = [] ∨ ∀ k, blk o.a = some k → k < B) :
    Calls Try.prog 10 #[.pointer (some ⟨x, 0, none⟩), o.val] w fun r w' => r = .returned (.bool true) ∧ Both lv B w x d (d.es.length + 1) w' := by
  have hbl := ho.2.2.1
  have hown := fun b (h : Own d x b) => hI.lt h
  have hb1 := hb.below (o.box_below w)
  have HS := spare_any o.a o.cap o.bs (by omega) (w.alloc o.box) hb1
  have Hbx := Lib.hid (o.boxed w)
  have HB1 := Lib.hid (o.box_below w)
  have HI := Lib.hid hI
  have Hb1 := Lib.hid hb1
  have Hba := Lib.hid hba
  have Ho := Lib.hid ho
  have hk := ho.2.1
  have Hown := Lib.hid hown
  have hz1 : (w.alloc o.box).heap.size = w.heap.size + 1 := by simp
  have Hz1 := Lib.hid hz1
  have hn0 := ho.1
  clear hb hba hI hb1 ho hown hz1
  obtain ⟨kind, ko, n, ao, co, bs⟩ := o
  simp only [Op2.val, Op2.box] at *
  have HS := Lib.hid HS
  go_enter Try.func10, Try.ntmps10
  go_wp2_with fail
  refine HS.out.mono ?_
  rintro _ W2 ⟨rfl, hSp, hB2⟩
  rw [Hz1.out] at hSp ⊢
  have hgz : w.heap.size + 1 < W2.heap.size := OB.lt hSp _ rfl
  have HSide := Lib.hid (show Side (w.heap.size + 1) w.heap.size ⟨kind, ko, n, ao, co, bs⟩ W2 from
    ⟨hSp, (hB2.cell (p := ⟨w.heap.size, 1, none⟩) (by rw [Hz1.out]; show w.heap.size < _; omega)).trans Hbx.out.2.1, (hB2.cell (p := ⟨w.heap.size, 2, none⟩) (by rw [Hz1.out]; show w.heap.size < _; omega)).trans Hbx.out.2.2.1, (hB2.cell (p := ⟨w.heap.size, 3, none⟩) (by rw [Hz1.out]; show w.heap.size < _; omega)).trans Hbx.out.2.2.2, Hb1.out.below hB2⟩)
  have hk0 := (hB2.cell (p := ⟨w.heap.size, 0, none⟩) (by rw [Hz1.out]; show w.heap.size < _; omega)).trans Hbx.out.1
  have HB2 := Lib.hid (HB1.out.trans (hB2.mono HB1.out.size))
  have HI2 := Lib.hid (HI.out.below (PW.stable s) (PW.stable s) HB2.out)
  have hBW : B ≤ W2.heap.size := by omega
  have Hside := Lib.hid fun (wx : World) (h : Chg (Own d x) W2 wx) => HSide.out.chg h (fun e => by have := Hown.out _ e; omega) (fun e => by have := Hown.out _ e; omega) (by omega) (Hba.out.imp id fun h k hk e => by have := Hown.out _ e; have := h k hk; omega)
  clear hSp hB2
  go_upto_block 0 with fail
  go_cut [] from 6 to 199 (fun wx => WCut lv B W2 x d (d.es.length + 1) (w.heap.size + 1) w.heap.size ⟨kind, ko, n, ao, co, bs⟩ wx)
  case first =>
    by_cases k1 : kind = 1
    · subst k1
      obtain ⟨oa, ca, hW, hoa, hnx⟩ := (HI2.out.below (PW.stable s) (PW.stable s) (Below.refl _ _).drew).atW (show B ≤ W2.drew.heap.size from hBW)
      have H := put_uint8 d.p oa ca s (n % 256) (by omega) _ hW
      rw [leb_mod 1 n, show ((n % 256 : Nat) : Int) = (n : Int) % 256 by omega] at H
      have H := Lib.hid H
      have Hnx := Lib.hid hnx
      obtain ⟨x0, x1, x2, xf⟩ := HI2.out.cells
      obtain ⟨-, b1, b2, b3, -⟩ := Hside.out W2 (Chg.refl _ _)
      clear hW hoa hnx
      go_wp2_with fail
      go_still_tail 7, (by kernel_rfl)
      change wpList _ _ _ _ _ W2.drew
      go_wp2_with fail
      refine H.out.mono ?_
      rintro _ w3 ⟨rfl, h3⟩
      obtain ⟨d3, e3, hI3, hS3⟩ := Hnx.out _ _ h3
      have hS3 := hS3.drew_left
      obtain ⟨oar, car, hV, hoar, hnv⟩ := (hI3.below (PW.stable _) (PW.stable s) (Below.refl _ _).drew).atV (show B ≤ w3.drew.heap.size from Nat.le_trans hBW hS3.1.size)
      have hSd3 := Hside.out w3 hS3.1
      have H2 := rwPut_any d3.r oar car s n hn0 1 (by decide) _ hV
      have H2 := Lib.hid H2
      have Hnv := Lib.hid hnv
      clear x0 x1 x2 xf b1 b2 b3
      obtain ⟨x0, x1, x2, xf⟩ := hI3.cells
      obtain ⟨-, b1, b2, b3, -⟩ := hSd3
      have HS3 := Lib.hid hS3
      have E3 := Lib.hid e3
      clear h3 hV hoar hnv hI3 hS3 e3
      go_wp2_with fail
      go_still_tail 6, (by kernel_rfl)
      change wpList _ _ _ _ _ w3.drew
      go_wp2_with fail
      refine H2.out.mono ?_
      rintro _ w4 ⟨rfl, h4⟩
      obtain ⟨d4, e4, hI4, hS4⟩ := Hnv.out _ _ h4
      have hS4 := hS4.drew_left
      have HC := Lib.hid (wcut_mk (n := d.es.length + 1) (fun b hb => (HI2.out.lt hb).2) Hside.out HS3.out E3.out hI4 hS4 e4 (by omega))
      clear h4 hI4 hS4 e4 x0 x1 x2 xf b1 b2 b3
      go_wp2_with fail
      go_meet
      exact HC.out
    by_cases k2 : kind = 2
    · subst k2
      obtain ⟨oa, ca, hW, hoa, hnx⟩ := (HI2.out.below (PW.stable s) (PW.stable s) (Below.refl _ _).drew).atW (show B ≤ W2.drew.heap.size from hBW)
      have H := put_uint16 d.p oa ca s (n % 65536) (by omega) _ hW
      rw [leb_mod 2 n, show ((n % 65536 : Nat) : Int) = (n : Int) % 65536 by omega] at H
      have H := Lib.hid H
      have Hnx := Lib.hid hnx
      obtain ⟨x0, x1, x2, xf⟩ := HI2.out.cells
      obtain ⟨-, b1, b2, b3, -⟩ := Hside.out W2 (Chg.refl _ _)
      clear hW hoa hnx k1
      go_wp2_with fail
      go_still_tail 7, (by kernel_rfl)
      change wpList _ _ _ _ _ W2.drew
      go_wp2_with fail
      refine H.out.mono ?_
      rintro _ w3 ⟨rfl, h3⟩
      obtain ⟨d3, e3, hI3, hS3⟩ := Hnx.out _ _ h3
      have hS3 := hS3.drew_left
      obtain ⟨oar, car, hV, hoar, hnv⟩ := (hI3.below (PW.stable _) (PW.stable s) (Below.refl _ _).drew).atV (show B ≤ w3.drew.heap.size from Nat.le_trans hBW hS3.1.size)
      have hSd3 := Hside.out w3 hS3.1
      have H2 := rwPut_any d3.r oar car s n hn0 2 (by decide) _ hV
      have H2 := Lib.hid H2
      have Hnv := Lib.hid hnv
      clear x0 x1 x2 xf b1 b2 b3
      obtain ⟨x0, x1, x2, xf⟩ := hI3.cells
      obtain ⟨-, b1, b2, b3, -⟩ := hSd3
      have HS3 := Lib.hid hS3
      have E3 := Lib.hid e3
      clear h3 hV hoar hnv hI3 hS3 e3
      go_wp2_with fail
      go_still_tail 6, (by kernel_rfl)
      change wpList _ _ _ _ _ w3.drew
      go_wp2_with fail
      refine H2.out.mono ?_
      rintro _ w4 ⟨rfl, h4⟩
      obtain ⟨d4, e4, hI4, hS4⟩ := Hnv.out _ _ h4
      have hS4 := hS4.drew_left
      have HC := Lib.hid (wcut_mk (n := d.es.length + 1) (fun b hb => (HI2.out.lt hb).2) Hside.out HS3.out E3.out hI4 hS4 e4 (by omega))
      clear h4 hI4 hS4 e4 x0 x1 x2 xf b1 b2 b3
      go_wp2_with fail
      go_meet
      exact HC.out
    by_cases k4 : kind = 4
    · subst k4
      obtain ⟨oa, ca, hW, hoa, hnx⟩ := (HI2.out.below (PW.stable s) (PW.stable s) (Below.refl _ _).drew).atW (show B ≤ W2.drew.heap.size from hBW)
      have H := put_uint32 d.p oa ca s (n % 4294967296) (by omega) _ hW
      rw [leb_mod 4 n, show ((n % 4294967296 : Nat) : Int) = (n : Int) % 4294967296 by omega] at H
      have H := Lib.hid H
      have Hnx := Lib.hid hnx
      obtain ⟨x0, x1, x2, xf⟩ := HI2.out.cells
      obtain ⟨-, b1, b2, b3, -⟩ := Hside.out W2 (Chg.refl _ _)
      clear hW hoa hnx k1 k2
      go_wp2_with fail
      go_still_tail 7, (by kernel_rfl)
      change wpList _ _ _ _ _ W2.drew
      go_wp2_with fail
      refine H.out.mono ?_
      rintro _ w3 ⟨rfl, h3⟩
      obtain ⟨d3, e3, hI3, hS3⟩ := Hnx.out _ _ h3
      have hS3 := hS3.drew_left
      obtain ⟨oar, car, hV, hoar, hnv⟩ := (hI3.below (PW.stable _) (PW.stable s) (Below.refl _ _).drew).atV (show B ≤ w3.drew.heap.size from Nat.le_trans hBW hS3.1.size)
      have hSd3 := Hside.out w3 hS3.1
      have H2 := rwPut_any d3.r oar car s n hn0 4 (by decide) _ hV
      have H2 := Lib.hid H2
      have Hnv := Lib.hid hnv
      clear x0 x1 x2 xf b1 b2 b3
      obtain ⟨x0, x1, x2, xf⟩ := hI3.cells
      obtain ⟨-, b1, b2, b3, -⟩ := hSd3
      have HS3 := Lib.hid hS3
      have E3 := Lib.hid e3
      clear h3 hV hoar hnv hI3 hS3 e3
      go_wp2_with fail
      go_still_tail 6, (by kernel_rfl)
      change wpList _ _ _ _ _ w3.drew
      go_wp2_with fail
      refine H2.out.mono ?_
      rintro _ w4 ⟨rfl, h4⟩
      obtain ⟨d4, e4, hI4, hS4⟩ := Hnv.out _ _ h4
      have hS4 := hS4.drew_left
      have HC := Lib.hid (wcut_mk (n := d.es.length + 1) (fun b hb => (HI2.out.lt hb).2) Hside.out HS3.out E3.out hI4 hS4 e4 (by omega))
      clear h4 hI4 hS4 e4 x0 x1 x2 xf b1 b2 b3
      go_wp2_with fail
      go_meet
      exact HC.out
    by_cases k8 : kind = 8
    · subst k8
      obtain ⟨oa, ca, hW, hoa, hnx⟩ := (HI2.out.below (PW.stable s) (PW.stable s) (Below.refl _ _).drew).atW (show B ≤ W2.drew.heap.size from hBW)
      have H := put_uint64 d.p oa ca s n hn0 _ hW
      have H := Lib.hid H
      have Hnx := Lib.hid hnx
      obtain ⟨x0, x1, x2, xf⟩ := HI2.out.cells
      obtain ⟨-, b1, b2, b3, -⟩ := Hside.out W2 (Chg.refl _ _)
      clear hW hoa hnx k1 k2 k4
      go_wp2_with fail
      go_still_tail 6, (by kernel_rfl)
      change wpList _ _ _ _ _ W2.drew
      go_wp2_with fail
      refine H.out.mono ?_
      rintro _ w3 ⟨rfl, h3⟩
      obtain ⟨d3, e3, hI3, hS3⟩ := Hnx.out _ _ h3
      have hS3 := hS3.drew_left
      obtain ⟨oar, car, hV, hoar, hnv⟩ := (hI3.below (PW.stable _) (PW.stable s) (Below.refl _ _).drew).atV (show B ≤ w3.drew.heap.size from Nat.le_trans hBW hS3.1.size)
      have hSd3 := Hside.out w3 hS3.1
      have H2 := rwPut_any d3.r oar car s n hn0 8 (by decide) _ hV
      have H2 := Lib.hid H2
      have Hnv := Lib.hid hnv
      clear x0 x1 x2 xf b1 b2 b3
      obtain ⟨x0, x1, x2, xf⟩ := hI3.cells
      obtain ⟨-, b1, b2, b3, -⟩ := hSd3
      have HS3 := Lib.hid hS3
      have E3 := Lib.hid e3
      clear h3 hV hoar hnv hI3 hS3 e3
      go_wp2_with fail
      go_still_tail 6, (by kernel_rfl)
      change wpList _ _ _ _ _ w3.drew
      go_wp2_with fail
      refine H2.out.mono ?_
      rintro _ w4 ⟨rfl, h4⟩
      obtain ⟨d4, e4, hI4, hS4⟩ := Hnv.out _ _ h4
      have hS4 := hS4.drew_left
      have HC := Lib.hid (wcut_mk (n := d.es.length + 1) (fun b hb => (HI2.out.lt hb).2) Hside.out HS3.out E3.out hI4 hS4 e4 (by omega))
      clear h4 hI4 hS4 e4 x0 x1 x2 xf b1 b2 b3
      go_wp2_with fail
      go_meet
      exact HC.out
    by_cases k0 : kind = 0
    · subst k0
      obtain ⟨oa, ca, hW, hoa, hnx⟩ := HI2.out.atW hBW
      have hW0 := hW
      have H := raw_any d.p oa ca s (some ⟨w.heap.size + 1, 0, none⟩) (bs.length + 64) bs (by omega) W2 hW0 (Hside.out W2 (Chg.refl _ _)).1.bts (fun e => by cases e) (.inr fun k hk => by
        obtain rfl : w.heap.size + 1 = k := by simpa [blk] using hk
        refine ⟨fun e => ?_, fun e => ?_⟩
        · have h1 := (Hown.out d.p Duo.mem_p).2; omega
        · have h1 := (Hown.out _ (hoa _ e)).2; omega)
      have H := Lib.hid H
      have Hnx := Lib.hid hnx
      obtain ⟨x0, x1, x2, xf⟩ := HI2.out.cells
      obtain ⟨-, b1, b2, b3, -⟩ := Hside.out W2 (Chg.refl _ _)
      clear hW hoa hnx k1 k2 k4 k8 hW0
      go_wp2_with fail
      refine H.out.mono ?_
      rintro _ w3 ⟨rfl, h3⟩
      obtain ⟨d3, e3, hI3, hS3⟩ := Hnx.out _ _ h3
      obtain ⟨oar, car, hV, hoar, hnv⟩ := (hI3.below (PW.stable _) (PW.stable s) (Below.refl _ _).drew).atV (show B ≤ w3.drew.heap.size from Nat.le_trans hBW hS3.1.size)
      have hSd3 := Hside.out w3 hS3.1
      have H2 := rwRaw_any d3.r oar car s ao co bs (by omega) _ hV hSd3.2.2.2.2 (Hba.out.imp id fun h k hk => ⟨fun e => by have := h k hk; have := (hI3.lt (Duo.mem_r (d := d3))).1; omega, fun e => by have := h k hk; have := (hI3.lt (hoar _ e)).1; omega⟩)
      have H2 := Lib.hid H2
      have Hnv := Lib.hid hnv
      clear x0 x1 x2 xf b1 b2 b3
      obtain ⟨x0, x1, x2, xf⟩ := hI3.cells
      obtain ⟨-, b1, b2, b3, -⟩ := hSd3
      have HS3 := Lib.hid hS3
      have E3 := Lib.hid e3
      clear h3 hV hoar hnv hI3 hS3 e3
      go_wp2_with fail
      go_still_tail 6, (by kernel_rfl)
      change wpList _ _ _ _ _ w3.drew
      go_wp2_with fail
      refine H2.out.mono ?_
      rintro _ w4 ⟨rfl, h4⟩
      obtain ⟨d4, e4, hI4, hS4⟩ := Hnv.out _ _ h4
      have hS4 := hS4.drew_left
      have HC := Lib.hid (wcut_mk (n := d.es.length + 1) (fun b hb => (HI2.out.lt hb).2) Hside.out HS3.out E3.out hI4 hS4 e4 (by omega))
      clear h4 hI4 hS4 e4 x0 x1 x2 xf b1 b2 b3
      go_wp2_with fail
      go_meet
      exact HC.out
    by_cases k3 : kind = 3
    · subst k3
      obtain ⟨oa, ca, hW, hoa, hnx⟩ := HI2.out.atW hBW
      have hW0 := hW
      have H := short_any d.p oa ca s (some ⟨w.heap.size + 1, 0, none⟩) (bs.length + 64) bs (by omega) W2 hW0 (Hside.out W2 (Chg.refl _ _)).1.bts (fun e => by cases e) (.inr fun k hk => by
        obtain rfl : w.heap.size + 1 = k := by simpa [blk] using hk
        refine ⟨fun e => ?_, fun e => ?_⟩
        · have h1 := (Hown.out d.p Duo.mem_p).2; omega
        · have h1 := (Hown.out _ (hoa _ e)).2; omega)
      have H := Lib.hid H
      have Hnx := Lib.hid hnx
      obtain ⟨x0, x1, x2, xf⟩ := HI2.out.cells
      obtain ⟨-, b1, b2, b3, -⟩ := Hside.out W2 (Chg.refl _ _)
      clear hW hoa hnx k1 k2 k4 k8 k0 hW0
      go_wp2_with fail
      refine H.out.mono ?_
      rintro _ w3 ⟨rfl, h3⟩
      obtain ⟨d3, e3, hI3, hS3⟩ := Hnx.out _ _ h3
      obtain ⟨oar, car, hV, hoar, hnv⟩ := (hI3.below (PW.stable _) (PW.stable s) (Below.refl _ _).drew).atV (show B ≤ w3.drew.heap.size from Nat.le_trans hBW hS3.1.size)
      have hSd3 := Hside.out w3 hS3.1
      have H2 := rwShort_any d3.r oar car s ao co bs (by omega) _ hV hSd3.2.2.2.2 (Hba.out.imp id fun h k hk => ⟨fun e => by have := h k hk; have := (hI3.lt (Duo.mem_r (d := d3))).1; omega, fun e => by have := h k hk; have := (hI3.lt (hoar _ e)).1; omega⟩)
      have H2 := Lib.hid H2
      have Hnv := Lib.hid hnv
      clear x0 x1 x2 xf b1 b2 b3
      obtain ⟨x0, x1, x2, xf⟩ := hI3.cells
      obtain ⟨-, b1, b2, b3, -⟩ := hSd3
      have HS3 := Lib.hid hS3
      have E3 := Lib.hid e3
      clear h3 hV hoar hnv hI3 hS3 e3
      go_wp2_with fail
      go_still_tail 6, (by kernel_rfl)
      change wpList _ _ _ _ _ w3.drew
      go_wp2_with fail
      refine H2.out.mono ?_
      rintro _ w4 ⟨rfl, h4⟩
      obtain ⟨d4, e4, hI4, hS4⟩ := Hnv.out _ _ h4
      have hS4 := hS4.drew_left
      have HC := Lib.hid (wcut_mk (n := d.es.length + 1) (fun b hb => (HI2.out.lt hb).2) Hside.out HS3.out E3.out hI4 hS4 e4 (by omega))
      clear h4 hI4 hS4 e4 x0 x1 x2 xf b1 b2 b3
      go_wp2_with fail
      go_meet
      exact HC.out
    by_cases k5 : kind = 5
    · subst k5
      have hlong : ∀ (q : Bool) (w1 : World), decide ((1048576 : Int) < ko) = q → Calls Try.prog 22 #[.int .i64 ko] w1 fun e w' => e = .returned (.bool q) ∧ w' = w1 := fun q w1 hq => (long_any ko w1).mono fun e w' ⟨h1, h2⟩ => ⟨by rw [h1, hq], h2.symm⟩
      have Hlong := Lib.hid hlong
      obtain ⟨oar0, car0, hV0, -, -⟩ := HI2.out.atV hBW
      obtain ⟨⟨T0, hV1⟩, -, -, hmb, -⟩ := hV0
      obtain ⟨cr0, -, -, -⟩ := cells3 hV1
      have Hk := Lib.hid hk
      clear hV1 hlong
      by_cases hL : 1048576 < ko
      · have hq : decide ((1048576 : Int) < ko) = true := decide_eq_true hL
        by_cases hm : ko ≤ s.most
        · have hm2 : decide (ko ≤ (s.most : Int)) = true := decide_eq_true hm
          obtain ⟨x0, x1, x2, xf⟩ := HI2.out.cells
          obtain ⟨-, b1, b2, b3, -⟩ := Hside.out W2 (Chg.refl _ _)
          have Hq := Lib.hid hq
          clear hq hL hm k1 k2 k4 k8 k0 k3
          go_wp2_with fail
          go_quiet ((go_at_call 22; exact Calls.quiet_of_same (Hlong.out true _ Hq.out)))
          go_wp2_with fail
          go_ret
          exact ⟨rfl, s, d, HI.out.below (PW.stable s) (PW.stable s) (below_drewN HB2.out _), Step.of_below (below_drewN HB2.out _), Nat.le_succ _⟩
        · have hm2 : decide (ko ≤ (s.most : Int)) = false := decide_eq_false hm
          obtain ⟨x0, x1, x2, xf⟩ := HI2.out.cells
          obtain ⟨-, b1, b2, b3, -⟩ := Hside.out W2 (Chg.refl _ _)
          have Hq := Lib.hid hq
          clear hq hL hm k1 k2 k4 k8 k0 k3
          go_wp2_with fail
          go_quiet ((go_at_call 22; exact Calls.quiet_of_same (Hlong.out true _ Hq.out)))
          have hW3 : Below W2.heap.size W2 (W2.drewN nq) := below_drewN (Below.refl _ _) nq
          go_wp2_with fail
          generalize W2.drewN nq = W3 at hW3 ⊢
          have HI3 := Lib.hid (HI2.out.below (PW.stable s) (PW.stable s) hW3)
          have hB3 : B ≤ W3.heap.size := Nat.le_trans hBW hW3.size
          clear x0 x1 x2 xf b1 b2 b3 cr0
          obtain ⟨x0, x1, x2, xf⟩ := HI3.out.cells
          obtain ⟨-, b1, b2, b3, -⟩ := Hside.out W3 (Chg.of_below hW3)
          have HW3 := Lib.hid hW3
          obtain ⟨oa, ca, hW, hoa, hnx⟩ := (HI3.out.below (PW.stable s) (PW.stable s) (Below.refl _ _).drew).atW (show B ≤ W3.drew.heap.size from hB3)
          have H := fill_any d.p oa ca s ko Hk.out _ hW
          have H := Lib.hid H
          have Hnx := Lib.hid hnx
          clear hW hoa hnx hW3
          go_still_tail 6, (by kernel_rfl)
          change wpList _ _ _ _ _ W3.drew
          go_wp2_with fail
          refine H.out.mono ?_
          rintro _ w3 ⟨rfl, h3⟩
          obtain ⟨d3, e3, hI3, hS3⟩ := Hnx.out _ _ h3
          have hS3 := (Step.of_below HW3.out).trans hS3.drew_left fun b hb => (HI2.out.lt hb).2
          obtain ⟨oar, car, hV, hoar, hnv⟩ := (hI3.below (PW.stable _) (PW.stable s) (Below.refl _ _).drew).atV (show B ≤ w3.drew.heap.size from Nat.le_trans hBW hS3.1.size)
          have hSd3 := Hside.out w3 hS3.1
          have H2 := rwFill_any d3.r oar car s ko _ hV
          have H2 := Lib.hid H2
          have Hnv := Lib.hid hnv
          clear x0 x1 x2 xf b1 b2 b3
          obtain ⟨x0, x1, x2, xf⟩ := hI3.cells
          obtain ⟨-, b1, b2, b3, -⟩ := hSd3
          have HS3 := Lib.hid hS3
          have E3 := Lib.hid e3
          clear h3 hV hoar hnv hI3 hS3 e3
          go_wp2_with fail
          go_still_tail 6, (by kernel_rfl)
          change wpList _ _ _ _ _ w3.drew
          go_wp2_with fail
          refine H2.out.mono ?_
          rintro _ w4 ⟨rfl, h4⟩
          obtain ⟨d4, e4, hI4, hS4⟩ := Hnv.out _ _ h4
          have hS4 := hS4.drew_left
          have HC := Lib.hid (wcut_mk (n := d.es.length + 1) (fun b hb => (HI2.out.lt hb).2) Hside.out HS3.out E3.out hI4 hS4 e4 (by omega))
          clear h4 hI4 hS4 e4 x0 x1 x2 xf b1 b2 b3
          go_wp2_with fail
          go_meet
          exact HC.out
      · have hq : decide ((1048576 : Int) < ko) = false := decide_eq_false hL
        obtain ⟨x0, x1, x2, xf⟩ := HI2.out.cells
        obtain ⟨-, b1, b2, b3, -⟩ := Hside.out W2 (Chg.refl _ _)
        have Hq := Lib.hid hq
        clear hq hL k1 k2 k4 k8 k0 k3
        go_wp2_with fail
        go_quiet ((go_at_call 22; exact Calls.quiet_of_same (Hlong.out false _ Hq.out)))
        have hW3 : Below W2.heap.size W2 (W2.drewN nq) := below_drewN (Below.refl _ _) nq
        go_wp2_with fail
        generalize W2.drewN nq = W3 at hW3 ⊢
        have HI3 := Lib.hid (HI2.out.below (PW.stable s) (PW.stable s) hW3)
        have hB3 : B ≤ W3.heap.size := Nat.le_trans hBW hW3.size
        clear x0 x1 x2 xf b1 b2 b3 cr0
        obtain ⟨x0, x1, x2, xf⟩ := HI3.out.cells
        obtain ⟨-, b1, b2, b3, -⟩ := Hside.out W3 (Chg.of_below hW3)
        have HW3 := Lib.hid hW3
        obtain ⟨oa, ca, hW, hoa, hnx⟩ := (HI3.out.below (PW.stable s) (PW.stable s) (Below.refl _ _).drew).atW (show B ≤ W3.drew.heap.size from hB3)
        have H := fill_any d.p oa ca s ko Hk.out _ hW
        have H := Lib.hid H
        have Hnx := Lib.hid hnx
        clear hW hoa hnx hW3
        go_still_tail 6, (by kernel_rfl)
        change wpList _ _ _ _ _ W3.drew
        go_wp2_with fail
        refine H.out.mono ?_
        rintro _ w3 ⟨rfl, h3⟩
        obtain ⟨d3, e3, hI3, hS3⟩ := Hnx.out _ _ h3
        have hS3 := (Step.of_below HW3.out).trans hS3.drew_left fun b hb => (HI2.out.lt hb).2
        obtain ⟨oar, car, hV, hoar, hnv⟩ := (hI3.below (PW.stable _) (PW.stable s) (Below.refl _ _).drew).atV (show B ≤ w3.drew.heap.size from Nat.le_trans hBW hS3.1.size)
        have hSd3 := Hside.out w3 hS3.1
        have H2 := rwFill_any d3.r oar car s ko _ hV
        have H2 := Lib.hid H2
        have Hnv := Lib.hid hnv
        clear x0 x1 x2 xf b1 b2 b3
        obtain ⟨x0, x1, x2, xf⟩ := hI3.cells
        obtain ⟨-, b1, b2, b3, -⟩ := hSd3
        have HS3 := Lib.hid hS3
        have E3 := Lib.hid e3
        clear h3 hV hoar hnv hI3 hS3 e3
        go_wp2_with fail
        go_still_tail 6, (by kernel_rfl)
        change wpList _ _ _ _ _ w3.drew
        go_wp2_with fail
        refine H2.out.mono ?_
        rintro _ w4 ⟨rfl, h4⟩
        obtain ⟨d4, e4, hI4, hS4⟩ := Hnv.out _ _ h4
        have hS4 := hS4.drew_left
        have HC := Lib.hid (wcut_mk (n := d.es.length + 1) (fun b hb => (HI2.out.lt hb).2) Hside.out HS3.out E3.out hI4 hS4 e4 (by omega))
        clear h4 hI4 hS4 e4 x0 x1 x2 xf b1 b2 b3
        go_wp2_with fail
        go_meet
        exact HC.out
    by_cases k6 : kind = 6
    · subst k6
      by_cases he : s.err = 0
      · have he' : ((s.err : Int) != (0 : Int)) = false := by rw [bne_eq_false_iff_eq]; omega
        obtain ⟨oa, ca, hW, hoa, -⟩ := HI2.out.atW hBW
        have hsl : s.bs.length ≤ 16777216 := by obtain ⟨-, -, -, h1, h2, -⟩ := hW; omega
        have H := Lib.hid (done_ok d.p oa ca s he W2 hW)
        obtain ⟨x0, x1, x2, xf⟩ := HI2.out.cells
        clear he' hW hoa k1 k2 k4 k8 k0 k3 k5
        go_wp2_with fail
        refine H.out.mono ?_
        rintro _ w3 ⟨og, cg, rfl, hOg, hbg, hB3⟩
        have hfg : ∀ b, blk og = some b → W2.heap.size ≤ b ∧ b < w3.heap.size := fun b h => by
          refine ⟨?_, hOg.lt b h⟩
          rcases hbg with e | e
          · rw [e] at h; cases h
          · rw [e] at h; cases h; exact Nat.le_refl _
        have hI3 := HI2.out.below (PW.stable s) (PW.stable s) hB3
        obtain ⟨oar, car, hV, hoar, -⟩ := hI3.atV (Nat.le_trans hBW hB3.size)
        have H2 := Lib.hid (rwDone_ok d.r oar car s he w3 hV)
        clear x0 x1 x2 xf
        obtain ⟨x0, x1, x2, xf⟩ := hI3.cells
        have HOg := Lib.hid hOg
        have HB3 := Lib.hid hB3
        have Hfg := Lib.hid hfg
        have HI3 := Lib.hid hI3
        clear hV hoar hfg hI3
        go_wp2_with fail
        refine H2.out.mono ?_
        rintro _ w4 ⟨ow, cw, rfl, hOw, hnw, hB4⟩
        clear hnw
        have HE := Lib.hid (eqBytes_any s.bs s.bs og ow cg cw (by omega) (by omega) w4 (hOg.below hB4).bts hOw.bts)
        have HB4 := Lib.hid (HB3.out.trans (hB4.mono HB3.out.size))
        have HB34 := Lib.hid hB4
        clear hOw hOg hB3 hB4
        go_wp2_with fail
        refine HE.out.mono ?_
        rintro _ w5 ⟨rfl, hB5⟩
        rw [show decide (s.bs = s.bs) = true by simp]
        have HB5 := Lib.hid (HB4.out.trans (hB5.mono HB4.out.size))
        have hI5 := HI2.out.below (PW.stable s) (PW.stable s) HB5.out
        have HO5 := Lib.hid ((HOg.out.below HB34.out).below hB5)
        clear x0 x1 x2 xf
        obtain ⟨x0, x1, x2, xf⟩ := hI5.cells
        have xf2 := xf 2
        have hes : d.es.length ≤ 1000000 := hn
        have hO' := hI5.2.2.2.1.chg ((Chg.refl (fun _ => False) w5).alloc (.cells #[(⟨og, cg, s.bs.length⟩ : Lst).val] 34)) fun _ _ f => f
        have hlx : x < w5.heap.size := (hI5.lt Duo.mem_x).2
        have nx : ¬ blk d.ta = some x := fun e => absurd (hI5.sep 0 5 x rfl (by rw [← e]; rfl)) (by decide)
        have HI5 := Lib.hid hI5
        have Hsz5 := Lib.hid (show w3.heap.size ≤ w5.heap.size from Nat.le_trans HB34.out.size hB5.size)
        simp only [Lst.val] at hO'
        clear hI5 hB5 xf x0 x1
        go_wp2_with (at_builtin; refine wpList_append_two ApB.eLB rfl (.tmp 190) (.tmp 192) rfl rfl hO' rfl rfl (cell_new _ _ _) (fun u hu => by simp at hu; subst hu; rfl) (by show _ * 24 ≤ _; omega) (by omega) ?_
                     intro ta2 cap2 w6 hO6 hC6 hb6
                     have g2 := (hC6.cell (p := ⟨x, 2, none⟩) (Nat.lt_of_lt_of_le hlx (by simp)) nx).trans ((((Chg.refl (fun _ => False) w5).alloc _).cell (p := ⟨x, 2, none⟩) hlx fun f => f).trans x2)
                     have f2 := (hC6.frozen (p := ⟨x, 2, none⟩) (Nat.lt_of_lt_of_le hlx (by simp)) nx).trans ((((Chg.refl (fun _ => False) w5).alloc _).frozen (p := ⟨x, 2, none⟩) hlx fun f => f).trans xf2))
        have HC := Lib.hid (show WCut lv B W2 x d (d.es.length + 1) (w.heap.size + 1) w.heap.size ⟨6, ko, n, ao, co, bs⟩ (w6.setCell ⟨x, 2, none⟩ (.slice ta2 (d.es.length + 1) cap2)) from by
          have h := HI5.out.tell (PW.stable s) (PW.stable s) (e := ⟨og, cg, s.bs.length⟩) (Nat.le_trans hBW HB5.out.size) (by first | exact (by omega : s.bs.length ≤ 140737488351232) | exact Nat.zero_le _) (fun _ => ⟨_, HO5.out⟩) (fun b hb => ⟨Nat.le_trans hBW (Hfg.out b hb).1, Nat.lt_of_lt_of_le (Hfg.out b hb).2 Hsz5.out, fun hw => by have := (HI2.out.lt hw).2; have := (Hfg.out b hb).1; omega⟩) ((Below.refl w5.heap.size w5).alloc (Nat.le_refl _) _) hO6 hC6 (hb6.imp id (·.1))
          have hS : Step W2 d (w6.setCell ⟨x, 2, none⟩ (.slice ta2 (d.es.length + 1) cap2)) _ x := ⟨(Chg.of_below HB5.out).trans h.2.1 fun b hb ho => ho, fun b hb => by
            rcases h.2.2 b hb with h1 | h1 | h1
            · exact .inl h1
            · exact .inr (Nat.le_trans HB5.out.size h1)
            · exact .inr (Hfg.out b h1).1⟩
          exact ⟨⟨s, _, h.1, hS, by simp⟩, Hside.out _ hS.1⟩)
        clear hO6 hC6 hb6 hO' x2 xf2
        go_wp2_with fail
        go_meet
        exact HC.out
      · skip
        obtain ⟨oa, ca, hW, hoa, -⟩ := HI2.out.atW hBW
        have hsl : s.bs.length ≤ 16777216 := by obtain ⟨-, -, -, h1, h2, -⟩ := hW; omega
        have H := Lib.hid (done_err d.p oa ca s he W2 hW)
        obtain ⟨x0, x1, x2, xf⟩ := HI2.out.cells
        clear hW hoa k1 k2 k4 k8 k0 k3 k5
        go_wp2_with fail
        refine H.out.mono ?_
        rintro _ w3 ⟨rfl, hB3⟩
        have hOg : OB w3 none 0 [] := OB.nil _
        have hfg : ∀ b, blk (none : Option Addr) = some b → W2.heap.size ≤ b ∧ b < w3.heap.size := fun b h => by cases h
        have hI3 := HI2.out.below (PW.stable s) (PW.stable s) hB3
        obtain ⟨oar, car, hV, hoar, -⟩ := hI3.atV (Nat.le_trans hBW hB3.size)
        have H2 := Lib.hid (rwDone_err d.r oar car s he w3 hV)
        clear x0 x1 x2 xf
        obtain ⟨x0, x1, x2, xf⟩ := hI3.cells
        have HOg := Lib.hid hOg
        have HB3 := Lib.hid hB3
        have Hfg := Lib.hid hfg
        have HI3 := Lib.hid hI3
        clear hV hoar hfg hI3
        go_wp2_with fail
        refine H2.out.mono ?_
        rintro _ w4 ⟨rfl, hB4⟩
        have hOw : OB w4 none 0 [] := OB.nil _
        have HE := Lib.hid (eqBytes_any [] [] none none 0 0 (by simp) (by simp) w4 (hOg.below hB4).bts hOw.bts)
        have HB4 := Lib.hid (HB3.out.trans (hB4.mono HB3.out.size))
        have HB34 := Lib.hid hB4
        clear hOw hOg hB3 hB4
        go_wp2_with fail
        refine HE.out.mono ?_
        rintro _ w5 ⟨rfl, hB5⟩
        rw [show decide (([] : List UInt8) = ([] : List UInt8)) = true by simp]
        have HB5 := Lib.hid (HB4.out.trans (hB5.mono HB4.out.size))
        have hI5 := HI2.out.below (PW.stable s) (PW.stable s) HB5.out
        have HO5 := Lib.hid ((HOg.out.below HB34.out).below hB5)
        clear x0 x1 x2 xf
        obtain ⟨x0, x1, x2, xf⟩ := hI5.cells
        have xf2 := xf 2
        have hes : d.es.length ≤ 1000000 := hn
        have hO' := hI5.2.2.2.1.chg ((Chg.refl (fun _ => False) w5).alloc (.cells #[(⟨none, 0, 0⟩ : Lst).val] 34)) fun _ _ f => f
        have hlx : x < w5.heap.size := (hI5.lt Duo.mem_x).2
        have nx : ¬ blk d.ta = some x := fun e => absurd (hI5.sep 0 5 x rfl (by rw [← e]; rfl)) (by decide)
        have HI5 := Lib.hid hI5
        have Hsz5 := Lib.hid (show w3.heap.size ≤ w5.heap.size from Nat.le_trans HB34.out.size hB5.size)
        simp only [Lst.val] at hO'
        clear hI5 hB5 xf x0 x1
        go_wp2_with (at_builtin; refine wpList_append_two ApB.eLB rfl (.tmp 190) (.tmp 192) rfl rfl hO' rfl rfl (cell_new _ _ _) (fun u hu => by simp at hu; subst hu; rfl) (by show _ * 24 ≤ _; omega) (by omega) ?_
                     intro ta2 cap2 w6 hO6 hC6 hb6
                     have g2 := (hC6.cell (p := ⟨x, 2, none⟩) (Nat.lt_of_lt_of_le hlx (by simp)) nx).trans ((((Chg.refl (fun _ => False) w5).alloc _).cell (p := ⟨x, 2, none⟩) hlx fun f => f).trans x2)
                     have f2 := (hC6.frozen (p := ⟨x, 2, none⟩) (Nat.lt_of_lt_of_le hlx (by simp)) nx).trans ((((Chg.refl (fun _ => False) w5).alloc _).frozen (p := ⟨x, 2, none⟩) hlx fun f => f).trans xf2))
        have HC := Lib.hid (show WCut lv B W2 x d (d.es.length + 1) (w.heap.size + 1) w.heap.size ⟨6, ko, n, ao, co, bs⟩ (w6.setCell ⟨x, 2, none⟩ (.slice ta2 (d.es.length + 1) cap2)) from by
          have h := HI5.out.tell (PW.stable s) (PW.stable s) (e := ⟨none, 0, 0⟩) (Nat.le_trans hBW HB5.out.size) (by first | exact (by omega : s.bs.length ≤ 140737488351232) | exact Nat.zero_le _) (fun _ => ⟨_, HO5.out⟩) (fun b hb => ⟨Nat.le_trans hBW (Hfg.out b hb).1, Nat.lt_of_lt_of_le (Hfg.out b hb).2 Hsz5.out, fun hw => by have := (HI2.out.lt hw).2; have := (Hfg.out b hb).1; omega⟩) ((Below.refl w5.heap.size w5).alloc (Nat.le_refl _) _) hO6 hC6 (hb6.imp id (·.1))
          have hS : Step W2 d (w6.setCell ⟨x, 2, none⟩ (.slice ta2 (d.es.length + 1) cap2)) _ x := ⟨(Chg.of_below HB5.out).trans h.2.1 fun b hb ho => ho, fun b hb => by
            rcases h.2.2 b hb with h1 | h1 | h1
            · exact .inl h1
            · exact .inr (Nat.le_trans HB5.out.size h1)
            · exact .inr (Hfg.out b h1).1⟩
          exact ⟨⟨s, _, h.1, hS, by simp⟩, Hside.out _ hS.1⟩)
        clear hO6 hC6 hb6 hO' x2 xf2
        go_wp2_with fail
        go_meet
        exact HC.out
    obtain ⟨oa, ca, hW, hoa, -⟩ := HI2.out.atW hBW
    have hlen : ∀ w1, IsW w1 d.p oa ca s → Calls Try.prog 26 #[.pointer (some ⟨d.p, 0, none⟩)] w1 fun e w' => e = .returned (.int .i64 (s.bs.length : Nat)) ∧ w' = w1 := fun w1 h => (len_any d.p oa ca s w1 h).mono fun e w' ⟨h1, h2⟩ => ⟨h1, h2.symm⟩
    have Hlen := Lib.hid fun k => hlen (W2.drewN k) (hW.drewN k)
    obtain ⟨oar, car, hV, -, -⟩ := HI2.out.atV hBW
    obtain ⟨⟨T0, hV1⟩, -, -, hmb, -⟩ := hV
    obtain ⟨-, cr1, -, -⟩ := cells3 hV1
    obtain ⟨x0, x1, x2, xf⟩ := HI2.out.cells
    have d0 := beq_no k0
    have d1 := beq_no k1
    have d2 := beq_no k2
    have d3 := beq_no k3
    have d4 := beq_no k4
    have d5 := beq_no k5
    have d6 := beq_no k6
    have d8 := beq_no k8
    clear hV1 hlen hW hoa k0 k1 k2 k3 k4 k5 k6 k8
    go_wp2_with fail
    go_quiet ((go_at_call 26; exact Calls.quiet_of_same (Hlen.out _)))
    have HC := Lib.hid (show WCut lv B W2 x d (d.es.length + 1) (w.heap.size + 1) w.heap.size ⟨kind, ko, n, ao, co, bs⟩ (W2.drewN nq) from
      ⟨⟨s, d, HI2.out.below (PW.stable s) (PW.stable s) (below_drewN (Below.refl _ _) _), Step.of_below (below_drewN (Below.refl _ _) _), Nat.le_succ _⟩, Hside.out _ (Chg.of_below (below_drewN (Below.refl _ _) _))⟩)
    go_wp2_with fail
    go_meet
    exact HC.out
  case rest =>
    obtain ⟨⟨s', d', hI', hSt, hn'⟩, hSp, -, b2, -, hbt⟩ := hcut
    have HK := Lib.hid (kept_any (w.heap.size + 1) ao co bs (by omega) wc hSp hbt)
    have HSp := Lib.hid hSp
    have HF := Lib.hid (show ∀ wx, Below wc.heap.size wc wx → ∀ wy, Chg (fun k => k = w.heap.size + 1) wx wy → Both lv B w x d (d.es.length + 1) wy from fun wx h1 wy h2 => by
      have hC : Chg (fun k => k = w.heap.size + 1) wc wy := (Chg.of_below h1).trans h2 fun _ _ h => h
      refine ⟨s', d', hI'.chg (PW.stable s') (PW.stable s') hC fun b hb e => ?_, ?_, hn'⟩
      · rcases hSt.2 b hb with h | h
        · have := (Hown.out b h).2; omega
        · omega
      · exact ⟨((Chg.of_below HB2.out).trans hSt.1 fun _ _ h => h).trans hC fun b hb e => by omega, fun b hb => (hSt.2 b hb).imp id fun h => by omega⟩)
    clear hI' hSt hSp hbt hn' hk0
    go_wp2_with fail
    refine HK.out.mono ?_
    rintro _ w5 ⟨rfl, hB5⟩
    have HS5 := Lib.hid (HSp.out.below hB5)
    have HB5 := Lib.hid hB5
    clear hB5 b2
    go_wp2_with fail
    go_loopw [11] (fun i wr => RelInv (w.heap.size + 1) bs.length (cellsB (full bs)) w5 i wr) (fun i _ => bs.length - (intOf i).toNat)
    case atStart => exact ⟨0, [], Nat.zero_le _, rfl, rfl, by rw [List.nil_append, List.drop_zero]; exact HS5.out.or, Chg.refl _ _⟩
    case round =>
      obtain ⟨k, ws, hk, rfl, hwl, hO, hC⟩ := hrel
      by_cases hlt : k < bs.length
      · obtain ⟨u, hu, h1, h2⟩ := relInv_cell hO hwl hlt
        have HN := Lib.hid fun (v : Value) (i : Value) => relInv_next (v := v) (i := i) hO hwl hlt hC
        clear hO hC hwl
        go_wp2_with fail
        go_roundw
        case rel => exact HN.out _ _ (by go_num)
        case measure => simp [intOf]; omega
      · have HFin := Lib.hid (HF.out w5 HB5.out wr hC)
        clear hO hC hwl
        go_wp2_with fail
        go_ret
        exact ⟨rfl, HFin.out⟩
end Go.Proofs.Ytofialinjbjcmaa
