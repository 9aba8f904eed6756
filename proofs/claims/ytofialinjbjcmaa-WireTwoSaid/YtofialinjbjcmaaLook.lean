/- The walks of chapter 2's look: read, state. -/
import Derived.Test.YtofialinjbjcmaaLookB
import Derived.Test.YtofialinjbjcmaaFld
import Derived.Deep.RegionHeld3
namespace Go.Proofs.Ytofialinjbjcmaa
open Go.RowKit
set_option linter.unusedVariables false

/-- what a call of the two readers leaves -/
def Look (lv : Prop) (B : Nat) (w : World) (x : Nat) (d : Duo) (n m : Nat) (w' : World) : Prop := ∃ (s' : RS) (d' : Duo), IsDuo (PR s') (PQ s') lv B w' x d' ∧ Step w d w' d' x ∧ d'.es.length ≤ n ∧ s'.rest.length ≤ m
/-- how many lists of bytes a call tells -/
def told1 (kind : Int) : Nat := if kind = 0 ∨ kind = 3 then 1 else 0
theorem get_small (s : RS) (k : Nat) : (s.get k).2.rest.length ≤ s.rest.length ∧ (s.get k).1 < 256 ^ k := by
  simp only [RS.get]
  repeat' split
  · exact ⟨Nat.le_refl _, Nat.pow_pos (by decide)⟩
  · exact ⟨Nat.le_refl _, Nat.pow_pos (by decide)⟩
  · refine ⟨by simp only [List.length_drop]; omega, Nat.lt_of_lt_of_le (unle_lt _) (Nat.pow_le_pow_right (by decide) ?_)⟩
    rw [List.length_take]; omega
theorem raw_small (s : RS) (n : Int) : (s.raw n).2.rest.length ≤ s.rest.length ∧ (s.raw n).1.length ≤ s.rest.length := by
  simp only [RS.raw]
  repeat' split
  all_goals first | exact ⟨Nat.le_refl _, Nat.zero_le _⟩ | exact ⟨by simp only [List.length_drop]; omega, by simp only [List.length_take]; omega⟩
theorem short_small (s : RS) (n : Int) : (s.short n).2.rest.length ≤ s.rest.length ∧ (s.short n).1.length ≤ s.rest.length := by
  simp only [RS.short]
  split
  · exact ⟨Nat.le_refl _, Nat.zero_le _⟩
  · rcases hr : s.rest with _ | ⟨b, t⟩
    · simp
    · simp only []
      repeat' split
      all_goals first | exact ⟨by simp, Nat.zero_le _⟩ | exact ⟨by simp only [List.length_drop, List.length_cons]; omega, by simp only [List.length_take, List.length_cons]; omega⟩
theorem zeros_small (s : RS) : s.zeros.rest.length ≤ s.rest.length := by
  simp only [RS.zeros]
  repeat' split
  all_goals simp

set_option maxRecDepth 100000 in
set_option maxHeartbeats 8000000 in
theorem read_any (B x : Nat) (lv : Prop) (s : RS) (hsl : s.rest.length ≤ 140737488351232) (d : Duo) (o : Op2) (w : World) (hI : IsDuo (PR s) (PQ s) lv B w x d) (hB : B ≤ w.heap.size) (hn : d.es.length ≤ 1000000) :
    Calls Try.prog 16 #[.pointer (some ⟨x, 0, none⟩), o.val] w fun r w' => r = .returned (.bool true) ∧ Look lv B w x d (d.es.length + told1 o.kind) s.rest.length w' := by
  have hbx := (o.boxed w).2.2.2
  have HB1 := Lib.hid (o.box_below w)
  have hI1 := hI.below (PR.stable s) (PQ.stable s) (o.box_below w)
  have HI1 := Lib.hid hI1
  have Hown := Lib.hid fun b (h : Own d x b) => hI.lt h
  have hB1 : B ≤ (w.alloc o.box).heap.size := Nat.le_trans hB (o.box_below w).size
  have hz1 : w.heap.size < (w.alloc o.box).heap.size := by simp
  have Hl := Lib.hid hsl
  clear hI hI1
  obtain ⟨kind, ko, n, ao, co, bs0⟩ := o
  simp only [Op2.val, Op2.box] at *
  obtain ⟨x0, x1, x2, xf⟩ := HI1.out.cells
  by_cases k1 : kind = 1
  · subst k1
    clear xf x2 hbx
    go_enter Try.func16, Try.ntmps16
    go_wp2_with fail
    generalize (w.alloc (.cells #[.int .i64 1, .int .u64 n, .slice ao bs0.length co, .int .i64 ko] 36)) = W1 at HI1 HB1 hB1 hz1 x0 x1 ⊢
    obtain ⟨a, ca, hR, -, hnx⟩ := (HI1.out.below (PR.stable s) (PQ.stable s) (Below.refl _ _).drew).atR (show B ≤ W1.drew.heap.size from hB1)
    have H := get_uint8 d.p a ca s _ hR
    have HQ := fun (w2 : World) (oq : Option Addr) (hq : IsQ w2 d.r oq s) => qget_any d.r oq s 1 (by decide) w2 hq
    obtain ⟨hsm, hgb⟩ := get_small s 1
    obtain ⟨g, hg⟩ : ∃ g, (s.get 1).1 = g := ⟨_, rfl⟩
    obtain ⟨s', hs'⟩ : ∃ s', (s.get 1).2 = s' := ⟨_, rfl⟩
    simp only [hg, hs', show ((1 : Nat) : Int) = 1 from rfl] at H HQ hgb hsm
    have H := Lib.hid H
    have HQ := Lib.hid HQ
    have Hnx := Lib.hid fun w' => hnx s' w'
    have Hsm := Lib.hid hsm
    have hw : IntKind.u64.wrap ((g : Nat) : Int) = (g : Int) := by simp [IntKind.wrap, IntKind.signed, IntKind.bits]; omega
    clear hR hnx hg hs' hsm hgb
    go_region_held3 (fun w' => w'.cell? ⟨x, 0, none⟩ = some (.pointer (some ⟨d.p, 0, none⟩)) ∧ w'.cell? ⟨x, 1, none⟩ = some (.pointer (some ⟨d.r, 0, none⟩)))
      (first
        | exact ⟨x0, x1⟩
        | with_reducible exact hbn
        | with_reducible exact hbn2)
      (first
        | (go_at_call 45; go_split_ands; ((with_reducible refine H.out.mono ?_); rintro e w2 ⟨rfl, hA⟩)
           obtain ⟨hI2, hS2⟩ := Hnx.out _ hA
           have hbn := And.intro hI2.cells.1 hI2.cells.2.1
           obtain ⟨oq, hq, -, hnq⟩ := hI2.atQ (Nat.le_trans hB1 hS2.1.size))
        | (go_at_call 46; go_split_ands; ((with_reducible refine (HQ.out _ _ hq).mono ?_); rintro e w3 ⟨rfl, hA3⟩)
           obtain ⟨hI3, hS3⟩ := hnq _ _ hA3
           have hbn2 := And.intro hI3.cells.1 hI3.cells.2.1))
    have HF := Lib.hid (show Look lv B w x d (d.es.length + told1 1) s.rest.length w3 from ⟨s', d, hI3, (Step.of_below HB1.out).trans (hS2.drewL.trans hS3 fun b hb => (HI1.out.lt hb).2) fun b hb => (Hown.out b hb).2, Nat.le_add_right _ _, Hsm.out⟩)
    clear hI2 hS2 hI3 hS3 hA hA3 hq hnq
    go_wp2_with fail
    go_ret
    exact ⟨by simp, HF.out⟩
  by_cases k2 : kind = 2
  · subst k2
    clear xf x2 hbx k1
    go_enter Try.func16, Try.ntmps16
    go_wp2_with fail
    generalize (w.alloc (.cells #[.int .i64 2, .int .u64 n, .slice ao bs0.length co, .int .i64 ko] 36)) = W1 at HI1 HB1 hB1 hz1 x0 x1 ⊢
    obtain ⟨a, ca, hR, -, hnx⟩ := (HI1.out.below (PR.stable s) (PQ.stable s) (Below.refl _ _).drew).atR (show B ≤ W1.drew.heap.size from hB1)
    have H := get_uint16 d.p a ca s _ hR
    have HQ := fun (w2 : World) (oq : Option Addr) (hq : IsQ w2 d.r oq s) => qget_any d.r oq s 2 (by decide) w2 hq
    obtain ⟨hsm, hgb⟩ := get_small s 2
    obtain ⟨g, hg⟩ : ∃ g, (s.get 2).1 = g := ⟨_, rfl⟩
    obtain ⟨s', hs'⟩ : ∃ s', (s.get 2).2 = s' := ⟨_, rfl⟩
    simp only [hg, hs', show ((2 : Nat) : Int) = 2 from rfl] at H HQ hgb hsm
    have H := Lib.hid H
    have HQ := Lib.hid HQ
    have Hnx := Lib.hid fun w' => hnx s' w'
    have Hsm := Lib.hid hsm
    have hw : IntKind.u64.wrap ((g : Nat) : Int) = (g : Int) := by simp [IntKind.wrap, IntKind.signed, IntKind.bits]; omega
    clear hR hnx hg hs' hsm hgb
    go_region_held3 (fun w' => w'.cell? ⟨x, 0, none⟩ = some (.pointer (some ⟨d.p, 0, none⟩)) ∧ w'.cell? ⟨x, 1, none⟩ = some (.pointer (some ⟨d.r, 0, none⟩)))
      (first
        | exact ⟨x0, x1⟩
        | with_reducible exact hbn
        | with_reducible exact hbn2)
      (first
        | (go_at_call 47; go_split_ands; ((with_reducible refine H.out.mono ?_); rintro e w2 ⟨rfl, hA⟩)
           obtain ⟨hI2, hS2⟩ := Hnx.out _ hA
           have hbn := And.intro hI2.cells.1 hI2.cells.2.1
           obtain ⟨oq, hq, -, hnq⟩ := hI2.atQ (Nat.le_trans hB1 hS2.1.size))
        | (go_at_call 46; go_split_ands; ((with_reducible refine (HQ.out _ _ hq).mono ?_); rintro e w3 ⟨rfl, hA3⟩)
           obtain ⟨hI3, hS3⟩ := hnq _ _ hA3
           have hbn2 := And.intro hI3.cells.1 hI3.cells.2.1))
    have HF := Lib.hid (show Look lv B w x d (d.es.length + told1 2) s.rest.length w3 from ⟨s', d, hI3, (Step.of_below HB1.out).trans (hS2.drewL.trans hS3 fun b hb => (HI1.out.lt hb).2) fun b hb => (Hown.out b hb).2, Nat.le_add_right _ _, Hsm.out⟩)
    clear hI2 hS2 hI3 hS3 hA hA3 hq hnq
    go_wp2_with fail
    go_ret
    exact ⟨by simp, HF.out⟩
  by_cases k4 : kind = 4
  · subst k4
    clear xf x2 hbx k1 k2
    go_enter Try.func16, Try.ntmps16
    go_wp2_with fail
    generalize (w.alloc (.cells #[.int .i64 4, .int .u64 n, .slice ao bs0.length co, .int .i64 ko] 36)) = W1 at HI1 HB1 hB1 hz1 x0 x1 ⊢
    obtain ⟨a, ca, hR, -, hnx⟩ := (HI1.out.below (PR.stable s) (PQ.stable s) (Below.refl _ _).drew).atR (show B ≤ W1.drew.heap.size from hB1)
    have H := get_uint32 d.p a ca s _ hR
    have HQ := fun (w2 : World) (oq : Option Addr) (hq : IsQ w2 d.r oq s) => qget_any d.r oq s 4 (by decide) w2 hq
    obtain ⟨hsm, hgb⟩ := get_small s 4
    obtain ⟨g, hg⟩ : ∃ g, (s.get 4).1 = g := ⟨_, rfl⟩
    obtain ⟨s', hs'⟩ : ∃ s', (s.get 4).2 = s' := ⟨_, rfl⟩
    simp only [hg, hs', show ((4 : Nat) : Int) = 4 from rfl] at H HQ hgb hsm
    have H := Lib.hid H
    have HQ := Lib.hid HQ
    have Hnx := Lib.hid fun w' => hnx s' w'
    have Hsm := Lib.hid hsm
    have hw : IntKind.u64.wrap ((g : Nat) : Int) = (g : Int) := by simp [IntKind.wrap, IntKind.signed, IntKind.bits]; omega
    clear hR hnx hg hs' hsm hgb
    go_region_held3 (fun w' => w'.cell? ⟨x, 0, none⟩ = some (.pointer (some ⟨d.p, 0, none⟩)) ∧ w'.cell? ⟨x, 1, none⟩ = some (.pointer (some ⟨d.r, 0, none⟩)))
      (first
        | exact ⟨x0, x1⟩
        | with_reducible exact hbn
        | with_reducible exact hbn2)
      (first
        | (go_at_call 48; go_split_ands; ((with_reducible refine H.out.mono ?_); rintro e w2 ⟨rfl, hA⟩)
           obtain ⟨hI2, hS2⟩ := Hnx.out _ hA
           have hbn := And.intro hI2.cells.1 hI2.cells.2.1
           obtain ⟨oq, hq, -, hnq⟩ := hI2.atQ (Nat.le_trans hB1 hS2.1.size))
        | (go_at_call 46; go_split_ands; ((with_reducible refine (HQ.out _ _ hq).mono ?_); rintro e w3 ⟨rfl, hA3⟩)
           obtain ⟨hI3, hS3⟩ := hnq _ _ hA3
           have hbn2 := And.intro hI3.cells.1 hI3.cells.2.1))
    have HF := Lib.hid (show Look lv B w x d (d.es.length + told1 4) s.rest.length w3 from ⟨s', d, hI3, (Step.of_below HB1.out).trans (hS2.drewL.trans hS3 fun b hb => (HI1.out.lt hb).2) fun b hb => (Hown.out b hb).2, Nat.le_add_right _ _, Hsm.out⟩)
    clear hI2 hS2 hI3 hS3 hA hA3 hq hnq
    go_wp2_with fail
    go_ret
    exact ⟨by simp, HF.out⟩
  by_cases k8 : kind = 8
  · subst k8
    clear xf x2 hbx k1 k2 k4
    go_enter Try.func16, Try.ntmps16
    go_wp2_with fail
    generalize (w.alloc (.cells #[.int .i64 8, .int .u64 n, .slice ao bs0.length co, .int .i64 ko] 36)) = W1 at HI1 HB1 hB1 hz1 x0 x1 ⊢
    obtain ⟨a, ca, hR, -, hnx⟩ := (HI1.out.below (PR.stable s) (PQ.stable s) (Below.refl _ _).drew).atR (show B ≤ W1.drew.heap.size from hB1)
    have H := get_uint64 d.p a ca s _ hR
    have HQ := fun (w2 : World) (oq : Option Addr) (hq : IsQ w2 d.r oq s) => qget_any d.r oq s 8 (by decide) w2 hq
    obtain ⟨hsm, hgb⟩ := get_small s 8
    obtain ⟨g, hg⟩ : ∃ g, (s.get 8).1 = g := ⟨_, rfl⟩
    obtain ⟨s', hs'⟩ : ∃ s', (s.get 8).2 = s' := ⟨_, rfl⟩
    simp only [hg, hs', show ((8 : Nat) : Int) = 8 from rfl] at H HQ hgb hsm
    have H := Lib.hid H
    have HQ := Lib.hid HQ
    have Hnx := Lib.hid fun w' => hnx s' w'
    have Hsm := Lib.hid hsm
    have hw : IntKind.u64.wrap ((g : Nat) : Int) = (g : Int) := by simp [IntKind.wrap, IntKind.signed, IntKind.bits]; omega
    clear hR hnx hg hs' hsm hgb
    go_region_held3 (fun w' => w'.cell? ⟨x, 0, none⟩ = some (.pointer (some ⟨d.p, 0, none⟩)) ∧ w'.cell? ⟨x, 1, none⟩ = some (.pointer (some ⟨d.r, 0, none⟩)))
      (first
        | exact ⟨x0, x1⟩
        | with_reducible exact hbn
        | with_reducible exact hbn2)
      (first
        | (go_at_call 49; go_split_ands; ((with_reducible refine H.out.mono ?_); rintro e w2 ⟨rfl, hA⟩)
           obtain ⟨hI2, hS2⟩ := Hnx.out _ hA
           have hbn := And.intro hI2.cells.1 hI2.cells.2.1
           obtain ⟨oq, hq, -, hnq⟩ := hI2.atQ (Nat.le_trans hB1 hS2.1.size))
        | (go_at_call 46; go_split_ands; ((with_reducible refine (HQ.out _ _ hq).mono ?_); rintro e w3 ⟨rfl, hA3⟩)
           obtain ⟨hI3, hS3⟩ := hnq _ _ hA3
           have hbn2 := And.intro hI3.cells.1 hI3.cells.2.1))
    have HF := Lib.hid (show Look lv B w x d (d.es.length + told1 8) s.rest.length w3 from ⟨s', d, hI3, (Step.of_below HB1.out).trans (hS2.drewL.trans hS3 fun b hb => (HI1.out.lt hb).2) fun b hb => (Hown.out b hb).2, Nat.le_add_right _ _, Hsm.out⟩)
    clear hI2 hS2 hI3 hS3 hA hA3 hq hnq
    go_wp2_with fail
    go_ret
    exact ⟨by simp, HF.out⟩
  by_cases k0 : kind = 0
  · subst k0
    clear xf k1 k2 k4 k8
    go_enter Try.func16, Try.ntmps16
    go_wp2_with fail
    generalize (w.alloc (.cells #[.int .i64 0, .int .u64 n, .slice ao bs0.length co, .int .i64 ko] 36)) = W1 at HI1 HB1 hB1 hz1 x0 x1 x2 hbx ⊢
    obtain ⟨a, ca, hR, -, hnx⟩ := (HI1.out.below (PR.stable s) (PQ.stable s) (Below.refl _ _).drew).atR (show B ≤ W1.drew.heap.size from hB1)
    have H := rraw_any d.p ko a ca s _ hR
    have HQ := fun (w2 : World) (oq : Option Addr) (hq : IsQ w2 d.r oq s) => qraw_any d.r oq s ko w2 hq
    obtain ⟨hsm, hgb⟩ := raw_small s ko
    obtain ⟨g, hg⟩ : ∃ g, (s.raw ko).1 = g := ⟨_, rfl⟩
    obtain ⟨s', hs'⟩ : ∃ s', (s.raw ko).2 = s' := ⟨_, rfl⟩
    simp only [hg, hs'] at H HQ hgb hsm
    have H := Lib.hid H
    have HQ := Lib.hid HQ
    have Hnx := Lib.hid fun w' => hnx s' w'
    have Hsm := Lib.hid hsm
    have hgl : g.length ≤ 140737488351232 := Nat.le_trans hgb Hl.out
    clear hR hnx hg hs' hsm hgb
    go_still_tail 6, (by kernel_rfl)
    change wpList _ _ _ _ _ W1.drew
    go_wp2_with fail
    refine H.out.mono ?_
    rintro _ w2 ⟨og, cg, rfl, hO, hnew, hA⟩
    obtain ⟨hI2, hS2⟩ := Hnx.out _ hA
    have hS2 := hS2.drewL
    have hI2d := hI2.below (PR.stable s') (PQ.stable s) (Below.refl _ _).drew
    obtain ⟨oq, hq, -, hnq⟩ := hI2d.atQ (show B ≤ w2.drew.heap.size from Nat.le_trans hB1 hS2.1.size)
    have HQ2 := Lib.hid (HQ.out _ _ hq)
    have Hnq := Lib.hid fun w' => hnq s' w'
    have hbx2 := (hS2.1.cell (p := ⟨w.heap.size, 3, none⟩) hz1 (fun e => by have := (Hown.out w.heap.size e).2; omega)).trans hbx
    have HO := Lib.hid hO
    have Hnew := Lib.hid hnew
    have HS2 := Lib.hid hS2
    have hcx := And.intro hI2.cells.2.1 hbx2
    have hB2 : B ≤ w2.heap.size := Nat.le_trans hB1 hS2.1.size
    have hl2 : ∀ b, Own d x b → b < W1.heap.size := fun b hb => (HI1.out.lt hb).2
    have Hl2 := Lib.hid hl2
    have HbxS := Lib.hid fun (w3 : World) (h : Chg (Own d x) w2 w3) => (h.cell (p := ⟨w.heap.size, 3, none⟩) (Nat.lt_of_lt_of_le hz1 HS2.out.1.size) (fun e => by have := (Hown.out w.heap.size e).2; omega)).trans hbx2
    have HOgS := Lib.hid fun (w3 : World) (h : Chg (Own d x) w2 w3) => HO.out.chg h fun b hb e => by
      have h1 : W1.heap.size ≤ b := Hnew.out b hb
      have := Hl2.out b e
      omega
    have Hfr := Lib.hid fun (b : Nat) (hb : blk og = some b) => show B ≤ b ∧ ¬ Own d x b from ⟨Nat.le_trans hB1 (Hnew.out b hb), fun e => by
      have := Hl2.out b e
      have h1 : W1.heap.size ≤ b := Hnew.out b hb
      omega⟩
    clear hI2 hS2 hI2d hq hnq hA hO hnew x0 x1 x2 hbx hbx2 hl2
    go_wp2_with fail
    go_region_held3 (fun w' => w'.cell? ⟨x, 1, none⟩ = some (.pointer (some ⟨d.r, 0, none⟩)) ∧ w'.cell? ⟨w.heap.size, 3, none⟩ = some (.int .i64 ko))
      (first
        | exact hcx
        | with_reducible exact hbn
        | with_reducible exact hbn2)
      (first
        | (go_at_call 52; go_split_ands; ((with_reducible refine HQ2.out.mono ?_); rintro e w3 ⟨ow, cw, rfl, hOw, hnw, hA3⟩)
           obtain ⟨hI3, hS3⟩ := Hnq.out _ hA3
           have hS3 := hS3.drewL
           have hbn := And.intro hI3.cells.2.1 (HbxS.out w3 hS3.1)
           have hOg3 := HOgS.out w3 hS3.1
           have hz3 := Nat.le_trans hB2 hS3.1.size
           have hbw := hOw.bts)
        | (go_at_call 51; go_split_ands; ((with_reducible refine (bytes_any (PR s') (PQ s') (PR.stable s') (PQ.stable s') lv B x d g hgl og ow cg cw w3 hI3 hz3 hn hOg3 hbw Hfr.out).mono ?_); rintro e w4 ⟨rfl, d4, hI4, ep, er, hC4, ho4, hn4⟩)
           have hc4 := hI4.cells.2.1
           rw [er] at hc4
           have hbn2 := And.intro hc4 (HbxS.out w4 (hS3.1.trans hC4 fun _ _ h => h))))
    have HF := Lib.hid (show Look lv B w x d (d.es.length + told1 0) s.rest.length w4 from by
      have ht1 : told1 0 = 1 := by decide
      have hSt : Step W1 d w3 d x := HS2.out.trans hS3 Hl2.out
      have hSt4 : Step W1 d w4 d4 x := ⟨hSt.1.trans hC4 fun b hb h => h, fun b hb => by
        rcases ho4 b hb with h | h | h
        · exact .inl h
        · exact .inr (Nat.le_trans hSt.1.size h)
        · exact .inr (Hnew.out b h)⟩
      exact ⟨s', d4, hI4, (Step.of_below HB1.out).trans hSt4 fun b hb => (Hown.out b hb).2, by omega, Hsm.out⟩)
    clear hI3 hS3 hOg3 hOw hnw hA3 hI4 hC4 ho4 hn4 ep er
    go_wp2_with fail
    go_ret
    exact ⟨rfl, HF.out⟩
  by_cases k3 : kind = 3
  · subst k3
    clear xf k1 k2 k4 k8 k0
    go_enter Try.func16, Try.ntmps16
    go_wp2_with fail
    generalize (w.alloc (.cells #[.int .i64 3, .int .u64 n, .slice ao bs0.length co, .int .i64 ko] 36)) = W1 at HI1 HB1 hB1 hz1 x0 x1 x2 hbx ⊢
    obtain ⟨a, ca, hR, -, hnx⟩ := (HI1.out.below (PR.stable s) (PQ.stable s) (Below.refl _ _).drew).atR (show B ≤ W1.drew.heap.size from hB1)
    have H := rshort_any d.p ko a ca s _ hR
    have HQ := fun (w2 : World) (oq : Option Addr) (hq : IsQ w2 d.r oq s) => qshort_any d.r oq s ko w2 hq
    obtain ⟨hsm, hgb⟩ := short_small s ko
    obtain ⟨g, hg⟩ : ∃ g, (s.short ko).1 = g := ⟨_, rfl⟩
    obtain ⟨s', hs'⟩ : ∃ s', (s.short ko).2 = s' := ⟨_, rfl⟩
    simp only [hg, hs'] at H HQ hgb hsm
    have H := Lib.hid H
    have HQ := Lib.hid HQ
    have Hnx := Lib.hid fun w' => hnx s' w'
    have Hsm := Lib.hid hsm
    have hgl : g.length ≤ 140737488351232 := Nat.le_trans hgb Hl.out
    clear hR hnx hg hs' hsm hgb
    go_still_tail 6, (by kernel_rfl)
    change wpList _ _ _ _ _ W1.drew
    go_wp2_with fail
    refine H.out.mono ?_
    rintro _ w2 ⟨og, cg, rfl, hO, hnew, hA⟩
    obtain ⟨hI2, hS2⟩ := Hnx.out _ hA
    have hS2 := hS2.drewL
    have hI2d := hI2.below (PR.stable s') (PQ.stable s) (Below.refl _ _).drew
    obtain ⟨oq, hq, -, hnq⟩ := hI2d.atQ (show B ≤ w2.drew.heap.size from Nat.le_trans hB1 hS2.1.size)
    have HQ2 := Lib.hid (HQ.out _ _ hq)
    have Hnq := Lib.hid fun w' => hnq s' w'
    have hbx2 := (hS2.1.cell (p := ⟨w.heap.size, 3, none⟩) hz1 (fun e => by have := (Hown.out w.heap.size e).2; omega)).trans hbx
    have HO := Lib.hid hO
    have Hnew := Lib.hid hnew
    have HS2 := Lib.hid hS2
    have hcx := And.intro hI2.cells.2.1 hbx2
    have hB2 : B ≤ w2.heap.size := Nat.le_trans hB1 hS2.1.size
    have hl2 : ∀ b, Own d x b → b < W1.heap.size := fun b hb => (HI1.out.lt hb).2
    have Hl2 := Lib.hid hl2
    have HbxS := Lib.hid fun (w3 : World) (h : Chg (Own d x) w2 w3) => (h.cell (p := ⟨w.heap.size, 3, none⟩) (Nat.lt_of_lt_of_le hz1 HS2.out.1.size) (fun e => by have := (Hown.out w.heap.size e).2; omega)).trans hbx2
    have HOgS := Lib.hid fun (w3 : World) (h : Chg (Own d x) w2 w3) => HO.out.chg h fun b hb e => by
      have h1 : W1.heap.size ≤ b := Hnew.out b hb
      have := Hl2.out b e
      omega
    have Hfr := Lib.hid fun (b : Nat) (hb : blk og = some b) => show B ≤ b ∧ ¬ Own d x b from ⟨Nat.le_trans hB1 (Hnew.out b hb), fun e => by
      have := Hl2.out b e
      have h1 : W1.heap.size ≤ b := Hnew.out b hb
      omega⟩
    clear hI2 hS2 hI2d hq hnq hA hO hnew x0 x1 x2 hbx hbx2 hl2
    go_wp2_with fail
    go_region_held3 (fun w' => w'.cell? ⟨x, 1, none⟩ = some (.pointer (some ⟨d.r, 0, none⟩)) ∧ w'.cell? ⟨w.heap.size, 3, none⟩ = some (.int .i64 ko))
      (first
        | exact hcx
        | with_reducible exact hbn
        | with_reducible exact hbn2)
      (first
        | (go_at_call 54; go_split_ands; ((with_reducible refine HQ2.out.mono ?_); rintro e w3 ⟨ow, cw, rfl, hOw, hnw, hA3⟩)
           obtain ⟨hI3, hS3⟩ := Hnq.out _ hA3
           have hS3 := hS3.drewL
           have hbn := And.intro hI3.cells.2.1 (HbxS.out w3 hS3.1)
           have hOg3 := HOgS.out w3 hS3.1
           have hz3 := Nat.le_trans hB2 hS3.1.size
           have hbw := hOw.bts)
        | (go_at_call 51; go_split_ands; ((with_reducible refine (bytes_any (PR s') (PQ s') (PR.stable s') (PQ.stable s') lv B x d g hgl og ow cg cw w3 hI3 hz3 hn hOg3 hbw Hfr.out).mono ?_); rintro e w4 ⟨rfl, d4, hI4, ep, er, hC4, ho4, hn4⟩)
           have hc4 := hI4.cells.2.1
           rw [er] at hc4
           have hbn2 := And.intro hc4 (HbxS.out w4 (hS3.1.trans hC4 fun _ _ h => h))))
    have HF := Lib.hid (show Look lv B w x d (d.es.length + told1 3) s.rest.length w4 from by
      have ht1 : told1 3 = 1 := by decide
      have hSt : Step W1 d w3 d x := HS2.out.trans hS3 Hl2.out
      have hSt4 : Step W1 d w4 d4 x := ⟨hSt.1.trans hC4 fun b hb h => h, fun b hb => by
        rcases ho4 b hb with h | h | h
        · exact .inl h
        · exact .inr (Nat.le_trans hSt.1.size h)
        · exact .inr (Hnew.out b h)⟩
      exact ⟨s', d4, hI4, (Step.of_below HB1.out).trans hSt4 fun b hb => (Hown.out b hb).2, by omega, Hsm.out⟩)
    clear hI3 hS3 hOg3 hOw hnw hA3 hI4 hC4 ho4 hn4 ep er
    go_wp2_with fail
    go_ret
    exact ⟨rfl, HF.out⟩
  by_cases k5 : kind = 5
  · subst k5
    clear xf x2 hbx k1 k2 k4 k8 k0 k3
    obtain ⟨a, ca, hR, -, hnx⟩ := HI1.out.atR hB1
    have H := Lib.hid (rzeros_any d.p a ca s _ hR)
    have Hnx := Lib.hid fun w' => hnx s.zeros w'
    have Hsm := Lib.hid (zeros_small s)
    clear hR hnx
    go_enter Try.func16, Try.ntmps16
    go_wp2_with fail
    refine H.out.mono ?_
    rintro _ w2 ⟨rfl, hA⟩
    obtain ⟨hI2, hS2⟩ := Hnx.out _ hA
    obtain ⟨oq, hq, -, hnq⟩ := hI2.atQ (Nat.le_trans hB1 hS2.1.size)
    have H2 := Lib.hid (qzeros_any d.r oq s w2 hq)
    have Hnq := Lib.hid fun w' => hnq s.zeros w'
    have HS2 := Lib.hid hS2
    clear x0 x1
    obtain ⟨x0, x1, x2, xf⟩ := hI2.cells
    clear hI2 hS2 hA hq hnq xf x2
    go_wp2_with fail
    refine H2.out.mono ?_
    rintro _ w3 ⟨rfl, hA3⟩
    obtain ⟨hI3, hS3⟩ := Hnq.out _ hA3
    have HF := Lib.hid (show Look lv B w x d (d.es.length + told1 5) s.rest.length w3 from ⟨s.zeros, d, hI3, (Step.of_below HB1.out).trans (HS2.out.trans hS3 fun b hb => (HI1.out.lt hb).2) fun b hb => (Hown.out b hb).2, Nat.le_add_right _ _, Hsm.out⟩)
    clear hI3 hS3 hA3
    go_wp2_with fail
    go_ret
    exact ⟨rfl, HF.out⟩
  by_cases k6 : kind = 6
  · subst k6
    clear xf x2 hbx k1 k2 k4 k8 k0 k3 k5
    go_enter Try.func16, Try.ntmps16
    go_wp2_with fail
    generalize (w.alloc (.cells #[.int .i64 6, .int .u64 n, .slice ao bs0.length co, .int .i64 ko] 36)) = W1 at HI1 HB1 hB1 hz1 x0 x1 ⊢
    have HI1d := Lib.hid (HI1.out.below (PR.stable s) (PQ.stable s) (Below.refl _ _).drew)
    obtain ⟨a, ca, hR, -, -⟩ := HI1d.out.atR (show B ≤ W1.drew.heap.size from hB1)
    have H := Lib.hid (end_any d.p a ca s _ hR)
    have HQ := Lib.hid fun (w2 : World) (oq : Option Addr) (hq : IsQ w2 d.r oq s) => qend_any d.r oq s w2 hq
    obtain ⟨oq, hq, -, -⟩ := HI1d.out.atQ (show B ≤ W1.drew.heap.size from hB1)
    clear hR
    go_region_held3 (fun w' => w'.cell? ⟨x, 0, none⟩ = some (.pointer (some ⟨d.p, 0, none⟩)) ∧ w'.cell? ⟨x, 1, none⟩ = some (.pointer (some ⟨d.r, 0, none⟩)))
      (first
        | exact ⟨x0, x1⟩
        | with_reducible exact hbn
        | with_reducible exact hbn2)
      (first
        | (go_at_call 29; go_split_ands; ((with_reducible refine H.out.mono ?_); rintro e w2 ⟨rfl, rfl⟩)
           have hbn := And.intro HI1d.out.cells.1 HI1d.out.cells.2.1)
        | (go_at_call 56; go_split_ands; ((with_reducible refine (HQ.out _ _ hq).mono ?_); rintro e w3 ⟨rfl, hB3⟩)
           have hI3 := HI1d.out.below (PR.stable s) (PQ.stable s) hB3
           have hbn2 := And.intro hI3.cells.1 hI3.cells.2.1))
    have HF := Lib.hid (show Look lv B w x d (d.es.length + told1 6) s.rest.length w3 from ⟨s, d, hI3, (Step.of_below HB1.out).trans (Step.drewL (Step.of_below hB3)) fun b hb => (Hown.out b hb).2, Nat.le_add_right _ _, Nat.le_refl _⟩)
    clear hI3 hB3 hq
    go_wp2_with fail
    go_ret
    exact ⟨by simp, HF.out⟩
  by_cases k7 : kind = 7
  · subst k7
    clear xf x2 hbx k1 k2 k4 k8 k0 k3 k5 k6
    go_enter Try.func16, Try.ntmps16
    go_wp2_with fail
    generalize (w.alloc (.cells #[.int .i64 7, .int .u64 n, .slice ao bs0.length co, .int .i64 ko] 36)) = W1 at HI1 HB1 hB1 hz1 x0 x1 ⊢
    obtain ⟨a, ca, hR, -, -⟩ := HI1.out.atR hB1
    have Her := Lib.hid fun k => show Calls Try.prog 57 #[.pointer (some ⟨d.p, 0, none⟩)] (W1.drewN k) (fun e w' => e = .returned (.int .i64 (s.err : Int)) ∧ w' = W1.drewN k) from (err_any d.p a ca s _ (hR.below (below_drewN (Below.refl _ _) k))).mono fun e w' ⟨h1, h2⟩ => ⟨h1, h2.symm⟩
    obtain ⟨oq, hq, -, -⟩ := HI1.out.atQ hB1
    obtain ⟨all, capq, atq, Tq, h3, -⟩ := hq
    obtain ⟨-, -, cq2, -⟩ := qcells3 h3
    clear h3 hR
    go_quiet ((go_at_call 57; exact Calls.quiet_of_same (Her.out _)))
    have hBq : Below W1.heap.size W1 (W1.drewN nq) := below_drewN (Below.refl _ _) nq
    have HF := Lib.hid (show Look lv B w x d (d.es.length + told1 7) s.rest.length (W1.drewN nq) from ⟨s, d, HI1.out.below (PR.stable s) (PQ.stable s) hBq, (Step.of_below HB1.out).trans (Step.of_below hBq) fun b hb => (Hown.out b hb).2, Nat.le_add_right _ _, Nat.le_refl _⟩)
    clear hBq
    go_wp2_with fail
    go_ret
    exact ⟨by simp, HF.out⟩
  have d1 := beq_no k1
  have d2 := beq_no k2
  have d4 := beq_no k4
  have d8 := beq_no k8
  have d0 := beq_no k0
  have d3 := beq_no k3
  have d5 := beq_no k5
  have d6 := beq_no k6
  have d7 := beq_no k7
  clear xf x2 hbx k1 k2 k4 k8 k0 k3 k5 k6 k7
  go_enter Try.func16, Try.ntmps16
  go_wp2_with fail
  generalize (w.alloc (.cells #[.int .i64 kind, .int .u64 n, .slice ao bs0.length co, .int .i64 ko] 36)) = W1 at HI1 HB1 hB1 hz1 x0 x1 ⊢
  have HI1d := Lib.hid (HI1.out.below (PR.stable s) (PQ.stable s) (Below.refl _ _).drew)
  obtain ⟨a, ca, hR, -, -⟩ := HI1d.out.atR (show B ≤ W1.drew.heap.size from hB1)
  have H := Lib.hid (left_any d.p a ca s _ hR)
  have HQ := Lib.hid fun (w2 : World) (oq : Option Addr) (hq : IsQ w2 d.r oq s) => qleft_any d.r oq s w2 hq
  obtain ⟨oq, hq, -, -⟩ := HI1d.out.atQ (show B ≤ W1.drew.heap.size from hB1)
  clear hR
  go_region_held3 (fun w' => w'.cell? ⟨x, 0, none⟩ = some (.pointer (some ⟨d.p, 0, none⟩)) ∧ w'.cell? ⟨x, 1, none⟩ = some (.pointer (some ⟨d.r, 0, none⟩)))
    (first
      | exact ⟨x0, x1⟩
      | with_reducible exact hbn
      | with_reducible exact hbn2)
    (first
      | (go_at_call 30; go_split_ands; ((with_reducible refine H.out.mono ?_); rintro e w2 ⟨rfl, rfl⟩)
         have hbn := And.intro HI1d.out.cells.1 HI1d.out.cells.2.1)
      | (go_at_call 19; go_split_ands; ((with_reducible refine (HQ.out _ _ hq).mono ?_); rintro e w3 ⟨rfl, hB3⟩)
         have hI3 := HI1d.out.below (PR.stable s) (PQ.stable s) hB3
         have hbn2 := And.intro hI3.cells.1 hI3.cells.2.1))
  have HF := Lib.hid (show Look lv B w x d (d.es.length + told1 kind) s.rest.length w3 from ⟨s, d, hI3, (Step.of_below HB1.out).trans (Step.drewL (Step.of_below hB3)) fun b hb => (Hown.out b hb).2, Nat.le_add_right _ _, Nat.le_refl _⟩)
  clear hI3 hB3 hq
  go_wp2_with fail
  go_ret
  exact ⟨by simp, HF.out⟩

theorem read_bare (kind : Int) (ko : Int) (B x : Nat) (lv : Prop) (s : RS) (hsl : s.rest.length ≤ 140737488351232) (d : Duo) (w : World) (hI : IsDuo (PR s) (PQ s) lv B w x d) (hB : B ≤ w.heap.size) (hn : d.es.length ≤ 1000000) :
    Calls Try.prog 16 #[.pointer (some ⟨x, 0, none⟩), .agg #[.int .i64 kind, .int .u64 0, .slice none 0 0, .int .i64 ko]] w fun r w' => r = .returned (.bool true) ∧ Look lv B w x d (d.es.length + told1 kind) s.rest.length w' :=
  read_any B x lv s hsl d ⟨kind, ko, 0, none, 0, []⟩ w hI hB hn

set_option maxHeartbeats 1000000 in
theorem state_any (B x : Nat) (lv : Prop) (s : RS) (hsl : s.rest.length ≤ 140737488351232) (d : Duo) (w : World) (hI : IsDuo (PR s) (PQ s) lv B w x d) (hB : B ≤ w.heap.size) (hn : d.es.length ≤ 1000000) :
    Calls Try.prog 18 #[.pointer (some ⟨x, 0, none⟩)] w fun r w' => r = .returned (.bool true) ∧ Look lv B w x d d.es.length s.rest.length w' := by
  have H := Lib.hid (read_bare 9 0 B x lv s hsl d w hI hB (by omega))
  have Hl := Lib.hid fun b (h : Own d x b) => (hI.lt h).2
  clear hI
  go_enter Try.func18, Try.ntmps18
  go_wp2_with fail
  refine H.out.mono ?_
  rintro _ w1 ⟨rfl, s1, d1, hI1, hS1, hn1, hr1⟩
  rw [show told1 9 = 0 from rfl] at hn1
  have H1 := Lib.hid (read_bare 7 0 B x lv s1 (by omega) d1 w1 hI1 (Nat.le_trans hB hS1.1.size) (by omega))
  have HS1 := Lib.hid hS1
  clear hI1 hS1
  go_wp2_with fail
  refine H1.out.mono ?_
  rintro _ w2 ⟨rfl, s2, d2, hI2, hS2, hn2, hr2⟩
  rw [show told1 7 = 0 from rfl] at hn2
  have hS12 := HS1.out.trans hS2 Hl.out
  have H2 := Lib.hid (read_bare 6 0 B x lv s2 (by omega) d2 w2 hI2 (Nat.le_trans hB hS12.1.size) (by omega))
  have HS2 := Lib.hid hS12
  clear hI2 hS2 hS12
  go_wp2_with fail
  refine H2.out.mono ?_
  rintro _ w3 ⟨rfl, s3, d3, hI3, hS3, hn3, hr3⟩
  rw [show told1 6 = 0 from rfl] at hn3
  have HF := Lib.hid (show Look lv B w x d d.es.length s.rest.length w3 from ⟨s3, d3, hI3, HS2.out.trans hS3 Hl.out, by omega, by omega⟩)
  clear hI3 hS3
  go_wp2_with fail
  go_ret
  exact ⟨rfl, HF.out⟩
end Go.Proofs.Ytofialinjbjcmaa
