/- The walk of SuperChecks. -/
import Derived.Test.YthkopgmkdenebaaSWEncodes
import Derived.Test.YthkopgmkdenebaaSupF
namespace Go.Proofs.Ythkopgmkdenebaa
open Go.RowKit
set_option linter.unusedVariables false
set_option maxRecDepth 100000

set_option maxHeartbeats 4000000 in
theorem superChecks_walk (s : SP) (a : Option Addr) (cap : Nat) (id : Int) (W : World) (hs : SpAt W.heap.size W s a cap ∧ s.roots.length ≤ 4398046511000) (hid : (Lit.int .i64 id).wf = true) :
    Calls Try.prog 12 #[spv s a cap, .int .i64 id] W fun e w' => e = .returned (.bool true) ∧ Below W.heap.size W w' := by
  obtain ⟨hs, hl⟩ := hs
  have HS := Lib.hid fun w' (h : Below W.heap.size W w') => spareS_any s a cap w' W.heap.size h.size (hs.below h) hl
  have HD := Lib.hid fun w' (h : Below W.heap.size W w') => dFind_any s id a cap w' W.heap.size h.size (hs.below h)
  have HDC := Lib.hid fun w' (h : Below W.heap.size W w') => dCheck_any s a cap w' W.heap.size h.size (hs.below h)
  have HPC := Lib.hid fun w' g (hg : SparedR w' g s) => check_any s (some ⟨g, 0, none⟩) (s.roots.length + 2) w' _ (Nat.le_refl _) (hg.sp hs)
  have HK := Lib.hid fun w' g (h : Below W.heap.size W w') (hg : SparedR w' g s) => keptS_any s g a cap w' hg ((hs.below h).mono h.size) hl
  have HE := Lib.hid fun w' g (hg : SparedR w' g s) => find_any s id (some ⟨g, 0, none⟩) (s.roots.length + 2) w' _ (Nat.le_refl _) (hg.sp hs)
  obtain ⟨ro, he, it, ok, hfo⟩ : ∃ ro he it ok, foundV s.roots id = .returned (.tuple #[.agg #[.int .i64 ro, .int .i64 he, .int .i64 it], .bool ok]) := by
    unfold foundV
    split
    · exact ⟨_, _, _, _, rfl⟩
    · exact ⟨_, _, _, _, rfl⟩
  unfold FoundS at HE HD
  rw [hfo] at HE HD
  unfold Checked at HDC HPC
  have hle := scheck_le s
  generalize scheck s = sc at HDC HPC hle
  have hv : spv s a cap = .agg #[.int .i64 s.gen, .int .i64 s.cf.blocks, .int .i64 s.cf.clones, .int .i64 s.cf.refs, .int .i64 s.next, .slice a s.roots.length cap] := rfl
  rw [hv] at HS HD HK HDC ⊢
  clear hv hs
  have HB0 := Lib.hid (one_below W (sBox s.gen s.cf.blocks s.cf.clones s.cf.refs s.next a s.roots.length cap))
  have Hg0 := Lib.hid (heap_alloc_new W (sBox s.gen s.cf.blocks s.cf.clones s.cf.refs s.next a s.roots.length cap))
  unfold sBox at HB0 Hg0
  go_enter Try.func12, Try.ntmps12
  go_wp2_with fail
  generalize W.alloc (.cells #[.int .i64 s.gen, .int .i64 s.cf.blocks, .int .i64 s.cf.clones, .int .i64 s.cf.refs, .int .i64 s.next, .slice a s.roots.length cap] 33) = W0 at HB0 Hg0 ⊢
  have hz0 : W.heap.size < W0.heap.size := lt_of_heap Hg0.out
  refine (HS.out _ HB0.out).mono ?_
  rintro _ w1 ⟨g, rfl, hsp, hgf, hb1⟩
  rw [spv_eq s (some ⟨g, 0, none⟩)]
  -- the box of x
  have hb2 := one_below w1 (sBox s.gen s.cf.blocks s.cf.clones s.cf.refs s.next (some ⟨g, 0, none⟩) s.roots.length (s.roots.length + 2))
  have hx2 := heap_alloc_new w1 (sBox s.gen s.cf.blocks s.cf.clones s.cf.refs s.next (some ⟨g, 0, none⟩) s.roots.length (s.roots.length + 2))
  have hz2 : w1.heap.size < (w1.alloc (sBox s.gen s.cf.blocks s.cf.clones s.cf.refs s.next (some ⟨g, 0, none⟩) s.roots.length (s.roots.length + 2))).heap.size := by simp
  have hy2 := (hb2.block _ (Nat.lt_of_lt_of_le hz0 hb1.size)).trans ((hb1.block _ hz0).trans Hg0.out)
  have H := Lib.hid (HE.out _ g (hsp.below hb2))
  rw [spv_eq s (some ⟨g, 0, none⟩)] at H
  have hB1 := HB0.out.trans (hb1.mono HB0.out.size)
  have HB2 := Lib.hid (hB1.trans (hb2.mono hB1.size))
  have Hsp2 := Lib.hid (hsp.below hb2)
  have Hx2 := Lib.hid hx2
  have Hy2 := Lib.hid hy2
  have Hz2 := Lib.hid hz2
  have Hz1 := Lib.hid (Nat.lt_of_lt_of_le hz0 hb1.size)
  unfold sBox at H HB2 Hsp2 Hx2 Hy2 Hz2
  clear hsp hgf hb1 hb2 hx2 hz2 hy2 hB1 HE HS Hg0 HB0
  go_wp2_with fail
  generalize w1.alloc (.cells #[.int .i64 s.gen, .int .i64 s.cf.blocks, .int .i64 s.cf.clones, .int .i64 s.cf.refs, .int .i64 s.next, .slice (some ⟨g, 0, none⟩) s.roots.length (s.roots.length + 2)] 33) = W2 at *
  refine H.out.mono ?_
  clear H
  rintro _ w3 ⟨rfl, hb3⟩
  have hzw : W.heap.size < W2.heap.size := Nat.lt_trans Hz1.out Hz2.out
  have hx3 := (hb3.block _ Hz2.out).trans Hx2.out
  have hy3 := (hb3.block _ hzw).trans Hy2.out
  have hb4 := one_below w3 (.cells #[.int .i64 ro, .int .i64 he, .int .i64 it] 48)
  have ht4 := heap_alloc_new w3 (.cells #[.int .i64 ro, .int .i64 he, .int .i64 it] 48)
  have hz4 : w3.heap.size < (w3.alloc (.cells #[.int .i64 ro, .int .i64 he, .int .i64 it] 48)).heap.size := by simp
  have hy4 := (hb4.block _ (Nat.lt_of_lt_of_le hzw hb3.size)).trans hy3
  have hx4 := (hb4.block _ (Nat.lt_of_lt_of_le Hz2.out hb3.size)).trans hx3
  obtain ⟨y0, y1, y2, y3, y4, y5, -⟩ := cells6 hy4
  have hB3 := HB2.out.trans (hb3.mono HB2.out.size)
  have HB4 := Lib.hid (hB3.trans (hb4.mono hB3.size))
  have Hsp4 := Lib.hid ((Hsp2.out.below hb3).below hb4)
  have H := Lib.hid (HD.out _ (hB3.trans (hb4.mono hB3.size)))
  have Ht4 := Lib.hid ht4
  have Hz4 := Lib.hid hz4
  have Hy4 := Lib.hid hy4
  have Hx4 := Lib.hid hx4
  have Hzx := Lib.hid (Nat.lt_of_lt_of_le Hz2.out (Nat.le_trans hb3.size hb4.size))
  clear hb3 hx3 hy3 hb4 ht4 hz4 hy4 hx4 hB3 HD Hx2 Hy2 Hsp2
  go_wp2_with fail
  generalize w3.alloc (.cells #[.int .i64 ro, .int .i64 he, .int .i64 it] 48) = W4 at *
  refine H.out.mono ?_
  clear H
  rintro _ w5 ⟨rfl, hb5⟩
  clear y0 y1 y2 y3 y4 y5
  have hb6 := one_below w5 (.cells #[.int .i64 ro, .int .i64 he, .int .i64 it] 48)
  have hu6 := heap_alloc_new w5 (.cells #[.int .i64 ro, .int .i64 he, .int .i64 it] 48)
  have hz6 : w5.heap.size < (w5.alloc (.cells #[.int .i64 ro, .int .i64 he, .int .i64 it] 48)).heap.size := by simp
  have ht6 := (hb6.block _ (Nat.lt_of_lt_of_le Hz4.out hb5.size)).trans ((hb5.block _ Hz4.out).trans Ht4.out)
  have hx6 := (hb6.block _ (Nat.lt_of_lt_of_le Hzx.out hb5.size)).trans ((hb5.block _ Hzx.out).trans Hx4.out)
  have hy6 := (hb6.block _ (Nat.lt_of_lt_of_le (Nat.lt_trans Hz1.out Hzx.out) hb5.size)).trans ((hb5.block _ (Nat.lt_trans Hz1.out Hzx.out)).trans Hy4.out)
  have hB5 := HB4.out.trans (hb5.mono HB4.out.size)
  have HB6 := Lib.hid (hB5.trans (hb6.mono hB5.size))
  have Hsp6 := Lib.hid ((Hsp4.out.below hb5).below hb6)
  have Hx6 := Lib.hid hx6
  have Hy6 := Lib.hid hy6
  have Ht6 := Lib.hid ht6
  have Hu6 := Lib.hid hu6
  have Hz6 := Lib.hid hz6
  have Hzx6 := Lib.hid (Nat.lt_of_lt_of_le Hzx.out (Nat.le_trans hb5.size hb6.size))
  have Hzt6 := Lib.hid (Nat.lt_of_lt_of_le Hz4.out (Nat.le_trans hb5.size hb6.size))
  clear hb5 hb6 hu6 hz6 ht6 hx6 hy6 hB5
  go_wp2_with fail
  generalize w5.alloc (.cells #[.int .i64 ro, .int .i64 he, .int .i64 it] 48) = W6 at *
  have Hk := Lib.hid fun (w' : World) (h : Below W6.heap.size W6 w') => show w'.cell? ⟨w1.heap.size, 0, none⟩ = some (.int .i64 s.gen) ∧ w'.cell? ⟨w1.heap.size, 1, none⟩ = some (.int .i64 s.cf.blocks) ∧ w'.cell? ⟨w1.heap.size, 2, none⟩ = some (.int .i64 s.cf.clones) ∧ w'.cell? ⟨w1.heap.size, 3, none⟩ = some (.int .i64 s.cf.refs) ∧ w'.cell? ⟨w1.heap.size, 4, none⟩ = some (.int .i64 s.next) ∧ w'.cell? ⟨w1.heap.size, 5, none⟩ = some (.slice (some ⟨g, 0, none⟩) s.roots.length (s.roots.length + 2)) ∧ w'.cell? ⟨W.heap.size, 0, none⟩ = some (.int .i64 s.gen) ∧ w'.cell? ⟨W.heap.size, 1, none⟩ = some (.int .i64 s.cf.blocks) ∧ w'.cell? ⟨W.heap.size, 2, none⟩ = some (.int .i64 s.cf.clones) ∧ w'.cell? ⟨W.heap.size, 3, none⟩ = some (.int .i64 s.cf.refs) ∧ w'.cell? ⟨W.heap.size, 4, none⟩ = some (.int .i64 s.next) ∧ w'.cell? ⟨W.heap.size, 5, none⟩ = some (.slice a s.roots.length cap) ∧ w'.cell? ⟨w3.heap.size, 0, none⟩ = some (.int .i64 ro) ∧ w'.cell? ⟨w3.heap.size, 1, none⟩ = some (.int .i64 he) ∧ w'.cell? ⟨w3.heap.size, 2, none⟩ = some (.int .i64 it) ∧ w'.cell? ⟨w5.heap.size, 0, none⟩ = some (.int .i64 ro) ∧ w'.cell? ⟨w5.heap.size, 1, none⟩ = some (.int .i64 he) ∧ w'.cell? ⟨w5.heap.size, 2, none⟩ = some (.int .i64 it) ∧ Below W6.heap.size W6 w' from by
    obtain ⟨a0, a1, a2, a3, a4, a5, -⟩ := cells6 ((h.block _ Hzx6.out).trans Hx6.out)
    obtain ⟨b0, b1, b2, b3, b4, b5, -⟩ := cells6 ((h.block _ (Nat.lt_trans Hz1.out Hzx6.out)).trans Hy6.out)
    obtain ⟨c0, c1, c2, -⟩ := cells3 ((h.block _ Hzt6.out).trans Ht6.out)
    obtain ⟨d0, d1, d2, -⟩ := cells3 ((h.block _ Hz6.out).trans Hu6.out)
    exact ⟨a0, a1, a2, a3, a4, a5, b0, b1, b2, b3, b4, b5, c0, c1, c2, d0, d1, d2, h⟩
  have HA1 := Lib.hid fun (w' : World) (h : Below W6.heap.size W6 w') => HPC.out w' g (Hsp6.out.below h)
  have HA2 := Lib.hid fun (w' : World) (h : Below W6.heap.size W6 w') => HDC.out w' (HB6.out.trans (h.mono HB6.out.size))
  have HA3 := Lib.hid fun (w' : World) (h : Below W6.heap.size W6 w') => HK.out w' g (HB6.out.trans (h.mono HB6.out.size)) (Hsp6.out.below h)
  rw [spv_eq s (some ⟨g, 0, none⟩)] at HA1
  simp only [spv_eq s (some ⟨g, 0, none⟩)] at HA3
  clear HPC HDC HK hfo
  go_region_held3 (fun w' => w'.cell? ⟨w1.heap.size, 0, none⟩ = some (.int .i64 s.gen) ∧ w'.cell? ⟨w1.heap.size, 1, none⟩ = some (.int .i64 s.cf.blocks) ∧ w'.cell? ⟨w1.heap.size, 2, none⟩ = some (.int .i64 s.cf.clones) ∧ w'.cell? ⟨w1.heap.size, 3, none⟩ = some (.int .i64 s.cf.refs) ∧ w'.cell? ⟨w1.heap.size, 4, none⟩ = some (.int .i64 s.next) ∧ w'.cell? ⟨w1.heap.size, 5, none⟩ = some (.slice (some ⟨g, 0, none⟩) s.roots.length (s.roots.length + 2)) ∧ w'.cell? ⟨W.heap.size, 0, none⟩ = some (.int .i64 s.gen) ∧ w'.cell? ⟨W.heap.size, 1, none⟩ = some (.int .i64 s.cf.blocks) ∧ w'.cell? ⟨W.heap.size, 2, none⟩ = some (.int .i64 s.cf.clones) ∧ w'.cell? ⟨W.heap.size, 3, none⟩ = some (.int .i64 s.cf.refs) ∧ w'.cell? ⟨W.heap.size, 4, none⟩ = some (.int .i64 s.next) ∧ w'.cell? ⟨W.heap.size, 5, none⟩ = some (.slice a s.roots.length cap) ∧ w'.cell? ⟨w3.heap.size, 0, none⟩ = some (.int .i64 ro) ∧ w'.cell? ⟨w3.heap.size, 1, none⟩ = some (.int .i64 he) ∧ w'.cell? ⟨w3.heap.size, 2, none⟩ = some (.int .i64 it) ∧ w'.cell? ⟨w5.heap.size, 0, none⟩ = some (.int .i64 ro) ∧ w'.cell? ⟨w5.heap.size, 1, none⟩ = some (.int .i64 he) ∧ w'.cell? ⟨w5.heap.size, 2, none⟩ = some (.int .i64 it) ∧ Below W6.heap.size W6 w')
    (first
      | exact Hk.out _ (Below.drew (Below.refl _ _))
      | (refine Hk.out _ ?_; with_reducible assumption))
    (first
      | (go_at_call 28; go_split_ands; ((with_reducible refine (HA1.out _ (by with_reducible assumption)).mono ?_); rintro e v1 ⟨rfl, hc1⟩)
         have hbn : Below W6.heap.size W6 v1 := below_nextW (by with_reducible assumption) hc1)
      | (go_at_call 35; go_split_ands; ((with_reducible refine (HA2.out _ hbn).mono ?_); rintro e v2 ⟨rfl, hc2⟩)
         have hbn2 : Below W6.heap.size W6 v2 := below_nextW hbn hc2)
      | (go_at_call 22; go_split_ands; ((with_reducible refine (HA3.out _ hbn2).mono ?_); rintro e v3 ⟨rfl, hc3⟩)
         have hbn3 : Below W6.heap.size W6 v3 := below_nextW hbn2 hc3)
      | (go_at_call 17; go_split_ands; ((with_reducible refine (works_any _).mono ?_); rintro e v4 ⟨rfl, hc4⟩)
         have hbn4 : Below W6.heap.size W6 v4 := below_nextW hbn3 hc4))
  have HBF := Lib.hid (HB6.out.trans (hbn4.mono HB6.out.size))
  clear hbn hbn2 hbn3 hbn4 hc1 hc2 hc3 hc4
  go_wp2_with fail
  go_ret
  exact ⟨rfl, HBF.out⟩
end Go.Proofs.Ythkopgmkdenebaa
