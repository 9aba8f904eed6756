/- The walk of SuperEncodes. -/
import Derived.Test.YthkopgmkdenebaaSupK
namespace Go.Proofs.Ythkopgmkdenebaa
open Go.RowKit
set_option linter.unusedVariables false
set_option maxRecDepth 100000

theorem spv_eq (s : SP) (a : Option Addr) (cap : Nat) : spv s a cap = .agg #[.int .i64 s.gen, .int .i64 s.cf.blocks, .int .i64 s.cf.clones, .int .i64 s.cf.refs, .int .i64 s.next, .slice a s.roots.length cap] := rfl
theorem SparedR.chg {F : Nat → Prop} {w w' : World} {g : Nat} {s : SP} (h : SparedR w g s) (hc : Chg F w w') (hn : ¬ F g) : SparedR w' g s := OR.chg h hc (fun k hk f => hn (by have h2 : g = k := Option.some.inj hk; exact h2 ▸ f))
theorem SparedR.below {w w' : World} {g : Nat} {s : SP} (h : SparedR w g s) (hb : Below w.heap.size w w') : SparedR w' g s := h.chg (F := fun _ => False) (Chg.of_below hb) (fun f => f)

set_option maxHeartbeats 4000000 in
theorem superEncodes_walk (s : SP) (a : Option Addr) (cap : Nat) (W : World) (hs : SpAt W.heap.size W s a cap ∧ s.roots.length ≤ 4398046511000) :
    Calls Try.prog 5 #[spv s a cap] W fun e w' => e = .returned (.bool true) ∧ Below W.heap.size W w' := by
  obtain ⟨hs, hl⟩ := hs
  have HS := Lib.hid fun w' (h : Below W.heap.size W w') => spareS_any s a cap w' W.heap.size h.size (hs.below h) hl
  have HD := Lib.hid fun w' (h : Below W.heap.size W w') => dEncode_any s a cap w' W.heap.size h.size (hs.below h)
  have HK := Lib.hid fun w' g (h : Below W.heap.size W w') (hg : SparedR w' g s) => keptS_any s g a cap w' hg ((hs.below h).mono h.size) hl
  have HE := Lib.hid fun w' g (hg : SparedR w' g s) => encode_any s (some ⟨g, 0, none⟩) (s.roots.length + 2) w' _ (Nat.le_refl _) (hg.sp hs)
  have hv : spv s a cap = .agg #[.int .i64 s.gen, .int .i64 s.cf.blocks, .int .i64 s.cf.clones, .int .i64 s.cf.refs, .int .i64 s.next, .slice a s.roots.length cap] := rfl
  rw [hv] at HS HD HK ⊢
  clear hv hs
  have HB0 := Lib.hid (one_below W (sBox s.gen s.cf.blocks s.cf.clones s.cf.refs s.next a s.roots.length cap))
  have Hg0 := Lib.hid (heap_alloc_new W (sBox s.gen s.cf.blocks s.cf.clones s.cf.refs s.next a s.roots.length cap))
  unfold sBox at HB0 Hg0
  go_enter Try.func5, Try.ntmps5
  go_wp2_with fail
  generalize W.alloc (.cells #[.int .i64 s.gen, .int .i64 s.cf.blocks, .int .i64 s.cf.clones, .int .i64 s.cf.refs, .int .i64 s.next, .slice a s.roots.length cap] 33) = W0 at HB0 Hg0 ⊢
  have hz0 : W.heap.size < W0.heap.size := lt_of_heap Hg0.out
  refine (HS.out _ HB0.out).mono ?_
  rintro _ w1 ⟨g, rfl, hsp, hgf, hb1⟩
  rw [spv_eq s (some ⟨g, 0, none⟩)]
  -- the box of x
  have hb2 := one_below w1 (sBox s.gen s.cf.blocks s.cf.clones s.cf.refs s.next (some ⟨g, 0, none⟩) s.roots.length (s.roots.length + 2))
  have hx2 := heap_alloc_new w1 (sBox s.gen s.cf.blocks s.cf.clones s.cf.refs s.next (some ⟨g, 0, none⟩) s.roots.length (s.roots.length + 2))
  have hz2 : w1.heap.size < (w1.alloc (sBox s.gen s.cf.blocks s.cf.clones s.cf.refs s.next (some ⟨g, 0, none⟩) s.roots.length (s.roots.length + 2))).heap.size := by simp
  have hy2 := (hb2.block _ (Nat.lt_of_lt_of_le hz0 hb1.size)).trans ((hb1.block _ hz0).trans Hg0.out)
  have H := Lib.hid (HE.out _ g (hsp.below hb2))
  rw [spv_eq s (some ⟨g, 0, none⟩)] at H
  have hB1 := HB0.out.trans (hb1.mono HB0.out.size)
  have HB2 := Lib.hid (hB1.trans (hb2.mono hB1.size))
  have Hsp2 := Lib.hid (hsp.below hb2)
  have Hx2 := Lib.hid hx2
  have Hy2 := Lib.hid hy2
  have Hz2 := Lib.hid hz2
  have Hz1 := Lib.hid (Nat.lt_of_lt_of_le hz0 hb1.size)
  unfold sBox at H HB2 Hsp2 Hx2 Hy2 Hz2
  clear hsp hgf hb1 hb2 hx2 hz2 hy2 hB1 HE HS Hg0 HB0
  go_wp2_with fail
  generalize w1.alloc (.cells #[.int .i64 s.gen, .int .i64 s.cf.blocks, .int .i64 s.cf.clones, .int .i64 s.cf.refs, .int .i64 s.next, .slice (some ⟨g, 0, none⟩) s.roots.length (s.roots.length + 2)] 33) = W2 at *
  refine H.out.mono ?_
  clear H
  rintro _ w3 ⟨ea, ec, rfl, hE, hef, hb3⟩
  have hzw : W.heap.size < W2.heap.size := Nat.lt_trans Hz1.out Hz2.out
  have Hx3 := Lib.hid ((hb3.block _ Hz2.out).trans Hx2.out)
  have hy3 := (hb3.block _ hzw).trans Hy2.out
  obtain ⟨y0, y1, y2, y3, y4, y5, -⟩ := cells6 hy3
  have HB3 := Lib.hid (HB2.out.trans (hb3.mono HB2.out.size))
  have H := Lib.hid (HD.out _ HB3.out)
  have HE3 := Lib.hid hE
  have Hsp3 := Lib.hid (Hsp2.out.below hb3)
  have Hy3 := Lib.hid hy3
  have Hz3 := Lib.hid (Nat.lt_of_lt_of_le Hz2.out hb3.size)
  clear hE hef hb3 hy3 HD Hx2 Hy2
  go_wp2_with fail
  refine H.out.mono ?_
  clear H
  rintro _ w4 ⟨ca, cc, rfl, hC, hcf, hb4⟩
  have HB4 := Lib.hid (HB3.out.trans (hb4.mono HB3.out.size))
  have Hx4 := Lib.hid ((hb4.block _ Hz3.out).trans Hx3.out)
  have Hy4 := Lib.hid ((hb4.block _ (Nat.lt_trans Hz1.out Hz3.out)).trans Hy3.out)
  have Hsp4 := Lib.hid (Hsp3.out.below hb4)
  have Hz4 := Lib.hid (Nat.lt_of_lt_of_le Hz3.out hb4.size)
  have hel : (encB s).length ≤ 512 := by
    unfold encB; split
    · rename_i h; rw [laid_length (scheck_ok.1 h)]; exact Nat.le_refl _
    · simp
  have H := Lib.hid (eqBytes_any (encB s) (encB s) ea ca ec cc (by omega) (by omega) w4 (HE3.out.below hb4).bts hC.bts)
  unfold Same at H
  rw [show decide (encB s = encB s) = true by simp] at H
  have hle := scheck_le s
  generalize (encB s).length = el at *
  generalize scheck s = sc at *
  clear hC hcf hb4 y0 y1 y2 y3 y4 y5 HE3 Hsp3 Hx3 Hy3
  go_wp2_with fail
  refine H.out.mono ?_
  clear H
  rintro _ w5 ⟨rfl, hb5⟩
  have HB5 := Lib.hid (HB4.out.trans (hb5.mono HB4.out.size))
  obtain ⟨x0, x1, x2, x3, x4, x5, -⟩ := cells6 ((hb5.block _ Hz4.out).trans Hx4.out)
  obtain ⟨y0, y1, y2, y3, y4, y5, -⟩ := cells6 ((hb5.block _ (Nat.lt_trans Hz1.out Hz4.out)).trans Hy4.out)
  have H := Lib.hid (HK.out _ g HB5.out (Hsp4.out.below hb5))
  rw [spv_eq s (some ⟨g, 0, none⟩)] at H
  clear hb5 HK
  go_wp2_with fail
  refine H.out.mono ?_
  clear H
  rintro _ w6 ⟨rfl, hb6⟩
  have HB6 := Lib.hid (HB5.out.trans (hb6.mono HB5.out.size))
  clear hb6 x0 x1 x2 x3 x4 x5 y0 y1 y2 y3 y4 y5
  go_wp2_with fail
  refine (works_any _).mono ?_
  rintro _ w7 ⟨rfl, hb7⟩
  have HB7 := Lib.hid (HB6.out.trans (hb7.mono HB6.out.size))
  clear hb7
  go_wp2_with fail
  go_ret
  exact ⟨rfl, HB7.out⟩
end Go.Proofs.Ythkopgmkdenebaa
