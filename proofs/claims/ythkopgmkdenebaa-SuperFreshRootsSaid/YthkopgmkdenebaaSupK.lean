/- The walks of the document's Encode, and of kept of chapter 9. -/
import Derived.Test.YthkopgmkdenebaaSupN
import Derived.Test.YthkopgmkdenebaaSWReturns
namespace Go.Proofs.Ythkopgmkdenebaa
open Go.RowKit
set_option linter.unusedVariables false
set_option maxRecDepth 100000

set_option maxHeartbeats 1000000 in
theorem dEncode_any (s : SP) (a : Option Addr) (cap : Nat) (w : World) (B : Nat) (hB : B ≤ w.heap.size) (hs : SpAt B w s a cap) :
    Calls Try.prog 20 #[spv s a cap] w (Enc s w) := by
  have HC := Lib.hid fun w' (hb : Below w.heap.size w w') => dCheck_any s a cap w' B (Nat.le_trans hB hb.size) (hs.below (hb.mono hB))
  have hle := scheck_le s
  have hg := heap_alloc_new w (sBox s.gen s.cf.blocks s.cf.clones s.cf.refs s.next a s.roots.length cap)
  have hz : w.heap.size < (w.alloc (sBox s.gen s.cf.blocks s.cf.clones s.cf.refs s.next a s.roots.length cap)).heap.size := by simp
  have hb := one_below w (sBox s.gen s.cf.blocks s.cf.clones s.cf.refs s.next a s.roots.length cap)
  have Hg := Lib.hid hg
  have Hz := Lib.hid hz
  have HB := Lib.hid hb
  unfold sBox at Hg Hz HB
  unfold Checked at HC
  clear hg hz hb
  by_cases h0 : scheck s = 0
  · have HL := Lib.hid fun w' (hb : Below w.heap.size w w') => dLaid_any s (scheck_ok.1 h0) a cap w' B (Nat.le_trans hB hb.size) (hs.below (hb.mono hB))
    have he : encB s = laid s := by rw [encB, if_pos h0]
    have hl := laid_length (scheck_ok.1 h0)
    have HF := Lib.hid fun (oa : Option Addr) (oc : Nat) w' (h1 : OB w' oa oc (laid s)) (h2 : ∀ k, blk oa = some k → w.heap.size ≤ k) (h3 : Below w.heap.size w w') => (show Enc s w (.returned (.tuple #[.slice oa 512 oc, .int .i64 0])) w' from ⟨oa, oc, by rw [he, hl, h0]; rfl, by rw [he]; exact h1, h2, h3⟩)
    rw [h0] at HC
    unfold LaidB at HL
    unfold spv at *
    clear h0 he hl hs
    go_enter Try.func20, Try.ntmps20
    go_wp2_with fail
    generalize w.alloc (.cells #[.int .i64 s.gen, .int .i64 s.cf.blocks, .int .i64 s.cf.clones, .int .i64 s.cf.refs, .int .i64 s.next, .slice a s.roots.length cap] 33) = W1 at *
    refine (HC.out _ HB.out).mono ?_
    rintro _ w2 ⟨rfl, hb2⟩
    have hb2' := HB.out.trans (hb2.mono HB.out.size)
    obtain ⟨y0, y1, y2, y3, y4, y5, -⟩ := cells6 ((hb2.block _ Hz.out).trans Hg.out)
    have H := Lib.hid (HL.out _ hb2')
    have HB2 := Lib.hid hb2'
    clear hb2 hb2' HC HL
    go_wp2_with fail
    refine H.out.mono ?_
    clear H
    rintro _ w3 ⟨oa, oc, rfl, hO, hof, hb3⟩
    have HF3 := Lib.hid (HF.out oa oc w3 hO (fun k hk => Nat.le_trans HB2.out.size (hof k hk)) (HB2.out.trans (hb3.mono HB2.out.size)))
    clear hO hof hb3 HF
    go_wp2_with fail
    go_ret2
    exact HF3.out
  · have he : encB s = [] := by rw [encB, if_neg h0]
    have hne : ((scheck s : Int) != 0) = true := by rw [bne_iff_ne]; omega
    have HF := Lib.hid fun w' (h3 : Below w.heap.size w w') => (show Enc s w (.returned (.tuple #[.slice none 0 0, .int .i64 (scheck s : Int)])) w' from ⟨none, 0, by rw [he]; rfl, by rw [he]; exact OB.nil _, (fun k hk => by cases hk), h3⟩)
    generalize scheck s = sc at *
    unfold spv at *
    clear h0 he hs
    go_enter Try.func20, Try.ntmps20
    go_wp2_with fail
    refine (HC.out _ HB.out).mono ?_
    rintro _ w2 ⟨rfl, hb2⟩
    have HF2 := Lib.hid (HF.out w2 (HB.out.trans (hb2.mono HB.out.size)))
    clear hb2 HF
    go_wp2_with fail
    go_ret2
    exact HF2.out

def RelK (W : World) (n : Nat) (i : Value) (wr : World) : Prop := ∃ k d : Nat, n ≤ k ∧ k ≤ n + 2 ∧ i = .int .i64 k ∧ wr = W.drewN d

set_option maxHeartbeats 2000000 in
theorem keptS_any (s : SP) (g : Nat) (a : Option Addr) (cap : Nat) (w : World) (hg : SparedR w g s) (hs : SpAt w.heap.size w s a cap) (hl : s.roots.length ≤ 4398046511000) :
    Calls Try.prog 22 #[spv s (some ⟨g, 0, none⟩) (s.roots.length + 2), spv s a cap] w fun e w' => e = .returned (.bool true) ∧ Below w.heap.size w w' := by
  have HQ := Lib.hid fun w' (h : Below w.heap.size w w') => eqSuper_any s s (some ⟨g, 0, none⟩) a (s.roots.length + 2) cap w.heap.size w' h.size ((hg.sp hs).below h) (hs.below h)
  rw [show decide (s = s) = true by simp] at HQ
  have Hg := Lib.hid hg
  have hb1 := two_below w (sBox s.gen s.cf.blocks s.cf.clones s.cf.refs s.next (some ⟨g, 0, none⟩) s.roots.length (s.roots.length + 2)) (sBox s.gen s.cf.blocks s.cf.clones s.cf.refs s.next a s.roots.length cap)
  have hx1 := heap_alloc_new (w.alloc (sBox s.gen s.cf.blocks s.cf.clones s.cf.refs s.next (some ⟨g, 0, none⟩) s.roots.length (s.roots.length + 2))) (sBox s.gen s.cf.blocks s.cf.clones s.cf.refs s.next a s.roots.length cap)
  have hsz1 : (w.alloc (sBox s.gen s.cf.blocks s.cf.clones s.cf.refs s.next (some ⟨g, 0, none⟩) s.roots.length (s.roots.length + 2))).heap.size = w.heap.size + 1 := by simp
  rw [hsz1] at hx1
  have hy1 : ((w.alloc (sBox s.gen s.cf.blocks s.cf.clones s.cf.refs s.next (some ⟨g, 0, none⟩) s.roots.length (s.roots.length + 2))).alloc (sBox s.gen s.cf.blocks s.cf.clones s.cf.refs s.next a s.roots.length cap)).heap[w.heap.size]? = some (sBox s.gen s.cf.blocks s.cf.clones s.cf.refs s.next (some ⟨g, 0, none⟩) s.roots.length (s.roots.length + 2)) := (heap_alloc_old _ _ (by simp)).trans (heap_alloc_new w _)
  have hz1 : w.heap.size + 1 < ((w.alloc (sBox s.gen s.cf.blocks s.cf.clones s.cf.refs s.next (some ⟨g, 0, none⟩) s.roots.length (s.roots.length + 2))).alloc (sBox s.gen s.cf.blocks s.cf.clones s.cf.refs s.next a s.roots.length cap)).heap.size := by simp
  unfold spv at *
  unfold sBox at hb1 hx1 hy1 hz1
  generalize hnl : s.roots.length = n at *
  have Hnl := Lib.hid hnl
  have HB1 := Lib.hid hb1
  have HX1 := Lib.hid hx1
  have HY1 := Lib.hid hy1
  have Hz1 := Lib.hid hz1
  clear hg hs hb1 hx1 hsz1 hy1 hnl hz1
  go_enter Try.func22, Try.ntmps22
  go_wp2_with fail
  refine (HQ.out _ HB1.out).mono ?_
  rintro _ w2 ⟨rfl, hb2⟩
  obtain ⟨y0, y1, y2, y3, y4, y5, -⟩ := cells6 ((hb2.block _ (Nat.lt_of_succ_lt Hz1.out)).trans HY1.out)
  obtain ⟨x0, x1, x2, x3, x4, x5, -⟩ := cells6 ((hb2.block _ Hz1.out).trans HX1.out)
  have HB2 := Lib.hid (HB1.out.trans (hb2.mono HB1.out.size))
  have Hg2 := Lib.hid (show SparedR w2 g s from OR.chg (F := fun _ => False) Hg.out (Chg.of_below HB2.out) (fun _ _ f => f))
  clear hb2 HQ
  have hc1 : (0 : Int) ≤ (n : Int) + 2 := by omega
  go_wp2_with fail
  go_loopw [6] (fun i wr => RelK w2 n i wr) (fun i _ => n + 2 - (intOf i).toNat)
  case atStart => exact ⟨n, 0, Nat.le_refl _, by omega, rfl, (World.drewN_zero _).symm⟩
  case round =>
    obtain ⟨k, d, hk, hk2, rfl, hw⟩ := hrel
    have Hw := Lib.hid hw
    by_cases hlt : k < n + 2
    · have hmx : (markedR s.roots)[k]? = some (markR k) := by
        rw [markedR, List.getElem?_append_right (by rw [Hnl.out]; omega), Hnl.out]
        rcases (by omega : k = n ∨ k = n + 1) with rfl | rfl
        · simp
        · simp
      obtain ⟨m0, m1, m2, m3⟩ := cellsR_get hmx
      have hOw : OR eRt wr (some ⟨g, 0, none⟩) (s.roots.length + 2) (s.roots.length + 2) (cellsR (markedR s.roots)) := by
        rw [hw]; exact OR.chg (F := fun _ => False) Hg2.out ((Chg.refl _ _).drewN d) (fun _ _ f => f)
      obtain ⟨_, e0, k0, f0⟩ := OR.cell hOw m0
      obtain ⟨_, e1, k1, f1⟩ := OR.cell hOw m1
      obtain ⟨_, e2, k2, f2⟩ := OR.cell hOw m2
      obtain ⟨_, e3, k3, f3⟩ := OR.cell hOw m3
      cases e0; cases e1; cases e2; cases e3
      simp only [markR] at k0 k1 k2 k3
      clear m0 m1 m2 m3 hOw hmx hw f0 f1 f2 f3
      go_wp2_with fail
      exact ⟨⟨k + 1, d, by omega, by omega, by go_num, Hw.out⟩, by simp [intOf]; omega⟩
    · clear hw
      go_wp2_with fail
      go_ret
      exact ⟨rfl, by rw [Hw.out]; exact below_drewN HB2.out _⟩
end Go.Proofs.Ythkopgmkdenebaa
