/- The walks of small and works of chapter 9. -/
import Derived.Test.YthkopgmkdenebaaSupX
namespace Go.Proofs.Ythkopgmkdenebaa
open Go.RowKit
set_option linter.unusedVariables false
set_option maxRecDepth 100000

def smallS : SP := ⟨3, ⟨8, 1, 2⟩, 2, [⟨1, 4, 1, 2⟩]⟩
theorem small_right : scheck smallS = 0 := by decide
instance (x : Int) : Decidable (i64ok x) := inferInstanceAs (Decidable (_ ∧ _))
/-- a superblock in new memory -/
def NewS (s : SP) (w : World) (e : Ending) (w' : World) : Prop := ∃ oa cap, e = .returned (spv s oa cap) ∧ SpAt w'.heap.size w' s oa cap ∧ Below w.heap.size w w'

theorem small_any (w : World) : Calls Try.prog 45 #[] w (NewS smallS w) := by
  go_enter Try.func45, Try.ntmps45
  go_wp2_with fail
  refine bodyPost_ret (v := .agg #[.int .i64 3, .int .i64 8, .int .i64 1, .int .i64 2, .int .i64 2, .slice (some ⟨w.heap.size + 1, 0, none⟩) 1 1]) (by simp [results, Try.results45, go_sem]) rfl ?_
  refine ⟨some ⟨w.heap.size + 1, 0, none⟩, 1, rfl, ⟨?_, ?_, (by decide), (fun e => by cases e), (by decide), (by decide), (by decide), (by decide), (by decide)⟩, two_below w _ _⟩
  · have h := heap_alloc_new (w.alloc (.cells #[.int .i64 3, .int .i64 8, .int .i64 1, .int .i64 2, .int .i64 2, .slice (some ⟨w.heap.size + 1, 0, none⟩) 1 1] 33)) (.cells #[.int .i64 1, .int .i64 4, .int .i64 1, .int .i64 2] 50)
    have hz : (w.alloc (.cells #[.int .i64 3, .int .i64 8, .int .i64 1, .int .i64 2, .int .i64 2, .slice (some ⟨w.heap.size + 1, 0, none⟩) 1 1] 33)).heap.size = w.heap.size + 1 := by simp
    rw [hz] at h
    obtain ⟨h0, h1, h2, h3, -⟩ := cells4 h
    refine .inr ⟨w.heap.size + 1, 0, rfl, by simp, fun i x hi => ?_⟩
    match i, hi with
    | 0, hi => cases hi; exact ⟨h0, h1, h2, h3⟩
  · intro x hx
    simp [smallS] at hx
    subst hx
    exact ⟨by decide, by decide, by decide, by decide⟩
theorem Right.sp {s : SP} {w : World} {oa : Option Addr} {cap : Nat} (h : Right s) (ho : ORt w oa cap s.roots) : SpAt w.heap.size w s oa cap := by
  obtain ⟨⟨g1, g2⟩, ⟨g3, g4⟩, g5⟩ := h.num
  obtain ⟨⟨m1, m2⟩, ⟨m3, m4⟩, ⟨m5, m6⟩⟩ := h.may
  have hl := h.len
  refine ⟨ho.rts, fun x hx => ?_, by omega, ho.nilcap, ?_, ?_, ?_, ?_, ?_⟩
  · obtain ⟨i, hi⟩ := List.getElem?_of_mem hx
    have := h.root hi
    unfold RT.ok i64ok
    omega
  all_goals (unfold i64ok; omega)
theorem below_nextW {W w' w1 : World} (h : Below W.heap.size W w') (h1 : Below w'.heap.size w' w1) : Below W.heap.size W w1 := h.trans (h1.mono h.size)
theorem laid_head (s : SP) : ∃ r, laid s = headB s ++ r := ⟨rootsB s.roots ++ (List.replicate (508 - (bodyB s).length) 0 ++ leb 4 (Crc.ofs (fullB (bodyB s)))), by simp only [laid, summed, fullB, bodyB, List.append_assoc]⟩
theorem small_0 : (laid smallS).getD 0 0 = 67 := by
  obtain ⟨r, hr⟩ := laid_head smallS
  rw [hr]; rfl
theorem small_4 : (laid smallS).getD 4 0 = 3 := by
  obtain ⟨r, hr⟩ := laid_head smallS
  rw [hr]; rfl
theorem plan247 : planned ⟨247, 1, 2⟩ = .returned (.tuple #[.agg #[.int .i64 241, .int .i64 2, .int .i64 6], .int .i64 0]) := by
  rw [planned, if_pos (by decide)]
  have h : CF.pages ⟨247, 1, 2⟩ = 241 := by decide
  rw [h]; rfl

set_option maxHeartbeats 2000000 in
theorem works_any (w : World) : Calls Try.prog 17 #[] w fun e w' => e = .returned (.bool true) ∧ Below w.heap.size w w' := by
  have HP := Lib.hid fun w => plan_any ⟨247, 1, 2⟩ (by decide) (by decide) (by decide) w
  rw [plan247] at HP
  have hR := scheck_ok.1 small_right
  have HE := Lib.hid fun w' a cap (h : SpAt w'.heap.size w' smallS a cap) => encode_any smallS a cap w' _ (Nat.le_refl _) h
  have he : encB smallS = laid smallS := by rw [encB, if_pos small_right]
  have hl := laid_length hR
  have h0 := small_0
  have h4 := small_4
  have HQ := Lib.hid fun w' a b ca cb (h1 : SpAt w'.heap.size w' smallS a ca) (h2 : SpAt w'.heap.size w' smallS b cb) => eqSuper_any smallS smallS a b ca cb _ w' (Nat.le_refl _) h1 h2
  rw [show decide (smallS = smallS) = true by simp] at HQ
  have HD := Lib.hid fun w' a cap (hb : Bts w' a (laid smallS)) (hc : (laid smallS).length ≤ cap) => decode_any (laid smallS) a cap w' hb hc (by omega)
  rw [sdec_laid hR] at HD
  unfold Enc at HE
  rw [he, small_right] at HE
  rw [hl] at HE HD
  generalize laid smallS = L at HE HD h0 h4 hl
  have HB := Lib.hid hl
  go_enter Try.func17, Try.ntmps17
  go_wp2_with fail
  refine (HP.out _).mono ?_
  rintro _ w1 ⟨rfl, hb1⟩
  go_wp2_with fail
  have hB2 := ((Below.refl w.heap.size w).trans hb1).alloc hb1.size (.cells #[.int .i64 241, .int .i64 2, .int .i64 6] 26)
  generalize w1.alloc (.cells #[.int .i64 241, .int .i64 2, .int .i64 6] 26) = w2 at hB2
  refine (small_any _).mono ?_
  rintro _ w3 ⟨oa, oc, rfl, hs3, hb3⟩
  have hB3 := hB2.trans (hb3.mono hB2.size)
  have H := Lib.hid (HE.out w3 oa oc hs3)
  have HB3 := Lib.hid hB3
  clear hb3 hs3 hB3 HE
  go_wp2_with fail
  refine H.out.mono ?_
  clear H
  rintro _ w4 ⟨ea, ec, rfl, hE, -, hb4⟩
  have hB4 := HB3.out.trans (hb4.mono HB3.out.size)
  obtain ⟨g, rfl⟩ := hE.pos (by rw [hl]; decide)
  obtain ⟨c0, -⟩ := hE.cell (i := 0) (by rw [hl]; decide)
  obtain ⟨c4, -⟩ := hE.cell (i := 4) (by rw [hl]; decide)
  rw [h0] at c0
  rw [h4] at c4
  have e0 : ((67 : UInt8).toNat : Int) = 67 := rfl
  have e4 : ((3 : UInt8).toNat : Int) = 3 := rfl
  rw [e0] at c0
  rw [e4] at c4
  have hcp := hE.cap
  rw [hl] at hcp
  have H := Lib.hid (HD.out w4 (some ⟨g, 0, none⟩) ec hE.bts hcp.1)
  have hc1 : (512 : Int) ≤ (ec : Int) := by omega
  have HB4 := Lib.hid hB4
  clear hb4 hE hB4 HD h0 h4 hcp e0 e4
  go_wp2_with fail
  refine H.out.mono ?_
  clear H
  rintro _ w5 ⟨da, dc, rfl, hO, -, hb5⟩
  have hB5 := HB4.out.trans (hb5.mono HB4.out.size)
  have hs5 := hR.sp hO
  have hsv : spv smallS da dc = .agg #[.int .i64 3, .int .i64 8, .int .i64 1, .int .i64 2, .int .i64 2, .slice da 1 dc] := rfl
  rw [hsv]
  have hb6 := one_below w5 (.cells #[.int .i64 3, .int .i64 8, .int .i64 1, .int .i64 2, .int .i64 2, .slice da 1 dc] 33)
  have Hs6 := Lib.hid (hs5.below hb6)
  have HB6 := Lib.hid (hB5.trans (hb6.mono hB5.size))
  have Hz6 := Lib.hid hb6.size
  have Hsv := Lib.hid hsv
  clear hb5 hO hB5 hs5 hsv hb6
  go_wp2_with fail
  have hg6 := heap_alloc_new w5 (.cells #[.int .i64 3, .int .i64 8, .int .i64 1, .int .i64 2, .int .i64 2, .slice da 1 dc] 33)
  have hz6 : w5.heap.size < (w5.alloc (.cells #[.int .i64 3, .int .i64 8, .int .i64 1, .int .i64 2, .int .i64 2, .slice da 1 dc] 33)).heap.size := by simp
  generalize w5.alloc (.cells #[.int .i64 3, .int .i64 8, .int .i64 1, .int .i64 2, .int .i64 2, .slice da 1 dc] 33) = W6 at hg6 hz6 Hs6 HB6 Hz6 ⊢
  have Hk := Lib.hid fun (w' : World) (h : Below W6.heap.size W6 w') => show w'.cell? ⟨w5.heap.size, 0, none⟩ = some (.int .i64 3) ∧ w'.cell? ⟨w5.heap.size, 1, none⟩ = some (.int .i64 8) ∧ w'.cell? ⟨w5.heap.size, 2, none⟩ = some (.int .i64 1) ∧ w'.cell? ⟨w5.heap.size, 3, none⟩ = some (.int .i64 2) ∧ w'.cell? ⟨w5.heap.size, 4, none⟩ = some (.int .i64 2) ∧ w'.cell? ⟨w5.heap.size, 5, none⟩ = some (.slice da 1 dc) ∧ Below W6.heap.size W6 w' from by
    obtain ⟨y0, y1, y2, y3, y4, y5, -⟩ := cells6 ((h.block w5.heap.size hz6).trans hg6)
    exact ⟨y0, y1, y2, y3, y4, y5, h⟩
  have HQ2 := Lib.hid fun (w7 : World) (h : Below W6.heap.size W6 w7) oa7 oc7 (h7 : SpAt w7.heap.size w7 smallS oa7 oc7) => HQ.out w7 da oa7 dc oc7 (((Hs6.out.mono Hz6.out).below h).mono h.size) h7
  rw [Hsv.out] at HQ2
  clear hg6 hz6 HQ
  go_region_held3 (fun w' => w'.cell? ⟨w5.heap.size, 0, none⟩ = some (.int .i64 3) ∧ w'.cell? ⟨w5.heap.size, 1, none⟩ = some (.int .i64 8) ∧ w'.cell? ⟨w5.heap.size, 2, none⟩ = some (.int .i64 1) ∧ w'.cell? ⟨w5.heap.size, 3, none⟩ = some (.int .i64 2) ∧ w'.cell? ⟨w5.heap.size, 4, none⟩ = some (.int .i64 2) ∧ w'.cell? ⟨w5.heap.size, 5, none⟩ = some (.slice da 1 dc) ∧ Below W6.heap.size W6 w')
    (first
      | exact Hk.out _ (Below.drew (Below.refl _ _))
      | (refine Hk.out _ ?_; with_reducible assumption))
    (first
      | (go_at_call 45; go_split_ands; ((with_reducible refine (small_any _).mono ?_); rintro e w7 ⟨oa7, oc7, rfl, hs7, hb7⟩)
         have hbn : Below W6.heap.size W6 w7 := below_nextW (by with_reducible assumption) hb7)
      | (go_at_call 26; go_split_ands; ((with_reducible refine (HQ2.out _ hbn _ _ hs7).mono ?_); rintro e w8 ⟨rfl, hb8⟩)
         have hbn2 : Below W6.heap.size W6 w8 := below_nextW hbn hb8))
  have HB8 := Lib.hid (HB6.out.trans (hbn2.mono HB6.out.size))
  clear hbn hbn2 hb7 hb8 hs7
  go_wp2_with fail
  go_ret
  exact ⟨rfl, HB8.out⟩
end Go.Proofs.Ythkopgmkdenebaa
