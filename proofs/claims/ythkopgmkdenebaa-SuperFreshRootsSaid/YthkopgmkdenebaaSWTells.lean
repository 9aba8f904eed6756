/- The walk of SuperTells. -/
import Derived.Test.YthkopgmkdenebaaSWReturns
namespace Go.Proofs.Ythkopgmkdenebaa
open Go.RowKit
set_option linter.unusedVariables false
set_option maxRecDepth 100000

theorem zeroS_sp (w : World) (B : Nat) : SpAt B w zeroS none 0 :=
  ⟨.inl rfl, (fun x hx => by simp [zeroS] at hx), by decide, (fun _ => rfl), by decide, by decide, by decide, by decide, by decide⟩

set_option maxHeartbeats 4000000 in
theorem superTells_walk (s : SP) (a : Option Addr) (cap : Nat) (at' : Int) (x : Int) (W : World) (hs : SpAt W.heap.size W s a cap ∧ s.roots.length ≤ 4398046511000) (hat : (Lit.int .i64 at').wf = true) (hx : (Lit.int .u8 x).wf = true) :
    Calls Try.prog 9 #[spv s a cap, .int .i64 at', .int .u8 x] W fun e w' => e = .returned (.bool true) ∧ Below W.heap.size W w' := by
  obtain ⟨hs, hl⟩ := hs
  have hat := i64_le hat
  obtain ⟨x, rfl⟩ : ∃ b : UInt8, x = ((b.toNat : Nat) : Int) := ⟨UInt8.ofNat x.toNat, (u8_back hx).symm⟩
  have HS := Lib.hid fun w' (h : Below W.heap.size W w') => spareS_any s a cap w' W.heap.size h.size (hs.below h) hl
  have Hs := Lib.hid hs
  clear hs hl
  have hv : spv s a cap = .agg #[.int .i64 s.gen, .int .i64 s.cf.blocks, .int .i64 s.cf.clones, .int .i64 s.cf.refs, .int .i64 s.next, .slice a s.roots.length cap] := rfl
  rw [hv] at HS ⊢
  clear hv
  have HB0 := Lib.hid (one_below W (sBox s.gen s.cf.blocks s.cf.clones s.cf.refs s.next a s.roots.length cap))
  have Hg0 := Lib.hid (heap_alloc_new W (sBox s.gen s.cf.blocks s.cf.clones s.cf.refs s.next a s.roots.length cap))
  unfold sBox at HB0 Hg0
  go_enter Try.func9, Try.ntmps9
  go_wp2_with fail
  generalize W.alloc (.cells #[.int .i64 s.gen, .int .i64 s.cf.blocks, .int .i64 s.cf.clones, .int .i64 s.cf.refs, .int .i64 s.next, .slice a s.roots.length cap] 33) = W0 at HB0 Hg0 ⊢
  have hz0 : W.heap.size < W0.heap.size := lt_of_heap Hg0.out
  refine (works_any _).mono ?_
  rintro _ w1 ⟨rfl, hb1⟩
  have hB1 := HB0.out.trans (hb1.mono HB0.out.size)
  have hg1 := (hb1.block _ hz0).trans Hg0.out
  obtain ⟨y0, y1, y2, y3, y4, y5, -⟩ := cells6 hg1
  have H := Lib.hid (HS.out _ hB1)
  have HB1 := Lib.hid hB1
  clear hb1 hB1 hg1 Hg0 HB0 HS
  go_wp2_with fail
  refine H.out.mono ?_
  clear H
  rintro _ w2 ⟨g, rfl, hsp, hgf, hb2⟩
  have hsp2 := hsp.sp Hs.out
  have H := Lib.hid (encode_any s _ _ w2 _ (Nat.le_refl _) hsp2)
  have HB2 := Lib.hid (HB1.out.trans (hb2.mono HB1.out.size))
  clear hb2 hsp hsp2 hgf y0 y1 y2 y3 y4 y5
  go_wp2_with fail
  refine H.out.mono ?_
  clear H
  rintro _ w3 ⟨ea, ec, rfl, hE, hef, hb3⟩
  have HB3 := Lib.hid (HB2.out.trans (hb3.mono HB2.out.size))
  have HE := Lib.hid hE
  have Hef := Lib.hid hef
  have Hz2 := Lib.hid HB2.out.size
  clear hb3 hE hef
  have hle := scheck_le s
  by_cases h0 : scheck s = 0
  · have hR := scheck_ok.1 h0
    have hl := laid_length hR
    have he : encB s = laid s := by rw [encB, if_pos h0]
    have hE4 := HE.out
    rw [he] at hE4 ⊢
    rw [h0]
    by_cases ho : 0 ≤ at' ∧ at' < 512
    · obtain ⟨o, rfl⟩ := Int.eq_ofNat_of_zero_le ho.1
      have ho2 : o < 512 := by omega
      by_cases hx0 : x = 0
      · subst hx0
        rw [hl]
        clear hE4 HE he hl hR h0
        have e0 : ((0 : UInt8).toNat : Int) = 0 := rfl
        rw [e0]
        go_wp2_with fail
        go_ret
        exact ⟨rfl, HB3.out⟩
      · obtain ⟨eg, rfl⟩ := hE4.pos (by rw [hl]; decide)
        have hcp := hE4.cap
        obtain ⟨co, fo⟩ := hE4.cell (i := o) (by rw [hl]; exact ho2)
        have hxn : (((x.toNat : Nat) : Int) == 0) = false := by
          rw [beq_eq_false_iff_ne]; intro e; exact hx0 (UInt8.toNat_inj.1 (by simpa using e))
        have hE5 := hE4.set (i := o) (by rw [hl]; exact ho2) ((laid s).getD o 0 ^^^ x)
        have HD := Lib.hid (decode_any ((laid s).set o ((laid s).getD o 0 ^^^ x)) _ ec _ hE5.bts (by rw [List.length_set]; exact hcp.1) (by rw [List.length_set]; omega))
        rw [sdec_tells hR ho2 hx0, List.length_set] at HD
        have hbx : bits .xor .u8 (((laid s).getD o 0).toNat : Int) (x.toNat : Int) = ((((laid s).getD o 0) ^^^ x).toNat : Int) := by
          rw [u8_xor_nat _ _ (UInt8.toNat_lt _) (UInt8.toNat_lt _), UInt8.toNat_xor]
        rw [hl] at HD ⊢
        generalize (laid s).getD o 0 = b0 at co HD hbx
        have hb0 := b0.toNat_lt
        have hxl := x.toNat_lt
        have HB4 := Lib.hid (HB3.out.setCell (p := ⟨eg, o, none⟩) (Nat.le_trans Hz2.out (Hef.out eg rfl)) (.int .u8 ((b0 ^^^ x).toNat : Int)))
        generalize (b0 ^^^ x).toNat = bx at HD hbx HB4
        clear hE4 HE he hl hR h0 hE5 hcp
        go_wp2_with fail
        refine HD.out.mono ?_
        clear HD
        rintro _ w5 ⟨da, dc, rfl, hO, -, hb5⟩
        have HB5 := Lib.hid (HB4.out.trans (hb5.mono HB4.out.size))
        have hvt : spv (((6, zeroS) : Nat × SP)).2 da dc = .agg #[.int .i64 0, .int .i64 0, .int .i64 0, .int .i64 0, .int .i64 0, .slice da 0 dc] := rfl
        rw [hvt, show (((((6, zeroS) : Nat × SP)).1 : Nat) : Int) = 6 from rfl]
        have hb6 := one_below w5 (.cells #[.int .i64 0, .int .i64 0, .int .i64 0, .int .i64 0, .int .i64 0, .slice da 0 dc] 33)
        have hg6 := heap_alloc_new w5 (.cells #[.int .i64 0, .int .i64 0, .int .i64 0, .int .i64 0, .int .i64 0, .slice da 0 dc] 33)
        obtain ⟨t0, t1, t2, t3, t4, t5, -⟩ := cells6 hg6
        have h6t : SpAt (w5.alloc (.cells #[.int .i64 0, .int .i64 0, .int .i64 0, .int .i64 0, .int .i64 0, .slice da 0 dc] 33)).heap.size (w5.alloc (.cells #[.int .i64 0, .int .i64 0, .int .i64 0, .int .i64 0, .int .i64 0, .slice da 0 dc] 33)) zeroS da dc :=
          ⟨.inl rfl, (fun x hx => by simp [zeroS] at hx), by decide, ORt.nilcap hO, by decide, by decide, by decide, by decide, by decide⟩
        have H := Lib.hid fun (w' : World) (h : Below (w5.alloc (.cells #[.int .i64 0, .int .i64 0, .int .i64 0, .int .i64 0, .int .i64 0, .slice da 0 dc] 33)).heap.size (w5.alloc (.cells #[.int .i64 0, .int .i64 0, .int .i64 0, .int .i64 0, .int .i64 0, .slice da 0 dc] 33)) w') => eqSuper_any zeroS zeroS da none dc 0 _ w' (Nat.le_refl _) ((h6t.below h).mono h.size) (zeroS_sp w' _)
        rw [show decide (zeroS = zeroS) = true by simp] at H
        have HB6 := Lib.hid (HB5.out.trans (hb6.mono HB5.out.size))
        rw [show spv zeroS da dc = .agg #[.int .i64 0, .int .i64 0, .int .i64 0, .int .i64 0, .int .i64 0, .slice da 0 dc] from rfl, show spv zeroS none 0 = .agg #[.int .i64 0, .int .i64 0, .int .i64 0, .int .i64 0, .int .i64 0, .slice none 0 0] from rfl] at H
        clear hb5 hO hb6 hg6 h6t hvt
        go_wp2_with fail
        refine (H.out _ (Below.refl _ _)).mono ?_
        clear H
        rintro _ w7 ⟨rfl, hb7⟩
        have HB7 := Lib.hid (HB6.out.trans (hb7.mono HB6.out.size))
        clear hb7 t0 t1 t2 t3 t4 t5
        go_wp2_with fail
        go_ret
        exact ⟨rfl, HB7.out⟩
    · rw [hl]
      clear hE4 HE he hl hR h0
      go_wp2_with fail
      all_goals try (exfalso; omega)
      all_goals
        go_ret
        exact ⟨rfl, HB3.out⟩
  · have he : encB s = [] := by rw [encB, if_neg h0]
    rw [he]
    have hne : ((scheck s : Int) != 0) = true := by rw [bne_iff_ne]; omega
    generalize scheck s = sc at *
    clear HE he h0
    go_wp2_with fail
    go_ret
    exact ⟨rfl, HB3.out⟩
end Go.Proofs.Ythkopgmkdenebaa
