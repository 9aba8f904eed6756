/- SumRound: 2^31 - 1 bytes more change nothing in Join and Zeros. No condition. -/
import Derived.Test.YtdonocchidfooaaRefC
import Derived.Test.YtdonocchidfooaaThree
import Derived.Test.YtdonocchidfooaaCrcRound
import Derived.Deep.RegionHeld3
namespace Go.Proofs.Ytdonocchidfooaa
open Go.ChangeShapes Go.WideShapes Go.ChangeAt Go.RowKit
set_option linter.unusedVariables false

theorem below_next {W w' w1 : World} (h : Below W.heap.size W w') (h1 : Below w'.heap.size w' w1) : Below W.heap.size W w1 := h.trans (h1.mono h.size)
theorem round_join (a b n : Nat) (ha : a < 4294967296) : Crc.joi a b (n + 2147483647) = Crc.joi a b n := by
  have e : ∀ a b n, Crc.joi a b n = Crc.stps (8 * n) a ^^^ b := fun _ _ _ => rfl
  rw [e, e, Crc.round_all ha]
theorem round_zeros (n : Nat) : Crc.zer (n + 2147483647) = Crc.zer n := by
  have e : ∀ n, Crc.zer n = Crc.no (Crc.stps (8 * n) 4294967295) := fun _ => rfl
  rw [e, e, Crc.round_all (by omega)]

set_option maxHeartbeats 1000000 in
theorem sumRound_walk (x : Three) (w : World) (hx : x.fits) :
    Calls Try.prog 11 #[.agg x.cells] w fun e w' => e = .returned (.bool true) ∧ Below w.heap.size w w' := by
  obtain ⟨a, b, c, m, n⟩ := x
  obtain ⟨ha, hb, hc, ⟨hm0, hm⟩, ⟨hn0, hn⟩⟩ := hx
  simp only [Three.cells] at *
  have b0 := (Below.refl w.heap.size w).alloc (Nat.le_refl _) (.cells #[.int .u32 a, .int .u32 b, .int .u32 c, .int .i64 m, .int .i64 n] 42)
  have z0 : w.heap.size < (w.alloc (.cells #[.int .u32 a, .int .u32 b, .int .u32 c, .int .i64 m, .int .i64 n] 42)).heap.size := by simp
  have hg := Lib.hid (heap_alloc_new w (.cells #[.int .u32 a, .int .u32 b, .int .u32 c, .int .i64 m, .int .i64 n] 42))
  go_enter Try.func11, Try.ntmps11
  go_wp2_with fail
  generalize w.alloc (.cells #[.int .u32 a, .int .u32 b, .int .u32 c, .int .i64 m, .int .i64 n] 42) = W0 at b0 z0 hg ⊢
  refine (fixed_any _).mono ?_
  rintro _ W ⟨rfl, b1⟩
  have hgW := (b1.block w.heap.size z0).trans hg.out
  have zW : w.heap.size < W.heap.size := Nat.lt_of_lt_of_le z0 b1.size
  have hb0 : Below w.heap.size w W := b0.trans (b1.mono b0.size)
  clear b0 z0 hg b1
  obtain ⟨x0, x1, _, _, x2⟩ := three_cells hgW
  clear hgW
  by_cases c1 : n < 0
  · go_wp2_with fail
    go_ret
    exact ⟨rfl, hb0⟩
  by_cases c2 : 9223372034707292160 < n
  · go_wp2_with fail
    go_ret
    exact ⟨rfl, hb0⟩
  have p1 : 0 ≤ n := by omega
  have p3 : n + 2147483647 ≤ 9223372036854775807 := by omega
  have p4 : n ≤ 9223372034707292160 := by omega
  have ejn : (n + 2147483647).toNat = n.toNat + 2147483647 := by omega
  have hwr : IntKind.i64.wrap (n + 2147483647) = n + 2147483647 := IntWalk.i64_in _ (by omega)
  have E1 := round_join a b n.toNat ha
  have E2 := round_zeros n.toNat
  rw [← ejn] at E1 E2
  have HA := Lib.hid fun w => sumJoin_any a b ha hb (n + 2147483647) p3 w
  have HB := Lib.hid fun w => sumJoin_any a b ha hb n hn w
  have HC := Lib.hid fun w => sumZeros_any (n + 2147483647) p3 w
  have HD := Lib.hid fun w => sumZeros_any n hn w
  rw [E1] at HA
  rw [E2] at HC
  generalize Crc.joi a b n.toNat = J1 at HA HB
  generalize Crc.zer n.toNat = Z1 at HC HD
  clear E1 E2 ejn c1 c2 hm0 hm hn0
  go_wp2_with fail
  have Hk := Lib.hid fun (w' : World) (h : Below W.heap.size W w') => show w'.cell? ⟨w.heap.size, 0, none⟩ = some (.int .u32 a) ∧ w'.cell? ⟨w.heap.size, 1, none⟩ = some (.int .u32 b) ∧ w'.cell? ⟨w.heap.size, 4, none⟩ = some (.int .i64 n) ∧ Below W.heap.size W w' from
    ⟨(h.cell (p := ⟨w.heap.size, 0, none⟩) (by show w.heap.size < _; omega)).trans x0, (h.cell (p := ⟨w.heap.size, 1, none⟩) (by show w.heap.size < _; omega)).trans x1, (h.cell (p := ⟨w.heap.size, 4, none⟩) (by show w.heap.size < _; omega)).trans x2, h⟩
  clear x0 x1 x2
  go_region_held3 (fun w' => w'.cell? ⟨w.heap.size, 0, none⟩ = some (.int .u32 a) ∧ w'.cell? ⟨w.heap.size, 1, none⟩ = some (.int .u32 b) ∧ w'.cell? ⟨w.heap.size, 4, none⟩ = some (.int .i64 n) ∧ Below W.heap.size W w')
    (first
      | exact Hk.out _ (Below.drew (Below.refl _ _))
      | (refine Hk.out _ ?_; with_reducible assumption))
    (first
      | (go_at_call 24; go_split_ands; ((with_reducible refine (HA.out _).mono ?_); rintro e w1 ⟨rfl, hb1⟩)
         have hbn : Below W.heap.size W w1 := below_next (by with_reducible assumption) hb1)
      | (go_at_call 24; go_split_ands; ((with_reducible refine (HB.out _).mono ?_); rintro e w1 ⟨rfl, hb1⟩)
         have hbn : Below W.heap.size W w1 := below_next (by with_reducible assumption) hb1)
      | (go_at_call 26; go_split_ands; ((with_reducible refine (HC.out _).mono ?_); rintro e w1 ⟨rfl, hb1⟩)
         have hbn : Below W.heap.size W w1 := below_next (by with_reducible assumption) hb1)
      | (go_at_call 26; go_split_ands; ((with_reducible refine (HD.out _).mono ?_); rintro e w1 ⟨rfl, hb1⟩)
         have hbn : Below W.heap.size W w1 := below_next (by with_reducible assumption) hb1))
  go_wp2_with fail
  go_ret
  exact ⟨by simp, hb0.trans (hbn.mono hb0.size)⟩

set_option maxRecDepth 100000 in
theorem sumRound_lifted (os : Os) (started : os.Started) (H : Type) (enc : TypeId × Value → H) :
    ReturnsInHanded {} Try.checked os 11 .any (Rows.sumRoundSpec.pre6 enc Try.prog Try.f11 Rows.sumRoundRow.domain false) (Rows.sumRoundSpec.post enc Try.prog Try.f11 false true false false) := by
  refine returnsInHanded_of_change (C := Try.checked) own started (by kernel_rfl) Try.func11
    (ChangeSpec.witness6 (enc := enc) (C := Try.checked) false ⟨#[], #[.agg #[.int .u32 0, .int .u32 0, .int .u32 0, .int .i64 0, .int .i64 0]], []⟩ 8 (by kernel_rfl) (by kernel_rfl) (by kernel_rfl) (by kernel_rfl)) ?_
  intro W base args ds gs before hval0 hW hcnd _
  have hval : ∀ (j : Nat) t v, Try.f11.params[j]? = some t → args[j]? = some v → Value.okWide Try.prog W .any base t v := hval0
  have hW' := hW
  obtain ⟨p, q, hA0, hV, rfl, hfz, hnd⟩ := hW
  have hA : DataW.TrodAll enc Try.prog W 0 (fun _ => true) true Try.f11.params.toList args.toList ds p := hA0
  rw [Try.params11] at hA hval
  obtain ⟨v0, vs0, d0, ds0, p0, q0, hargs, rfl, rfl, h0, r0⟩ := trodAll_cons hA
  obtain ⟨rfl, rfl, rfl⟩ := trodAll_nil r0
  obtain rfl : args = #[v0] := by cases args; simp_all
  obtain ⟨rfl, rfl⟩ := trodVars_none hV
  have k0 := h0
  have lt0 : ∀ x ∈ p0, x.block < W.heap.size := by obtain ⟨m, hm⟩ := k0; exact DataW.trod_lt m _ _ _ hm
  obtain ⟨x0, w0, rfl⟩ := open_three (hval 0 42 v0 rfl rfl) h0
  clear hA0 hval0
  refine (sumRound_walk x0 W w0).mono fun e W' ⟨he, bel⟩ => ?_
  subst he
  exact ⟨_, rfl, _, _, _, [], _, [], hW', trodAll_mk1 (shut_bool Try.underlying4 _), (trodAll_cons_mk (Below.trod laidOut (by kernel_rfl) (of_decide_eq_true (by kernel_rfl)) k0 bel lt0) trodAll_mk0), rfl, bel.frame _, fun h => by cases h⟩

theorem sumRound_holds : Rows.SumRoundSaid :=
  OpenClaim.holds_of_wide 11 Try.f11 rfl rfl rfl rfl rfl rfl rfl ⟨rfl, rfl, rfl, rfl, rfl⟩ rfl rfl rfl rfl rfl (by kernel_rfl) Try.func11 (by kernel_rfl)
    (of_decide_eq_true (by kernel_rfl)) (by unfold Func.isWrapper; first | (rw [if_pos (by decide +kernel)]; kernel_rfl) | (rw [if_neg (by decide +kernel)]; exact ⟨rfl, rfl⟩))
    (fun os started H enc _ => sumRound_lifted os started H enc)
#print axioms sumRound_holds
end Go.Proofs.Ytdonocchidfooaa
