/- SumNoCarry: Join of numbers put together bit by bit is the two Joins put together bit by bit. No condition. -/
import Derived.Test.YtdonocchidfooaaRefC
import Derived.Test.YtdonocchidfooaaThree
import Derived.Deep.RegionHeld3
namespace Go.Proofs.Ytdonocchidfooaa
open Go.ChangeShapes Go.WideShapes Go.ChangeAt Go.RowKit
set_option linter.unusedVariables false

theorem below_next {W w' w1 : World} (h : Below W.heap.size W w') (h1 : Below w'.heap.size w' w1) : Below W.heap.size W w1 := h.trans (h1.mono h.size)
theorem no_carry (a b c d n : Nat) : Crc.joi (a ^^^ c) (b ^^^ d) n = Crc.joi a b n ^^^ Crc.joi c d n := by
  have e : ∀ a b n, Crc.joi a b n = Crc.stps (8 * n) a ^^^ b := fun _ _ _ => rfl
  rw [e, e, e, Crc.stps_xor, Nat.xor_assoc, Nat.xor_assoc, ← Nat.xor_assoc _ b, Nat.xor_comm _ b, Nat.xor_assoc]

set_option maxHeartbeats 1000000 in
theorem sumNoCarry_walk (x y : Three) (w : World) (hx : x.fits) (hy : y.fits) :
    Calls Try.prog 10 #[.agg x.cells, .agg y.cells] w fun e w' => e = .returned (.bool true) ∧ Below w.heap.size w w' := by
  obtain ⟨a, b, c, m, n⟩ := x
  obtain ⟨a', b', c', m', n'⟩ := y
  obtain ⟨ha, hb, _, _, _, hn⟩ := hx
  obtain ⟨ha', hb', _, _, _, _⟩ := hy
  simp only [Three.cells] at *
  have e1 := u32_xor_nat a a' ha ha'
  have e2 := u32_xor_nat b b' hb hb'
  have hA : a ^^^ a' < 4294967296 := Nat.xor_lt_two_pow (n := 32) ha ha'
  have hB : b ^^^ b' < 4294967296 := Nat.xor_lt_two_pow (n := 32) hb hb'
  have e3 := u32_xor_nat _ _ (Crc.joi_lt ha hb n.toNat) (Crc.joi_lt ha' hb' n.toNat)
  rw [← no_carry] at e3
  have H1 := Lib.hid fun w => sumJoin_any _ _ hA hB n hn w
  have H2 := Lib.hid fun w => sumJoin_any _ _ ha hb n hn w
  have H3 := Lib.hid fun w => sumJoin_any _ _ ha' hb' n hn w
  generalize Crc.joi (a ^^^ a') (b ^^^ b') n.toNat = J at e3 H1
  generalize Crc.joi a b n.toNat = J1 at e3 H2
  generalize Crc.joi a' b' n.toNat = J2 at e3 H3
  generalize a ^^^ a' = A at e1 H1
  generalize b ^^^ b' = B at e2 H1
  clear hn
  go_enter Try.func10, Try.ntmps10
  go_wp2_with fail
  obtain ⟨W, hW⟩ : ∃ W, W = ((w.alloc (.cells #[.int .u32 a, .int .u32 b, .int .u32 c, .int .i64 m, .int .i64 n] 42)).alloc (.cells #[.int .u32 a', .int .u32 b', .int .u32 c', .int .i64 m', .int .i64 n'] 42)) := ⟨_, rfl⟩
  have hb0 : Below w.heap.size w W := by rw [hW]; exact ((Below.refl _ _).alloc (Nat.le_refl _) _).alloc (by simp) _
  have hz : w.heap.size + 1 < W.heap.size := by rw [hW]; simp
  have x0 : W.cell? ⟨w.heap.size, 0, none⟩ = some (.int .u32 a) := by rw [hW]; simp [go_sem]
  have x1 : W.cell? ⟨w.heap.size, 1, none⟩ = some (.int .u32 b) := by rw [hW]; simp [go_sem]
  have x4 : W.cell? ⟨w.heap.size, 4, none⟩ = some (.int .i64 n) := by rw [hW]; simp [go_sem]
  have y0 : W.cell? ⟨w.heap.size + 1, 0, none⟩ = some (.int .u32 a') := by rw [hW]; simp [go_sem]
  have y1 : W.cell? ⟨w.heap.size + 1, 1, none⟩ = some (.int .u32 b') := by rw [hW]; simp [go_sem]
  rw [← hW]
  clear hW
  have Hk := Lib.hid fun (w' : World) (h : Below W.heap.size W w') => show w'.cell? ⟨w.heap.size, 0, none⟩ = some (.int .u32 a) ∧ w'.cell? ⟨w.heap.size, 1, none⟩ = some (.int .u32 b) ∧ w'.cell? ⟨w.heap.size, 4, none⟩ = some (.int .i64 n) ∧ w'.cell? ⟨w.heap.size + 1, 0, none⟩ = some (.int .u32 a') ∧ w'.cell? ⟨w.heap.size + 1, 1, none⟩ = some (.int .u32 b') ∧ Below W.heap.size W w' from
    ⟨(h.cell (p := ⟨w.heap.size, 0, none⟩) (by show w.heap.size < _; omega)).trans x0, (h.cell (p := ⟨w.heap.size, 1, none⟩) (by show w.heap.size < _; omega)).trans x1, (h.cell (p := ⟨w.heap.size, 4, none⟩) (by show w.heap.size < _; omega)).trans x4, (h.cell (p := ⟨w.heap.size + 1, 0, none⟩) (by show w.heap.size + 1 < _; omega)).trans y0, (h.cell (p := ⟨w.heap.size + 1, 1, none⟩) (by show w.heap.size + 1 < _; omega)).trans y1, h⟩
  clear x0 x1 x4 y0 y1
  go_region_held3 (fun w' => w'.cell? ⟨w.heap.size, 0, none⟩ = some (.int .u32 a) ∧ w'.cell? ⟨w.heap.size, 1, none⟩ = some (.int .u32 b) ∧ w'.cell? ⟨w.heap.size, 4, none⟩ = some (.int .i64 n) ∧ w'.cell? ⟨w.heap.size + 1, 0, none⟩ = some (.int .u32 a') ∧ w'.cell? ⟨w.heap.size + 1, 1, none⟩ = some (.int .u32 b') ∧ Below W.heap.size W w')
    (first
      | exact Hk.out _ (Below.drew (Below.refl _ _))
      | (refine Hk.out _ ?_; with_reducible assumption))
    (first
      | (go_at_call 14; go_split_ands; refine (fixed_any _).mono ?_; rintro e w1 ⟨rfl, hb1⟩
         have hbn : Below W.heap.size W w1 := below_next (by with_reducible assumption) hb1)
      | (go_at_call 24; go_split_ands; ((with_reducible refine (H1.out _).mono ?_); rintro e w1 ⟨rfl, hb1⟩)
         have hbn : Below W.heap.size W w1 := below_next (by with_reducible assumption) hb1)
      | (go_at_call 24; go_split_ands; ((with_reducible refine (H2.out _).mono ?_); rintro e w1 ⟨rfl, hb1⟩)
         have hbn : Below W.heap.size W w1 := below_next (by with_reducible assumption) hb1)
      | (go_at_call 24; go_split_ands; ((with_reducible refine (H3.out _).mono ?_); rintro e w1 ⟨rfl, hb1⟩)
         have hbn : Below W.heap.size W w1 := below_next (by with_reducible assumption) hb1))
  go_wp2_with fail
  go_ret
  exact ⟨by simp, hb0.trans (hbn.mono hb0.size)⟩

set_option maxRecDepth 100000 in
theorem sumNoCarry_lifted (os : Os) (started : os.Started) (H : Type) (enc : TypeId × Value → H) :
    ReturnsInHanded {} Try.checked os 10 .any (Rows.sumNoCarrySpec.pre6 enc Try.prog Try.f10 Rows.sumNoCarryRow.domain false) (Rows.sumNoCarrySpec.post enc Try.prog Try.f10 false true false false) := by
  refine returnsInHanded_of_change (C := Try.checked) own started (by kernel_rfl) Try.func10
    (ChangeSpec.witness6 (enc := enc) (C := Try.checked) false ⟨#[], #[.agg #[.int .u32 0, .int .u32 0, .int .u32 0, .int .i64 0, .int .i64 0], .agg #[.int .u32 0, .int .u32 0, .int .u32 0, .int .i64 0, .int .i64 0]], []⟩ 8 (by kernel_rfl) (by kernel_rfl) (by kernel_rfl) (by kernel_rfl)) ?_
  intro W base args ds gs before hval0 hW hcnd _
  have hval : ∀ (j : Nat) t v, Try.f10.params[j]? = some t → args[j]? = some v → Value.okWide Try.prog W .any base t v := hval0
  have hW' := hW
  obtain ⟨p, q, hA0, hV, rfl, hfz, hnd⟩ := hW
  have hA : DataW.TrodAll enc Try.prog W 0 (fun _ => true) true Try.f10.params.toList args.toList ds p := hA0
  rw [Try.params10] at hA hval
  obtain ⟨v0, vs0, d0, ds0, p0, q0, hargs, rfl, rfl, h0, r0⟩ := trodAll_cons hA
  obtain ⟨v1, vs1, d1, ds1, p1, q1, rfl, rfl, rfl, h1, r1⟩ := trodAll_cons r0
  obtain ⟨rfl, rfl, rfl⟩ := trodAll_nil r1
  obtain rfl : args = #[v0, v1] := by cases args; simp_all
  obtain ⟨rfl, rfl⟩ := trodVars_none hV
  have k0 := h0
  have lt0 : ∀ x ∈ p0, x.block < W.heap.size := by obtain ⟨m, hm⟩ := k0; exact DataW.trod_lt m _ _ _ hm
  have k1 := h1
  have lt1 : ∀ x ∈ p1, x.block < W.heap.size := by obtain ⟨m, hm⟩ := k1; exact DataW.trod_lt m _ _ _ hm
  obtain ⟨x0, w0, rfl⟩ := open_three (hval 0 42 v0 rfl rfl) h0
  obtain ⟨x1, w1, rfl⟩ := open_three (hval 1 42 v1 rfl rfl) h1
  clear hA0 hval0
  refine (sumNoCarry_walk x0 x1 W w0 w1).mono fun e W' ⟨he, bel⟩ => ?_
  subst he
  exact ⟨_, rfl, _, _, _, [], _, [], hW', trodAll_mk1 (shut_bool Try.underlying4 _), (trodAll_cons_mk (Below.trod laidOut (by kernel_rfl) (of_decide_eq_true (by kernel_rfl)) k0 bel lt0) (trodAll_cons_mk (Below.trod laidOut (by kernel_rfl) (of_decide_eq_true (by kernel_rfl)) k1 bel lt1) trodAll_mk0)), rfl, bel.frame _, fun h => by cases h⟩

theorem sumNoCarry_holds : Rows.SumNoCarrySaid :=
  OpenClaim.holds_of_wide 10 Try.f10 rfl rfl rfl rfl rfl rfl rfl ⟨rfl, rfl, rfl, rfl, rfl⟩ rfl rfl rfl rfl rfl (by kernel_rfl) Try.func10 (by kernel_rfl)
    (of_decide_eq_true (by kernel_rfl)) (by unfold Func.isWrapper; first | (rw [if_pos (by decide +kernel)]; kernel_rfl) | (rw [if_neg (by decide +kernel)]; exact ⟨rfl, rfl⟩))
    (fun os started H enc _ => sumNoCarry_lifted os started H enc)
#print axioms sumNoCarry_holds
end Go.Proofs.Ytdonocchidfooaa
