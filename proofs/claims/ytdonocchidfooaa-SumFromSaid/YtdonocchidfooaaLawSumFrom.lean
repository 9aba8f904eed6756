/- SumFrom: Join with a sum is More with the bytes, from any number; More over nothing and Join with nothing change nothing. No condition. -/
import Derived.Test.YtdonocchidfooaaRefC
import Derived.Test.YtdonocchidfooaaArgs
namespace Go.Proofs.Ytdonocchidfooaa
open Go.ChangeShapes Go.WideShapes Go.ChangeAt Go.RowKit
set_option linter.unusedVariables false

theorem from_eq (s : Nat) (bs : List UInt8) : Crc.joi s (Crc.ofs bs) bs.length = Crc.mor s bs := by
  have e1 : Crc.joi s (Crc.ofs bs) bs.length = Crc.stps (8 * bs.length) s ^^^ Crc.no (Crc.on 4294967295 bs) := rfl
  have e2 : Crc.mor s bs = Crc.no (Crc.on (Crc.no s) bs) := rfl
  rw [e1, e2, Crc.no_eq, Crc.no_eq, Crc.no_eq, Nat.xor_comm 4294967295 s, Crc.on_xor, ← Nat.xor_assoc, ← Nat.xor_assoc, Nat.xor_comm 4294967295]
theorem more_nil (s : Nat) : Crc.mor s [] = s := Crc.no_no s
theorem join_nil (s : Nat) : Crc.joi s 0 0 = s := Nat.xor_zero s

set_option maxHeartbeats 400000 in
theorem sumFrom_walk (s : Int) (a : Option Addr) (len cap : Nat) (z : List Int) (w : World) (hs : (Lit.int .u32 s).wf = true) (hr : IsRow .u8 w a len cap z) :
    Calls Try.prog 8 #[.int .u32 s, .slice a len cap] w fun e w' => e = .returned (.bool true) ∧ Below w.heap.size w w' := by
  have hl := hr.len_le
  obtain ⟨bs, rfl, hb⟩ := hr.bts
  obtain ⟨n, rfl, hn⟩ := u32_nat hs
  clear hr hs
  have E1 := Lib.hid (from_eq n bs)
  have E2 := Lib.hid (more_nil n)
  have E3 := Lib.hid (join_nil n)
  have H1 := Lib.hid fun (w : World) (h : Bts w a bs) => sumOf_any bs a cap hl w h
  have H2 := Lib.hid fun (w : World) => sumJoin_any n (Crc.ofs bs) hn (Crc.ofs_lt bs) bs.length (by omega) w
  have H3 := Lib.hid fun (w : World) (h : Bts w a bs) => sumMore_any n hn bs a cap hl w h
  go_enter Try.func8, Try.ntmps8
  go_wp2_with fail
  refine (fixed_any w).mono ?_
  rintro _ w1 ⟨rfl, b1⟩
  have hb1 := hb.below b1
  go_wp2_with fail
  refine (H1.out w1 hb1).mono ?_
  rintro _ w2 ⟨rfl, b2⟩
  have hb2 := hb1.below b2
  replace b2 := b1.trans (b2.mono b1.size)
  go_wp2_with fail
  refine (H2.out w2).mono ?_
  rintro _ w3 ⟨rfl, b3⟩
  rw [show Crc.joi n (Crc.ofs bs) (bs.length : Int).toNat = Crc.mor n bs from E1.out]
  have hb3 := hb2.below b3
  replace b3 := b2.trans (b3.mono b2.size)
  go_wp2_with fail
  refine (H3.out w3 hb3).mono ?_
  rintro _ w4 ⟨rfl, b4⟩
  replace b4 := b3.trans (b4.mono b3.size)
  go_wp2_with fail
  refine (sumMore_any n hn [] none 0 (by decide) w4 (.inl rfl)).mono ?_
  rintro _ w5 ⟨rfl, b5⟩
  rw [E2.out]
  replace b5 := b4.trans (b5.mono b4.size)
  go_wp2_with fail
  refine (sumJoin_any n 0 hn (by decide) 0 (by decide) w5).mono ?_
  rintro _ w6 ⟨rfl, b6⟩
  rw [show Crc.joi n 0 (0 : Int).toNat = n from E3.out]
  replace b6 := b5.trans (b6.mono b5.size)
  go_wp2_with fail
  go_ret
  exact ⟨by simp, b6⟩

set_option maxRecDepth 100000 in
theorem sumFrom_lifted (os : Os) (started : os.Started) (H : Type) (enc : TypeId × Value → H) :
    ReturnsInHanded {} Try.checked os 8 .any (Rows.sumFromSpec.pre6 enc Try.prog Try.f8 Rows.sumFromRow.domain false) (Rows.sumFromSpec.post enc Try.prog Try.f8 false true false false) := by
  refine returnsInHanded_of_change (C := Try.checked) own started (by kernel_rfl) Try.func8
    (ChangeSpec.witness6 (enc := enc) (C := Try.checked) false ⟨#[], #[.int .u32 0, .slice none 0 0], []⟩ 8 (by kernel_rfl) (by kernel_rfl) (by kernel_rfl) (by kernel_rfl)) ?_
  intro W base args ds gs before hval0 hW hcnd _
  have hval : ∀ (j : Nat) t v, Try.f8.params[j]? = some t → args[j]? = some v → Value.okWide Try.prog W .any base t v := hval0
  have hW' := hW
  obtain ⟨p, q, hA0, hV, rfl, hfz, hnd⟩ := hW
  have hA : DataW.TrodAll enc Try.prog W 0 (fun _ => true) true Try.f8.params.toList args.toList ds p := hA0
  rw [Try.params8] at hA hval
  obtain ⟨v0, vs0, d0, ds0, p0, q0, hargs, rfl, rfl, h0, r0⟩ := trodAll_cons hA
  obtain ⟨v1, vs1, d1, ds1, p1, q1, rfl, rfl, rfl, h1, r1⟩ := trodAll_cons r0
  obtain ⟨rfl, rfl, rfl⟩ := trodAll_nil r1
  obtain rfl : args = #[v0, v1] := by cases args; simp_all
  obtain ⟨rfl, rfl⟩ := trodVars_none hV
  have k0 := h0
  have lt0 : ∀ x ∈ p0, x.block < W.heap.size := by obtain ⟨m, hm⟩ := k0; exact DataW.trod_lt m _ _ _ hm
  have k1 := h1
  have lt1 : ∀ x ∈ p1, x.block < W.heap.size := by obtain ⟨m, hm⟩ := k1; exact DataW.trod_lt m _ _ _ hm
  obtain ⟨a0, rfl, rfl, rfl, w0⟩ := open_int Try.underlying24 (hval 0 24 v0 rfl rfl) h0
  obtain ⟨a1, len1, cap1, rfl⟩ := okWide_slice Try.underlying25 (hval 1 25 v1 rfl rfl)
  obtain ⟨z1, w1⟩ := open_row (k := .u8) Try.underlying25 Try.underlying5 (by kernel_rfl) h1
  clear hA0 hval0
  refine (sumFrom_walk a0 a1 len1 cap1 z1 W w0 w1).mono fun e W' ⟨he, bel⟩ => ?_
  subst he
  exact ⟨_, rfl, _, _, _, [], _, [], hW', trodAll_mk1 (shut_bool Try.underlying4 _), (trodAll_cons_mk (Below.trod laidOut (by kernel_rfl) (of_decide_eq_true (by kernel_rfl)) k0 bel lt0) (trodAll_cons_mk (Below.trod laidOut (by kernel_rfl) (of_decide_eq_true (by kernel_rfl)) k1 bel lt1) trodAll_mk0)), rfl, bel.frame _, fun h => by cases h⟩

theorem sumFrom_holds : Rows.SumFromSaid :=
  OpenClaim.holds_of_wide 8 Try.f8 rfl rfl rfl rfl rfl rfl rfl ⟨rfl, rfl, rfl, rfl, rfl⟩ rfl rfl rfl rfl rfl (by kernel_rfl) Try.func8 (by kernel_rfl)
    (of_decide_eq_true (by kernel_rfl)) (by unfold Func.isWrapper; first | (rw [if_pos (by decide +kernel)]; kernel_rfl) | (rw [if_neg (by decide +kernel)]; exact ⟨rfl, rfl⟩))
    (fun os started H enc _ => sumFrom_lifted os started H enc)
#print axioms sumFrom_holds
end Go.Proofs.Ytdonocchidfooaa
