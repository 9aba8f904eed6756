/- SumTells: bytes that differ within 32 bits side by side have another sum. No condition. -/
import Derived.Test.YtdonocchidfooaaRefC
import Derived.Test.YtdonocchidfooaaArgs
import Derived.Test.YtdonocchidfooaaJoined
import Derived.Test.YtdonocchidfooaaCrcTell
import Derived.StillTailTactics
namespace Go.Proofs.Ytdonocchidfooaa
open Go.ChangeShapes Go.WideShapes Go.ChangeAt Go.RowKit
set_option linter.unusedVariables false

theorem bit_of (t : Nat) : ∃ x : UInt8, x.toNat = 2 ^ (t % 8) := by
  have h : t % 8 < 8 := by omega
  refine ⟨UInt8.ofNat (2 ^ (t % 8)), ?_⟩
  have : 2 ^ (t % 8) < 2 ^ 8 := Nat.pow_lt_pow_right (by omega) h
  rw [UInt8.toNat_ofNat', Nat.mod_eq_of_lt this]
theorem pow8_mod {k : Nat} (hk : k < 8) : (2 : Int) ^ k % 256 = ((2 ^ k : Nat) : Int) := by
  have hp : 2 ^ k < 256 := Nat.pow_lt_pow_right (a := 2) (m := k) (n := 8) (by omega) hk
  have e : ((2 ^ k : Nat) : Int) = (2 : Int) ^ k := Int.natCast_pow 2 k
  rw [← e]
  generalize 2 ^ k = y at hp
  omega

/-- where the rounds of the loop stand -/
def RelT (w0 : World) (bs : List UInt8) (fr bits g cap : Nat) (v : Value) (wr : World) : Prop :=
  ∃ (k : Nat) (cs : List UInt8), k ≤ 32 ∧ v = .int .i64 k ∧ OwnB wr w0.heap.size g cap cs ∧ Below w0.heap.size w0 wr ∧ cs.length = bs.length ∧
    Crc.le cs = Crc.le bs ^^^ (bits % 2 ^ k * 2 ^ fr) ∧ (bits % 2 ^ k ≠ 0 → fr < 8 * bs.length)

set_option maxHeartbeats 400000 in
theorem sumTells_walk (a : Option Addr) (len cap : Nat) (z : List Int) (fr bits : Int) (w : World) (hr : IsRow .u8 w a len cap z) (hs : cap ≤ 140737488351232) (hf : (Lit.int .i64 fr).wf = true) (hbits : (Lit.int .u32 bits).wf = true) :
    Calls Try.prog 12 #[.slice a len cap, .int .i64 fr, .int .u32 bits] w fun e w' => e = .returned (.bool true) ∧ Below w.heap.size w w' := by
  have hl := hr.len_le
  have hlc := hr.len_cap
  obtain ⟨bs, rfl, hb⟩ := hr.bts
  obtain ⟨m, rfl, hm⟩ := u32_nat hbits
  have hfr := (i64_le hf).2
  clear hr hf hbits
  by_cases c1 : fr < 0
  · go_enter Try.func12, Try.ntmps12
    go_wp2_with fail
    refine (fixed_any w).mono ?_
    rintro _ w1 ⟨rfl, b1⟩
    go_wp2_with fail
    go_ret
    exact ⟨rfl, b1⟩
  by_cases c2 : m = 0
  · have c3 : ((m : Int) == 0) = true := by rw [beq_iff_eq]; omega
    clear c2
    go_enter Try.func12, Try.ntmps12
    go_wp2_with fail
    refine (fixed_any w).mono ?_
    rintro _ w1 ⟨rfl, b1⟩
    go_wp2_with fail
    go_ret
    exact ⟨rfl, b1⟩
  have c3 : ((m : Int) == 0) = false := by rw [beq_eq_false_iff_ne]; omega
  obtain ⟨f, rfl⟩ := Int.eq_ofNat_of_zero_le (by omega : 0 ≤ fr)
  go_enter Try.func12, Try.ntmps12
  go_wp2_with fail
  refine (fixed_any w).mono ?_
  rintro _ w1 ⟨rfl, b1⟩
  have hb1 := hb.below b1
  go_wp2_with fail
  refine (joined_any bs [] a none cap 0 (by show bs.length + 0 ≤ _; omega) w1 hb1 (.inl rfl)).mono ?_
  rintro _ w2 ⟨g, cap2, rfl, ow2, b2⟩
  rw [List.append_nil] at ow2 ⊢
  have ow2' : OwnB w2 w.heap.size g cap2 bs := ow2.base (Nat.le_trans b1.size ow2.lt.1)
  have b2' : Below w.heap.size w w2 := b1.trans (b2.mono b1.size)
  clear ow2 b2 b1 hb1
  go_wp2_with fail
  go_loopw [8] (fun v wr => RelT w bs f m g cap2 v wr) (fun i _ => 32 - (intOf i).toNat)
  case atStart => exact ⟨0, bs, Nat.zero_le _, rfl, ow2', b2', rfl, by simp [Nat.mod_one], by simp [Nat.mod_one]⟩
  case round =>
    clear ow2' b2'
    obtain ⟨k, cs, hk, rfl, ow, hB, hcl, hle, hin⟩ := hrel
    have Hle := Lib.hid hle
    have Hin := Lib.hid hin
    have Hcl := Lib.hid hcl
    clear hle hin hcl
    by_cases hlt : k < 32
    · have ed : (m : Int) / 2 ^ k = ((m / 2 ^ k : Nat) : Int) := by simp
      have h0 : (0 : Int) ≤ (m : Int) / 2 ^ k := by rw [ed]; exact Int.natCast_nonneg _
      by_cases hodd : m / 2 ^ k % 2 = 0
      · have b1 : ((m : Int) / 2 ^ k % 2 == 0) = true := by rw [ed, beq_iff_eq]; omega
        have Hodd := Lib.hid hodd
        clear ed hodd
        go_wp2_with fail
        go_roundw
        case rel => exact ⟨k + 1, cs, by omega, by go_num, ow, hB, Hcl.out, by rw [Crc.bits_keep Hodd.out]; exact Hle.out, by rw [Crc.bits_keep Hodd.out]; exact Hin.out⟩
        case measure => simp [intOf]; omega
      · have b1 : ((m : Int) / 2 ^ k % 2 == 0) = false := by rw [ed, beq_eq_false_iff_ne]; omega
        have Hodd := Lib.hid hodd
        clear ed hodd
        by_cases hout : 8 * bs.length < f + k + 1
        · go_wp2_with fail
          go_ret
          exact ⟨rfl, hB⟩
        · go_wp2_with fail
          have et : ((f : Int) + (k : Int)) = ((f + k : Nat) : Int) := by omega
          have ht : (f + k) / 8 < cs.length := by rw [Hcl.out]; omega
          rw [et]
          generalize hfk : f + k = t at et ht
          have Hfk := Lib.hid hfk
          obtain ⟨x, hx⟩ := bit_of t
          have hz := ow.cell ht
          have hfz := ow.free (t / 8)
          have Hset := Lib.hid (ow.set (t / 8) (cs.getD (t / 8) 0 ^^^ x))
          have Hle2 := Lib.hid (Crc.le_turn cs t ht x hx)
          have wq : IntKind.i64.wrap ((t : Int) / 8) = ((t / 8 : Nat) : Int) := by rw [IntWalk.i64_in _ (by omega)]; omega
          have wr1 : (t : Int) % 8 = ((t % 8 : Nat) : Int) := by omega
          have wr2 : (t : Int).tmod 8 = ((t % 8 : Nat) : Int) := by rw [Int.tmod_eq_emod_of_nonneg (by omega)]; omega
          have wx : (2 : Int) ^ (t % 8) % 256 = (x.toNat : Int) := by rw [hx]; exact pow8_mod (by omega)
          have wb := u8_xor_nat (cs.getD (t / 8) 0).toNat x.toNat (by have := (cs.getD (t / 8) 0).toNat_lt; omega) (by have := x.toNat_lt; omega)
          rw [← UInt8.toNat_xor] at wb
          have hq : t / 8 < bs.length := by rw [← Hcl.out]; exact ht
          generalize cs.getD (t / 8) 0 ^^^ x = zx at wb Hset Hle2
          generalize cs.getD (t / 8) 0 = zz at hz wb
          have hr8 : t % 8 < 8 := by omega
          have Hq := Lib.hid (show t / 8 = t / 8 from rfl)
          generalize t / 8 = q at wq hz hfz Hset Hle2 hq Hq ht
          generalize t % 8 = r at wr1 wr2 wx hr8 hx
          have hqi : (q : Int) < (bs.length : Int) := by omega
          clear et hfk ow ht hx
          go_still_tail 13, (by kernel_rfl)
          change wpList _ _ _ _ _ wr.drew
          have HW := Lib.hid (show bits .xor .u8 (zz.toNat : Int) ((2 : Int) ^ r % 256) = (zx.toNat : Int) by rw [wx]; exact wb)
          clear wq wr1 wr2 wx wb
          go_wp2_with fail
          go_roundw
          case rel =>
            rw [HW.out]
            have hB2 : Below w.heap.size w (wr.setCell ⟨g, q, none⟩ (.int .u8 (zx.toNat : Int))).drew := (hB.setCell Hset.out.lt.1 _).drew
            refine ⟨k + 1, cs.set q zx, by omega, by go_num, Hset.out.below (Below.refl _ _).drew, hB2, by rw [List.length_set]; exact Hcl.out, ?_, fun _ => by have := Hfk.out; omega⟩
            rw [Hle2.out, Hle.out, Crc.bits_turn f Hodd.out, ← Hfk.out, Nat.xor_assoc]
          case measure => simp [intOf]; omega
    · have hk32 : k = 32 := by omega
      have hmm : m % 2 ^ k = m := by rw [hk32]; exact Nat.mod_eq_of_lt hm
      have HN := Lib.hid (show Crc.ofs bs ≠ Crc.ofs cs from Crc.tells hm c2 Hcl.out (Hin.out (by rw [hmm]; exact c2)) (by rw [Hle.out, hmm]))
      have hbw := hb.below hB
      rw [← Hcl.out]
      have hcl : cs.length ≤ 9223372036854775807 := by rw [Hcl.out]; exact hl
      clear hmm hk32
      go_wp2_with fail
      rw [Hcl.out]
      refine (sumOf_any bs a cap hl wr hbw).mono ?_
      rintro _ w3 ⟨rfl, b3⟩
      have ow3 := ow.below b3
      have hB3 : Below w.heap.size w w3 := hB.trans (b3.mono hB.size)
      rw [← Hcl.out]
      have hne : ((Crc.ofs bs : Int) != (Crc.ofs cs : Int)) = true := by
        rw [bne_iff_ne]; intro h; exact HN.out (by omega)
      go_wp2_with fail
      refine (sumOf_any cs _ cap2 hcl w3 ow3.bts).mono ?_
      rintro _ w4 ⟨rfl, b4⟩
      have hB4 : Below w.heap.size w w4 := hB3.trans (b4.mono hB3.size)
      go_wp2_with fail
      go_ret
      exact ⟨by simp, hB4⟩

set_option maxRecDepth 100000 in
theorem sumTells_lifted (os : Os) (started : os.Started) (H : Type) (enc : TypeId × Value → H) :
    ReturnsInHanded {} Try.checked os 12 .any (Rows.sumTellsSpec.pre6 enc Try.prog Try.f12 Rows.sumTellsRow.domain false) (Rows.sumTellsSpec.post enc Try.prog Try.f12 false true false false) := by
  refine returnsInHanded_of_change_sized (C := Try.checked) own started (by kernel_rfl) Try.func12
    (ChangeSpec.witness6 (enc := enc) (C := Try.checked) false ⟨#[], #[.slice none 0 0, .int .i64 0, .int .u32 0], []⟩ 8 (by kernel_rfl) (by kernel_rfl) (by kernel_rfl) (by kernel_rfl)) ?_
  intro W base args ds gs before hval0 hW hcnd hsz0 _
  have hval : ∀ (j : Nat) t v, Try.f12.params[j]? = some t → args[j]? = some v → Value.okWide Try.prog W .any base t v := hval0
  have hW' := hW
  obtain ⟨p, q, hA0, hV, rfl, hfz, hnd⟩ := hW
  have hA : DataW.TrodAll enc Try.prog W 0 (fun _ => true) true Try.f12.params.toList args.toList ds p := hA0
  rw [Try.params12] at hA hval
  obtain ⟨v0, vs0, d0, ds0, p0, q0, hargs, rfl, rfl, h0, r0⟩ := trodAll_cons hA
  obtain ⟨v1, vs1, d1, ds1, p1, q1, rfl, rfl, rfl, h1, r1⟩ := trodAll_cons r0
  obtain ⟨v2, vs2, d2, ds2, p2, q2, rfl, rfl, rfl, h2, r2⟩ := trodAll_cons r1
  obtain ⟨rfl, rfl, rfl⟩ := trodAll_nil r2
  obtain rfl : args = #[v0, v1, v2] := by cases args; simp_all
  obtain ⟨rfl, rfl⟩ := trodVars_none hV
  have k0 := h0
  have lt0 : ∀ x ∈ p0, x.block < W.heap.size := by obtain ⟨m, hm⟩ := k0; exact DataW.trod_lt m _ _ _ hm
  have k1 := h1
  have lt1 : ∀ x ∈ p1, x.block < W.heap.size := by obtain ⟨m, hm⟩ := k1; exact DataW.trod_lt m _ _ _ hm
  have k2 := h2
  have lt2 : ∀ x ∈ p2, x.block < W.heap.size := by obtain ⟨m, hm⟩ := k2; exact DataW.trod_lt m _ _ _ hm
  have hsz : (DataW.weightsEach Try.prog [25, 3, 24] [d0, d1, d2]).all (· ≤ reachBytes) = true := hsz0
  have sz0 : ∀ n ∈ DataW.weights Try.prog 25 d0, n ≤ reachBytes := fun n hn => by simpa using List.all_eq_true.1 hsz n (DataW.weights_mem_each (j := 0) rfl rfl n hn)
  have sz1 : ∀ n ∈ DataW.weights Try.prog 3 d1, n ≤ reachBytes := fun n hn => by simpa using List.all_eq_true.1 hsz n (DataW.weights_mem_each (j := 1) rfl rfl n hn)
  have sz2 : ∀ n ∈ DataW.weights Try.prog 24 d2, n ≤ reachBytes := fun n hn => by simpa using List.all_eq_true.1 hsz n (DataW.weights_mem_each (j := 2) rfl rfl n hn)
  obtain ⟨a0, len0, cap0, rfl⟩ := okWide_slice Try.underlying25 (hval 0 25 v0 rfl rfl)
  obtain ⟨z0, w0, s0⟩ := open_bytes h0 sz0
  obtain ⟨a1, rfl, rfl, rfl, w1⟩ := open_int Try.underlying3 (hval 1 3 v1 rfl rfl) h1
  obtain ⟨a2, rfl, rfl, rfl, w2⟩ := open_int Try.underlying24 (hval 2 24 v2 rfl rfl) h2
  clear hA0 hval0
  refine (sumTells_walk a0 len0 cap0 z0 a1 a2 W w0 s0 w1 w2).mono fun e W' ⟨he, bel⟩ => ?_
  subst he
  exact ⟨_, rfl, _, _, _, [], _, [], hW', trodAll_mk1 (shut_bool Try.underlying4 _), (trodAll_cons_mk (Below.trod laidOut (by kernel_rfl) (of_decide_eq_true (by kernel_rfl)) k0 bel lt0) (trodAll_cons_mk (Below.trod laidOut (by kernel_rfl) (of_decide_eq_true (by kernel_rfl)) k1 bel lt1) (trodAll_cons_mk (Below.trod laidOut (by kernel_rfl) (of_decide_eq_true (by kernel_rfl)) k2 bel lt2) trodAll_mk0))), rfl, bel.frame _, fun h => by cases h⟩

theorem sumTells_holds : Rows.SumTellsSaid :=
  OpenClaim.holds_of_wide 12 Try.f12 rfl rfl rfl rfl rfl rfl rfl ⟨rfl, rfl, rfl, rfl, rfl⟩ rfl rfl rfl rfl rfl (by kernel_rfl) Try.func12 (by kernel_rfl)
    (of_decide_eq_true (by kernel_rfl)) (by unfold Func.isWrapper; first | (rw [if_pos (by decide +kernel)]; kernel_rfl) | (rw [if_neg (by decide +kernel)]; exact ⟨rfl, rfl⟩))
    (fun os started H enc _ => sumTells_lifted os started H enc)
#print axioms sumTells_holds
end Go.Proofs.Ytdonocchidfooaa
