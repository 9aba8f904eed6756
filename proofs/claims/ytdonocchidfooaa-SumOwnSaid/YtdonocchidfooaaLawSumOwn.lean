/- SumOwn: any bytes with their own sum behind them have one sum. No condition. -/
import Derived.Test.YtdonocchidfooaaRefC
import Derived.Test.YtdonocchidfooaaArgs
import Derived.Test.YtdonocchidfooaaJoined
namespace Go.Proofs.Ytdonocchidfooaa
open Go.ChangeShapes Go.WideShapes Go.ChangeAt Go.RowKit
set_option linter.unusedVariables false

/-- the four bytes of a sum, the lowest first -/
def four (s : Nat) : List UInt8 := [UInt8.ofNat (s % 256), UInt8.ofNat (s / 256 % 256), UInt8.ofNat (s / 65536 % 256), UInt8.ofNat (s / 16777216 % 256)]
theorem b_back (n : Nat) : ((UInt8.ofNat (n % 256)).toNat : Int) = (n : Int) % 256 := by
  rw [UInt8.toNat_ofNat']; omega
theorem le_four (s : Nat) (h : s < 4294967296) : Crc.le (four s) = s := by
  simp only [four, Crc.le, UInt8.toNat_ofNat']
  omega
theorem own_sum (bs : List UInt8) : Crc.ofs (bs ++ four (Crc.ofs bs)) = 1214729159 := by
  have h1 : Crc.ofs bs = Crc.no (Crc.on 4294967295 bs) := rfl
  have h2 : Crc.ofs (bs ++ four (Crc.ofs bs)) = Crc.no (Crc.on (Crc.on 4294967295 bs) (four (Crc.ofs bs))) := by
    rw [← Crc.on_append]; rfl
  have h3 : Crc.on 4294967295 bs ^^^ Crc.ofs bs = 4294967295 := by
    rw [h1, Crc.no_eq, Nat.xor_comm 4294967295, ← Nat.xor_assoc, Nat.xor_self, Nat.zero_xor]
  rw [h2, Crc.on_le, le_four _ (Crc.ofs_lt bs), h3, show (four (Crc.ofs bs)).length = 4 from rfl]
  decide +kernel
theorem four_cells (s : Nat) (h : s < 4294967296) : (#[.int .u8 ((s : Int) % 256), .int .u8 ((s : Int) / 256 % 256), .int .u8 ((s : Int) / 65536 % 256), .int .u8 ((s : Int) / 16777216)] : Array Value) = (cellsB (four s)).toArray := by
  have e0 := b_back s
  have e1 := b_back (s / 256)
  have e2 := b_back (s / 65536)
  have e3 := b_back (s / 16777216)
  simp only [cellsB, four, List.map_cons, List.map_nil, e0, e1, e2, e3]
  rw [show ((s / 256 : Nat) : Int) = (s : Int) / 256 by omega, show ((s / 65536 : Nat) : Int) = (s : Int) / 65536 by omega, show ((s / 16777216 : Nat) : Int) % 256 = (s : Int) / 16777216 by omega]

set_option maxHeartbeats 400000 in
theorem sumOwn_walk (a : Option Addr) (len cap : Nat) (z : List Int) (w : World) (hr : IsRow .u8 w a len cap z) (hs : cap ≤ 140737488351232) :
    Calls Try.prog 13 #[.slice a len cap] w fun e w' => e = .returned (.bool true) ∧ Below w.heap.size w w' := by
  have hl := hr.len_le
  have hlc := hr.len_cap
  obtain ⟨bs, rfl, hb⟩ := hr.bts
  clear hr
  have HO := Lib.hid (own_sum bs)
  go_enter Try.func13, Try.ntmps13
  go_wp2_with fail
  refine (sumOf_any bs a cap hl w hb).mono ?_
  rintro _ w2 ⟨rfl, b2⟩
  have hb2 := hb.below b2
  have hof := Crc.ofs_lt bs
  generalize hq : Crc.ofs bs = s at HO hof
  clear hq
  go_wp2_with fail
  refine (fixed_any w2).mono ?_
  rintro _ w3 ⟨rfl, b3⟩
  have hb3 := hb2.below b3
  replace b3 := b2.trans (b3.mono b2.size)
  clear hb b2 hb2
  go_wp2_with fail
  rw [four_cells s hof]
  have ow := OwnB.made w3 (four s) (by show 4 ≤ maxLen; decide)
  have hb4 := hb3.below ((Below.refl _ _).alloc (Nat.le_refl _) (.cells (cellsB (four s)).toArray 5))
  have b4 := b3.alloc b3.size (.cells (cellsB (four s)).toArray 5)
  refine (joined_any bs (four s) a _ cap 4 (by show bs.length + 4 ≤ _; omega) _ hb4 ow.bts).mono ?_
  rintro _ w5 ⟨g, cap5, rfl, ow5, b5⟩
  have hlen : (bs ++ four s).length ≤ 9223372036854775807 := by rw [List.length_append]; show bs.length + 4 ≤ _; omega
  replace b5 := b4.trans (b5.mono b4.size)
  generalize bs ++ four s = tt at HO ow5 hlen
  clear ow hb3 hb4 b3 b4
  go_wp2_with fail
  refine (sumOf_any tt _ cap5 hlen w5 ow5.bts).mono ?_
  rintro _ w6 ⟨rfl, b6⟩
  rw [HO.out]
  replace b6 := b5.trans (b6.mono b5.size)
  go_wp2_with fail
  go_ret
  exact ⟨rfl, b6⟩

set_option maxRecDepth 100000 in
theorem sumOwn_lifted (os : Os) (started : os.Started) (H : Type) (enc : TypeId × Value → H) :
    ReturnsInHanded {} Try.checked os 13 .any (Rows.sumOwnSpec.pre6 enc Try.prog Try.f13 Rows.sumOwnRow.domain false) (Rows.sumOwnSpec.post enc Try.prog Try.f13 false true false false) := by
  refine returnsInHanded_of_change_sized (C := Try.checked) own started (by kernel_rfl) Try.func13
    (ChangeSpec.witness6 (enc := enc) (C := Try.checked) false ⟨#[], #[.slice none 0 0], []⟩ 8 (by kernel_rfl) (by kernel_rfl) (by kernel_rfl) (by kernel_rfl)) ?_
  intro W base args ds gs before hval0 hW hcnd hsz0 _
  have hval : ∀ (j : Nat) t v, Try.f13.params[j]? = some t → args[j]? = some v → Value.okWide Try.prog W .any base t v := hval0
  have hW' := hW
  obtain ⟨p, q, hA0, hV, rfl, hfz, hnd⟩ := hW
  have hA : DataW.TrodAll enc Try.prog W 0 (fun _ => true) true Try.f13.params.toList args.toList ds p := hA0
  rw [Try.params13] at hA hval
  obtain ⟨v0, vs0, d0, ds0, p0, q0, hargs, rfl, rfl, h0, r0⟩ := trodAll_cons hA
  obtain ⟨rfl, rfl, rfl⟩ := trodAll_nil r0
  obtain rfl : args = #[v0] := by cases args; simp_all
  obtain ⟨rfl, rfl⟩ := trodVars_none hV
  have k0 := h0
  have lt0 : ∀ x ∈ p0, x.block < W.heap.size := by obtain ⟨m, hm⟩ := k0; exact DataW.trod_lt m _ _ _ hm
  have hsz : (DataW.weightsEach Try.prog [25] [d0]).all (· ≤ reachBytes) = true := hsz0
  have sz0 : ∀ n ∈ DataW.weights Try.prog 25 d0, n ≤ reachBytes := fun n hn => by simpa using List.all_eq_true.1 hsz n (DataW.weights_mem_each (j := 0) rfl rfl n hn)
  obtain ⟨a0, len0, cap0, rfl⟩ := okWide_slice Try.underlying25 (hval 0 25 v0 rfl rfl)
  obtain ⟨z0, w0, s0⟩ := open_bytes h0 sz0
  clear hA0 hval0
  refine (sumOwn_walk a0 len0 cap0 z0 W w0 s0).mono fun e W' ⟨he, bel⟩ => ?_
  subst he
  exact ⟨_, rfl, _, _, _, [], _, [], hW', trodAll_mk1 (shut_bool Try.underlying4 _), (trodAll_cons_mk (Below.trod laidOut (by kernel_rfl) (of_decide_eq_true (by kernel_rfl)) k0 bel lt0) trodAll_mk0), rfl, bel.frame _, fun h => by cases h⟩

theorem sumOwn_holds : Rows.SumOwnSaid :=
  OpenClaim.holds_of_wide 13 Try.f13 rfl rfl rfl rfl rfl rfl rfl ⟨rfl, rfl, rfl, rfl, rfl⟩ rfl rfl rfl rfl rfl (by kernel_rfl) Try.func13 (by kernel_rfl)
    (of_decide_eq_true (by kernel_rfl)) (by unfold Func.isWrapper; first | (rw [if_pos (by decide +kernel)]; kernel_rfl) | (rw [if_neg (by decide +kernel)]; exact ⟨rfl, rfl⟩))
    (fun os started H enc _ => sumOwn_lifted os started H enc)
#print axioms sumOwn_holds
end Go.Proofs.Ytdonocchidfooaa
