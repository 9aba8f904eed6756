/- The walks of work's end and of WireWrites. -/
import Derived.Test.YtofialinjbjcmaaWork
import Derived.Test.YtofialinjbjcmaaDuoEnd
namespace Go.Proofs.Ytofialinjbjcmaa
open Go.RowKit
set_option linter.unusedVariables false

def Op2.bare (kind : Int) : Op2 := ⟨kind, 0, 0, none, 0, []⟩
theorem bare_fits (kind : Int) (h : -9223372036854775808 ≤ kind ∧ kind ≤ 9223372036854775807) : (Op2.bare kind).fits := ⟨(by decide : (0 : Nat) < 18446744073709551616), (by decide : -9223372036854775808 ≤ (0 : Int) ∧ (0 : Int) ≤ 9223372036854775807), (by decide : (0 : Nat) ≤ 140737488351232), h, fun _ => rfl⟩
theorem write_bare (kind : Int) (hk : -9223372036854775808 ≤ kind ∧ kind ≤ 9223372036854775807) (B x : Nat) (s : WS) (d : Duo) (w : World) (hI : IsDuo (PW s) (PW s) True B w x d) (hB : B ≤ w.heap.size) (hn : d.es.length ≤ 1000000) :
    Calls Try.prog 10 #[.pointer (some ⟨x, 0, none⟩), .agg #[.int .i64 kind, .int .u64 0, .slice none 0 0, .int .i64 0]] w fun r w' => r = .returned (.bool true) ∧ Both True B w x d (d.es.length + 1) w' :=
  write_any B x True s d (Op2.bare kind) (bare_fits kind hk) w hI hB hn (.inl rfl) (.inl rfl)

def RelEnd (B : Nat) (w0 : World) (x : Nat) (d : Duo) (i : Value) (wr : World) : Prop := ∃ j : Nat, j ≤ 2 ∧ i = .int .i64 j ∧ Both True B w0 x d (d.es.length + j) wr

set_option maxHeartbeats 2000000 in
theorem wend_any (B x : Nat) (s : WS) (d : Duo) (w : World) (hI : IsDuo (PW s) (PW s) True B w x d) (hB : B ≤ w.heap.size) (hn : d.es.length ≤ 900000) :
    Calls Try.prog 11 #[.pointer (some ⟨x, 0, none⟩)] w fun r w' => r = .returned (.bool true) ∧ Chg (Own d x) w w' := by
  have HI := Lib.hid hI
  have Hown := Lib.hid fun b (h : Own d x b) => hI.lt h
  clear hI
  go_enter Try.func11, Try.ntmps11
  go_wp2_with fail
  go_loopw [3] (fun i wr => RelEnd B w x d i wr) (fun i _ => 2 - (intOf i).toNat)
  case atStart => exact ⟨0, by omega, rfl, s, d, HI.out, Step.refl _ _ _, Nat.le_refl _⟩
  case round =>
    obtain ⟨j, hj, rfl, s1, d1, hI1, hS1, hn1⟩ := hrel
    by_cases hlt : j < 2
    · have H := Lib.hid (write_bare 6 (by decide) B x s1 d1 wr hI1 (Nat.le_trans hB hS1.1.size) (by omega))
      have HS1 := Lib.hid hS1
      clear hI1 hS1
      go_wp2_with fail
      refine H.out.mono ?_
      rintro _ w2 ⟨rfl, s2, d2, hI2, hS2, hn2⟩
      have HN := Lib.hid (show RelEnd B w x d (.int .i64 ((j + 1 : Nat) : Int)) w2 from ⟨j + 1, by omega, rfl, s2, d2, hI2, HS1.out.trans hS2 fun b hb => (Hown.out b hb).2, by omega⟩)
      clear hI2 hS2
      go_wp2_with fail
      go_roundw
      case rel => exact HN.out
      case measure => simp [intOf]; omega
    · obtain ⟨x0, x1, x2, xf⟩ := hI1.cells
      have HA := Lib.hid (ApB.apart_any d1.ta d1.capt d1.es (by omega) (fun e he => by have := (hI1.2.2.2.2.1 e he).1; omega) hI1.sepL wr hI1.lrow (fun b hb => hI1.mine_no 5 b (by rw [← hb]; rfl) (by decide)) (fun b hb => (hI1.lt (Duo.mem_ta hb)).2) (fun e he => (hI1.2.2.2.2.1 e he).2 trivial))
      have HI1 := Lib.hid hI1
      have HS1 := Lib.hid hS1
      clear hI1 hS1
      go_wp2_with fail
      refine HA.out.mono ?_
      rintro _ w2 ⟨rfl, hC2⟩
      obtain ⟨hI2, hC2'⟩ := HI1.out.aparted (PW.stable s1) (PW.stable s1) hC2
      obtain ⟨hI3, hS3⟩ := hI2.reset (PW.stable s1) (PW.stable s1)
      have hI3' : IsDuo (PW s1) (PW s1) True B (w2.setCell ⟨x, 2, none⟩ (.slice none 0 0)) x { d1 with ta := none, capt := 0, es := [] } := ⟨hI3.1, hI3.2.1, hI3.2.2.1, hI3.2.2.2.1, fun e he => (by cases he), hI3.2.2.2.2.2⟩
      have hS13 : Step w d (w2.setCell ⟨x, 2, none⟩ (.slice none 0 0)) { d1 with ta := none, capt := 0, es := [] } x := HS1.out.trans (Step.trans (d1 := d1) ⟨hC2', fun b h => .inl h⟩ hS3 fun b hb => (HI1.out.lt hb).2) fun b hb => (Hown.out b hb).2
      have hz3 : B ≤ (w2.setCell ⟨x, 2, none⟩ (.slice none 0 0)).heap.size := Nat.le_trans hB hS13.1.size
      clear x0 x1 x2 xf
      obtain ⟨x0, x1, x2, xf⟩ := hI2.cells
      have xf2 := xf 2
      have H6 := Lib.hid (write_bare 6 (by decide) B x s1 _ _ hI3' hz3 (by show 0 ≤ _; omega))
      have HS13 := Lib.hid hS13
      have Hz3 := Lib.hid hz3
      clear hI2 hI3 hI3' hS3 hS13 hz3 hC2 hC2' xf x0 x1
      go_wp2_with fail
      refine H6.out.mono ?_
      rintro _ w4 ⟨rfl, s4, d4, hI4, hS4, hn4⟩
      have hS4' := HS13.out.trans hS4 fun b hb => (Hown.out b hb).2
      have H7 := Lib.hid (write_bare 7 (by decide) B x s4 d4 w4 hI4 (Nat.le_trans hB hS4'.1.size) (by simp at hn4; omega))
      have HS4 := Lib.hid hS4'
      clear hI4 hS4 hS4' hn4 x2 xf2
      go_wp2_with fail
      refine H7.out.mono ?_
      rintro _ w5 ⟨rfl, s5, d5, hI5, hS5, -⟩
      have HF := Lib.hid (HS4.out.trans hS5 fun b hb => (Hown.out b hb).2).1
      clear hI5 hS5
      go_wp2_with fail
      go_ret
      exact ⟨rfl, HF.out⟩

def RelWW (w0 : World) (x : Nat) (i : Value) (wr : World) : Prop := ∃ (j : Nat) (s : WS) (d : Duo), j ≤ 300 ∧ i = .int .i64 j ∧ IsDuo (PW s) (PW s) True w0.heap.size wr x d ∧ d.es.length ≤ j ∧ Below w0.heap.size w0 wr

/-- the two writers, newly made -/
theorem duo_new {w w1 w2 : World} {s : WS} (h1 : IsW w1 w.heap.size none 0 s) (hB1 : Below w.heap.size w w1) (h2 : IsW w2 w1.heap.size none 0 s) (hB2 : Below w1.heap.size w1 w2) (B : Nat) (hB : B ≤ w.heap.size) :
    IsDuo (PW s) (PW s) True B (w2.alloc (.cells #[.pointer (some ⟨w.heap.size, 0, none⟩), .pointer (some ⟨w1.heap.size, 0, none⟩), .slice none 0 0] 31)) w2.heap.size ⟨w.heap.size, w1.heap.size, none, none, none, 0, []⟩ := by
  have l1 := h1.lt
  have l2 := h2.lt
  refine IsDuo.start (PW.stable s) (PW.stable s) _ (Nat.le_trans hB (Nat.le_trans hB1.size hB2.size)) (PW.of (h1.below hB2)) (PW.of h2) ?_ ?_
  · intro i j k hi hj
    have key : ∀ i, [some w.heap.size, some w1.heap.size, none, none][i]? = some (some k) → (i = 0 ∧ k = w.heap.size) ∨ (i = 1 ∧ k = w1.heap.size) := fun i h => by
      match i, h with
      | 0, h => left; exact ⟨rfl, by simpa using h.symm⟩
      | 1, h => right; exact ⟨rfl, by simpa using h.symm⟩
      | 2, h => cases h
      | 3, h => cases h
      | i + 4, h => simp at h
    rcases key i hi with ⟨a, b⟩ | ⟨a, b⟩ <;> rcases key j hj with ⟨c, d⟩ | ⟨c, d⟩ <;> omega
  · intro b hb
    simp only [List.mem_cons, List.not_mem_nil, or_false, Option.some.injEq, reduceCtorEq] at hb
    have := hB1.size
    have := hB2.size
    rcases hb with rfl | rfl <;> omega

set_option maxHeartbeats 2000000 in
theorem wireWrites_all (most : Int) (os : List Op2) (a : Option Addr) (len m cap : Nat) (w : World) (hom : os.length = m) (ho : OpsAt w.heap.size w a os) (hm : m ≤ 300) (hmc : m ≤ cap) (hmin : (if (300 : Int) < (len : Int) then (300 : Int) else (len : Int)) = (m : Int)) :
    Calls Try.prog 4 #[.int .i64 most, .slice a len cap] w fun e w' => e = .returned (.bool true) ∧ Below w.heap.size w w' := by
  have Hom := Lib.hid hom
  have Ho := Lib.hid ho
  clear hom ho
  go_enter Try.func4, Try.ntmps4
  go_wp2_with fail
  clear hmin
  refine (newWriter_any most w).mono ?_
  rintro _ w1 ⟨rfl, hW1, hB1⟩
  have HW1 := Lib.hid hW1
  have HB1 := Lib.hid hB1
  clear hW1 hB1
  go_wp2_with fail
  refine (rwNew_any most w1).mono ?_
  rintro _ w2 ⟨rfl, hW2, hB2⟩
  have hD := duo_new HW1.out HB1.out hW2 hB2 w.heap.size (Nat.le_refl _)
  have HB2 := Lib.hid ((HB1.out.trans (hB2.mono HB1.out.size)).alloc (HB1.out.trans (hB2.mono HB1.out.size)).size (.cells #[.pointer (some ⟨w.heap.size, 0, none⟩), .pointer (some ⟨w1.heap.size, 0, none⟩), .slice none 0 0] 31))
  have HD := Lib.hid hD
  clear hW2 hB2 hD
  go_wp2_with fail
  go_loopw [6] (fun i wr => RelWW w w2.heap.size i wr) (fun i _ => m - (intOf i).toNat)
  case atStart => exact ⟨0, _, _, by omega, rfl, HD.out, Nat.le_refl _, HB2.out⟩
  case round =>
    obtain ⟨j, s, d, hj, rfl, hI, hn, hB⟩ := hrel
    by_cases hlt : j < m
    · obtain ⟨o, hoj⟩ : ∃ o, os[j]? = some o := ⟨_, List.getElem?_eq_getElem (by rw [Hom.out]; exact hlt)⟩
      obtain ⟨bb, off, rfl, hbb, hf, ⟨l0, l1, l2, l3⟩, hbt, hbl⟩ := (Ho.out.below hB).at hoj
      have H := write_any w.heap.size w2.heap.size True s d o hf wr hI hB.size (by omega) hbt hbl
      simp only [Op2.val] at H
      have H := Lib.hid H
      have Hl := Lib.hid fun b (h : Own d w2.heap.size b) => hI.lt h
      have HB := Lib.hid hB
      clear hI hB hf hbt hbl hoj
      go_wp2_with fail
      refine H.out.mono ?_
      rintro _ w3 ⟨rfl, s3, d3, hI3, hS3, hn3⟩
      have HN := Lib.hid (show RelWW w w2.heap.size (.int .i64 ((j + 1 : Nat) : Int)) w3 from ⟨j + 1, s3, d3, by omega, rfl, hI3, by omega, HB.out.trans (hS3.below HB.out.size fun b hb => (Hl.out b hb).1)⟩)
      clear hI3 hS3
      go_wp2_with fail
      go_roundw
      case rel => exact HN.out
      case measure => simp [intOf]; omega
    · have H := Lib.hid (wend_any w.heap.size w2.heap.size s d wr hI hB.size (by omega))
      have Hl := Lib.hid fun b (h : Own d w2.heap.size b) => hI.lt h
      have HB := Lib.hid hB
      clear hI hB
      go_wp2_with fail
      refine H.out.mono ?_
      rintro _ w3 ⟨rfl, hC⟩
      have HF := Lib.hid (HB.out.trans (hC.below HB.out.size fun b hb => (Hl.out b hb).1))
      clear hC
      go_wp2_with fail
      go_ret
      exact ⟨rfl, HF.out⟩
theorem wireWrites_walk (most : Int) (a : Option Addr) (len cap : Nat) (w : World) (hr : IsOps w a len) (hl : len ≤ cap) :
    Calls Try.prog 4 #[.int .i64 most, .slice a len cap] w fun e w' => e = .returned (.bool true) ∧ Below w.heap.size w w' := by
  obtain ⟨os, h1, h2⟩ := hr.list
  by_cases h : len ≤ 300
  · exact wireWrites_all most os a len len cap w h1 h2 h hl (by rw [if_neg (by omega)])
  · exact wireWrites_all most (os.take 300) a len 300 cap w (by rw [List.length_take]; omega) (h2.take 300) (Nat.le_refl _) (by omega) (by rw [if_pos (by omega)]; rfl)
end Go.Proofs.Ytofialinjbjcmaa
