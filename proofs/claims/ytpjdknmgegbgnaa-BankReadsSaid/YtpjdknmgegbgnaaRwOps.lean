/- The document's writer: Number, Put, Raw, Short, Fill, Done, NewWriter. -/
import Derived.Test.YtpjdknmgegbgnaaRwPut
namespace Go.Proofs.Ytpjdknmgegbgnaa
open Go.RowKit
set_option linter.unusedVariables false

def RelNum (w0 : World) (m n : Nat) (x o i : Value) (wr : World) : Prop :=
  ∃ (k : Nat) (oa : Option Addr) (cap : Nat), k ≤ m ∧ i = .int .i64 k ∧ x = .int .u64 ((n / 256 ^ k : Nat) : Int) ∧ o = .slice oa k cap ∧ OB wr oa cap ((leb m n).take k) ∧ (∀ j, blk oa = some j → w0.heap.size ≤ j) ∧ Below w0.heap.size w0 wr
theorem relNum_next {w0 wr w1 : World} {m n k : Nat} {oa oa2 : Option Addr} {cap2 : Nat} {b : UInt8} (hk : k < m) (hb : (leb m n)[k]? = some b) (hoa : ∀ j, blk oa = some j → w0.heap.size ≤ j) (hB : Below w0.heap.size w0 wr) {o : Obj}
    (hO : OB w1 oa2 cap2 ((leb m n).take k ++ [b])) (hC : Chg (fun j => blk oa = some j) (wr.alloc o) w1) (hb2 : blk oa2 = blk oa ∨ blk oa2 = some (wr.alloc o).heap.size) {i x : Value} (hi : i = .int .i64 ((k + 1 : Nat) : Int)) (hx : x = .int .u64 ((n / 256 ^ k / 256 : Nat) : Int)) : RelNum w0 m n x (.slice oa2 (k + 1) cap2) i w1 := by
  subst hi hx
  have hB2 := hB.alloc hB.size o
  have hkl : k < (leb m n).length := (List.getElem?_eq_some_iff.1 hb).1
  refine ⟨k + 1, oa2, cap2, hk, rfl, by rw [Nat.pow_succ, Nat.div_div_eq_div_mul], rfl, ?_, fun j hj => ?_, hB2.trans (hC.below hB2.size hoa)⟩
  · rw [List.take_succ_eq_append_getElem hkl, (List.getElem?_eq_some_iff.1 hb).2]; exact hO
  · rcases hb2 with h | h
    · exact hoa j (by rw [← h]; exact hj)
    · rw [h] at hj; cases hj; exact hB2.size

set_option maxHeartbeats 1000000 in
theorem number_any (n : Nat) (hn : n < 18446744073709551616) (m : Nat) (hm : m ≤ 8) (w : World) :
    Calls Try.prog 73 #[.int .u64 (n : Int), .int .i64 (m : Int)] w (NewB w (leb m n)) := by
  go_enter Try.func73, Try.ntmps73
  go_wp2_with fail
  go_loopw [0, 5, 6] (fun x o i wr => RelNum w m n x o i wr) (fun _ _ i _ => m - (intOf i).toNat)
  case atStart => exact ⟨0, none, 0, Nat.zero_le _, rfl, by simp, rfl, OB.nil _, fun j h => (by cases h), Below.refl _ _⟩
  case round =>
    obtain ⟨k, oa, cap, hk, rfl, rfl, rfl, hO, hoa, hB⟩ := hrel
    by_cases hlt : k < m
    · have hy := u8_mod (n / 256 ^ k)
      have hyb : n / 256 ^ k < 18446744073709551616 := Nat.lt_of_le_of_lt (Nat.div_le_self _ _) hn
      have HN := Lib.hid fun (w1 : World) (oa2 : Option Addr) (cap2 : Nat) (o : Obj) (i x : Value) => relNum_next (w1 := w1) (oa2 := oa2) (cap2 := cap2) (o := o) (i := i) (x := x) hlt (leb_get m n k hlt) hoa hB
      have Hl := Lib.hid (show k = ((leb m n).take k).length by rw [List.length_take, leb_length]; omega)
      generalize UInt8.ofNat (n / 256 ^ k % 256) = b at hy HN
      generalize n / 256 ^ k = y at hy hyb HN
      have hO2 := hO.below ((Below.refl _ _).alloc (Nat.le_refl _) (.cells #[.int .u8 (b.toNat : Int)] 5))
      have hx := one_new wr b
      rw [hy] at hO2 hx
      clear hO hoa hB hy
      go_wp2_with (at_builtin; refine wpList_append_bytes rfl (.tmp 12) (.tmp 15) rfl (m := 1) (xs := [b]) Hl.out rfl hO2 rfl rfl hx (fun e => by cases e) (by omega) ?_
                   intro oa2 cap2 w2 hO3 hC2 hb2 _)
      go_roundw
      case rel => exact HN.out _ _ _ _ _ _ hO3 hC2 hb2 (by go_num) (by go_num)
      case measure => simp [intOf]; omega
    · have hke : (leb m n).take k = leb m n := List.take_of_length_le (by rw [leb_length]; omega)
      rw [hke] at hO
      obtain rfl : k = m := by omega
      have HF : NewB w (leb k n) (.returned (.slice oa k cap)) wr := ⟨oa, cap, by rw [leb_length], hO, hoa, hB⟩
      have HF := Lib.hid HF
      clear hO hoa hB hke
      go_wp2_with fail
      go_ret
      exact HF.out

set_option maxHeartbeats 400000 in
theorem rwPut_any (p : Nat) (oa : Option Addr) (cap : Nat) (s : WS) (n : Nat) (hn : n < 18446744073709551616) (m : Nat) (hm : m ≤ 8) (w : World) (h : IsW w p oa cap s) :
    Calls Try.prog 54 #[.pointer (some ⟨p, 0, none⟩), .int .u64 (n : Int), .int .i64 (m : Int)] w fun r w' => r = .returned (.tuple #[]) ∧ Wrote w p oa (s.add (leb m n)) w' := by
  have H := Lib.hid (number_any n hn m hm w)
  have Hs := Lib.hid h
  have hp := h.lt
  have hblk := h.2.1.lt
  clear h
  go_enter Try.func54, Try.ntmps54
  go_wp2_with fail
  refine H.out.mono ?_
  rintro _ w1 ⟨oa1, c1, rfl, hO, hb, hB⟩
  have H2 := Lib.hid (rput_any p oa cap s oa1 c1 (leb m n) (by rw [leb_length]; omega) w1 (Hs.out.below hB) hO.bts (.inr fun k hk => ⟨by have := hb k hk; omega, fun e => by have := hb k hk; have := hblk _ e; omega⟩))
  have HB := Lib.hid hB
  clear hO hb hB
  go_wp2_with fail
  refine H2.out.mono ?_
  rintro _ w2 ⟨rfl, h2⟩
  go_wp2_with fail
  go_end0
  exact ⟨rfl, Wrote.below HB.out h2⟩

set_option maxHeartbeats 400000 in
theorem rwNew_any (most : Int) (w : World) :
    Calls Try.prog 53 #[.int .i64 most] w fun r w' => r = .returned (.pointer (some ⟨w.heap.size, 0, none⟩)) ∧ IsW w' w.heap.size none 0 (WS.new most) ∧ Below w.heap.size w w' := by
  have fin : ∀ m : Int, (m.toNat : Int) = m → m = min (max most 0) 16777216 → IsW (w.alloc (.cells #[.int .i64 m, .slice none 0 0, .int .i64 0] 80)) w.heap.size none 0 (WS.new most) ∧ Below w.heap.size w (w.alloc (.cells #[.int .i64 m, .slice none 0 0, .int .i64 0] 80)) := fun m h1 h2 => by
    refine ⟨⟨⟨80, (heap_alloc_new w _).trans ?_⟩, OB.nil _, by simp [blk], Nat.zero_le _, ?_, Nat.zero_le _⟩, (Below.refl _ _).alloc (Nat.le_refl _) _⟩
    · simp only [WS.new, ← h2, h1]; rfl
    · simp only [WS.new]; omega
  have Fin := Lib.hid fin
  clear fin
  by_cases h0 : most < 0
  · go_enter Try.func53, Try.ntmps53
    go_wp2_with fail
    go_ret
    exact ⟨rfl, Fin.out 0 (by omega) (by omega)⟩
  by_cases h1 : 16777216 < most
  · go_enter Try.func53, Try.ntmps53
    go_wp2_with fail
    go_ret
    exact ⟨rfl, Fin.out 16777216 (by omega) (by omega)⟩
  go_enter Try.func53, Try.ntmps53
  go_wp2_with fail
  go_ret
  exact ⟨rfl, Fin.out most (by omega) (by omega)⟩

end Go.Proofs.Ytpjdknmgegbgnaa
