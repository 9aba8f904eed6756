/- The program's low. -/
import Derived.Test.YtkjgncmbhkhbnaaEB
namespace Go.Proofs.Ytkjgncmbhkhbnaa
open Go.RowKit
set_option linter.unusedVariables false
set_option maxRecDepth 100000

/-- the block g is lengthened -/
def EGrew (g m : Nat) (bs : List UInt8) (w : World) (e : Ending) (w' : World) : Prop :=
  e = .returned (.slice (some ⟨g, 0, none⟩) m 512) ∧ EB w' g bs ∧ Chg (fun k => k = g) w w'
def RelPL (W : World) (g : Nat) (bs : List UInt8) (n x : Nat) (o xv i : Value) (wr : World) : Prop :=
  ∃ k : Nat, k ≤ n ∧ i = .int .i64 k ∧ xv = .int .u64 ((x / 256 ^ k : Nat) : Int) ∧ o = .slice (some ⟨g, 0, none⟩) (bs.length + k) 512 ∧ EB wr g (bs ++ (leb n x).take k) ∧ Chg (fun k => k = g) W wr
theorem relPL_next {W wr W1 w2 : World} {g : Nat} {bs : List UInt8} {n x k : Nat} {b : UInt8} (hk : k < n) (hb : (leb n x)[k]? = some b) (hC : Chg (fun k => k = g) W wr) (hW : Below wr.heap.size wr W1)
    (hE : EB w2 g (bs ++ (leb n x).take k ++ [b])) (hC2 : Chg (fun k => k = g) W1 w2) {i xv : Value} (hi : i = .int .i64 ((k + 1 : Nat) : Int)) (hx : xv = .int .u64 ((x / 256 ^ (k + 1) : Nat) : Int)) : RelPL W g bs n x (.slice (some ⟨g, 0, none⟩) (bs.length + (k + 1)) 512) xv i w2 := by
  subst hi
  subst hx
  refine ⟨k + 1, hk, rfl, rfl, rfl, ?_, ?_⟩
  · rw [List.take_add_one, hb]
    simpa using hE
  · exact (hC.trans (Chg.of_below hW) (fun i _ e => e)).trans hC2 (fun i hi e => e)
set_option maxHeartbeats 2000000 in
theorem pLow_any (g m : Nat) (bs : List UInt8) (x n : Nat) (hx : x < 18446744073709551616) (hn : n ≤ 8) (hm : m = bs.length) (hl : m + n ≤ 512) (w : World) (h : EB w g bs) :
    Calls Try.prog 49 #[.slice (some ⟨g, 0, none⟩) m 512, .int .u64 (x : Int), .int .i64 (n : Int)] w (EGrew g (m + n) (bs ++ leb n x) w) := by
  have Hh := Lib.hid h
  have Hm := Lib.hid hm
  clear h hm
  go_enter Try.func49, Try.ntmps49
  go_wp2_with fail
  go_loopw [0, 1, 8] (fun o xv i wr => RelPL w g bs n x o xv i wr) (fun _ _ i _ => n - (intOf i).toNat)
  case atStart => exact ⟨0, Nat.zero_le _, rfl, by simp, by rw [Hm.out]; rfl, by simpa using Hh.out, Chg.refl _ _⟩
  case round =>
    obtain ⟨k, hk, rfl, rfl, rfl, hE, hC⟩ := hrel
    rw [← Hm.out]
    by_cases hlt : k < n
    · have hbk := leb_get n x k hlt
      have hbv : ((x / 256 ^ k : Nat) : Int) % 256 = (((UInt8.ofNat (x / 256 ^ k % 256)).toNat : Nat) : Int) := (u8_mod _).symm
      have hxv : ((x / 256 ^ k : Nat) : Int) / 256 = ((x / 256 ^ (k + 1) : Nat) : Int) := by rw [Nat.pow_succ, ← Nat.div_div_eq_div_mul]; rfl
      have hxl : x / 256 ^ k < 18446744073709551616 := Nat.lt_of_le_of_lt (Nat.div_le_self _ _) hx
      have Hnx := Lib.hid fun W1 w2 hW hO hC2 i xv hi hx => relPL_next (W := w) (wr := wr) (W1 := W1) (w2 := w2) (g := g) (bs := bs) (i := i) (xv := xv) hlt hbk hC hW hO hC2 hi hx
      generalize UInt8.ofNat (x / 256 ^ k % 256) = b at hbv Hnx
      generalize x / 256 ^ (k + 1) = x2 at hxv Hnx
      generalize x / 256 ^ k = x1 at hbv hxv hxl ⊢
      have hb1 := one_below wr (.cells #[.int .u8 (b.toNat : Int)] 5)
      have hE2 := hE.below hb1
      have hx1 := one_news wr b
      have hlk : m + k = (bs ++ (leb n x).take k).length := by rw [List.length_append, Hm.out, List.length_take, leb_length]; omega
      have Hb1 := Lib.hid hb1
      have Hlk := Lib.hid hlk
      rw [← Hm.out] at Hnx
      clear hE hC hbk hb1 hlk
      go_wp2_with (at_builtin; refine wpList_append_eb rfl (.tmp 10) (.tmp 13) rfl rfl hE2 Hlk.out rfl (xs := [b]) rfl hx1 (by omega) ?_
                   intro w2 hE3 hC2 hz2)
      refine ⟨Hnx.out _ _ Hb1.out hE3 hC2 _ _ (by go_num) ?_, by simp [intOf]; omega⟩
      rfl
    · have hkn : k = n := by omega
      subst hkn
      have HF : EGrew g (m + k) (bs ++ leb k x) w (.returned (.slice (some ⟨g, 0, none⟩) (m + k) 512)) wr := by
        have ht : (leb k x).take k = leb k x := List.take_of_length_le (by rw [leb_length]; exact Nat.le_refl _)
        rw [ht] at hE
        exact ⟨rfl, hE, hC⟩
      have HF := Lib.hid HF
      clear hE hC
      go_wp2_with fail
      go_ret
      exact HF.out
end Go.Proofs.Ytkjgncmbhkhbnaa
