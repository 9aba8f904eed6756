/- The walk of the document's number of chapter 9. -/
import Derived.Test.YthkopgmkdenebaaSupV
import Derived.Deep.QuietTactic
namespace Go.Proofs.Ythkopgmkdenebaa
open Go.RowKit
set_option linter.unusedVariables false
set_option maxRecDepth 100000

theorem or_byte (u b : Nat) (hb : b < 256) : bits .or .i64 (wrap64 (wrap64 (u : Int) * 2 ^ 8)) (b : Int) = wrap64 ((u * 256 + b : Nat) : Int) := by
  have e1 : BitVec.ofInt 64 (wrap64 (wrap64 (u : Int) * 2 ^ 8)) = BitVec.ofNat 64 (u * 256) := by
    apply BitVec.eq_of_toNat_eq
    rw [BitVec.toNat_ofInt, BitVec.toNat_ofNat]
    unfold wrap64
    omega
  have e2 : BitVec.ofInt 64 (b : Int) = BitVec.ofNat 64 b := by
    apply BitVec.eq_of_toNat_eq
    rw [BitVec.toNat_ofInt, BitVec.toNat_ofNat]
    omega
  have key : (BitVec.ofInt 64 (wrap64 (wrap64 (u : Int) * 2 ^ 8)) ||| BitVec.ofInt 64 (b : Int)).toNat = (u * 256 + b) % 2 ^ 64 := by
    rw [e1, e2, BitVec.toNat_or, BitVec.toNat_ofNat, BitVec.toNat_ofNat]
    have h1 : u * 256 % 2 ^ 64 = 2 ^ 8 * (u % 2 ^ 56) := by omega
    rw [h1, Nat.mod_eq_of_lt (show b < 2 ^ 64 by omega), ← Nat.two_pow_add_eq_or_of_lt (i := 8) (by omega)]
    omega
  show IntKind.i64.wrap ((BitVec.ofInt 64 (wrap64 (wrap64 (u : Int) * 2 ^ 8)) ||| BitVec.ofInt 64 (b : Int)).toNat : Nat) = _
  rw [key, IntKind.wrap_i64]
  unfold wrap64
  omega
/-- the number that n bytes at a place say, as the document reckons it -/
def numAt (bs : List UInt8) (o n : Nat) : Int := wrap64 (fld bs o n : Nat)
theorem fld_step {bs : List UInt8} {o k n : Nat} (hk : k < n) (ho : o + n ≤ bs.length) : unle ((bs.drop (o + k)).take (n - k)) = unle ((bs.drop (o + (k + 1))).take (n - (k + 1))) * 256 + (bs.getD (o + k) 0).toNat := by
  have hl : o + k < bs.length := by omega
  rw [List.drop_eq_getElem_cons hl, show n - k = (n - (k + 1)) + 1 by omega, List.take_succ_cons, unle, List.getD_eq_getElem?_getD, List.getElem?_eq_getElem hl]
  simp only [Option.getD_some]
  rw [show o + (k + 1) = o + k + 1 by omega]
  omega
def RelNum (W : World) (bs : List UInt8) (o n : Nat) (x i : Value) (wr : World) : Prop :=
  ∃ k : Nat, k ≤ n ∧ i = .int .i64 ((k : Int) - 1) ∧ x = .int .i64 (wrap64 (unle ((bs.drop (o + k)).take (n - k)) : Nat)) ∧ wr = W

set_option maxHeartbeats 2000000 in
theorem dNumber_any (bs : List UInt8) (o n : Nat) (ho : o + n ≤ bs.length) (hn : n ≤ 8) (hl : bs.length ≤ 140737488355328) (a : Option Addr) (cap : Nat) (w : World) (h : Bts w a bs) :
    Calls Try.prog 59 #[.slice a bs.length cap, .int .i64 (o : Int), .int .i64 (n : Int)] w fun e w' => e = .returned (.int .i64 (numAt bs o n)) ∧ w' = w := by
  have Hb := Lib.hid h
  obtain ⟨m, hm⟩ : ∃ m, bs.length = m := ⟨_, rfl⟩
  have Hm := Lib.hid hm
  rw [hm] at ho hl ⊢
  clear h hm
  go_enter Try.func59, Try.ntmps59
  go_wp2_with fail
  go_loopw [7, 8] (fun x i wr => RelNum w bs o n x i wr) (fun _ i _ => (intOf i + 1).toNat)
  case atStart => exact ⟨n, Nat.le_refl _, rfl, by simp [unle, wrap64], rfl⟩
  case round =>
    obtain ⟨k, hk, rfl, rfl, rfl⟩ := hrel
    by_cases h0 : k = 0
    · subst h0
      have hf : numAt bs o n = wrap64 (unle ((bs.drop (o + 0)).take (n - 0)) : Nat) := by rw [numAt, fld]; rfl
      have HF := Lib.hid hf
      clear hf
      generalize wrap64 (unle ((bs.drop (o + 0)).take (n - 0)) : Nat) = r at HF ⊢
      rw [show (((0 : Nat) : Int) - 1) = -1 from rfl]
      go_wp2_with fail
      go_ret
      exact ⟨by rw [HF.out]; rfl, rfl⟩
    · obtain ⟨j, rfl⟩ : ∃ j, k = j + 1 := ⟨k - 1, by omega⟩
      have hst := fld_step (bs := bs) (o := o) (k := j) (n := n) (by omega) (by rw [Hm.out]; exact ho)
      have HS := Lib.hid hst
      obtain ⟨b0, off, rfl, -, hc⟩ := Hb.out.at (k := o + j) (by rw [Hm.out]; omega)
      have hor := or_byte (unle ((bs.drop (o + (j + 1))).take (n - (j + 1)))) (bs.getD (o + j) 0).toNat (UInt8.toNat_lt _)
      rw [← hst] at hor
      have hbl := (bs.getD (o + j) 0).toNat_lt
      generalize hu1 : unle ((bs.drop (o + j)).take (n - j)) = u1 at hor HS
      have HU := Lib.hid hu1
      clear hu1
      generalize unle ((bs.drop (o + (j + 1))).take (n - (j + 1))) = u at hor HS ⊢
      generalize (bs.getD (o + j) 0).toNat = b at hor hc hbl HS
      rw [show (((j + 1 : Nat) : Int) - 1) = (j : Int) by omega]
      rw [show (2 : Int) ^ 8 = 256 from rfl] at hor
      have HO := Lib.hid hor
      clear hst h0 hor
      go_wp2_with fail
      exact ⟨⟨j, by omega, rfl, by rw [HU.out, HO.out], rfl⟩, by simp [intOf]⟩
end Go.Proofs.Ythkopgmkdenebaa
