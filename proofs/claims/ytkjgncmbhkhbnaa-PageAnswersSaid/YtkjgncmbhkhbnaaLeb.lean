/- The bytes of a number, the number of bytes; a block with its sum. No program in sight. -/
import Derived.Test.YtkjgncmbhkhbnaaCrc
import Derived.Test.YtkjgncmbhkhbnaaCrcTell
import Derived.Laws.Bits64b
import Derived.Laws.BitsAllLaws
namespace Go.Proofs.Ytkjgncmbhkhbnaa
set_option linter.unusedVariables false

/-- the bytes of a number, the lowest first -/
def leb : Nat → Nat → List UInt8
  | 0, _ => []
  | k + 1, n => UInt8.ofNat (n % 256) :: leb k (n / 256)
theorem leb_length (k n : Nat) : (leb k n).length = k := by
  induction k generalizing n with
  | zero => rfl
  | succ k ih => simp [leb, ih]
theorem leb_get (k n j : Nat) (h : j < k) : (leb k n)[j]? = some (UInt8.ofNat (n / 256 ^ j % 256)) := by
  induction k generalizing n j with
  | zero => omega
  | succ k ih =>
    cases j with
    | zero => simp [leb]
    | succ j =>
      rw [leb, List.getElem?_cons_succ, ih _ _ (by omega), Nat.div_div_eq_div_mul, Nat.pow_succ, Nat.mul_comm 256]
theorem u8_mod (n : Nat) : ((UInt8.ofNat (n % 256)).toNat : Int) = (n : Int) % 256 := by
  rw [UInt8.toNat_ofNat']; omega
/-- the number that bytes are, the lowest first -/
def unle : List UInt8 → Nat
  | [] => 0
  | b :: t => b.toNat + 256 * unle t
theorem unle_snoc (l : List UInt8) (b : UInt8) : unle (l ++ [b]) = unle l + b.toNat * 256 ^ l.length := by
  induction l with
  | nil => simp [unle]
  | cons c l ih => simp only [List.cons_append, unle, ih, List.length_cons, Nat.pow_succ]; rw [Nat.mul_add, Nat.add_assoc]; congr 2; rw [Nat.mul_left_comm, Nat.mul_comm 256]
theorem unle_lt (l : List UInt8) : unle l < 256 ^ l.length := by
  induction l with
  | nil => simp [unle]
  | cons c l ih => simp only [unle, List.length_cons, Nat.pow_succ]; have := c.toNat_lt; omega
theorem or_shift (x b i : Nat) (hx : x < 256 ^ i) : x ||| (b * 256 ^ i) = x + b * 256 ^ i := by
  rw [show 256 = 2 ^ 8 by rfl, ← Nat.pow_mul] at *
  rw [Nat.mul_comm b, Nat.or_comm, ← Nat.two_pow_add_eq_or_of_lt hx, Nat.add_comm]
theorem or_step (x b j : Nat) (hj : j < 8) (hx : x < 256 ^ j) (hb : b < 256) : bits .or .u64 (x : Int) (IntKind.u64.wrap (IntKind.u64.wrap (b : Int) * 2 ^ (8 * j))) = ((x + b * 256 ^ j : Nat) : Int) := by
  have hp : (256 : Nat) ^ j * 256 ≤ 18446744073709551616 := by
    rw [← Nat.pow_succ, show 18446744073709551616 = 256 ^ 8 by rfl]
    exact Nat.pow_le_pow_right (by decide) (by omega)
  have h1 : b * 256 ^ j < 18446744073709551616 := by
    have h2 : (b + 1) * 256 ^ j ≤ 256 * 256 ^ j := Nat.mul_le_mul_right _ (by omega)
    have h3 : 0 < 256 ^ j := Nat.pow_pos (by decide)
    rw [Nat.add_mul] at h2
    omega
  have e0 : (2 : Int) ^ (8 * j) = ((256 ^ j : Nat) : Int) := by
    rw [show (256 : Nat) = 2 ^ 8 by rfl, ← Nat.pow_mul]; simp
  have e1 : IntKind.u64.wrap (IntKind.u64.wrap (b : Int) * 2 ^ (8 * j)) = ((b * 256 ^ j : Nat) : Int) := by
    have e2 : IntKind.u64.wrap (b : Int) = (b : Int) := by rw [IntKind.wrap_u64]; exact Int.emod_eq_of_lt (by omega) (by omega)
    rw [e2, e0, ← Int.natCast_mul, IntKind.wrap_u64]
    exact Int.emod_eq_of_lt (by omega) (by omega)
  rw [e1, bits_or_u64_nat _ _ (by omega) h1, or_shift _ _ _ hx]
theorem unle_take (l : List UInt8) (j : Nat) (hj : j < l.length) (h8 : j < 8) : bits .or .u64 ((unle (l.take j) : Nat) : Int) (IntKind.u64.wrap (IntKind.u64.wrap ((l[j]?.getD 0).toNat : Int) * 2 ^ (8 * j))) = ((unle (l.take (j + 1)) : Nat) : Int) := by
  have hl : (l.take j).length = j := by rw [List.length_take]; omega
  have h := unle_lt (l.take j)
  rw [hl] at h
  rw [or_step _ _ j h8 h (UInt8.toNat_lt _), List.take_add_one, List.getElem?_eq_getElem hj]
  simp only [Option.toList_some, Option.getD_some, unle_snoc, hl]

def fullB (b : List UInt8) : List UInt8 := b ++ List.replicate (508 - b.length) 0
def summed (b : List UInt8) : List UInt8 := b ++ leb 4 (Crc.ofs b)
theorem fullB_length {b : List UInt8} (h : b.length ≤ 508) : (fullB b).length = 508 := by simp [fullB]; omega
theorem summed_length (b : List UInt8) : (summed b).length = b.length + 4 := by simp [summed, leb_length]
/-- a number within bytes -/
def fld (bs : List UInt8) (o k : Nat) : Nat := unle ((bs.drop o).take k)
theorem unle_leb (k n : Nat) (h : n < 256 ^ k) : unle (leb k n) = n := by
  induction k generalizing n with
  | zero => simp at h; subst h; rfl
  | succ k ih =>
    rw [leb, unle, ih _ (by rw [Nat.pow_succ] at h; exact Nat.div_lt_of_lt_mul (by rw [Nat.mul_comm]; exact h)), UInt8.toNat_ofNat']
    omega
theorem fld_skip (x y : List UInt8) (o k : Nat) : fld (x ++ y) (x.length + o) k = fld y o k := by
  unfold fld
  rw [List.drop_append, List.drop_eq_nil_of_le (by omega), List.nil_append]
  congr 3; omega
theorem fld_at (k n : Nat) (y : List UInt8) (h : n < 256 ^ k) : fld (leb k n ++ y) 0 k = n := by
  unfold fld
  rw [List.drop_zero, List.take_append_of_le_length (by rw [leb_length]; exact Nat.le_refl _), List.take_of_length_le (by rw [leb_length]; exact Nat.le_refl _), unle_leb k n h]
theorem fld_leb (j m : Nat) (y : List UInt8) (o k : Nat) (h : j ≤ o) : fld (leb j m ++ y) o k = fld y (o - j) k := by
  have := fld_skip (leb j m) y (o - j) k
  rw [leb_length, Nat.add_sub_cancel' h] at this
  exact this
theorem wrap_i64_nat (n : Nat) (h : n ≤ 9223372036854775807) : IntKind.i64.wrap (n : Int) = (n : Int) := by
  simp [IntKind.wrap, IntKind.signed, IntKind.bits]; omega
theorem summed_sum (b : List UInt8) (h : b.length = 508) : unle ((summed b).drop 508) = Crc.ofs ((summed b).take 508) := by
  rw [summed, List.drop_append_of_le_length (by omega), List.take_append_of_le_length (by omega), List.drop_of_length_le (by omega), List.take_of_length_le (by omega), List.nil_append, unle_leb _ _ (Crc.ofs_lt _)]
theorem xor_ne {a x : UInt8} (h : x ≠ 0) : a ^^^ x ≠ a := by
  intro e
  apply h
  have := congrArg (a ^^^ ·) e
  simpa [← UInt8.xor_assoc] using this
theorem unle_inj {a b : List UInt8} (hl : a.length = b.length) (h : unle a = unle b) : a = b := by
  induction a generalizing b with
  | nil => cases b with
    | nil => rfl
    | cons y b => simp at hl
  | cons x a ih => cases b with
    | nil => simp at hl
    | cons y b =>
      simp only [unle] at h
      have hx := x.toNat_lt
      have hy := y.toNat_lt
      have e1 : x.toNat = y.toNat := by omega
      have e2 : unle a = unle b := by omega
      rw [UInt8.toNat_inj.1 e1, ih (by simpa using hl) e2]
theorem leb_unle (xs : List UInt8) : leb xs.length (unle xs) = xs := unle_inj (leb_length _ _) (unle_leb _ _ (unle_lt xs))
theorem leb_unle' {xs : List UInt8} {k : Nat} (h : xs.length = k) : leb k (unle xs) = xs := h ▸ leb_unle xs
end Go.Proofs.Ytkjgncmbhkhbnaa
