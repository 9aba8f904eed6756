/- What is told: bytes in which bits within 32 side by side are turned have another sum. No program in sight. -/
import Derived.Test.YtkjgncmbhkhbnaaCrc
namespace Go.Proofs.Ytkjgncmbhkhbnaa.Crc

theorem mul_pow_xor (a b n : Nat) : (a ^^^ b) * 2 ^ n = a * 2 ^ n ^^^ b * 2 ^ n := by
  have := Nat.shiftLeft_xor_distrib (a := a) (b := b) (i := n)
  simpa [Nat.shiftLeft_eq] using this
theorem mul256_xor (a b : Nat) : 256 * (a ^^^ b) = 256 * a ^^^ 256 * b := by
  have := mul_pow_xor a b 8
  rw [show (2 : Nat) ^ 8 = 256 from rfl] at this
  rw [Nat.mul_comm 256, Nat.mul_comm 256, Nat.mul_comm 256]; exact this

theorem le_set : ∀ (l : List UInt8) (i : Nat) (x : UInt8), i < l.length → le (l.set i (l.getD i 0 ^^^ x)) = le l ^^^ (x.toNat * 256 ^ i)
  | [], i, x, h => by simp at h
  | b :: l, 0, x, _ => by
    have hb := b.toNat_lt
    have hx := (b ^^^ x).toNat_lt
    have e : (b :: l).getD 0 0 = b := rfl
    rw [List.set_cons_zero, e, le_cons, le_cons, add256 _ _ (by omega), add256 _ _ (by omega), Nat.pow_zero, Nat.mul_one]
    rw [UInt8.toNat_xor, Nat.xor_assoc, Nat.xor_assoc, Nat.xor_comm x.toNat]
  | b :: l, i + 1, x, h => by
    have hb := b.toNat_lt
    have e : (b :: l).getD (i + 1) 0 = l.getD i 0 := by simp [List.getD_eq_getElem?_getD]
    have ih := le_set l i x (by simpa using h)
    rw [List.set_cons_succ, le_cons, le_cons, e, ih, add256 _ _ (by omega), add256 _ _ (by omega), mul256_xor, ← Nat.xor_assoc]
    congr 1
    rw [Nat.pow_succ, Nat.mul_comm (256 ^ i) 256, ← Nat.mul_assoc, ← Nat.mul_assoc, Nat.mul_comm x.toNat 256]

/-- bit t of bytes turned -/
theorem le_turn (l : List UInt8) (t : Nat) (h : t / 8 < l.length) (x : UInt8) (hx : x.toNat = 2 ^ (t % 8)) : le (l.set (t / 8) (l.getD (t / 8) 0 ^^^ x)) = le l ^^^ 2 ^ t := by
  rw [le_set l (t / 8) x h, hx]
  congr 1
  rw [show (256 : Nat) = 2 ^ 8 from rfl, ← Nat.pow_mul, ← Nat.pow_add]
  congr 1; omega

theorem bits_keep {m k : Nat} (h : m / 2 ^ k % 2 = 0) : m % 2 ^ (k + 1) = m % 2 ^ k := by
  rw [mod_succ_pow, if_neg (by omega), Nat.xor_zero]
theorem bits_turn {m k : Nat} (f : Nat) (h : ¬ m / 2 ^ k % 2 = 0) : m % 2 ^ (k + 1) * 2 ^ f = m % 2 ^ k * 2 ^ f ^^^ 2 ^ (f + k) := by
  rw [mod_succ_pow, if_pos (by omega), mul_pow_xor, ← Nat.pow_add, Nat.add_comm k f]

theorem tells {b c : List UInt8} {m f : Nat} (hm : m < 4294967296) (h0 : m ≠ 0) (hl : c.length = b.length) (hf : f < 8 * b.length) (hle : le c = le b ^^^ (m * 2 ^ f)) : ofs b ≠ ofs c := by
  intro he
  have h1 : on 4294967295 b = on 4294967295 c := by
    have e1 : ∀ l, no (ofs l) = on 4294967295 l := fun l => no_no _
    rw [← e1, ← e1, he]
  rw [on_le, on_le, hl, hle, ← Nat.xor_assoc, stps_xor _ (4294967295 ^^^ le b)] at h1
  have h2 : stps (8 * b.length) (m * 2 ^ f) = 0 := by
    have := congrArg (fun x => stps (8 * b.length) (4294967295 ^^^ le b) ^^^ x) h1
    simp only [← Nat.xor_assoc, Nat.xor_self, Nat.zero_xor] at this
    exact this.symm
  have h3 : 8 * b.length = f + (8 * b.length - f) := by omega
  rw [h3, stps_add, Nat.mul_comm m, stps_shift] at h2
  have h4 : stps (8 * b.length - f) m = stps (8 * b.length - f) 0 := by rw [h2, stps_zero']
  exact h0 (stps_inj _ hm (by omega) h4)
end Go.Proofs.Ytkjgncmbhkhbnaa.Crc
