/- Plain laws of the sums of chapter 1: steps, bytes gone over, turns (matrices), the round, what is told. No program in sight. -/
namespace Go.Proofs.Ytkjgncmbhkhbnaa.Crc

/-- one step -/
def stp (w : Nat) : Nat := if w % 2 = 1 then (w / 2) ^^^ 2197175160 else w / 2
/-- so many steps -/
def stps : Nat → Nat → Nat
  | 0, w => w
  | k + 1, w => stps k (stp w)

theorem div2_xor (a b : Nat) : (a ^^^ b) / 2 = a / 2 ^^^ b / 2 := by
  have := Nat.shiftRight_xor_distrib (a := a) (b := b) (i := 1); simpa [Nat.shiftRight_eq_div_pow] using this

theorem xor_xor_self (x c : Nat) : x ^^^ c ^^^ c = x := by rw [Nat.xor_assoc, Nat.xor_self, Nat.xor_zero]

theorem stp_xor (a b : Nat) : stp (a ^^^ b) = stp a ^^^ stp b := by
  unfold stp
  have hm := Nat.xor_mod_two_eq_one (a := a) (b := b)
  rw [div2_xor]
  by_cases ha : a % 2 = 1 <;> by_cases hb : b % 2 = 1 <;> simp only [hm, ha, hb, if_true, if_false, not_true, not_false_iff, iff_true, iff_false, eq_self]
  · rw [Nat.xor_assoc, ← Nat.xor_assoc 2197175160, Nat.xor_comm 2197175160 (b / 2), xor_xor_self]
  · rw [Nat.xor_assoc, Nat.xor_assoc, Nat.xor_comm 2197175160 (b / 2)]
  · rw [Nat.xor_assoc]

theorem stp_zero : stp 0 = 0 := rfl
theorem stps_zero' (k : Nat) : stps k 0 = 0 := by induction k with
  | zero => rfl
  | succ k ih => exact ih

theorem stps_xor (k a b : Nat) : stps k (a ^^^ b) = stps k a ^^^ stps k b := by
  induction k generalizing a b with
  | zero => rfl
  | succ k ih => simp only [stps]; rw [stp_xor, ih]

theorem stps_add (a b w : Nat) : stps (a + b) w = stps b (stps a w) := by
  induction a generalizing w with
  | zero => simp [stps]
  | succ a ih => rw [Nat.add_right_comm]; simp only [stps]; exact ih _

theorem stp_lt {w : Nat} (h : w < 4294967296) : stp w < 4294967296 := by
  unfold stp
  split
  · exact Nat.xor_lt_two_pow (n := 32) (by omega) (by omega)
  · omega
theorem stps_lt (k : Nat) {w : Nat} (h : w < 4294967296) : stps k w < 4294967296 := by
  induction k generalizing w with
  | zero => exact h
  | succ k ih => exact ih (stp_lt h)

theorem stp_even (w : Nat) : stp (2 * w) = w := by unfold stp; rw [if_neg (by omega)]; omega
theorem stps_shift (k w : Nat) : stps k (2 ^ k * w) = w := by
  induction k generalizing w with
  | zero => simp [stps]
  | succ k ih =>
    simp only [stps]
    rw [show 2 ^ (k + 1) * w = 2 * (2 ^ k * w) from by rw [Nat.pow_succ]; rw [Nat.mul_comm (2 ^ k) 2, Nat.mul_assoc], stp_even, ih]

/-- half a byte at once -/
theorem split16 (w : Nat) : w = (16 * (w / 16)) ^^^ (w % 16) := by
  have h : 16 * (w / 16) ^^^ (w % 16) = 16 * (w / 16) + w % 16 := by
    have := (Nat.two_pow_add_eq_or_of_lt (i := 4) (b := w % 16) (by omega) (w / 16)).symm
    rw [show (2:Nat)^4 = 16 from rfl] at this
    rw [← this]
    apply Nat.eq_of_testBit_eq; intro i
    rw [Nat.testBit_xor, Nat.testBit_or]
    by_cases hi : i < 4
    · have : (16 * (w / 16)).testBit i = false := by
        rw [show 16 * (w/16) = 2 ^ 4 * (w/16) from rfl, Nat.testBit_two_pow_mul]; simp; omega
      simp [this]
    · have : (w % 16).testBit i = false := by
        rw [show 16 = 2 ^ 4 from rfl, Nat.testBit_mod_two_pow]; simp; omega
      simp [this]
  rw [h]; omega

theorem stps4 (w : Nat) : stps 4 w = (w / 16) ^^^ stps 4 (w % 16) := by
  conv => lhs; rw [split16 w]
  rw [stps_xor]
  congr 1
  exact stps_shift 4 (w / 16)
theorem stps8 (w : Nat) : stps 8 w = stps 4 (stps 4 w) := stps_add 4 4 w

/-- eight steps -/
def eig (w : Nat) : Nat := stps 8 w
theorem eig_eq (w : Nat) : eig w = stps 8 w := rfl
attribute [irreducible] eig
/-- gone on over bytes -/
def on (w : Nat) : List UInt8 → Nat
  | [] => w
  | b :: l => on (eig (w ^^^ b.toNat)) l

theorem on_append (w : Nat) (a b : List UInt8) : on w (a ++ b) = on (on w a) b := by
  induction a generalizing w with
  | nil => rfl
  | cons x a ih => exact ih _
theorem on_lt {w : Nat} (h : w < 4294967296) (l : List UInt8) : on w l < 4294967296 := by
  induction l generalizing w with
  | nil => exact h
  | cons x l ih =>
    have hx := x.toNat_lt
    have h2 : w ^^^ x.toNat < 4294967296 := Nat.xor_lt_two_pow (n := 32) h (by omega)
    refine ih ?_
    rw [eig_eq]; exact stps_lt 8 h2

theorem on_snoc (w : Nat) (l : List UInt8) (x : UInt8) : on w (l ++ [x]) = eig (on w l ^^^ x.toNat) := by
  rw [on_append]; rfl

/-- the number that the bytes are, the lowest first -/
def le : List UInt8 → Nat
  | [] => 0
  | b :: l => b.toNat + 256 * le l

theorem add256 (b D : Nat) (h : b < 256) : b + 256 * D = b ^^^ (256 * D) := by
  have := (Nat.two_pow_add_eq_or_of_lt (i := 8) (b := b) (by omega) D)
  rw [show (2:Nat)^8 = 256 from rfl] at this
  rw [Nat.add_comm, this]
  apply Nat.eq_of_testBit_eq; intro i
  rw [Nat.testBit_xor, Nat.testBit_or]
  by_cases hi : i < 8
  · have : (256 * D).testBit i = false := by
      rw [show 256 * D = 2 ^ 8 * D from rfl, Nat.testBit_two_pow_mul]; simp; omega
    simp [this]
  · have : b.testBit i = false := Nat.testBit_lt_two_pow (by
      have : 2 ^ 8 ≤ 2 ^ i := Nat.pow_le_pow_right (by omega) (by omega)
      omega)
    simp [this]

theorem on_cons (w : Nat) (b : UInt8) (l : List UInt8) : on w (b :: l) = on (eig (w ^^^ b.toNat)) l := rfl
theorem le_cons (b : UInt8) (l : List UInt8) : le (b :: l) = b.toNat + 256 * le l := rfl
theorem stps8_256 (x : Nat) : stps 8 (256 * x) = x := stps_shift 8 x
theorem e3 (w : Nat) (b : UInt8) (D : Nat) : stps 8 (w ^^^ (b.toNat + 256 * D)) = stps 8 (w ^^^ b.toNat) ^^^ D := by
  have hb := b.toNat_lt
  have e2 : w ^^^ (b.toNat + 256 * D) = (w ^^^ b.toNat) ^^^ (256 * D) := by rw [add256 _ _ (by omega), Nat.xor_assoc]
  rw [e2]; exact (stps_xor 8 _ _).trans (congrArg _ (stps8_256 _))
theorem on_le (w : Nat) (l : List UInt8) : on w l = stps (8 * l.length) (w ^^^ le l) := by
  induction l generalizing w with
  | nil => exact (Nat.xor_zero w).symm
  | cons b l ih =>
    have e : 8 * (b :: l).length = 8 + 8 * l.length := by rw [List.length_cons]; omega
    rw [e, stps_add, le_cons, e3, on_cons, ih, eig_eq]

theorem on_xor (a b : Nat) (l : List UInt8) : on (a ^^^ b) l = stps (8 * l.length) a ^^^ on b l := by
  rw [on_le, on_le, Nat.xor_assoc, stps_xor]

/-- a step is one to one -/
def back (v : Nat) : Nat := if 2147483648 ≤ v then 2 * (v ^^^ 2197175160) + 1 else 2 * v
theorem back_stp {w : Nat} (h : w < 4294967296) : back (stp w) = w := by
  unfold back stp
  split
  · rename_i ho
    have h2 : w / 2 < 2147483648 := by omega
    have hbit : (w / 2 ^^^ 2197175160).testBit 31 = true := by
      rw [Nat.testBit_xor, Nat.testBit_lt_two_pow (x := w / 2) (i := 31) h2]; decide
    have hge : 2147483648 ≤ w / 2 ^^^ 2197175160 := Nat.ge_two_pow_of_testBit hbit
    rw [if_pos hge, xor_xor_self]; omega
  · rw [if_neg (by omega)]; omega
theorem stp_inj {a b : Nat} (ha : a < 4294967296) (hb : b < 4294967296) (h : stp a = stp b) : a = b := by
  rw [← back_stp ha, ← back_stp hb, h]
theorem stps_inj (k : Nat) {a b : Nat} (ha : a < 4294967296) (hb : b < 4294967296) (h : stps k a = stps k b) : a = b := by
  induction k generalizing a b with
  | zero => exact h
  | succ k ih => exact stp_inj ha hb (ih (stp_lt ha) (stp_lt hb) h)

/-- what a number becomes, if bit i becomes m i: the first k bits -/
def tur (m : Nat → Nat) : Nat → Nat → Nat
  | 0, _ => 0
  | k + 1, w => tur m k w ^^^ (if w / 2 ^ k % 2 = 1 then m k else 0)

theorem mod_succ_pow (w k : Nat) : w % 2 ^ (k + 1) = (w % 2 ^ k) ^^^ (if w / 2 ^ k % 2 = 1 then 2 ^ k else 0) := by
  apply Nat.eq_of_testBit_eq; intro i
  rw [Nat.testBit_xor, Nat.testBit_mod_two_pow, Nat.testBit_mod_two_pow]
  have hk : w.testBit k = decide (w / 2 ^ k % 2 = 1) := by rw [Nat.testBit_eq_decide_div_mod_eq]
  by_cases hb : w / 2 ^ k % 2 = 1
  · rw [if_pos hb, Nat.testBit_two_pow]
    by_cases e : k = i
    · subst e; simp [hk, hb]
    · rcases Nat.lt_or_ge i k with h | h
      · simp [h, e, Nat.lt_succ_of_lt h]
      · have : ¬ i < k := by omega
        have : ¬ i < k + 1 := by omega
        simp [*]
  · rw [if_neg hb]
    by_cases e : i = k
    · subst e; simp [hk, hb]
    · rcases Nat.lt_or_ge i k with h | h
      · simp [h, Nat.lt_succ_of_lt h]
      · have : ¬ i < k := by omega
        have : ¬ i < k + 1 := by omega
        simp [*]

theorem tur_lin (m : Nat → Nat) (n k : Nat) (h : ∀ i, i < k → m i = stps n (2 ^ i)) (w : Nat) : tur m k w = stps n (w % 2 ^ k) := by
  induction k with
  | zero => simp [tur, Nat.mod_one, stps_zero']
  | succ k ih =>
    rw [tur, ih (fun i hi => h i (by omega)), mod_succ_pow, stps_xor]
    congr 1
    split
    · exact h k (by omega)
    · exact (stps_zero' n).symm
theorem tur_all (m : Nat → Nat) (n : Nat) (h : ∀ i, i < 32 → m i = stps n (2 ^ i)) {w : Nat} (hw : w < 4294967296) : tur m 32 w = stps n w := by
  rw [tur_lin m n 32 h, Nat.mod_eq_of_lt hw]
theorem tur_twice (m : Nat → Nat) (n : Nat) (h : ∀ i, i < 32 → m i = stps n (2 ^ i)) (i : Nat) (hi : i < 32) : tur m 32 (m i) = stps (2 * n) (2 ^ i) := by
  have hp : 2 ^ i < 4294967296 := Nat.pow_lt_pow_right (by omega) hi
  rw [h i hi, tur_all m n h (stps_lt n hp), ← stps_add]; congr 1; omega

/-- all 32 bits turned -/
def no (w : Nat) : Nat := 4294967295 ^^^ w
theorem no_eq (w : Nat) : no w = 4294967295 ^^^ w := rfl
attribute [irreducible] no
theorem no_lt {w : Nat} (h : w < 4294967296) : no w < 4294967296 := by rw [no_eq]; exact Nat.xor_lt_two_pow (n := 32) (by omega) h
theorem no_no (w : Nat) : no (no w) = w := by rw [no_eq, no_eq, ← Nat.xor_assoc, Nat.xor_self, Nat.zero_xor]

/-- the sum of bytes; the sum that goes on; n bytes 0; two sums joined -/
def ofs (l : List UInt8) : Nat := no (on 4294967295 l)
def mor (s : Nat) (l : List UInt8) : Nat := no (on (no s) l)
def zer (n : Nat) : Nat := no (stps (8 * n) 4294967295)
def joi (a b n : Nat) : Nat := stps (8 * n) a ^^^ b
theorem ofs_lt (l : List UInt8) : ofs l < 4294967296 := no_lt (on_lt (by omega) l)
theorem mor_lt {s : Nat} (h : s < 4294967296) (l : List UInt8) : mor s l < 4294967296 := no_lt (on_lt (no_lt h) l)
theorem zer_lt (n : Nat) : zer n < 4294967296 := no_lt (stps_lt _ (by omega))
theorem joi_lt {a b : Nat} (h : a < 4294967296) (h2 : b < 4294967296) (n : Nat) : joi a b n < 4294967296 := Nat.xor_lt_two_pow (n := 32) (stps_lt _ h) h2

end Go.Proofs.Ytkjgncmbhkhbnaa.Crc
