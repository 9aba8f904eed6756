/- A bank's blocks: the plain law. No program in sight. -/
import Derived.Test.YtpjdknmgegbgnaaRdGet
import Derived.Test.YtpjdknmgegbgnaaCrcTell
namespace Go.Proofs.Ytpjdknmgegbgnaa
open Go.RowKit
set_option linter.unusedVariables false

def fullB (b : List UInt8) : List UInt8 := b ++ List.replicate (508 - b.length) 0
def summed (b : List UInt8) : List UInt8 := b ++ leb 4 (Crc.ofs b)
theorem fullB_length {b : List UInt8} (h : b.length ≤ 508) : (fullB b).length = 508 := by simp [fullB]; omega
theorem summed_length (b : List UInt8) : (summed b).length = b.length + 4 := by simp [summed, leb_length]
/-- a number within bytes -/
def fld (bs : List UInt8) (o k : Nat) : Nat := unle ((bs.drop o).take k)
theorem unle_leb (k n : Nat) (h : n < 256 ^ k) : unle (leb k n) = n := by
  induction k generalizing n with
  | zero => simp at h; subst h; rfl
  | succ k ih =>
    rw [leb, unle, ih _ (by rw [Nat.pow_succ] at h; exact Nat.div_lt_of_lt_mul (by rw [Nat.mul_comm]; exact h)), UInt8.toNat_ofNat']
    omega
theorem fld_skip (x y : List UInt8) (o k : Nat) : fld (x ++ y) (x.length + o) k = fld y o k := by
  unfold fld
  rw [List.drop_append, List.drop_eq_nil_of_le (by omega), List.nil_append]
  congr 3; omega
theorem fld_at (k n : Nat) (y : List UInt8) (h : n < 256 ^ k) : fld (leb k n ++ y) 0 k = n := by
  unfold fld
  rw [List.drop_zero, List.take_append_of_le_length (by rw [leb_length]; exact Nat.le_refl _), List.take_of_length_le (by rw [leb_length]; exact Nat.le_refl _), unle_leb k n h]
theorem fld_leb (j m : Nat) (y : List UInt8) (o k : Nat) (h : j ≤ o) : fld (leb j m ++ y) o k = fld y (o - j) k := by
  have := fld_skip (leb j m) y (o - j) k
  rw [leb_length, Nat.add_sub_cancel' h] at this
  exact this
theorem wrap_i64_nat (n : Nat) (h : n ≤ 9223372036854775807) : IntKind.i64.wrap (n : Int) = (n : Int) := by
  simp [IntKind.wrap, IntKind.signed, IntKind.bits]; omega
theorem summed_sum (b : List UInt8) (h : b.length = 508) : unle ((summed b).drop 508) = Crc.ofs ((summed b).take 508) := by
  rw [summed, List.drop_append_of_le_length (by omega), List.take_append_of_le_length (by omega), List.drop_of_length_le (by omega), List.take_of_length_le (by omega), List.nil_append, unle_leb _ _ (Crc.ofs_lt _)]
theorem xor_ne {a x : UInt8} (h : x ≠ 0) : a ^^^ x ≠ a := by
  intro e
  apply h
  have := congrArg (a ^^^ ·) e
  simpa [← UInt8.xor_assoc] using this
theorem unle_inj {a b : List UInt8} (hl : a.length = b.length) (h : unle a = unle b) : a = b := by
  induction a generalizing b with
  | nil => cases b with
    | nil => rfl
    | cons y b => simp at hl
  | cons x a ih => cases b with
    | nil => simp at hl
    | cons y b =>
      simp only [unle] at h
      have hx := x.toNat_lt
      have hy := y.toNat_lt
      have e1 : x.toNat = y.toNat := by omega
      have e2 : unle a = unle b := by omega
      rw [UInt8.toNat_inj.1 e1, ih (by simpa using hl) e2]
/-- one byte is another: told by the sum -/
theorem sum_tells {bs : List UInt8} (hl : bs.length = 512) (hs : unle (bs.drop 508) = Crc.ofs (bs.take 508)) {o : Nat} (ho : o < 512) {x : UInt8} (hx : x ≠ 0) :
    unle ((bs.set o (bs.getD o 0 ^^^ x)).drop 508) ≠ Crc.ofs ((bs.set o (bs.getD o 0 ^^^ x)).take 508) := by
  by_cases h : o < 508
  · rw [List.drop_set_of_lt h, hs, List.take_set]
    have e : bs.getD o 0 = (bs.take 508).getD o 0 := by rw [List.getD_eq_getElem?_getD, List.getD_eq_getElem?_getD, List.getElem?_take_of_lt h]
    rw [e]
    have hx0 : x.toNat ≠ 0 := fun e => hx (UInt8.toNat_inj.1 e)
    have hlt := x.toNat_lt
    have h1 := Crc.le_set (bs.take 508) o x (by rw [List.length_take]; omega)
    rw [show 256 ^ o = 2 ^ (8 * o) by rw [Nat.pow_mul]] at h1
    exact Crc.tells (m := x.toNat) (f := 8 * o) (by omega) hx0 (by rw [List.length_set]) (by rw [List.length_take]; omega) h1
  · rw [List.take_set_of_le (by omega), ← hs, List.drop_set]
    intro e
    rw [if_neg h] at e
    have := unle_inj (by rw [List.length_set]) e
    have h2 := congrArg (·[o - 508]?) this
    rw [List.getElem?_set_self (by rw [List.length_drop]; omega), List.getElem?_drop, show 508 + (o - 508) = o by omega, List.getElem?_eq_getElem (by omega), List.getD_eq_getElem?_getD, List.getElem?_eq_getElem (by omega)] at h2
    exact xor_ne hx (Option.some.inj h2)

theorem leb_unle {xs : List UInt8} {k : Nat} (h : xs.length = k) : leb k (unle xs) = xs := by
  subst h
  exact unle_inj (leb_length _ _) (unle_leb _ _ (unle_lt xs))
theorem leb_fld {bs : List UInt8} {o k : Nat} (h : o + k ≤ bs.length) : leb k (fld bs o k) = (bs.drop o).take k := leb_unle (by rw [List.length_take, List.length_drop]; omega)
theorem fld_lt (bs : List UInt8) (o k : Nat) : fld bs o k < 256 ^ k := by
  unfold fld
  have := unle_lt ((bs.drop o).take k)
  rw [List.length_take] at this
  exact Nat.lt_of_lt_of_le this (Nat.pow_le_pow_right (by decide) (by omega))
/-- counts as bytes -/
def cntB (xs : List Nat) : List UInt8 := xs.flatMap (leb 2)
theorem cntB_length (xs : List Nat) : (cntB xs).length = 2 * xs.length := by
  induction xs with
  | nil => rfl
  | cons x xs ih =>
    have e : cntB (x :: xs) = leb 2 x ++ cntB xs := rfl
    rw [e, List.length_append, leb_length, ih, List.length_cons]; omega
theorem cntB_snoc {xs : List Nat} {k x : Nat} (h : xs[k]? = some x) : cntB (xs.take (k + 1)) = cntB (xs.take k) ++ leb 2 x := by
  rw [List.take_add_one, h]; simp [cntB]
/-- what stands ahead of the counts -/
def bhead (gen i n : Nat) : List UInt8 := leb 1 66 ++ leb 8 gen ++ leb 4 i ++ leb 4 n
theorem bhead_length (gen i n : Nat) : (bhead gen i n).length = 17 := by simp [bhead, leb_length]
/-- a block -/
def blk1 (gen i n : Nat) (xs : List Nat) : List UInt8 := summed (fullB (bhead gen i n ++ cntB xs))
def nblocks (n : Nat) : Nat := (n + 239) / 240
def inBlk (n i : Nat) : Nat := min (n - i * 240) 240
def part (cs : List Nat) (i : Nat) : List Nat := (cs.drop (i * 240)).take 240
theorem part_length (cs : List Nat) (i : Nat) : (part cs i).length = inBlk cs.length i := by simp [part, inBlk]; omega
theorem inBlk_le (n i : Nat) : inBlk n i ≤ 240 := by unfold inBlk; omega
theorem blk1_length {gen i n : Nat} {xs : List Nat} (h : xs.length ≤ 240) : (blk1 gen i n xs).length = 512 := by
  rw [blk1, summed_length, fullB_length (by rw [List.length_append, bhead_length, cntB_length]; omega)]
/-- numbers of two bytes each -/
def numsAt (bs : List UInt8) (o n : Nat) : List Nat := (List.range n).map fun k => fld bs (o + 2 * k) 2
theorem numsAt_length (bs : List UInt8) (o n : Nat) : (numsAt bs o n).length = n := by simp [numsAt]
theorem numsAt_snoc (bs : List UInt8) (o n : Nat) : numsAt bs o (n + 1) = numsAt bs o n ++ [fld bs (o + 2 * n) 2] := by simp [numsAt, List.range_succ]
theorem numsAt_lt {bs : List UInt8} {o n : Nat} : ∀ x ∈ numsAt bs o n, x < 65536 := by
  intro x hx
  simp only [numsAt, List.mem_map] at hx
  obtain ⟨k, -, rfl⟩ := hx
  exact fld_lt _ _ 2
theorem numsAt_back : ∀ {xs : List Nat} (x y : List UInt8), (∀ v ∈ xs, v < 65536) → numsAt (x ++ (cntB xs ++ y)) x.length xs.length = xs := by
  intro xs
  induction xs with
  | nil => intro x y _; rfl
  | cons v xs ih =>
    intro x y h
    have e : cntB (v :: xs) = leb 2 v ++ cntB xs := rfl
    have h1 : fld (x ++ (cntB (v :: xs) ++ y)) x.length 2 = v := by
      have := fld_skip x (cntB (v :: xs) ++ y) 0 2
      rw [Nat.add_zero] at this
      rw [this, e, List.append_assoc, fld_at 2 v _ (h v (by simp))]
    have h2 := ih (x ++ leb 2 v) y (fun z hz => h z (by simp [hz]))
    rw [List.length_cons]
    unfold numsAt at h2 ⊢
    rw [List.range_succ_eq_map, List.map_cons, List.map_map]
    congr 1
    refine Eq.trans ?_ h2
    apply List.map_congr_left
    intro k _
    simp only [Function.comp, e]
    rw [List.length_append, leb_length]
    congr 1
    · simp
    · omega
theorem cntB_nums {bs : List UInt8} {o : Nat} : ∀ {n : Nat}, o + 2 * n ≤ bs.length → cntB (numsAt bs o n) = (bs.drop o).take (2 * n)
  | 0, _ => rfl
  | n + 1, h => by
    have h1 := cntB_nums (bs := bs) (o := o) (n := n) (by omega)
    rw [numsAt_snoc, show 2 * (n + 1) = 2 * n + 2 by omega, List.take_add, List.drop_drop, ← h1, ← leb_fld (by omega)]
    simp [cntB]
/-- what Block answers -/
def mayB (gen pages i : Int) : Prop := (0 ≤ gen ∧ gen ≤ 1099511627776) ∧ (0 ≤ pages ∧ pages ≤ 65536) ∧ 0 ≤ i ∧ i < (nblocks pages.toNat : Nat)
instance (gen pages i : Int) : Decidable (mayB gen pages i) := by unfold mayB; infer_instance
def bread (gen pages i : Nat) (bs : List UInt8) : Int × List Nat :=
  if bs.length ≠ 512 then (16, [])
  else if unle (bs.drop 508) ≠ Crc.ofs (bs.take 508) then (6, [])
  else if fld bs 0 1 ≠ 66 then (5, [])
  else if ¬ (fld bs 1 8 = gen ∧ fld bs 9 4 = i ∧ fld bs 13 4 = pages) then (25, [])
  else if ((bs.take 508).drop (17 + 2 * inBlk pages i)).all (· == 0) = false then (5, []) else (0, numsAt bs 17 (inBlk pages i))
def bblock (gen pages i : Int) (bs : List UInt8) : Int × List Nat :=
  if mayB gen pages i then bread gen.toNat pages.toNat i.toNat bs else (1, [])
theorem zeros_eq {l : List UInt8} (h : l.all (· == 0) = true) : l = List.replicate l.length 0 := by
  rw [List.eq_replicate_iff]
  refine ⟨rfl, fun b hb => ?_⟩
  have := List.all_eq_true.1 h b hb
  simpa using this
/-- a block that is taken is just this one -/
theorem bread_one {gen pages i : Nat} {bs : List UInt8} {l : List Nat} (h : bread gen pages i bs = (0, l)) :
    bs = blk1 gen i pages l ∧ l.length = inBlk pages i ∧ (∀ v ∈ l, v < 65536) ∧ bs.length = 512 ∧ unle (bs.drop 508) = Crc.ofs (bs.take 508) ∧ fld bs 1 8 = gen ∧ fld bs 9 4 = i ∧ fld bs 13 4 = pages := by
  unfold bread at h
  split at h
  · cases h
  rename_i h1
  split at h
  · cases h
  rename_i h2
  split at h
  · cases h
  rename_i h3
  split at h
  · cases h
  rename_i h4
  split at h
  · cases h
  rename_i h5
  have h1 := Decidable.not_not.1 h1
  have h2 := Decidable.not_not.1 h2
  have h3 := Decidable.not_not.1 h3
  obtain ⟨h4, h6, h7⟩ := Decidable.not_not.1 h4
  have hn := inBlk_le pages i
  injection h with _ h
  subst h
  refine ⟨?_, numsAt_length _ _ _, numsAt_lt, h1, h2, h4, h6, h7⟩
  have hz : ((bs.take 508).drop (17 + 2 * inBlk pages i)).all (· == 0) = true := by simpa using h5
  generalize inBlk pages i = n at *
  have hzz := zeros_eq hz
  rw [List.length_drop, List.length_take, Nat.min_eq_left (by omega)] at hzz
  have e1 : bs.take 508 = fullB (bhead gen i pages ++ cntB (numsAt bs 17 n)) := by
    have t : bs.take 508 = (bs.take 508).take (17 + 2 * n) ++ (bs.take 508).drop (17 + 2 * n) := (List.take_append_drop _ _).symm
    have t1 : (bs.take 508).take (17 + 2 * n) = bs.take (17 + 2 * n) := by rw [List.take_take, Nat.min_eq_left (by omega)]
    have t2 : bs.take (17 + 2 * n) = bhead gen i pages ++ cntB (numsAt bs 17 n) := by
      have a0 : bs.take 17 = bhead gen i pages := by
        rw [show 17 = 13 + 4 from rfl, List.take_add, show 13 = 9 + 4 from rfl, List.take_add, show 9 = 1 + 8 from rfl, List.take_add]
        have b0 : bs.take 1 = leb 1 66 := by rw [← h3, leb_fld (by omega), List.drop_zero]
        rw [b0, ← leb_fld (by omega), ← leb_fld (by omega), ← leb_fld (by omega)]
        rw [h4, show (1 + 8 : Nat) = 9 from rfl, h6, show (9 + 4 : Nat) = 13 from rfl, h7]; rfl
      rw [List.take_add, a0, cntB_nums (by omega)]
    rw [t, t1, t2, hzz]
    unfold fullB
    rw [List.length_append, bhead_length, cntB_length, numsAt_length]
  have e2 : bs.drop 508 = leb 4 (Crc.ofs (bs.take 508)) := by
    rw [← h2]; exact (leb_unle (by rw [List.length_drop]; omega)).symm
  have t : bs = bs.take 508 ++ bs.drop 508 := (List.take_append_drop _ _).symm
  rw [blk1, ← e1]
  unfold summed
  rw [← e2]; exact t
theorem blk1_sum {gen i n : Nat} {xs : List Nat} (h : xs.length ≤ 240) : unle ((blk1 gen i n xs).drop 508) = Crc.ofs ((blk1 gen i n xs).take 508) :=
  summed_sum _ (fullB_length (by rw [List.length_append, bhead_length, cntB_length]; omega))
/-- a block that is laid is taken -/
theorem bread_laid {gen pages i : Nat} {xs : List Nat} (hg : gen < 18446744073709551616) (hp : pages < 4294967296) (hi : i < 4294967296) (hl : xs.length = inBlk pages i) (hx : ∀ v ∈ xs, v < 65536) : bread gen pages i (blk1 gen i pages xs) = (0, xs) := by
  have hn := inBlk_le pages i
  have hxl : xs.length ≤ 240 := by omega
  have hs := blk1_sum (gen := gen) (i := i) (n := pages) hxl
  have hlen := blk1_length (gen := gen) (i := i) (n := pages) hxl
  have e : blk1 gen i pages xs = leb 1 66 ++ (leb 8 gen ++ (leb 4 i ++ (leb 4 pages ++ (cntB xs ++ (List.replicate (508 - (17 + 2 * xs.length)) 0 ++ leb 4 (Crc.ofs (fullB (bhead gen i pages ++ cntB xs)))))))) := by
    unfold blk1 summed fullB
    rw [List.length_append, bhead_length, cntB_length]
    simp [bhead]
  have ez : (blk1 gen i pages xs).take 508 = (bhead gen i pages ++ cntB xs) ++ List.replicate (508 - (17 + 2 * xs.length)) 0 := by
    unfold blk1 summed
    rw [List.take_append_of_le_length (by rw [fullB_length (by rw [List.length_append, bhead_length, cntB_length]; omega)]; exact Nat.le_refl _), List.take_of_length_le (by rw [fullB_length (by rw [List.length_append, bhead_length, cntB_length]; omega)]; exact Nat.le_refl _)]
    unfold fullB
    rw [List.length_append, bhead_length, cntB_length]
  have f0 : fld (blk1 gen i pages xs) 0 1 = 66 := by rw [e, fld_at 1 _ _ (by decide)]
  have f1 : fld (blk1 gen i pages xs) 1 8 = gen := by rw [e, fld_leb 1 _ _ _ _ (by omega), fld_at 8 _ _ (by omega)]
  have f2 : fld (blk1 gen i pages xs) 9 4 = i := by rw [e, fld_leb 1 _ _ _ _ (by omega), fld_leb 8 _ _ _ _ (by omega), fld_at 4 _ _ (by omega)]
  have f3 : fld (blk1 gen i pages xs) 13 4 = pages := by rw [e, fld_leb 1 _ _ _ _ (by omega), fld_leb 8 _ _ _ _ (by omega), fld_leb 4 _ _ _ _ (by omega), fld_at 4 _ _ (by omega)]
  have f4 : numsAt (blk1 gen i pages xs) 17 (inBlk pages i) = xs := by
    have := numsAt_back (xs := xs) (bhead gen i pages) (List.replicate (508 - (17 + 2 * xs.length)) 0 ++ leb 4 (Crc.ofs (fullB (bhead gen i pages ++ cntB xs)))) hx
    rw [bhead_length] at this
    rw [← hl]
    rw [show blk1 gen i pages xs = bhead gen i pages ++ (cntB xs ++ (List.replicate (508 - (17 + 2 * xs.length)) 0 ++ leb 4 (Crc.ofs (fullB (bhead gen i pages ++ cntB xs))))) by rw [e]; simp [bhead]]
    exact this
  have f5 : (((blk1 gen i pages xs).take 508).drop (17 + 2 * inBlk pages i)).all (· == 0) = true := by
    rw [ez, ← hl, List.drop_append, List.drop_eq_nil_of_le (by rw [List.length_append, bhead_length, cntB_length]; omega), List.nil_append, List.all_eq_true]
    intro b hb
    have := List.eq_of_mem_replicate (List.mem_of_mem_drop hb)
    simp [this]
  unfold bread
  rw [if_neg (by simp [hlen]), if_neg (by simp [hs]), if_neg (by simp [f0]), if_neg (by simp [f1, f2, f3]), if_neg (by simp [f5]), f4]
/-- a byte that is another one is told -/
theorem bread_told {gen pages i : Nat} {bs : List UInt8} (hl : bs.length = 512) (hs : unle (bs.drop 508) = Crc.ofs (bs.take 508)) {o : Nat} (ho : o < 512) {b : UInt8} (hb : b ≠ bs.getD o 0) : bread gen pages i (bs.set o b) = (6, []) := by
  have hx : bs.getD o 0 ^^^ (bs.getD o 0 ^^^ b) = b := by rw [← UInt8.xor_assoc]; simp
  have hx0 : bs.getD o 0 ^^^ b ≠ 0 := fun e => hb (by rw [e] at hx; simpa using hx.symm)
  have h := sum_tells hl hs ho hx0
  rw [hx] at h
  unfold bread
  rw [if_neg (by simp [hl]), if_pos h]
/-- what Encode answers -/
def benc (gen : Int) (cs : List Int) : Int × List (List UInt8) :=
  if gen < 0 ∨ 1099511627776 < gen then (1, []) else if 65536 < cs.length then (4, []) else if cs.any (fun c => decide (c < 0 ∨ 65536 ≤ c)) = true then (13, [])
  else (0, (List.range (nblocks cs.length)).map fun i => blk1 gen.toNat i cs.length (part (cs.map Int.toNat) i))
end Go.Proofs.Ytpjdknmgegbgnaa
