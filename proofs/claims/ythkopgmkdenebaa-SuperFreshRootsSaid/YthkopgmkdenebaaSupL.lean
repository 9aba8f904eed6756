/- The plain law of superblocks: how a superblock is laid and read, and that it is there and back. No program in sight. -/
import Derived.Test.YthkopgmkdenebaaSupP
import Derived.Test.YthkopgmkdenebaaRdGet
import Derived.Test.YthkopgmkdenebaaCrcTell
namespace Go.Proofs.Ythkopgmkdenebaa
set_option linter.unusedVariables false

/-- is the root at a place right in its order? -/
def OrdAt (next : Int) (rs : List RT) (i : Nat) : Prop := (if i = 0 then 0 else (rs.getD (i - 1) ⟨0, 0, 0, 0⟩).id) + 1 ≤ (rs.getD i ⟨0, 0, 0, 0⟩).id ∧ (rs.getD i ⟨0, 0, 0, 0⟩).id ≤ next - 1
instance (n : Int) (r : List RT) (i : Nat) : Decidable (OrdAt n r i) := inferInstanceAs (Decidable (_ ∧ _))
/-- can a tree be? -/
def CanT (P : Int) (r : RT) : Prop := (r.root = 0 ∧ r.height = 0 ∧ r.items = 0) ∨ ((1 ≤ r.root ∧ r.root ≤ P) ∧ (1 ≤ r.height ∧ r.height ≤ 12) ∧ (1 ≤ r.items ∧ r.items ≤ P * 8))
instance (n : Int) (r : RT) : Decidable (CanT n r) := inferInstanceAs (Decidable (_ ∨ _))
def NumOk (s : SP) : Prop := (0 ≤ s.gen ∧ s.gen ≤ 1099511627776) ∧ (1 ≤ s.next ∧ s.next ≤ 2147483648) ∧ (s.roots.length : Int) ≤ s.cf.clones
instance (s : SP) : Decidable (NumOk s) := inferInstanceAs (Decidable (_ ∧ _))
/-- what Check answers -/
def scheck (s : SP) : Nat :=
  if ¬ MayC s.cf then 1 else if ¬ NumOk s then 4 else if ¬ (∀ i, i < s.roots.length → OrdAt s.next s.roots i) then 11
  else if ¬ (∀ i, i < s.roots.length → CanT s.cf.pages (s.roots.getD i ⟨0, 0, 0, 0⟩)) then 5 else 0

structure Right (s : SP) : Prop where
  may : MayC s.cf
  num : NumOk s
  ord : ∀ i, i < s.roots.length → OrdAt s.next s.roots i
  can : ∀ i, i < s.roots.length → CanT s.cf.pages (s.roots.getD i ⟨0, 0, 0, 0⟩)
theorem scheck_le (s : SP) : scheck s ≤ 11 := by unfold scheck; repeat' split
                                                 all_goals omega
theorem scheck_ok {s : SP} : scheck s = 0 ↔ Right s := by
  unfold scheck
  constructor
  · intro h
    by_cases h1 : MayC s.cf
    · rw [if_neg (by simpa using h1)] at h
      by_cases h2 : NumOk s
      · rw [if_neg (by simpa using h2)] at h
        by_cases h3 : ∀ i, i < s.roots.length → OrdAt s.next s.roots i
        · rw [if_neg (fun g => g h3)] at h
          by_cases h4 : ∀ i, i < s.roots.length → CanT s.cf.pages (s.roots.getD i ⟨0, 0, 0, 0⟩)
          · exact ⟨h1, h2, h3, h4⟩
          · rw [if_pos h4] at h; omega
        · rw [if_pos h3] at h; omega
      · rw [if_pos h2] at h; omega
    · rw [if_pos h1] at h; omega
  · rintro ⟨h1, h2, h3, h4⟩
    rw [if_neg (by simpa using h1), if_neg (by simpa using h2), if_neg (fun g => g h3), if_neg (fun g => g h4)]
theorem Right.len {s : SP} (h : Right s) : s.roots.length ≤ 16 := by
  have h1 := h.may.2.1.2
  have h2 := h.num.2.2
  omega
/-- the numbers of a root of a right superblock -/
theorem Right.root {s : SP} (h : Right s) {i : Nat} {x : RT} (hi : s.roots[i]? = some x) : (0 ≤ x.id ∧ x.id ≤ 2147483647) ∧ (0 ≤ x.root ∧ x.root ≤ 65536) ∧ (0 ≤ x.height ∧ x.height ≤ 12) ∧ (0 ≤ x.items ∧ x.items ≤ 524288) := by
  have hl := (List.getElem?_eq_some_iff.1 hi).1
  have hx : s.roots.getD i ⟨0, 0, 0, 0⟩ = x := by rw [List.getD_eq_getElem?_getD, hi]; rfl
  have hc := h.can i hl
  have hid : ∀ j, j < s.roots.length → 1 ≤ (s.roots.getD j ⟨0, 0, 0, 0⟩).id := by
    intro j
    induction j with
    | zero => intro hj; have := (h.ord 0 hj).1; rw [if_pos rfl] at this; omega
    | succ j ih =>
      intro hj
      have := (h.ord (j + 1) hj).1
      rw [if_neg (by omega), Nat.add_sub_cancel] at this
      have := ih (by omega)
      omega
  have h1 := hid i hl
  have h2 := (h.ord i hl).2
  have h3 := h.num.2.1
  have hp : (s.cf.pages : Int) ≤ 65536 := by
    have := pagesN_le s.cf.blocks.toNat
    have := h.may.1
    unfold CF.pages; omega
  rw [hx] at hc h1 h2
  unfold CanT at hc
  omega

/-- the bytes of a root -/
def rootB (r : RT) : List UInt8 := leb 4 r.id.toNat ++ (leb 4 r.root.toNat ++ (leb 1 r.height.toNat ++ leb 4 r.items.toNat))
theorem rootB_length (r : RT) : (rootB r).length = 13 := by simp [rootB, leb_length]
def rootsB (rs : List RT) : List UInt8 := rs.flatMap rootB
theorem rootsB_length (rs : List RT) : (rootsB rs).length = 13 * rs.length := by
  induction rs with
  | nil => rfl
  | cons r rs ih =>
    have e : rootsB (r :: rs) = rootB r ++ rootsB rs := rfl
    rw [e, List.length_append, rootB_length, ih, List.length_cons]; omega
theorem rootsB_snoc {rs : List RT} {k : Nat} {r : RT} (h : rs[k]? = some r) : rootsB (rs.take (k + 1)) = rootsB (rs.take k) ++ rootB r := by
  rw [List.take_add_one, h]
  simp [rootsB]
/-- what stands ahead of the roots -/
def headB (s : SP) : List UInt8 := leb 4 827346755 ++ (leb 8 s.gen.toNat ++ (leb 4 s.cf.blocks.toNat ++ (leb 1 s.cf.clones.toNat ++ (leb 4 s.cf.refs.toNat ++ (leb 4 s.next.toNat ++ leb 1 s.roots.length)))))
theorem headB_length (s : SP) : (headB s).length = 26 := by simp [headB, leb_length]
def bodyB (s : SP) : List UInt8 := headB s ++ rootsB s.roots
theorem bodyB_length (s : SP) : (bodyB s).length = 26 + 13 * s.roots.length := by rw [bodyB, List.length_append, headB_length, rootsB_length]
def fullB (b : List UInt8) : List UInt8 := b ++ List.replicate (508 - b.length) 0
def summed (b : List UInt8) : List UInt8 := b ++ leb 4 (Crc.ofs b)
/-- the block of a superblock -/
def laid (s : SP) : List UInt8 := summed (fullB (bodyB s))
theorem fullB_length {b : List UInt8} (h : b.length ≤ 508) : (fullB b).length = 508 := by simp [fullB]; omega
theorem summed_length (b : List UInt8) : (summed b).length = b.length + 4 := by simp [summed, leb_length]
theorem Right.body {s : SP} (h : Right s) : (bodyB s).length ≤ 508 := by have := h.len; rw [bodyB_length]; omega
theorem laid_length {s : SP} (h : Right s) : (laid s).length = 512 := by rw [laid, summed_length, fullB_length h.body]

/-- a number within bytes -/
def fld (bs : List UInt8) (o k : Nat) : Nat := unle ((bs.drop o).take k)
theorem unle_leb (k n : Nat) (h : n < 256 ^ k) : unle (leb k n) = n := by
  induction k generalizing n with
  | zero => simp at h; subst h; rfl
  | succ k ih =>
    rw [leb, unle, ih _ (by rw [Nat.pow_succ] at h; exact Nat.div_lt_of_lt_mul (by rw [Nat.mul_comm]; exact h)), UInt8.toNat_ofNat']
    omega
theorem fld_skip (x y : List UInt8) (o k : Nat) : fld (x ++ y) (x.length + o) k = fld y o k := by
  unfold fld
  rw [List.drop_append, List.drop_eq_nil_of_le (by omega), List.nil_append]
  congr 3; omega
theorem fld_at (k n : Nat) (y : List UInt8) (h : n < 256 ^ k) : fld (leb k n ++ y) 0 k = n := by
  unfold fld
  rw [List.drop_zero, List.take_append_of_le_length (by rw [leb_length]; exact Nat.le_refl _), List.take_of_length_le (by rw [leb_length]; exact Nat.le_refl _), unle_leb k n h]
theorem fld_leb (j m : Nat) (y : List UInt8) (o k : Nat) (h : j ≤ o) : fld (leb j m ++ y) o k = fld y (o - j) k := by
  have := fld_skip (leb j m) y (o - j) k
  rw [leb_length, Nat.add_sub_cancel' h] at this
  exact this
/-- the root that bytes say at a place -/
def rootOf (bs : List UInt8) (o : Nat) : RT := ⟨fld bs o 4, fld bs (o + 4) 4, fld bs (o + 8) 1, fld bs (o + 9) 4⟩
/-- the superblock that bytes say -/
def sread (bs : List UInt8) : SP := ⟨IntKind.i64.wrap (fld bs 4 8 : Nat), ⟨fld bs 12 4, fld bs 16 1, fld bs 17 4⟩, fld bs 21 4, (List.range (fld bs 25 1)).map fun i => rootOf bs (26 + 13 * i)⟩
def zeroS : SP := ⟨0, ⟨0, 0, 0⟩, 0, []⟩
/-- what Decode answers -/
def sdec (bs : List UInt8) : Nat × SP :=
  if bs.length ≠ 512 then (1, zeroS) else if unle (bs.drop 508) ≠ Crc.ofs (bs.take 508) then (6, zeroS)
  else if scheck (sread bs) = 0 ∧ laid (sread bs) = bs then (0, sread bs) else (5, zeroS)

theorem rootOf_at (r : RT) (y : List UInt8) (h : (0 ≤ r.id ∧ r.id ≤ 2147483647) ∧ (0 ≤ r.root ∧ r.root ≤ 65536) ∧ (0 ≤ r.height ∧ r.height ≤ 12) ∧ (0 ≤ r.items ∧ r.items ≤ 524288)) : rootOf (rootB r ++ y) 0 = r := by
  obtain ⟨id, ro, he, it⟩ := r
  simp only at h
  unfold rootOf rootB
  simp only [List.append_assoc, Nat.zero_add]
  rw [fld_at 4 _ _ (by omega), fld_leb 4 _ _ 4 4 (by omega), fld_at 4 _ _ (by omega), fld_leb 4 _ _ 8 1 (by omega), fld_leb 4 _ _ 4 1 (by omega), fld_at 1 _ _ (by omega), fld_leb 4 _ _ 9 4 (by omega), fld_leb 4 _ _ 5 4 (by omega), fld_leb 1 _ _ 1 4 (by omega), fld_at 4 _ _ (by omega)]
  congr 1 <;> omega
theorem rootOf_skip (x y : List UInt8) (o : Nat) : rootOf (x ++ y) (x.length + o) = rootOf y o := by
  unfold rootOf
  simp only [Nat.add_assoc, fld_skip]
theorem rootOf_all (rs : List RT) (y : List UInt8) (h : ∀ (i : Nat) (x : RT), rs[i]? = some x → (0 ≤ x.id ∧ x.id ≤ 2147483647) ∧ (0 ≤ x.root ∧ x.root ≤ 65536) ∧ (0 ≤ x.height ∧ x.height ≤ 12) ∧ (0 ≤ x.items ∧ x.items ≤ 524288)) :
    ∀ (i : Nat) (x : RT), rs[i]? = some x → rootOf (rootsB rs ++ y) (13 * i) = x := by
  induction rs with
  | nil => intro i x hi; simp at hi
  | cons r rs ih =>
    intro i x hi
    have e : rootsB (r :: rs) ++ y = rootB r ++ (rootsB rs ++ y) := by simp [rootsB]
    rw [e]
    cases i with
    | zero =>
      simp at hi; subst hi
      exact rootOf_at r _ (h 0 r rfl)
    | succ i =>
      rw [show 13 * (i + 1) = (rootB r).length + 13 * i by rw [rootB_length]; omega, rootOf_skip]
      exact ih (fun i x hi => h (i + 1) x (by simpa using hi)) i x (by simpa using hi)
theorem wrap_i64_nat (n : Nat) (h : n ≤ 9223372036854775807) : IntKind.i64.wrap (n : Int) = (n : Int) := by
  simp [IntKind.wrap, IntKind.signed, IntKind.bits]; omega
theorem head_back {s : SP} (h : Right s) (y : List UInt8) : fld (headB s ++ y) 4 8 = s.gen.toNat ∧ fld (headB s ++ y) 12 4 = s.cf.blocks.toNat ∧ fld (headB s ++ y) 16 1 = s.cf.clones.toNat ∧ fld (headB s ++ y) 17 4 = s.cf.refs.toNat ∧ fld (headB s ++ y) 21 4 = s.next.toNat ∧ fld (headB s ++ y) 25 1 = s.roots.length := by
  have hl := h.len
  obtain ⟨g1, g2, g3⟩ := h.num
  obtain ⟨m1, m2, m3⟩ := h.may
  unfold headB
  simp only [List.append_assoc]
  refine ⟨?_, ?_, ?_, ?_, ?_, ?_⟩
  · rw [fld_leb 4 _ _ _ _ (by omega), fld_at 8 _ _ (by omega)]
  · rw [fld_leb 4 _ _ _ _ (by omega), fld_leb 8 _ _ _ _ (by omega), fld_at 4 _ _ (by omega)]
  · rw [fld_leb 4 _ _ _ _ (by omega), fld_leb 8 _ _ _ _ (by omega), fld_leb 4 _ _ _ _ (by omega), fld_at 1 _ _ (by omega)]
  · rw [fld_leb 4 _ _ _ _ (by omega), fld_leb 8 _ _ _ _ (by omega), fld_leb 4 _ _ _ _ (by omega), fld_leb 1 _ _ _ _ (by omega), fld_at 4 _ _ (by omega)]
  · rw [fld_leb 4 _ _ _ _ (by omega), fld_leb 8 _ _ _ _ (by omega), fld_leb 4 _ _ _ _ (by omega), fld_leb 1 _ _ _ _ (by omega), fld_leb 4 _ _ _ _ (by omega), fld_at 4 _ _ (by omega)]
  · rw [fld_leb 4 _ _ _ _ (by omega), fld_leb 8 _ _ _ _ (by omega), fld_leb 4 _ _ _ _ (by omega), fld_leb 1 _ _ _ _ (by omega), fld_leb 4 _ _ _ _ (by omega), fld_leb 4 _ _ _ _ (by omega), fld_at 1 _ _ (by omega)]
set_option maxHeartbeats 2000000 in
theorem sread_laid {s : SP} (h : Right s) : sread (laid s) = s := by
  have e : laid s = headB s ++ (rootsB s.roots ++ (List.replicate (508 - (bodyB s).length) 0 ++ leb 4 (Crc.ofs (fullB (bodyB s))))) := by
    simp [laid, summed, fullB, bodyB]
  rw [e]
  generalize List.replicate (508 - (bodyB s).length) 0 ++ leb 4 (Crc.ofs (fullB (bodyB s))) = z
  obtain ⟨h1, h2, h3, h4, h5, h6⟩ := head_back h (rootsB s.roots ++ z)
  unfold sread
  rw [h1, h2, h3, h4, h5, h6]
  obtain ⟨g1, g2, g3⟩ := h.num
  obtain ⟨m1, m2, m3⟩ := h.may
  have hr : (List.range s.roots.length).map (fun i => rootOf (headB s ++ (rootsB s.roots ++ z)) (26 + 13 * i)) = s.roots := by
    apply List.ext_getElem?
    intro i
    by_cases hi : i < s.roots.length
    · have hx := List.getElem?_eq_getElem hi
      have := rootOf_all s.roots z (fun i x hi => h.root hi) i _ hx
      rw [List.getElem?_map, List.getElem?_range hi, Option.map_some, show 26 + 13 * i = (headB s).length + 13 * i by rw [headB_length], rootOf_skip, this, hx]
    · rw [List.getElem?_eq_none (by simpa using hi), List.getElem?_eq_none (by omega)]
  rw [hr, wrap_i64_nat _ (by omega)]
  obtain ⟨gen, ⟨bl, cl, re⟩, nx, rs⟩ := s
  simp only at g1 g2 g3 m1 m2 m3 ⊢
  congr 1
  · omega
  · congr 1 <;> omega
  · omega
theorem summed_sum (b : List UInt8) (h : b.length = 508) : unle ((summed b).drop 508) = Crc.ofs ((summed b).take 508) := by
  rw [summed, List.drop_append_of_le_length (by omega), List.take_append_of_le_length (by omega), List.drop_of_length_le (by omega), List.take_of_length_le (by omega), List.nil_append, unle_leb _ _ (Crc.ofs_lt _)]
/-- there and back -/
theorem sdec_laid {s : SP} (h : Right s) : sdec (laid s) = (0, s) := by
  unfold sdec
  rw [if_neg (by rw [laid_length h]; simp), if_neg (by rw [laid, summed_sum _ (fullB_length h.body)]; simp), sread_laid h, if_pos ⟨scheck_ok.2 h, rfl⟩]
theorem sdec_one {bs : List UInt8} {s : SP} (h : sdec bs = (0, s)) : Right s ∧ laid s = bs := by
  unfold sdec at h
  repeat' split at h
  · cases h
  · cases h
  · rename_i g
    cases h
    exact ⟨scheck_ok.1 g.1, g.2⟩
  · cases h
theorem sdec_zero {bs : List UInt8} (h : (sdec bs).1 ≠ 0) : (sdec bs).2 = zeroS := by
  unfold sdec at *
  repeat' split
  · rfl
  · rfl
  · rename_i h1 h2 h3; simp [h1, h2, h3] at h
  · rfl
theorem xor_ne {a x : UInt8} (h : x ≠ 0) : a ^^^ x ≠ a := by
  intro e
  apply h
  have := congrArg (a ^^^ ·) e
  simpa [← UInt8.xor_assoc] using this
theorem unle_inj {a b : List UInt8} (hl : a.length = b.length) (h : unle a = unle b) : a = b := by
  induction a generalizing b with
  | nil => cases b with
    | nil => rfl
    | cons y b => simp at hl
  | cons x a ih => cases b with
    | nil => simp at hl
    | cons y b =>
      simp only [unle] at h
      have hx := x.toNat_lt
      have hy := y.toNat_lt
      have e1 : x.toNat = y.toNat := by omega
      have e2 : unle a = unle b := by omega
      rw [UInt8.toNat_inj.1 e1, ih (by simpa using hl) e2]
/-- one byte is another: told by the sum -/
theorem sum_tells {bs : List UInt8} (hl : bs.length = 512) (hs : unle (bs.drop 508) = Crc.ofs (bs.take 508)) {o : Nat} (ho : o < 512) {x : UInt8} (hx : x ≠ 0) :
    unle ((bs.set o (bs.getD o 0 ^^^ x)).drop 508) ≠ Crc.ofs ((bs.set o (bs.getD o 0 ^^^ x)).take 508) := by
  by_cases h : o < 508
  · rw [List.drop_set_of_lt h, hs, List.take_set]
    have e : bs.getD o 0 = (bs.take 508).getD o 0 := by rw [List.getD_eq_getElem?_getD, List.getD_eq_getElem?_getD, List.getElem?_take_of_lt h]
    rw [e]
    have hx0 : x.toNat ≠ 0 := fun e => hx (UInt8.toNat_inj.1 e)
    have hlt := x.toNat_lt
    have h1 := Crc.le_set (bs.take 508) o x (by rw [List.length_take]; omega)
    rw [show 256 ^ o = 2 ^ (8 * o) by rw [Nat.pow_mul]] at h1
    exact Crc.tells (m := x.toNat) (f := 8 * o) (by omega) hx0 (by rw [List.length_set]) (by rw [List.length_take]; omega) h1
  · rw [List.take_set_of_le (by omega), ← hs, List.drop_set]
    intro e
    rw [if_neg h] at e
    have := unle_inj (by rw [List.length_set]) e
    have h2 := congrArg (·[o - 508]?) this
    rw [List.getElem?_set_self (by rw [List.length_drop]; omega), List.getElem?_drop, show 508 + (o - 508) = o by omega, List.getElem?_eq_getElem (by omega), List.getD_eq_getElem?_getD, List.getElem?_eq_getElem (by omega)] at h2
    exact xor_ne hx (Option.some.inj h2)
theorem sdec_tells {s : SP} (h : Right s) {o : Nat} (ho : o < 512) {x : UInt8} (hx : x ≠ 0) : sdec ((laid s).set o ((laid s).getD o 0 ^^^ x)) = (6, zeroS) := by
  have hl := laid_length h
  have := sum_tells hl (by rw [laid, summed_sum _ (fullB_length h.body)]) ho hx
  unfold sdec
  rw [if_neg (by rw [List.length_set, hl]; simp), if_pos this]
end Go.Proofs.Ythkopgmkdenebaa
