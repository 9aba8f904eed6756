/- The plain law of pages: how a page is laid and read, and that it is there and back. No program in sight. -/
import Derived.Test.YtkjgncmbhkhbnaaLeb
import Derived.Test.YtkjgncmbhkhbnaaChk
namespace Go.Proofs.Ytkjgncmbhkhbnaa
set_option linter.unusedVariables false

/-- the bytes of an item -/
def itemB (kind : Int) (x : PI) : List UInt8 :=
  leb 1 x.key.length ++ (x.key ++ ((if kind = 1 then leb 2 x.size.toNat else []) ++ (if kind = 1 ∧ x.size ≤ 32 then x.value else leb 4 x.child.toNat)))
def itemsB (kind : Int) (xs : List PI) : List UInt8 := xs.flatMap (itemB kind)
theorem itemsB_snoc {kind : Int} {xs : List PI} {k : Nat} {x : PI} (h : xs[k]? = some x) : itemsB kind (xs.take (k + 1)) = itemsB kind (xs.take k) ++ itemB kind x := by
  rw [List.take_add_one, h]
  simp [itemsB]
/-- what stands ahead of the parts -/
def pheadB (no gen : Nat) (p : PP) : List UInt8 := UInt8.ofNat (p.kind.toNat % 256) :: UInt8.ofNat (p.level.toNat % 256) :: (leb 4 no ++ leb 8 gen)
def ptailB (p : PP) : List UInt8 := if p.kind = 3 then leb 2 p.data.length ++ (leb 4 p.next.toNat ++ p.data) else leb 1 p.items.length ++ itemsB p.kind p.items
def pbody (no gen : Nat) (p : PP) : List UInt8 := pheadB no gen p ++ ptailB p
/-- the block of a page -/
def pblock (no gen : Nat) (p : PP) : List UInt8 := summed (fullB (pbody no gen p))

/-- what is right of an item -/
structure RightI (kind : Int) (x : PI) : Prop where
  key : x.key.length ≤ 24
  leaf : kind = 1 → 0 ≤ x.size ∧ x.size ≤ 3840
  small : kind = 1 → x.size ≤ 32 → (x.value.length : Int) = x.size ∧ x.child = 0
  child : ¬ (kind = 1 ∧ x.size ≤ 32) → 1 ≤ x.child ∧ x.child ≤ 65536
  none : ¬ (kind = 1 ∧ x.size ≤ 32) → x.value = []
  zero : kind ≠ 1 → x.size = 0
/-- what is right of a page -/
structure RightP (p : PP) : Prop where
  kind : 1 ≤ p.kind ∧ p.kind ≤ 3
  level : 0 ≤ p.level ∧ p.level ≤ 11
  items : p.items.length ≤ 8
  blob : p.kind = 3 → p.items = [] ∧ 1 ≤ p.data.length ∧ p.data.length ≤ 480
  data : p.kind ≠ 3 → p.data = [] ∧ p.next = 0
  next : 0 ≤ p.next ∧ p.next ≤ 65536
  all : ∀ (i : Nat) (x : PI), p.items[i]? = some x → RightI p.kind x
theorem firstBad_all {f : Nat → Int} : ∀ {n : Nat}, firstBad f n = 0 → ∀ i, i < n → f i = 0
  | 0, _, i, hi => by omega
  | n + 1, h, i, hi => by
    simp only [firstBad] at h
    split at h
    · rename_i h0
      by_cases e : i = n
      · subst e; exact h
      · exact firstBad_all h0 i (by omega)
    · contradiction
theorem itemErr_right {kind : Int} {i : Nat} {above : List UInt8} {x : PI} (hk : 1 ≤ kind ∧ kind ≤ 2) (h : itemErr kind i above x = 0) : RightI kind x := by
  unfold itemErr at h
  split at h
  · cases h
  rename_i h1
  split at h
  · cases h
  split at h
  · cases h
  rename_i h3
  split at h
  · cases h
  rename_i h4
  have h1 : okKey kind i x = true := by simpa using h1
  have h3 : okValue kind x = true := by simpa using h3
  have h4 : okChild kind x = true := by simpa using h4
  have hv : x.value.length = 0 → x.value = [] := List.length_eq_zero_iff.1
  refine ⟨?_, ?_, ?_, ?_, ?_, ?_⟩
  · unfold okKey at h1; grind
  · unfold okValue at h3; grind
  · unfold okValue at h3; unfold okChild at h4; grind
  · unfold okChild isPg at h4; grind
  · unfold okValue at h3; grind
  · unfold okValue at h3; grind
theorem pcheck_right {p : PP} (h : pcheck p = 0) : RightP p := by
  unfold pcheck at h
  split at h
  · cases h
  rename_i h1
  split at h
  · cases h
  rename_i h2
  split at h
  · contradiction
  rename_i h3
  split at h
  · cases h
  rename_i h4
  have h2 : okForm p.kind p.level p.items.length p.data.length p.next = true := by simpa using h2
  have h3 : firstBad (itErr p.kind p.items) p.items.length = 0 := by simpa using h3
  have hi : p.items.length = 0 → p.items = [] := List.length_eq_zero_iff.1
  have hd : p.data.length = 0 → p.data = [] := List.length_eq_zero_iff.1
  have ha : p.kind ≠ 3 → ∀ (i : Nat) (x : PI), p.items[i]? = some x → RightI p.kind x := by
    intro hk i x hx
    have h0 := firstBad_all h3 i (List.getElem?_eq_some_iff.1 hx).1
    unfold itErr at h0
    rw [hx] at h0
    exact itemErr_right (by omega) h0
  refine ⟨by omega, ?_, ?_, ?_, ?_, ?_, ?_⟩
  · unfold okForm at h2; grind
  · unfold okForm at h2; grind
  · unfold okForm at h2; grind
  · unfold okForm at h2; grind
  · unfold okForm at h2; unfold isPg at h4; grind
  · intro i x hx
    by_cases hk : p.kind = 3
    · have h5 : p.items = [] := by unfold okForm at h2; grind
      rw [h5] at hx; simp at hx
    · exact ha hk i x hx

theorem RightI.length {kind : Int} {x : PI} (h : RightI kind x) : (itemB kind x).length ≤ 59 := by
  have h1 := h.key
  unfold itemB
  simp only [List.length_append, leb_length]
  by_cases hk : kind = 1
  · by_cases hs : x.size ≤ 32
    · have h2 := (h.small hk hs).1
      rw [if_pos hk, if_pos ⟨hk, hs⟩, leb_length]; omega
    · rw [if_pos hk, if_neg (fun g => hs g.2), leb_length, leb_length]; omega
  · rw [if_neg hk, if_neg (fun g => hk g.1), leb_length]; simp; omega
theorem itemsB_length {kind : Int} : ∀ {xs : List PI}, (∀ (i : Nat) (x : PI), xs[i]? = some x → RightI kind x) → (itemsB kind xs).length ≤ 59 * xs.length
  | [], _ => by simp [itemsB]
  | x :: xs, h => by
    have h1 := (h 0 x rfl).length
    have h2 := itemsB_length (kind := kind) (xs := xs) fun i y hy => h (i + 1) y (by simpa using hy)
    have e : itemsB kind (x :: xs) = itemB kind x ++ itemsB kind xs := rfl
    rw [e, List.length_append, List.length_cons]; omega
theorem pheadB_length (no gen : Nat) (p : PP) : (pheadB no gen p).length = 14 := by simp [pheadB, leb_length]
theorem RightP.body {p : PP} (h : RightP p) (no gen : Nat) : (pbody no gen p).length ≤ 508 := by
  unfold pbody ptailB
  rw [List.length_append, pheadB_length]
  have h1 := h.items
  split
  · rename_i hk
    have h2 := h.blob hk
    simp only [List.length_append, leb_length]; omega
  · have h2 := itemsB_length h.all
    simp only [List.length_append, leb_length]; omega
theorem pblock_length {p : PP} (h : RightP p) (no gen : Nat) : (pblock no gen p).length = 512 := by rw [pblock, summed_length, fullB_length (h.body no gen)]

/-! the document's reading -/
def piece (bs : List UInt8) (o k : Nat) : List UInt8 := (bs.drop o).take k
/-- the item that bytes say at a place, and the place behind it -/
def ditem (kind : Int) (bs : List UInt8) (o : Nat) : PI × Nat :=
  let k := fld bs o 1
  if kind = 1 then
    let s := fld bs (o + 1 + k) 2
    if s ≤ 32 then (⟨piece bs (o + 1) k, piece bs (o + 1 + k + 2) s, 0, s⟩, o + 1 + k + 2 + s)
    else (⟨piece bs (o + 1) k, [], fld bs (o + 1 + k + 2) 4, s⟩, o + 1 + k + 2 + 4)
  else (⟨piece bs (o + 1) k, [], fld bs (o + 1 + k) 4, 0⟩, o + 1 + k + 4)
/-- i items from the place 15 on -/
def dst (kind : Int) (bs : List UInt8) : Nat → Nat × List PI
  | 0 => (15, [])
  | i + 1 => ((ditem kind bs (dst kind bs i).1).2, (dst kind bs i).2 ++ [(ditem kind bs (dst kind bs i).1).1])
theorem dst_length (kind : Int) (bs : List UInt8) (i : Nat) : (dst kind bs i).2.length = i := by
  induction i with
  | zero => rfl
  | succ i ih => simp [dst, ih]
/-- the page that bytes say -/
def dguess (bs : List UInt8) : PP :=
  if fld bs 0 1 = 3 then ⟨3, fld bs 1 1, [], piece bs 20 (fld bs 14 2), fld bs 16 4⟩
  else ⟨fld bs 0 1, fld bs 1 1, (dst (fld bs 0 1 : Nat) bs (min (fld bs 14 1) 9)).2, [], 0⟩
def zeroP : PP := ⟨0, 0, [], [], 0⟩
/-- what Decode answers -/
def pdec (no : Int) (bs : List UInt8) : Int × PP × Nat :=
  if isPg no = false then (15, zeroP, 0) else if bs.length ≠ 512 then (16, zeroP, 0)
  else if unle (bs.drop 508) ≠ Crc.ofs (bs.take 508) then (6, zeroP, 0)
  else if (fld bs 2 4 : Int) ≠ no then (25, zeroP, 0)
  else if fld bs 6 8 ≤ 1099511627776 ∧ pcheck (dguess bs) = 0 ∧ pblock no.toNat (fld bs 6 8) (dguess bs) = bs then (0, dguess bs, fld bs 6 8) else (5, zeroP, 0)

theorem piece_skip (x y : List UInt8) (o k : Nat) : piece (x ++ y) (x.length + o) k = piece y o k := by
  unfold piece
  rw [List.drop_append, List.drop_eq_nil_of_le (by omega), List.nil_append]
  congr 2; omega
theorem piece_at (x y : List UInt8) (k : Nat) (h : x.length = k) : piece (x ++ y) 0 k = x := by
  unfold piece
  rw [List.drop_zero, List.take_append_of_le_length (by omega), List.take_of_length_le (by omega)]
theorem drop_len {α : Type} (x y : List α) {n : Nat} (h : n = x.length) : (x ++ y).drop n = y := by subst h; simp
theorem fld_drop (bs : List UInt8) (o i k : Nat) : fld bs (o + i) k = fld (bs.drop o) i k := by unfold fld; rw [List.drop_drop]
theorem piece_drop (bs : List UInt8) (o i k : Nat) : piece bs (o + i) k = piece (bs.drop o) i k := by unfold piece; rw [List.drop_drop]
theorem fld_here (k n : Nat) (y : List UInt8) (h : n < 256 ^ k) {bs : List UInt8} {o : Nat} (e : bs.drop o = leb k n ++ y) : fld bs o k = n := by
  have := fld_drop bs o 0 k
  rw [Nat.add_zero] at this
  rw [this, e]; exact fld_at k n y h
theorem piece_here {x y : List UInt8} {k : Nat} (h : x.length = k) {bs : List UInt8} {o : Nat} (e : bs.drop o = x ++ y) : piece bs o k = x := by
  have := piece_drop bs o 0 k
  rw [Nat.add_zero] at this
  rw [this, e]; exact piece_at x y k h
theorem drop_next {x y bs : List UInt8} {k o : Nat} (h : x.length = k) (e : bs.drop o = x ++ y) : bs.drop (o + k) = y := by
  rw [← List.drop_drop, e]; exact drop_len x y h.symm
/-- an item is read as it is laid -/
theorem ditem_laid {kind : Int} {x : PI} (h : RightI kind x) {bs y : List UInt8} {o : Nat} (e : bs.drop o = itemB kind x ++ y) : ditem kind bs o = (x, o + (itemB kind x).length) := by
  obtain ⟨key, value, child, size⟩ := x
  have hk := h.key
  have hlen : (itemB kind ⟨key, value, child, size⟩).length = 1 + (key.length + ((if kind = 1 then leb 2 size.toNat else []).length + (if kind = 1 ∧ size ≤ 32 then value else leb 4 child.toNat).length)) := by
    unfold itemB; simp only [List.length_append, leb_length]
  rw [hlen]
  unfold itemB at e
  simp only [List.append_assoc] at e hk
  have e1 := drop_next (leb_length 1 _) e
  have e2 := drop_next rfl e1
  have f0 := fld_here 1 key.length _ (by simp; omega) e
  have f1 := piece_here rfl e1
  unfold ditem
  simp only [f0]
  by_cases h1 : kind = 1
  · subst h1
    rw [if_pos rfl] at e2 ⊢
    rw [if_pos rfl]
    have hs := h.leaf rfl
    simp only at hs
    have f2 := fld_here 2 size.toNat _ (by simp; omega) e2
    have e3 := drop_next (leb_length 2 _) e2
    rw [f2, f1]
    by_cases h32 : size ≤ 32
    · rw [if_pos ⟨rfl, h32⟩] at e3
      rw [if_pos (show size.toNat ≤ 32 by omega), if_pos ⟨rfl, h32⟩]
      obtain ⟨hv, hc⟩ := h.small rfl h32
      simp only at hv hc
      subst hc
      have f3 := piece_here (k := size.toNat) (by omega) e3
      rw [f3, leb_length]
      simp only [Prod.mk.injEq, PI.mk.injEq, true_and]
      omega
    · rw [if_neg (fun g => h32 g.2)] at e3
      rw [if_neg (show ¬ size.toNat ≤ 32 by omega), if_neg (fun g => h32 g.2)]
      have hc := h.child fun g => h32 g.2
      have hv := h.none fun g => h32 g.2
      simp only at hc hv
      subst hv
      have f3 := fld_here 4 child.toNat _ (by simp; omega) e3
      rw [f3, leb_length, leb_length]
      simp only [Prod.mk.injEq, PI.mk.injEq, true_and]
      omega
  · rw [if_neg h1] at e2 ⊢
    rw [if_neg h1]
    rw [if_neg (fun g => h1 g.1)] at e2 ⊢
    have hc := h.child fun g => h1 g.1
    have hv := h.none fun g => h1 g.1
    have hz := h.zero h1
    simp only at hc hv hz
    subst hv hz
    rw [List.nil_append] at e2
    have f3 := fld_here 4 child.toNat _ (by simp; omega) e2
    rw [f3, f1, leb_length]
    simp only [Prod.mk.injEq, PI.mk.injEq, true_and, and_true, List.length_nil]
    omega
theorem dst_laid {kind : Int} {xs : List PI} (h : ∀ (i : Nat) (x : PI), xs[i]? = some x → RightI kind x) {bs y : List UInt8} (e : bs.drop 15 = itemsB kind xs ++ y) :
    ∀ i, i ≤ xs.length → dst kind bs i = (15 + (itemsB kind (xs.take i)).length, xs.take i) ∧ bs.drop (15 + (itemsB kind (xs.take i)).length) = itemsB kind (xs.drop i) ++ y := by
  intro i
  induction i with
  | zero => intro _; refine ⟨rfl, ?_⟩; simpa [itemsB] using e
  | succ i ih =>
    intro hi
    obtain ⟨h1, h2⟩ := ih (by omega)
    have hx := List.getElem?_eq_getElem (l := xs) (i := i) (by omega)
    generalize xs[i] = x at hx
    have hd : xs.drop i = x :: xs.drop (i + 1) := by
      rw [List.drop_eq_getElem_cons (by omega)]
      rw [List.getElem?_eq_getElem (by omega)] at hx
      rw [Option.some.inj hx]
    have h3 : itemsB kind (xs.drop i) = itemB kind x ++ itemsB kind (xs.drop (i + 1)) := by rw [hd]; rfl
    rw [h3, List.append_assoc] at h2
    have h4 := ditem_laid (h i x hx) h2
    have h5 := drop_next rfl h2
    have h6 : 15 + (itemsB kind (xs.take (i + 1))).length = 15 + (itemsB kind (xs.take i)).length + (itemB kind x).length := by rw [itemsB_snoc hx, List.length_append, Nat.add_assoc]
    rw [h6]
    refine ⟨?_, h5⟩
    rw [dst, h1]
    simp only [h4]
    rw [List.take_add_one, hx]; rfl
theorem fullB_drop (b : List UInt8) (n : Nat) (h : n ≤ b.length) : ∃ y, (summed (fullB b)).drop n = b.drop n ++ y := by
  refine ⟨List.replicate (508 - b.length) 0 ++ leb 4 (Crc.ofs (fullB b)), ?_⟩
  unfold summed
  rw [show fullB b ++ leb 4 (Crc.ofs (fullB b)) = b ++ (List.replicate (508 - b.length) 0 ++ leb 4 (Crc.ofs (fullB b))) by simp [fullB], List.drop_append_of_le_length h]
theorem byte_here {bs y : List UInt8} {o : Nat} {b : UInt8} (e : bs.drop o = b :: y) : fld bs o 1 = b.toNat := by
  unfold fld; rw [e]; simp [unle]
/-- the fields of a block -/
theorem pblock_parts {p : PP} (h : RightP p) (no gen : Nat) (hn : no < 4294967296) (hg : gen < 18446744073709551616) :
    fld (pblock no gen p) 0 1 = p.kind.toNat ∧ fld (pblock no gen p) 1 1 = p.level.toNat ∧ fld (pblock no gen p) 2 4 = no ∧ fld (pblock no gen p) 6 8 = gen ∧ ∃ y, (pblock no gen p).drop 14 = ptailB p ++ y := by
  obtain ⟨y, hy⟩ := fullB_drop (pbody no gen p) 0 (Nat.zero_le _)
  rw [List.drop_zero] at hy
  have e0 : (pblock no gen p).drop 0 = UInt8.ofNat (p.kind.toNat % 256) :: (UInt8.ofNat (p.level.toNat % 256) :: (leb 4 no ++ (leb 8 gen ++ (ptailB p ++ y)))) := by
    rw [List.drop_zero]; unfold pblock; rw [List.drop_zero] at hy; rw [hy]; simp [pbody, pheadB]
  have e1 : (pblock no gen p).drop 1 = UInt8.ofNat (p.level.toNat % 256) :: (leb 4 no ++ (leb 8 gen ++ (ptailB p ++ y))) := by
    have := drop_next (x := [UInt8.ofNat (p.kind.toNat % 256)]) rfl e0; exact this
  have e2 : (pblock no gen p).drop 2 = leb 4 no ++ (leb 8 gen ++ (ptailB p ++ y)) := by
    have := drop_next (x := [UInt8.ofNat (p.level.toNat % 256)]) rfl e1; exact this
  have e3 := drop_next (leb_length 4 _) e2
  have e4 := drop_next (leb_length 8 _) e3
  have hk := h.kind
  have hl := h.level
  refine ⟨?_, ?_, fld_here 4 no _ hn e2, fld_here 8 gen _ hg e3, y, e4⟩
  · rw [byte_here e0, UInt8.toNat_ofNat']; omega
  · rw [byte_here e1, UInt8.toNat_ofNat']; omega
theorem dguess_laid {p : PP} (h : RightP p) (no gen : Nat) (hn : no < 4294967296) (hg : gen < 18446744073709551616) : dguess (pblock no gen p) = p := by
  obtain ⟨f0, f1, -, -, y, e⟩ := pblock_parts h no gen hn hg
  generalize pblock no gen p = bs at *
  have hk := h.kind
  have hl := h.level
  unfold dguess
  rw [f0, f1]
  unfold ptailB at e
  by_cases h3 : p.kind = 3
  · rw [if_pos (by omega)]
    rw [if_pos h3] at e
    obtain ⟨hi, hd1, hd2⟩ := h.blob h3
    have hx := h.next
    simp only [List.append_assoc] at e
    have e1 := drop_next (leb_length 2 _) e
    have e2 := drop_next (leb_length 4 _) e1
    rw [fld_here 2 p.data.length _ (by simp; omega) e, fld_here 4 p.next.toNat _ (by simp; omega) e1, piece_here rfl e2]
    obtain ⟨kind, level, items, data, next⟩ := p
    simp only at hi h3 hl hx
    subst hi h3
    simp only [PP.mk.injEq, true_and]
    omega
  · rw [if_neg (by omega)]
    rw [if_neg h3] at e
    have hi := h.items
    obtain ⟨hd, hx⟩ := h.data h3
    simp only [List.append_assoc] at e
    have e1 := drop_next (leb_length 1 _) e
    rw [fld_here 1 p.items.length _ (by simp; omega) e, show ((p.kind.toNat : Nat) : Int) = p.kind by omega, show min p.items.length 9 = p.items.length by omega, (dst_laid h.all e1 _ (Nat.le_refl _)).1]
    rw [List.take_length]
    obtain ⟨kind, level, items, data, next⟩ := p
    simp only at hd hl hx
    subst hd hx
    simp only [PP.mk.injEq, true_and, and_true]
    omega
/-- there and back -/
theorem pdec_laid {p : PP} (h : pcheck p = 0) {no : Int} (hn : isPg no = true) {gen : Nat} (hg : gen ≤ 1099511627776) : pdec no (pblock no.toNat gen p) = (0, p, gen) := by
  have hR := pcheck_right h
  have hb : 1 ≤ no ∧ no ≤ 65536 := by simpa [isPg] using hn
  obtain ⟨-, -, f2, f3, -⟩ := pblock_parts hR no.toNat gen (by omega) (by omega)
  have hs : unle ((pblock no.toNat gen p).drop 508) = Crc.ofs ((pblock no.toNat gen p).take 508) := by rw [pblock, summed_sum _ (fullB_length (hR.body _ _))]
  unfold pdec
  rw [if_neg (by simp [hn]), if_neg (by rw [pblock_length hR]; simp), if_neg (by simp [hs]), f2, if_neg (by omega), f3, dguess_laid hR _ _ (by omega) (by omega), if_pos ⟨hg, h, rfl⟩]
theorem pdec_other {p : PP} (h : pcheck p = 0) {no k : Int} (hn : isPg no = true) (hk : isPg k = true) (hne : k ≠ no) {gen : Nat} (hg : gen ≤ 1099511627776) : pdec k (pblock no.toNat gen p) = (25, zeroP, 0) := by
  have hR := pcheck_right h
  have hb : 1 ≤ no ∧ no ≤ 65536 := by simpa [isPg] using hn
  obtain ⟨-, -, f2, f3, -⟩ := pblock_parts hR no.toNat gen (by omega) (by omega)
  have hs : unle ((pblock no.toNat gen p).drop 508) = Crc.ofs ((pblock no.toNat gen p).take 508) := by rw [pblock, summed_sum _ (fullB_length (hR.body _ _))]
  unfold pdec
  rw [if_neg (by simp [hk]), if_neg (by rw [pblock_length hR]; simp), if_neg (by simp [hs]), f2, if_pos (by omega)]
theorem pdec_one {no : Int} {bs : List UInt8} {p : PP} {gen : Nat} (h : pdec no bs = (0, p, gen)) : isPg no = true ∧ gen ≤ 1099511627776 ∧ pcheck p = 0 ∧ pblock no.toNat gen p = bs := by
  unfold pdec at h
  repeat' split at h
  all_goals first
    | (cases h; done)
    | skip
  rename_i h1 _ _ _ g
  cases h
  exact ⟨by simpa using h1, g⟩
theorem pdec_not {no : Int} {bs : List UInt8} (h : (pdec no bs).1 ≠ 0) : (pdec no bs).2 = (zeroP, 0) := by
  unfold pdec at *
  repeat' split
  all_goals first
    | rfl
    | skip
  rename_i h1 h2 h3 h4 h5
  simp [h1, h2, h3, h4, h5] at h

/-! the program's reading -/
/-- a reader's place, and whether all was there -/
structure PR where
  (at_ : Nat) (ok : Bool)
/-- n bytes are taken -/
def ptake (bs : List UInt8) (r : PR) (n : Nat) : List UInt8 × PR :=
  if r.ok = false ∨ bs.length < r.at_ + n then ([], ⟨r.at_, false⟩) else (piece bs r.at_ n, ⟨r.at_ + n, true⟩)
/-- a number of n bytes -/
def pnum (bs : List UInt8) (r : PR) (n : Nat) : Nat × PR := (unle (ptake bs r n).1, (ptake bs r n).2)
def pitem (kind : Int) (bs : List UInt8) (r : PR) : PI × PR :=
  let k := pnum bs r 1
  let y := ptake bs k.2 k.1
  if kind = 1 then
    let s := pnum bs y.2 2
    if s.1 ≤ 32 then (⟨y.1, (ptake bs s.2 s.1).1, 0, s.1⟩, (ptake bs s.2 s.1).2)
    else (⟨y.1, [], (pnum bs s.2 4).1, s.1⟩, (pnum bs s.2 4).2)
  else (⟨y.1, [], (pnum bs y.2 4).1, 0⟩, (pnum bs y.2 4).2)
def pst (kind : Int) (bs : List UInt8) (r : PR) : Nat → PR × List PI
  | 0 => (r, [])
  | i + 1 => ((pitem kind bs (pst kind bs r i).1).2, (pst kind bs r i).2 ++ [(pitem kind bs (pst kind bs r i).1).1])
theorem pst_length (kind : Int) (bs : List UInt8) (r : PR) (i : Nat) : (pst kind bs r i).2.length = i := by
  induction i with
  | zero => rfl
  | succ i ih => simp [pst, ih]
/-- the page that the program reads, of the bytes ahead of the sum -/
def pguess (bs : List UInt8) : PP × PR :=
  let k := pnum bs ⟨0, true⟩ 1
  let l := pnum bs k.2 1
  let n := pnum bs l.2 4
  let g := pnum bs n.2 8
  if k.1 = 3 then
    let m := pnum bs g.2 2
    let x := pnum bs m.2 4
    (⟨3, l.1, [], (ptake bs x.2 m.1).1, x.1⟩, (ptake bs x.2 m.1).2)
  else
    let c := pnum bs g.2 1
    (⟨k.1, l.1, (pst k.1 bs c.2 c.1).2, [], 0⟩, (pst k.1 bs c.2 c.1).1)
/-- is nothing but zeros left? -/
def pzeros (bs : List UInt8) (r : PR) : Bool := (bs.drop r.at_).all (· == 0) && r.ok

theorem ptake_ok {bs : List UInt8} {r : PR} {n : Nat} (h : (ptake bs r n).2.ok = true) : r.ok = true ∧ r.at_ + n ≤ bs.length ∧ ptake bs r n = (piece bs r.at_ n, ⟨r.at_ + n, true⟩) := by
  unfold ptake at *
  split at h
  · cases h
  · rename_i g
    rw [if_neg g]
    refine ⟨?_, by omega, rfl⟩
    cases hr : r.ok
    · exact absurd (Or.inl hr) g
    · rfl
theorem pnum_ok {bs : List UInt8} {r : PR} {n : Nat} (h : (pnum bs r n).2.ok = true) : r.ok = true ∧ r.at_ + n ≤ bs.length ∧ pnum bs r n = (fld bs r.at_ n, ⟨r.at_ + n, true⟩) := by
  obtain ⟨h1, h2, h3⟩ := ptake_ok (n := n) (r := r) (bs := bs) h
  refine ⟨h1, h2, ?_⟩
  unfold pnum; rw [h3]; rfl
theorem pnum_go {bs : List UInt8} {o n : Nat} (h : o + n ≤ bs.length) : pnum bs ⟨o, true⟩ n = (fld bs o n, ⟨o + n, true⟩) := by
  unfold pnum ptake
  rw [if_neg (by intro g; rcases g with g | g; cases g; simp at g; omega)]; rfl
theorem ptake_go {bs : List UInt8} {o n : Nat} (h : o + n ≤ bs.length) : ptake bs ⟨o, true⟩ n = (piece bs o n, ⟨o + n, true⟩) := by
  unfold ptake
  rw [if_neg (by intro g; rcases g with g | g; cases g; simp at g; omega)]
theorem piece_length {bs : List UInt8} {o n : Nat} (h : o + n ≤ bs.length) : (piece bs o n).length = n := by unfold piece; rw [List.length_take, List.length_drop]; omega
theorem piece_two {bs : List UInt8} {o m n : Nat} : piece bs o (m + n) = piece bs o m ++ piece bs (o + m) n := by
  unfold piece; rw [List.take_add, List.drop_drop]
theorem leb_fld {bs : List UInt8} {o n : Nat} (h : o + n ≤ bs.length) : leb n (fld bs o n) = piece bs o n := leb_unle' (piece_length h)
theorem fld_lt (bs : List UInt8) (o k : Nat) : fld bs o k < 256 ^ k := by
  have h := unle_lt ((bs.drop o).take k)
  exact Nat.lt_of_lt_of_le h (Nat.pow_le_pow_right (by decide) (by rw [List.length_take]; omega))
/-- an item that is read is the one that is laid there -/
theorem pitem_ok {kind : Int} {bs : List UInt8} {r : PR} (h : (pitem kind bs r).2.ok = true) :
    r.ok = true ∧ (pitem kind bs r).2.at_ ≤ bs.length ∧ r.at_ ≤ (pitem kind bs r).2.at_ ∧ itemB kind (pitem kind bs r).1 = piece bs r.at_ ((pitem kind bs r).2.at_ - r.at_) := by
  unfold pitem at *
  simp only at h ⊢
  by_cases h1 : kind = 1
  · rw [if_pos h1] at h ⊢
    by_cases h2 : (pnum bs (ptake bs (pnum bs r 1).2 (pnum bs r 1).1).2 2).1 ≤ 32
    · rw [if_pos h2] at h ⊢
      obtain ⟨a1, a2, a3⟩ := ptake_ok h
      rw [a3]
      obtain ⟨b1, b2, b3⟩ := pnum_ok a1
      rw [b3] at a2 h2 ⊢
      obtain ⟨c1, c2, c3⟩ := ptake_ok b1
      rw [c3] at a2 b2 h2 ⊢
      obtain ⟨d1, d2, d3⟩ := pnum_ok c1
      rw [d3] at a2 b2 c2 h2 ⊢
      simp only at a2 b2 c2 d2 h2 ⊢
      refine ⟨d1, by omega, by omega, ?_⟩
      unfold itemB
      simp only
      rw [if_pos h1, if_pos ⟨h1, by omega⟩, piece_length c2, leb_fld d2, Int.toNat_natCast, leb_fld b2, ← piece_two, ← piece_two, ← piece_two]
      congr 1; omega
    · rw [if_neg h2] at h ⊢
      obtain ⟨a1, a2, a3⟩ := pnum_ok h
      rw [a3]
      obtain ⟨b1, b2, b3⟩ := pnum_ok a1
      rw [b3] at a2 h2 ⊢
      obtain ⟨c1, c2, c3⟩ := ptake_ok b1
      rw [c3] at a2 b2 h2 ⊢
      obtain ⟨d1, d2, d3⟩ := pnum_ok c1
      rw [d3] at a2 b2 c2 h2 ⊢
      simp only at a2 b2 c2 d2 h2 ⊢
      refine ⟨d1, by omega, by omega, ?_⟩
      unfold itemB
      simp only
      rw [if_pos h1, if_neg (fun g => by have := g.2; omega), piece_length c2, leb_fld d2, Int.toNat_natCast, Int.toNat_natCast, leb_fld b2, leb_fld a2, ← piece_two, ← piece_two, ← piece_two]
      congr 1; omega
  · rw [if_neg h1] at h ⊢
    obtain ⟨a1, a2, a3⟩ := pnum_ok h
    rw [a3]
    obtain ⟨c1, c2, c3⟩ := ptake_ok a1
    rw [c3] at a2 ⊢
    obtain ⟨d1, d2, d3⟩ := pnum_ok c1
    rw [d3] at a2 c2 ⊢
    simp only at a2 c2 d2 ⊢
    refine ⟨d1, by omega, by omega, ?_⟩
    unfold itemB
    simp only
    rw [if_neg h1, if_neg (fun g => h1 g.1), piece_length c2, leb_fld d2, Int.toNat_natCast, leb_fld a2, List.nil_append, ← piece_two, ← piece_two]
    congr 1; omega
theorem pst_ok {kind : Int} {bs : List UInt8} {r : PR} : ∀ (i : Nat), (pst kind bs r i).1.ok = true → r.ok = true ∧ ((pst kind bs r i).1.at_ ≤ bs.length ∨ i = 0) ∧ r.at_ ≤ (pst kind bs r i).1.at_ ∧ itemsB kind (pst kind bs r i).2 = piece bs r.at_ ((pst kind bs r i).1.at_ - r.at_)
  | 0, h => ⟨h, .inr rfl, Nat.le_refl _, by simp [pst, itemsB, piece]⟩
  | i + 1, h => by
    rw [pst] at h ⊢
    simp only at h ⊢
    obtain ⟨a1, a2, a3, a4⟩ := pitem_ok h
    obtain ⟨b1, b2, b3, b4⟩ := pst_ok i a1
    refine ⟨b1, .inl a2, by omega, ?_⟩
    have e : itemsB kind ((pst kind bs r i).2 ++ [(pitem kind bs (pst kind bs r i).1).1]) = itemsB kind (pst kind bs r i).2 ++ itemB kind (pitem kind bs (pst kind bs r i).1).1 := by simp [itemsB]
    rw [e, a4, b4]
    have e2 : (pst kind bs r i).1.at_ = r.at_ + ((pst kind bs r i).1.at_ - r.at_) := by omega
    conv => lhs; arg 2; rw [show piece bs (pst kind bs r i).1.at_ = piece bs (r.at_ + ((pst kind bs r i).1.at_ - r.at_)) by rw [← e2]]
    rw [← piece_two]
    congr 1; omega
/-- an item that is laid is read -/
theorem pitem_laid {kind : Int} {x : PI} (h : RightI kind x) {bs y : List UInt8} {o : Nat} (e : bs.drop o = itemB kind x ++ y) : pitem kind bs ⟨o, true⟩ = (x, ⟨o + (itemB kind x).length, true⟩) := by
  have hd := ditem_laid h e
  have hlen : o + (itemB kind x).length ≤ bs.length ∨ bs.length < o := by
    have := congrArg List.length e
    rw [List.length_drop, List.length_append] at this
    omega
  have hpos : 1 ≤ (itemB kind x).length := by unfold itemB; simp only [List.length_append, leb_length]; omega
  have hlen : o + (itemB kind x).length ≤ bs.length := by
    rcases hlen with h | h
    · exact h
    · have := congrArg List.length e
      rw [List.length_drop, List.length_append] at this
      omega
  generalize o + (itemB kind x).length = z at *
  unfold ditem at hd
  unfold pitem
  simp only at hd ⊢
  by_cases h1 : kind = 1
  · rw [if_pos h1] at hd ⊢
    split at hd
    · rename_i h2
      obtain ⟨rfl, rfl⟩ := Prod.mk.inj hd
      rw [pnum_go (by omega), ptake_go (by simp only; omega), pnum_go (by simp only; omega), if_pos h2, ptake_go (by simp only; omega)]
    · rename_i h2
      obtain ⟨rfl, rfl⟩ := Prod.mk.inj hd
      rw [pnum_go (by omega), ptake_go (by simp only; omega), pnum_go (by simp only; omega), if_neg h2, pnum_go (by simp only; omega)]
  · rw [if_neg h1] at hd ⊢
    obtain ⟨rfl, rfl⟩ := Prod.mk.inj hd
    rw [pnum_go (by omega), ptake_go (by simp only; omega), pnum_go (by simp only; omega)]
theorem pst_laid {kind : Int} {xs : List PI} (h : ∀ (i : Nat) (x : PI), xs[i]? = some x → RightI kind x) {bs y : List UInt8} (e : bs.drop 15 = itemsB kind xs ++ y) :
    ∀ i, i ≤ xs.length → pst kind bs ⟨15, true⟩ i = (⟨15 + (itemsB kind (xs.take i)).length, true⟩, xs.take i) := by
  intro i
  induction i with
  | zero => intro _; rfl
  | succ i ih =>
    intro hi
    have h1 := ih (by omega)
    have h2 := (dst_laid h e i (by omega)).2
    have hx := List.getElem?_eq_getElem (l := xs) (i := i) (by omega)
    generalize xs[i] = x at hx
    have hd : xs.drop i = x :: xs.drop (i + 1) := by
      rw [List.drop_eq_getElem_cons (by omega)]
      rw [List.getElem?_eq_getElem (by omega)] at hx
      rw [Option.some.inj hx]
    have h3 : itemsB kind (xs.drop i) = itemB kind x ++ itemsB kind (xs.drop (i + 1)) := by rw [hd]; rfl
    rw [h3, List.append_assoc] at h2
    have h4 := pitem_laid (h i x hx) h2
    have h6 : 15 + (itemsB kind (xs.take (i + 1))).length = 15 + (itemsB kind (xs.take i)).length + (itemB kind x).length := by rw [itemsB_snoc hx, List.length_append, Nat.add_assoc]
    rw [h6, pst, h1]
    simp only [h4]
    rw [List.take_add_one, hx]; rfl
/-- what the program reads of a block that is laid -/
theorem pguess_laid {p : PP} (h : RightP p) (no gen : Nat) (hn : no < 4294967296) (hg : gen < 18446744073709551616) :
    (pguess ((pblock no gen p).take 508)).1 = p ∧ pzeros ((pblock no gen p).take 508) (pguess ((pblock no gen p).take 508)).2 = true := by
  have e : (pblock no gen p).take 508 = pbody no gen p ++ List.replicate (508 - (pbody no gen p).length) 0 := by
    unfold pblock summed
    rw [List.take_append_of_le_length (Nat.le_of_eq (by rw [fullB_length (h.body no gen)])), List.take_of_length_le (Nat.le_of_eq (fullB_length (h.body no gen)))]
    rfl
  have hbl := h.body no gen
  have hz : ∀ m, (List.replicate m (0 : UInt8)).all (· == 0) = true := fun m => by simp
  generalize hzs : List.replicate (508 - (pbody no gen p).length) (0 : UInt8) = zs at e
  have hz : zs.all (· == 0) = true := hzs ▸ hz _
  have hlen : ((pblock no gen p).take 508).length = 508 := by rw [List.length_take, pblock_length h]; rfl
  generalize (pblock no gen p).take 508 = bs at *
  clear hzs
  have hk := h.kind
  have hl := h.level
  have e0 : bs.drop 0 = UInt8.ofNat (p.kind.toNat % 256) :: (UInt8.ofNat (p.level.toNat % 256) :: (leb 4 no ++ (leb 8 gen ++ (ptailB p ++ zs)))) := by
    rw [List.drop_zero, e]; simp [pbody, pheadB]
  have e1 : bs.drop 1 = UInt8.ofNat (p.level.toNat % 256) :: (leb 4 no ++ (leb 8 gen ++ (ptailB p ++ zs))) := by
    have := drop_next (x := [UInt8.ofNat (p.kind.toNat % 256)]) rfl e0; exact this
  have e2 : bs.drop 2 = leb 4 no ++ (leb 8 gen ++ (ptailB p ++ zs)) := by
    have := drop_next (x := [UInt8.ofNat (p.level.toNat % 256)]) rfl e1; exact this
  have e3 := drop_next (leb_length 4 _) e2
  have e4 := drop_next (leb_length 8 _) e3
  have f0 : fld bs 0 1 = p.kind.toNat := by rw [byte_here e0, UInt8.toNat_ofNat']; omega
  have f1 : fld bs 1 1 = p.level.toNat := by rw [byte_here e1, UInt8.toNat_ofNat']; omega
  unfold pguess
  simp only
  rw [pnum_go (by omega), f0, pnum_go (by first | omega | (simp only; omega)), f1, pnum_go (by first | omega | (simp only; omega)), pnum_go (by first | omega | (simp only; omega))]
  simp only [Nat.zero_add, show 1 + 1 = 2 from rfl, show 2 + 4 = 6 from rfl, show 6 + 8 = 14 from rfl] at *
  unfold ptailB at e4
  by_cases h3 : p.kind = 3
  · rw [if_pos (by omega)]
    rw [if_pos h3] at e4
    obtain ⟨hi, hd1, hd2⟩ := h.blob h3
    have hx := h.next
    simp only [List.append_assoc] at e4
    have e5 := drop_next (leb_length 2 _) e4
    have e6 := drop_next (leb_length 4 _) e5
    have e7 := drop_next rfl e6
    rw [pnum_go (by omega), fld_here 2 p.data.length _ (by simp; omega) e4, pnum_go (by first | omega | (simp only; omega)), fld_here 4 p.next.toNat _ (by simp; omega) e5, ptake_go (by first | omega | (simp only; omega)), piece_here rfl e6]
    obtain ⟨kind, level, items, data, next⟩ := p
    simp only at hi h3 hl hx
    subst hi h3
    refine ⟨?_, ?_⟩
    · simp only [PP.mk.injEq, true_and]
      omega
    · unfold pzeros
      simp only
      rw [e7, hz]; rfl
  · rw [if_neg (by omega)]
    rw [if_neg h3] at e4
    have hi := h.items
    obtain ⟨hd, hx⟩ := h.data h3
    simp only [List.append_assoc] at e4
    have e5 := drop_next (leb_length 1 _) e4
    rw [pnum_go (by omega), fld_here 1 p.items.length _ (by simp; omega) e4, show ((p.kind.toNat : Nat) : Int) = p.kind by omega]
    simp only [show 14 + 1 = 15 from rfl] at *
    rw [pst_laid h.all e5 _ (Nat.le_refl _)]
    have e6 := (dst_laid h.all e5 _ (Nat.le_refl _)).2
    rw [List.take_length] at *
    rw [List.drop_length] at e6
    obtain ⟨kind, level, items, data, next⟩ := p
    simp only at hd hl hx e6 ⊢
    subst hd hx
    refine ⟨?_, ?_⟩
    · simp only [PP.mk.injEq, true_and, and_true]
      omega
    · unfold pzeros
      simp only
      rw [e6]; simpa [itemsB] using hz
theorem ofNat_byte (b : UInt8) : UInt8.ofNat (b.toNat % 256) = b := by
  apply UInt8.toNat_inj.1
  rw [UInt8.toNat_ofNat']
  have := b.toNat_lt
  omega
theorem piece_one {bs : List UInt8} {o : Nat} (h : o + 1 ≤ bs.length) : piece bs o 1 = [UInt8.ofNat (fld bs o 1 % 256)] := by
  have h1 := leb_fld h
  rw [← h1]; rfl
theorem zeros_eq {l : List UInt8} (h : l.all (· == 0) = true) : l = List.replicate l.length 0 := by
  rw [List.eq_replicate_iff]
  refine ⟨rfl, fun b hb => ?_⟩
  have := List.all_eq_true.1 h b hb
  simpa using this
/-- what the program takes is what is laid -/
theorem pguess_ok {bs : List UInt8} (hl : bs.length = 512) (hz : pzeros (bs.take 508) (pguess (bs.take 508)).2 = true) (hs : unle (bs.drop 508) = Crc.ofs (bs.take 508)) :
    pblock (fld bs 2 4) (fld bs 6 8) (pguess (bs.take 508)).1 = bs := by
  have hlen : (bs.take 508).length = 508 := by rw [List.length_take]; omega
  have hfld : ∀ o k, o + k ≤ 508 → fld bs o k = fld (bs.take 508) o k := by
    intro o k h
    unfold fld
    rw [List.drop_take, List.take_take, Nat.min_eq_left (by omega)]
  rw [hfld 2 4 (by omega), hfld 6 8 (by omega)]
  have hbs : bs = summed (bs.take 508) := by
    unfold summed
    rw [← hs, leb_unle' (by rw [List.length_drop]; omega), List.take_append_drop]
  have key : fullB (pbody (fld (bs.take 508) 2 4) (fld (bs.take 508) 6 8) (pguess (bs.take 508)).1) = bs.take 508 := by
    generalize bs.take 508 = xs at *
    clear hs hl hfld hbs
    have hok : (pguess xs).2.ok = true := by unfold pzeros at hz; simp at hz; exact hz.2
    have hhead : ∀ p : PP, p.kind = (fld xs 0 1 : Nat) → p.level = (fld xs 1 1 : Nat) → pheadB (fld xs 2 4) (fld xs 6 8) p = piece xs 0 14 := by
      intro p h1 h2
      unfold pheadB
      rw [h1, h2, Int.toNat_natCast, Int.toNat_natCast, leb_fld (by omega), leb_fld (by omega), show (14 : Nat) = 1 + (1 + (4 + 8)) from rfl, piece_two, piece_two, piece_two, piece_one (by omega), piece_one (by omega)]
      rfl
    have hfull : ∀ (b : List UInt8) (o : Nat), o ≤ 508 → b = piece xs 0 o → (xs.drop o).all (· == 0) = true → fullB b = xs := by
      intro b o ho hb h
      subst hb
      unfold fullB
      rw [piece_length (by omega)]
      have h1 := zeros_eq h
      rw [List.length_drop, hlen] at h1
      rw [← h1]; unfold piece; rw [List.drop_zero, List.take_append_drop]
    unfold pguess pzeros at *
    simp only at *
    rw [pnum_go (by omega)] at *
    simp only at *
    rw [pnum_go (by omega)] at *
    simp only at *
    rw [pnum_go (by omega)] at *
    simp only at *
    rw [pnum_go (by omega)] at *
    simp only [Nat.zero_add, show 1 + 1 = 2 from rfl, show 2 + 4 = 6 from rfl, show 6 + 8 = 14 from rfl] at *
    by_cases h3 : fld xs 0 1 = 3
    · rw [if_pos h3] at *
      rw [pnum_go (by omega)] at *
      simp only at *
      rw [pnum_go (by omega)] at *
      simp only [show 14 + 2 = 16 from rfl, show 16 + 4 = 20 from rfl] at *
      obtain ⟨-, a2, a3⟩ := ptake_ok hok
      rw [a3] at hz ⊢
      simp only at a2 hz ⊢
      refine hfull _ (20 + fld xs 14 2) (by omega) ?_ (by simp at hz ⊢; exact hz)
      unfold pbody ptailB
      rw [hhead _ (by rw [h3]; rfl) rfl]
      simp only
      rw [if_pos trivial, piece_length (by omega), leb_fld (by omega), Int.toNat_natCast, leb_fld (by omega), ← piece_two, ← piece_two]
      have := (piece_two (bs := xs) (o := 0) (m := 14) (n := 2 + (4 + fld xs 14 2))).symm
      rw [Nat.zero_add] at this
      rw [this]
      congr 1; omega
    · rw [if_neg h3] at *
      rw [pnum_go (by omega)] at *
      simp only [show 14 + 1 = 15 from rfl] at *
      obtain ⟨-, a2, a3, a4⟩ := pst_ok _ hok
      simp only at a2 a3 a4
      generalize hst : pst (fld xs 0 1 : Nat) xs ⟨15, true⟩ (fld xs 14 1) = st at *
      have hsl : st.2.length = fld xs 14 1 := by rw [← hst, pst_length]
      have ho : st.1.at_ ≤ 508 := by
        rcases a2 with a2 | a2
        · omega
        · rw [a2] at hst; subst hst; show (15 : Nat) ≤ 508; omega
      refine hfull _ st.1.at_ ho ?_ (by simp at hz ⊢; exact hz.1)
      unfold pbody ptailB
      rw [hhead _ rfl rfl]
      simp only
      rw [if_neg (by omega), hsl, leb_fld (by omega), a4]
      have h5 := (piece_two (bs := xs) (o := 14) (m := 1) (n := st.1.at_ - 15)).symm
      rw [show 14 + 1 = 15 from rfl] at h5
      rw [h5]
      have h6 := (piece_two (bs := xs) (o := 0) (m := 14) (n := 1 + (st.1.at_ - 15))).symm
      rw [Nat.zero_add] at h6
      rw [h6]
      congr 1; omega
  unfold pblock
  rw [key]; exact hbs.symm
/-- the program's answer -/
def pdecP (no : Int) (bs : List UInt8) : Int × PP × Nat :=
  if isPg no = false then (15, zeroP, 0) else if bs.length ≠ 512 then (16, zeroP, 0)
  else if unle (bs.drop 508) ≠ Crc.ofs (bs.take 508) then (6, zeroP, 0)
  else if (fld bs 2 4 : Int) ≠ no then (25, zeroP, 0)
  else if 1099511627776 < fld bs 6 8 ∨ pzeros (bs.take 508) (pguess (bs.take 508)).2 = false ∨ pcheck (pguess (bs.take 508)).1 ≠ 0 then (5, zeroP, 0) else (0, (pguess (bs.take 508)).1, fld bs 6 8)
theorem pdecP_eq (no : Int) (bs : List UInt8) : pdecP no bs = pdec no bs := by
  unfold pdecP pdec
  split
  · rfl
  split
  · rfl
  rename_i h2
  split
  · rfl
  rename_i h3
  split
  · rfl
  rename_i h4
  have h2 : bs.length = 512 := by simpa using h2
  have h3 : unle (bs.drop 508) = Crc.ofs (bs.take 508) := by simpa using h3
  have h4 : (fld bs 2 4 : Int) = no := by simpa using h4
  have hno : no.toNat = fld bs 2 4 := by omega
  have hn : fld bs 2 4 < 4294967296 := fld_lt bs 2 4
  have hg : fld bs 6 8 < 18446744073709551616 := fld_lt bs 6 8
  rw [hno]
  by_cases hA : 1099511627776 < fld bs 6 8 ∨ pzeros (bs.take 508) (pguess (bs.take 508)).2 = false ∨ pcheck (pguess (bs.take 508)).1 ≠ 0
  · rw [if_pos hA]
    by_cases hB : fld bs 6 8 ≤ 1099511627776 ∧ pcheck (dguess bs) = 0 ∧ pblock (fld bs 2 4) (fld bs 6 8) (dguess bs) = bs
    · exfalso
      obtain ⟨b1, b2, b3⟩ := hB
      have h5 := pguess_laid (pcheck_right b2) (fld bs 2 4) (fld bs 6 8) hn hg
      rw [b3] at h5
      rcases hA with hA | hA | hA
      · omega
      · rw [h5.2] at hA; cases hA
      · rw [h5.1] at hA; exact hA b2
    · rw [if_neg hB]
  · rw [if_neg hA]
    have a1 : fld bs 6 8 ≤ 1099511627776 := by omega
    have a2 : pzeros (bs.take 508) (pguess (bs.take 508)).2 = true := by
      cases h : pzeros (bs.take 508) (pguess (bs.take 508)).2
      · exact absurd (.inr (.inl h)) hA
      · rfl
    have a3 : pcheck (pguess (bs.take 508)).1 = 0 := by
      by_cases h : pcheck (pguess (bs.take 508)).1 = 0
      · exact h
      · exact absurd (.inr (.inr h)) hA
    have h5 := pguess_ok h2 a2 h3
    have h6 : dguess bs = (pguess (bs.take 508)).1 := by
      have := dguess_laid (pcheck_right a3) (fld bs 2 4) (fld bs 6 8) hn hg
      rw [h5] at this
      exact this
    rw [h6, if_pos ⟨a1, a3, h5⟩]
end Go.Proofs.Ytkjgncmbhkhbnaa
