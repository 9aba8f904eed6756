/- Lists of lists: their own blocks, rising; a list of lists of bytes that came in. -/
import Derived.Test.YtpjdknmgegbgnaaBkRd2
import Derived.Test.YtpjdknmgegbgnaaBkSp
import Derived.Test.YtpjdknmgegbgnaaApartI
import Derived.Test.YtpjdknmgegbgnaaDeep2
namespace Go.Proofs.Ytpjdknmgegbgnaa
open Go.ChangeShapes Go.WideShapes Go.ChangeAt Go.RowKit
set_option linter.unusedVariables false
set_option maxRecDepth 100000

/-- a kind of element: its slot, its list's address, what is known of it -/
structure Knd (α : Type) where
  (val : α → Value) (ad : α → Option Addr) (P : World → α → Prop)
  (hP : ∀ {F : Nat → Prop} {w w' : World} {x : α}, P w x → Chg F w w' → (∀ k, blk (ad x) = some k → ¬ F k) → P w' x)
structure GRws {α : Type} (K : Knd α) (E : Elt) (lo hi : Nat) (w : World) (la : Option Addr) (lc : Nat) (xs : List α) : Prop where
  own : OR E w la lc xs.length (xs.map K.val)
  obs : ∀ x ∈ xs, K.P w x
  lob : ∀ k, blk la = some k → lo ≤ k
  up : Up lo hi (xs.map K.ad)
  sep : ∀ a ∈ xs.map K.ad, ∀ k, blk a = some k → blk la ≠ some k
  top : hi ≤ w.heap.size
section
variable {α : Type} {K : Knd α} {E : Elt}
theorem GRws.mem {xs : List α} {x : α} (h : x ∈ xs) : K.ad x ∈ xs.map K.ad := List.mem_map.2 ⟨x, h, rfl⟩
theorem GRws.nil {lo : Nat} {w : World} (h : lo ≤ w.heap.size) : GRws K E lo w.heap.size w none 0 [] :=
  ⟨OR.nil E w, fun z hz => (by cases hz), fun k hk => (by cases hk), h, fun a ha => (by cases ha), Nat.le_refl _⟩
theorem GRws.chg {F : Nat → Prop} {lo hi : Nat} {w w' : World} {la : Option Addr} {lc : Nat} {xs : List α} (h : GRws K E lo hi w la lc xs) (hc : Chg F w w') (hla : ∀ k, blk la = some k → ¬ F k) (has : ∀ a ∈ xs.map K.ad, ∀ k, blk a = some k → ¬ F k) : GRws K E lo hi w' la lc xs :=
  ⟨h.own.chg hc hla, fun z hz => K.hP (h.obs z hz) hc (has _ (GRws.mem hz)), h.lob, h.up, h.sep, Nat.le_trans h.top hc.size⟩
theorem GRws.below {lo hi : Nat} {w w' : World} {la : Option Addr} {lc : Nat} {xs : List α} (h : GRws K E lo hi w la lc xs) (hb : Below w.heap.size w w') : GRws K E lo hi w' la lc xs := h.chg (F := fun _ => False) (Chg.of_below hb) (fun _ _ f => f) (fun _ _ _ _ f => f)
theorem GRws.hi {lo hi h2 : Nat} {w : World} {la : Option Addr} {lc : Nat} {xs : List α} (h : GRws K E lo hi w la lc xs) (h1 : hi ≤ h2) (h3 : h2 ≤ w.heap.size) : GRws K E lo h2 w la lc xs :=
  ⟨h.own, h.obs, h.lob, h.up.mono h1, h.sep, h3⟩
theorem GRws.snoc {lo hi hi2 : Nat} {w w' : World} {la la' : Option Addr} {lc lc' : Nat} {xs : List α} (h : GRws K E lo hi w la lc xs) {x : α} (hr : K.P w x) (hl : ∀ k, blk (K.ad x) = some k → hi ≤ k ∧ k < hi2) (hh : hi ≤ hi2) (h2 : hi2 ≤ w.heap.size)
    (hla : ∀ k, blk la = some k → blk (K.ad x) ≠ some k) (hO : OR E w' la' lc' (xs.length + 1) (xs.map K.val ++ [K.val x])) (hC : Chg (fun k => blk la = some k) w w') (hb : blk la' = blk la ∨ blk la' = some w.heap.size) : GRws K E lo hi2 w' la' lc' (xs ++ [x]) := by
  have hup := Up.append h.up (show Up hi hi2 [K.ad x] from ⟨hi2, hh, hl, Nat.le_refl _⟩)
  have ha : (xs ++ [x]).map K.ad = xs.map K.ad ++ [K.ad x] := by simp
  have hlo := h.up.le
  refine ⟨?_, ?_, ?_, by rw [ha]; exact hup, ?_, Nat.le_trans h2 hC.size⟩
  · rw [List.length_append, show (xs ++ [x]).map K.val = xs.map K.val ++ [K.val x] by simp]; exact hO
  · intro z hz
    rcases List.mem_append.1 hz with hz | hz
    · exact K.hP (h.obs z hz) hC fun k hk f => h.sep _ (GRws.mem hz) k hk f
    · simp at hz; subst hz
      exact K.hP hr hC fun k e f => hla k f e
  · intro k e
    rcases hb with hb | hb
    · exact h.lob k (hb ▸ e)
    · rw [hb] at e; cases e; omega
  · rw [ha]
    intro a hmem k e f
    rcases hb with hb | hb
    · rw [hb] at f
      rcases List.mem_append.1 hmem with hm | hm
      · exact h.sep a hm k e f
      · simp at hm; subst hm; exact hla k f e
    · rw [hb] at f; cases f
      have := (hup.mem a hmem _ e).2; omega
theorem GRws.at {lo hi : Nat} {w : World} {la : Option Addr} {lc : Nat} {xs : List α} (h : GRws K E lo hi w la lc xs) {i : Nat} {x : α} (hi : xs[i]? = some x) : ∃ g, la = some ⟨g, 0, none⟩ ∧ w.cell? ⟨g, i, none⟩ = some (K.val x) := by
  obtain ⟨g, h1, h2, _⟩ := h.own.cell (j := i) (u := K.val x) (by simp [hi])
  exact ⟨g, h1, h2⟩
end
/-- lists with marked room -/
def kSp : Knd Row where
  val := cellR
  ad := fun r => r.2.1
  P := fun w r => r.1.length ≤ 140737488355328 ∧ ∃ g, r.2.1 = some ⟨g, 0, none⟩ ∧ r.2.2 = r.1.length + 64 ∧ Spared w g r.1
  hP := by
    rintro F w w' ⟨b, oa, c⟩ ⟨h0, g, h1, h2, h3⟩ hc hn
    simp only at h1 h2 h3 hn
    subst h1
    exact ⟨h0, g, rfl, h2, h3.chg hc (hn g rfl)⟩
theorem GRws.rd {lo hi : Nat} {w : World} {la : Option Addr} {lc : Nat} {rs : List Row} (h : GRws kSp eSl lo hi w la lc rs) : RdRw w la rs := by
  rcases h.own.form.2 with ⟨_, _, h0, _⟩ | ⟨g, e, hg, _⟩
  · exact .inl (List.length_eq_zero_iff.1 h0)
  · refine .inr ⟨g, 0, e, hg, fun i r hr => ?_⟩
    obtain ⟨g', e', hcell⟩ := h.at hr
    rw [e] at e'; cases e'
    obtain ⟨h0, g2, h1, h2, h3⟩ := h.obs r (List.mem_of_getElem? hr)
    obtain ⟨b, oa, c⟩ := r
    simp only at h0 h1 h2 h3
    subst h1 h2
    exact ⟨by rw [Nat.zero_add]; exact hcell, h3.bts, Nat.le_add_right _ _, h0⟩
def eSI : Elt := { t := 38, e := 22, size := 1, bytes := 24, z := .slice none 0 0, hu := Try.underlying38, hi := by kernel_rfl, hz := rfl, h0 := by decide }
/-- lists of numbers of which nothing but the shape is told -/
def kTo : Knd Lst where
  val := Lst.val
  ad := Lst.oa
  P := fun w e => e.n ≤ 70000 ∧ ∃ cs, OR eN w e.oa e.cap e.n cs
  hP := by
    rintro F w w' e ⟨h0, cs, h⟩ hc hn
    exact ⟨h0, cs, h.chg hc hn⟩
/-- ApartInts of lists that lie apart -/
theorem apart_told {w : World} {lo hi : Nat} {ta : Option Addr} {tc : Nat} {ts : List Lst} (h : GRws kTo eSI lo hi w ta tc ts) {n : Nat} (hn : ts.length = n) (hlen : n ≤ 1000000) {B : Nat} (hB : B ≤ w.heap.size) (hlo : B ≤ lo) :
    Calls Try.prog 23 #[.slice ta n tc] w fun x w' => x = .returned (.bool true) ∧ Below B w w' := by
  have hup : Up lo hi (ts.map Lst.oa) := h.up
  have hmm : ∀ k, mine ts k → lo ≤ k ∧ k < hi := fun k ⟨e, he, hk⟩ => hup.mem _ (List.mem_map.2 ⟨e, he, rfl⟩) k hk
  have hL : LRow w ta ts := by
    rcases h.own.form.2 with ⟨_, _, h0, _⟩ | ⟨g, e, hg, _⟩
    · exact .inl (List.length_eq_zero_iff.1 h0)
    · refine .inr ⟨g, 0, e, hg, fun i x hx => ?_⟩
      obtain ⟨g', e', hcell⟩ := h.at hx
      rw [e] at e'; cases e'
      rw [Nat.zero_add]; exact hcell
  have H := ApI.apart_any ta tc ts (by omega) (fun e he => (h.obs e he).1) (fun i j e f he hf hij k hk => up_sep hup i j _ _ (by rw [List.getElem?_map, he]; rfl) (by rw [List.getElem?_map, hf]; rfl) hij k hk) w hL
    (fun b hb ⟨e, he, hk⟩ => h.sep _ (GRws.mem (K := kTo) he) b hk hb) (fun b hb => h.own.lt b hb) (fun e he => (h.obs e he).2)
  rw [hn] at H
  refine H.mono ?_
  rintro _ w' ⟨rfl, hC⟩
  exact ⟨rfl, hC.below hB (fun k hk => Nat.le_trans hlo (hmm k hk).1)⟩
/-- lists turned byte by byte: their shape stays -/
def Shp (w : World) (rs : List Row) : Prop := ∀ r ∈ rs, ∃ bs, bs.length = r.1.length + 64 ∧ OB w r.2.1 (r.1.length + 64) bs
def RelFl (W : World) (rs : List Row) (n : Nat) (v : Value) (wr : World) : Prop := ∃ k : Nat, k ≤ n ∧ v = .int .i64 k ∧ Shp wr rs ∧ Chg (fun b => ∃ r ∈ rs, blk r.2.1 = some b) W wr
theorem OB.set8 {w : World} {g cap : Nat} {bs : List UInt8} (h : OB w (some ⟨g, 0, none⟩) cap bs) (j : Nat) (hj : j < bs.length) (v : Int) (h0 : 0 ≤ v) (h1 : v < 256) : OB (w.setCell ⟨g, j, none⟩ (.int .u8 v)) (some ⟨g, 0, none⟩) cap (bs.set j (UInt8.ofNat v.toNat)) := by
  have := OR.set (E := eB) h j (.int .u8 v) (by rw [cellsB_length]; exact hj)
  have hv : ((UInt8.ofNat v.toNat).toNat : Int) = v := by rw [UInt8.toNat_ofNat']; omega
  have e : cellsB (bs.set j (UInt8.ofNat v.toNat)) = (cellsB bs).set j (.int .u8 v) := by
    unfold cellsB; rw [List.map_set, hv]
  unfold OB
  rw [List.length_set, e]
  exact this
/-- what is read after the turning -/
theorem shp_rd {lo hi : Nat} {w w' : World} {la : Option Addr} {lc : Nat} {rs : List Row} (h : GRws kSp eSl lo hi w la lc rs) (hs : Shp w' rs) (hC : Chg (fun b => ∃ r ∈ rs, blk r.2.1 = some b) w w') :
    ∃ rs2 : List Row, rs2.length = rs.length ∧ RdRw w' la rs2 := by
  have hown := h.own.chg hC (fun k hk ⟨r, hr, e⟩ => h.sep _ (GRws.mem (K := kSp) hr) k e hk)
  have hex : ∀ i, i < rs.length → ∃ r2 : Row, ∀ r, rs[i]? = some r → r2.2 = r.2 ∧ r2.1.length = r.1.length ∧ r.1.length ≤ 140737488355328 ∧ r.2.2 = r.1.length + 64 ∧ Bts w' r2.2.1 r2.1 := fun i hi => by
    obtain ⟨r, hr⟩ : ∃ r, rs[i]? = some r := ⟨_, List.getElem?_eq_getElem hi⟩
    have hm := List.mem_of_getElem? hr
    obtain ⟨bs, hb, hO⟩ := hs r hm
    obtain ⟨h0, g, h1, h2, -⟩ := h.obs r hm
    refine ⟨(bs.take r.1.length, r.2), fun r' hr' => ?_⟩
    rw [hr] at hr'; cases hr'
    refine ⟨rfl, by simp only [List.length_take]; omega, h0, h2, ?_⟩
    exact OB.low (xs := bs.drop r.1.length) (cap := r.1.length + 64) (by rw [List.take_append_drop]; exact hO)
  refine ⟨List.ofFn fun i : Fin rs.length => Classical.choose (hex i i.2), by simp, ?_⟩
  rcases hown.form.2 with ⟨_, _, h0, _⟩ | ⟨g, e, hg, _⟩
  · have : rs = [] := List.length_eq_zero_iff.1 h0
    subst this
    exact .inl (by simp)
  · refine .inr ⟨g, 0, e, hg, fun i r2 hr2 => ?_⟩
    rw [List.getElem?_ofFn] at hr2
    by_cases hi : i < rs.length
    · rw [dif_pos hi] at hr2
      cases hr2
      have hr := List.getElem?_eq_getElem hi
      obtain ⟨q1, q2, q3, q4, q5⟩ := Classical.choose_spec (hex i hi) _ hr
      obtain ⟨g', e', hc, -⟩ := hown.cell (j := i) (u := cellR rs[i]) (by rw [List.getElem?_map, hr]; rfl)
      rw [e] at e'; cases e'
      refine ⟨?_, q5, ?_, ?_⟩
      · rw [Nat.zero_add, hc]
        unfold cellR
        rw [q1, q2]
      · rw [q1, q2, q4]; omega
      · rw [q2]; exact q3
    · rw [dif_neg hi] at hr2; cases hr2
/-- a list of lists of bytes that came in -/
theorem open_rows {H : Type} {enc : TypeId × Value → H} {W : World} {a : Option Addr} {len cap : Nat} {d : DataW H} {p : List MemPlace}
    (h : DataW.Trod enc Try.prog W 0 (fun _ => true) true 26 (Value.slice a len cap) d p) (hz : ∀ n ∈ DataW.weights Try.prog 26 d, n ≤ reachBytes) : len ≤ cap ∧ cap ≤ 9223372036854775807 ∧ ∃ rs : List Row, rs.length = len ∧ RdRw W a rs := by
  obtain ⟨fuel, hf⟩ := h
  rcases rd_elems (x := (d, p)) Try.underlying26 hf with h0 | ⟨a2, len2, cap2, m, hcs, hl, hm, -, hi⟩
  · cases h0
    exact ⟨Nat.le_refl _, by decide, [], rfl, .inl rfl⟩
  · cases hcs
    have hm' : cap ≤ 9223372036854775807 := by unfold maxLen at hm; omega
    have hex : ∀ i, i < len → ∃ r : Row, W.cell? (a2.add i) = some (.slice r.2.1 r.1.length r.2.2) ∧ Bts W r.2.1 r.1 ∧ r.1.length ≤ r.2.2 ∧ r.1.length ≤ 140737488355328 := fun i hil => by
      obtain ⟨cs, y, hcl, hat, hy, hw⟩ := hi i (by omega)
      have h1 : Try.prog.cellsOf 32 = 1 := by kernel_rfl
      rw [h1] at hcl
      obtain ⟨c, rfl⟩ := List.length_eq_one_iff.1 hcl
      have hc := hat 0 (by rw [h1]; exact Nat.one_pos)
      rw [h1, Nat.mul_one, Nat.add_zero] at hc
      obtain ⟨a3, len3, cap3, zs, rfl, hrow, hcap⟩ := rd_bytes hy (fun q hq => hz q (hw q hq))
      have hlc := hrow.len_cap
      obtain ⟨bs, rfl, hb⟩ := hrow.bts
      exact ⟨(bs, a3, cap3), hc, hb, hlc, by simp only; omega⟩
    by_cases hl0 : len = 0
    · subst hl0; exact ⟨hl, hm', [], rfl, .inl rfl⟩
    · obtain ⟨r0, hc0, -⟩ := hex 0 (by omega)
      obtain ⟨b, off, vi⟩ := a2
      have hspot : vi = none := by simpa [Addr.add] using World.cell?_spot hc0
      subst hspot
      have hblt : b < W.heap.size := by rw [add_none] at hc0; exact block_lt_of_cell hc0
      have hex2 : ∀ i, i < len → ∃ r : Row, W.cell? ⟨b, off + i, none⟩ = some (.slice r.2.1 r.1.length r.2.2) ∧ Bts W r.2.1 r.1 ∧ r.1.length ≤ r.2.2 ∧ r.1.length ≤ 140737488355328 := fun i hil => by
        obtain ⟨r, h1, h2⟩ := hex i hil
        rw [add_none] at h1
        exact ⟨r, h1, h2⟩
      refine ⟨hl, hm', List.ofFn fun i : Fin len => Classical.choose (hex2 i i.2), by simp, .inr ⟨b, off, rfl, hblt, fun i r hr => ?_⟩⟩
      rw [List.getElem?_ofFn] at hr
      by_cases hi : i < len
      · rw [dif_pos hi] at hr
        cases hr
        exact Classical.choose_spec (hex2 i hi)
      · rw [dif_neg hi] at hr; cases hr
theorem RdRw.cut {w : World} {a : Option Addr} {rs : List Row} (h : RdRw w a rs) (n : Nat) : RdRw w a (rs.take n) := by
  rcases h with rfl | ⟨b, off, h1, h2, h3⟩
  · exact .inl (by simp)
  · refine .inr ⟨b, off, h1, h2, fun i r hr => h3 i r ?_⟩
    rw [List.getElem?_take] at hr
    split at hr
    · exact hr
    · cases hr
end Go.Proofs.Ytpjdknmgegbgnaa
