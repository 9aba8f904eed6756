/- Lists of items that the program makes: each with lists of its own, in blocks that rise. -/
import Derived.Test.YtkjgncmbhkhbnaaPRdN
namespace Go.Proofs.Ytkjgncmbhkhbnaa
open Go.RowKit
set_option linter.unusedVariables false

def eIt : Elt := { t := 24, e := 64, size := 4, bytes := 64, z := .agg #[.slice none 0 0, .slice none 0 0, .int .i64 0, .int .i64 0], hu := Try.underlying24, hi := by kernel_rfl, hz := rfl, h0 := by decide }
structure TA where
  (ka : Option Addr) (kc : Nat) (va : Option Addr) (vc : Nat)
def cellsI (z : PI × TA) : List Value := [.slice z.2.ka z.1.key.length z.2.kc, .slice z.2.va z.1.value.length z.2.vc, .int .i64 z.1.child, .int .i64 z.1.size]
def cellsZ (zs : List (PI × TA)) : List Value := zs.flatMap cellsI
def adrs (zs : List (PI × TA)) : List (Option Addr) := zs.flatMap fun z => [z.2.ka, z.2.va]
theorem cellsZ_length (zs : List (PI × TA)) : (cellsZ zs).length = zs.length * 4 := by
  induction zs with
  | nil => rfl
  | cons z zs ih =>
    have e : cellsZ (z :: zs) = cellsI z ++ cellsZ zs := rfl
    rw [e, List.length_append, ih, List.length_cons]; simp only [cellsI, List.length_cons, List.length_nil]; omega
theorem cellsZ_get : ∀ {zs : List (PI × TA)} {i : Nat} {z : PI × TA}, zs[i]? = some z → ∀ j u, (cellsI z)[j]? = some u → (cellsZ zs)[i * 4 + j]? = some u
  | [], i, z, h, j, u, hj => by simp at h
  | y :: zs, 0, z, h, j, u, hj => by
    simp at h; subst h
    have e : cellsZ (y :: zs) = cellsI y ++ cellsZ zs := rfl
    have hl := (List.getElem?_eq_some_iff.1 hj).1
    rw [e, Nat.zero_mul, Nat.zero_add, List.getElem?_append_left hl]; exact hj
  | y :: zs, i + 1, z, h, j, u, hj => by
    have e : cellsZ (y :: zs) = cellsI y ++ cellsZ zs := rfl
    have e4 : (cellsI y).length = 4 := rfl
    rw [e, List.getElem?_append_right (by rw [e4]; omega), e4, show (i + 1) * 4 + j - 4 = i * 4 + j by omega]
    exact cellsZ_get (by simpa using h) j u hj
/-- blocks that rise from lo to hi -/
def Up : Nat → Nat → List (Option Addr) → Prop
  | lo, hi, [] => lo ≤ hi
  | lo, hi, a :: ds => ∃ m, lo ≤ m ∧ (∀ k, blk a = some k → lo ≤ k ∧ k < m) ∧ Up m hi ds
theorem Up.le : ∀ {ds : List (Option Addr)} {lo hi : Nat}, Up lo hi ds → lo ≤ hi
  | [], _, _, h => h
  | a :: ds, _, _, ⟨m, h1, _, h3⟩ => Nat.le_trans h1 (Up.le h3)
theorem Up.append : ∀ {ds bs : List (Option Addr)} {lo mi hi : Nat}, Up lo mi ds → Up mi hi bs → Up lo hi (ds ++ bs)
  | [], [], _, _, _, h, k => Nat.le_trans h k
  | [], b :: bs, lo, mi, hi, h, ⟨m, h1, h2, h3⟩ => ⟨m, Nat.le_trans h h1, fun k hk => ⟨Nat.le_trans h (h2 k hk).1, (h2 k hk).2⟩, h3⟩
  | a :: ds, bs, _, _, _, ⟨m, h1, h2, h3⟩, k => ⟨m, h1, h2, Up.append h3 k⟩
theorem Up.mem : ∀ {ds : List (Option Addr)} {lo hi : Nat}, Up lo hi ds → ∀ a ∈ ds, ∀ k, blk a = some k → lo ≤ k ∧ k < hi
  | a :: ds, lo, hi, ⟨m, h1, h2, h3⟩, x, hx, k, hk => by
    rcases List.mem_cons.1 hx with rfl | hx
    · have := h2 k hk; have := Up.le h3; omega
    · have := Up.mem h3 x hx k hk; omega
theorem Up.two {lo hi : Nat} {a b : Option Addr} {m : Nat} (h1 : lo ≤ m) (h2 : m ≤ hi) (ha : ∀ k, blk a = some k → lo ≤ k ∧ k < m) (hb : ∀ k, blk b = some k → m ≤ k ∧ k < hi) : Up lo hi [a, b] :=
  ⟨m, h1, ha, hi, h2, hb, Nat.le_refl _⟩
theorem Up.mono {ds : List (Option Addr)} {lo hi h2 : Nat} (h : Up lo hi ds) (hh : hi ≤ h2) : Up lo h2 ds := by
  have := Up.append (bs := []) h (show Up hi h2 [] from hh)
  rwa [List.append_nil] at this
structure Its (lo hi : Nat) (w : World) (la : Option Addr) (lc : Nat) (zs : List (PI × TA)) : Prop where
  own : OR eIt w la lc zs.length (cellsZ zs)
  obs : ∀ z ∈ zs, OB w z.2.ka z.2.kc z.1.key ∧ OB w z.2.va z.2.vc z.1.value
  lob : ∀ k, blk la = some k → lo ≤ k
  up : Up lo hi (adrs zs)
  sep : ∀ a ∈ adrs zs, ∀ k, blk a = some k → blk la ≠ some k
  ints : ∀ z ∈ zs, i64ok z.1.child ∧ i64ok z.1.size
  top : hi ≤ w.heap.size
theorem Its.nil (w : World) : Its w.heap.size w.heap.size w none 0 [] :=
  ⟨OR.nil eIt w, fun z hz => (by cases hz), fun k hk => (by cases hk), Nat.le_refl _, fun a ha => (by cases ha), fun z hz => (by cases hz), Nat.le_refl _⟩
theorem mem_adrs {zs : List (PI × TA)} {z : PI × TA} (h : z ∈ zs) : z.2.ka ∈ adrs zs ∧ z.2.va ∈ adrs zs := by
  unfold adrs
  exact ⟨List.mem_flatMap.2 ⟨z, h, by simp⟩, List.mem_flatMap.2 ⟨z, h, by simp⟩⟩
theorem Its.chg {F : Nat → Prop} {lo hi : Nat} {w w' : World} {la : Option Addr} {lc : Nat} {zs : List (PI × TA)} (h : Its lo hi w la lc zs) (hc : Chg F w w') (hla : ∀ k, blk la = some k → ¬ F k) (has : ∀ a ∈ adrs zs, ∀ k, blk a = some k → ¬ F k) : Its lo hi w' la lc zs :=
  ⟨h.own.chg hc hla, fun z hz => ⟨(h.obs z hz).1.chg hc (has _ (mem_adrs hz).1), (h.obs z hz).2.chg hc (has _ (mem_adrs hz).2)⟩, h.lob, h.up, h.sep, h.ints, Nat.le_trans h.top hc.size⟩
theorem Its.below {lo hi : Nat} {w w' : World} {la : Option Addr} {lc : Nat} {zs : List (PI × TA)} (h : Its lo hi w la lc zs) (hb : Below w.heap.size w w') : Its lo hi w' la lc zs := h.chg (F := fun _ => False) (Chg.of_below hb) (fun _ _ f => f) (fun _ _ _ _ f => f)
theorem Its.snoc {lo hi hi2 : Nat} {w w' : World} {la la' : Option Addr} {lc lc' : Nat} {zs : List (PI × TA)} (h : Its lo hi w la lc zs) {x : PI} {t : TA} (hk : OB w t.ka t.kc x.key) (hv : OB w t.va t.vc x.value) (hu : Up hi hi2 [t.ka, t.va]) (h2 : hi2 ≤ w.heap.size)
    (hla : ∀ k, blk la = some k → k < hi) (hi1 : i64ok x.child) (hi3 : i64ok x.size)
    (hO : OR eIt w' la' lc' (zs.length + 1) (cellsZ zs ++ cellsI (x, t))) (hC : Chg (fun k => blk la = some k) w w') (hb : blk la' = blk la ∨ blk la' = some w.heap.size) : Its lo hi2 w' la' lc' (zs ++ [(x, t)]) := by
  have hup := Up.append h.up hu
  have ha : adrs (zs ++ [(x, t)]) = adrs zs ++ [t.ka, t.va] := by simp [adrs]
  have hlo := h.up.le
  refine ⟨?_, ?_, ?_, by rw [ha]; exact hup, ?_, ?_, Nat.le_trans h2 hC.size⟩
  · rw [List.length_append, show cellsZ (zs ++ [(x, t)]) = cellsZ zs ++ cellsI (x, t) by simp [cellsZ]]; exact hO
  · intro z hz
    rcases List.mem_append.1 hz with hz | hz
    · exact ⟨(h.obs z hz).1.chg hC fun k hk f => h.sep _ (mem_adrs hz).1 k hk f, (h.obs z hz).2.chg hC fun k hk f => h.sep _ (mem_adrs hz).2 k hk f⟩
    · simp at hz; subst hz
      refine ⟨hk.chg hC fun k e f => ?_, hv.chg hC fun k e f => ?_⟩
      · have := hla k f; have := (hu.mem t.ka (by simp) k e).1; omega
      · have := hla k f; have := (hu.mem t.va (by simp) k e).1; omega
  · intro k e
    rcases hb with hb | hb
    · exact h.lob k (hb ▸ e)
    · rw [hb] at e; cases e; have := hu.le; omega
  · rw [ha]
    intro a hmem k e f
    rcases hb with hb | hb
    · rw [hb] at f
      rcases List.mem_append.1 hmem with hm | hm
      · exact h.sep a hm k e f
      · have := (hu.mem a hm k e).1; have := hla k f; omega
    · rw [hb] at f; cases f
      have := (hup.mem a hmem _ e).2; omega
  · intro z hz
    rcases List.mem_append.1 hz with hz | hz
    · exact h.ints z hz
    · simp at hz; subst hz; exact ⟨hi1, hi3⟩
theorem OB.sl {w : World} {oa : Option Addr} {cap : Nat} {bs : List UInt8} (h : OB w oa cap bs) (hl : bs.length ≤ 140737488351232) {B : Nat} (hB : ∀ k, blk oa = some k → k < B) : Sl B w oa cap bs :=
  ⟨h.bts, .inr hB, hl, fun e => (h.none_cap e).1⟩
/-- as items that are read -/
theorem Its.at {lo hi : Nat} {w : World} {la : Option Addr} {lc : Nat} {zs : List (PI × TA)} (h : Its lo hi w la lc zs) (hl : ∀ z ∈ zs, z.1.key.length ≤ 140737488351232 ∧ z.1.value.length ≤ 140737488351232) {xs : List PI} (hx : zs.map (·.1) = xs) : ItsAt w.heap.size w la xs ∧ (la = none → lc = 0) := by
  subst hx
  have hn := h.top
  refine ⟨?_, fun e => ?_⟩
  · rcases h.own.form.2 with ⟨_, _, h0, _⟩ | ⟨g, e, hg, hnc, hcm, rest, hh, hlen⟩
    · left
      have := List.length_eq_zero_iff.1 h0
      rw [this]; rfl
    · subst e
      refine .inr ⟨g, 0, rfl, hg, fun i x hi => ?_⟩
      rw [List.getElem?_map] at hi
      obtain ⟨z, hz, rfl⟩ := Option.map_eq_some_iff.1 hi
      have hm := List.mem_of_getElem? hz
      have hc : ∀ j u, (cellsI z)[j]? = some u → w.cell? ⟨g, 0 + i * 4 + j, none⟩ = some u := fun j u hj => by
        obtain ⟨g', e, hcell, _⟩ := h.own.cell (cellsZ_get hz j u hj)
        cases e
        rw [Nat.zero_add]; exact hcell
      obtain ⟨ho1, ho2⟩ := h.obs z hm
      exact ⟨z.2.ka, z.2.kc, z.2.va, z.2.vc, hc 0 _ rfl, hc 1 _ rfl, hc 2 _ rfl, hc 3 _ rfl, ho1.sl (hl z hm).1 ho1.lt, ho2.sl (hl z hm).2 ho2.lt, (h.ints z hm).1, (h.ints z hm).2⟩
  · rcases h.own.form.2 with ⟨_, h0, _, _⟩ | ⟨g, e2, _⟩
    · exact h0
    · rw [e] at e2; cases e2
end Go.Proofs.Ytkjgncmbhkhbnaa
