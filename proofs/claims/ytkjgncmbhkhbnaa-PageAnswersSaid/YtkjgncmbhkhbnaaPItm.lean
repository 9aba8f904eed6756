/- Lists of items that the program makes: each with lists of its own, in blocks that rise. The program's reader: items. -/
import Derived.Test.YtkjgncmbhkhbnaaPRdN
namespace Go.Proofs.Ytkjgncmbhkhbnaa
open Go.RowKit
set_option linter.unusedVariables false

def eIt : Elt := { t := 24, e := 64, size := 4, bytes := 64, z := .agg #[.slice none 0 0, .slice none 0 0, .int .i64 0, .int .i64 0], hu := Try.underlying24, hi := by kernel_rfl, hz := rfl, h0 := by decide }
structure TA where
  (ka : Option Addr) (kc : Nat) (va : Option Addr) (vc : Nat)
def cellsI (z : PI × TA) : List Value := [.slice z.2.ka z.1.key.length z.2.kc, .slice z.2.va z.1.value.length z.2.vc, .int .i64 z.1.child, .int .i64 z.1.size]
def cellsZ (zs : List (PI × TA)) : List Value := zs.flatMap cellsI
def adrs (zs : List (PI × TA)) : List (Option Addr) := zs.flatMap fun z => [z.2.ka, z.2.va]
theorem cellsZ_length (zs : List (PI × TA)) : (cellsZ zs).length = zs.length * 4 := by
  induction zs with
  | nil => rfl
  | cons z zs ih =>
    have e : cellsZ (z :: zs) = cellsI z ++ cellsZ zs := rfl
    rw [e, List.length_append, ih, List.length_cons]; simp only [cellsI, List.length_cons, List.length_nil]; omega
theorem cellsZ_get : ∀ {zs : List (PI × TA)} {i : Nat} {z : PI × TA}, zs[i]? = some z → ∀ j u, (cellsI z)[j]? = some u → (cellsZ zs)[i * 4 + j]? = some u
  | [], i, z, h, j, u, hj => by simp at h
  | y :: zs, 0, z, h, j, u, hj => by
    simp at h; subst h
    have e : cellsZ (y :: zs) = cellsI y ++ cellsZ zs := rfl
    have hl := (List.getElem?_eq_some_iff.1 hj).1
    rw [e, Nat.zero_mul, Nat.zero_add, List.getElem?_append_left hl]; exact hj
  | y :: zs, i + 1, z, h, j, u, hj => by
    have e : cellsZ (y :: zs) = cellsI y ++ cellsZ zs := rfl
    have e4 : (cellsI y).length = 4 := rfl
    rw [e, List.getElem?_append_right (by rw [e4]; omega), e4, show (i + 1) * 4 + j - 4 = i * 4 + j by omega]
    exact cellsZ_get (by simpa using h) j u hj
/-- blocks that rise from lo to hi -/
def Up : Nat → Nat → List (Option Addr) → Prop
  | lo, hi, [] => lo ≤ hi
  | lo, hi, a :: ds => ∃ m, lo ≤ m ∧ (∀ k, blk a = some k → lo ≤ k ∧ k < m) ∧ Up m hi ds
theorem Up.le : ∀ {ds : List (Option Addr)} {lo hi : Nat}, Up lo hi ds → lo ≤ hi
  | [], _, _, h => h
  | a :: ds, _, _, ⟨m, h1, _, h3⟩ => Nat.le_trans h1 (Up.le h3)
theorem Up.append : ∀ {ds bs : List (Option Addr)} {lo mi hi : Nat}, Up lo mi ds → Up mi hi bs → Up lo hi (ds ++ bs)
  | [], [], _, _, _, h, k => Nat.le_trans h k
  | [], b :: bs, lo, mi, hi, h, ⟨m, h1, h2, h3⟩ => ⟨m, Nat.le_trans h h1, fun k hk => ⟨Nat.le_trans h (h2 k hk).1, (h2 k hk).2⟩, h3⟩
  | a :: ds, bs, _, _, _, ⟨m, h1, h2, h3⟩, k => ⟨m, h1, h2, Up.append h3 k⟩
theorem Up.mem : ∀ {ds : List (Option Addr)} {lo hi : Nat}, Up lo hi ds → ∀ a ∈ ds, ∀ k, blk a = some k → lo ≤ k ∧ k < hi
  | a :: ds, lo, hi, ⟨m, h1, h2, h3⟩, x, hx, k, hk => by
    rcases List.mem_cons.1 hx with rfl | hx
    · have := h2 k hk; have := Up.le h3; omega
    · have := Up.mem h3 x hx k hk; omega
theorem Up.two {lo hi : Nat} {a b : Option Addr} {m : Nat} (h1 : lo ≤ m) (h2 : m ≤ hi) (ha : ∀ k, blk a = some k → lo ≤ k ∧ k < m) (hb : ∀ k, blk b = some k → m ≤ k ∧ k < hi) : Up lo hi [a, b] :=
  ⟨m, h1, ha, hi, h2, hb, Nat.le_refl _⟩
theorem Up.mono {ds : List (Option Addr)} {lo hi h2 : Nat} (h : Up lo hi ds) (hh : hi ≤ h2) : Up lo h2 ds := by
  have := Up.append (bs := []) h (show Up hi h2 [] from hh)
  rwa [List.append_nil] at this
structure Its (lo hi : Nat) (w : World) (la : Option Addr) (lc : Nat) (zs : List (PI × TA)) : Prop where
  own : OR eIt w la lc zs.length (cellsZ zs)
  obs : ∀ z ∈ zs, OB w z.2.ka z.2.kc z.1.key ∧ OB w z.2.va z.2.vc z.1.value
  lob : ∀ k, blk la = some k → lo ≤ k
  up : Up lo hi (adrs zs)
  sep : ∀ a ∈ adrs zs, ∀ k, blk a = some k → blk la ≠ some k
  ints : ∀ z ∈ zs, i64ok z.1.child ∧ i64ok z.1.size
  top : hi ≤ w.heap.size
theorem Its.nil (w : World) : Its w.heap.size w.heap.size w none 0 [] :=
  ⟨OR.nil eIt w, fun z hz => (by cases hz), fun k hk => (by cases hk), Nat.le_refl _, fun a ha => (by cases ha), fun z hz => (by cases hz), Nat.le_refl _⟩
theorem mem_adrs {zs : List (PI × TA)} {z : PI × TA} (h : z ∈ zs) : z.2.ka ∈ adrs zs ∧ z.2.va ∈ adrs zs := by
  unfold adrs
  exact ⟨List.mem_flatMap.2 ⟨z, h, by simp⟩, List.mem_flatMap.2 ⟨z, h, by simp⟩⟩
theorem Its.chg {F : Nat → Prop} {lo hi : Nat} {w w' : World} {la : Option Addr} {lc : Nat} {zs : List (PI × TA)} (h : Its lo hi w la lc zs) (hc : Chg F w w') (hla : ∀ k, blk la = some k → ¬ F k) (has : ∀ a ∈ adrs zs, ∀ k, blk a = some k → ¬ F k) : Its lo hi w' la lc zs :=
  ⟨h.own.chg hc hla, fun z hz => ⟨(h.obs z hz).1.chg hc (has _ (mem_adrs hz).1), (h.obs z hz).2.chg hc (has _ (mem_adrs hz).2)⟩, h.lob, h.up, h.sep, h.ints, Nat.le_trans h.top hc.size⟩
theorem Its.below {lo hi : Nat} {w w' : World} {la : Option Addr} {lc : Nat} {zs : List (PI × TA)} (h : Its lo hi w la lc zs) (hb : Below w.heap.size w w') : Its lo hi w' la lc zs := h.chg (F := fun _ => False) (Chg.of_below hb) (fun _ _ f => f) (fun _ _ _ _ f => f)
theorem Its.snoc {lo hi hi2 : Nat} {w w' : World} {la la' : Option Addr} {lc lc' : Nat} {zs : List (PI × TA)} (h : Its lo hi w la lc zs) {x : PI} {t : TA} (hk : OB w t.ka t.kc x.key) (hv : OB w t.va t.vc x.value) (hu : Up hi hi2 [t.ka, t.va]) (h2 : hi2 ≤ w.heap.size)
    (hla : ∀ k, blk la = some k → k < hi) (hi1 : i64ok x.child) (hi3 : i64ok x.size)
    (hO : OR eIt w' la' lc' (zs.length + 1) (cellsZ zs ++ cellsI (x, t))) (hC : Chg (fun k => blk la = some k) w w') (hb : blk la' = blk la ∨ blk la' = some w.heap.size) : Its lo hi2 w' la' lc' (zs ++ [(x, t)]) := by
  have hup := Up.append h.up hu
  have ha : adrs (zs ++ [(x, t)]) = adrs zs ++ [t.ka, t.va] := by simp [adrs]
  have hlo := h.up.le
  refine ⟨?_, ?_, ?_, by rw [ha]; exact hup, ?_, ?_, Nat.le_trans h2 hC.size⟩
  · rw [List.length_append, show cellsZ (zs ++ [(x, t)]) = cellsZ zs ++ cellsI (x, t) by simp [cellsZ]]; exact hO
  · intro z hz
    rcases List.mem_append.1 hz with hz | hz
    · exact ⟨(h.obs z hz).1.chg hC fun k hk f => h.sep _ (mem_adrs hz).1 k hk f, (h.obs z hz).2.chg hC fun k hk f => h.sep _ (mem_adrs hz).2 k hk f⟩
    · simp at hz; subst hz
      refine ⟨hk.chg hC fun k e f => ?_, hv.chg hC fun k e f => ?_⟩
      · have := hla k f; have := (hu.mem t.ka (by simp) k e).1; omega
      · have := hla k f; have := (hu.mem t.va (by simp) k e).1; omega
  · intro k e
    rcases hb with hb | hb
    · exact h.lob k (hb ▸ e)
    · rw [hb] at e; cases e; have := hu.le; omega
  · rw [ha]
    intro a hmem k e f
    rcases hb with hb | hb
    · rw [hb] at f
      rcases List.mem_append.1 hmem with hm | hm
      · exact h.sep a hm k e f
      · have := (hu.mem a hm k e).1; have := hla k f; omega
    · rw [hb] at f; cases f
      have := (hup.mem a hmem _ e).2; omega
  · intro z hz
    rcases List.mem_append.1 hz with hz | hz
    · exact h.ints z hz
    · simp at hz; subst hz; exact ⟨hi1, hi3⟩
theorem OB.sl {w : World} {oa : Option Addr} {cap : Nat} {bs : List UInt8} (h : OB w oa cap bs) (hl : bs.length ≤ 140737488351232) {B : Nat} (hB : ∀ k, blk oa = some k → k < B) : Sl B w oa cap bs :=
  ⟨h.bts, .inr hB, hl, fun e => (h.none_cap e).1⟩
/-- as items that are read -/
theorem Its.at {lo hi : Nat} {w : World} {la : Option Addr} {lc : Nat} {zs : List (PI × TA)} (h : Its lo hi w la lc zs) (hl : ∀ z ∈ zs, z.1.key.length ≤ 140737488351232 ∧ z.1.value.length ≤ 140737488351232) {xs : List PI} (hx : zs.map (·.1) = xs) : ItsAt w.heap.size w la xs ∧ (la = none → lc = 0) := by
  subst hx
  have hn := h.top
  refine ⟨?_, fun e => ?_⟩
  · rcases h.own.form.2 with ⟨_, _, h0, _⟩ | ⟨g, e, hg, hnc, hcm, rest, hh, hlen⟩
    · left
      have := List.length_eq_zero_iff.1 h0
      rw [this]; rfl
    · subst e
      refine .inr ⟨g, 0, rfl, hg, fun i x hi => ?_⟩
      rw [List.getElem?_map] at hi
      obtain ⟨z, hz, rfl⟩ := Option.map_eq_some_iff.1 hi
      have hm := List.mem_of_getElem? hz
      have hc : ∀ j u, (cellsI z)[j]? = some u → w.cell? ⟨g, 0 + i * 4 + j, none⟩ = some u := fun j u hj => by
        obtain ⟨g', e, hcell, _⟩ := h.own.cell (cellsZ_get hz j u hj)
        cases e
        rw [Nat.zero_add]; exact hcell
      obtain ⟨ho1, ho2⟩ := h.obs z hm
      exact ⟨z.2.ka, z.2.kc, z.2.va, z.2.vc, hc 0 _ rfl, hc 1 _ rfl, hc 2 _ rfl, hc 3 _ rfl, ho1.sl (hl z hm).1 ho1.lt, ho2.sl (hl z hm).2 ho2.lt, (h.ints z hm).1, (h.ints z hm).2⟩
  · rcases h.own.form.2 with ⟨_, h0, _, _⟩ | ⟨g, e2, _⟩
    · exact h0
    · rw [e] at e2; cases e2
end Go.Proofs.Ytkjgncmbhkhbnaa
namespace Go.Proofs.Ytkjgncmbhkhbnaa
open Go.RowKit
set_option linter.unusedVariables false
set_option maxRecDepth 100000

/-- where the loop of items stands -/
def RelIt (W : World) (p b off cap : Nat) (kind : Int) (bs : List UInt8) (r : PR) (n : Nat) (l i : Value) (wr : World) : Prop :=
  ∃ (j : Nat) (la : Option Addr) (lc : Nat) (zs : List (PI × TA)), j ≤ n ∧ i = .int .u64 j ∧ l = .slice la j lc ∧ zs.map (·.1) = (pst kind bs r j).2 ∧ Its W.heap.size wr.heap.size wr la lc zs ∧ RdAft p b off cap bs (pst kind bs r j).1 W wr
def ItemsP (p b off cap : Nat) (kind : Int) (bs : List UInt8) (r : PR) (w : World) (x : Ending) (w' : World) : Prop :=
  ∃ (la : Option Addr) (lc : Nat) (zs : List (PI × TA)), x = .returned (.slice la (pnum bs r 1).1 lc) ∧ zs.map (·.1) = (pst kind bs (pnum bs r 1).2 (pnum bs r 1).1).2 ∧ Its w.heap.size w'.heap.size w' la lc zs ∧ RdAft p b off cap bs (pst kind bs (pnum bs r 1).2 (pnum bs r 1).1).1 w w'
theorem its_start {w w1 : World} (h : w.heap.size ≤ w1.heap.size) : Its w.heap.size w1.heap.size w1 none 0 [] :=
  ⟨OR.nil eIt _, fun z hz => (by cases hz), fun k hk => (by cases hk), h, fun a ha => (by cases ha), fun z hz => (by cases hz), Nat.le_refl _⟩
theorem pnum_lt (bs : List UInt8) (r : PR) (n : Nat) : (pnum bs r n).1 < 256 ^ n := by
  unfold pnum
  exact Nat.lt_of_lt_of_le (unle_lt _) (Nat.pow_le_pow_right (by decide) (ptake_len bs r n))
theorem Its.hi {lo hi h2 : Nat} {w : World} {la : Option Addr} {lc : Nat} {zs : List (PI × TA)} (h : Its lo hi w la lc zs) (h1 : hi ≤ h2) (h3 : h2 ≤ w.heap.size) : Its lo h2 w la lc zs :=
  ⟨h.own, h.obs, h.lob, h.up.mono h1, h.sep, h.ints, h3⟩
/-- what is of the round: the item's box -/
def ItBox (w : World) (t : Nat) (ka : Option Addr) (kl kc : Nat) (va : Option Addr) (vl vc : Nat) (child size : Int) : Prop :=
  w.heap[t]? = some (.cells #[.slice ka kl kc, .slice va vl vc, .int .i64 child, .int .i64 size] 64)
theorem ItBox.cells {w : World} {t kl kc vl vc : Nat} {ka va : Option Addr} {child size : Int} (h : ItBox w t ka kl kc va vl vc child size) :
    w.cell? ⟨t, 0, none⟩ = some (.slice ka kl kc) ∧ w.cell? ⟨t, 1, none⟩ = some (.slice va vl vc) ∧ w.cell? ⟨t, 2, none⟩ = some (.int .i64 child) ∧ w.cell? ⟨t, 3, none⟩ = some (.int .i64 size) ∧ (∀ k, w.frozen? ⟨t, k, none⟩ = false) := by
  unfold ItBox at h; simp [World.cell?, World.frozen?, h]
theorem ItBox.chg {F : Nat → Prop} {w w' : World} {t kl kc vl vc : Nat} {ka va : Option Addr} {child size : Int} (h : ItBox w t ka kl kc va vl vc child size) (hc : Chg F w w') (hn : ¬ F t) : ItBox w' t ka kl kc va vl vc child size :=
  (hc.block t (rlt_of_heapP h) hn).trans h
theorem ItBox.setSize {w : World} {t kl kc vl vc : Nat} {ka va : Option Addr} {child size : Int} (h : ItBox w t ka kl kc va vl vc child size) (s : Int) : ItBox (w.setCell ⟨t, 3, none⟩ (.int .i64 s)) t ka kl kc va vl vc child s := by
  unfold ItBox; rw [set_rowP h]; rfl
theorem ItBox.setChild {w : World} {t kl kc vl vc : Nat} {ka va : Option Addr} {child size : Int} (h : ItBox w t ka kl kc va vl vc child size) (s : Int) : ItBox (w.setCell ⟨t, 2, none⟩ (.int .i64 s)) t ka kl kc va vl vc s size := by
  unfold ItBox; rw [set_rowP h]; rfl
theorem ItBox.setValue {w : World} {t kl kc vl vc : Nat} {ka va : Option Addr} {child size : Int} (h : ItBox w t ka kl kc va vl vc child size) (va2 : Option Addr) (vl2 vc2 : Nat) : ItBox (w.setCell ⟨t, 1, none⟩ (.slice va2 vl2 vc2)) t ka kl kc va2 vl2 vc2 child size := by
  unfold ItBox; rw [set_rowP h]; rfl

/-- in a round: the reader, and the list so far -/
structure Rnd (W : World) (p b off cap : Nat) (bs : List UInt8) (hi : Nat) (la : Option Addr) (lc : Nat) (zs : List (PI × TA)) (r : PR) (w : World) : Prop where
  rd : RdAft p b off cap bs r W w
  its : Its W.heap.size hi w la lc zs
  lat : ∀ k, blk la = some k → k < hi
  pl : p < W.heap.size
  bl : b < W.heap.size
section
variable {W : World} {p b off cap : Nat} {bs : List UInt8} {hi : Nat} {la : Option Addr} {lc : Nat} {zs : List (PI × TA)} {r r2 : PR} {w w2 : World}
theorem Rnd.step (h : Rnd W p b off cap bs hi la lc zs r w) (ha : RdAft p b off cap bs r2 w w2) : Rnd W p b off cap bs hi la lc zs r2 w2 := by
  have hp := h.pl
  exact ⟨⟨ha.1, h.rd.2.trans ha.2 (fun i _ f => f)⟩, h.its.chg ha.2 (fun k e f => by have := h.its.lob k e; omega) (fun a ha k e f => by have := (h.its.up.mem a ha k e).1; omega), h.lat, h.pl, h.bl⟩
theorem Rnd.loc (h : Rnd W p b off cap bs hi la lc zs r w) {t : Nat} (hc : Chg (fun k => k = t) w w2) (ht : hi ≤ t) : Rnd W p b off cap bs hi la lc zs r w2 := by
  have hp := h.pl
  have hb := h.bl
  have hu := h.its.up.le
  exact ⟨⟨h.rd.1.chg hc (by omega) (by omega), h.rd.2.trans hc (fun i hi f => by omega)⟩, h.its.chg hc (fun k e f => by have := h.lat k e; omega) (fun a ha k e f => by have := (h.its.up.mem a ha k e).2; omega), h.lat, h.pl, h.bl⟩
theorem Rnd.below (h : Rnd W p b off cap bs hi la lc zs r w) (hb : Below w.heap.size w w2) : Rnd W p b off cap bs hi la lc zs r w2 :=
  ⟨h.rd.below hb, h.its.below hb, h.lat, h.pl, h.bl⟩
theorem Rnd.keep (h : Rnd W p b off cap bs hi la lc zs r w) {oa : Option Addr} {c : Nat} {ks : List UInt8} (hk : OB w oa c ks) (hl : ∀ k, blk oa = some k → hi ≤ k) (ha : RdAft p b off cap bs r2 w w2) : OB w2 oa c ks := by
  have hp := h.pl
  have hu := h.its.up.le
  exact hk.chg ha.2 (fun k e f => by have := hl k e; omega)
theorem Rnd.box (h : Rnd W p b off cap bs hi la lc zs r w) {t kl kc vl vc : Nat} {ka va : Option Addr} {child size : Int} (hx : ItBox w t ka kl kc va vl vc child size) (ht : hi ≤ t) (ha : RdAft p b off cap bs r2 w w2) : ItBox w2 t ka kl kc va vl vc child size := by
  have hp := h.pl
  have hu := h.its.up.le
  exact hx.chg ha.2 (by omega)
end
theorem pst_next {kind : Int} {bs : List UInt8} {r : PR} {j : Nat} {x : PI} {r2 : PR} (h : pitem kind bs (pst kind bs r j).1 = (x, r2)) : pst kind bs r (j + 1) = (r2, (pst kind bs r j).2 ++ [x]) := by rw [pst, h]
/-- the round's end -/
theorem relIt_next {W : World} {p b off cap : Nat} {kind : Int} {bs : List UInt8} {r : PR} {n j hi : Nat} {la la' : Option Addr} {lc lc' : Nat} {zs : List (PI × TA)} {x : PI} {t : TA} {r2 : PR} {w w' : World} (hj : j < n) (hz : zs.map (·.1) = (pst kind bs r j).2) (hp : pitem kind bs (pst kind bs r j).1 = (x, r2))
    (h : Rnd W p b off cap bs hi la lc zs r2 w) (hk : OB w t.ka t.kc x.key) (hv : OB w t.va t.vc x.value) (hu : Up hi w.heap.size [t.ka, t.va]) (h1 : i64ok x.child) (h3 : i64ok x.size)
    (hO : OR eIt w' la' lc' (j + 1) (cellsZ zs ++ cellsI (x, t))) (hC : Chg (fun k => blk la = some k) w w') (hb : blk la' = blk la ∨ blk la' = some w.heap.size) {i : Value} (hi : i = .int .u64 ((j + 1 : Nat) : Int)) : RelIt W p b off cap kind bs r n (.slice la' (j + 1) lc') i w' := by
  subst hi
  have hl : zs.length = j := by have := congrArg List.length hz; rw [List.length_map, pst_length] at this; exact this
  have hI := h.its.snoc (x := x) (t := t) hk hv hu (Nat.le_refl _) h.lat h1 h3 (by rw [hl]; exact hO) hC hb
  have hp1 := h.pl
  have hb1 := h.bl
  refine ⟨j + 1, la', lc', zs ++ [(x, t)], hj, rfl, rfl, ?_, hI.hi hC.size (Nat.le_refl _), ?_⟩
  · rw [pst_next hp, List.map_append, hz]; rfl
  · rw [pst_next hp]
    refine ⟨h.rd.1.chg hC (fun e => ?_) (fun e => ?_), h.rd.2.trans hC (fun i hi e => ?_)⟩
    · have := h.its.lob _ e; omega
    · have := h.its.lob _ e; omega
    · have := h.its.lob _ e; omega
theorem i64_zero : i64ok 0 := ⟨by decide, by decide⟩
theorem i64_small {n m : Nat} (h : n < m) (hm : m ≤ 9223372036854775808) : i64ok (n : Int) := ⟨by omega, by omega⟩
theorem pitem_a {kind : Int} {bs : List UInt8} {r : PR} {k s : Nat} {rk ry rs rz : PR} {key value : List UInt8} (h1 : kind = 1) (e1 : pnum bs r 1 = (k, rk)) (e2 : ptake bs rk k = (key, ry)) (e3 : pnum bs ry 2 = (s, rs)) (h : s ≤ 32) (e4 : ptake bs rs s = (value, rz)) : pitem kind bs r = (⟨key, value, 0, s⟩, rz) := by
  unfold pitem; simp only [e1, e2, e3, e4]; rw [if_pos h1, if_pos h]
theorem pitem_b {kind : Int} {bs : List UInt8} {r : PR} {k s c : Nat} {rk ry rs rz : PR} {key : List UInt8} (h1 : kind = 1) (e1 : pnum bs r 1 = (k, rk)) (e2 : ptake bs rk k = (key, ry)) (e3 : pnum bs ry 2 = (s, rs)) (h : ¬ s ≤ 32) (e4 : pnum bs rs 4 = (c, rz)) : pitem kind bs r = (⟨key, [], c, s⟩, rz) := by
  unfold pitem; simp only [e1, e2, e3, e4]; rw [if_pos h1, if_neg h]
theorem pitem_c {kind : Int} {bs : List UInt8} {r : PR} {k c : Nat} {rk ry rz : PR} {key : List UInt8} (h1 : ¬ kind = 1) (e1 : pnum bs r 1 = (k, rk)) (e2 : ptake bs rk k = (key, ry)) (e4 : pnum bs ry 4 = (c, rz)) : pitem kind bs r = (⟨key, [], c, 0⟩, rz) := by
  unfold pitem; simp only [e1, e2, e4]; rw [if_neg h1]
theorem size_set (w : World) (a : Addr) (v : Value) : (w.setCell a v).heap.size = w.heap.size := by simp [World.setCell]
theorem news_item (w : World) (a b c d : Value) : ∀ j u, [a, b, c, d][j]? = some u → (w.alloc (.cells #[a, b, c, d] 64)).cell? ((⟨w.heap.size, 0, none⟩ : Addr).add j) = some u := by
  intro j u hj
  rw [add_none, Nat.zero_add, cell_of_row _ _ _ _ _ _ (heap_alloc_new w _)]
  simpa using hj
theorem meas_u64 {n j : Nat} (h : j < n) : n - (intOf (.int .u64 ((j : Int) + 1))).toNat < n - (intOf (.int .u64 (j : Int))).toNat := by simp only [intOf]; omega

set_option maxHeartbeats 1000000 in
theorem items_any (kind : Int) (p b off cap : Nat) (bs : List UInt8) (r : PR) (w : World) (h : IsRd w p b off cap bs r) (hb : b < w.heap.size) :
    Calls Try.prog 55 #[.pointer (some ⟨p, 0, none⟩), .int .i64 kind] w (ItemsP p b off cap kind bs r w) := by
  have H := Lib.hid (number_any p b off cap bs r 1 (by decide) w h)
  have hpl := rlt_of_heapP h.row
  have hnl := pnum_lt bs r 1
  have hle0 := h.len
  unfold NumdP at H
  unfold ItemsP
  generalize (pnum bs r 1).1 = n at H hnl ⊢
  generalize (pnum bs r 1).2 = r1 at H ⊢
  clear h
  go_enter Try.func55, Try.ntmps55
  go_wp2_with fail
  refine H.out.mono ?_
  rintro _ w1 ⟨rfl, hA⟩
  have HA := Lib.hid hA
  clear H hA
  go_wp2_with fail
  go_loopw [5, 9] (fun l i wr => RelIt w p b off cap kind bs r1 n l i wr) (fun _ i _ => n - (intOf i).toNat)
  case atStart => exact ⟨0, none, 0, [], Nat.zero_le _, rfl, rfl, rfl, its_start HA.out.2.size, HA.out⟩
  case round =>
    clear HA
    obtain ⟨j, la, lc, zs, hj, rfl, rfl, hzs, hI, hA⟩ := hrel
    by_cases hlt : j < n
    · have hzl : zs.length = j := by have := congrArg List.length hzs; rw [List.length_map, pst_length] at this; exact this
      have HRN := Lib.hid (show Rnd w p b off cap bs wr.heap.size la lc zs (pst kind bs r1 j).1 wr from ⟨hA, hI, hI.own.lt, hpl, hb⟩)
      have Hnx := Lib.hid fun x t r2 w' w'' la' lc' hp h hk hv hu h1 h3 hO hC hb i hi => relIt_next (W := w) (p := p) (b := b) (off := off) (cap := cap) (la := la) (la' := la') (lc' := lc') (x := x) (t := t) (r2 := r2) (w := w') (w' := w'') (i := i) (hi := wr.heap.size) (lc := lc) hlt hzs hp h hk hv hu h1 h3 hO hC hb hi
      have HOW := Lib.hid hI.own
      have HTP := Lib.hid (Nat.le_refl wr.heap.size)
      generalize hhi : wr.heap.size = hi at HRN Hnx HTP
      have HHI := Lib.hid hhi
      generalize (pst kind bs r1 j).1 = rj at HRN Hnx
      clear hzs hI hA hhi
      obtain ⟨k, rk, e1⟩ : ∃ k rk, pnum bs rj 1 = (k, rk) := ⟨_, _, rfl⟩
      have hkl := pnum_lt bs rj 1
      have H1 := Lib.hid (number_any p b off cap bs rj 1 (by decide) wr HRN.out.rd.1)
      unfold NumdP at H1
      rw [e1] at H1 hkl
      simp only at H1 hkl
      have E1 := Lib.hid e1
      clear e1
      go_wp2_with fail
      refine H1.out.mono ?_
      rintro _ w2 ⟨rfl, hA2⟩
      have HR2 := Lib.hid (HRN.out.step hA2)
      have hs2 : hi ≤ w2.heap.size := HR2.out.its.top
      obtain ⟨key, ry, e2⟩ : ∃ key ry, ptake bs rk k = (key, ry) := ⟨_, _, rfl⟩
      have H2 := Lib.hid (fresh_any p b off cap bs rk k (by omega) w2 HR2.out.rd.1)
      unfold FrshP at H2
      rw [e2] at H2
      simp only at H2
      have E2 := Lib.hid e2
      clear e2 hA2 H1
      have hkw : IntKind.i64.wrap (k : Int) = (k : Int) := wrap_i64_nat k (by omega)
      go_wp2_with fail
      refine H2.out.mono ?_
      rintro _ w3 ⟨ka, kc, rfl, hK, hk0, hA3⟩
      have HR3 := Lib.hid (HR2.out.step hA3)
      clear hA3 H2
      have hk1 := hK.lt
      have HK := Lib.hid (hK.below (one_below w3 (.cells #[.slice ka key.length kc, .slice none 0 0, .int .i64 0, .int .i64 0] 64)))
      have HBX := Lib.hid (show ItBox (w3.alloc (.cells #[.slice ka key.length kc, .slice none 0 0, .int .i64 0, .int .i64 0] 64)) w3.heap.size ka key.length kc none 0 0 0 0 from heap_alloc_new _ _)
      have HR4 := Lib.hid (HR3.out.below (one_below w3 (.cells #[.slice ka key.length kc, .slice none 0 0, .int .i64 0, .int .i64 0] 64)))
      have HK1 := Lib.hid hk1
      have HK0 := Lib.hid hk0
      have hs3 : hi ≤ w3.heap.size := HR3.out.its.top
      clear hK hk0 hk1
      by_cases hk1 : kind = 1
      · subst hk1
        go_wp2_with fail
        generalize w3.alloc (.cells #[.slice ka key.length kc, .slice none 0 0, .int .i64 0, .int .i64 0] 64) = w4 at HK HBX HR4 ⊢
        generalize w3.heap.size = t at HBX HK1 hs3 ⊢
        have HTH := Lib.hid hs3
        replace HK0 := Lib.hid fun k e => Nat.le_trans hs2 (HK0.out k e)
        have HV0 := Lib.hid (OB.nil w4)
        obtain ⟨s, rs, e3⟩ : ∃ s rs, pnum bs ry 2 = (s, rs) := ⟨_, _, rfl⟩
        have hsl := pnum_lt bs ry 2
        have H3 := Lib.hid (number_any p b off cap bs ry 2 (by decide) w4 HR4.out.rd.1)
        unfold NumdP at H3
        rw [e3] at H3 hsl
        simp only at H3 hsl
        have E3 := Lib.hid e3
        clear e3
        have hsw : IntKind.i64.wrap (s : Int) = (s : Int) := wrap_i64_nat s (by omega)
        go_wp2_with fail
        refine H3.out.mono ?_
        rintro _ w5 ⟨rfl, hA5⟩
        have HR5 := Lib.hid (HR4.out.step hA5)
        have HB5 := Lib.hid (HR4.out.box HBX.out HTH.out hA5)
        have HK5 := Lib.hid (HR4.out.keep HK.out HK0.out hA5)
        clear hA5 H3
        obtain ⟨x0, x1, x2, x3, xf⟩ := HB5.out.cells
        have f3 := xf 3
        clear xf
        have HR6 := Lib.hid (HR5.out.loc (Chg.set w5 ⟨t, 3, none⟩ (.int .i64 (s : Int))) HTH.out)
        have HB6 := Lib.hid (HB5.out.setSize (s : Int))
        have HK6 := Lib.hid (HK5.out.chg (Chg.set w5 ⟨t, 3, none⟩ (.int .i64 (s : Int))) (fun k e f => absurd f (Nat.ne_of_lt (HK1.out k e))))
        have hst : (w5.setCell ⟨t, 3, none⟩ (.int .i64 (s : Int))).cell? ⟨t, 3, none⟩ = some (.int .i64 (s : Int)) := HB6.out.cells.2.2.2.1
        by_cases hs : s ≤ 32
        · have hsi : (s : Int) ≤ 32 := by omega
          obtain ⟨value, rz, e4⟩ : ∃ value rz, ptake bs rs s = (value, rz) := ⟨_, _, rfl⟩
          have H4 := Lib.hid (fresh_any p b off cap bs rs s (by omega) _ HR6.out.rd.1)
          unfold FrshP at H4
          rw [e4] at H4
          simp only at H4
          have E4 := Lib.hid e4
          clear e4
          go_wp2_with fail
          refine H4.out.mono ?_
          rintro _ w7 ⟨va, vc, rfl, hV, hv0, hA7⟩
          have HR7 := Lib.hid (HR6.out.step hA7)
          have HB7 := Lib.hid (HR6.out.box HB6.out HTH.out hA7)
          have HK7 := Lib.hid (HR6.out.keep HK6.out HK0.out hA7)
          have HV0 := Lib.hid fun k e => Nat.lt_of_lt_of_le (rlt_of_heapP HB6.out) (hv0 k e)
          have HV1 := Lib.hid hV.lt
          have HV := Lib.hid hV
          clear hA7 H4 hV hv0 x0 x1 x2 x3 f3 hst
          obtain ⟨x0, x1, x2, x3, xf⟩ := HB7.out.cells
          have f1 := xf 1
          clear xf
          have HR8 := Lib.hid (HR7.out.loc (Chg.set w7 ⟨t, 1, none⟩ (.slice va value.length vc)) HTH.out)
          have HB8 := Lib.hid (HB7.out.setValue va value.length vc)
          have HK8 := Lib.hid (HK7.out.chg (Chg.set w7 ⟨t, 1, none⟩ (.slice va value.length vc)) (fun k e f => absurd f (Nat.ne_of_lt (HK1.out k e))))
          have HV8 := Lib.hid (HV.out.chg (Chg.set w7 ⟨t, 1, none⟩ (.slice va value.length vc)) (fun k e f => absurd f.symm (Nat.ne_of_lt (HV0.out k e))))
          have HV81 := Lib.hid fun k e => (Nat.lt_of_lt_of_le (HV1.out k e) (Chg.set w7 ⟨t, 1, none⟩ (.slice va value.length vc)).size)
          have HT8 := Lib.hid (rlt_of_heapP HB8.out)
          have HR9 := Lib.hid (HR8.out.below (one_below (w7.setCell ⟨t, 1, none⟩ (.slice va value.length vc)) (.cells #[.slice ka key.length kc, .slice va value.length vc, .int .i64 0, .int .i64 (s : Int)] 64)))
          have HK9 := Lib.hid (HK8.out.below (one_below (w7.setCell ⟨t, 1, none⟩ (.slice va value.length vc)) (.cells #[.slice ka key.length kc, .slice va value.length vc, .int .i64 0, .int .i64 (s : Int)] 64)))
          have HV9 := Lib.hid (HV8.out.below (one_below (w7.setCell ⟨t, 1, none⟩ (.slice va value.length vc)) (.cells #[.slice ka key.length kc, .slice va value.length vc, .int .i64 0, .int .i64 (s : Int)] 64)))
          have hnw := news_item (w7.setCell ⟨t, 1, none⟩ (.slice va value.length vc)) (.slice ka key.length kc) (.slice va value.length vc) (.int .i64 0) (.int .i64 (s : Int))
          rw [size_set] at hnw
          have HNW := Lib.hid hnw
          clear hnw
          have HUP := Lib.hid (show Up hi ((w7.setCell ⟨t, 1, none⟩ (.slice va value.length vc)).alloc (.cells #[.slice ka key.length kc, .slice va value.length vc, .int .i64 0, .int .i64 (s : Int)] 64)).heap.size [ka, va] from Up.two (m := t) HTH.out (Nat.le_of_lt (Nat.lt_of_lt_of_le HT8.out (one_below (w7.setCell ⟨t, 1, none⟩ (.slice va value.length vc)) _).size)) (fun k e => ⟨HK0.out k e, HK1.out k e⟩) (fun k e => ⟨Nat.le_of_lt (HV0.out k e), Nat.lt_of_lt_of_le (HV81.out k e) (one_below (w7.setCell ⟨t, 1, none⟩ (.slice va value.length vc)) _).size⟩))
          have HOL := Lib.hid (show OR eIt ((w7.setCell ⟨t, 1, none⟩ (.slice va value.length vc)).alloc (.cells #[.slice ka key.length kc, .slice va value.length vc, .int .i64 0, .int .i64 (s : Int)] 64)) la lc j (cellsZ zs) by have := HR9.out.its.own; rwa [hzl] at this)
          go_wp2_with (at_builtin; go_must (refine wpList_append_or eIt rfl (.tmp 39) (.tmp 41) rfl rfl HOL.out rfl (m := 1) (news := [.slice ka key.length kc, .slice va value.length vc, .int .i64 0, .int .i64 (s : Int)]) rfl (.inr ⟨_, rfl, HNW.out⟩) (by simp [Value.oneCell']) (by show (j + 1) * 64 ≤ _; omega) (by omega) ?_)
                       intro la2 lc2 w10 hO10 hC10 hb10 _)
          go_roundw
          case rel => exact Hnx.out ⟨key, value, 0, s⟩ ⟨ka, kc, va, vc⟩ _ _ _ _ _ (pitem_a rfl E1.out E2.out E3.out hs E4.out) HR9.out HK9.out HV9.out HUP.out i64_zero (i64_small hsl (by decide)) hO10 hC10 hb10 _ (by go_num)
          case measure => exact meas_u64 hlt
        · have hsi : ¬ (s : Int) ≤ 32 := by omega
          obtain ⟨c, rz, e4⟩ : ∃ c rz, pnum bs rs 4 = (c, rz) := ⟨_, _, rfl⟩
          have hcl := pnum_lt bs rs 4
          have H4 := Lib.hid (number_any p b off cap bs rs 4 (by decide) _ HR6.out.rd.1)
          unfold NumdP at H4
          rw [e4] at H4 hcl
          simp only at H4 hcl
          have E4 := Lib.hid e4
          clear e4
          have hcw : IntKind.i64.wrap (c : Int) = (c : Int) := wrap_i64_nat c (by omega)
          go_wp2_with fail
          refine H4.out.mono ?_
          rintro _ w7 ⟨rfl, hA7⟩
          have HR7 := Lib.hid (HR6.out.step hA7)
          have HB7 := Lib.hid (HR6.out.box HB6.out HTH.out hA7)
          have HK7 := Lib.hid (HR6.out.keep HK6.out HK0.out hA7)
          clear hA7 H4
          obtain ⟨x0, x1, x2, x3, xf⟩ := HB7.out.cells
          have f2 := xf 2
          clear xf
          have HR8 := Lib.hid (HR7.out.loc (Chg.set w7 ⟨t, 2, none⟩ (.int .i64 (c : Int))) HTH.out)
          have HB8 := Lib.hid (HB7.out.setChild (c : Int))
          have HK8 := Lib.hid (HK7.out.chg (Chg.set w7 ⟨t, 2, none⟩ (.int .i64 (c : Int))) (fun k e f => absurd f (Nat.ne_of_lt (HK1.out k e))))
          have HV8 := Lib.hid (OB.nil (w7.setCell ⟨t, 2, none⟩ (.int .i64 (c : Int))))
          have HT8 := Lib.hid (rlt_of_heapP HB8.out)
          have HR9 := Lib.hid (HR8.out.below (one_below (w7.setCell ⟨t, 2, none⟩ (.int .i64 (c : Int))) (.cells #[.slice ka key.length kc, .slice none 0 0, .int .i64 (c : Int), .int .i64 (s : Int)] 64)))
          have HK9 := Lib.hid (HK8.out.below (one_below (w7.setCell ⟨t, 2, none⟩ (.int .i64 (c : Int))) (.cells #[.slice ka key.length kc, .slice none 0 0, .int .i64 (c : Int), .int .i64 (s : Int)] 64)))
          have HV9 := Lib.hid (HV8.out.below (one_below (w7.setCell ⟨t, 2, none⟩ (.int .i64 (c : Int))) (.cells #[.slice ka key.length kc, .slice none 0 0, .int .i64 (c : Int), .int .i64 (s : Int)] 64)))
          have hnw := news_item (w7.setCell ⟨t, 2, none⟩ (.int .i64 (c : Int))) (.slice ka key.length kc) (.slice none 0 0) (.int .i64 (c : Int)) (.int .i64 (s : Int))
          rw [size_set] at hnw
          have HNW := Lib.hid hnw
          clear hnw
          have HUP := Lib.hid (show Up hi ((w7.setCell ⟨t, 2, none⟩ (.int .i64 (c : Int))).alloc (.cells #[.slice ka key.length kc, .slice none 0 0, .int .i64 (c : Int), .int .i64 (s : Int)] 64)).heap.size [ka, none] from Up.two (m := t) HTH.out (Nat.le_of_lt (Nat.lt_of_lt_of_le HT8.out (one_below (w7.setCell ⟨t, 2, none⟩ (.int .i64 (c : Int))) _).size)) (fun k e => ⟨HK0.out k e, HK1.out k e⟩) (fun k e => (by cases e)))
          have HOL := Lib.hid (show OR eIt ((w7.setCell ⟨t, 2, none⟩ (.int .i64 (c : Int))).alloc (.cells #[.slice ka key.length kc, .slice none 0 0, .int .i64 (c : Int), .int .i64 (s : Int)] 64)) la lc j (cellsZ zs) by have := HR9.out.its.own; rwa [hzl] at this)
          go_wp2_with (at_builtin; go_must (refine wpList_append_or eIt rfl (.tmp 39) (.tmp 41) rfl rfl HOL.out rfl (m := 1) (news := [.slice ka key.length kc, .slice none 0 0, .int .i64 (c : Int), .int .i64 (s : Int)]) rfl (.inr ⟨_, rfl, HNW.out⟩) (by simp [Value.oneCell']) (by show (j + 1) * 64 ≤ _; omega) (by omega) ?_)
                       intro la2 lc2 w10 hO10 hC10 hb10 _)
          go_roundw
          case rel => exact Hnx.out ⟨key, [], c, s⟩ ⟨ka, kc, none, 0⟩ _ _ _ _ _ (pitem_b rfl E1.out E2.out E3.out hs E4.out) HR9.out HK9.out HV9.out HUP.out (i64_small hcl (by decide)) (i64_small hsl (by decide)) hO10 hC10 hb10 _ (by go_num)
          case measure => exact meas_u64 hlt
      · have hkd : (kind == 1) = false := by rw [beq_eq_false_iff_ne]; exact hk1
        go_wp2_with fail
        generalize w3.alloc (.cells #[.slice ka key.length kc, .slice none 0 0, .int .i64 0, .int .i64 0] 64) = w4 at HK HBX HR4 ⊢
        generalize w3.heap.size = t at HBX HK1 hs3 ⊢
        have HTH := Lib.hid hs3
        replace HK0 := Lib.hid fun k e => Nat.le_trans hs2 (HK0.out k e)
        have HV0 := Lib.hid (OB.nil w4)
        obtain ⟨c, rz, e4⟩ : ∃ c rz, pnum bs ry 4 = (c, rz) := ⟨_, _, rfl⟩
        have hcl := pnum_lt bs ry 4
        have H4 := Lib.hid (number_any p b off cap bs ry 4 (by decide) w4 HR4.out.rd.1)
        unfold NumdP at H4
        rw [e4] at H4 hcl
        simp only at H4 hcl
        have E4 := Lib.hid e4
        clear e4
        have hcw : IntKind.i64.wrap (c : Int) = (c : Int) := wrap_i64_nat c (by omega)
        go_wp2_with fail
        refine H4.out.mono ?_
        rintro _ w7 ⟨rfl, hA7⟩
        have HR7 := Lib.hid (HR4.out.step hA7)
        have HB7 := Lib.hid (HR4.out.box HBX.out HTH.out hA7)
        have HK7 := Lib.hid (HR4.out.keep HK.out HK0.out hA7)
        clear hA7 H4
        obtain ⟨x0, x1, x2, x3, xf⟩ := HB7.out.cells
        have f2 := xf 2
        clear xf
        have HR8 := Lib.hid (HR7.out.loc (Chg.set w7 ⟨t, 2, none⟩ (.int .i64 (c : Int))) HTH.out)
        have HB8 := Lib.hid (HB7.out.setChild (c : Int))
        have HK8 := Lib.hid (HK7.out.chg (Chg.set w7 ⟨t, 2, none⟩ (.int .i64 (c : Int))) (fun k e f => absurd f (Nat.ne_of_lt (HK1.out k e))))
        have HV8 := Lib.hid (OB.nil (w7.setCell ⟨t, 2, none⟩ (.int .i64 (c : Int))))
        have HT8 := Lib.hid (rlt_of_heapP HB8.out)
        have HR9 := Lib.hid (HR8.out.below (one_below (w7.setCell ⟨t, 2, none⟩ (.int .i64 (c : Int))) (.cells #[.slice ka key.length kc, .slice none 0 0, .int .i64 (c : Int), .int .i64 0] 64)))
        have HK9 := Lib.hid (HK8.out.below (one_below (w7.setCell ⟨t, 2, none⟩ (.int .i64 (c : Int))) (.cells #[.slice ka key.length kc, .slice none 0 0, .int .i64 (c : Int), .int .i64 0] 64)))
        have HV9 := Lib.hid (HV8.out.below (one_below (w7.setCell ⟨t, 2, none⟩ (.int .i64 (c : Int))) (.cells #[.slice ka key.length kc, .slice none 0 0, .int .i64 (c : Int), .int .i64 0] 64)))
        have hnw := news_item (w7.setCell ⟨t, 2, none⟩ (.int .i64 (c : Int))) (.slice ka key.length kc) (.slice none 0 0) (.int .i64 (c : Int)) (.int .i64 0)
        rw [size_set] at hnw
        have HNW := Lib.hid hnw
        clear hnw
        have HUP := Lib.hid (show Up hi ((w7.setCell ⟨t, 2, none⟩ (.int .i64 (c : Int))).alloc (.cells #[.slice ka key.length kc, .slice none 0 0, .int .i64 (c : Int), .int .i64 0] 64)).heap.size [ka, none] from Up.two (m := t) HTH.out (Nat.le_of_lt (Nat.lt_of_lt_of_le HT8.out (one_below (w7.setCell ⟨t, 2, none⟩ (.int .i64 (c : Int))) _).size)) (fun k e => ⟨HK0.out k e, HK1.out k e⟩) (fun k e => (by cases e)))
        have HOL := Lib.hid (show OR eIt ((w7.setCell ⟨t, 2, none⟩ (.int .i64 (c : Int))).alloc (.cells #[.slice ka key.length kc, .slice none 0 0, .int .i64 (c : Int), .int .i64 0] 64)) la lc j (cellsZ zs) by have := HR9.out.its.own; rwa [hzl] at this)
        go_wp2_with (at_builtin; go_must (refine wpList_append_or eIt rfl (.tmp 39) (.tmp 41) rfl rfl HOL.out rfl (m := 1) (news := [.slice ka key.length kc, .slice none 0 0, .int .i64 (c : Int), .int .i64 0]) rfl (.inr ⟨_, rfl, HNW.out⟩) (by simp [Value.oneCell']) (by show (j + 1) * 64 ≤ _; omega) (by omega) ?_)
                     intro la2 lc2 w10 hO10 hC10 hb10 _)
        go_roundw
        case rel => exact Hnx.out ⟨key, [], c, 0⟩ ⟨ka, kc, none, 0⟩ _ _ _ _ _ (pitem_c hk1 E1.out E2.out E4.out) HR9.out HK9.out HV9.out HUP.out (i64_small hcl (by decide)) i64_zero hO10 hC10 hb10 _ (by go_num)
        case measure => exact meas_u64 hlt
    · have hjn : j = n := by omega
      subst hjn
      go_wp2_with fail
      go_ret
      exact ⟨la, lc, zs, rfl, hzs, hI, hA⟩
end Go.Proofs.Ytkjgncmbhkhbnaa
