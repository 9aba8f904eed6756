/- The program's Decode: what it leaves, and what it keeps on its way. -/
import Derived.Test.YtkjgncmbhkhbnaaPItm
import Derived.Test.YtkjgncmbhkhbnaaPChkM
import Derived.Test.YtkjgncmbhkhbnaaSumC
import Derived.Test.YtkjgncmbhkhbnaaHeldE
namespace Go.Proofs.Ytkjgncmbhkhbnaa
open Go.RowKit
set_option linter.unusedVariables false
set_option maxRecDepth 100000

/-- a page that the program made: its lists lie in new blocks, each in one of its own -/
def NewPg (lo : Nat) (w : World) (p : PP) (ia : Option Addr) (ic : Nat) (da : Option Addr) (dc : Nat) : Prop :=
  ∃ zs : List (PI × TA), zs.map (·.1) = p.items ∧ Its lo w.heap.size w ia ic zs ∧ OB w da dc p.data ∧ (∀ k, blk da = some k → lo ≤ k) ∧ (da = none ∨ zs = [])
/-- what Decode leaves -/
def DecdP (r : Int × PP × Nat) (w : World) (x : Ending) (w' : World) : Prop :=
  ∃ ia ic da dc, x = .returned (.tuple #[pgv r.2.1 ia ic da dc, .int .i64 (r.2.2 : Nat), .int .i64 r.1]) ∧ NewPg w.heap.size w' r.2.1 ia ic da dc ∧ Below w.heap.size w w'
theorem newPg_zero {lo : Nat} {w : World} (h : lo ≤ w.heap.size) : NewPg lo w zeroP none 0 none 0 :=
  ⟨[], rfl, ⟨OR.nil eIt _, fun z hz => (by cases hz), fun k hk => (by cases hk), h, fun a ha => (by cases ha), fun z hz => (by cases hz), Nat.le_refl _⟩, OB.nil _, fun k hk => (by cases hk), .inl rfl⟩
theorem newPg_blob {lo : Nat} {w : World} (h : lo ≤ w.heap.size) {kind level next : Int} {d : List UInt8} {da : Option Addr} {dc : Nat} (hO : OB w da dc d) (hd : ∀ k, blk da = some k → lo ≤ k) : NewPg lo w ⟨kind, level, [], d, next⟩ none 0 da dc :=
  ⟨[], rfl, ⟨OR.nil eIt _, fun z hz => (by cases hz), fun k hk => (by cases hk), h, fun a ha => (by cases ha), fun z hz => (by cases hz), Nat.le_refl _⟩, hO, hd, .inr rfl⟩
theorem decd_no {w w' : World} {e : Int} (hb : Below w.heap.size w w') : DecdP (e, zeroP, 0) w (.returned (.tuple #[.agg #[.int .i64 0, .int .i64 0, .slice none 0 0, .slice none 0 0, .int .i64 0], .int .i64 0, .int .i64 e])) w' :=
  ⟨none, 0, none, 0, rfl, newPg_zero hb.size, hb⟩
theorem Up.low {ds : List (Option Addr)} {lo l2 hi : Nat} (h : Up lo hi ds) (hl : l2 ≤ lo) : Up l2 hi ds := by
  have := Up.append (ds := []) (show Up l2 lo [] from hl) h
  simpa using this
theorem Its.low {lo l2 hi : Nat} {w : World} {la : Option Addr} {lc : Nat} {zs : List (PI × TA)} (h : Its lo hi w la lc zs) (hl : l2 ≤ lo) : Its l2 hi w la lc zs :=
  ⟨h.own, h.obs, fun k e => Nat.le_trans hl (h.lob k e), h.up.low hl, h.sep, h.ints, h.top⟩
/-- small lists -/
theorem pitem_small {kind : Int} {bs : List UInt8} {r : PR} : (pitem kind bs r).1.key.length ≤ 255 ∧ (pitem kind bs r).1.value.length ≤ 65535 := by
  have h1 := pnum_lt bs r 1
  unfold pitem
  simp only
  have h2 := ptake_len bs (pnum bs r 1).2 (pnum bs r 1).1
  split
  · have h3 := pnum_lt bs (ptake bs (pnum bs r 1).2 (pnum bs r 1).1).2 2
    have h4 := ptake_len bs (pnum bs (ptake bs (pnum bs r 1).2 (pnum bs r 1).1).2 2).2 (pnum bs (ptake bs (pnum bs r 1).2 (pnum bs r 1).1).2 2).1
    split
    · simp only; omega
    · simp only [List.length_nil]; omega
  · simp only [List.length_nil]; omega
theorem pst_small {kind : Int} {bs : List UInt8} {r : PR} : ∀ (i : Nat), ∀ x ∈ (pst kind bs r i).2, x.key.length ≤ 255 ∧ x.value.length ≤ 65535
  | 0, x, hx => by cases hx
  | i + 1, x, hx => by
    rw [pst] at hx
    rcases List.mem_append.1 hx with hx | hx
    · exact pst_small i x hx
    · simp at hx; subst hx; exact pitem_small
theorem NewPg.pgAt {lo : Nat} {w : World} {p : PP} {ia : Option Addr} {ic : Nat} {da : Option Addr} {dc : Nat} (h : NewPg lo w p ia ic da dc) (hs : ∀ x ∈ p.items, x.key.length ≤ 255 ∧ x.value.length ≤ 65535) (hd : p.data.length ≤ 65535) (hn : p.items.length ≤ 255) (hk : i64ok p.kind) (hl : i64ok p.level) (hx : i64ok p.next) :
    PgAt w.heap.size w p ia ic da dc := by
  obtain ⟨zs, hz, hI, hO, -, -⟩ := h
  obtain ⟨h1, h2⟩ := hI.at (fun z hzm => by
    have := hs z.1 (by rw [← hz]; exact List.mem_map_of_mem hzm)
    omega) hz
  exact ⟨h1, by omega, h2, hO.sl (by omega) hO.lt, hk, hl, hx⟩
/-- five stores at a block -/
theorem below_five {lo g : Nat} {a w : World} (h : Below lo a w) (hg : lo ≤ g) (v0 v1 v2 v3 v4 : Value) : Below lo a (((((w.setCell ⟨g, 0, none⟩ v0).setCell ⟨g, 1, none⟩ v1).setCell ⟨g, 2, none⟩ v2).setCell ⟨g, 3, none⟩ v3).setCell ⟨g, 4, none⟩ v4) :=
  ((((h.setCell hg _).setCell hg _).setCell hg _).setCell hg _).setCell hg _
theorem chg_five (w : World) (g : Nat) (v0 v1 v2 v3 v4 : Value) : Chg (fun k => k = g) w (((((w.setCell ⟨g, 0, none⟩ v0).setCell ⟨g, 1, none⟩ v1).setCell ⟨g, 2, none⟩ v2).setCell ⟨g, 3, none⟩ v3).setCell ⟨g, 4, none⟩ v4) :=
  (((((Chg.refl (fun j => j = g) _).setCell ⟨g, 0, none⟩ _ (fun _ => rfl)).setCell ⟨g, 1, none⟩ _ (fun _ => rfl)).setCell ⟨g, 2, none⟩ _ (fun _ => rfl)).setCell ⟨g, 3, none⟩ _ (fun _ => rfl)).setCell ⟨g, 4, none⟩ _ (fun _ => rfl)
theorem NewPg.chg {F : Nat → Prop} {lo : Nat} {w w' : World} {p : PP} {ia : Option Addr} {ic : Nat} {da : Option Addr} {dc : Nat} (h : NewPg lo w p ia ic da dc) (hc : Chg F w w') (hF : ∀ k, F k → k < lo) : NewPg lo w' p ia ic da dc := by
  obtain ⟨zs, hz, hI, hO, hd, hn⟩ := h
  refine ⟨zs, hz, (hI.chg hc (fun k e f => ?_) (fun a ha k e f => ?_)).hi hc.size (Nat.le_refl _), hO.chg hc (fun k e f => ?_), hd, hn⟩
  · have := hI.lob k e; have := hF k f; omega
  · have := (hI.up.mem a ha k e).1; have := hF k f; omega
  · have := hd k e; have := hF k f; omega
theorem NewPg.below {lo : Nat} {w w' : World} {p : PP} {ia : Option Addr} {ic : Nat} {da : Option Addr} {dc : Nat} (h : NewPg lo w p ia ic da dc) (hb : Below w.heap.size w w') : NewPg lo w' p ia ic da dc :=
  h.chg (F := fun _ => False) (Chg.of_below hb) (fun _ f => f.elim)
theorem NewPg.low {lo l2 : Nat} {w : World} {p : PP} {ia : Option Addr} {ic : Nat} {da : Option Addr} {dc : Nat} (h : NewPg lo w p ia ic da dc) (hl : l2 ≤ lo) : NewPg l2 w p ia ic da dc := by
  obtain ⟨zs, hz, hI, hO, hd, hn⟩ := h
  exact ⟨zs, hz, hI.low hl, hO, fun k e => Nat.le_trans hl (hd k e), hn⟩
/-- a page's result box is written -/
theorem decd_yes {w W : World} {p : PP} {gen : Nat} {ia : Option Addr} {ic : Nat} {da : Option Addr} {dc : Nat} (h : NewPg (w.heap.size + 1) W p ia ic da dc) (hb : Below w.heap.size w W) (v0 v1 v2 v3 v4 : Value) :
    DecdP (0, p, gen) w (.returned (.tuple #[pgv p ia ic da dc, .int .i64 (gen : Nat), .int .i64 0])) (((((W.setCell ⟨w.heap.size, 0, none⟩ v0).setCell ⟨w.heap.size, 1, none⟩ v1).setCell ⟨w.heap.size, 2, none⟩ v2).setCell ⟨w.heap.size, 3, none⟩ v3).setCell ⟨w.heap.size, 4, none⟩ v4) :=
  ⟨ia, ic, da, dc, rfl, (h.chg (chg_five W w.heap.size v0 v1 v2 v3 v4) (fun k e => by omega)).low (by omega), below_five hb (Nat.le_refl _) _ _ _ _ _⟩
/-- what a block's head says, read from its bytes ahead of the sum -/
theorem fld_take {bs : List UInt8} {o k : Nat} (h : o + k ≤ 508) : fld (bs.take 508) o k = fld bs o k := by
  unfold fld
  rw [List.drop_take, List.take_take, Nat.min_eq_left (by omega)]
theorem head_reads {bs : List UInt8} (hl : bs.length = 512) : pnum (bs.take 508) ⟨0, true⟩ 1 = (fld bs 0 1, ⟨1, true⟩) ∧ pnum (bs.take 508) ⟨1, true⟩ 1 = (fld bs 1 1, ⟨2, true⟩) ∧ pnum (bs.take 508) ⟨2, true⟩ 4 = (fld bs 2 4, ⟨6, true⟩) ∧ pnum (bs.take 508) ⟨6, true⟩ 8 = (fld bs 6 8, ⟨14, true⟩) ∧ pnum bs ⟨508, true⟩ 4 = (unle (bs.drop 508), ⟨512, true⟩) := by
  have h5 : (bs.take 508).length = 508 := by rw [List.length_take]; omega
  refine ⟨?_, ?_, ?_, ?_, ?_⟩
  · rw [pnum_go (by omega), fld_take (by omega)]
  · rw [pnum_go (by omega), fld_take (by omega)]
  · rw [pnum_go (by omega), fld_take (by omega)]
  · rw [pnum_go (by omega), fld_take (by omega)]
  · rw [pnum_go (by omega)]
    unfold fld
    rw [List.take_of_length_le (by rw [List.length_drop]; omega)]
theorem pguess_b {bs : List UInt8} (hl : bs.length = 512) (hk : fld bs 0 1 = 3) {m x : Nat} {r1 r2 r3 : PR} {d : List UInt8} (e1 : pnum (bs.take 508) ⟨14, true⟩ 2 = (m, r1)) (e2 : pnum (bs.take 508) r1 4 = (x, r2)) (e3 : ptake (bs.take 508) r2 m = (d, r3)) :
    pguess (bs.take 508) = (⟨3, fld bs 1 1, [], d, x⟩, r3) := by
  obtain ⟨h1, h2, h3, h4, -⟩ := head_reads hl
  unfold pguess
  simp only [h1, h2, h3, h4, e1, e2, e3]
  rw [if_pos hk]
theorem pguess_i {bs : List UInt8} (hl : bs.length = 512) (hk : ¬ fld bs 0 1 = 3) : pguess (bs.take 508) = (⟨fld bs 0 1, fld bs 1 1, (pst (fld bs 0 1 : Nat) (bs.take 508) (pnum (bs.take 508) ⟨14, true⟩ 1).2 (pnum (bs.take 508) ⟨14, true⟩ 1).1).2, [], 0⟩, (pst (fld bs 0 1 : Nat) (bs.take 508) (pnum (bs.take 508) ⟨14, true⟩ 1).2 (pnum (bs.take 508) ⟨14, true⟩ 1).1).1) := by
  obtain ⟨h1, h2, h3, h4, -⟩ := head_reads hl
  unfold pguess
  simp only [h1, h2, h3, h4]
  rw [if_neg hk]
/-- while Decode runs: the result's box, the reader -/
structure DS (w : World) (p b off cap : Nat) (bs : List UInt8) (r : PR) (W : World) : Prop where
  rd : IsRd W p b off cap bs r
  z : W.heap[w.heap.size]? = some (.cells #[.int .i64 0, .int .i64 0, .slice none 0 0, .slice none 0 0, .int .i64 0] 27)
  bel : Below w.heap.size w W
  pz : w.heap.size < p
  bz : b < w.heap.size
section
variable {w W W2 : World} {p b off cap : Nat} {bs : List UInt8} {r r2 : PR}
theorem DS.step (h : DS w p b off cap bs r W) (ha : RdAft p b off cap bs r2 W W2) : DS w p b off cap bs r2 W2 := by
  have hp := h.pz
  exact ⟨ha.1, (ha.2.block _ (rlt_of_heapP h.z) (by omega)).trans h.z, h.bel.trans (ha.2.below h.bel.size (fun k e => by omega)), h.pz, h.bz⟩
theorem DS.loc (h : DS w p b off cap bs r W) {q : Nat} (hc : Chg (fun k => k = q) W W2) (hq : p < q) : DS w p b off cap bs r W2 := by
  have hp := h.pz
  have hb := h.bz
  exact ⟨h.rd.chg hc (by omega) (by omega), (hc.block _ (rlt_of_heapP h.z) (by omega)).trans h.z, h.bel.trans (hc.below h.bel.size (fun k e => by omega)), h.pz, h.bz⟩
theorem DS.below (h : DS w p b off cap bs r W) (hb : Below W.heap.size W W2) : DS w p b off cap bs r W2 :=
  ⟨h.rd.below hb, (hb.block _ (rlt_of_heapP h.z)).trans h.z, h.bel.trans (hb.mono h.bel.size), h.pz, h.bz⟩
end
theorem Bts.take508 {w : World} {b off : Nat} {bs : List UInt8} (h : Bts w (some ⟨b, off, none⟩) bs) (hl : bs.length = 512) : Bts w (some ⟨b, off, none⟩) (bs.take 508) := by
  have := h.piece 0 508 (by omega)
  simpa [Go.Proofs.Ytkjgncmbhkhbnaa.piece] using this
theorem cells5f {w : World} {g : Nat} {v0 v1 v2 v3 v4 : Value} {T : TypeId} (h : w.heap[g]? = some (.cells #[v0, v1, v2, v3, v4] T)) :
    w.cell? ⟨g, 0, none⟩ = some v0 ∧ w.cell? ⟨g, 1, none⟩ = some v1 ∧ w.cell? ⟨g, 2, none⟩ = some v2 ∧ w.cell? ⟨g, 3, none⟩ = some v3 ∧ w.cell? ⟨g, 4, none⟩ = some v4 ∧ (∀ k, w.frozen? ⟨g, k, none⟩ = false) := by
  simp [World.cell?, World.frozen?, h]
end Go.Proofs.Ytkjgncmbhkhbnaa
