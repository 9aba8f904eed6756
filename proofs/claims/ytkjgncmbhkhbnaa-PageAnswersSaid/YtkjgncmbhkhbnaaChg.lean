/- What a call changes: footprints; lists that the program itself made, of whatever elements; how they grow. -/
import Derived.Test.YtkjgncmbhkhbnaaRows
import Derived.WalkKit
import Derived.WalkSpells
import Derived.WalkLawsBesides
import Derived.Maps.AppendAt
import Derived.Laws.AppendOwnNone
import Derived.Laws.OwnMore
import Derived.Laws.CopyOwn
import Derived.OwnWalk
import Derived.Lib.Hide
import Derived.Handy
namespace Go.Proofs.Ytkjgncmbhkhbnaa
open Go.RowKit

/-- of the blocks of w, none but those of F has turned -/
structure Chg (F : Nat → Prop) (w w' : World) : Prop where
  os : w'.os = w.os
  tape : w'.tape = w.tape
  output : w'.output = w.output
  size : w.heap.size ≤ w'.heap.size
  block : ∀ k, k < w.heap.size → ¬ F k → w'.heap[k]? = w.heap[k]?

theorem Chg.refl (F : Nat → Prop) (w : World) : Chg F w w := ⟨rfl, rfl, rfl, Nat.le_refl _, fun _ _ _ => rfl⟩
theorem Chg.trans {F G : Nat → Prop} {a b c : World} (h : Chg F a b) (k : Chg G b c) (hG : ∀ i, i < a.heap.size → G i → F i) : Chg F a c :=
  ⟨k.os.trans h.os, k.tape.trans h.tape, k.output.trans h.output, Nat.le_trans h.size k.size, fun i hi hF => (k.block i (Nat.lt_of_lt_of_le hi h.size) (fun g => hF (hG i hi g))).trans (h.block i hi hF)⟩
theorem Chg.mono {F G : Nat → Prop} {a b : World} (h : Chg F a b) (hG : ∀ i, i < a.heap.size → F i → G i) : Chg G a b := ⟨h.os, h.tape, h.output, h.size, fun i hi hn => h.block i hi fun f => hn (hG i hi f)⟩
theorem Chg.of_below {F : Nat → Prop} {a b : World} (h : Below a.heap.size a b) : Chg F a b := ⟨h.os, h.tape, h.output, h.size, fun i hi _ => h.block i hi⟩
theorem Chg.below {F : Nat → Prop} {a b : World} (h : Chg F a b) {B : Nat} (hB : B ≤ a.heap.size) (hF : ∀ k, F k → B ≤ k) : Below B a b :=
  ⟨h.os, h.tape, h.output, h.size, fun i hi => h.block i (by omega) fun f => by have := hF i f; omega⟩
theorem Chg.alloc {F : Nat → Prop} {a b : World} (h : Chg F a b) (o : Obj) : Chg F a (b.alloc o) := h.trans (Chg.of_below ((Below.refl _ _).alloc (Nat.le_refl _) o) (F := fun _ => False)) (fun _ _ f => f.elim)
theorem Chg.drew {F : Nat → Prop} {a b : World} (h : Chg F a b) : Chg F a b.drew := ⟨h.os, h.tape, h.output, h.size, h.block⟩
theorem Chg.drewN {F : Nat → Prop} {a b : World} (h : Chg F a b) (n : Nat) : Chg F a (b.drewN n) := ⟨h.os, h.tape, h.output, h.size, h.block⟩
theorem Chg.set (w : World) (p : Addr) (v : Value) : Chg (fun k => k = p.block) w (w.setCell p v) :=
  ⟨rfl, rfl, rfl, by simp [World.setCell], fun k _ hn => Below.heap_setCell _ _ _ _ hn⟩
theorem Chg.setCell {F : Nat → Prop} {a b : World} (h : Chg F a b) (p : Addr) (v : Value) (hp : p.block < a.heap.size → F p.block) : Chg F a (b.setCell p v) :=
  h.trans (Chg.set b p v) (fun i hi e => by subst e; exact hp hi)
theorem Chg.grown {F : Nat → Prop} {a b c : World} {row : Option Nat} (h : Chg F a b) (hg : b.grownBy c row) (hr : ∀ k, k < a.heap.size → row = some k → F k) : Chg F a c :=
  h.trans (G := fun k => row = some k) ⟨hg.os, hg.tape, hg.output, hg.size, fun k hk hn => hg.block k hk fun e => hn e.symm⟩ hr
theorem Chg.cell {F : Nat → Prop} {a b : World} (h : Chg F a b) {p : Addr} (hp : p.block < a.heap.size) (hn : ¬ F p.block) : b.cell? p = a.cell? p := World.cell?_of_block (h.block p.block hp hn)
theorem Chg.frozen {F : Nat → Prop} {a b : World} (h : Chg F a b) {p : Addr} (hp : p.block < a.heap.size) (hn : ¬ F p.block) : b.frozen? p = a.frozen? p := World.frozen?_of_block (h.block p.block hp hn)

/-- a slice type: its elements' type, cells, bytes, zero -/
structure Elt where
  (t e : TypeId) (size bytes : Nat) (z : Value)
  (hu : Try.prog.underlying t = some (.slice e))
  (hi : (Try.prog.info? e).map (fun i => (i.zero, i.size, i.bytes)) = some (some z, size, bytes))
  (hz : z.cells.size = size)
  (h0 : 0 < size)

/-- the block of a slice -/
def blk (oa : Option Addr) : Option Nat := oa.map (·.block)
theorem blk_some (g o : Nat) : blk (some ⟨g, o, none⟩) = some g := rfl
theorem blk_none : blk none = none := rfl

/-- a list that the program made: nil, or n elements, whose cells are cs, at the head of a block -/
def OR (E : Elt) (w : World) (oa : Option Addr) (cap n : Nat) (cs : List Value) : Prop := w.ownsRow 0 E.e E.size (.slice oa n cap) n cs

theorem OR.nil (E : Elt) (w : World) : OR E w none 0 0 [] := World.ownsRow_nil w 0 E.e E.size
theorem OR.form {E : Elt} {w : World} {oa : Option Addr} {cap n : Nat} {cs : List Value} (h : OR E w oa cap n cs) :
    cs.length = n * E.size ∧ ((oa = none ∧ cap = 0 ∧ n = 0 ∧ cs = []) ∨ ∃ g, oa = some ⟨g, 0, none⟩ ∧ g < w.heap.size ∧ n ≤ cap ∧ cap ≤ maxLen ∧ ∃ rest : List Value, w.heap[g]? = some (.cells (cs ++ rest).toArray E.e) ∧ (cs ++ rest).length = cap * E.size) := by
  obtain ⟨h1, h2⟩ := h
  refine ⟨h1, ?_⟩
  rcases h2 with ⟨h2, h3⟩ | ⟨g, cap', cur, hv, _, hh, r1, r2, r3, r4⟩
  · simp only [Value.slice.injEq] at h2
    obtain ⟨rfl, rfl, rfl⟩ := h2
    exact .inl ⟨rfl, rfl, rfl, List.length_eq_zero_iff.1 (by simpa using h1)⟩
  · simp only [Value.slice.injEq] at hv
    obtain ⟨rfl, _, rfl⟩ := hv
    refine .inr ⟨g, rfl, ?_, r1, r2, cur.toList.drop (n * E.size), ?_, ?_⟩
    · rcases Nat.lt_or_ge g w.heap.size with hlt | hge
      · exact hlt
      · rw [Array.getElem?_eq_none hge] at hh; cases hh
    · rw [hh, ← r4, List.take_append_drop]
    · rw [← r4, List.take_append_drop, Array.length_toList, r3]
theorem OR.mk {E : Elt} {w : World} {g cap n : Nat} {cs rest : List Value} (h1 : cs.length = n * E.size) (h2 : n ≤ cap) (h3 : cap ≤ maxLen) (h4 : w.heap[g]? = some (.cells (cs ++ rest).toArray E.e)) (h5 : (cs ++ rest).length = cap * E.size) : OR E w (some ⟨g, 0, none⟩) cap n cs :=
  ⟨h1, .inr ⟨g, cap, (cs ++ rest).toArray, rfl, Nat.zero_le _, h4, h2, h3, by simpa using h5, by simp [← h1]⟩⟩
theorem OR.lt {E : Elt} {w : World} {oa : Option Addr} {cap n : Nat} {cs : List Value} (h : OR E w oa cap n cs) : ∀ k, blk oa = some k → k < w.heap.size := by
  intro k hk
  rcases h.form.2 with ⟨rfl, _⟩ | ⟨g, rfl, hg, _⟩
  · simp [blk] at hk
  · simp [blk] at hk; omega
theorem OR.chg {E : Elt} {F : Nat → Prop} {w w' : World} {oa : Option Addr} {cap n : Nat} {cs : List Value} (h : OR E w oa cap n cs) (hc : Chg F w w') (hn : ∀ k, blk oa = some k → ¬ F k) : OR E w' oa cap n cs := by
  obtain ⟨h1, h2⟩ := h.form
  rcases h2 with ⟨rfl, rfl, rfl, rfl⟩ | ⟨g, rfl, hg, h3, h4, rest, h5, h6⟩
  · exact OR.nil E w'
  · exact OR.mk h1 h3 h4 ((hc.block g hg (hn g rfl)).trans h5) h6
theorem OR.cell {E : Elt} {w : World} {oa : Option Addr} {cap n : Nat} {cs : List Value} (h : OR E w oa cap n cs) {j : Nat} {u : Value} (hj : cs[j]? = some u) : ∃ g, oa = some ⟨g, 0, none⟩ ∧ w.cell? ⟨g, j, none⟩ = some u ∧ w.frozen? ⟨g, j, none⟩ = false := by
  rcases h.form.2 with ⟨_, _, _, rfl⟩ | ⟨g, rfl, hg, _, _, rest, h5, _⟩
  · simp at hj
  · refine ⟨g, rfl, ?_, by simp [World.frozen?, h5]⟩
    have hl := (List.getElem?_eq_some_iff.1 hj).1
    rw [cell_of_row w g j _ _ _ h5]
    simp [List.getElem?_append_left hl, hj]
theorem OR.set {E : Elt} {w : World} {g cap n : Nat} {cs : List Value} (h : OR E w (some ⟨g, 0, none⟩) cap n cs) (j : Nat) (u : Value) (hj : j < cs.length) : OR E (w.setCell ⟨g, j, none⟩ u) (some ⟨g, 0, none⟩) cap n (cs.set j u) := by
  obtain ⟨h1, h2⟩ := h.form
  rcases h2 with ⟨h2, _⟩ | ⟨g', h2, hg, h3, h4, rest, h5, h6⟩
  · cases h2
  · cases h2
    refine OR.mk (rest := rest) (by simpa using h1) h3 h4 ?_ (by simpa using h6)
    rw [setCell_eq_setRow w g j _ E.e (0, 0) u h5, setRow_heap w g _ _ E.e (0, 0) h5]
    congr 2
    simp [List.set_append_left _ _ hj]
theorem OR.made (E : Elt) (w : World) (cs : List Value) (n : Nat) (h1 : cs.length = n * E.size) (hm : n ≤ maxLen) : OR E (w.alloc (.cells cs.toArray E.e)) (some ⟨w.heap.size, 0, none⟩) n n cs :=
  OR.mk (rest := []) h1 (Nat.le_refl _) hm (by rw [List.append_nil]; exact heap_alloc_new w _) (by simpa using h1)

/-- a run of cells from an address on -/
def News (w : World) (a : Option Addr) (c m : Nat) (news : List Value) : Prop := (a = none ∧ c = 0 ∧ m = 0 ∧ news = []) ∨ ∃ ad, a = some ad ∧ ∀ j u, news[j]? = some u → w.cell? (ad.add j) = some u

/-- append: what it leaves, and where the new list lies -/
theorem wpList_append_or (E : Elt) {ops : Array Oper} {rest : List Oper} {o : Oper} {a : Act} {w : World} {Q : Exit → Act → World → Prop} (hgd : o.guard = none) (s x : Operand)
    (ho : o.op = .call { callee := .builtin .append, args := #[s, x], argTypes := #[E.t, E.t] })
    {oa : Option Addr} {cap n : Nat} {cs : List Value} (hs : a.eval s = .slice oa n cap) (hown : OR E w oa cap n cs)
    {xa : Option Addr} {m c : Nat} {news : List Value} (hx : a.eval x = .slice xa m c) (hl : news.length = m * E.size) (hnews : News w xa c m news) (h1 : ∀ u ∈ news, u.oneCell' = true)
    (hbytes : (n + m) * E.bytes ≤ 140737488355328) (h63 : n + m ≤ 140737488355328)
    (h : ∀ oa' cap' w', OR E w' oa' cap' (n + m) (cs ++ news) → Chg (fun k => blk oa = some k) w w' → (blk oa' = blk oa ∨ blk oa' = some w.heap.size) → (oa' = none ↔ oa = none ∧ m = 0) → wpList Try.prog ops Q rest (a.put o.dst (.slice oa' (n + m) cap')) w') :
    wpList Try.prog ops Q (o :: rest) a w := by
  obtain ⟨i0, hi, hz0, hz1, hz2⟩ := info_parts E.hi
  rcases hnews with ⟨rfl, rfl, rfl, rfl⟩ | ⟨ad, rfl, hn⟩
  · refine wpList_append_own_none hgd s x E.t ho 0 E.e i0 E.size E.hu hi (.slice oa n cap) n cs hs hown hx ?_
    have := h oa cap w (by simpa using hown) (Chg.refl _ _) (.inl rfl) (by simp)
    simpa using this
  · refine wpList_plain hgd fun K hK => ?_
    obtain ⟨v', w', hr, h2, h3, h4, h5⟩ := run_append_own_at (P := Try.prog) w 0 E.t o.type E.e i0 E.z E.size E.bytes E.hu hi hz0 hz1 hz2 E.hz E.h0 (.slice oa n cap) n cs hown ad m c news hl hn h1 (by unfold maxLen; omega) hbytes (Nat.zero_le _)
    have hb : (Value.slice oa n cap).ownBlock = blk oa := by cases oa <;> rfl
    unfold Oper.wp execOp
    simp only [ho, resolve, invoke, builtin, Sem.run_bind, Sem.run_pure, Result.andThen_ok, List.map_toArray, List.map_cons, List.map_nil, hs, hx, hr]
    refine hK _ _ ?_
    have hf : ∃ oa' cap', v' = .slice oa' (n + m) cap' := by
      rcases h2.2 with ⟨rfl, h0⟩ | ⟨g, cap', cur, rfl, _⟩
      · exact ⟨none, 0, by rw [h0]⟩
      · exact ⟨_, _, rfl⟩
    obtain ⟨oa', cap', rfl⟩ := hf
    have hb' : (Value.slice oa' (n + m) cap').ownBlock = blk oa' := by cases oa' <;> rfl
    refine h oa' cap' w' h2 ⟨h3.os, h3.tape, h3.output, h3.size, fun k hk hn => h3.block k hk (by rw [hb]; exact fun e => hn e.symm)⟩ (by rw [hb, hb'] at h5; exact h5) ?_
    have hO : OR E w oa cap n cs := hown
    have hO' : OR E w' oa' cap' (n + m) (cs ++ news) := h2
    constructor
    · rintro rfl
      rcases hO'.form.2 with ⟨_, rfl, h0, _⟩ | ⟨g, h0, _⟩
      · have := h4.1 (by rw [h0])
        simp only [Value.slice.injEq] at this
        exact ⟨this.1.1, this.2⟩
      · cases h0
    · rintro ⟨rfl, rfl⟩
      rcases hO.form.2 with ⟨_, rfl, rfl, rfl⟩ | ⟨g, h0, _⟩
      · have := h4.2 ⟨rfl, rfl⟩
        simp only [Value.slice.injEq] at this
        exact this.1
      · cases h0
end Go.Proofs.Ytkjgncmbhkhbnaa
