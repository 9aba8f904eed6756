/- Two things side by side: their beginning; all that was told is written over. -/
import Derived.Test.YtofialinjbjcmaaDuo
namespace Go.Proofs.Ytofialinjbjcmaa
open Go.RowKit
set_option linter.unusedVariables false

section
variable {P1 P2 P1' P2' : Nat → Option Nat → World → Prop} {lv : Prop} {B x : Nat} {w w' : World} {d d' : Duo}

theorem IsDuo.start (s1 : Stable P1) (s2 : Stable P2) {p r : Nat} {b1 b2 : Option Nat} (T : TypeId) (hB : B ≤ w.heap.size) (hp : P1 p b1 w) (hr : P2 r b2 w) (hs : Sep [some p, some r, b1, b2]) (hb : ∀ b, some b ∈ [some p, some r, b1, b2] → B ≤ b ∧ b < w.heap.size) :
    IsDuo P1 P2 lv B (w.alloc (.cells #[.pointer (some ⟨p, 0, none⟩), .pointer (some ⟨r, 0, none⟩), .slice none 0 0] T)) w.heap.size ⟨p, r, b1, b2, none, 0, []⟩ := by
  have hc : Chg (fun _ => False) w (w.alloc (.cells #[.pointer (some ⟨p, 0, none⟩), .pointer (some ⟨r, 0, none⟩), .slice none 0 0] T)) := (Chg.refl _ w).alloc _
  have hz : (w.alloc (.cells #[.pointer (some ⟨p, 0, none⟩), .pointer (some ⟨r, 0, none⟩), .slice none 0 0] T)).heap.size = w.heap.size + 1 := by simp
  refine ⟨⟨T, heap_alloc_new w _⟩, s1 _ _ _ _ _ hp hc (fun f => f) fun _ _ f => f, s2 _ _ _ _ _ hr hc (fun f => f) fun _ _ f => f, OR.nil _ _, fun e he => (by cases he), ?_, ?_⟩
  · show Sep [some w.heap.size, some p, some r, b1, b2, none]
    have key : ∀ i k : Nat, i ≠ 0 → [some w.heap.size, some p, some r, b1, b2, none][i]? = some (some k) → i ≤ 4 ∧ [some p, some r, b1, b2][i - 1]? = some (some k) := fun i k hi h => by
      match i, hi, h with
      | 1, _, h => exact ⟨by omega, h⟩
      | 2, _, h => exact ⟨by omega, h⟩
      | 3, _, h => exact ⟨by omega, h⟩
      | 4, _, h => exact ⟨by omega, h⟩
      | 5, _, h => cases h
      | i + 6, _, h => simp at h
    intro i j k hi hj
    by_cases h1 : i = 0
    · by_cases h2 : j = 0
      · omega
      · subst h1
        have := hb k (List.mem_of_getElem? (key j k h2 hj).2)
        have e : w.heap.size = k := by simpa using hi
        omega
    · by_cases h2 : j = 0
      · subst h2
        have := hb k (List.mem_of_getElem? (key i k h1 hi).2)
        have e : w.heap.size = k := by simpa using hj
        omega
      · have h3 := key i k h1 hi
        have h4 := key j k h2 hj
        have := hs _ _ k h3.2 h4.2
        omega
  · intro b hb1
    rw [hz]
    have h : some b ∈ [some w.heap.size, some p, some r, b1, b2, none] := hb1
    rw [List.mem_cons] at h
    rcases h with h | h
    · cases h; omega
    · have h2 : some b ∈ [some p, some r, b1, b2] := by
        simp only [List.mem_cons, List.not_mem_nil, or_false] at h ⊢
        rcases h with h | h | h | h | h
        · exact .inl h
        · exact .inr (.inl h)
        · exact .inr (.inr (.inl h))
        · exact .inr (.inr (.inr h))
        · cases h
      have := hb b h2; omega
theorem IsDuo.lrow (h : IsDuo P1 P2 lv B w x d) : LRow w d.ta d.es := by
  by_cases he : d.es = []
  · exact .inl he
  have hO := h.2.2.2.1
  rcases hO.form.2 with ⟨_, _, h0, _⟩ | ⟨g, e, hg, _⟩
  · exact .inl (List.length_eq_zero_iff.1 h0)
  · refine .inr ⟨g, 0, e, hg, fun i f hi => ?_⟩
    obtain ⟨g', e', hc, _⟩ := hO.cell (j := i) (u := f.val) (by rw [List.getElem?_map, hi]; rfl)
    rw [e] at e'; cases e'
    rw [Nat.zero_add]; exact hc
theorem IsDuo.sepL (h : IsDuo P1 P2 lv B w x d) : SepL d.es := fun i j e f hi hj hij k h1 h2 => by
  have := h.sep (i + 6) (j + 6) k (by show (d.es.map fun e => blk e.oa)[i]? = _; rw [List.getElem?_map, hi, Option.map_some, h1]) (by show (d.es.map fun e => blk e.oa)[j]? = _; rw [List.getElem?_map, hj, Option.map_some, h2])
  omega
theorem IsDuo.mine_no (h : IsDuo P1 P2 lv B w x d) (j b : Nat) (hj : (d.own x)[j]? = some (some b)) (hj6 : j < 6) : ¬ mine d.es b := fun ⟨e, he, hb⟩ => by
  obtain ⟨i, hi⟩ := List.getElem?_of_mem he
  have := h.sep j (i + 6) b hj (by show (d.es.map fun e => blk e.oa)[i]? = _; rw [List.getElem?_map, hi, Option.map_some, hb])
  omega
theorem mine_own {b : Nat} (h : mine d.es b) : Own d x b := by
  obtain ⟨e, he, hb⟩ := h
  exact Duo.mem_es he hb
theorem IsDuo.aparted (s1 : Stable P1) (s2 : Stable P2) (h : IsDuo P1 P2 lv B w x d) (hc : Chg (mine d.es) w w') : IsDuo P1 P2 False B w' x d ∧ Chg (Own d x) w w' := by
  have no := h.mine_no
  obtain ⟨⟨T, g1⟩, g2, g3, g4, g5, g6, g7⟩ := h
  refine ⟨⟨⟨T, (hc.block x (g7 x Duo.mem_x).2 (no 0 x rfl (by decide))).trans g1⟩, s1 _ _ _ _ _ g2 hc (no 1 _ rfl (by decide)) fun k hk => no 3 k (by rw [← hk]; rfl) (by decide), s2 _ _ _ _ _ g3 hc (no 2 _ rfl (by decide)) fun k hk => no 4 k (by rw [← hk]; rfl) (by decide),
    g4.chg hc fun k hk => no 5 k (by rw [← hk]; rfl) (by decide), fun e he => ⟨(g5 e he).1, fun f => f.elim⟩, g6, fun b hb => ⟨(g7 b hb).1, Nat.lt_of_lt_of_le (g7 b hb).2 hc.size⟩⟩, hc.mono fun b _ hb => mine_own hb⟩
theorem IsDuo.reset (s1 : Stable P1) (s2 : Stable P2) (h : IsDuo P1 P2 lv B w x d) :
    IsDuo P1 P2 lv B (w.setCell ⟨x, 2, none⟩ (.slice none 0 0)) x { d with ta := none, capt := 0, es := [] } ∧ Step w d (w.setCell ⟨x, 2, none⟩ (.slice none 0 0)) { d with ta := none, capt := 0, es := [] } x := by
  obtain ⟨⟨T, g1⟩, g2, g3, g4, g5, g6, g7⟩ := h
  have hc := Chg.set w ⟨x, 2, none⟩ (.slice none 0 0)
  have no : ∀ (j b : Nat), (d.own x)[j]? = some (some b) → j ≠ 0 → ¬ b = x := fun j b hj n1 e => n1 (g6 j 0 b hj (by rw [e]; rfl))
  have hown : ∀ b, Own { d with ta := none, capt := 0, es := [] } x b → Own d x b := fun b hb => by
    have h : some b ∈ [some x, some d.p, some d.r, d.b1, d.b2, none] := hb
    simp only [List.mem_cons, List.not_mem_nil, or_false] at h
    rcases h with h | h | h | h | h | h
    · cases h; exact Duo.mem_x
    · cases h; exact Duo.mem_p
    · cases h; exact Duo.mem_r
    · exact Duo.mem_b1 h.symm
    · exact Duo.mem_b2 h.symm
    · cases h
  have key : ∀ i k : Nat, (Duo.own { d with ta := none, capt := 0, es := [] } x)[i]? = some (some k) → (d.own x)[i]? = some (some k) := fun i k h => by
    match i, h with
    | 0, h => exact h
    | 1, h => exact h
    | 2, h => exact h
    | 3, h => exact h
    | 4, h => exact h
    | 5, h => cases h
    | i + 6, h => simp [Duo.own] at h
  refine ⟨⟨⟨T, duo_set2 g1 _⟩, s1 _ _ _ _ _ g2 hc (no 1 _ rfl (by decide)) fun k hk => no 3 k (by rw [← hk]; rfl) (by decide), s2 _ _ _ _ _ g3 hc (no 2 _ rfl (by decide)) fun k hk => no 4 k (by rw [← hk]; rfl) (by decide), OR.nil _ _, fun e he => (by cases he), fun i j k hi hj => g6 i j k (key i k hi) (key j k hj), fun b hb => ?_⟩, hc.mono fun b _ e => by subst e; exact Duo.mem_x, fun b hb => .inl (hown b hb)⟩
  have := g7 b (hown b hb)
  simpa [World.setCell] using this
end
end Go.Proofs.Ytofialinjbjcmaa
