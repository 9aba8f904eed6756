/- Two things in memory, side by side, and all that one of them has told: what a step of one changes. -/
import Derived.Test.YtofialinjbjcmaaApart
namespace Go.Proofs.Ytofialinjbjcmaa
open Go.RowKit
set_option linter.unusedVariables false

/-- what was handed in is written over -/
def RelInv (g n : Nat) (c0 : List Value) (W : World) (i : Value) (wr : World) : Prop := ∃ (k : Nat) (ws : List Value), k ≤ n ∧ i = .int .i64 k ∧ ws.length = k ∧ OR eB wr (some ⟨g, 0, none⟩) (n + 64) (n + 64) (ws ++ c0.drop k) ∧ Chg (fun b => b = g) W wr
theorem Spared.or {w : World} {g : Nat} {bs : List UInt8} (h : Spared w g bs) : OR eB w (some ⟨g, 0, none⟩) (bs.length + 64) (bs.length + 64) (cellsB (full bs)) := by
  have h1 : OR eB w (some ⟨g, 0, none⟩) (bs.length + 64) (full bs).length (cellsB (full bs)) := h
  rwa [full_length] at h1
theorem relInv_cell {w : World} {g n k : Nat} {bs : List UInt8} {ws : List Value} (hO : OR eB w (some ⟨g, 0, none⟩) (n + 64) (n + 64) (ws ++ (cellsB (full bs)).drop k)) (hw : ws.length = k) (hk : k < bs.length) :
    ∃ u : UInt8, (full bs)[k]? = some u ∧ w.cell? ⟨g, k, none⟩ = some (.int .u8 (u.toNat : Int)) ∧ w.frozen? ⟨g, k, none⟩ = false := by
  have h1 := full_low hk
  refine ⟨_, h1, ?_⟩
  have h2 : (ws ++ (cellsB (full bs)).drop k)[k]? = some (.int .u8 ((bs.getD k 0).toNat : Int)) := by
    rw [List.getElem?_append_right (by omega), hw, Nat.sub_self, List.getElem?_drop, Nat.add_zero, cellsB, List.getElem?_map, h1]; rfl
  obtain ⟨g', e, h3, h4⟩ := hO.cell h2
  cases e
  exact ⟨h3, h4⟩
theorem relInv_next {W w : World} {g n k : Nat} {c0 ws : List Value} {v : Value} (hO : OR eB w (some ⟨g, 0, none⟩) (n + 64) (n + 64) (ws ++ c0.drop k)) (hw : ws.length = k) (hk : k < n) (hC : Chg (fun b => b = g) W w) {i : Value} (hi : i = .int .i64 ((k + 1 : Nat) : Int)) : RelInv g n c0 W i (w.setCell ⟨g, k, none⟩ v) := by
  subst hi
  have hl := hO.form.1
  rw [List.length_append, List.length_drop, hw] at hl
  have hl2 : k + (c0.length - k) = (n + 64) * 1 := hl
  refine ⟨k + 1, ws ++ [v], hk, rfl, by simp [hw], ?_, hC.setCell _ _ fun _ => rfl⟩
  have h1 := hO.set k v (by rw [List.length_append, List.length_drop]; omega)
  have e : (ws ++ c0.drop k).set k v = ws ++ [v] ++ c0.drop (k + 1) := by
    rw [List.set_append_right _ _ (by omega), hw, Nat.sub_self, List.drop_eq_getElem_cons (by omega), List.set_cons_zero, List.append_assoc]
    rfl
  rw [e] at h1
  exact h1
/-- no block stands twice -/
def Sep (l : List (Option Nat)) : Prop := ∀ i j k : Nat, l[i]? = some (some k) → l[j]? = some (some k) → i = j
theorem Sep.set {l : List (Option Nat)} (h : Sep l) {N i : Nat} {a : Option Nat} (hN : ∀ k, some k ∈ l → k < N) (ha : a = none ∨ l[i]? = some a ∨ ∃ k, a = some k ∧ N ≤ k) : Sep (l.set i a) := by
  intro m n k hm hn
  rw [List.getElem?_set] at hm hn
  have old : ∀ j, l[j]? = some (some k) → k < N := fun j hj => hN k (List.mem_of_getElem? hj)
  by_cases h1 : i = m
  · by_cases h2 : i = n
    · omega
    · rw [if_pos h1] at hm
      rw [if_neg h2] at hn
      by_cases hl : i < l.length
      · rw [if_pos hl] at hm
        cases hm
        rcases ha with h3 | h3 | ⟨k', h3, h4⟩
        · cases h3
        · exact absurd (h i n k h3 hn) h2
        · cases h3; have := old n hn; omega
      · rw [if_neg hl] at hm; cases hm
  · rw [if_neg h1] at hm
    by_cases h2 : i = n
    · rw [if_pos h2] at hn
      by_cases hl : i < l.length
      · rw [if_pos hl] at hn
        cases hn
        rcases ha with h3 | h3 | ⟨k', h3, h4⟩
        · cases h3
        · exact absurd (h i m k h3 hm) h1
        · cases h3; have := old m hm; omega
      · rw [if_neg hl] at hn; cases hn
    · rw [if_neg h2] at hn
      exact h m n k hm hn
theorem Sep.push {l : List (Option Nat)} (h : Sep l) {a : Option Nat} (ha : ∀ k, a = some k → ¬ some k ∈ l) : Sep (l ++ [a]) := by
  intro m n k hm hn
  by_cases h1 : m < l.length
  · rw [List.getElem?_append_left h1] at hm
    by_cases h2 : n < l.length
    · rw [List.getElem?_append_left h2] at hn
      exact h m n k hm hn
    · rw [List.getElem?_append_right (by omega)] at hn
      have : n - l.length = 0 := by
        have := (List.getElem?_eq_some_iff.1 hn).1
        simp at this; omega
      rw [this] at hn
      cases hn
      exact absurd (List.mem_of_getElem? hm) (ha k rfl)
  · rw [List.getElem?_append_right (by omega)] at hm
    have e1 : m - l.length = 0 := by
      have := (List.getElem?_eq_some_iff.1 hm).1
      simp at this; omega
    by_cases h2 : n < l.length
    · rw [List.getElem?_append_left h2] at hn
      rw [e1] at hm
      cases hm
      exact absurd (List.mem_of_getElem? hn) (ha k rfl)
    · rw [List.getElem?_append_right (by omega)] at hn
      have := (List.getElem?_eq_some_iff.1 hn).1
      simp at this; omega

structure Duo where
  (p r : Nat) (b1 b2 : Option Nat) (ta : Option Addr) (capt : Nat) (es : List Lst)
def Duo.own (d : Duo) (x : Nat) : List (Option Nat) := some x :: some d.p :: some d.r :: d.b1 :: d.b2 :: blk d.ta :: d.es.map fun e => blk e.oa
def Own (d : Duo) (x b : Nat) : Prop := some b ∈ d.own x
def Stable (P : Nat → Option Nat → World → Prop) : Prop := ∀ (F : Nat → Prop) (p : Nat) (b : Option Nat) (w w' : World), P p b w → Chg F w w' → ¬ F p → (∀ k, b = some k → ¬ F k) → P p b w'

def IsDuo (P1 P2 : Nat → Option Nat → World → Prop) (lv : Prop) (B : Nat) (w : World) (x : Nat) (d : Duo) : Prop :=
  (∃ T, w.heap[x]? = some (.cells #[.pointer (some ⟨d.p, 0, none⟩), .pointer (some ⟨d.r, 0, none⟩), .slice d.ta d.es.length d.capt] T)) ∧ P1 d.p d.b1 w ∧ P2 d.r d.b2 w ∧ OR ApB.eLB w d.ta d.capt d.es.length (d.es.map Lst.val) ∧
    (∀ e ∈ d.es, e.n ≤ 140737488351232 ∧ (lv → ∃ cs, OR eB w e.oa e.cap e.n cs)) ∧ Sep (d.own x) ∧ ∀ b, Own d x b → B ≤ b ∧ b < w.heap.size

section
variable {P1 P2 P1' P2' : Nat → Option Nat → World → Prop} {lv : Prop} {B x : Nat} {w w' : World} {d d' : Duo}

theorem Duo.mem_x : Own d x x := List.mem_cons_self ..
theorem Duo.mem_p : Own d x d.p := List.mem_of_getElem? (i := 1) rfl
theorem Duo.mem_r : Own d x d.r := List.mem_of_getElem? (i := 2) rfl
theorem Duo.mem_b1 {k : Nat} (h : d.b1 = some k) : Own d x k := List.mem_of_getElem? (i := 3) (by rw [← h]; rfl)
theorem Duo.mem_b2 {k : Nat} (h : d.b2 = some k) : Own d x k := List.mem_of_getElem? (i := 4) (by rw [← h]; rfl)
theorem Duo.mem_ta {k : Nat} (h : blk d.ta = some k) : Own d x k := List.mem_of_getElem? (i := 5) (by rw [← h]; rfl)
theorem Duo.mem_es {e : Lst} (he : e ∈ d.es) {k : Nat} (h : blk e.oa = some k) : Own d x k := by
  unfold Own Duo.own
  iterate 6 apply List.mem_cons_of_mem
  exact List.mem_map.2 ⟨e, he, h⟩

theorem IsDuo.cells (h : IsDuo P1 P2 lv B w x d) : w.cell? ⟨x, 0, none⟩ = some (.pointer (some ⟨d.p, 0, none⟩)) ∧ w.cell? ⟨x, 1, none⟩ = some (.pointer (some ⟨d.r, 0, none⟩)) ∧ w.cell? ⟨x, 2, none⟩ = some (.slice d.ta d.es.length d.capt) ∧ (∀ k, w.frozen? ⟨x, k, none⟩ = false) := by
  obtain ⟨⟨T, h1⟩, _⟩ := h
  simp [World.cell?, World.frozen?, h1]
theorem IsDuo.chg (s1 : Stable P1) (s2 : Stable P2) (h : IsDuo P1 P2 lv B w x d) {F : Nat → Prop} (hc : Chg F w w') (hn : ∀ b, Own d x b → ¬ F b) : IsDuo P1 P2 lv B w' x d := by
  obtain ⟨⟨T, h1⟩, h2, h3, h4, h5, h6, h7⟩ := h
  exact ⟨⟨T, (hc.block x (h7 x Duo.mem_x).2 (hn x Duo.mem_x)).trans h1⟩, s1 F _ _ w w' h2 hc (hn _ Duo.mem_p) fun k hk => hn k (Duo.mem_b1 hk), s2 F _ _ w w' h3 hc (hn _ Duo.mem_r) fun k hk => hn k (Duo.mem_b2 hk),
    h4.chg hc fun k hk => hn k (Duo.mem_ta hk), fun e he => ⟨(h5 e he).1, fun l => by obtain ⟨cs, h⟩ := (h5 e he).2 l; exact ⟨cs, h.chg hc fun k hk => hn k (Duo.mem_es he hk)⟩⟩, h6, fun b hb => ⟨(h7 b hb).1, Nat.lt_of_lt_of_le (h7 b hb).2 hc.size⟩⟩
theorem IsDuo.below (s1 : Stable P1) (s2 : Stable P2) (h : IsDuo P1 P2 lv B w x d) (hb : Below w.heap.size w w') : IsDuo P1 P2 lv B w' x d := h.chg s1 s2 (F := fun _ => False) (Chg.of_below hb) fun _ _ f => f
theorem IsDuo.lt (h : IsDuo P1 P2 lv B w x d) {b : Nat} (hb : Own d x b) : B ≤ b ∧ b < w.heap.size := h.2.2.2.2.2.2 b hb
theorem IsDuo.sep (h : IsDuo P1 P2 lv B w x d) : Sep (d.own x) := h.2.2.2.2.2.1

/-- what a step may change, and own behind it -/
def Step (w : World) (d : Duo) (w' : World) (d' : Duo) (x : Nat) : Prop := Chg (Own d x) w w' ∧ ∀ b, Own d' x b → Own d x b ∨ w.heap.size ≤ b
theorem Step.refl (w : World) (d : Duo) (x : Nat) : Step w d w d x := ⟨Chg.refl _ _, fun b h => .inl h⟩
theorem Step.trans {w1 w2 : World} {d1 d2 : Duo} (h : Step w d w1 d1 x) (k : Step w1 d1 w2 d2 x) (hl : ∀ b, Own d x b → b < w.heap.size) : Step w d w2 d2 x := by
  refine ⟨h.1.trans k.1 fun b hb ho => (h.2 b ho).resolve_right (by omega), fun b hb => ?_⟩
  rcases k.2 b hb with h1 | h1
  · exact h.2 b h1
  · exact .inr (Nat.le_trans h.1.size h1)
theorem Step.of_below (hb : Below w.heap.size w w') : Step w d w' d x := ⟨Chg.of_below hb, fun b h => .inl h⟩
theorem Step.below (h : Step w d w' d' x) (hB : B ≤ w.heap.size) (hl : ∀ b, Own d x b → B ≤ b) : Below B w w' := h.1.below hB hl

theorem IsDuo.step1 (s2 : Stable P2) (h : IsDuo P1 P2 lv B w x d) {b1' : Option Nat} (h1 : P1' d.p b1' w') (hc : Chg (fun k => k = d.p ∨ d.b1 = some k) w w') (hb : b1' = d.b1 ∨ ∃ k, b1' = some k ∧ w.heap.size ≤ k) (hl : ∀ k, b1' = some k → k < w'.heap.size) (hB : B ≤ w.heap.size) :
    IsDuo P1' P2 lv B w' x { d with b1 := b1' } ∧ Step w d w' { d with b1 := b1' } x := by
  obtain ⟨⟨T, g1⟩, g2, g3, g4, g5, g6, g7⟩ := h
  have no : ∀ (j b : Nat), (d.own x)[j]? = some (some b) → j ≠ 1 → j ≠ 3 → ¬ (b = d.p ∨ d.b1 = some b) := fun j b hj n1 n3 e => by
    rcases e with rfl | e
    · exact n1 (g6 j 1 _ hj rfl)
    · exact n3 (g6 j 3 _ hj (by rw [← e]; rfl))
  have hown : ∀ b, Own { d with b1 := b1' } x b → Own d x b ∨ (w.heap.size ≤ b ∧ b < w'.heap.size) := fun b hb1 => by
    unfold Own at hb1 ⊢
    rw [show Duo.own { d with b1 := b1' } x = (d.own x).set 3 b1' from rfl] at hb1
    rcases List.mem_or_eq_of_mem_set hb1 with h | h
    · exact .inl h
    · rcases hb with e | ⟨k, e, hk⟩
      · exact .inl (Duo.mem_b1 (by rw [← e, h]))
      · rw [e] at h; cases h
        exact .inr ⟨hk, hl _ e⟩
  refine ⟨⟨⟨T, ?_⟩, h1, ?_, ?_, ?_, ?_, ?_⟩, hc.mono fun b _ e => ?_, fun b hb1 => (hown b hb1).imp id (·.1)⟩
  · exact (hc.block x (g7 x Duo.mem_x).2 (no 0 x rfl (by decide) (by decide))).trans g1
  · exact s2 _ _ _ w w' g3 hc (no 2 d.r rfl (by decide) (by decide)) fun k hk => no 4 k (by rw [← hk]; rfl) (by decide) (by decide)
  · exact g4.chg hc fun k hk => no 5 k (by rw [← hk]; rfl) (by decide) (by decide)
  · intro e he
    refine ⟨(g5 e he).1, fun l => ?_⟩
    obtain ⟨cs, h⟩ := (g5 e he).2 l
    refine ⟨cs, h.chg hc fun k hk => ?_⟩
    obtain ⟨i, hi⟩ := List.getElem?_of_mem he
    exact no (i + 6) k (by show (d.es.map fun e => blk e.oa)[i]? = _; rw [List.getElem?_map, hi, Option.map_some, hk]) (by omega) (by omega)
  · rw [show Duo.own { d with b1 := b1' } x = (d.own x).set 3 b1' from rfl]
    exact g6.set (fun k hk => (g7 k hk).2) (hb.elim (fun e => .inr (.inl (by rw [e]; rfl))) fun e => .inr (.inr e))
  · intro b hb1
    rcases hown b hb1 with h | h
    · exact ⟨(g7 b h).1, Nat.lt_of_lt_of_le (g7 b h).2 hc.size⟩
    · exact ⟨by omega, h.2⟩
  · rcases e with rfl | e
    · exact Duo.mem_p
    · exact Duo.mem_b1 e
theorem IsDuo.step2 (s1 : Stable P1) (h : IsDuo P1 P2 lv B w x d) {b2' : Option Nat} (h1 : P2' d.r b2' w') (hc : Chg (fun k => k = d.r ∨ d.b2 = some k) w w') (hb : b2' = d.b2 ∨ ∃ k, b2' = some k ∧ w.heap.size ≤ k) (hl : ∀ k, b2' = some k → k < w'.heap.size) (hB : B ≤ w.heap.size) :
    IsDuo P1 P2' lv B w' x { d with b2 := b2' } ∧ Step w d w' { d with b2 := b2' } x := by
  obtain ⟨⟨T, g1⟩, g2, g3, g4, g5, g6, g7⟩ := h
  have no : ∀ (j b : Nat), (d.own x)[j]? = some (some b) → j ≠ 2 → j ≠ 4 → ¬ (b = d.r ∨ d.b2 = some b) := fun j b hj n1 n3 e => by
    rcases e with rfl | e
    · exact n1 (g6 j 2 _ hj rfl)
    · exact n3 (g6 j 4 _ hj (by rw [← e]; rfl))
  have hown : ∀ b, Own { d with b2 := b2' } x b → Own d x b ∨ (w.heap.size ≤ b ∧ b < w'.heap.size) := fun b hb1 => by
    unfold Own at hb1 ⊢
    rw [show Duo.own { d with b2 := b2' } x = (d.own x).set 4 b2' from rfl] at hb1
    rcases List.mem_or_eq_of_mem_set hb1 with h | h
    · exact .inl h
    · rcases hb with e | ⟨k, e, hk⟩
      · exact .inl (Duo.mem_b2 (by rw [← e, h]))
      · rw [e] at h; cases h
        exact .inr ⟨hk, hl _ e⟩
  refine ⟨⟨⟨T, ?_⟩, ?_, h1, ?_, ?_, ?_, ?_⟩, hc.mono fun b _ e => ?_, fun b hb1 => (hown b hb1).imp id (·.1)⟩
  · exact (hc.block x (g7 x Duo.mem_x).2 (no 0 x rfl (by decide) (by decide))).trans g1
  · exact s1 _ _ _ w w' g2 hc (no 1 d.p rfl (by decide) (by decide)) fun k hk => no 3 k (by rw [← hk]; rfl) (by decide) (by decide)
  · exact g4.chg hc fun k hk => no 5 k (by rw [← hk]; rfl) (by decide) (by decide)
  · intro e he
    refine ⟨(g5 e he).1, fun l => ?_⟩
    obtain ⟨cs, h⟩ := (g5 e he).2 l
    refine ⟨cs, h.chg hc fun k hk => ?_⟩
    obtain ⟨i, hi⟩ := List.getElem?_of_mem he
    exact no (i + 6) k (by show (d.es.map fun e => blk e.oa)[i]? = _; rw [List.getElem?_map, hi, Option.map_some, hk]) (by omega) (by omega)
  · rw [show Duo.own { d with b2 := b2' } x = (d.own x).set 4 b2' from rfl]
    exact g6.set (fun k hk => (g7 k hk).2) (hb.elim (fun e => .inr (.inl (by rw [e]; rfl))) fun e => .inr (.inr e))
  · intro b hb1
    rcases hown b hb1 with h | h
    · exact ⟨(g7 b h).1, Nat.lt_of_lt_of_le (g7 b h).2 hc.size⟩
    · exact ⟨by omega, h.2⟩
  · rcases e with rfl | e
    · exact Duo.mem_r
    · exact Duo.mem_b2 e

theorem duo_set2 {w : World} {p : Nat} {v0 v1 v2 : Value} {T : TypeId} (h : w.heap[p]? = some (.cells #[v0, v1, v2] T)) (u : Value) : (w.setCell ⟨p, 2, none⟩ u).heap[p]? = some (.cells #[v0, v1, u] T) := by
  rw [setCell_eq_setRow w p 2 _ T (0, 0) u h, setRow_heap w p _ _ T (0, 0) h]; rfl
/-- what was told is put down -/
theorem IsDuo.tell (s1 : Stable P1) (s2 : Stable P2) (h : IsDuo P1 P2 lv B w x d) (hB : B ≤ w.heap.size) {e : Lst} (hn : e.n ≤ 140737488351232) (he : lv → ∃ cs, OR eB w e.oa e.cap e.n cs) (hf : ∀ b, blk e.oa = some b → B ≤ b ∧ b < w.heap.size ∧ ¬ Own d x b)
    {W1 w2 : World} {ta2 : Option Addr} {cap2 : Nat} (hW1 : Below w.heap.size w W1) (hO2 : OR ApB.eLB w2 ta2 cap2 (d.es.length + 1) (d.es.map Lst.val ++ [e.val])) (hC2 : Chg (fun k => blk d.ta = some k) W1 w2) (hb2 : blk ta2 = blk d.ta ∨ blk ta2 = some W1.heap.size) :
    IsDuo P1 P2 lv B (w2.setCell ⟨x, 2, none⟩ (.slice ta2 (d.es.length + 1) cap2)) x { d with ta := ta2, capt := cap2, es := d.es ++ [e] } ∧ Chg (Own d x) w (w2.setCell ⟨x, 2, none⟩ (.slice ta2 (d.es.length + 1) cap2)) ∧
      ∀ b, Own { d with ta := ta2, capt := cap2, es := d.es ++ [e] } x b → Own d x b ∨ w.heap.size ≤ b ∨ blk e.oa = some b := by
  obtain ⟨⟨T, g1⟩, g2, g3, g4, g5, g6, g7⟩ := h
  have hC : Chg (fun k => blk d.ta = some k) w w2 := (Chg.of_below hW1).trans hC2 fun _ _ h => h
  have hx := (g7 x Duo.mem_x).2
  have nx : ¬ blk d.ta = some x := fun e => absurd (g6 0 5 x rfl (by rw [← e]; rfl)) (by decide)
  have g1' := (hC.block x hx nx).trans g1
  have hc : Chg (fun k => k = x ∨ blk d.ta = some k) w (w2.setCell ⟨x, 2, none⟩ (.slice ta2 (d.es.length + 1) cap2)) := (hC.mono fun _ _ h => .inr h).setCell _ _ fun _ => .inl rfl
  have no : ∀ (j b : Nat), (d.own x)[j]? = some (some b) → j ≠ 0 → j ≠ 5 → ¬ (b = x ∨ blk d.ta = some b) := fun j b hj n1 n3 e => by
    rcases e with rfl | e
    · exact n1 (g6 j 0 _ hj rfl)
    · exact n3 (g6 j 5 _ hj (by rw [← e]; rfl))
  have hz : (w2.setCell ⟨x, 2, none⟩ (.slice ta2 (d.es.length + 1) cap2)).heap.size = w2.heap.size := by simp [World.setCell]
  have eown : Duo.own { d with ta := ta2, capt := cap2, es := d.es ++ [e] } x = (d.own x).set 5 (blk ta2) ++ [blk e.oa] := by simp [Duo.own]
  have hs : Sep ((d.own x).set 5 (blk ta2)) := g6.set (N := w.heap.size) (fun k hk => (g7 k hk).2) (hb2.elim (fun e => .inr (.inl (by rw [e]; rfl))) fun e => .inr (.inr ⟨_, e, hW1.size⟩))
  have nt : blk ta2 ≠ some x := fun e => by
    rcases hb2 with h | h
    · exact nx (by rw [← h]; exact e)
    · rw [h] at e; cases e; have := hW1.size; omega
  have hm : ∀ b, some b ∈ (d.own x).set 5 (blk ta2) → Own d x b ∨ (w.heap.size ≤ b ∧ b < w2.heap.size) := fun b hb => by
    rcases List.mem_or_eq_of_mem_set hb with h | h
    · exact .inl h
    · rcases hb2 with e | e
      · exact .inl (Duo.mem_ta (by rw [← e]; exact h.symm))
      · rw [e] at h; cases h; exact .inr ⟨hW1.size, hO2.lt _ e⟩
  have hown : ∀ b, Own { d with ta := ta2, capt := cap2, es := d.es ++ [e] } x b → Own d x b ∨ (w.heap.size ≤ b ∧ b < w2.heap.size) ∨ blk e.oa = some b := fun b hb => by
    unfold Own at hb
    rw [eown, List.mem_append, List.mem_singleton] at hb
    rcases hb with h | h
    · exact (hm b h).imp id .inl
    · exact .inr (.inr h.symm)
  refine ⟨⟨⟨T, ?_⟩, ?_, ?_, ?_, ?_, ?_, ?_⟩, hc.mono fun b _ e => ?_, fun b hb => (hown b hb).imp id (·.imp (·.1) id)⟩
  · simp only [List.length_append, List.length_cons, List.length_nil]
    exact duo_set2 g1' _
  · exact s1 _ _ _ w _ g2 hc (no 1 d.p rfl (by decide) (by decide)) fun k hk => no 3 k (by rw [← hk]; rfl) (by decide) (by decide)
  · exact s2 _ _ _ w _ g3 hc (no 2 d.r rfl (by decide) (by decide)) fun k hk => no 4 k (by rw [← hk]; rfl) (by decide) (by decide)
  · have h := hO2.chg (Chg.set w2 ⟨x, 2, none⟩ (.slice ta2 (d.es.length + 1) cap2)) fun k hk e => nt (by rw [hk]; exact congrArg some e)
    simpa using h
  · intro f hf1
    rw [List.mem_append, List.mem_singleton] at hf1
    rcases hf1 with hf1 | rfl
    · refine ⟨(g5 f hf1).1, fun l => ?_⟩
      obtain ⟨cs, h⟩ := (g5 f hf1).2 l
      refine ⟨cs, h.chg hc fun k hk => ?_⟩
      obtain ⟨i, hi⟩ := List.getElem?_of_mem hf1
      exact no (i + 6) k (by show (d.es.map fun e => blk e.oa)[i]? = _; rw [List.getElem?_map, hi, Option.map_some, hk]) (by omega) (by omega)
    · refine ⟨hn, fun l => ?_⟩
      obtain ⟨cs, h⟩ := he l
      refine ⟨cs, h.chg hc fun k hk e => ?_⟩
      have h1 := (hf k hk).2.2
      rcases e with rfl | e
      · exact h1 Duo.mem_x
      · exact h1 (Duo.mem_ta e)
  · rw [eown]
    refine hs.push fun k hk hk2 => ?_
    obtain ⟨_, h2, h3⟩ := hf k hk
    rcases hm k hk2 with h | h
    · exact h3 h
    · omega
  · intro b hb
    rw [hz]
    have := hC.size
    rcases hown b hb with h | h | h
    · have := g7 b h; omega
    · omega
    · have := hf b h; omega
  · rcases e with rfl | e
    · exact Duo.mem_x
    · exact Duo.mem_ta e
end
end Go.Proofs.Ytofialinjbjcmaa
