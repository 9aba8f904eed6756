/- Lists of blocks that the program makes. -/
import Derived.Test.YtpjdknmgegbgnaaBkE
namespace Go.Proofs.Ytpjdknmgegbgnaa
open Go.RowKit
set_option linter.unusedVariables false
set_option maxRecDepth 100000

/-- blocks that rise from lo to hi -/
def Up : Nat → Nat → List (Option Addr) → Prop
  | lo, hi, [] => lo ≤ hi
  | lo, hi, a :: ds => ∃ m, lo ≤ m ∧ (∀ k, blk a = some k → lo ≤ k ∧ k < m) ∧ Up m hi ds
theorem Up.le : ∀ {ds : List (Option Addr)} {lo hi : Nat}, Up lo hi ds → lo ≤ hi
  | [], _, _, h => h
  | a :: ds, _, _, ⟨m, h1, _, h3⟩ => Nat.le_trans h1 (Up.le h3)
theorem Up.append : ∀ {ds bs : List (Option Addr)} {lo mi hi : Nat}, Up lo mi ds → Up mi hi bs → Up lo hi (ds ++ bs)
  | [], [], _, _, _, h, k => Nat.le_trans h k
  | [], b :: bs, lo, mi, hi, h, ⟨m, h1, h2, h3⟩ => ⟨m, Nat.le_trans h h1, fun k hk => ⟨Nat.le_trans h (h2 k hk).1, (h2 k hk).2⟩, h3⟩
  | a :: ds, bs, _, _, _, ⟨m, h1, h2, h3⟩, k => ⟨m, h1, h2, Up.append h3 k⟩
theorem Up.mem : ∀ {ds : List (Option Addr)} {lo hi : Nat}, Up lo hi ds → ∀ a ∈ ds, ∀ k, blk a = some k → lo ≤ k ∧ k < hi
  | a :: ds, lo, hi, ⟨m, h1, h2, h3⟩, x, hx, k, hk => by
    rcases List.mem_cons.1 hx with rfl | hx
    · have := h2 k hk; have := Up.le h3; omega
    · have := Up.mem h3 x hx k hk; omega
theorem Up.two {lo hi : Nat} {a b : Option Addr} {m : Nat} (h1 : lo ≤ m) (h2 : m ≤ hi) (ha : ∀ k, blk a = some k → lo ≤ k ∧ k < m) (hb : ∀ k, blk b = some k → m ≤ k ∧ k < hi) : Up lo hi [a, b] :=
  ⟨m, h1, ha, hi, h2, hb, Nat.le_refl _⟩
theorem Up.mono {ds : List (Option Addr)} {lo hi h2 : Nat} (h : Up lo hi ds) (hh : hi ≤ h2) : Up lo h2 ds := by
  have := Up.append (bs := []) h (show Up hi h2 [] from hh)
  rwa [List.append_nil] at this

def eSl : Elt := { t := 26, e := 32, size := 1, bytes := 24, z := .slice none 0 0, hu := Try.underlying26, hi := by kernel_rfl, hz := rfl, h0 := by decide }
/-- a list of bytes, and where it lies -/
abbrev Row := List UInt8 × Option Addr × Nat
def cellR (r : Row) : Value := .slice r.2.1 r.1.length r.2.2
def cellsRw (rs : List Row) : List Value := rs.map cellR
def adrR (rs : List Row) : List (Option Addr) := rs.map fun r => r.2.1
theorem cellsRw_length (rs : List Row) : (cellsRw rs).length = rs.length := by simp [cellsRw]
structure Rws (lo hi : Nat) (w : World) (la : Option Addr) (lc : Nat) (rs : List Row) : Prop where
  own : OR eSl w la lc rs.length (cellsRw rs)
  obs : ∀ r ∈ rs, OB w r.2.1 r.2.2 r.1
  lob : ∀ k, blk la = some k → lo ≤ k
  up : Up lo hi (adrR rs)
  sep : ∀ a ∈ adrR rs, ∀ k, blk a = some k → blk la ≠ some k
  top : hi ≤ w.heap.size
theorem mem_adrR {rs : List Row} {r : Row} (h : r ∈ rs) : r.2.1 ∈ adrR rs := List.mem_map.2 ⟨r, h, rfl⟩
theorem Rws.nil {lo : Nat} {w : World} (h : lo ≤ w.heap.size) : Rws lo w.heap.size w none 0 [] :=
  ⟨OR.nil eSl w, fun z hz => (by cases hz), fun k hk => (by cases hk), h, fun a ha => (by cases ha), Nat.le_refl _⟩
theorem Rws.chg {F : Nat → Prop} {lo hi : Nat} {w w' : World} {la : Option Addr} {lc : Nat} {rs : List Row} (h : Rws lo hi w la lc rs) (hc : Chg F w w') (hla : ∀ k, blk la = some k → ¬ F k) (has : ∀ a ∈ adrR rs, ∀ k, blk a = some k → ¬ F k) : Rws lo hi w' la lc rs :=
  ⟨h.own.chg hc hla, fun z hz => (h.obs z hz).chg hc (has _ (mem_adrR hz)), h.lob, h.up, h.sep, Nat.le_trans h.top hc.size⟩
theorem Rws.below {lo hi : Nat} {w w' : World} {la : Option Addr} {lc : Nat} {rs : List Row} (h : Rws lo hi w la lc rs) (hb : Below w.heap.size w w') : Rws lo hi w' la lc rs := h.chg (F := fun _ => False) (Chg.of_below hb) (fun _ _ f => f) (fun _ _ _ _ f => f)
theorem Rws.hi {lo hi h2 : Nat} {w : World} {la : Option Addr} {lc : Nat} {rs : List Row} (h : Rws lo hi w la lc rs) (h1 : hi ≤ h2) (h3 : h2 ≤ w.heap.size) : Rws lo h2 w la lc rs :=
  ⟨h.own, h.obs, h.lob, h.up.mono h1, h.sep, h3⟩
theorem Rws.snoc {lo hi hi2 : Nat} {w w' : World} {la la' : Option Addr} {lc lc' : Nat} {rs : List Row} (h : Rws lo hi w la lc rs) {r : Row} (hr : OB w r.2.1 r.2.2 r.1) (hu : ∀ k, blk r.2.1 = some k → hi ≤ k ∧ k < hi2) (hh : hi ≤ hi2) (h2 : hi2 ≤ w.heap.size)
    (hla : ∀ k, blk la = some k → k < hi) (hO : OR eSl w' la' lc' (rs.length + 1) (cellsRw rs ++ [cellR r])) (hC : Chg (fun k => blk la = some k) w w') (hb : blk la' = blk la ∨ blk la' = some w.heap.size) : Rws lo hi2 w' la' lc' (rs ++ [r]) := by
  have hup := Up.append h.up (show Up hi hi2 [r.2.1] from ⟨hi2, hh, hu, Nat.le_refl _⟩)
  have ha : adrR (rs ++ [r]) = adrR rs ++ [r.2.1] := by simp [adrR]
  have hlo := h.up.le
  refine ⟨?_, ?_, ?_, by rw [ha]; exact hup, ?_, Nat.le_trans h2 hC.size⟩
  · rw [List.length_append, show cellsRw (rs ++ [r]) = cellsRw rs ++ [cellR r] by simp [cellsRw]]; exact hO
  · intro z hz
    rcases List.mem_append.1 hz with hz | hz
    · exact (h.obs z hz).chg hC fun k hk f => h.sep _ (mem_adrR hz) k hk f
    · simp at hz; subst hz
      exact hr.chg hC fun k e f => by have := hla k f; have := (hu k e).1; omega
  · intro k e
    rcases hb with hb | hb
    · exact h.lob k (hb ▸ e)
    · rw [hb] at e; cases e; omega
  · rw [ha]
    intro a hmem k e f
    rcases hb with hb | hb
    · rw [hb] at f
      rcases List.mem_append.1 hmem with hm | hm
      · exact h.sep a hm k e f
      · simp at hm; subst hm; have := (hu k e).1; have := hla k f; omega
    · rw [hb] at f; cases f
      have := (hup.mem a hmem _ e).2; omega
/-- a row is read -/
theorem Rws.at {lo hi : Nat} {w : World} {la : Option Addr} {lc : Nat} {rs : List Row} (h : Rws lo hi w la lc rs) {i : Nat} {r : Row} (hi : rs[i]? = some r) : ∃ g, la = some ⟨g, 0, none⟩ ∧ w.cell? ⟨g, i, none⟩ = some (.slice r.2.1 r.1.length r.2.2) := by
  obtain ⟨g, h1, h2, _⟩ := h.own.cell (j := i) (u := cellR r) (by simp [cellsRw, hi])
  exact ⟨g, h1, h2⟩
theorem CBox.set {w : World} {g : Nat} {xs : List Nat} (h : CBox w g xs) (k x : Nat) : CBox (w.setCell ⟨g, k, none⟩ (.int .u16 (x : Int))) g (xs.set k x) := by
  obtain ⟨T, h⟩ := h
  refine ⟨T, ?_⟩
  rw [set_rowP h]
  congr 2
  simp [cells16, List.map_set]
theorem CBox.free {w : World} {g : Nat} {xs : List Nat} (h : CBox w g xs) (k : Nat) : w.frozen? ⟨g, k, none⟩ = false := by
  obtain ⟨T, h⟩ := h
  simp [World.frozen?, h]
/-- the counts of a block, as they are filled in -/
def filled (ps : List Nat) (k : Nat) : List Nat := ps.take k ++ List.replicate (240 - k) 0
theorem filled_set {ps : List Nat} {k x : Nat} (h : ps[k]? = some x) (hk : k < 240) : (filled ps k).set k x = filled ps (k + 1) := by
  have hl := (List.getElem?_eq_some_iff.1 h).1
  unfold filled
  rw [List.set_append_right k x (by rw [List.length_take]; omega), List.length_take, Nat.min_eq_left (by omega), Nat.sub_self, List.take_add_one, h, show 240 - k = (240 - (k + 1)) + 1 by omega, List.replicate_succ, List.set_cons_zero]
  simp
theorem filled_length {ps : List Nat} {k : Nat} (h : k ≤ ps.length) (hk : k ≤ 240) : (filled ps k).length = 240 := by unfold filled; simp; omega
theorem filled_all {ps : List Nat} {m : Nat} (h : ps.length = m) : (filled ps m).take m = ps := by
  unfold filled
  rw [List.take_append_of_le_length (by rw [List.length_take]; omega), List.take_take, Nat.min_self, List.take_of_length_le (by omega)]
/-- the first j blocks -/
def rowsB (gen : Nat) (cs : List Int) (j : Nat) : List (List UInt8) := (List.range j).map fun i => blk1 gen i cs.length (part (cs.map Int.toNat) i)
theorem rowsB_snoc (gen : Nat) (cs : List Int) (j : Nat) : rowsB gen cs (j + 1) = rowsB gen cs j ++ [blk1 gen j cs.length (part (cs.map Int.toNat) j)] := by simp [rowsB, List.range_succ]
theorem rowsB_length (gen : Nat) (cs : List Int) (j : Nat) : (rowsB gen cs j).length = j := by simp [rowsB]
/-- what Encode leaves -/
def EncB (r : Int × List (List UInt8)) (w : World) (e : Ending) (w' : World) : Prop :=
  ∃ la lc rs, e = .returned (.tuple #[.slice la r.2.length lc, .int .i64 r.1]) ∧ rs.map (·.1) = r.2 ∧ Rws w.heap.size w'.heap.size w' la lc rs ∧ Below w.heap.size w w'
theorem encB_no {w w' : World} {e : Int} (hb : Below w.heap.size w w') : EncB (e, []) w (.returned (.tuple #[.slice none 0 0, .int .i64 e])) w' :=
  ⟨none, 0, [], rfl, rfl, Rws.nil hb.size, hb⟩
end Go.Proofs.Ytpjdknmgegbgnaa
