/- Arguments: an array of two numbers, of two lists of calls; a list of bools. -/
import Derived.Test.YtofialinjbjcmaaFld
import Derived.Deep.Grids
namespace Go.Proofs.Ytofialinjbjcmaa
open Go.ChangeShapes Go.WideShapes Go.ChangeAt Go.RowKit
set_option linter.unusedVariables false

theorem okWide_array {P : Program} {w : World} {r : Reach} {base n : Nat} {t e : TypeId} {v : Value} (ht : P.underlying t = some (.array n e)) (h : Value.okWide P w r base t v) : ∃ cs, v = .agg cs ∧ cs.size = P.cellsOf t := by
  simp only [Value.okWide, ht] at h
  obtain ⟨cs, h1, h2, _⟩ := h
  exact ⟨cs, h1, h2⟩
theorem cells60 : Try.prog.cellsOf 60 = 2 := by kernel_rfl
theorem cells61 : Try.prog.cellsOf 61 = 2 := by kernel_rfl
theorem cellsInt : Try.prog.cellsOf 3 = 1 := by kernel_rfl
theorem cellsOps : Try.prog.cellsOf 23 = 1 := by kernel_rfl
theorem cellsBool : Try.prog.cellsOf 4 = 1 := by kernel_rfl

section
variable {H : Type} {enc : TypeId × Value → H}
set_option maxRecDepth 100000 in
theorem open_ints2 {W : World} {b : Nat} {v : Value} {d : DataW H} {p : List MemPlace} (hv : Value.okWide Try.prog W .any b 60 v)
    (h : DataW.Trod enc Try.prog W 0 (fun _ => true) true 60 v d p) : ∃ m0 m1 : Int, v = .agg #[.int .i64 m0, .int .i64 m1] := by
  have hs := Try.underlying60
  obtain ⟨cs, rfl, hsz⟩ := okWide_array hs hv
  obtain ⟨l⟩ := cs
  match l, hsz.trans cells60 with
  | [c0, c1], _ =>
    obtain ⟨fuel, hf⟩ := h
    obtain ⟨xs, n, _, _, _, hlen, hg⟩ := DataW.trod_array hs hf
    have g0 := hg 0 (by decide)
    have g1 := hg 1 (by decide)
    rw [cellsInt] at g0 g1
    rw [List.getElem?_eq_getElem (by omega)] at g0 g1
    obtain ⟨v0, rfl, _⟩ := rd_int (c := c0) Try.underlying3 g0
    obtain ⟨v1, rfl, _⟩ := rd_int (c := c1) Try.underlying3 g1
    exact ⟨v0, v1, rfl⟩
theorem ops_cell {W : World} {n : Nat} {c : Value} {x : DataW H × List MemPlace} (h : Rd enc Try.prog W n 23 [c] = some x) (hz : ∀ q ∈ DataW.weights Try.prog 23 x.1, q ≤ reachBytes) :
    ∃ a len cap, c = .slice a len cap ∧ IsOps W a len ∧ len ≤ cap := by
  rcases rd_elems Try.underlying23 h with rfl | ⟨a, len, cap, m, rfl, _⟩
  · exact ⟨none, 0, 0, rfl, .inl rfl, Nat.le_refl _⟩
  · obtain ⟨h1, h2, _⟩ := open_ops (enc := enc) (d := x.1) (p := x.2) (W := W) (a := some a) (len := len) (cap := cap) ⟨n, h⟩ hz
    exact ⟨_, _, _, rfl, h1, h2⟩
set_option maxRecDepth 100000 in
theorem open_ops2 {W : World} {b : Nat} {v : Value} {d : DataW H} {p : List MemPlace} (hv : Value.okWide Try.prog W .any b 61 v)
    (h : DataW.Trod enc Try.prog W 0 (fun _ => true) true 61 v d p) (hz : ∀ q ∈ DataW.weights Try.prog 61 d, q ≤ reachBytes) :
    ∃ a0 l0 c0 a1 l1 c1, v = .agg #[.slice a0 l0 c0, .slice a1 l1 c1] ∧ (IsOps W a0 l0 ∧ l0 ≤ c0) ∧ (IsOps W a1 l1 ∧ l1 ≤ c1) := by
  have hs := Try.underlying61
  obtain ⟨cs, rfl, hsz⟩ := okWide_array hs hv
  obtain ⟨l⟩ := cs
  match l, hsz.trans cells61 with
  | [c0, c1], _ =>
    obtain ⟨fuel, hf⟩ := h
    obtain ⟨xs, n, _, hd, _, hlen, hg⟩ := DataW.trod_array hs hf
    have hw : ∀ (j : Nat) (hj : j < xs.length), ∀ q ∈ DataW.weights Try.prog 23 xs[j].1, q ≤ reachBytes := fun j hj q hq => hz q (by
      cases hd
      simp only [DataW.weights, hs]
      exact weights_all (List.mem_map.2 ⟨xs[j], List.getElem_mem hj, rfl⟩) q hq)
    have g0 := hg 0 (by decide)
    have g1 := hg 1 (by decide)
    rw [cellsOps] at g0 g1
    rw [List.getElem?_eq_getElem (by omega)] at g0 g1
    obtain ⟨a0, l0, k0, rfl, h0, h0'⟩ := ops_cell (c := c0) g0 (hw 0 (by omega))
    obtain ⟨a1, l1, k1, rfl, h1, h1'⟩ := ops_cell (c := c1) g1 (hw 1 (by omega))
    exact ⟨a0, l0, k0, a1, l1, k1, rfl, ⟨h0, h0'⟩, ⟨h1, h1'⟩⟩
/-- a list of bools that came in -/
def IsBools (w : World) (a : Option Addr) (len : Nat) : Prop := len = 0 ∨ ∃ b off, a = some ⟨b, off, none⟩ ∧ b < w.heap.size ∧ ∀ i, i < len → ∃ t : Bool, w.cell? ⟨b, off + i, none⟩ = some (.bool t)
theorem open_boolsW {W : World} {a : Option Addr} {len cap : Nat} {d : DataW H} {p : List MemPlace}
    (h : DataW.Trod enc Try.prog W 0 (fun _ => true) true 62 (Value.slice a len cap) d p) : IsBools W a len ∧ len ≤ 9223372036854775807 := by
  obtain ⟨fuel, hf⟩ := h
  rcases Go.Deep.open_bools Try.underlying62 Try.underlying4 cellsBool hf with ⟨h0, _⟩ | ⟨ad, l, c, Bf, h0, _, hl, hm, _, hc⟩
  · have h0' : [Value.slice a len cap] = [.slice none 0 0] := h0
    simp only [List.cons.injEq, Value.slice.injEq, and_true] at h0'
    obtain ⟨_, rfl, _⟩ := h0'
    exact ⟨.inl rfl, by omega⟩
  · have h0' : [Value.slice a len cap] = [.slice (some ad) l c] := h0
    simp only [List.cons.injEq, Value.slice.injEq, and_true] at h0'
    obtain ⟨rfl, rfl, rfl⟩ := h0'
    refine ⟨?_, by unfold maxLen at hm; omega⟩
    by_cases hz : len = 0
    · exact .inl hz
    obtain ⟨b, off, spot⟩ := ad
    have e0 := hc 0 (by omega)
    have hspot : spot = none := by simpa [Addr.add] using World.cell?_spot e0
    subst hspot
    rw [add_none] at e0
    refine .inr ⟨b, off, rfl, block_lt_of_cell e0, fun i hi => ⟨Bf i, ?_⟩⟩
    rw [← add_none]; exact hc i (by omega)
end
theorem IsBools.below {w w' : World} {a : Option Addr} {len : Nat} (h : IsBools w a len) (hb : Below w.heap.size w w') : IsBools w' a len := by
  rcases h with h | ⟨b, off, h1, h2, h3⟩
  · exact .inl h
  · exact .inr ⟨b, off, h1, Nat.lt_of_lt_of_le h2 hb.size, fun i hi => by obtain ⟨t, ht⟩ := h3 i hi; exact ⟨t, (hb.cell (p := ⟨b, off + i, none⟩) h2).trans ht⟩⟩
end Go.Proofs.Ytofialinjbjcmaa
