/- Arguments with depth: slices of structs, opened element by element, field by field; what each part may weigh. -/
import Derived.Test.YtkjgncmbhkhbnaaArg2
import Derived.Deep.Slices
import Derived.Deep.Fields
namespace Go.Proofs.Ytkjgncmbhkhbnaa
open Go.ChangeShapes Go.WideShapes Go.ChangeAt Go.RowKit

section
variable {H : Type} {enc : TypeId × Value → H} {P : Program}

theorem weights_all {e : TypeId} : ∀ {l : List (DataW H)} {d : DataW H}, d ∈ l → ∀ n ∈ DataW.weights P e d, n ∈ DataW.weightsAll P e l
  | x :: l, d, h, n, hn => by
    rw [DataW.weightsAll, List.mem_append]
    rcases List.mem_cons.1 h with rfl | h
    · exact .inl hn
    · exact .inr (weights_all h n hn)
  | [], d, h, _, _ => by simp at h
theorem weights_elem {t e : TypeId} {el sp : List (DataW H)} {d : DataW H} (hu : P.underlying t = some (.slice e)) (h : d ∈ el ∨ d ∈ sp) : ∀ n ∈ DataW.weights P e d, n ∈ DataW.weights P t (.slice el sp) := by
  intro n hn
  simp only [DataW.weights, hu, List.mem_cons, List.mem_append]
  rcases h with h | h
  · exact .inr (.inl (weights_all h n hn))
  · exact .inr (.inr (weights_all h n hn))
theorem weights_part {t : TypeId} {fs : Array Field} {ds : List (DataW H)} {j : Nat} {f : Field} {d : DataW H} (hu : P.underlying t = some (.struct fs)) (hf : fs[j]? = some f) (hd : ds[j]? = some d) : ∀ n ∈ DataW.weights P f.type d, n ∈ DataW.weights P t (.agg ds) := by
  intro n hn
  simp only [DataW.weights, hu]
  refine DataW.weights_mem_each (j := j) (t := f.type) ?_ hd n hn
  simp [hf]

/-- the reading of arguments -/
abbrev Rd (enc : TypeId × Value → H) (P : Program) (W : World) (n : Nat) (t : TypeId) (cs : List Value) : Option (DataW H × List MemPlace) := DataW.trod enc P W 0 (fun _ => true) true n t cs

/-- a struct's fields: each reads, and weighs no more than the whole -/
theorem rd_fields {W : World} {t : TypeId} {fs : Array Field} {n : Nat} {cs : List Value} {x : DataW H × List MemPlace} (hu : P.underlying t = some (.struct fs)) (h : Rd enc P W n t cs = some x) :
    ∃ m, cs.length = P.cellsOf t ∧ ∀ (j : Nat) (f : Field), fs[j]? = some f → ∃ y : DataW H × List MemPlace, Rd enc P W m f.type ((cs.drop f.offset).take (P.cellsOf f.type)) = some y ∧ ∀ q ∈ DataW.weights P f.type y.1, q ∈ DataW.weights P t x.1 := by
  obtain ⟨xs, m, _, hx, hl, hlen, hg⟩ := DataW.trod_struct hu h
  refine ⟨m, hl, fun j f hf => ?_⟩
  have hj : j < xs.length := by rw [hlen]; exact (Array.getElem?_eq_some_iff.1 hf).1
  have h1 := hg j f hf
  rw [List.getElem?_eq_getElem hj] at h1
  refine ⟨_, h1, ?_⟩
  rw [hx]
  exact weights_part hu hf (by simp [List.getElem?_eq_getElem hj])

/-- a slice of whatever: nil, or each element reads, and weighs no more than the whole -/
theorem rd_elems {W : World} {t e : TypeId} {n : Nat} {c : Value} {x : DataW H × List MemPlace} (hu : P.underlying t = some (.slice e)) (h : Rd enc P W n t [c] = some x) :
    c = .slice none 0 0 ∨ ∃ (a : Addr) (len cap m : Nat), c = .slice (some a) len cap ∧ len ≤ cap ∧ cap ≤ maxLen ∧ (∃ el sp : List (DataW H), x.1 = .slice el sp ∧ el.length + sp.length = cap) ∧
      ∀ i, i < cap → ∃ (cs : List Value) (y : DataW H × List MemPlace), cs.length = P.cellsOf e ∧ (∀ j, j < P.cellsOf e → W.cell? (a.add (i * P.cellsOf e + j)) = cs[j]?) ∧ Rd enc P W m e cs = some y ∧ ∀ q ∈ DataW.weights P e y.1, q ∈ DataW.weights P t x.1 := by
  rcases Go.Deep.open_slice hu h with ⟨h0, _⟩ | ⟨a, len, cap, m, k, D, Pl, hcs, _, hl, hm, hmm, hx, hi⟩
  · exact .inl (by simpa using h0)
  · simp only [if_true] at hmm
    subst hmm
    refine .inr ⟨a, len, m, k, by simpa using hcs, hl, hm, ⟨_, _, by rw [hx], by simp; omega⟩, fun i him => ?_⟩
    obtain ⟨cs, hc, ht⟩ := hi i him
    obtain ⟨_, hcl, hat⟩ := World.cells?_some hc
    refine ⟨cs, _, hcl, fun j hj => ?_, ht, ?_⟩
    · rw [← Go.Deep.add_add]; exact hat j hj
    · rw [hx]
      refine weights_elem hu ?_
      by_cases h : i < len
      · exact .inl (List.mem_map.2 ⟨i, List.mem_range.2 h, rfl⟩)
      · refine .inr (List.mem_map.2 ⟨i - len, List.mem_range.2 (by omega), ?_⟩)
        show D (len + (i - len)) = D i
        congr 1; omega

theorem rd_int {W : World} {t : TypeId} {n : Nat} {c : Value} {k : IntKind} {x : DataW H × List MemPlace} (hu : P.underlying t = some (.int k)) (h : Rd enc P W n t [c] = some x) : ∃ v : Int, c = .int k v ∧ (Lit.int k v).wf = true := by
  obtain ⟨v, e, _, hw⟩ := DataW.trod_int hu h
  exact ⟨v, by simpa using e, hw⟩
end

/-- a slice of bytes within something greater -/
theorem rd_bytes {H : Type} {enc : TypeId × Value → H} {W : World} {n : Nat} {c : Value} {x : DataW H × List MemPlace} (h : Rd enc Try.prog W n 25 [c] = some x) (hz : ∀ q ∈ DataW.weights Try.prog 25 x.1, q ≤ reachBytes) :
    ∃ a len cap zs, c = .slice a len cap ∧ IsRow .u8 W a len cap zs ∧ cap ≤ 140737488351232 := by
  rcases rd_elems Try.underlying25 h with rfl | ⟨a, len, cap, m, rfl, _⟩
  · exact ⟨none, 0, 0, [], rfl, .inl ⟨rfl, rfl, rfl, rfl⟩, by omega⟩
  · obtain ⟨zs, h1, h2⟩ := open_bytes (enc := enc) (d := x.1) (p := x.2) (W := W) (a := some a) (len := len) (cap := cap) ⟨n, h⟩ hz
    exact ⟨_, _, _, zs, rfl, h1, h2⟩
end Go.Proofs.Ytkjgncmbhkhbnaa
