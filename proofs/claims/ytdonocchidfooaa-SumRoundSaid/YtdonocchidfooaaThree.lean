/- An argument that is a struct of three numbers and two lengths: opened to its five fields. -/
import Derived.Test.YtdonocchidfooaaArgs
import Derived.Deep.Fields
namespace Go.Proofs.Ytdonocchidfooaa
open Go.ChangeShapes Go.WideShapes Go.ChangeAt Go.RowKit

/-- the numbers of such a struct -/
structure Three where
  (A B C : Nat) (M N : Int)
def Three.fits (x : Three) : Prop := x.A < 4294967296 ∧ x.B < 4294967296 ∧ x.C < 4294967296 ∧ (-9223372036854775808 ≤ x.M ∧ x.M ≤ 9223372036854775807) ∧ (-9223372036854775808 ≤ x.N ∧ x.N ≤ 9223372036854775807)
def Three.cells (x : Three) : Array Value := #[.int .u32 x.A, .int .u32 x.B, .int .u32 x.C, .int .i64 x.M, .int .i64 x.N]

theorem cells_three : Try.prog.cellsOf 42 = 5 := by kernel_rfl

theorem three_cells {W : World} {B : Nat} {v0 v1 v2 v3 v4 : Value} {t : TypeId} {fr : Nat × Nat} (h : W.heap[B]? = some (.cells #[v0, v1, v2, v3, v4] t fr)) :
    W.cell? ⟨B, 0, none⟩ = some v0 ∧ W.cell? ⟨B, 1, none⟩ = some v1 ∧ W.cell? ⟨B, 2, none⟩ = some v2 ∧ W.cell? ⟨B, 3, none⟩ = some v3 ∧ W.cell? ⟨B, 4, none⟩ = some v4 := by
  simp [World.cell?, h]

section
variable {H : Type} {enc : TypeId × Value → H}
/-- a field of one cell that is an integer -/
theorem int_field {W : World} {fs : Array Field} {cs : List Value} {xs : List (DataW H × List MemPlace)} {n : Nat} {k : IntKind} (hlen : xs.length = fs.size)
    (hg : ∀ (i : Nat) (f : Field), fs[i]? = some f → DataW.trod enc Try.prog W 0 (fun _ => true) true n f.type ((cs.drop f.offset).take (Try.prog.cellsOf f.type)) = xs[i]?)
    (j : Nat) (f : Field) (hf : fs[j]? = some f) (hu : Try.prog.underlying f.type = some (.int k)) (hc : Try.prog.cellsOf f.type = 1) (c : Value) (hcs : (cs.drop f.offset).take 1 = [c]) : ∃ v : Int, c = .int k v ∧ (Lit.int k v).wf = true := by
  have h1 := hg j f hf
  rw [hc, hcs] at h1
  have hj : j < xs.length := by rw [hlen]; exact (Array.getElem?_eq_some_iff.1 hf).1
  rw [List.getElem?_eq_getElem hj] at h1
  obtain ⟨v, e, _, hw⟩ := DataW.trod_int hu h1
  exact ⟨v, by simpa using e, hw⟩

theorem open_three {W : World} {b : Nat} {v : Value} {d : DataW H} {p : List MemPlace} (hv : Value.okWide Try.prog W .any b 42 v)
    (h : DataW.Trod enc Try.prog W 0 (fun _ => true) true 42 v d p) : ∃ x : Three, x.fits ∧ v = .agg x.cells := by
  have hs := Try.underlying42
  obtain ⟨cs, rfl, hsz⟩ := okWide_struct hs hv
  obtain ⟨l⟩ := cs
  match l, hsz.trans cells_three with
  | [c0, c1, c2, c3, c4], _ =>
    obtain ⟨fuel, hf⟩ := h
    obtain ⟨xs, n, _, _, _, hlen, hg⟩ := DataW.trod_struct hs hf
    obtain ⟨v0, rfl, w0⟩ := int_field hlen hg 0 _ rfl Try.underlying24 (by kernel_rfl) c0 rfl
    obtain ⟨v1, rfl, w1⟩ := int_field hlen hg 1 _ rfl Try.underlying24 (by kernel_rfl) c1 rfl
    obtain ⟨v2, rfl, w2⟩ := int_field hlen hg 2 _ rfl Try.underlying24 (by kernel_rfl) c2 rfl
    obtain ⟨v3, rfl, w3⟩ := int_field hlen hg 3 _ rfl Try.underlying3 (by kernel_rfl) c3 rfl
    obtain ⟨v4, rfl, w4⟩ := int_field hlen hg 4 _ rfl Try.underlying3 (by kernel_rfl) c4 rfl
    obtain ⟨n0, rfl, h0⟩ := u32_nat w0
    obtain ⟨n1, rfl, h1⟩ := u32_nat w1
    obtain ⟨n2, rfl, h2⟩ := u32_nat w2
    exact ⟨⟨n0, n1, n2, v3, v4⟩, ⟨h0, h1, h2, i64_le w3, i64_le w4⟩, rfl⟩
end
end Go.Proofs.Ytdonocchidfooaa
