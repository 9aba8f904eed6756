/- The scripts of chapter 2: an argument that is a list of calls. -/
import Derived.Test.YtofialinjbjcmaaDeep2
namespace Go.Proofs.Ytofialinjbjcmaa
open Go.ChangeShapes Go.WideShapes Go.ChangeAt Go.RowKit

structure Op2 where
  (kind k : Int) (n : Nat) (a : Option Addr) (cap : Nat) (bs : List UInt8)
def Op2.val (o : Op2) : Value := .agg #[.int .i64 o.kind, .int .u64 o.n, .slice o.a o.bs.length o.cap, .int .i64 o.k]
def Op2.fits (o : Op2) : Prop := o.n < 18446744073709551616 ∧ (-9223372036854775808 ≤ o.k ∧ o.k ≤ 9223372036854775807) ∧ o.bs.length ≤ 140737488351232 ∧ (-9223372036854775808 ≤ o.kind ∧ o.kind ≤ 9223372036854775807) ∧ (o.a = none → o.cap = 0)
/-- the cells of a call in memory -/
def Op2.lies (o : Op2) (w : World) (b off : Nat) : Prop :=
  w.cell? ⟨b, off, none⟩ = some (.int .i64 o.kind) ∧ w.cell? ⟨b, off + 1, none⟩ = some (.int .u64 o.n) ∧ w.cell? ⟨b, off + 2, none⟩ = some (.slice o.a o.bs.length o.cap) ∧ w.cell? ⟨b, off + 3, none⟩ = some (.int .i64 o.k)

/-- a list of calls that came in -/
def IsOps (w : World) (a : Option Addr) (len : Nat) : Prop := len = 0 ∨ ∃ b off, a = some ⟨b, off, none⟩ ∧ b < w.heap.size ∧ ∀ i, i < len → ∃ o : Op2, o.fits ∧ o.lies w b (off + i * 4) ∧ Bts w o.a o.bs

theorem cellsOp : Try.prog.cellsOf 36 = 4 := by kernel_rfl
set_option maxRecDepth 100000 in
theorem u64_nat {x : Int} (h : (Lit.int .u64 x).wf = true) : ∃ n : Nat, x = (n : Int) ∧ n < 18446744073709551616 := by
  simp [Lit.wf, IntKind.min, IntKind.max, IntKind.signed, IntKind.bits] at h
  exact ⟨x.toNat, by omega, by omega⟩

set_option maxRecDepth 100000 in
theorem open_ops {H : Type} {enc : TypeId × Value → H} {W : World} {a : Option Addr} {len cap : Nat} {d : DataW H} {p : List MemPlace}
    (h : DataW.Trod enc Try.prog W 0 (fun _ => true) true 23 (Value.slice a len cap) d p) (hz : ∀ q ∈ DataW.weights Try.prog 23 d, q ≤ reachBytes) : IsOps W a len ∧ len ≤ cap ∧ cap ≤ 9223372036854775807 := by
  obtain ⟨n, hf⟩ := h
  have hf' : Rd enc Try.prog W n 23 [Value.slice a len cap] = some (d, p) := hf
  rcases rd_elems Try.underlying23 hf' with h0 | ⟨x, l, c, m, hc, hl, hm, _, hel⟩
  · simp only [Value.slice.injEq] at h0
    obtain ⟨rfl, rfl, rfl⟩ := h0
    exact ⟨.inl rfl, by omega, by omega⟩
  · simp only [Value.slice.injEq] at hc
    obtain ⟨rfl, rfl, rfl⟩ := hc
    refine ⟨?_, hl, by unfold maxLen at hm; omega⟩
    by_cases h0 : len = 0
    · exact .inl h0
    obtain ⟨b, off, spot⟩ := x
    have hcell : ∀ i, i < cap → ∃ o : Op2, o.fits ∧ Bts W o.a o.bs ∧ W.cell? ((⟨b, off, spot⟩ : Addr).add (i * 4 + 0)) = some (.int .i64 o.kind) ∧ W.cell? ((⟨b, off, spot⟩ : Addr).add (i * 4 + 1)) = some (.int .u64 o.n) ∧ W.cell? ((⟨b, off, spot⟩ : Addr).add (i * 4 + 2)) = some (.slice o.a o.bs.length o.cap) ∧ W.cell? ((⟨b, off, spot⟩ : Addr).add (i * 4 + 3)) = some (.int .i64 o.k) := by
      intro i hi
      obtain ⟨cs, y, hcl, hat, hrd, hw⟩ := hel i hi
      rw [cellsOp] at hcl hat
      obtain ⟨m2, _, hfl⟩ := rd_fields Try.underlying36 hrd
      match cs, hcl with
      | [c0, c1, c2, c3], _ =>
        obtain ⟨y0, r0, _⟩ := hfl 0 _ rfl
        obtain ⟨y1, r1, _⟩ := hfl 1 _ rfl
        obtain ⟨y2, r2, w2⟩ := hfl 2 _ rfl
        obtain ⟨y3, r3, _⟩ := hfl 3 _ rfl
        obtain ⟨v0, rfl, k0⟩ := rd_int (c := c0) Try.underlying3 r0
        obtain ⟨v1, rfl, k1⟩ := rd_int (c := c1) Try.underlying33 r1
        obtain ⟨a2, l2, cap2, z2, rfl, row2, s2⟩ := rd_bytes (c := c2) r2 (fun q hq => hz q (hw q (w2 q hq)))
        obtain ⟨v3, rfl, k3⟩ := rd_int (c := c3) Try.underlying3 r3
        obtain ⟨n1, rfl, q1⟩ := u64_nat k1
        have hlc := row2.len_cap
        have hnil := row2.nil_cap
        obtain ⟨bs, rfl, hb⟩ := row2.bts
        exact ⟨⟨v0, v3, n1, a2, cap2, bs⟩, ⟨q1, i64_le k3, by show bs.length ≤ _; omega, i64_le k0, hnil⟩, hb, hat 0 (by omega), hat 1 (by omega), hat 2 (by omega), hat 3 (by omega)⟩
    obtain ⟨o0, _, _, e0, _⟩ := hcell 0 (by omega)
    have hspot : spot = none := by simpa [Addr.add] using World.cell?_spot e0
    subst hspot
    rw [add_none] at e0
    refine .inr ⟨b, off, rfl, block_lt_of_cell e0, fun i hi => ?_⟩
    obtain ⟨o, hf, hb, h0, h1, h2, h3⟩ := hcell i (by omega)
    rw [add_none] at h0 h1 h2 h3
    exact ⟨o, hf, ⟨h0, by rw [Nat.add_assoc]; exact h1, by rw [Nat.add_assoc]; exact h2, by rw [Nat.add_assoc]; exact h3⟩, hb⟩
end Go.Proofs.Ytofialinjbjcmaa
