/- Superblocks: as plain data, and in memory; an argument that is a superblock; what the layer computes, in plain terms. -/
import Derived.Test.YthkopgmkdenebaaDeep2
namespace Go.Proofs.Ythkopgmkdenebaa
open Go.ChangeShapes Go.WideShapes Go.ChangeAt Go.RowKit
set_option linter.unusedVariables false
set_option maxRecDepth 100000

def i64ok (x : Int) : Prop := -9223372036854775808 ≤ x ∧ x ≤ 9223372036854775807

structure RT where
  (id root height items : Int)
  deriving DecidableEq
structure CF where
  (blocks clones refs : Int)
  deriving DecidableEq
structure SP where
  (gen : Int) (cf : CF) (next : Int) (roots : List RT)
  deriving DecidableEq

/-- a root's four cells -/
structure RtIn (w : World) (b off : Nat) (x : RT) : Prop where
  c0 : w.cell? ⟨b, off, none⟩ = some (.int .i64 x.id)
  c1 : w.cell? ⟨b, off + 1, none⟩ = some (.int .i64 x.root)
  c2 : w.cell? ⟨b, off + 2, none⟩ = some (.int .i64 x.height)
  c3 : w.cell? ⟨b, off + 3, none⟩ = some (.int .i64 x.items)
def RT.ok (x : RT) : Prop := i64ok x.id ∧ i64ok x.root ∧ i64ok x.height ∧ i64ok x.items
/-- roots that are read; their block lies below B -/
def RtsAt (B : Nat) (w : World) (a : Option Addr) (xs : List RT) : Prop :=
  xs = [] ∨ ∃ b off, a = some ⟨b, off, none⟩ ∧ b < B ∧ ∀ i x, xs[i]? = some x → RtIn w b (off + i * 4) x
def spv (s : SP) (a : Option Addr) (cap : Nat) : Value :=
  .agg #[.int .i64 s.gen, .int .i64 s.cf.blocks, .int .i64 s.cf.clones, .int .i64 s.cf.refs, .int .i64 s.next, .slice a s.roots.length cap]
/-- a superblock that is read -/
structure SpAt (B : Nat) (w : World) (s : SP) (a : Option Addr) (cap : Nat) : Prop where
  rts : RtsAt B w a s.roots
  rok : ∀ x ∈ s.roots, x.ok
  len : s.roots.length ≤ 1000000000000000
  inil : a = none → cap = 0
  g : i64ok s.gen
  b : i64ok s.cf.blocks
  c : i64ok s.cf.clones
  r : i64ok s.cf.refs
  n : i64ok s.next

theorem RtIn.below {B b off : Nat} {w w' : World} {x : RT} (h : RtIn w b off x) (hb : b < B) (hc : Below B w w') : RtIn w' b off x := by
  have e : ∀ k, w'.cell? ⟨b, k, none⟩ = w.cell? ⟨b, k, none⟩ := fun k => hc.cell (p := ⟨b, k, none⟩) hb
  exact ⟨(e _).trans h.c0, (e _).trans h.c1, (e _).trans h.c2, (e _).trans h.c3⟩
theorem RtsAt.below {B : Nat} {w w' : World} {a : Option Addr} {xs : List RT} (h : RtsAt B w a xs) (hc : Below B w w') : RtsAt B w' a xs := by
  rcases h with h | ⟨b, off, h1, h2, h3⟩
  · exact .inl h
  · exact .inr ⟨b, off, h1, h2, fun i x hi => (h3 i x hi).below h2 hc⟩
theorem RtsAt.mono {B C : Nat} {w : World} {a : Option Addr} {xs : List RT} (h : RtsAt B w a xs) (hc : B ≤ C) : RtsAt C w a xs := by
  rcases h with h | ⟨b, off, h1, h2, h3⟩
  · exact .inl h
  · exact .inr ⟨b, off, h1, Nat.lt_of_lt_of_le h2 hc, h3⟩
theorem RtsAt.at {B : Nat} {w : World} {a : Option Addr} {xs : List RT} (h : RtsAt B w a xs) {i : Nat} {x : RT} (hi : xs[i]? = some x) : ∃ b off, a = some ⟨b, off, none⟩ ∧ b < B ∧ RtIn w b (off + i * 4) x := by
  rcases h with rfl | ⟨b, off, h1, h2, h3⟩
  · simp at hi
  · exact ⟨b, off, h1, h2, h3 i x hi⟩
theorem SpAt.below {B : Nat} {w w' : World} {s : SP} {a : Option Addr} {cap : Nat} (h : SpAt B w s a cap) (hc : Below B w w') : SpAt B w' s a cap :=
  ⟨h.rts.below hc, h.rok, h.len, h.inil, h.g, h.b, h.c, h.r, h.n⟩
theorem SpAt.mono {B C : Nat} {w : World} {s : SP} {a : Option Addr} {cap : Nat} (h : SpAt B w s a cap) (hc : B ≤ C) : SpAt C w s a cap :=
  ⟨h.rts.mono hc, h.rok, h.len, h.inil, h.g, h.b, h.c, h.r, h.n⟩

/-- a variable that is a struct, read as a whole -/
theorem load_box {w : World} {b : Nat} {cs : Array Value} {T ty : TypeId} {d : TypeDesc} (hg : w.heap[b]? = some (.cells cs T))
    (hu : Try.prog.underlying ty = some d) (hd : (match (generalizing := false) d with | .struct _ | .array _ _ => true | _ => false) = true) (hi : (Try.prog.info? ty).map (·.size) = some cs.size) :
    (Instr.loadAt ty (.pointer (some ⟨b, 0, none⟩))).run Try.prog w = .ok (.agg cs) w := by
  simp only [Instr.loadAt, Instr.sureAddr, Sem.run_bind, Sem.run_pure, Result.andThen_ok, run_loadVar_row w b T ty cs _ d hg hu (by cases d <;> first | rfl | exact hd) hi]
theorem load_cf {w : World} {b : Nat} {v0 v1 v2 : Value} {T : TypeId} (hg : w.heap[b]? = some (.cells #[v0, v1, v2] T)) :
    (Instr.loadAt 24 (.pointer (some ⟨b, 0, none⟩))).run Try.prog w = .ok (.agg #[v0, v1, v2]) w := load_box hg Try.underlying24 rfl (by kernel_rfl)
theorem load_pl {w : World} {b : Nat} {v0 v1 v2 : Value} {T : TypeId} (hg : w.heap[b]? = some (.cells #[v0, v1, v2] T)) :
    (Instr.loadAt 26 (.pointer (some ⟨b, 0, none⟩))).run Try.prog w = .ok (.agg #[v0, v1, v2]) w := load_box hg Try.underlying26 rfl (by kernel_rfl)
theorem load_tr {w : World} {b : Nat} {v0 v1 v2 : Value} {T : TypeId} (hg : w.heap[b]? = some (.cells #[v0, v1, v2] T)) :
    (Instr.loadAt 48 (.pointer (some ⟨b, 0, none⟩))).run Try.prog w = .ok (.agg #[v0, v1, v2]) w := load_box hg Try.underlying48 rfl (by kernel_rfl)
theorem load_rt {w : World} {b : Nat} {v0 v1 v2 v3 : Value} {T : TypeId} (hg : w.heap[b]? = some (.cells #[v0, v1, v2, v3] T)) :
    (Instr.loadAt 50 (.pointer (some ⟨b, 0, none⟩))).run Try.prog w = .ok (.agg #[v0, v1, v2, v3]) w := load_box hg Try.underlying50 rfl (by kernel_rfl)
theorem load_sp {w : World} {b : Nat} {v0 v1 v2 v3 v4 v5 : Value} {T : TypeId} (hg : w.heap[b]? = some (.cells #[v0, v1, v2, v3, v4, v5] T)) :
    (Instr.loadAt 33 (.pointer (some ⟨b, 0, none⟩))).run Try.prog w = .ok (.agg #[v0, v1, v2, v3, v4, v5]) w := load_box hg Try.underlying33 rfl (by kernel_rfl)
/-- of a variable that lay in an earlier world -/
theorem box_kept {B : Nat} {w w' : World} {b : Nat} {o : Obj} (hg : w.heap[b]? = some o) (hB : Below B w w') (hb : b < B) : w'.heap[b]? = some o := (hB.block b hb).trans hg

theorem cellsRt : Try.prog.cellsOf 50 = 4 := by kernel_rfl
theorem bytesRt : Try.prog.bytesOf 50 = 32 := by kernel_rfl
theorem cellsTr : Try.prog.cellsOf 48 = 3 := by kernel_rfl
theorem cellsCf : Try.prog.cellsOf 24 = 3 := by kernel_rfl
theorem cellsPl : Try.prog.cellsOf 26 = 3 := by kernel_rfl
theorem cellsSp : Try.prog.cellsOf 33 = 6 := by kernel_rfl

section
variable {H : Type} {enc : TypeId × Value → H}
theorem rd_tree {W : World} {n : Nat} {c0 c1 c2 : Value} {x : DataW H × List MemPlace} (h : Rd enc Try.prog W n 48 [c0, c1, c2] = some x) :
    ∃ v0 v1 v2 : Int, c0 = .int .i64 v0 ∧ c1 = .int .i64 v1 ∧ c2 = .int .i64 v2 ∧ i64ok v0 ∧ i64ok v1 ∧ i64ok v2 := by
  obtain ⟨m2, _, hfl⟩ := rd_fields Try.underlying48 h
  obtain ⟨y0, r0, _⟩ := hfl 0 _ rfl
  obtain ⟨y1, r1, _⟩ := hfl 1 _ rfl
  obtain ⟨y2, r2, _⟩ := hfl 2 _ rfl
  obtain ⟨v0, rfl, k0⟩ := rd_int (c := c0) Try.underlying3 r0
  obtain ⟨v1, rfl, k1⟩ := rd_int (c := c1) Try.underlying3 r1
  obtain ⟨v2, rfl, k2⟩ := rd_int (c := c2) Try.underlying3 r2
  exact ⟨v0, v1, v2, rfl, rfl, rfl, i64_le k0, i64_le k1, i64_le k2⟩
theorem rd_cf {W : World} {n : Nat} {c0 c1 c2 : Value} {x : DataW H × List MemPlace} (h : Rd enc Try.prog W n 24 [c0, c1, c2] = some x) :
    ∃ v0 v1 v2 : Int, c0 = .int .i64 v0 ∧ c1 = .int .i64 v1 ∧ c2 = .int .i64 v2 ∧ i64ok v0 ∧ i64ok v1 ∧ i64ok v2 := by
  obtain ⟨m2, _, hfl⟩ := rd_fields Try.underlying24 h
  obtain ⟨y0, r0, _⟩ := hfl 0 _ rfl
  obtain ⟨y1, r1, _⟩ := hfl 1 _ rfl
  obtain ⟨y2, r2, _⟩ := hfl 2 _ rfl
  obtain ⟨v0, rfl, k0⟩ := rd_int (c := c0) Try.underlying3 r0
  obtain ⟨v1, rfl, k1⟩ := rd_int (c := c1) Try.underlying3 r1
  obtain ⟨v2, rfl, k2⟩ := rd_int (c := c2) Try.underlying3 r2
  exact ⟨v0, v1, v2, rfl, rfl, rfl, i64_le k0, i64_le k1, i64_le k2⟩

set_option maxRecDepth 100000 in
theorem rd_roots {W : World} {n : Nat} {c : Value} {x : DataW H × List MemPlace} (h : Rd enc Try.prog W n 31 [c] = some x) (hz : ∀ q ∈ DataW.weights Try.prog 31 x.1, q ≤ reachBytes) :
    ∃ (a : Option Addr) (cap : Nat) (xs : List RT), c = .slice a xs.length cap ∧ RtsAt W.heap.size W a xs ∧ (∀ y ∈ xs, y.ok) ∧ xs.length ≤ cap ∧ cap ≤ 4398046511000 ∧ (a = none → cap = 0) := by
  rcases rd_elems Try.underlying31 h with h0 | ⟨ad, len, cap, m, hc, hl, hm, ⟨el, sp, hx, hes⟩, hel⟩
  · exact ⟨none, 0, [], h0, .inl rfl, by simp, Nat.le_refl _, by omega, fun _ => rfl⟩
  · have hcell : ∀ i, i < cap → ∃ (x : RT), x.ok ∧
        W.cell? (ad.add (i * 4 + 0)) = some (.int .i64 x.id) ∧ W.cell? (ad.add (i * 4 + 1)) = some (.int .i64 x.root) ∧ W.cell? (ad.add (i * 4 + 2)) = some (.int .i64 x.height) ∧ W.cell? (ad.add (i * 4 + 3)) = some (.int .i64 x.items) := by
      intro i hi
      obtain ⟨cs, y, hcl, hat, hrd, hw⟩ := hel i hi
      rw [cellsRt] at hcl hat
      obtain ⟨m2, _, hfl⟩ := rd_fields Try.underlying50 hrd
      match cs, hcl with
      | [c0, c1, c2, c3], _ =>
        obtain ⟨y0, r0, _⟩ := hfl 0 _ rfl
        obtain ⟨y1, r1, _⟩ := hfl 1 _ rfl
        obtain ⟨v0, rfl, k0⟩ := rd_int (c := c0) Try.underlying3 r0
        obtain ⟨v1, v2, v3, rfl, rfl, rfl, k1, k2, k3⟩ := rd_tree (c0 := c1) (c1 := c2) (c2 := c3) r1
        exact ⟨⟨v0, v1, v2, v3⟩, ⟨i64_le k0, k1, k2, k3⟩, hat 0 (by omega), hat 1 (by omega), hat 2 (by omega), hat 3 (by omega)⟩
    have h1 := hz ((el.length + sp.length) * Try.prog.bytesOf 50) (by rw [hx]; simp [DataW.weights, Try.underlying31])
    rw [hes, bytesRt] at h1
    simp only [reachBytes] at h1
    unfold maxLen at hm
    by_cases h0 : len = 0
    · subst h0
      exact ⟨some ad, cap, [], hc, .inl rfl, by simp, Nat.zero_le _, by omega, fun h => by cases h⟩
    obtain ⟨b, off, spot⟩ := ad
    obtain ⟨x0, _, e0, _⟩ := hcell 0 (by omega)
    have hspot : spot = none := by simpa [Addr.add] using World.cell?_spot e0
    subst hspot
    rw [add_none] at e0
    have hit : ∀ i, i < len → ∃ x : RT, x.ok ∧ RtIn W b (off + i * 4) x := by
      intro i hi
      obtain ⟨x, g, e1, e2, e3, e4⟩ := hcell i (by omega)
      rw [add_none] at e1 e2 e3 e4
      exact ⟨x, g, e1, by rw [Nat.add_assoc]; exact e2, by rw [Nat.add_assoc]; exact e3, by rw [Nat.add_assoc]; exact e4⟩
    refine ⟨_, cap, List.ofFn fun i : Fin len => Classical.choose (hit i i.2), by rw [List.length_ofFn]; exact hc, ?_, ?_, by rw [List.length_ofFn]; exact hl, by omega, fun h => by cases h⟩
    · refine .inr ⟨b, off, rfl, block_lt_of_cell e0, fun i x hi => ?_⟩
      rw [List.getElem?_ofFn] at hi
      by_cases hil : i < len
      · rw [dif_pos hil] at hi
        cases hi
        exact (Classical.choose_spec (hit i hil)).2
      · rw [dif_neg hil] at hi; cases hi
    · intro y hy
      rw [List.mem_ofFn] at hy
      obtain ⟨i, rfl⟩ := hy
      exact (Classical.choose_spec (hit i i.2)).1
set_option maxRecDepth 100000 in
theorem open_super {W : World} {b : Nat} {v : Value} {d : DataW H} {q : List MemPlace} (hv : Value.okWide Try.prog W .any b 33 v)
    (h : DataW.Trod enc Try.prog W 0 (fun _ => true) true 33 v d q) (hz : ∀ n ∈ DataW.weights Try.prog 33 d, n ≤ reachBytes) :
    ∃ s a cap, v = spv s a cap ∧ SpAt W.heap.size W s a cap := by
  obtain ⟨cs, rfl, hsz⟩ := okWide_struct Try.underlying33 hv
  obtain ⟨l⟩ := cs
  obtain ⟨fuel, hf⟩ := h
  match l, hsz.trans cellsSp with
  | [c0, c1, c2, c3, c4, c5], _ =>
    have hf' : Rd enc Try.prog W fuel 33 [c0, c1, c2, c3, c4, c5] = some (d, q) := hf
    obtain ⟨m2, _, hfl⟩ := rd_fields Try.underlying33 hf'
    obtain ⟨y0, r0, _⟩ := hfl 0 _ rfl
    obtain ⟨y1, r1, _⟩ := hfl 1 _ rfl
    obtain ⟨y2, r2, _⟩ := hfl 2 _ rfl
    obtain ⟨y3, r3, w3⟩ := hfl 3 _ rfl
    obtain ⟨v0, rfl, k0⟩ := rd_int (c := c0) Try.underlying3 r0
    obtain ⟨v1, v2, v3, rfl, rfl, rfl, k1, k2, k3⟩ := rd_cf (c0 := c1) (c1 := c2) (c2 := c3) r1
    obtain ⟨v4, rfl, k4⟩ := rd_int (c := c4) Try.underlying3 r2
    obtain ⟨a, cap, xs, rfl, hi, ho, hl, hm, hn⟩ := rd_roots (c := c5) r3 (fun q hq => hz q (w3 q hq))
    exact ⟨⟨v0, ⟨v1, v2, v3⟩, v4, xs⟩, a, cap, rfl, hi, ho, by show xs.length ≤ _; omega, hn, i64_le k0, k1, k2, k3, i64_le k4⟩
set_option maxRecDepth 100000 in
theorem open_cf {W : World} {b : Nat} {v : Value} {d : DataW H} {q : List MemPlace} (hv : Value.okWide Try.prog W .any b 24 v)
    (h : DataW.Trod enc Try.prog W 0 (fun _ => true) true 24 v d q) :
    ∃ c : CF, v = .agg #[.int .i64 c.blocks, .int .i64 c.clones, .int .i64 c.refs] ∧ i64ok c.blocks ∧ i64ok c.clones ∧ i64ok c.refs := by
  obtain ⟨cs, rfl, hsz⟩ := okWide_struct Try.underlying24 hv
  obtain ⟨l⟩ := cs
  obtain ⟨fuel, hf⟩ := h
  match l, hsz.trans cellsCf with
  | [c0, c1, c2], _ =>
    have hf' : Rd enc Try.prog W fuel 24 [c0, c1, c2] = some (d, q) := hf
    obtain ⟨v1, v2, v3, rfl, rfl, rfl, k1, k2, k3⟩ := rd_cf (c0 := c0) (c1 := c1) (c2 := c2) hf'
    exact ⟨⟨v1, v2, v3⟩, rfl, k1, k2, k3⟩
set_option maxRecDepth 100000 in
theorem open_pl {W : World} {b : Nat} {v : Value} {d : DataW H} {q : List MemPlace} (hv : Value.okWide Try.prog W .any b 26 v)
    (h : DataW.Trod enc Try.prog W 0 (fun _ => true) true 26 v d q) :
    ∃ v0 v1 v2 : Int, v = .agg #[.int .i64 v0, .int .i64 v1, .int .i64 v2] ∧ i64ok v0 ∧ i64ok v1 ∧ i64ok v2 := by
  obtain ⟨cs, rfl, hsz⟩ := okWide_struct Try.underlying26 hv
  obtain ⟨l⟩ := cs
  obtain ⟨fuel, hf⟩ := h
  match l, hsz.trans cellsPl with
  | [c0, c1, c2], _ =>
    have hf' : Rd enc Try.prog W fuel 26 [c0, c1, c2] = some (d, q) := hf
    obtain ⟨m2, _, hfl⟩ := rd_fields Try.underlying26 hf'
    obtain ⟨y0, r0, _⟩ := hfl 0 _ rfl
    obtain ⟨y1, r1, _⟩ := hfl 1 _ rfl
    obtain ⟨y2, r2, _⟩ := hfl 2 _ rfl
    obtain ⟨v0, rfl, k0⟩ := rd_int (c := c0) Try.underlying3 r0
    obtain ⟨v1, rfl, k1⟩ := rd_int (c := c1) Try.underlying3 r1
    obtain ⟨v2, rfl, k2⟩ := rd_int (c := c2) Try.underlying3 r2
    exact ⟨v0, v1, v2, rfl, i64_le k0, i64_le k1, i64_le k2⟩
end
end Go.Proofs.Ythkopgmkdenebaa
