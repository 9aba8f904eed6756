/- Pages: as plain data, and in memory; an argument that is a page. -/
import Derived.Test.YtkjgncmbhkhbnaaDeep2
import Derived.Test.YtkjgncmbhkhbnaaSpare
namespace Go.Proofs.Ytkjgncmbhkhbnaa
open Go.ChangeShapes Go.WideShapes Go.ChangeAt Go.RowKit
set_option linter.unusedVariables false

structure PI where
  (key value : List UInt8) (child size : Int)
  deriving DecidableEq
structure PP where
  (kind level : Int) (items : List PI) (data : List UInt8) (next : Int)
  deriving DecidableEq
def i64ok (x : Int) : Prop := -9223372036854775808 ≤ x ∧ x ≤ 9223372036854775807

/-- a slice of bytes that is read; its block lies below B -/
def Sl (B : Nat) (w : World) (a : Option Addr) (c : Nat) (bs : List UInt8) : Prop :=
  Bts w a bs ∧ (bs = [] ∨ ∀ k, blk a = some k → k < B) ∧ bs.length ≤ 140737488351232 ∧ (a = none → c = 0)
/-- an item's four cells -/
def itc (x : PI) (ka : Option Addr) (kc : Nat) (va : Option Addr) (vc : Nat) : Array Value :=
  #[.slice ka x.key.length kc, .slice va x.value.length vc, .int .i64 x.child, .int .i64 x.size]
structure ItIn (B : Nat) (w : World) (b off : Nat) (x : PI) (ka : Option Addr) (kc : Nat) (va : Option Addr) (vc : Nat) : Prop where
  c0 : w.cell? ⟨b, off, none⟩ = some (.slice ka x.key.length kc)
  c1 : w.cell? ⟨b, off + 1, none⟩ = some (.slice va x.value.length vc)
  c2 : w.cell? ⟨b, off + 2, none⟩ = some (.int .i64 x.child)
  c3 : w.cell? ⟨b, off + 3, none⟩ = some (.int .i64 x.size)
  k : Sl B w ka kc x.key
  v : Sl B w va vc x.value
  ch : i64ok x.child
  sz : i64ok x.size
def ItAt (B : Nat) (w : World) (b off : Nat) (x : PI) : Prop := ∃ ka kc va vc, ItIn B w b off x ka kc va vc
def ItsAt (B : Nat) (w : World) (a : Option Addr) (xs : List PI) : Prop :=
  xs = [] ∨ ∃ b off, a = some ⟨b, off, none⟩ ∧ b < B ∧ ∀ i x, xs[i]? = some x → ItAt B w b (off + i * 4) x
/-- a page as a value -/
def pgv (p : PP) (ia : Option Addr) (ic : Nat) (da : Option Addr) (dc : Nat) : Value :=
  .agg #[.int .i64 p.kind, .int .i64 p.level, .slice ia p.items.length ic, .slice da p.data.length dc, .int .i64 p.next]
/-- a page that is read -/
structure PgAt (B : Nat) (w : World) (p : PP) (ia : Option Addr) (ic : Nat) (da : Option Addr) (dc : Nat) : Prop where
  its : ItsAt B w ia p.items
  len : p.items.length ≤ 9223372036854775807
  inil : ia = none → ic = 0
  data : Sl B w da dc p.data
  kd : i64ok p.kind
  lv : i64ok p.level
  nx : i64ok p.next

theorem Sl.below {B : Nat} {w w' : World} {a : Option Addr} {c : Nat} {bs : List UInt8} (h : Sl B w a c bs) (hc : Below B w w') : Sl B w' a c bs := by
  obtain ⟨h1, h2, h3, h4⟩ := h
  refine ⟨?_, h2, h3, h4⟩
  rcases h1 with h1 | ⟨b2, o2, e2, h5, h6⟩
  · exact .inl h1
  · by_cases hn : bs = []
    · exact .inl hn
    · have hlt : b2 < B := (h2.resolve_left hn) b2 (by rw [e2]; rfl)
      exact .inr ⟨b2, o2, e2, Nat.lt_of_lt_of_le h5 hc.size, fun i hi => (hc.cell (p := ⟨b2, o2 + i, none⟩) hlt).trans (h6 i hi)⟩
theorem Sl.mono {B C : Nat} {w : World} {a : Option Addr} {c : Nat} {bs : List UInt8} (h : Sl B w a c bs) (hc : B ≤ C) : Sl C w a c bs :=
  ⟨h.1, h.2.1.imp id fun g k hk => Nat.lt_of_lt_of_le (g k hk) hc, h.2.2⟩
theorem ItIn.below {B b off : Nat} {w w' : World} {x : PI} {ka : Option Addr} {kc : Nat} {va : Option Addr} {vc : Nat} (h : ItIn B w b off x ka kc va vc) (hb : b < B) (hc : Below B w w') : ItIn B w' b off x ka kc va vc := by
  have e : ∀ k, w'.cell? ⟨b, k, none⟩ = w.cell? ⟨b, k, none⟩ := fun k => hc.cell (p := ⟨b, k, none⟩) hb
  exact ⟨(e _).trans h.c0, (e _).trans h.c1, (e _).trans h.c2, (e _).trans h.c3, h.k.below hc, h.v.below hc, h.ch, h.sz⟩
theorem ItAt.below {B b off : Nat} {w w' : World} {x : PI} (h : ItAt B w b off x) (hb : b < B) (hc : Below B w w') : ItAt B w' b off x := by
  obtain ⟨ka, kc, va, vc, h⟩ := h
  exact ⟨ka, kc, va, vc, h.below hb hc⟩
theorem ItIn.mono {B C b off : Nat} {w : World} {x : PI} {ka : Option Addr} {kc : Nat} {va : Option Addr} {vc : Nat} (h : ItIn B w b off x ka kc va vc) (hc : B ≤ C) : ItIn C w b off x ka kc va vc :=
  ⟨h.c0, h.c1, h.c2, h.c3, h.k.mono hc, h.v.mono hc, h.ch, h.sz⟩
theorem ItsAt.below {B : Nat} {w w' : World} {a : Option Addr} {xs : List PI} (h : ItsAt B w a xs) (hc : Below B w w') : ItsAt B w' a xs := by
  rcases h with h | ⟨b, off, h1, h2, h3⟩
  · exact .inl h
  · exact .inr ⟨b, off, h1, h2, fun i x hi => (h3 i x hi).below h2 hc⟩
theorem ItsAt.mono {B C : Nat} {w : World} {a : Option Addr} {xs : List PI} (h : ItsAt B w a xs) (hc : B ≤ C) : ItsAt C w a xs := by
  rcases h with h | ⟨b, off, h1, h2, h3⟩
  · exact .inl h
  · exact .inr ⟨b, off, h1, Nat.lt_of_lt_of_le h2 hc, fun i x hi => by obtain ⟨ka, kc, va, vc, g⟩ := h3 i x hi; exact ⟨ka, kc, va, vc, g.mono hc⟩⟩
/-- the item at a place -/
theorem ItsAt.at {B : Nat} {w : World} {a : Option Addr} {xs : List PI} (h : ItsAt B w a xs) {i : Nat} {x : PI} (hi : xs[i]? = some x) : ∃ b off ka kc va vc, a = some ⟨b, off, none⟩ ∧ b < B ∧ ItIn B w b (off + i * 4) x ka kc va vc := by
  rcases h with rfl | ⟨b, off, h1, h2, h3⟩
  · simp at hi
  · obtain ⟨ka, kc, va, vc, g⟩ := h3 i x hi
    exact ⟨b, off, ka, kc, va, vc, h1, h2, g⟩
theorem PgAt.below {B : Nat} {w w' : World} {p : PP} {ia : Option Addr} {ic : Nat} {da : Option Addr} {dc : Nat} (h : PgAt B w p ia ic da dc) (hc : Below B w w') : PgAt B w' p ia ic da dc :=
  ⟨h.its.below hc, h.len, h.inil, h.data.below hc, h.kd, h.lv, h.nx⟩
theorem PgAt.mono {B C : Nat} {w : World} {p : PP} {ia : Option Addr} {ic : Nat} {da : Option Addr} {dc : Nat} (h : PgAt B w p ia ic da dc) (hc : B ≤ C) : PgAt C w p ia ic da dc :=
  ⟨h.its.mono hc, h.len, h.inil, h.data.mono hc, h.kd, h.lv, h.nx⟩

theorem cellsIt : Try.prog.cellsOf 64 = 4 := by kernel_rfl
theorem cellsPg : Try.prog.cellsOf 27 = 5 := by kernel_rfl

section
variable {H : Type} {enc : TypeId × Value → H}
/-- a slice of bytes, as the walks are told of it -/
theorem sl_of_row {w : World} {a : Option Addr} {len cap : Nat} {zs : List Int} (h : IsRow .u8 w a len cap zs) (hc : cap ≤ 140737488351232) : ∃ bs : List UInt8, bs.length = len ∧ Sl w.heap.size w a cap bs := by
  have hlc := h.len_cap
  have hnil := h.nil_cap
  obtain ⟨bs, rfl, hb⟩ := h.bts
  refine ⟨bs, rfl, hb, ?_, by omega, hnil⟩
  rcases hb with h | ⟨b, off, rfl, h2, _⟩
  · exact .inl h
  · exact .inr fun k hk => by cases hk; exact h2
theorem rd_sl {W : World} {n : Nat} {c : Value} {x : DataW H × List MemPlace} (h : Rd enc Try.prog W n 25 [c] = some x) (hz : ∀ q ∈ DataW.weights Try.prog 25 x.1, q ≤ reachBytes) :
    ∃ a cap bs, c = .slice a bs.length cap ∧ Sl W.heap.size W a cap bs := by
  obtain ⟨a, len, cap, zs, rfl, h1, h2⟩ := rd_bytes h hz
  obtain ⟨bs, rfl, hb⟩ := sl_of_row h1 h2
  exact ⟨a, cap, bs, rfl, hb⟩

set_option maxRecDepth 100000 in
theorem rd_items {W : World} {n : Nat} {c : Value} {x : DataW H × List MemPlace} (h : Rd enc Try.prog W n 24 [c] = some x) (hz : ∀ q ∈ DataW.weights Try.prog 24 x.1, q ≤ reachBytes) :
    ∃ (a : Option Addr) (cap : Nat) (xs : List PI), c = .slice a xs.length cap ∧ ItsAt W.heap.size W a xs ∧ xs.length ≤ 9223372036854775807 ∧ (a = none → cap = 0) := by
  rcases rd_elems Try.underlying24 h with h0 | ⟨ad, len, cap, m, hc, hl, hm, _, hel⟩
  · exact ⟨none, 0, [], h0, .inl rfl, by show 0 ≤ 9223372036854775807; omega, fun _ => rfl⟩
  · have hcell : ∀ i, i < cap → ∃ (x : PI) (ka : Option Addr) (kc : Nat) (va : Option Addr) (vc : Nat), Sl W.heap.size W ka kc x.key ∧ Sl W.heap.size W va vc x.value ∧ i64ok x.child ∧ i64ok x.size ∧
        W.cell? (ad.add (i * 4 + 0)) = some (.slice ka x.key.length kc) ∧ W.cell? (ad.add (i * 4 + 1)) = some (.slice va x.value.length vc) ∧ W.cell? (ad.add (i * 4 + 2)) = some (.int .i64 x.child) ∧ W.cell? (ad.add (i * 4 + 3)) = some (.int .i64 x.size) := by
      intro i hi
      obtain ⟨cs, y, hcl, hat, hrd, hw⟩ := hel i hi
      rw [cellsIt] at hcl hat
      obtain ⟨m2, _, hfl⟩ := rd_fields Try.underlying64 hrd
      match cs, hcl with
      | [c0, c1, c2, c3], _ =>
        obtain ⟨y0, r0, w0⟩ := hfl 0 _ rfl
        obtain ⟨y1, r1, w1⟩ := hfl 1 _ rfl
        obtain ⟨y2, r2, w2⟩ := hfl 2 _ rfl
        obtain ⟨y3, r3, _⟩ := hfl 3 _ rfl
        obtain ⟨ka, kc, ks, rfl, hk⟩ := rd_sl (c := c0) r0 (fun q hq => hz q (hw q (w0 q hq)))
        obtain ⟨va, vc, vs, rfl, hv⟩ := rd_sl (c := c1) r1 (fun q hq => hz q (hw q (w1 q hq)))
        obtain ⟨v2, rfl, k2⟩ := rd_int (c := c2) Try.underlying3 r2
        obtain ⟨v3, rfl, k3⟩ := rd_int (c := c3) Try.underlying3 r3
        exact ⟨⟨ks, vs, v2, v3⟩, ka, kc, va, vc, hk, hv, i64_le k2, i64_le k3, hat 0 (by omega), hat 1 (by omega), hat 2 (by omega), hat 3 (by omega)⟩
    by_cases h0 : len = 0
    · subst h0
      exact ⟨some ad, cap, [], hc, .inl rfl, by show 0 ≤ 9223372036854775807; omega, fun h => by cases h⟩
    obtain ⟨b, off, spot⟩ := ad
    obtain ⟨x0, _, _, _, _, _, _, _, _, e0, _⟩ := hcell 0 (by omega)
    have hspot : spot = none := by simpa [Addr.add] using World.cell?_spot e0
    subst hspot
    rw [add_none] at e0
    have hit : ∀ i, i < len → ∃ x : PI, ItAt W.heap.size W b (off + i * 4) x := by
      intro i hi
      obtain ⟨x, ka, kc, va, vc, g1, g2, g3, g4, e1, e2, e3, e4⟩ := hcell i (by omega)
      rw [add_none] at e1 e2 e3 e4
      exact ⟨x, ka, kc, va, vc, e1, by rw [Nat.add_assoc]; exact e2, by rw [Nat.add_assoc]; exact e3, by rw [Nat.add_assoc]; exact e4, g1, g2, g3, g4⟩
    refine ⟨_, cap, List.ofFn fun i : Fin len => Classical.choose (hit i i.2), by rw [List.length_ofFn]; exact hc, ?_, by rw [List.length_ofFn]; unfold maxLen at hm; omega, fun h => by cases h⟩
    refine .inr ⟨b, off, rfl, block_lt_of_cell e0, fun i x hi => ?_⟩
    rw [List.getElem?_ofFn] at hi
    by_cases hil : i < len
    · rw [dif_pos hil] at hi
      cases hi
      exact Classical.choose_spec (hit i hil)
    · rw [dif_neg hil] at hi; cases hi

set_option maxRecDepth 100000 in
theorem open_page {W : World} {b : Nat} {v : Value} {d : DataW H} {q : List MemPlace} (hv : Value.okWide Try.prog W .any b 27 v)
    (h : DataW.Trod enc Try.prog W 0 (fun _ => true) true 27 v d q) (hz : ∀ n ∈ DataW.weights Try.prog 27 d, n ≤ reachBytes) :
    ∃ p ia ic da dc, v = pgv p ia ic da dc ∧ PgAt W.heap.size W p ia ic da dc := by
  obtain ⟨cs, rfl, hsz⟩ := okWide_struct Try.underlying27 hv
  obtain ⟨l⟩ := cs
  obtain ⟨fuel, hf⟩ := h
  match l, hsz.trans cellsPg with
  | [c0, c1, c2, c3, c4], _ =>
    have hf' : Rd enc Try.prog W fuel 27 [c0, c1, c2, c3, c4] = some (d, q) := hf
    obtain ⟨m2, _, hfl⟩ := rd_fields Try.underlying27 hf'
    obtain ⟨y0, r0, _⟩ := hfl 0 _ rfl
    obtain ⟨y1, r1, _⟩ := hfl 1 _ rfl
    obtain ⟨y2, r2, w2⟩ := hfl 2 _ rfl
    obtain ⟨y3, r3, w3⟩ := hfl 3 _ rfl
    obtain ⟨y4, r4, _⟩ := hfl 4 _ rfl
    obtain ⟨v0, rfl, k0⟩ := rd_int (c := c0) Try.underlying3 r0
    obtain ⟨v1, rfl, k1⟩ := rd_int (c := c1) Try.underlying3 r1
    obtain ⟨ia, ic, xs, rfl, hi, hl, hn⟩ := rd_items (c := c2) r2 (fun q hq => hz q (w2 q hq))
    obtain ⟨da, dc, ds, rfl, hd⟩ := rd_sl (c := c3) r3 (fun q hq => hz q (w3 q hq))
    obtain ⟨v4, rfl, k4⟩ := rd_int (c := c4) Try.underlying3 r4
    exact ⟨⟨v0, v1, xs, ds, v4⟩, ia, ic, da, dc, rfl, hi, hl, hn, hd, i64_le k0, i64_le k1, i64_le k4⟩
end
end Go.Proofs.Ytkjgncmbhkhbnaa
