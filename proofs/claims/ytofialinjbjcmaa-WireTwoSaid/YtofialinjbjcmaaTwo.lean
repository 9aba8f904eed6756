/- WireTwo: four things that lie apart; what a step of one leaves of the others. -/
import Derived.Test.YtofialinjbjcmaaWorkEnd
import Derived.Test.YtofialinjbjcmaaLookLaw
import Derived.Test.YtofialinjbjcmaaTwoArgs
namespace Go.Proofs.Ytofialinjbjcmaa
open Go.RowKit
set_option linter.unusedVariables false

def Disj (P Q : Nat → Prop) : Prop := ∀ b, P b → ¬ Q b
theorem Disj.symm {P Q : Nat → Prop} (h : Disj P Q) : Disj Q P := fun b h1 h2 => h b h2 h1
theorem Disj.step {P P' Q : Nat → Prop} {N : Nat} (h : Disj P Q) (hP : ∀ b, P' b → P b ∨ N ≤ b) (hQ : ∀ b, Q b → b < N) : Disj P' Q := fun b h1 h2 => by
  rcases hP b h1 with h3 | h3
  · exact h b h3 h2
  · have := hQ b h2; omega
theorem two_cells {w : World} {p : Nat} {v0 v1 : Value} {T : TypeId} (h : w.heap[p]? = some (.cells #[v0, v1] T)) :
    w.cell? ⟨p, 0, none⟩ = some v0 ∧ w.cell? ⟨p, 1, none⟩ = some v1 ∧ (∀ k, w.frozen? ⟨p, k, none⟩ = false) := by
  simp [World.cell?, World.frozen?, h]
theorem two_lt {w : World} {p : Nat} {o : Obj} (h : w.heap[p]? = some o) : p < w.heap.size := lt_of_heap h
theorem two_set0 {w : World} {p : Nat} {v0 v1 : Value} {T : TypeId} (h : w.heap[p]? = some (.cells #[v0, v1] T)) (u : Value) : (w.setCell ⟨p, 0, none⟩ u).heap[p]? = some (.cells #[u, v1] T) := by
  rw [setCell_eq_setRow w p 0 _ T (0, 0) u h, setRow_heap w p _ _ T (0, 0) h]; rfl
theorem two_set1 {w : World} {p : Nat} {v0 v1 : Value} {T : TypeId} (h : w.heap[p]? = some (.cells #[v0, v1] T)) (u : Value) : (w.setCell ⟨p, 1, none⟩ u).heap[p]? = some (.cells #[v0, u] T) := by
  rw [setCell_eq_setRow w p 1 _ T (0, 0) u h, setRow_heap w p _ _ T (0, 0) h]; rfl
theorem two_other {w : World} {p q k : Nat} (h : p ≠ q) (u : Value) : (w.setCell ⟨q, k, none⟩ u).heap[p]? = w.heap[p]? := Below.heap_setCell _ _ _ _ (by show p ≠ q; exact h)

/-- a list of calls, cut at 300 -/
structure Scr where
  (a : Option Addr) (len n cap : Nat) (os : List Op2)
def Scr.ok (s : Scr) (w : World) : Prop := s.os.length = s.n ∧ OpsAt w.heap.size w s.a s.os ∧ s.n ≤ 300 ∧ s.n ≤ s.cap ∧ (if (300 : Int) < (s.len : Int) then (300 : Int) else (s.len : Int)) = (s.n : Int)
theorem Scr.of {w : World} {a : Option Addr} {len cap : Nat} (hr : IsOps w a len) (hl : len ≤ cap) : ∃ s : Scr, s.a = a ∧ s.len = len ∧ s.cap = cap ∧ s.ok w := by
  obtain ⟨os, h1, h2⟩ := hr.list
  by_cases h : len ≤ 300
  · exact ⟨⟨a, len, len, cap, os⟩, rfl, rfl, rfl, h1, h2, h, hl, if_neg (by show ¬ ((300 : Int) < (len : Int)); omega)⟩
  · exact ⟨⟨a, len, 300, cap, os.take 300⟩, rfl, rfl, rfl, by show (os.take 300).length = 300; rw [List.length_take]; omega, h2.take 300, Nat.le_refl _, by show 300 ≤ cap; omega, if_pos (by show (300 : Int) < (len : Int); omega)⟩

/-- the first loop: the scripts are cut -/
def RelT1 (w0 : World) (ms : Value × Value) (s0 s1 : Scr) (i : Value) (wr : World) : Prop :=
  ∃ j : Nat, j ≤ 2 ∧ i = .int .i64 j ∧ wr.heap.size = w0.heap.size + 2 ∧ Below w0.heap.size w0 wr ∧ wr.heap[w0.heap.size]? = some (.cells #[ms.1, ms.2] 60) ∧
    wr.heap[w0.heap.size + 1]? = some (.cells #[.slice s0.a (if 0 < j then s0.n else s0.len) s0.cap, .slice s1.a (if 1 < j then s1.n else s1.len) s1.cap] 61)

/-- the second loop: two works are made -/
def RelT2 (W : World) (m0 m1 : Int) (i : Value) (wr : World) : Prop :=
  ∃ (j : Nat) (p0 p1 : Value), j ≤ 2 ∧ i = .int .i64 j ∧ wr.heap[W.heap.size]? = some (.cells #[p0, p1] 63) ∧ Chg (fun k => k = W.heap.size) (W.alloc (.cells #[.pointer none, .pointer none] 63)) wr ∧ (j < 1 → p0 = .pointer none) ∧ (j < 2 → p1 = .pointer none) ∧
    (0 < j → ∃ (x : Nat) (d : Duo), p0 = .pointer (some ⟨x, 0, none⟩) ∧ IsDuo (PW (WS.new m0)) (PW (WS.new m0)) True (W.heap.size + 1) wr x d ∧ d.es = []) ∧
    (1 < j → ∃ (x y : Nat) (d e : Duo), p0 = .pointer (some ⟨x, 0, none⟩) ∧ p1 = .pointer (some ⟨y, 0, none⟩) ∧ IsDuo (PW (WS.new m0)) (PW (WS.new m0)) True (W.heap.size + 1) wr x d ∧ IsDuo (PW (WS.new m1)) (PW (WS.new m1)) True (W.heap.size + 1) wr y e ∧ d.es = [] ∧ e.es = [] ∧ Disj (Own d x) (Own e y))
theorem IsDuo.weak {P1 P2 : Nat → Option Nat → World → Prop} {lv : Prop} {B B' x : Nat} {w : World} {d : Duo} (h : IsDuo P1 P2 lv B w x d) (hB : B' ≤ B) : IsDuo P1 P2 lv B' w x d :=
  ⟨h.1, h.2.1, h.2.2.1, h.2.2.2.1, h.2.2.2.2.1, h.2.2.2.2.2.1, fun b hb => ⟨Nat.le_trans hB (h.lt hb).1, (h.lt hb).2⟩⟩
theorem two_made {wr u1 u2 : World} {xb k : Nat} {s : WS} (hxb : xb < wr.heap.size) (hW1 : IsW u1 wr.heap.size none 0 s) (hB1 : Below wr.heap.size wr u1) (hW2 : IsW u2 u1.heap.size none 0 s) (hB2 : Below u1.heap.size u1 u2) (v : Value) :
    IsDuo (PW s) (PW s) True wr.heap.size ((u2.alloc (.cells #[.pointer (some ⟨wr.heap.size, 0, none⟩), .pointer (some ⟨u1.heap.size, 0, none⟩), .slice none 0 0] 31)).setCell ⟨xb, k, none⟩ v) u2.heap.size ⟨wr.heap.size, u1.heap.size, none, none, none, 0, []⟩ ∧
      Chg (fun k => k = xb) wr ((u2.alloc (.cells #[.pointer (some ⟨wr.heap.size, 0, none⟩), .pointer (some ⟨u1.heap.size, 0, none⟩), .slice none 0 0] 31)).setCell ⟨xb, k, none⟩ v) := by
  have h := duo_new hW1 hB1 hW2 hB2 wr.heap.size (Nat.le_refl _)
  have hb := hB1.trans (hB2.mono hB1.size)
  exact ⟨h.chg (PW.stable s) (PW.stable s) (Chg.set _ ⟨xb, k, none⟩ v) fun b hb e => by have := (h.lt hb).1; have e2 : b = xb := e; omega,
    (((Chg.of_below hb : Chg (fun k => k = xb) wr u2).alloc _).setCell _ _ fun _ => rfl)⟩
theorem relT2_one {W wr u1 u2 : World} {m0 m1 : Int} {p0 : Value} (hW : W.heap.size + 1 ≤ wr.heap.size) (hx : wr.heap[W.heap.size]? = some (.cells #[p0, .pointer none] 63)) (hC : Chg (fun k => k = W.heap.size) (W.alloc (.cells #[.pointer none, .pointer none] 63)) wr)
    (hW1 : IsW u1 wr.heap.size none 0 (WS.new m0)) (hB1 : Below wr.heap.size wr u1) (hW2 : IsW u2 u1.heap.size none 0 (WS.new m0)) (hB2 : Below u1.heap.size u1 u2) :
    RelT2 W m0 m1 (.int .i64 1) ((u2.alloc (.cells #[.pointer (some ⟨wr.heap.size, 0, none⟩), .pointer (some ⟨u1.heap.size, 0, none⟩), .slice none 0 0] 31)).setCell ⟨W.heap.size, 0, none⟩ (.pointer (some ⟨u2.heap.size, 0, none⟩))) := by
  obtain ⟨h1, h2⟩ := two_made (k := 0) (show W.heap.size < wr.heap.size by omega) hW1 hB1 hW2 hB2 (.pointer (some ⟨u2.heap.size, 0, none⟩))
  have hb := hB1.trans (hB2.mono hB1.size)
  refine ⟨1, _, _, by omega, rfl, two_set0 (((hb.alloc hb.size _).block _ (by omega)).trans hx) _, hC.trans h2 fun _ _ h => h, fun h => absurd h (by omega), fun _ => rfl, fun _ => ⟨_, _, rfl, h1.weak hW, rfl⟩, fun h => absurd h (by omega)⟩
theorem relT2_two {W wr u1 u2 : World} {m0 m1 : Int} {x : Nat} {d : Duo} {p1 : Value} (hW : W.heap.size + 1 ≤ wr.heap.size) (hx : wr.heap[W.heap.size]? = some (.cells #[.pointer (some ⟨x, 0, none⟩), p1] 63)) (hC : Chg (fun k => k = W.heap.size) (W.alloc (.cells #[.pointer none, .pointer none] 63)) wr)
    (hI : IsDuo (PW (WS.new m0)) (PW (WS.new m0)) True (W.heap.size + 1) wr x d) (he : d.es = [])
    (hW1 : IsW u1 wr.heap.size none 0 (WS.new m1)) (hB1 : Below wr.heap.size wr u1) (hW2 : IsW u2 u1.heap.size none 0 (WS.new m1)) (hB2 : Below u1.heap.size u1 u2) :
    RelT2 W m0 m1 (.int .i64 2) ((u2.alloc (.cells #[.pointer (some ⟨wr.heap.size, 0, none⟩), .pointer (some ⟨u1.heap.size, 0, none⟩), .slice none 0 0] 31)).setCell ⟨W.heap.size, 1, none⟩ (.pointer (some ⟨u2.heap.size, 0, none⟩))) := by
  obtain ⟨h1, h2⟩ := two_made (k := 1) (show W.heap.size < wr.heap.size by omega) hW1 hB1 hW2 hB2 (.pointer (some ⟨u2.heap.size, 0, none⟩))
  have hb := hB1.trans (hB2.mono hB1.size)
  have hI2 := hI.chg (PW.stable _) (PW.stable _) h2 fun b hb e => by have := (hI.lt hb).1; omega
  refine ⟨2, _, _, by omega, rfl, two_set1 (((hb.alloc hb.size _).block _ (by omega)).trans hx) _, hC.trans h2 fun _ _ h => h, fun h => absurd h (by omega), fun h => absurd h (by omega), fun _ => ⟨_, _, rfl, hI2, he⟩, fun _ => ⟨_, _, _, _, rfl, rfl, hI2, h1.weak hW, he, rfl, fun b hb1 hb2 => ?_⟩⟩
  have := (hI.lt hb1).2
  have := (h1.lt hb2).1
  omega

/-- the two works, side by side, and what stands beside them -/
structure PrAt (w0 : World) (B xb sb ab x0 x1 : Nat) (c0 c1 : Scr) (wr : World) (t0 t1 : WS) (d0 d1 : Duo) : Prop where
  i0 : IsDuo (PW t0) (PW t0) True B wr x0 d0
  i1 : IsDuo (PW t1) (PW t1) True B wr x1 d1
  dj : Disj (Own d0 x0) (Own d1 x1)
  n0 : ¬ Own d0 x0 ab
  n1 : ¬ Own d1 x1 ab
  lt : ab < wr.heap.size
  bel : Below w0.heap.size w0 wr
  hx : wr.heap[xb]? = some (.cells #[.pointer (some ⟨x0, 0, none⟩), .pointer (some ⟨x1, 0, none⟩)] 63)
  hs : wr.heap[sb]? = some (.cells #[.slice c0.a c0.n c0.cap, .slice c1.a c1.n c1.cap] 61)
  xB : xb < B
  sB : sb < B
  aB : B ≤ ab
  hB : B ≤ wr.heap.size
  wB : w0.heap.size ≤ B
section
variable {w0 wr w' : World} {B xb sb ab x0 x1 : Nat} {c0 c1 : Scr} {t0 t1 : WS} {d0 d1 : Duo}
theorem PrAt.chg (h : PrAt w0 B xb sb ab x0 x1 c0 c1 wr t0 t1 d0 d1) {F : Nat → Prop} (hc : Chg F wr w') (h0 : ∀ b, Own d0 x0 b → ¬ F b) (h1 : ∀ b, Own d1 x1 b → ¬ F b) (hF : ∀ b, F b → B ≤ b) : PrAt w0 B xb sb ab x0 x1 c0 c1 w' t0 t1 d0 d1 where
  i0 := h.i0.chg (PW.stable _) (PW.stable _) hc h0
  i1 := h.i1.chg (PW.stable _) (PW.stable _) hc h1
  dj := h.dj
  n0 := h.n0
  n1 := h.n1
  lt := Nat.lt_of_lt_of_le h.lt hc.size
  bel := h.bel.trans ((hc.below h.hB hF).mono h.wB)
  hx := (hc.block _ (Nat.lt_of_lt_of_le h.xB h.hB) fun f => by have := hF _ f; have := h.xB; omega).trans h.hx
  hs := (hc.block _ (Nat.lt_of_lt_of_le h.sB h.hB) fun f => by have := hF _ f; have := h.sB; omega).trans h.hs
  xB := h.xB
  sB := h.sB
  aB := h.aB
  hB := Nat.le_trans h.hB hc.size
  wB := h.wB
theorem PrAt.below (h : PrAt w0 B xb sb ab x0 x1 c0 c1 wr t0 t1 d0 d1) (hb : Below wr.heap.size wr w') : PrAt w0 B xb sb ab x0 x1 c0 c1 w' t0 t1 d0 d1 := h.chg (F := fun _ => False) (Chg.of_below hb) (fun _ _ f => f) (fun _ _ f => f) fun _ f => f.elim
theorem PrAt.tick (h : PrAt w0 B xb sb ab x0 x1 c0 c1 wr t0 t1 d0 d1) (k : Nat) (v : Value) : PrAt w0 B xb sb ab x0 x1 c0 c1 (wr.setCell ⟨ab, k, none⟩ v) t0 t1 d0 d1 :=
  h.chg (Chg.set wr ⟨ab, k, none⟩ v) (fun b hb e => h.n0 (by have e2 : b = ab := e; rw [← e2]; exact hb)) (fun b hb e => h.n1 (by have e2 : b = ab := e; rw [← e2]; exact hb)) fun b e => by have e2 : b = ab := e; rw [e2]; exact h.aB
theorem PrAt.step0 (h : PrAt w0 B xb sb ab x0 x1 c0 c1 wr t0 t1 d0 d1) {n : Nat} (hb : Both True B wr x0 d0 n w') : ∃ t0' d0', PrAt w0 B xb sb ab x0 x1 c0 c1 w' t0' t1 d0' d1 ∧ d0'.es.length ≤ n ∧ Chg (Own d0 x0) wr w' := by
  obtain ⟨t', d', hI, hS, hn⟩ := hb
  have hF : ∀ b, Own d0 x0 b → B ≤ b := fun b hb => (h.i0.lt hb).1
  exact ⟨t', d', ⟨hI, h.i1.chg (PW.stable _) (PW.stable _) hS.1 fun b h1 h0 => h.dj b h0 h1, h.dj.step hS.2 fun b hb => (h.i1.lt hb).2, fun e => (hS.2 _ e).elim h.n0 fun e => by have := h.lt; omega, h.n1, Nat.lt_of_lt_of_le h.lt hS.1.size, h.bel.trans ((hS.1.below h.hB hF).mono h.wB),
    (hS.1.block _ (Nat.lt_of_lt_of_le h.xB h.hB) fun f => by have := hF _ f; have := h.xB; omega).trans h.hx, (hS.1.block _ (Nat.lt_of_lt_of_le h.sB h.hB) fun f => by have := hF _ f; have := h.sB; omega).trans h.hs, h.xB, h.sB, h.aB, Nat.le_trans h.hB hS.1.size, h.wB⟩, hn, hS.1⟩
theorem PrAt.step1 (h : PrAt w0 B xb sb ab x0 x1 c0 c1 wr t0 t1 d0 d1) {n : Nat} (hb : Both True B wr x1 d1 n w') : ∃ t1' d1', PrAt w0 B xb sb ab x0 x1 c0 c1 w' t0 t1' d0 d1' ∧ d1'.es.length ≤ n ∧ Chg (Own d1 x1) wr w' := by
  obtain ⟨t', d', hI, hS, hn⟩ := hb
  have hF : ∀ b, Own d1 x1 b → B ≤ b := fun b hb => (h.i1.lt hb).1
  exact ⟨t', d', ⟨h.i0.chg (PW.stable _) (PW.stable _) hS.1 fun b h1 h0 => h.dj b h1 h0, hI, (h.dj.symm.step hS.2 fun b hb => (h.i0.lt hb).2).symm, h.n0, fun e => (hS.2 _ e).elim h.n1 fun e => by have := h.lt; omega, Nat.lt_of_lt_of_le h.lt hS.1.size, h.bel.trans ((hS.1.below h.hB hF).mono h.wB),
    (hS.1.block _ (Nat.lt_of_lt_of_le h.xB h.hB) fun f => by have := hF _ f; have := h.xB; omega).trans h.hx, (hS.1.block _ (Nat.lt_of_lt_of_le h.sB h.hB) fun f => by have := hF _ f; have := h.sB; omega).trans h.hs, h.xB, h.sB, h.aB, Nat.le_trans h.hB hS.1.size, h.wB⟩, hn, hS.1⟩
end
/-- the third loop: the works write in turns -/
def RelT3 (w0 : World) (B xb sb ab x0 x1 : Nat) (c0 c1 : Scr) (lt : Nat) (i : Value) (wr : World) : Prop :=
  ∃ (j k0 k1 : Nat) (t0 t1 : WS) (d0 d1 : Duo), j ≤ lt ∧ i = .int .i64 j ∧ k0 ≤ c0.n ∧ k1 ≤ c1.n ∧ wr.heap[ab]? = some (.cells #[.int .i64 k0, .int .i64 k1] 60) ∧ PrAt w0 B xb sb ab x0 x1 c0 c1 wr t0 t1 d0 d1 ∧ d0.es.length ≤ k0 ∧ d1.es.length ≤ k1

/-- two works and two looks, side by side -/
structure FourAt (w0 : World) (B xb x0 x1 f g : Nat) (wr : World) (t0 t1 : WS) (d0 d1 : Duo) (r1 r2 : RS) (l1 l2 : Duo) : Prop where
  i0 : IsDuo (PW t0) (PW t0) True B wr x0 d0
  i1 : IsDuo (PW t1) (PW t1) True B wr x1 d1
  jf : IsDuo (PR r1) (PQ r1) True B wr f l1
  jg : IsDuo (PR r2) (PQ r2) True B wr g l2
  d01 : Disj (Own d0 x0) (Own d1 x1)
  d0f : Disj (Own d0 x0) (Own l1 f)
  d0g : Disj (Own d0 x0) (Own l2 g)
  d1f : Disj (Own d1 x1) (Own l1 f)
  d1g : Disj (Own d1 x1) (Own l2 g)
  dfg : Disj (Own l1 f) (Own l2 g)
  bel : Below w0.heap.size w0 wr
  hx : wr.heap[xb]? = some (.cells #[.pointer (some ⟨x0, 0, none⟩), .pointer (some ⟨x1, 0, none⟩)] 63)
  xB : xb < B
  hB : B ≤ wr.heap.size
  wB : w0.heap.size ≤ B
section
variable {w0 wr w' : World} {B xb x0 x1 f g : Nat} {t0 t1 : WS} {d0 d1 l1 l2 : Duo} {r1 r2 : RS}
theorem FourAt.stepf (h : FourAt w0 B xb x0 x1 f g wr t0 t1 d0 d1 r1 r2 l1 l2) {n m : Nat} (hb : Look True B wr f l1 n m w') : ∃ r1' l1', FourAt w0 B xb x0 x1 f g w' t0 t1 d0 d1 r1' r2 l1' l2 ∧ l1'.es.length ≤ n ∧ r1'.rest.length ≤ m := by
  obtain ⟨r', l', hI, hS, hn, hm⟩ := hb
  have hF : ∀ b, Own l1 f b → B ≤ b := fun b hb => (h.jf.lt hb).1
  exact ⟨r', l', ⟨h.i0.chg (PW.stable _) (PW.stable _) hS.1 fun b h1 h0 => h.d0f b h1 h0, h.i1.chg (PW.stable _) (PW.stable _) hS.1 fun b h1 h0 => h.d1f b h1 h0, hI, h.jg.chg (PR.stable _) (PQ.stable _) hS.1 fun b h1 h0 => h.dfg b h0 h1,
    h.d01, (h.d0f.symm.step hS.2 fun b hb => (h.i0.lt hb).2).symm, h.d0g, (h.d1f.symm.step hS.2 fun b hb => (h.i1.lt hb).2).symm, h.d1g, h.dfg.step hS.2 fun b hb => (h.jg.lt hb).2, h.bel.trans ((hS.1.below h.hB hF).mono h.wB),
    (hS.1.block xb (Nat.lt_of_lt_of_le h.xB h.hB) fun e => by have := hF _ e; have := h.xB; omega).trans h.hx, h.xB, Nat.le_trans h.hB hS.1.size, h.wB⟩, hn, hm⟩
theorem FourAt.stepg (h : FourAt w0 B xb x0 x1 f g wr t0 t1 d0 d1 r1 r2 l1 l2) {n m : Nat} (hb : Look True B wr g l2 n m w') : ∃ r2' l2', FourAt w0 B xb x0 x1 f g w' t0 t1 d0 d1 r1 r2' l1 l2' ∧ l2'.es.length ≤ n ∧ r2'.rest.length ≤ m := by
  obtain ⟨r', l', hI, hS, hn, hm⟩ := hb
  have hF : ∀ b, Own l2 g b → B ≤ b := fun b hb => (h.jg.lt hb).1
  exact ⟨r', l', ⟨h.i0.chg (PW.stable _) (PW.stable _) hS.1 fun b h1 h0 => h.d0g b h1 h0, h.i1.chg (PW.stable _) (PW.stable _) hS.1 fun b h1 h0 => h.d1g b h1 h0, h.jf.chg (PR.stable _) (PQ.stable _) hS.1 fun b h1 h0 => h.dfg b h1 h0, hI,
    h.d01, h.d0f, (h.d0g.symm.step hS.2 fun b hb => (h.i0.lt hb).2).symm, h.d1f, (h.d1g.symm.step hS.2 fun b hb => (h.i1.lt hb).2).symm, (h.dfg.symm.step hS.2 fun b hb => (h.jf.lt hb).2).symm, h.bel.trans ((hS.1.below h.hB hF).mono h.wB),
    (hS.1.block xb (Nat.lt_of_lt_of_le h.xB h.hB) fun e => by have := hF _ e; have := h.xB; omega).trans h.hx, h.xB, Nat.le_trans h.hB hS.1.size, h.wB⟩, hn, hm⟩
end
/-- the fourth loop: the looks read in turns -/
def RelT4 (w0 : World) (B xb x0 x1 f g lt : Nat) (i : Value) (wr : World) : Prop :=
  ∃ (j : Nat) (t0 t1 : WS) (d0 d1 : Duo) (r1 r2 : RS) (l1 l2 : Duo), j ≤ lt ∧ i = .int .i64 j ∧ FourAt w0 B xb x0 x1 f g wr t0 t1 d0 d1 r1 r2 l1 l2 ∧ d0.es.length ≤ 300 ∧ d1.es.length ≤ 300 ∧ l1.es.length ≤ 0 ∧ l2.es.length ≤ 0 ∧ r1.rest.length ≤ 16777216 ∧ r2.rest.length ≤ 16777216
end Go.Proofs.Ytofialinjbjcmaa
