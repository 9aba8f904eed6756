/- The walk of Apart: lists that share no memory. -/
import Derived.Test.YtkjgncmbhkhbnaaSpare
import Derived.Test.YtkjgncmbhkhbnaaApp
namespace Go.Proofs.Ytkjgncmbhkhbnaa
open Go.RowKit
set_option linter.unusedVariables false

/-- a list of which only its address, its room and its length are told -/
structure Lst where
  (oa : Option Addr) (cap n : Nat)
def Lst.val (e : Lst) : Value := .slice e.oa e.n e.cap
/-- the blocks of lists -/
def mine (es : List Lst) (k : Nat) : Prop := ∃ e ∈ es, blk e.oa = some k
/-- no two of them share a block -/
def SepL (es : List Lst) : Prop := ∀ (i j : Nat) (e f : Lst), es[i]? = some e → es[j]? = some f → i ≠ j → ∀ k, blk e.oa = some k → ¬ blk f.oa = some k
/-- a row of lists that is read -/
def LRow (w : World) (a : Option Addr) (es : List Lst) : Prop := es = [] ∨ ∃ b off, a = some ⟨b, off, none⟩ ∧ b < w.heap.size ∧ ∀ i e, es[i]? = some e → w.cell? ⟨b, off + i, none⟩ = some e.val
theorem LRow.chg {F : Nat → Prop} {w w' : World} {a : Option Addr} {es : List Lst} (h : LRow w a es) (hc : Chg F w w') (hn : ∀ k, blk a = some k → ¬ F k) : LRow w' a es := by
  rcases h with h | ⟨b, off, rfl, h2, h3⟩
  · exact .inl h
  · exact .inr ⟨b, off, rfl, Nat.lt_of_lt_of_le h2 hc.size, fun i e hi => (hc.cell (p := ⟨b, off + i, none⟩) h2 (hn b rfl)).trans (h3 i e hi)⟩
theorem LRow.at {w : World} {a : Option Addr} {es : List Lst} (h : LRow w a es) {i : Nat} {e : Lst} (hi : es[i]? = some e) : ∃ b off, a = some ⟨b, off, none⟩ ∧ w.cell? ⟨b, off + i, none⟩ = some (.slice e.oa e.n e.cap) := by
  rcases h with rfl | ⟨b, off, h1, h2, h3⟩
  · simp at hi
  · exact ⟨b, off, h1, h3 i e hi⟩
/-- cells that are read -/
def Vts (w : World) (oa : Option Addr) (cs : List Value) : Prop := cs = [] ∨ ∃ g, oa = some ⟨g, 0, none⟩ ∧ g < w.heap.size ∧ ∀ j u, cs[j]? = some u → w.cell? ⟨g, j, none⟩ = some u
theorem Vts.chg {F : Nat → Prop} {w w' : World} {oa : Option Addr} {cs : List Value} (h : Vts w oa cs) (hc : Chg F w w') (hn : ∀ k, blk oa = some k → ¬ F k) : Vts w' oa cs := by
  rcases h with h | ⟨g, rfl, h2, h3⟩
  · exact .inl h
  · exact .inr ⟨g, rfl, Nat.lt_of_lt_of_le h2 hc.size, fun j u hj => (hc.cell (p := ⟨g, j, none⟩) h2 (hn g rfl)).trans (h3 j u hj)⟩
theorem Vts.alloc {w : World} {oa : Option Addr} {cs : List Value} (h : Vts w oa cs) (o : Obj) : Vts (w.alloc o) oa cs := h.chg (F := fun _ => False) ((Chg.refl _ w).alloc o) (fun _ _ f => f)
theorem OR.vts_low {E : Elt} {w : World} {oa : Option Addr} {cap n : Nat} {cs r l : List Value} (h : OR E w oa cap n l) (e : l = cs ++ r) : Vts w oa cs := by
  subst e
  rcases h.form.2 with ⟨_, _, _, h0⟩ | ⟨g, rfl, hg, _⟩
  · exact .inl (List.append_eq_nil_iff.1 h0).1
  · refine .inr ⟨g, rfl, hg, fun j u hj => ?_⟩
    obtain ⟨g', e, hc, _⟩ := h.cell (j := j) (u := u) (by rw [List.getElem?_append_left (List.getElem?_eq_some_iff.1 hj).1]; exact hj)
    cases e
    exact hc
theorem OR.same_addr {E E' : Elt} {w w' : World} {oa oa' : Option Addr} {cap cap' n n' : Nat} {cs cs' : List Value} (h : OR E w oa cap n cs) (h' : OR E' w' oa' cap' n' cs') (e : blk oa = blk oa') : oa = oa' := by
  rcases h.form.2 with ⟨rfl, _⟩ | ⟨g, rfl, _⟩
  · rcases h'.form.2 with ⟨rfl, _⟩ | ⟨g', rfl, _⟩
    · rfl
    · cases e
  · rcases h'.form.2 with ⟨rfl, _⟩ | ⟨g', rfl, _⟩
    · cases e
    · cases e; rfl
theorem OR.cap_le {E : Elt} {w : World} {oa : Option Addr} {cap n : Nat} {cs : List Value} (h : OR E w oa cap n cs) : n ≤ cap ∧ cap ≤ maxLen := by
  rcases h.form.2 with ⟨_, rfl, rfl, _⟩ | ⟨g, _, _, h1, h2, _⟩
  · exact ⟨Nat.le_refl _, Nat.zero_le _⟩
  · exact ⟨h1, h2⟩

namespace ApB
def eLB : Elt := { t := 41, e := 25, size := 1, bytes := 24, z := .slice none 0 0, hu := Try.underlying41, hi := by kernel_rfl, hz := rfl, h0 := by decide }
def pv (i k : Nat) : Value := .int .u8 (((i : Int) * 31 + (k : Int) * 7 + 1) % 256)
def pat (i n : Nat) : List Value := (List.range n).map (pv i)
theorem pat_length (i n : Nat) : (pat i n).length = n := by simp [pat]
theorem pat_get {i n k : Nat} (h : k < n) : (pat i n)[k]? = some (pv i k) := by simp [pat, h]
theorem pat_snoc (i n : Nat) : pat i (n + 1) = pat i n ++ [pv i n] := by simp [pat, List.range_succ]
theorem pat_low (i n k : Nat) : ∃ r, pat i (n + k) = pat i n ++ r := by
  induction k with
  | zero => exact ⟨[], by simp⟩
  | succ k ih =>
    obtain ⟨r, hr⟩ := ih
    exact ⟨r ++ [pv i (n + k)], by rw [← Nat.add_assoc, pat_snoc, hr, List.append_assoc]⟩
theorem pv_one (i k : Nat) : (pv i k).oneCell' = true := rfl

def RelA (w0 : World) (es : List Lst) (i : Value) (wr : World) : Prop :=
  ∃ j : Nat, j ≤ es.length ∧ i = .int .i64 j ∧ (∀ m e, es[m]? = some e → ∃ cs, OR eB wr e.oa e.cap e.n cs ∧ (m < j → cs = pat m e.n)) ∧ Chg (mine es) w0 wr
def RelA2 (wi : World) (e : Lst) (j : Nat) (i : Value) (wr : World) : Prop :=
  ∃ (k : Nat) (cs : List Value), k ≤ e.n ∧ i = .int .i64 k ∧ OR eB wr e.oa e.cap e.n cs ∧ cs.take k = (pat j e.n).take k ∧ Chg (fun b => blk e.oa = some b) wi wr
theorem relA_next {w0 wi wr : World} {es : List Lst} {j : Nat} {e : Lst} {cs : List Value} (hs : SepL es) (he : es[j]? = some e) (hA : ∀ m e, es[m]? = some e → ∃ cs, OR eB wi e.oa e.cap e.n cs ∧ (m < j → cs = pat m e.n)) (hC : Chg (mine es) w0 wi)
    (hO : OR eB wr e.oa e.cap e.n cs) (ht : cs = pat j e.n) (hC2 : Chg (fun b => blk e.oa = some b) wi wr) : RelA w0 es (.int .i64 ((j + 1 : Nat) : Int)) wr := by
  refine ⟨j + 1, (List.getElem?_eq_some_iff.1 he).1, rfl, fun m f hf => ?_, hC.trans hC2 (fun b _ h => ⟨e, List.mem_of_getElem? he, h⟩)⟩
  by_cases hm : m = j
  · subst hm
    rw [he] at hf; cases hf
    exact ⟨cs, hO, fun _ => ht⟩
  · obtain ⟨c2, h1, h2⟩ := hA m f hf
    exact ⟨c2, h1.chg hC2 (fun k hk h => hs m j f e hf he hm k hk h), fun h => h2 (by omega)⟩

def RelG (w0 : World) (es : List Lst) (g i : Value) (wr : World) : Prop :=
  ∃ (j : Nat) (ga : Option Addr) (cg : Nat) (es2 : List Lst), j ≤ es.length ∧ i = .int .i64 j ∧ g = .slice ga j cg ∧ OR eLB wr ga cg j (es2.map Lst.val) ∧ es2.length = j ∧ (∀ b, blk ga = some b → w0.heap.size ≤ b) ∧
    (∀ m e, es[m]? = some e → (j ≤ m → OR eB wr e.oa e.cap e.n (pat m e.n)) ∧ (m < j → ∃ f, es2[m]? = some f ∧ f.n = e.n + 20 ∧ OR eB wr f.oa f.cap (e.n + 20) (pat m (e.n + 20)) ∧ Vts wr e.oa (pat m e.n) ∧ ∀ b, blk f.oa = some b → blk e.oa = some b ∨ (w0.heap.size ≤ b ∧ blk ga ≠ some b))) ∧ Chg (mine es) w0 wr
def RelG2 (wi : World) (e : Lst) (j : Nat) (g i : Value) (wr : World) : Prop :=
  ∃ (k : Nat) (oa : Option Addr) (cap : Nat), k ≤ 20 ∧ i = .int .i64 k ∧ g = .slice oa (e.n + k) cap ∧ OR eB wr oa cap (e.n + k) (pat j (e.n + k)) ∧ (oa = e.oa ∨ (Vts wr e.oa (pat j e.n) ∧ ∀ b, blk oa = some b → wi.heap.size ≤ b)) ∧ Chg (fun b => blk e.oa = some b) wi wr
theorem relG2_next {wi wr w2 : World} {e : Lst} {j k cap2 : Nat} {oa oa2 : Option Addr} (hk : k < 20) (hlt : ∀ b, blk e.oa = some b → b < wi.heap.size) (hd : oa = e.oa ∨ (Vts wr e.oa (pat j e.n) ∧ ∀ b, blk oa = some b → wi.heap.size ≤ b)) (hC : Chg (fun b => blk e.oa = some b) wi wr) {cap : Nat} (hO : OR eB wr oa cap (e.n + k) (pat j (e.n + k)))
    (hO2 : OR eB w2 oa2 cap2 (e.n + k + 1) (pat j (e.n + k) ++ [pv j (e.n + k)])) {o : Obj} (hC2 : Chg (fun b => blk oa = some b) (wr.alloc o) w2) (hb : blk oa2 = blk oa ∨ (blk oa2 = some (wr.alloc o).heap.size ∧ Chg (fun _ => False) (wr.alloc o) w2)) {i : Value} (hi : i = .int .i64 ((k + 1 : Nat) : Int)) : RelG2 wi e j (.slice oa2 (e.n + k + 1) cap2) i w2 := by
  subst hi
  have hCa : Chg (fun b => blk e.oa = some b) wi (wr.alloc o) := hC.alloc o
  obtain ⟨r, hr⟩ := pat_low j e.n k
  have hV : Vts wr e.oa (pat j e.n) := by
    rcases hd with rfl | ⟨h1, _⟩
    · exact hO.vts_low hr
    · exact h1
  refine ⟨k + 1, oa2, cap2, hk, rfl, rfl, by rw [← Nat.add_assoc, pat_snoc]; exact hO2, ?_, hCa.trans hC2 fun b hb1 h => ?_⟩
  · rcases hb with h | ⟨h, hC3⟩
    · rcases hd with rfl | ⟨_, h2⟩
      · exact .inl (hO2.same_addr hO h)
      · refine .inr ⟨(hV.alloc o).chg hC2 fun b h1 h3 => ?_, fun b h1 => h2 b (by rw [← h]; exact h1)⟩
        have := h2 b h3
        have := hlt b h1
        omega
    · exact .inr ⟨(hV.alloc o).chg hC3 fun _ _ f => f, fun b h1 => by rw [h] at h1; cases h1; exact Nat.le_trans hC.size (by simp)⟩
  · rcases hd with rfl | ⟨_, h2⟩
    · exact h
    · have := h2 b h
      omega
theorem relG_next {w0 wi wr w2 : World} {es es2 : List Lst} {j cg cg2 : Nat} {ga ga2 : Option Addr} {e f : Lst} (hes : ∀ e ∈ es, ∀ b, blk e.oa = some b → b < w0.heap.size) (hs : SepL es) (he : es[j]? = some e) (hl : es2.length = j) (hga : ∀ b, blk ga = some b → w0.heap.size ≤ b)
    (hA : ∀ m e, es[m]? = some e → (j ≤ m → OR eB wi e.oa e.cap e.n (pat m e.n)) ∧ (m < j → ∃ f, es2[m]? = some f ∧ f.n = e.n + 20 ∧ OR eB wi f.oa f.cap (e.n + 20) (pat m (e.n + 20)) ∧ Vts wi e.oa (pat m e.n) ∧ ∀ b, blk f.oa = some b → blk e.oa = some b ∨ (w0.heap.size ≤ b ∧ blk ga ≠ some b)))
    (hC : Chg (mine es) w0 wi) (hgo : OR eLB wi ga cg j (es2.map Lst.val)) (hf : f.n = e.n + 20) (hO : OR eB wr f.oa f.cap (e.n + 20) (pat j (e.n + 20))) (hV : Vts wr e.oa (pat j e.n)) (hfb : ∀ b, blk f.oa = some b → blk e.oa = some b ∨ wi.heap.size ≤ b) (hC1 : Chg (fun b => blk e.oa = some b) wi wr)
    {o : Obj} (hgo2 : OR eLB w2 ga2 cg2 (j + 1) (es2.map Lst.val ++ [f.val])) (hC2 : Chg (fun b => blk ga = some b) (wr.alloc o) w2) (hb : blk ga2 = blk ga ∨ (blk ga2 = some (wr.alloc o).heap.size ∧ Chg (fun _ => False) (wr.alloc o) w2)) {i : Value} (hi : i = .int .i64 ((j + 1 : Nat) : Int)) : RelG w0 es (.slice ga2 (j + 1) cg2) i w2 := by
  subst hi
  have hgl := hgo.lt
  have hm := List.mem_of_getElem? he
  have hCa : Chg (fun b => blk e.oa = some b) wi (wr.alloc o) := hC1.alloc o
  -- a block that is neither the written list's nor the row's stays
  have stay : ∀ b, b < wi.heap.size → ¬ blk e.oa = some b → ¬ blk ga = some b → w2.heap[b]? = wi.heap[b]? := fun b h1 h2 h3 => (hC2.block b (Nat.lt_of_lt_of_le h1 hCa.size) h3).trans (hCa.block b h1 h2)
  have hCw : Chg (fun b => blk e.oa = some b ∨ blk ga = some b) wi w2 := ⟨hC2.os.trans hCa.os, hC2.tape.trans hCa.tape, hC2.output.trans hCa.output, Nat.le_trans hCa.size hC2.size, fun b h1 h2 => stay b h1 (fun h => h2 (.inl h)) (fun h => h2 (.inr h))⟩
  have hnew : ∀ b, blk ga2 = some b → blk ga = some b ∨ wr.heap.size < b + 1 := fun b h => by
    rcases hb with h1 | ⟨h1, _⟩
    · exact .inl (by rw [← h1]; exact h)
    · rw [h1] at h; cases h; exact .inr (by simp; omega)
  have hfl : ∀ b, blk f.oa = some b → b < wr.heap.size := hO.lt
  refine ⟨j + 1, ga2, cg2, es2 ++ [f], (List.getElem?_eq_some_iff.1 he).1, rfl, rfl, by rw [List.map_append]; exact hgo2, by simp [hl], fun b h => ?_, fun m x hx => ⟨fun h => ?_, fun h => ?_⟩, hC.trans hCw fun b hb h => ?_⟩
  · rcases hnew b h with h1 | h1
    · exact hga b h1
    · have := hC.size; have := hC1.size; omega
  · have hxm := List.mem_of_getElem? hx
    refine ((hA m x hx).1 (by omega)).chg hCw fun b hb h1 => ?_
    rcases h1 with h1 | h1
    · exact hs m j x e hx he (by omega) b hb h1
    · have := hga b h1; have := hes x hxm b hb; omega
  · by_cases hmj : m = j
    · subst hmj
      rw [he] at hx; cases hx
      refine ⟨f, by rw [List.getElem?_append_right (by omega)]; simp [hl], hf, (hO.chg ((Chg.refl (fun _ => False) wr).alloc o) (fun _ _ f => f)).chg hC2 fun b h1 h2 => ?_, (hV.alloc o).chg hC2 fun b h1 h2 => ?_, fun b h1 => ?_⟩
      · rcases hfb b h1 with h3 | h3
        · have := hga b h2; have := hes e hm b h3; omega
        · have := hgl b h2; omega
      · have := hga b h2; have := hes e hm b h1; omega
      · rcases hfb b h1 with h3 | h3
        · exact .inl h3
        · refine .inr ⟨Nat.le_trans hC.size h3, fun h4 => ?_⟩
          rcases hnew b h4 with h5 | h5
          · have := hgl b h5; omega
          · have := hfl b h1; omega
    · obtain ⟨g, g1, g2, g3, g4, g5⟩ := (hA m x hx).2 (by omega)
      have hxm := List.mem_of_getElem? hx
      have hgl2 := g3.lt
      refine ⟨g, by rw [List.getElem?_append_left (List.getElem?_eq_some_iff.1 g1).1]; exact g1, g2, g3.chg hCw fun b h1 h2 => ?_, g4.chg hCw fun b h1 h2 => ?_, fun b h1 => ?_⟩
      · rcases g5 b h1 with h3 | ⟨h3, h3'⟩
        · rcases h2 with h2 | h2
          · exact hs m j x e hx he hmj b h3 h2
          · have := hga b h2; have := hes x hxm b h3; omega
        · rcases h2 with h2 | h2
          · have := hes e hm b h2; omega
          · exact h3' h2
      · rcases h2 with h2 | h2
        · exact hs m j x e hx he hmj b h1 h2
        · have := hga b h2; have := hes x hxm b h1; omega
      · rcases g5 b h1 with h3 | ⟨h3, h3'⟩
        · exact .inl h3
        · refine .inr ⟨h3, fun h4 => ?_⟩
          rcases hnew b h4 with h5 | h5
          · exact h3' h5
          · have := hgl2 b h1; have := hC1.size; omega
  · rcases h with h | h
    · exact ⟨e, hm, h⟩
    · have := hga b h; omega

set_option maxRecDepth 100000 in
set_option maxHeartbeats 8000000 in
theorem apart_any (a : Option Addr) (ca : Nat) (es : List Lst) (hlen : es.length ≤ 1000000) (hn : ∀ e ∈ es, e.n ≤ 140737488355300) (hs : SepL es) (w : World) (hr : LRow w a es) (hra : ∀ b, blk a = some b → ¬ mine es b) (hal : ∀ b, blk a = some b → b < w.heap.size) (ho : ∀ e ∈ es, ∃ cs, OR eB w e.oa e.cap e.n cs) :
    Calls Try.prog 24 #[.slice a es.length ca] w fun x w' => x = .returned (.bool true) ∧ Chg (mine es) w w' := by
  have hes : ∀ e ∈ es, ∀ b, blk e.oa = some b → b < w.heap.size := fun e he => by obtain ⟨cs, h⟩ := ho e he; exact h.lt
  obtain ⟨len, hel⟩ : ∃ len, es.length = len := ⟨_, rfl⟩
  rw [hel] at hlen ⊢
  have Hel := Lib.hid hel
  have Hn := Lib.hid hn
  have Hs := Lib.hid hs
  have Hr := Lib.hid hr
  have Hra := Lib.hid hra
  have Ho := Lib.hid ho
  have Hes := Lib.hid hes
  have Hal := Lib.hid hal
  clear hel hn hs hr hra ho hes hal
  go_enter Try.func24, Try.ntmps24
  go_wp2_with fail
  go_loopw [3] (fun i wr => RelA w es i wr) (fun i _ => len - (intOf i).toNat)
  case atStart => exact ⟨0, Nat.zero_le _, rfl, fun m e he => by obtain ⟨cs, h⟩ := Ho.out e (List.mem_of_getElem? he); exact ⟨cs, h, fun h => absurd h (Nat.not_lt_zero _)⟩, Chg.refl _ _⟩
  case round =>
    obtain ⟨j, hj, rfl, hA, hC⟩ := hrel
    rw [Hel.out] at hj
    have HA := Lib.hid hA
    have HC := Lib.hid hC
    clear hA hC
    by_cases hlt : j < len
    · obtain ⟨e, hej⟩ : ∃ e, es[j]? = some e := ⟨_, List.getElem?_eq_getElem (by rw [Hel.out]; exact hlt)⟩
      have hem := List.mem_of_getElem? hej
      have hen := Hn.out e hem
      have Hej := Lib.hid hej
      obtain ⟨cs0, ho0, -⟩ := HA.out j e hej
      have Ho0 := Lib.hid ho0
      have Hrw := Lib.hid fun (wr2 : World) (h : Chg (fun b => blk e.oa = some b) wr wr2) => (((Hr.out.chg HC.out Hra.out).chg h fun b h1 h2 => Hra.out b h1 ⟨e, hem, h2⟩).at hej)
      clear hej hem ho0
      obtain ⟨wi, rfl⟩ : ∃ wi : World, wi = wr := ⟨_, rfl⟩
      go_wp2_with fail
      go_loopw [4] (fun i wr2 => RelA2 wi e j i wr2) (fun i _ => e.n - (intOf i).toNat)
      case atStart => exact ⟨0, cs0, Nat.zero_le _, rfl, Ho0.out, rfl, Chg.refl _ _⟩
      case round =>
        obtain ⟨k, cs, hk, rfl, hO, ht, hC2⟩ := hrel
        obtain ⟨b, off, rfl, hrow⟩ := Hrw.out wr hC2
        have Ht := Lib.hid ht
        have HC2 := Lib.hid hC2
        clear ht hC2
        by_cases hlk : k < e.n
        · have hcl : cs.length = e.n := by have := hO.form.1; rw [this]; exact Nat.mul_one _
          obtain ⟨u, hu⟩ : ∃ u, cs[k]? = some u := ⟨_, List.getElem?_eq_getElem (by omega)⟩
          obtain ⟨g, hg, hc, hf⟩ := hO.cell hu
          have HS := Lib.hid (show RelA2 wi e j (.int .i64 ((k + 1 : Nat) : Int)) (wr.setCell ⟨g, k, none⟩ (pv j k)) from
            ⟨k + 1, cs.set k (pv j k), hlk, rfl, by rw [hg] at hO ⊢; exact hO.set k _ (by omega), take_set_next Ht.out (pat_get hlk) (by omega), HC2.out.setCell _ _ fun _ => by rw [hg]; rfl⟩)
          rw [hg] at hrow
          simp only [pv] at HS
          clear hO hu hcl
          go_wp2_with fail
          go_roundw
          case rel => exact HS.out
          case measure => simp [intOf]; omega
        · have hcl : cs.length = e.n := by have := hO.form.1; rw [this]; exact Nat.mul_one _
          have HS := Lib.hid (relA_next Hs.out Hej.out HA.out HC.out hO (by
            have h := Ht.out
            rwa [List.take_of_length_le (by omega), List.take_of_length_le (by rw [pat_length]; omega)] at h) HC2.out)
          clear hO hcl
          go_wp2_with fail
          go_roundw
          case rel => exact HS.out
          case measure => simp [intOf]; omega
    · have hjl : j = len := by omega
      have HW := Lib.hid (show ∀ m e, es[m]? = some e → OR eB wr e.oa e.cap e.n (pat m e.n) from fun m e he => by
        obtain ⟨cs, h1, h2⟩ := HA.out m e he
        rw [h2 (by have := (List.getElem?_eq_some_iff.1 he).1; rw [Hel.out] at this; omega)] at h1
        exact h1)
      clear hjl
      go_wp2_with fail
      go_loopw [5, 6] (fun g i wr => RelG w es g i wr) (fun _ i _ => len - (intOf i).toNat)
      case atStart => exact ⟨0, none, 0, [], Nat.zero_le _, rfl, rfl, OR.nil _ _, rfl, fun b h => by (cases h), fun m e he => ⟨fun _ => HW.out m e he, fun h => absurd h (Nat.not_lt_zero _)⟩, HC.out⟩
      case round =>
        clear HA HC HW
        obtain ⟨j, ga, cg, es2, hj, rfl, rfl, hgo, hl2, hga, hA, hC⟩ := hrel
        rw [Hel.out] at hj
        have HA := Lib.hid hA
        have HC := Lib.hid hC
        have Hgo := Lib.hid hgo
        have Hl2 := Lib.hid hl2
        have Hga := Lib.hid hga
        clear hA hC hgo hl2 hga
        by_cases hlt : j < len
        · obtain ⟨e, hej⟩ : ∃ e, es[j]? = some e := ⟨_, List.getElem?_eq_getElem (by rw [Hel.out]; exact hlt)⟩
          have hem := List.mem_of_getElem? hej
          have hen := Hn.out e hem
          have Hej := Lib.hid hej
          have Ho0 := Lib.hid ((HA.out j e hej).1 (Nat.le_refl _))
          have Hrw := Lib.hid fun (wr2 : World) (h : Chg (fun b => blk e.oa = some b) wr wr2) => (((Hr.out.chg HC.out Hra.out).chg h fun b h1 h2 => Hra.out b h1 ⟨e, hem, h2⟩).at hej)
          obtain ⟨b0, o0, rfl, hrow⟩ := Hrw.out wr (Chg.refl _ _)
          have Hrow := Lib.hid hrow
          clear hej hem
          obtain ⟨wi, rfl⟩ : ∃ wi : World, wi = wr := ⟨_, rfl⟩
          go_wp2_with fail
          clear hrow
          go_loopw [7, 8] (fun g i wr2 => RelG2 wi e j g i wr2) (fun _ i _ => 20 - (intOf i).toNat)
          case atStart => exact ⟨0, e.oa, e.cap, Nat.zero_le _, rfl, rfl, Ho0.out, .inl rfl, Chg.refl _ _⟩
          case round =>
            obtain ⟨k, oa, cap, hk, rfl, rfl, hO, hd, hC2⟩ := hrel
            have Hd := Lib.hid hd
            have HC2 := Lib.hid hC2
            clear hd hC2
            by_cases hlk : k < 20
            · obtain ⟨b1, o1, hb1, hrow⟩ := Hrw.out wr HC2.out
              cases hb1
              have hpv : pv j (e.n + k) = .int .u8 (((j : Int) * 31 + ((e.n : Int) + (k : Int)) * 7 + 1) % 256) := by simp [pv]
              have Hpv := Lib.hid hpv
              have HN := Lib.hid fun (w2 : World) (oa2 : Option Addr) (cap2 : Nat) (o : Obj) (i : Value) hO2 => relG2_next (w2 := w2) (oa2 := oa2) (cap2 := cap2) (o := o) (i := i) hlk (fun b hb => Nat.lt_of_lt_of_le (Hes.out e (List.mem_of_getElem? Hej.out) b hb) HC.out.size) Hd.out HC2.out hO hO2
              have hO' := hO.chg ((Chg.refl (fun _ => False) wr).alloc (.cells #[.int .u8 (((j : Int) * 31 + ((e.n : Int) + (k : Int)) * 7 + 1) % 256)] 5)) fun _ _ f => f
              clear hpv hO
              go_wp2_with (at_builtin; refine wpList_append_two eB rfl (.tmp 54) (.tmp 68) rfl rfl hO' rfl rfl (cell_new _ _ _) (fun u hu => by simp at hu; subst hu; rfl) (by show _ * 1 ≤ _; omega) (by omega) ?_
                           intro oa2 cap2 w2 hO2 hC3 hb2)
              rw [← Hpv.out] at hO2
              go_roundw
              case rel => exact HN.out _ _ _ _ _ hO2 hC3 hb2 (by go_num)
              case measure => simp [intOf]; omega
            · have hk20 : k = 20 := by omega
              subst hk20
              have hV : Vts wr e.oa (pat j e.n) := by
                rcases Hd.out with rfl | ⟨h1, _⟩
                · obtain ⟨r, hr⟩ := pat_low j e.n 20
                  exact hO.vts_low hr
                · exact h1
              have hfb : ∀ b, blk oa = some b → blk e.oa = some b ∨ wi.heap.size ≤ b := fun b hb => by
                rcases Hd.out with rfl | ⟨_, h1⟩
                · exact .inl hb
                · exact .inr (h1 b hb)
              have HN := Lib.hid fun (w2 : World) (ga2 : Option Addr) (cg2 : Nat) (o : Obj) (i : Value) hgo2 => relG_next (f := ⟨oa, cap, e.n + 20⟩) (wr := wr) (w2 := w2) (ga2 := ga2) (cg2 := cg2) (o := o) (i := i) Hes.out Hs.out Hej.out Hl2.out Hga.out HA.out HC.out Hgo.out rfl hO hV hfb HC2.out hgo2
              have hgo' := (Hgo.out.chg HC2.out fun b h1 h2 => by have := Hga.out b h1; have := Hes.out e (List.mem_of_getElem? Hej.out) b h2; omega).chg ((Chg.refl (fun _ => False) wr).alloc (.cells #[.slice oa (e.n + 20) cap] 25)) fun _ _ f => f
              clear hO hV hfb
              go_wp2_with (at_builtin; refine wpList_append_two eLB rfl (.tmp 70) (.tmp 72) rfl rfl hgo' rfl rfl (cell_new _ _ _) (fun u hu => by simp at hu; subst hu; rfl) (by show _ * 24 ≤ _; omega) (by omega) ?_
                           intro ga2 cg2 w2 hgo2 hC3 hb2)
              go_roundw
              case rel => exact HN.out _ _ _ _ _ hgo2 hC3 hb2 (by go_num)
              case measure => simp [intOf]; omega
        · have hjl : j = len := by omega
          subst hjl
          have HG := Lib.hid fun (m : Nat) (e : Lst) (he : es[m]? = some e) => (HA.out m e he).2 (by have := (List.getElem?_eq_some_iff.1 he).1; rw [Hel.out] at this; exact this)
          have HR := Lib.hid (Hr.out.chg HC.out Hra.out)
          clear HA
          go_wp2_with fail
          go_loop [9] (fun i => ∃ m : Nat, m ≤ j ∧ i = .int .i64 m) (fun i => j - (intOf i).toNat)
          case atStart => exact ⟨0, Nat.zero_le _, rfl⟩
          case round =>
            obtain ⟨m, hm, rfl⟩ := hrel
            by_cases hlm : m < j
            · obtain ⟨e, hem⟩ : ∃ e, es[m]? = some e := ⟨_, List.getElem?_eq_getElem (by rw [Hel.out]; exact hlm)⟩
              have hen := Hn.out e (List.mem_of_getElem? hem)
              obtain ⟨b0, o0, rfl, hrow⟩ := HR.out.at hem
              obtain ⟨f, hf, hfn, hO, hV, -⟩ := HG.out m e hem
              have hf2 : (es2.map Lst.val)[m]? = some (.slice f.oa (e.n + 20) f.cap) := by rw [List.getElem?_map, hf, ← hfn]; rfl
              obtain ⟨gg, hgg, hgc, -⟩ := Hgo.out.cell hf2
              subst hgg
              have HO := Lib.hid hO
              have HV := Lib.hid hV
              clear hem hf hfn hf2 hO hV
              go_wp2_with fail
              go_loop [10] (fun i => ∃ k : Nat, k ≤ e.n + 20 ∧ i = .int .i64 k) (fun i => e.n + 20 - (intOf i).toNat)
              case atStart => exact ⟨0, Nat.zero_le _, rfl⟩
              case round =>
                obtain ⟨k, hk, rfl⟩ := hrel
                by_cases hlk : k < e.n + 20
                · obtain ⟨g1, hg1, hc1, -⟩ := HO.out.cell (pat_get hlk)
                  rw [hg1] at hgc
                  simp only [pv] at hc1
                  by_cases hkn : k < e.n
                  · have hkd : decide ((k : Int) < (e.n : Int)) = true := decide_eq_true (by omega)
                    rcases HV.out with h0 | ⟨g2, hg2, -, hc2⟩
                    · have := congrArg List.length h0
                      rw [pat_length] at this
                      simp at this; omega
                    have hc3 := hc2 k _ (pat_get hkn)
                    simp only [pv] at hc3
                    rw [hg2] at hrow
                    clear hc2
                    go_wp2_with fail
                    go_round
                    case rel => exact ⟨k + 1, by omega, by go_num⟩
                    case measure => simp [intOf]; omega
                  · have hkd : decide ((k : Int) < (e.n : Int)) = false := decide_eq_false (by omega)
                    go_wp2_with fail
                    go_round
                    case rel => exact ⟨k + 1, by omega, by go_num⟩
                    case measure => simp [intOf]; omega
                · go_wp2_with fail
                  go_round
                  case rel => exact ⟨m + 1, by omega, by go_num⟩
                  case measure => simp [intOf]; omega
            · go_wp2_with fail
              go_ret
              exact ⟨rfl, HC.out⟩
end ApB
end Go.Proofs.Ytkjgncmbhkhbnaa
