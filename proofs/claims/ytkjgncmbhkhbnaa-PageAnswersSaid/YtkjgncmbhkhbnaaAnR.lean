/- The walk of ApartInts: lists that share no memory. The calls of PageAnswers as they come in; what answers are like; lists turned over. PageAnswers: the call's own copy. PageAnswers: three answers share no memory. PageAnswers: the two statements that lay a call's own copy, each as a theorem of its own. -/
import Derived.Test.YtkjgncmbhkhbnaaPKid
import Derived.Test.YtkjgncmbhkhbnaaApart
import Derived.Test.YtkjgncmbhkhbnaaAnQ
import Derived.Test.YtkjgncmbhkhbnaaAnK
import Derived.Test.YtkjgncmbhkhbnaaPWOneForm
import Derived.Deep.Cut
import Derived.Deep.CutRange
import Derived.StillTailTactics
namespace Go.Proofs.Ytkjgncmbhkhbnaa
open Go.RowKit
set_option linter.unusedVariables false


namespace ApI
def eLI : Elt := { t := 46, e := 33, size := 1, bytes := 24, z := .slice none 0 0, hu := Try.underlying46, hi := by kernel_rfl, hz := rfl, h0 := by decide }
def pv (i k : Nat) : Value := .int .i64 ((i : Int) * 100003 + (k : Int))
def pat (i n : Nat) : List Value := (List.range n).map (pv i)
theorem pat_length (i n : Nat) : (pat i n).length = n := by simp [pat]
theorem pat_get {i n k : Nat} (h : k < n) : (pat i n)[k]? = some (pv i k) := by simp [pat, h]
theorem pat_snoc (i n : Nat) : pat i (n + 1) = pat i n ++ [pv i n] := by simp [pat, List.range_succ]
theorem pat_low (i n k : Nat) : ∃ r, pat i (n + k) = pat i n ++ r := by
  induction k with
  | zero => exact ⟨[], by simp⟩
  | succ k ih =>
    obtain ⟨r, hr⟩ := ih
    exact ⟨r ++ [pv i (n + k)], by rw [← Nat.add_assoc, pat_snoc, hr, List.append_assoc]⟩
theorem pv_one (i k : Nat) : (pv i k).oneCell' = true := rfl

def RelA (w0 : World) (es : List Lst) (i : Value) (wr : World) : Prop :=
  ∃ j : Nat, j ≤ es.length ∧ i = .int .i64 j ∧ (∀ m e, es[m]? = some e → ∃ cs, OR eN wr e.oa e.cap e.n cs ∧ (m < j → cs = pat m e.n)) ∧ Chg (mine es) w0 wr
def RelA2 (wi : World) (e : Lst) (j : Nat) (i : Value) (wr : World) : Prop :=
  ∃ (k : Nat) (cs : List Value), k ≤ e.n ∧ i = .int .i64 k ∧ OR eN wr e.oa e.cap e.n cs ∧ cs.take k = (pat j e.n).take k ∧ Chg (fun b => blk e.oa = some b) wi wr
theorem relA_next {w0 wi wr : World} {es : List Lst} {j : Nat} {e : Lst} {cs : List Value} (hs : SepL es) (he : es[j]? = some e) (hA : ∀ m e, es[m]? = some e → ∃ cs, OR eN wi e.oa e.cap e.n cs ∧ (m < j → cs = pat m e.n)) (hC : Chg (mine es) w0 wi)
    (hO : OR eN wr e.oa e.cap e.n cs) (ht : cs = pat j e.n) (hC2 : Chg (fun b => blk e.oa = some b) wi wr) : RelA w0 es (.int .i64 ((j + 1 : Nat) : Int)) wr := by
  refine ⟨j + 1, (List.getElem?_eq_some_iff.1 he).1, rfl, fun m f hf => ?_, hC.trans hC2 (fun b _ h => ⟨e, List.mem_of_getElem? he, h⟩)⟩
  by_cases hm : m = j
  · subst hm
    rw [he] at hf; cases hf
    exact ⟨cs, hO, fun _ => ht⟩
  · obtain ⟨c2, h1, h2⟩ := hA m f hf
    exact ⟨c2, h1.chg hC2 (fun k hk h => hs m j f e hf he hm k hk h), fun h => h2 (by omega)⟩

def RelG (w0 : World) (es : List Lst) (g i : Value) (wr : World) : Prop :=
  ∃ (j : Nat) (ga : Option Addr) (cg : Nat) (es2 : List Lst), j ≤ es.length ∧ i = .int .i64 j ∧ g = .slice ga j cg ∧ OR eLI wr ga cg j (es2.map Lst.val) ∧ es2.length = j ∧ (∀ b, blk ga = some b → w0.heap.size ≤ b) ∧
    (∀ m e, es[m]? = some e → (j ≤ m → OR eN wr e.oa e.cap e.n (pat m e.n)) ∧ (m < j → ∃ f, es2[m]? = some f ∧ f.n = e.n + 20 ∧ OR eN wr f.oa f.cap (e.n + 20) (pat m (e.n + 20)) ∧ Vts wr e.oa (pat m e.n) ∧ ∀ b, blk f.oa = some b → blk e.oa = some b ∨ (w0.heap.size ≤ b ∧ blk ga ≠ some b))) ∧ Chg (mine es) w0 wr
def RelG2 (wi : World) (e : Lst) (j : Nat) (g i : Value) (wr : World) : Prop :=
  ∃ (k : Nat) (oa : Option Addr) (cap : Nat), k ≤ 20 ∧ i = .int .i64 k ∧ g = .slice oa (e.n + k) cap ∧ OR eN wr oa cap (e.n + k) (pat j (e.n + k)) ∧ (oa = e.oa ∨ (Vts wr e.oa (pat j e.n) ∧ ∀ b, blk oa = some b → wi.heap.size ≤ b)) ∧ Chg (fun b => blk e.oa = some b) wi wr
theorem relG2_next {wi wr w2 : World} {e : Lst} {j k cap2 : Nat} {oa oa2 : Option Addr} (hk : k < 20) (hlt : ∀ b, blk e.oa = some b → b < wi.heap.size) (hd : oa = e.oa ∨ (Vts wr e.oa (pat j e.n) ∧ ∀ b, blk oa = some b → wi.heap.size ≤ b)) (hC : Chg (fun b => blk e.oa = some b) wi wr) {cap : Nat} (hO : OR eN wr oa cap (e.n + k) (pat j (e.n + k)))
    (hO2 : OR eN w2 oa2 cap2 (e.n + k + 1) (pat j (e.n + k) ++ [pv j (e.n + k)])) {o : Obj} (hC2 : Chg (fun b => blk oa = some b) (wr.alloc o) w2) (hb : blk oa2 = blk oa ∨ (blk oa2 = some (wr.alloc o).heap.size ∧ Chg (fun _ => False) (wr.alloc o) w2)) {i : Value} (hi : i = .int .i64 ((k + 1 : Nat) : Int)) : RelG2 wi e j (.slice oa2 (e.n + k + 1) cap2) i w2 := by
  subst hi
  have hCa : Chg (fun b => blk e.oa = some b) wi (wr.alloc o) := hC.alloc o
  obtain ⟨r, hr⟩ := pat_low j e.n k
  have hV : Vts wr e.oa (pat j e.n) := by
    rcases hd with rfl | ⟨h1, _⟩
    · exact hO.vts_low hr
    · exact h1
  refine ⟨k + 1, oa2, cap2, hk, rfl, rfl, by rw [← Nat.add_assoc, pat_snoc]; exact hO2, ?_, hCa.trans hC2 fun b hb1 h => ?_⟩
  · rcases hb with h | ⟨h, hC3⟩
    · rcases hd with rfl | ⟨_, h2⟩
      · exact .inl (hO2.same_addr hO h)
      · refine .inr ⟨(hV.alloc o).chg hC2 fun b h1 h3 => ?_, fun b h1 => h2 b (by rw [← h]; exact h1)⟩
        have := h2 b h3
        have := hlt b h1
        omega
    · exact .inr ⟨(hV.alloc o).chg hC3 fun _ _ f => f, fun b h1 => by rw [h] at h1; cases h1; exact Nat.le_trans hC.size (by simp)⟩
  · rcases hd with rfl | ⟨_, h2⟩
    · exact h
    · have := h2 b h
      omega
theorem relG_next {w0 wi wr w2 : World} {es es2 : List Lst} {j cg cg2 : Nat} {ga ga2 : Option Addr} {e f : Lst} (hes : ∀ e ∈ es, ∀ b, blk e.oa = some b → b < w0.heap.size) (hs : SepL es) (he : es[j]? = some e) (hl : es2.length = j) (hga : ∀ b, blk ga = some b → w0.heap.size ≤ b)
    (hA : ∀ m e, es[m]? = some e → (j ≤ m → OR eN wi e.oa e.cap e.n (pat m e.n)) ∧ (m < j → ∃ f, es2[m]? = some f ∧ f.n = e.n + 20 ∧ OR eN wi f.oa f.cap (e.n + 20) (pat m (e.n + 20)) ∧ Vts wi e.oa (pat m e.n) ∧ ∀ b, blk f.oa = some b → blk e.oa = some b ∨ (w0.heap.size ≤ b ∧ blk ga ≠ some b)))
    (hC : Chg (mine es) w0 wi) (hgo : OR eLI wi ga cg j (es2.map Lst.val)) (hf : f.n = e.n + 20) (hO : OR eN wr f.oa f.cap (e.n + 20) (pat j (e.n + 20))) (hV : Vts wr e.oa (pat j e.n)) (hfb : ∀ b, blk f.oa = some b → blk e.oa = some b ∨ wi.heap.size ≤ b) (hC1 : Chg (fun b => blk e.oa = some b) wi wr)
    {o : Obj} (hgo2 : OR eLI w2 ga2 cg2 (j + 1) (es2.map Lst.val ++ [f.val])) (hC2 : Chg (fun b => blk ga = some b) (wr.alloc o) w2) (hb : blk ga2 = blk ga ∨ (blk ga2 = some (wr.alloc o).heap.size ∧ Chg (fun _ => False) (wr.alloc o) w2)) {i : Value} (hi : i = .int .i64 ((j + 1 : Nat) : Int)) : RelG w0 es (.slice ga2 (j + 1) cg2) i w2 := by
  subst hi
  have hgl := hgo.lt
  have hm := List.mem_of_getElem? he
  have hCa : Chg (fun b => blk e.oa = some b) wi (wr.alloc o) := hC1.alloc o
  -- a block that is neither the written list's nor the row's stays
  have stay : ∀ b, b < wi.heap.size → ¬ blk e.oa = some b → ¬ blk ga = some b → w2.heap[b]? = wi.heap[b]? := fun b h1 h2 h3 => (hC2.block b (Nat.lt_of_lt_of_le h1 hCa.size) h3).trans (hCa.block b h1 h2)
  have hCw : Chg (fun b => blk e.oa = some b ∨ blk ga = some b) wi w2 := ⟨hC2.os.trans hCa.os, hC2.tape.trans hCa.tape, hC2.output.trans hCa.output, Nat.le_trans hCa.size hC2.size, fun b h1 h2 => stay b h1 (fun h => h2 (.inl h)) (fun h => h2 (.inr h))⟩
  have hnew : ∀ b, blk ga2 = some b → blk ga = some b ∨ wr.heap.size < b + 1 := fun b h => by
    rcases hb with h1 | ⟨h1, _⟩
    · exact .inl (by rw [← h1]; exact h)
    · rw [h1] at h; cases h; exact .inr (by simp; omega)
  have hfl : ∀ b, blk f.oa = some b → b < wr.heap.size := hO.lt
  refine ⟨j + 1, ga2, cg2, es2 ++ [f], (List.getElem?_eq_some_iff.1 he).1, rfl, rfl, by rw [List.map_append]; exact hgo2, by simp [hl], fun b h => ?_, fun m x hx => ⟨fun h => ?_, fun h => ?_⟩, hC.trans hCw fun b hb h => ?_⟩
  · rcases hnew b h with h1 | h1
    · exact hga b h1
    · have := hC.size; have := hC1.size; omega
  · have hxm := List.mem_of_getElem? hx
    refine ((hA m x hx).1 (by omega)).chg hCw fun b hb h1 => ?_
    rcases h1 with h1 | h1
    · exact hs m j x e hx he (by omega) b hb h1
    · have := hga b h1; have := hes x hxm b hb; omega
  · by_cases hmj : m = j
    · subst hmj
      rw [he] at hx; cases hx
      refine ⟨f, by rw [List.getElem?_append_right (by omega)]; simp [hl], hf, (hO.chg ((Chg.refl (fun _ => False) wr).alloc o) (fun _ _ f => f)).chg hC2 fun b h1 h2 => ?_, (hV.alloc o).chg hC2 fun b h1 h2 => ?_, fun b h1 => ?_⟩
      · rcases hfb b h1 with h3 | h3
        · have := hga b h2; have := hes e hm b h3; omega
        · have := hgl b h2; omega
      · have := hga b h2; have := hes e hm b h1; omega
      · rcases hfb b h1 with h3 | h3
        · exact .inl h3
        · refine .inr ⟨Nat.le_trans hC.size h3, fun h4 => ?_⟩
          rcases hnew b h4 with h5 | h5
          · have := hgl b h5; omega
          · have := hfl b h1; omega
    · obtain ⟨g, g1, g2, g3, g4, g5⟩ := (hA m x hx).2 (by omega)
      have hxm := List.mem_of_getElem? hx
      have hgl2 := g3.lt
      refine ⟨g, by rw [List.getElem?_append_left (List.getElem?_eq_some_iff.1 g1).1]; exact g1, g2, g3.chg hCw fun b h1 h2 => ?_, g4.chg hCw fun b h1 h2 => ?_, fun b h1 => ?_⟩
      · rcases g5 b h1 with h3 | ⟨h3, h3'⟩
        · rcases h2 with h2 | h2
          · exact hs m j x e hx he hmj b h3 h2
          · have := hga b h2; have := hes x hxm b h3; omega
        · rcases h2 with h2 | h2
          · have := hes e hm b h2; omega
          · exact h3' h2
      · rcases h2 with h2 | h2
        · exact hs m j x e hx he hmj b h1 h2
        · have := hga b h2; have := hes x hxm b h1; omega
      · rcases g5 b h1 with h3 | ⟨h3, h3'⟩
        · exact .inl h3
        · refine .inr ⟨h3, fun h4 => ?_⟩
          rcases hnew b h4 with h5 | h5
          · exact h3' h5
          · have := hgl2 b h1; have := hC1.size; omega
  · rcases h with h | h
    · exact ⟨e, hm, h⟩
    · have := hga b h; omega

set_option maxRecDepth 100000 in
set_option maxHeartbeats 8000000 in
theorem apart_any (a : Option Addr) (ca : Nat) (es : List Lst) (hlen : es.length ≤ 1000000) (hn : ∀ e ∈ es, e.n ≤ 70000) (hs : SepL es) (w : World) (hr : LRow w a es) (hra : ∀ b, blk a = some b → ¬ mine es b) (hal : ∀ b, blk a = some b → b < w.heap.size) (ho : ∀ e ∈ es, ∃ cs, OR eN w e.oa e.cap e.n cs) :
    Calls Try.prog 25 #[.slice a es.length ca] w fun x w' => x = .returned (.bool true) ∧ Chg (mine es) w w' := by
  have hes : ∀ e ∈ es, ∀ b, blk e.oa = some b → b < w.heap.size := fun e he => by obtain ⟨cs, h⟩ := ho e he; exact h.lt
  obtain ⟨len, hel⟩ : ∃ len, es.length = len := ⟨_, rfl⟩
  rw [hel] at hlen ⊢
  have Hel := Lib.hid hel
  have Hn := Lib.hid hn
  have Hs := Lib.hid hs
  have Hr := Lib.hid hr
  have Hra := Lib.hid hra
  have Ho := Lib.hid ho
  have Hes := Lib.hid hes
  have Hal := Lib.hid hal
  clear hel hn hs hr hra ho hes hal
  go_enter Try.func25, Try.ntmps25
  go_wp2_with fail
  go_loopw [3] (fun i wr => RelA w es i wr) (fun i _ => len - (intOf i).toNat)
  case atStart => exact ⟨0, Nat.zero_le _, rfl, fun m e he => by obtain ⟨cs, h⟩ := Ho.out e (List.mem_of_getElem? he); exact ⟨cs, h, fun h => absurd h (Nat.not_lt_zero _)⟩, Chg.refl _ _⟩
  case round =>
    obtain ⟨j, hj, rfl, hA, hC⟩ := hrel
    rw [Hel.out] at hj
    have HA := Lib.hid hA
    have HC := Lib.hid hC
    clear hA hC
    by_cases hlt : j < len
    · obtain ⟨e, hej⟩ : ∃ e, es[j]? = some e := ⟨_, List.getElem?_eq_getElem (by rw [Hel.out]; exact hlt)⟩
      have hem := List.mem_of_getElem? hej
      have hen := Hn.out e hem
      have Hej := Lib.hid hej
      obtain ⟨cs0, ho0, -⟩ := HA.out j e hej
      have Ho0 := Lib.hid ho0
      have Hrw := Lib.hid fun (wr2 : World) (h : Chg (fun b => blk e.oa = some b) wr wr2) => (((Hr.out.chg HC.out Hra.out).chg h fun b h1 h2 => Hra.out b h1 ⟨e, hem, h2⟩).at hej)
      clear hej hem ho0
      obtain ⟨wi, rfl⟩ : ∃ wi : World, wi = wr := ⟨_, rfl⟩
      go_wp2_with fail
      go_loopw [4] (fun i wr2 => RelA2 wi e j i wr2) (fun i _ => e.n - (intOf i).toNat)
      case atStart => exact ⟨0, cs0, Nat.zero_le _, rfl, Ho0.out, rfl, Chg.refl _ _⟩
      case round =>
        obtain ⟨k, cs, hk, rfl, hO, ht, hC2⟩ := hrel
        obtain ⟨b, off, rfl, hrow⟩ := Hrw.out wr hC2
        have Ht := Lib.hid ht
        have HC2 := Lib.hid hC2
        clear ht hC2
        by_cases hlk : k < e.n
        · have hcl : cs.length = e.n := by have := hO.form.1; rw [this]; exact Nat.mul_one _
          obtain ⟨u, hu⟩ : ∃ u, cs[k]? = some u := ⟨_, List.getElem?_eq_getElem (by omega)⟩
          obtain ⟨g, hg, hc, hf⟩ := hO.cell hu
          have HS := Lib.hid (show RelA2 wi e j (.int .i64 ((k + 1 : Nat) : Int)) (wr.setCell ⟨g, k, none⟩ (pv j k)) from
            ⟨k + 1, cs.set k (pv j k), hlk, rfl, by rw [hg] at hO ⊢; exact hO.set k _ (by omega), take_set_next Ht.out (pat_get hlk) (by omega), HC2.out.setCell _ _ fun _ => by rw [hg]; rfl⟩)
          rw [hg] at hrow
          simp only [pv] at HS
          clear hO hu hcl
          go_wp2_with fail
          go_roundw
          case rel => exact HS.out
          case measure => simp [intOf]; omega
        · have hcl : cs.length = e.n := by have := hO.form.1; rw [this]; exact Nat.mul_one _
          have HS := Lib.hid (relA_next Hs.out Hej.out HA.out HC.out hO (by
            have h := Ht.out
            rwa [List.take_of_length_le (by omega), List.take_of_length_le (by rw [pat_length]; omega)] at h) HC2.out)
          clear hO hcl
          go_wp2_with fail
          go_roundw
          case rel => exact HS.out
          case measure => simp [intOf]; omega
    · have hjl : j = len := by omega
      have HW := Lib.hid (show ∀ m e, es[m]? = some e → OR eN wr e.oa e.cap e.n (pat m e.n) from fun m e he => by
        obtain ⟨cs, h1, h2⟩ := HA.out m e he
        rw [h2 (by have := (List.getElem?_eq_some_iff.1 he).1; rw [Hel.out] at this; omega)] at h1
        exact h1)
      clear hjl
      go_wp2_with fail
      go_loopw [5, 6] (fun g i wr => RelG w es g i wr) (fun _ i _ => len - (intOf i).toNat)
      case atStart => exact ⟨0, none, 0, [], Nat.zero_le _, rfl, rfl, OR.nil _ _, rfl, fun b h => by (cases h), fun m e he => ⟨fun _ => HW.out m e he, fun h => absurd h (Nat.not_lt_zero _)⟩, HC.out⟩
      case round =>
        clear HA HC HW
        obtain ⟨j, ga, cg, es2, hj, rfl, rfl, hgo, hl2, hga, hA, hC⟩ := hrel
        rw [Hel.out] at hj
        have HA := Lib.hid hA
        have HC := Lib.hid hC
        have Hgo := Lib.hid hgo
        have Hl2 := Lib.hid hl2
        have Hga := Lib.hid hga
        clear hA hC hgo hl2 hga
        by_cases hlt : j < len
        · obtain ⟨e, hej⟩ : ∃ e, es[j]? = some e := ⟨_, List.getElem?_eq_getElem (by rw [Hel.out]; exact hlt)⟩
          have hem := List.mem_of_getElem? hej
          have hen := Hn.out e hem
          have Hej := Lib.hid hej
          have Ho0 := Lib.hid ((HA.out j e hej).1 (Nat.le_refl _))
          have Hrw := Lib.hid fun (wr2 : World) (h : Chg (fun b => blk e.oa = some b) wr wr2) => (((Hr.out.chg HC.out Hra.out).chg h fun b h1 h2 => Hra.out b h1 ⟨e, hem, h2⟩).at hej)
          obtain ⟨b0, o0, rfl, hrow⟩ := Hrw.out wr (Chg.refl _ _)
          have Hrow := Lib.hid hrow
          clear hej hem
          obtain ⟨wi, rfl⟩ : ∃ wi : World, wi = wr := ⟨_, rfl⟩
          go_wp2_with fail
          clear hrow
          go_loopw [7, 8] (fun g i wr2 => RelG2 wi e j g i wr2) (fun _ i _ => 20 - (intOf i).toNat)
          case atStart => exact ⟨0, e.oa, e.cap, Nat.zero_le _, rfl, rfl, Ho0.out, .inl rfl, Chg.refl _ _⟩
          case round =>
            obtain ⟨k, oa, cap, hk, rfl, rfl, hO, hd, hC2⟩ := hrel
            have Hd := Lib.hid hd
            have HC2 := Lib.hid hC2
            clear hd hC2
            by_cases hlk : k < 20
            · obtain ⟨b1, o1, hb1, hrow⟩ := Hrw.out wr HC2.out
              cases hb1
              have hpv : pv j (e.n + k) = .int .i64 ((j : Int) * 100003 + (e.n : Int) + (k : Int)) := by simp [pv, Int.add_assoc]
              have Hpv := Lib.hid hpv
              have HN := Lib.hid fun (w2 : World) (oa2 : Option Addr) (cap2 : Nat) (o : Obj) (i : Value) hO2 => relG2_next (w2 := w2) (oa2 := oa2) (cap2 := cap2) (o := o) (i := i) hlk (fun b hb => Nat.lt_of_lt_of_le (Hes.out e (List.mem_of_getElem? Hej.out) b hb) HC.out.size) Hd.out HC2.out hO hO2
              have hO' := hO.chg ((Chg.refl (fun _ => False) wr).alloc (.cells #[.int .i64 ((j : Int) * 100003 + (e.n : Int) + (k : Int))] 3)) fun _ _ f => f
              clear hpv hO
              go_wp2_with (at_builtin; refine wpList_append_two eN rfl (.tmp 50) (.tmp 61) rfl rfl hO' rfl rfl (cell_new _ _ _) (fun u hu => by simp at hu; subst hu; rfl) (by show _ * 8 ≤ _; omega) (by omega) ?_
                           intro oa2 cap2 w2 hO2 hC3 hb2)
              rw [← Hpv.out] at hO2
              go_roundw
              case rel => exact HN.out _ _ _ _ _ hO2 hC3 hb2 (by go_num)
              case measure => simp [intOf]; omega
            · have hk20 : k = 20 := by omega
              subst hk20
              have hV : Vts wr e.oa (pat j e.n) := by
                rcases Hd.out with rfl | ⟨h1, _⟩
                · obtain ⟨r, hr⟩ := pat_low j e.n 20
                  exact hO.vts_low hr
                · exact h1
              have hfb : ∀ b, blk oa = some b → blk e.oa = some b ∨ wi.heap.size ≤ b := fun b hb => by
                rcases Hd.out with rfl | ⟨_, h1⟩
                · exact .inl hb
                · exact .inr (h1 b hb)
              have HN := Lib.hid fun (w2 : World) (ga2 : Option Addr) (cg2 : Nat) (o : Obj) (i : Value) hgo2 => relG_next (f := ⟨oa, cap, e.n + 20⟩) (wr := wr) (w2 := w2) (ga2 := ga2) (cg2 := cg2) (o := o) (i := i) Hes.out Hs.out Hej.out Hl2.out Hga.out HA.out HC.out Hgo.out rfl hO hV hfb HC2.out hgo2
              have hgo' := (Hgo.out.chg HC2.out fun b h1 h2 => by have := Hga.out b h1; have := Hes.out e (List.mem_of_getElem? Hej.out) b h2; omega).chg ((Chg.refl (fun _ => False) wr).alloc (.cells #[.slice oa (e.n + 20) cap] 33)) fun _ _ f => f
              clear hO hV hfb
              go_wp2_with (at_builtin; refine wpList_append_two eLI rfl (.tmp 63) (.tmp 65) rfl rfl hgo' rfl rfl (cell_new _ _ _) (fun u hu => by simp at hu; subst hu; rfl) (by show _ * 24 ≤ _; omega) (by omega) ?_
                           intro ga2 cg2 w2 hgo2 hC3 hb2)
              go_roundw
              case rel => exact HN.out _ _ _ _ _ hgo2 hC3 hb2 (by go_num)
              case measure => simp [intOf]; omega
        · have hjl : j = len := by omega
          subst hjl
          have HG := Lib.hid fun (m : Nat) (e : Lst) (he : es[m]? = some e) => (HA.out m e he).2 (by have := (List.getElem?_eq_some_iff.1 he).1; rw [Hel.out] at this; exact this)
          have HR := Lib.hid (Hr.out.chg HC.out Hra.out)
          clear HA
          go_wp2_with fail
          go_loop [9] (fun i => ∃ m : Nat, m ≤ j ∧ i = .int .i64 m) (fun i => j - (intOf i).toNat)
          case atStart => exact ⟨0, Nat.zero_le _, rfl⟩
          case round =>
            obtain ⟨m, hm, rfl⟩ := hrel
            by_cases hlm : m < j
            · obtain ⟨e, hem⟩ : ∃ e, es[m]? = some e := ⟨_, List.getElem?_eq_getElem (by rw [Hel.out]; exact hlm)⟩
              have hen := Hn.out e (List.mem_of_getElem? hem)
              obtain ⟨b0, o0, rfl, hrow⟩ := HR.out.at hem
              obtain ⟨f, hf, hfn, hO, hV, -⟩ := HG.out m e hem
              have hf2 : (es2.map Lst.val)[m]? = some (.slice f.oa (e.n + 20) f.cap) := by rw [List.getElem?_map, hf, ← hfn]; rfl
              obtain ⟨gg, hgg, hgc, -⟩ := Hgo.out.cell hf2
              subst hgg
              have HO := Lib.hid hO
              have HV := Lib.hid hV
              clear hem hf hfn hf2 hO hV
              go_wp2_with fail
              go_loop [10] (fun i => ∃ k : Nat, k ≤ e.n + 20 ∧ i = .int .i64 k) (fun i => e.n + 20 - (intOf i).toNat)
              case atStart => exact ⟨0, Nat.zero_le _, rfl⟩
              case round =>
                obtain ⟨k, hk, rfl⟩ := hrel
                by_cases hlk : k < e.n + 20
                · obtain ⟨g1, hg1, hc1, -⟩ := HO.out.cell (pat_get hlk)
                  rw [hg1] at hgc
                  simp only [pv] at hc1
                  by_cases hkn : k < e.n
                  · have hkd : decide ((k : Int) < (e.n : Int)) = true := decide_eq_true (by omega)
                    rcases HV.out with h0 | ⟨g2, hg2, -, hc2⟩
                    · have := congrArg List.length h0
                      rw [pat_length] at this
                      simp at this; omega
                    have hc3 := hc2 k _ (pat_get hkn)
                    simp only [pv] at hc3
                    rw [hg2] at hrow
                    clear hc2
                    go_wp2_with fail
                    go_round
                    case rel => exact ⟨k + 1, by omega, by go_num⟩
                    case measure => simp [intOf]; omega
                  · have hkd : decide ((k : Int) < (e.n : Int)) = false := decide_eq_false (by omega)
                    go_wp2_with fail
                    go_round
                    case rel => exact ⟨k + 1, by omega, by go_num⟩
                    case measure => simp [intOf]; omega
                · go_wp2_with fail
                  go_round
                  case rel => exact ⟨m + 1, by omega, by go_num⟩
                  case measure => simp [intOf]; omega
            · go_wp2_with fail
              go_ret
              exact ⟨rfl, HC.out⟩
end ApI
end Go.Proofs.Ytkjgncmbhkhbnaa
namespace Go.Proofs.Ytkjgncmbhkhbnaa
open Go.ChangeShapes Go.WideShapes Go.ChangeAt Go.RowKit
set_option linter.unusedVariables false
set_option maxRecDepth 100000

structure OpM where
  (kind no gen : Int) (p : PP) (b : List UInt8)
def OpIn (B : Nat) (w : World) (b off : Nat) (o : OpM) (ia : Option Addr) (ic : Nat) (da : Option Addr) (dc : Nat) (ba : Option Addr) (bc : Nat) : Prop :=
  PgAt B w o.p ia ic da dc ∧ Sl B w ba bc o.b ∧ o.b.length ≤ bc ∧ w.cell? ⟨b, off, none⟩ = some (.int .i64 o.kind) ∧ w.cell? ⟨b, off + 1, none⟩ = some (.int .i64 o.no) ∧ w.cell? ⟨b, off + 2, none⟩ = some (.int .i64 o.gen) ∧ w.cell? ⟨b, off + 3, none⟩ = some (.int .i64 o.p.kind) ∧ w.cell? ⟨b, off + 4, none⟩ = some (.int .i64 o.p.level) ∧
  w.cell? ⟨b, off + 5, none⟩ = some (.slice ia o.p.items.length ic) ∧ w.cell? ⟨b, off + 6, none⟩ = some (.slice da o.p.data.length dc) ∧ w.cell? ⟨b, off + 7, none⟩ = some (.int .i64 o.p.next) ∧ w.cell? ⟨b, off + 8, none⟩ = some (.slice ba o.b.length bc)
def OpsAt (B : Nat) (w : World) (a : Option Addr) (os : List OpM) : Prop :=
  os = [] ∨ ∃ b off, a = some ⟨b, off, none⟩ ∧ b < B ∧ ∀ i o, os[i]? = some o → ∃ ia ic da dc ba bc, OpIn B w b (off + i * 9) o ia ic da dc ba bc
theorem OpsAt.below {B : Nat} {w w' : World} {a : Option Addr} {os : List OpM} (h : OpsAt B w a os) (hc : Below B w w') : OpsAt B w' a os := by
  rcases h with h | ⟨b, off, h1, h2, h3⟩
  · exact .inl h
  · refine .inr ⟨b, off, h1, h2, fun i o ho => ?_⟩
    obtain ⟨ia, ic, da, dc, ba, bc, g1, g2, g3, c0, c1, c2, c3, c4, c5, c6, c7, c8⟩ := h3 i o ho
    have e : ∀ k, w'.cell? ⟨b, k, none⟩ = w.cell? ⟨b, k, none⟩ := fun k => hc.cell (p := ⟨b, k, none⟩) h2
    exact ⟨ia, ic, da, dc, ba, bc, g1.below hc, g2.below hc, g3, (e _).trans c0, (e _).trans c1, (e _).trans c2, (e _).trans c3, (e _).trans c4, (e _).trans c5, (e _).trans c6, (e _).trans c7, (e _).trans c8⟩
theorem OpsAt.at {B : Nat} {w : World} {a : Option Addr} {os : List OpM} (h : OpsAt B w a os) {i : Nat} {o : OpM} (hi : os[i]? = some o) : ∃ b off ia ic da dc ba bc, a = some ⟨b, off, none⟩ ∧ b < B ∧ OpIn B w b (off + i * 9) o ia ic da dc ba bc := by
  rcases h with rfl | ⟨b, off, h1, h2, h3⟩
  · simp at hi
  · obtain ⟨ia, ic, da, dc, ba, bc, g⟩ := h3 i o hi
    exact ⟨b, off, ia, ic, da, dc, ba, bc, h1, h2, g⟩
theorem OpsAt.cut {B : Nat} {w : World} {a : Option Addr} {os : List OpM} (h : OpsAt B w a os) (n : Nat) : OpsAt B w a (os.take n) := by
  rcases h with rfl | ⟨b, off, h1, h2, h3⟩
  · exact .inl (by simp)
  · refine .inr ⟨b, off, h1, h2, fun i o ho => h3 i o ?_⟩
    rw [List.getElem?_take] at ho
    split at ho
    · exact ho
    · cases ho
section
variable {H : Type} {enc : TypeId × Value → H}
theorem cellsOp : Try.prog.cellsOf 29 = 9 := by kernel_rfl
theorem rd_slc {W : World} {n : Nat} {c : Value} {x : DataW H × List MemPlace} (h : Rd enc Try.prog W n 25 [c] = some x) (hz : ∀ q ∈ DataW.weights Try.prog 25 x.1, q ≤ reachBytes) :
    ∃ a cap bs, c = .slice a bs.length cap ∧ Sl W.heap.size W a cap bs ∧ bs.length ≤ cap := by
  obtain ⟨a, len, cap, zs, rfl, h1, h2⟩ := rd_bytes h hz
  have hlc := h1.len_cap
  obtain ⟨bs, rfl, hb⟩ := sl_of_row h1 h2
  exact ⟨a, cap, bs, rfl, hb, hlc⟩
set_option maxRecDepth 100000 in
theorem rd_page {W : World} {n : Nat} {c0 c1 c2 c3 c4 : Value} {x : DataW H × List MemPlace} (h : Rd enc Try.prog W n 27 [c0, c1, c2, c3, c4] = some x) (hz : ∀ q ∈ DataW.weights Try.prog 27 x.1, q ≤ reachBytes) :
    ∃ p ia ic da dc, c0 = .int .i64 p.kind ∧ c1 = .int .i64 p.level ∧ c2 = .slice ia p.items.length ic ∧ c3 = .slice da p.data.length dc ∧ c4 = .int .i64 p.next ∧ PgAt W.heap.size W p ia ic da dc := by
  obtain ⟨m2, _, hfl⟩ := rd_fields Try.underlying27 h
  obtain ⟨y0, r0, _⟩ := hfl 0 _ rfl
  obtain ⟨y1, r1, _⟩ := hfl 1 _ rfl
  obtain ⟨y2, r2, w2⟩ := hfl 2 _ rfl
  obtain ⟨y3, r3, w3⟩ := hfl 3 _ rfl
  obtain ⟨y4, r4, _⟩ := hfl 4 _ rfl
  obtain ⟨v0, rfl, k0⟩ := rd_int (c := c0) Try.underlying3 r0
  obtain ⟨v1, rfl, k1⟩ := rd_int (c := c1) Try.underlying3 r1
  obtain ⟨ia, ic, xs, rfl, hi, hl, hn⟩ := rd_items (c := c2) r2 (fun q hq => hz q (w2 q hq))
  obtain ⟨da, dc, ds, rfl, hd⟩ := rd_sl (c := c3) r3 (fun q hq => hz q (w3 q hq))
  obtain ⟨v4, rfl, k4⟩ := rd_int (c := c4) Try.underlying3 r4
  exact ⟨⟨v0, v1, xs, ds, v4⟩, ia, ic, da, dc, rfl, rfl, rfl, rfl, rfl, hi, hl, hn, hd, i64_le k0, i64_le k1, i64_le k4⟩
set_option maxRecDepth 100000 in
theorem open_script {W : World} {a : Option Addr} {len cap : Nat} {d : DataW H} {q : List MemPlace}
    (h : DataW.Trod enc Try.prog W 0 (fun _ => true) true 22 (Value.slice a len cap) d q) (hz : ∀ n ∈ DataW.weights Try.prog 22 d, n ≤ reachBytes) : len ≤ cap ∧ cap ≤ 9223372036854775807 ∧ ∃ os : List OpM, os.length = len ∧ OpsAt W.heap.size W a os := by
  obtain ⟨fuel, hf⟩ := h
  rcases rd_elems (x := (d, q)) Try.underlying22 hf with h0 | ⟨ad, len2, cap2, m, hcs, hl, hm, -, hel⟩
  · cases h0
    exact ⟨Nat.le_refl _, by decide, [], rfl, .inl rfl⟩
  · cases hcs
    have hm' : cap ≤ 9223372036854775807 := by unfold maxLen at hm; omega
    have hex : ∀ i, i < len → ∃ (o : OpM) (ia : Option Addr) (ic : Nat) (da : Option Addr) (dc : Nat) (ba : Option Addr) (bc : Nat), PgAt W.heap.size W o.p ia ic da dc ∧ Sl W.heap.size W ba bc o.b ∧ o.b.length ≤ bc ∧
        W.cell? (ad.add (i * 9 + 0)) = some (.int .i64 o.kind) ∧ W.cell? (ad.add (i * 9 + 1)) = some (.int .i64 o.no) ∧ W.cell? (ad.add (i * 9 + 2)) = some (.int .i64 o.gen) ∧ W.cell? (ad.add (i * 9 + 3)) = some (.int .i64 o.p.kind) ∧ W.cell? (ad.add (i * 9 + 4)) = some (.int .i64 o.p.level) ∧ W.cell? (ad.add (i * 9 + 5)) = some (.slice ia o.p.items.length ic) ∧ W.cell? (ad.add (i * 9 + 6)) = some (.slice da o.p.data.length dc) ∧ W.cell? (ad.add (i * 9 + 7)) = some (.int .i64 o.p.next) ∧ W.cell? (ad.add (i * 9 + 8)) = some (.slice ba o.b.length bc) := fun i hil => by
      obtain ⟨cs, y, hcl, hat, hrd, hw⟩ := hel i (by omega)
      rw [cellsOp] at hcl hat
      obtain ⟨m2, _, hfl⟩ := rd_fields Try.underlying29 hrd
      match cs, hcl with
      | [c0, c1, c2, c3, c4, c5, c6, c7, c8], _ =>
        obtain ⟨y0, r0, _⟩ := hfl 0 _ rfl
        obtain ⟨y1, r1, _⟩ := hfl 1 _ rfl
        obtain ⟨y2, r2, _⟩ := hfl 2 _ rfl
        obtain ⟨y3, r3, w3⟩ := hfl 3 _ rfl
        obtain ⟨y4, r4, w4⟩ := hfl 4 _ rfl
        obtain ⟨v0, rfl, k0⟩ := rd_int (c := c0) Try.underlying3 r0
        obtain ⟨v1, rfl, k1⟩ := rd_int (c := c1) Try.underlying3 r1
        obtain ⟨v2, rfl, k2⟩ := rd_int (c := c2) Try.underlying3 r2
        obtain ⟨p, ia, ic, da, dc, rfl, rfl, rfl, rfl, rfl, hp⟩ := rd_page (c0 := c3) (c1 := c4) (c2 := c5) (c3 := c6) (c4 := c7) r3 (fun q hq => hz q (hw q (w3 q hq)))
        obtain ⟨ba, bc, bs, rfl, hb, hbc⟩ := rd_slc (c := c8) r4 (fun q hq => hz q (hw q (w4 q hq)))
        exact ⟨⟨v0, v1, v2, p, bs⟩, ia, ic, da, dc, ba, bc, hp, hb, hbc, hat 0 (by omega), hat 1 (by omega), hat 2 (by omega), hat 3 (by omega), hat 4 (by omega), hat 5 (by omega), hat 6 (by omega), hat 7 (by omega), hat 8 (by omega)⟩
    by_cases hl0 : len = 0
    · subst hl0; exact ⟨hl, hm', [], rfl, .inl rfl⟩
    · obtain ⟨_, _, _, _, _, _, _, _, _, _, e0, _⟩ := hex 0 (by omega)
      obtain ⟨b, off, vi⟩ := ad
      have hspot : vi = none := by simpa [Addr.add] using World.cell?_spot e0
      subst hspot
      have hblt : b < W.heap.size := by rw [add_none] at e0; exact block_lt_of_cell e0
      have hex2 : ∀ i, i < len → ∃ (o : OpM) (ia : Option Addr) (ic : Nat) (da : Option Addr) (dc : Nat) (ba : Option Addr) (bc : Nat), OpIn W.heap.size W b (off + i * 9) o ia ic da dc ba bc := fun i hil => by
        obtain ⟨o, ia, ic, da, dc, ba, bc, hp, hb, hbc, c0, c1, c2, c3, c4, c5, c6, c7, c8⟩ := hex i hil
        simp only [add_none, Nat.add_zero, ← Nat.add_assoc] at c0 c1 c2 c3 c4 c5 c6 c7 c8
        exact ⟨o, ia, ic, da, dc, ba, bc, hp, hb, hbc, c0, c1, c2, c3, c4, c5, c6, c7, c8⟩
      refine ⟨hl, hm', List.ofFn fun i : Fin len => Classical.choose (hex2 i i.2), by simp, .inr ⟨b, off, rfl, hblt, fun i o hr => ?_⟩⟩
      rw [List.getElem?_ofFn] at hr
      by_cases hi : i < len
      · rw [dif_pos hi] at hr
        cases hr
        exact Classical.choose_spec (hex2 i hi)
      · rw [dif_neg hi] at hr; cases hr
end
theorem longP_any (n : Int) (w : World) : Calls Try.prog 12 #[.int .i64 n] w fun x w' => x = .returned (.bool (decide (1048576 < n))) ∧ w = w' := by
  by_cases h : 1048576 < n
  · rw [decide_eq_true h]
    go_enter Try.func12, Try.ntmps12
    go_wp2_with fail
    go_ret
    exact ⟨by simp, rfl⟩
  · rw [decide_eq_false h]
    go_enter Try.func12, Try.ntmps12
    go_wp2_with fail
    go_ret
    exact ⟨by simp, rfl⟩
/-- small answers -/
def AnOk (A : AN) : Prop := (A.p = zeroP ∨ RightP A.p) ∧ A.b.length ≤ 512 ∧ A.l.length ≤ 70000
theorem pdec_or (no : Int) (bs : List UInt8) : (pdec no bs).2.1 = zeroP ∨ (pdec no bs).1 = 0 := by
  unfold pdec
  repeat' split
  all_goals first | (left; rfl) | (right; rfl)
theorem ans_ok (kind no gen : Int) (p : PP) (bs : List UInt8) (hn : p.items.length ≤ 65536) : AnOk (ans kind no gen p bs) := by
  unfold ans
  split
  · exact ⟨.inl rfl, Nat.zero_le _, Nat.zero_le _⟩
  · split
    · exact ⟨.inl rfl, penc_small' rfl, Nat.zero_le _⟩
    · split
      · refine ⟨?_, Nat.zero_le _, Nat.zero_le _⟩
        rcases pdec_or no bs with h | h
        · exact .inl h
        · obtain ⟨⟨e, q, g⟩, hr⟩ : ∃ r, pdec no bs = r := ⟨_, rfl⟩
          rw [hr] at h ⊢
          simp only at h ⊢
          subst h
          exact .inr (pcheck_right (pdec_one hr).2.2.1)
      · refine ⟨.inl rfl, Nat.zero_le _, ?_⟩
        have := kidsN_len p.kind p.items
        unfold pkids
        rw [List.length_append]
        split
        · simp; omega
        · simp; omega
/-- an answer between two marks -/
structure AnZ (lo hi : Nat) (w : World) (A : AN) (d : AD) (zs : List (PI × TA)) : Prop where
  zp : zs.map (·.1) = A.p.items
  its : Its lo hi w d.ia d.ic zs
  da : OB w d.da d.dc A.p.data
  dal : ∀ k, blk d.da = some k → lo ≤ k ∧ k < hi
  one : d.da = none ∨ zs = []
  b : OB w d.ba d.bc A.b
  bl : ∀ k, blk d.ba = some k → lo ≤ k ∧ k < hi
  l : ON w d.la d.lc A.l
  ll : ∀ k, blk d.la = some k → lo ≤ k ∧ k < hi
  two : d.ba = none ∨ (d.da = none ∧ zs = [])
  lh : lo ≤ hi
theorem AnAt.z {lo : Nat} {w : World} {A : AN} {d : AD} (h : AnAt lo w A d) (hl : lo ≤ w.heap.size) : ∃ zs, AnZ lo w.heap.size w A d zs := by
  obtain ⟨⟨zs, hz, hI, hO, hd, hn⟩, hb, hbl, hL, hll, ho⟩ := h
  refine ⟨zs, hz, hI, hO, fun k e => ⟨hd k e, hO.lt k e⟩, hn, hb, fun k e => ⟨hbl k e, hb.lt k e⟩, hL, fun k e => ⟨hll k e, OR.lt hL k e⟩, ?_, hl⟩
  rcases ho with ho | ⟨h1, h2⟩
  · exact .inl ho
  · refine .inr ⟨h1, List.length_eq_zero_iff.1 ?_⟩
    rw [← List.length_map (f := (·.1)), hz, h2]; rfl
theorem AnZ.chg {F : Nat → Prop} {lo hi : Nat} {w w' : World} {A : AN} {d : AD} {zs : List (PI × TA)} (h : AnZ lo hi w A d zs) (hc : Chg F w w') (hF : ∀ k, F k → k < lo) : AnZ lo hi w' A d zs :=
  ⟨h.zp, h.its.chg hc (fun k e f => by have := h.its.lob k e; have := hF k f; omega) (fun a ha k e f => by have := (h.its.up.mem a ha k e).1; have := hF k f; omega), h.da.chg hc (fun k e f => by have := h.dal k e; have := hF k f; omega), h.dal, h.one,
   h.b.chg hc (fun k e f => by have := h.bl k e; have := hF k f; omega), h.bl, OR.chg h.l hc (fun k e f => by have := h.ll k e; have := hF k f; omega), h.ll, h.two, h.lh⟩
theorem AnZ.below {lo hi : Nat} {w w' : World} {A : AN} {d : AD} {zs : List (PI × TA)} (h : AnZ lo hi w A d zs) (hb : Below w.heap.size w w') : AnZ lo hi w' A d zs := h.chg (F := fun _ => False) (Chg.of_below hb) (fun _ f => f.elim)
theorem AnZ.rd {lo hi : Nat} {w : World} {A : AN} {d : AD} {zs : List (PI × TA)} (h : AnZ lo hi w A d zs) (hA : AnOk A) : AnRd w A d := by
  refine ⟨?_, h.b.bts, h.l.nts⟩
  have hN : NewPg lo w A.p d.ia d.ic d.da d.dc := ⟨zs, h.zp, h.its.hi h.its.top (Nat.le_refl _), h.da, fun k e => (h.dal k e).1, h.one⟩
  rcases hA.1 with e | e
  · rw [e] at hN ⊢
    exact hN.pgAt (fun x hx => by cases hx) (by decide) (by decide) ⟨by decide, by decide⟩ ⟨by decide, by decide⟩ ⟨by decide, by decide⟩
  · exact hN.right e
/-- its lists of bytes -/
def anL (A : AN) (d : AD) (zs : List (PI × TA)) : List Lst := ⟨d.da, d.dc, A.p.data.length⟩ :: lsZ zs ++ [⟨d.ba, d.bc, A.b.length⟩]
theorem lsZ_oa (zs : List (PI × TA)) : (lsZ zs).map Lst.oa = adrs zs := by
  simp [lsZ, adrs, List.map_flatMap]
theorem anL_oa (A : AN) (d : AD) (zs : List (PI × TA)) : (anL A d zs).map Lst.oa = d.da :: adrs zs ++ [d.ba] := by
  simp [anL, lsZ_oa]
theorem AnZ.up {lo hi : Nat} {w : World} {A : AN} {d : AD} {zs : List (PI × TA)} (h : AnZ lo hi w A d zs) : Up lo hi ((anL A d zs).map Lst.oa) := by
  rw [anL_oa]
  have hU := h.its.up
  have hle := h.lh
  have none_up : ∀ {a b : Nat} {o : Option Addr}, a ≤ b → o = none → Up a b [o] := fun {a b o} hab ho => ⟨b, hab, fun k e => (by rw [ho] at e; cases e), Nat.le_refl b⟩
  have one_up : ∀ {o : Option Addr}, (∀ k, blk o = some k → lo ≤ k ∧ k < hi) → Up lo hi [o] := fun ho => ⟨hi, hle, ho, Nat.le_refl _⟩
  have nil_up : ∀ {a b : Nat}, a ≤ b → Up a b (adrs []) := fun hab => hab
  rcases h.two with h2 | ⟨h2, h3⟩
  · rcases h.one with h1 | h1
    · have := Up.append (Up.append (none_up (Nat.le_refl lo) h1) hU) (none_up (Nat.le_refl hi) h2)
      simpa using this
    · rw [h1]
      have := Up.append (Up.append (one_up h.dal) (nil_up (Nat.le_refl hi))) (none_up (Nat.le_refl hi) h2)
      simpa using this
  · rw [h3]
    have := Up.append (Up.append (none_up (Nat.le_refl lo) h2) (nil_up (Nat.le_refl lo))) (one_up h.bl)
    simpa using this
theorem AnZ.own {lo hi : Nat} {w : World} {A : AN} {d : AD} {zs : List (PI × TA)} (h : AnZ lo hi w A d zs) : ∀ e ∈ anL A d zs, ∃ cs, OR eB w e.oa e.cap e.n cs := by
  intro e he
  unfold anL at he
  rcases List.mem_append.1 he with he | he
  · rcases List.mem_cons.1 he with rfl | he
    · exact ⟨_, h.da⟩
    · unfold lsZ at he
      obtain ⟨z, hz, he⟩ := List.mem_flatMap.1 he
      have ho := h.its.obs z hz
      simp at he
      rcases he with rfl | rfl
      · exact ⟨_, ho.1⟩
      · exact ⟨_, ho.2⟩
  · simp at he; subst he
    exact ⟨_, h.b⟩
theorem anL_small {lo hi : Nat} {w : World} {A : AN} {d : AD} {zs : List (PI × TA)} (h : AnZ lo hi w A d zs) (hA : AnOk A) : (anL A d zs).length ≤ 20 ∧ ∀ e ∈ anL A d zs, e.n ≤ 70000 := by
  have hzl : zs.length = A.p.items.length := by rw [← h.zp, List.length_map]
  have hi8 : A.p.items.length ≤ 8 := by
    rcases hA.1 with e | e
    · rw [e]; exact Nat.zero_le _
    · exact e.items
  refine ⟨by unfold anL; rw [List.length_append, List.length_cons, lsZ_length]; simp; omega, fun e he => ?_⟩
  unfold anL at he
  rcases List.mem_append.1 he with he | he
  · rcases List.mem_cons.1 he with rfl | he
    · rcases hA.1 with e | e
      · show A.p.data.length ≤ _; rw [e]; exact Nat.zero_le _
      · show A.p.data.length ≤ _
        by_cases h3 : A.p.kind = 3
        · have := e.blob h3; omega
        · rw [(e.data h3).1]; exact Nat.zero_le _
    · unfold lsZ at he
      obtain ⟨z, hz, he⟩ := List.mem_flatMap.1 he
      have hx : z.1 ∈ A.p.items := by rw [← h.zp]; exact List.mem_map_of_mem hz
      rcases hA.1 with e | e
      · rw [e] at hx; cases hx
      · obtain ⟨i, hi⟩ := List.mem_iff_getElem?.1 hx
        have h1 := e.all i _ hi
        have h2 := h1.key
        have h3 := h1.value_len
        simp at he
        rcases he with rfl | rfl
        · show z.1.key.length ≤ _; omega
        · show z.1.value.length ≤ _; omega
  · simp at he; subst he
    exact Nat.le_trans hA.2.1 (by decide)
/-- lists with room, turned over -/
def ShL (w : World) (es : List Lst) : Prop := ∀ e ∈ es, ∃ bs, bs.length = e.n + 64 ∧ OB w e.oa (e.n + 64) bs
def RelFlL (W : World) (es : List Lst) (n : Nat) (v : Value) (wr : World) : Prop := ∃ k : Nat, k ≤ n ∧ v = .int .i64 k ∧ ShL wr es ∧ Chg (mine es) W wr
theorem OB.set8L {w : World} {g cap : Nat} {bs : List UInt8} (h : OB w (some ⟨g, 0, none⟩) cap bs) (j : Nat) (hj : j < bs.length) (v : Int) (h0 : 0 ≤ v) (h1 : v < 256) : OB (w.setCell ⟨g, j, none⟩ (.int .u8 v)) (some ⟨g, 0, none⟩) cap (bs.set j (UInt8.ofNat v.toNat)) := by
  have := OR.set (E := eB) h j (.int .u8 v) (by rw [cellsB_length]; exact hj)
  have hv : ((UInt8.ofNat v.toNat).toNat : Int) = v := by rw [UInt8.toNat_ofNat']; omega
  have e : cellsB (bs.set j (UInt8.ofNat v.toNat)) = (cellsB bs).set j (.int .u8 v) := by
    unfold cellsB; rw [List.map_set, hv]
  unfold OB
  rw [List.length_set, e]
  exact this
theorem relFlL_next {W wr : World} {es : List Lst} {e : Lst} {n k g m : Nat} {v : Int} (hk : k < n) (hs : ShL wr es) (hC : Chg (mine es) W wr) (he : e ∈ es) (hg : e.oa = some ⟨g, 0, none⟩) (hkm : k < m) (h0 : 0 ≤ v) (h1 : v < 256)
    (hsep : ∀ x ∈ es, blk x.oa = some g → x.oa = some ⟨g, 0, none⟩ ∧ m ≤ x.n) {i : Value} (hi : i = .int .i64 ((k + 1 : Nat) : Int)) : RelFlL W es n i (wr.setCell ⟨g, k, none⟩ (.int .u8 v)) := by
  subst hi
  refine ⟨k + 1, hk, rfl, fun x hx => ?_, hC.setCell ⟨g, k, none⟩ _ (fun _ => ⟨e, he, by rw [hg]; rfl⟩)⟩
  obtain ⟨bs, hb, hO⟩ := hs x hx
  by_cases hxg : blk x.oa = some g
  · obtain ⟨e1, e2⟩ := hsep x hx hxg
    rw [e1] at hO ⊢
    exact ⟨_, by rw [List.length_set]; exact hb, hO.set8L k (by omega) v h0 h1⟩
  · exact ⟨bs, hb, hO.chg (Chg.set wr ⟨g, k, none⟩ _) (fun j e f => hxg (by rw [e]; exact congrArg some f))⟩
/-- the lists of a page that SparePage made, and of the bytes beside it -/
def spL (gd dl gb bl : Nat) (zs : List (PI × TA)) : List Lst := ⟨some ⟨gd, 0, none⟩, dl + 64, dl⟩ :: lsZ zs ++ [⟨some ⟨gb, 0, none⟩, bl + 64, bl⟩]
theorem spL_oa (gd dl gb bl : Nat) (zs : List (PI × TA)) : (spL gd dl gb bl zs).map Lst.oa = some ⟨gd, 0, none⟩ :: adrs zs ++ [some ⟨gb, 0, none⟩] := by
  simp [spL, lsZ_oa]
theorem spL_form {lo : Nat} {w : World} {p : PP} {gi gd gb bl : Nat} {zs : List (PI × TA)} (h : SpP lo w p gi gd zs) : ∀ e ∈ spL gd p.data.length gb bl zs, ∃ g, e.oa = some ⟨g, 0, none⟩ ∧ e.cap = e.n + 64 := by
  intro e he
  unfold spL at he
  rcases List.mem_append.1 he with he | he
  · rcases List.mem_cons.1 he with rfl | he
    · exact ⟨gd, rfl, rfl⟩
    · unfold lsZ at he
      obtain ⟨z, hz, he⟩ := List.mem_flatMap.1 he
      obtain ⟨k, v, ez, -⟩ := h.obs z hz
      simp only [List.mem_cons, List.not_mem_nil, or_false] at he
      rcases he with rfl | rfl
      · exact ⟨k, by rw [ez], by rw [ez]⟩
      · exact ⟨v, by rw [ez], by rw [ez]⟩
  · simp at he; subst he
    exact ⟨gb, rfl, rfl⟩
theorem spL_sh {lo : Nat} {w : World} {p : PP} {gi gd gb : Nat} {bs : List UInt8} {zs : List (PI × TA)} (h : SpP lo w p gi gd zs) (hb : Spared w gb bs) : ShL w (spL gd p.data.length gb bs.length zs) := by
  intro e he
  unfold spL at he
  rcases List.mem_append.1 he with he | he
  · rcases List.mem_cons.1 he with rfl | he
    · exact ⟨full p.data, full_length _, h.dat⟩
    · unfold lsZ at he
      obtain ⟨z, hz, he⟩ := List.mem_flatMap.1 he
      obtain ⟨k, v, ez, s1, s2, -⟩ := h.obs z hz
      simp only [List.mem_cons, List.not_mem_nil, or_false] at he
      rcases he with rfl | rfl
      · exact ⟨full z.1.key, full_length _, by rw [ez]; exact s1⟩
      · exact ⟨full z.1.value, full_length _, by rw [ez]; exact s2⟩
  · simp at he; subst he
    exact ⟨full bs, full_length _, hb⟩
theorem spL_up {lo : Nat} {w : World} {p : PP} {gi gd gb bl : Nat} {zs : List (PI × TA)} (h : SpP lo w p gi gd zs) (hu : Up (gi + 1) gb (adrs zs)) : Up lo (gb + 1) ((spL gd p.data.length gb bl zs).map Lst.oa) := by
  rw [spL_oa]
  have h1 : Up lo (gi + 1) [some ⟨gd, 0, none⟩] := ⟨gi + 1, by have := h.gdl; omega, fun k e => by have hk : gd = k := Option.some.inj e; have := h.gdl; omega, Nat.le_refl _⟩
  have h2 : Up gb (gb + 1) [some ⟨gb, 0, none⟩] := ⟨gb + 1, Nat.le_succ _, fun k e => by have hk : gb = k := Option.some.inj e; omega, Nat.le_refl _⟩
  have := Up.append (Up.append h1 hu) h2
  simpa using this
theorem up_sepP : ∀ {ds : List (Option Addr)} {lo hi : Nat}, Up lo hi ds → ∀ (i j : Nat) (a b : Option Addr), ds[i]? = some a → ds[j]? = some b → i ≠ j → ∀ k, blk a = some k → ¬ blk b = some k
  | [], _, _, _, i, _, _, _, h, _, _, _, _ => by simp at h
  | d :: ds, lo, hi, ⟨m, h1, h2, h3⟩, i, j, a, b, ha, hb, hij, k, ka => fun kb => by
    match i, j, ha, hb, hij with
    | 0, 0, _, _, hij => exact hij rfl
    | 0, j + 1, ha, hb, _ =>
      simp at ha; subst ha
      have q1 := (h2 k ka).2
      have q2 := (h3.mem b (List.mem_of_getElem? (by simpa using hb)) k kb).1
      omega
    | i + 1, 0, ha, hb, _ =>
      simp at hb; subst hb
      have q1 := (h2 k kb).2
      have q2 := (h3.mem a (List.mem_of_getElem? (by simpa using ha)) k ka).1
      omega
    | i + 1, j + 1, ha, hb, hij => exact up_sepP h3 i j a b (by simpa using ha) (by simpa using hb) (fun e => hij (by omega)) k ka kb
theorem sep_of_up {lo hi : Nat} {es : List Lst} (h : Up lo hi (es.map Lst.oa)) : SepL es := by
  intro i j e f he hf hij k hk
  exact up_sepP h i j _ _ (by rw [List.getElem?_map, he]; rfl) (by rw [List.getElem?_map, hf]; rfl) hij k hk
theorem Bts.take_of {w : World} {oa : Option Addr} {cap n : Nat} {bs : List UInt8} (h : OB w oa cap bs) (hl : bs.length = n + 64) : ∃ b2 : List UInt8, b2.length = n ∧ Bts w oa b2 :=
  ⟨bs.take n, by rw [List.length_take]; omega, OB.low (xs := bs.drop n) (cap := cap) (by rw [List.take_append_drop]; exact h)⟩
theorem flipped {lo : Nat} {w w' : World} {p : PP} {gi gd gb : Nat} {bs : List UInt8} {zs : List (PI × TA)} (h : SpP lo w p gi gd zs) (hb : Spared w gb bs) (hu : Up (gi + 1) gb (adrs zs)) (hn : p.items.length ≤ 65536) (hS : ShL w' (spL gd p.data.length gb bs.length zs)) (hC : Chg (mine (spL gd p.data.length gb bs.length zs)) w w') :
    ∃ (p2 : PP) (b2 : List UInt8), p2.kind = p.kind ∧ p2.level = p.level ∧ p2.next = p.next ∧ p2.items.length = p.items.length ∧ p2.data.length = p.data.length ∧ b2.length = bs.length ∧ PgAt w'.heap.size w' p2 (some ⟨gi, 0, none⟩) (p.items.length + 2) (some ⟨gd, 0, none⟩) (p.data.length + 64) ∧ Bts w' (some ⟨gb, 0, none⟩) b2 ∧
      (∀ x ∈ p2.items, x.key.length ≤ 140737488351232 ∧ x.value.length ≤ 140737488351232) := by
  have hgi : ¬ mine (spL gd p.data.length gb bs.length zs) gi := fun ⟨e, he, hk⟩ => by
    have hm : e.oa ∈ (spL gd p.data.length gb bs.length zs).map Lst.oa := List.mem_map.2 ⟨e, he, rfl⟩
    rw [spL_oa] at hm
    have hgd := h.gdl
    have hle := hu.le
    rcases List.mem_append.1 hm with hm | hm
    · rcases List.mem_cons.1 hm with hm | hm
      · rw [hm] at hk; have h1 : gd = gi := Option.some.inj hk; omega
      · have := (hu.mem _ hm gi hk).1; omega
    · simp at hm; rw [hm] at hk; have h1 : gb = gi := Option.some.inj hk; omega
  have hmem1 : ∀ z ∈ zs, (⟨z.2.ka, z.2.kc, z.1.key.length⟩ : Lst) ∈ spL gd p.data.length gb bs.length zs ∧ (⟨z.2.va, z.2.vc, z.1.value.length⟩ : Lst) ∈ spL gd p.data.length gb bs.length zs := fun z hz => by
    unfold spL lsZ
    exact ⟨List.mem_append.2 (.inl (List.mem_cons_of_mem _ (List.mem_flatMap.2 ⟨z, hz, by simp⟩))), List.mem_append.2 (.inl (List.mem_cons_of_mem _ (List.mem_flatMap.2 ⟨z, hz, by simp⟩)))⟩
  obtain ⟨bd, hbd, hOd⟩ := hS ⟨some ⟨gd, 0, none⟩, p.data.length + 64, p.data.length⟩ (by simp [spL])
  obtain ⟨bb, hbb, hOb⟩ := hS ⟨some ⟨gb, 0, none⟩, bs.length + 64, bs.length⟩ (by simp [spL])
  obtain ⟨d2, hd2, hD2⟩ := Bts.take_of hOd hbd
  obtain ⟨b2, hb2, hB2⟩ := Bts.take_of hOb hbb
  have hd2 : d2.length = p.data.length := hd2
  have hb2 : b2.length = bs.length := hb2
  have hex : ∀ i, i < zs.length → ∃ x : PI, ∀ z, zs[i]? = some z → x.child = z.1.child ∧ x.size = z.1.size ∧ x.key.length = z.1.key.length ∧ x.value.length = z.1.value.length ∧ Bts w' z.2.ka x.key ∧ Bts w' z.2.va x.value := fun i hi => by
    obtain ⟨z, hz⟩ : ∃ z, zs[i]? = some z := ⟨_, List.getElem?_eq_getElem hi⟩
    have hm := List.mem_of_getElem? hz
    obtain ⟨m1, m2⟩ := hmem1 z hm
    obtain ⟨k1, hk1, hO1⟩ := hS _ m1
    obtain ⟨v1, hv1, hO2⟩ := hS _ m2
    obtain ⟨k2, hk2, hK2⟩ := Bts.take_of hO1 hk1
    obtain ⟨v2, hv2, hV2⟩ := Bts.take_of hO2 hv1
    refine ⟨⟨k2, v2, z.1.child, z.1.size⟩, fun z' hz' => ?_⟩
    rw [hz] at hz'; cases hz'
    exact ⟨rfl, rfl, hk2, hv2, hK2, hV2⟩
  have hzl : zs.length = p.items.length := by rw [← h.zp, List.length_map]
  have hsz := hC.size
  have hgil := h.own.lt gi rfl
  have hget : ∀ (i : Nat) (x : PI), (List.ofFn fun i : Fin zs.length => Classical.choose (hex i i.2))[i]? = some x → ∃ z : PI × TA, zs[i]? = some z ∧ x.child = z.1.child ∧ x.size = z.1.size ∧ x.key.length = z.1.key.length ∧ x.value.length = z.1.value.length ∧ Bts w' z.2.ka x.key ∧ Bts w' z.2.va x.value := fun i x hx => by
    rw [List.getElem?_ofFn] at hx
    by_cases hi : i < zs.length
    · rw [dif_pos hi] at hx
      cases hx
      exact ⟨_, List.getElem?_eq_getElem hi, Classical.choose_spec (hex i hi) _ (List.getElem?_eq_getElem hi)⟩
    · rw [dif_neg hi] at hx; cases hx
  have bl : ∀ {k : Nat} {cap : Nat} {bs2 : List UInt8} {e : Lst}, e ∈ spL gd p.data.length gb bs.length zs → e.oa = some ⟨k, 0, none⟩ → k < w'.heap.size := fun {k cap bs2 e} he hk => by
    obtain ⟨b3, -, hO3⟩ := hS e he
    rw [hk] at hO3
    exact OR.lt hO3 k rfl
  refine ⟨⟨p.kind, p.level, List.ofFn fun i : Fin zs.length => Classical.choose (hex i i.2), d2, p.next⟩, b2, rfl, rfl, rfl, by simp [hzl], hd2, hb2, ⟨?_, ?_, fun e => (by cases e), ⟨hD2, .inr fun k e => ?_, by show d2.length ≤ _; have := h.dl; omega, fun e => (by cases e)⟩, h.kd, h.lv, h.nx⟩, hB2, fun x hx => ?_⟩
  · refine .inr ⟨gi, 0, rfl, Nat.lt_of_lt_of_le hgil hsz, fun i x hx => ?_⟩
    obtain ⟨z, hz, h1, h2, h3, h4, h5, h6⟩ := hget i x hx
    obtain ⟨_, _, e, -, c0, c1, c2, c3⟩ := h.z.at hz
    cases e
    have hm := List.mem_of_getElem? hz
    obtain ⟨k, v, ez, -, -, l1, l2, l3, l4⟩ := h.obs z hm
    obtain ⟨m1, m2⟩ := hmem1 z hm
    have ec : ∀ j, w'.cell? ⟨gi, j, none⟩ = w.cell? ⟨gi, j, none⟩ := fun j => hC.cell (p := ⟨gi, j, none⟩) hgil hgi
    rw [ez] at h5 h6 c0 c1 m1 m2
    simp only at h5 h6 c0 c1 m1 m2
    refine ⟨some ⟨k, 0, none⟩, z.1.key.length + 64, some ⟨v, 0, none⟩, z.1.value.length + 64, ?_, ?_, ?_, ?_, ⟨h5, .inr fun j e => ?_, by omega, fun e => (by cases e)⟩, ⟨h6, .inr fun j e => ?_, by omega, fun e => (by cases e)⟩, by rw [h1]; exact l3, by rw [h2]; exact l4⟩
    · rw [ec, c0, h3]
    · rw [ec, c1, h4]
    · rw [ec, c2, h1]
    · rw [ec, c3, h2]
    · have hj : k = j := Option.some.inj e
      rw [← hj]; exact bl (cap := 0) (bs2 := []) m1 rfl
    · have hj : v = j := Option.some.inj e
      rw [← hj]; exact bl (cap := 0) (bs2 := []) m2 rfl
  · simp only [List.length_ofFn]; omega
  · have hj : gd = k := Option.some.inj e
    rw [← hj]; exact bl (cap := 0) (bs2 := []) (e := ⟨some ⟨gd, 0, none⟩, p.data.length + 64, p.data.length⟩) (by simp [spL]) rfl
  · obtain ⟨i, hi⟩ := List.mem_iff_getElem?.1 hx
    obtain ⟨z, hz, -, -, h3, h4, -⟩ := hget i x hi
    obtain ⟨k, v, -, -, -, l1, l2, -⟩ := h.obs z (List.mem_of_getElem? hz)
    omega
end Go.Proofs.Ytkjgncmbhkhbnaa
namespace Go.Proofs.Ytkjgncmbhkhbnaa
open Go.RowKit
set_option linter.unusedVariables false
set_option maxRecDepth 100000

/-- behind 'o := ..': the call's own copy -/
def OCut (W : World) (kind no gen : Int) (p : PP) (bs : List UInt8) (n dl bl : Nat) (v : Value) (wx : World) : Prop :=
  ∃ q gi gd gb zs, v = .pointer (some ⟨q, 0, none⟩) ∧ wx.heap[q]? = some (.cells #[.int .i64 kind, .int .i64 no, .int .i64 gen, .int .i64 p.kind, .int .i64 p.level, .slice (some ⟨gi, 0, none⟩) n (n + 2), .slice (some ⟨gd, 0, none⟩) dl (dl + 64), .int .i64 p.next, .slice (some ⟨gb, 0, none⟩) bl (bl + 64)] 29) ∧ SpP W.heap.size wx p gi gd zs ∧ Spared wx gb bs ∧ Up (gi + 1) gb (adrs zs) ∧ (¬ mine (spL gd dl gb bl zs) q ∧ q ≠ gi) ∧ W.heap.size ≤ q ∧ Below W.heap.size W wx
theorem chg_nine9 (w : World) (g : Nat) (v0 v1 v2 v3 v4 v5 v6 v7 v8 : Value) : Chg (fun k => k = g) w (((((((((w.setCell ⟨g, 0, none⟩ v0).setCell ⟨g, 1, none⟩ v1).setCell ⟨g, 2, none⟩ v2).setCell ⟨g, 3, none⟩ v3).setCell ⟨g, 4, none⟩ v4).setCell ⟨g, 5, none⟩ v5).setCell ⟨g, 6, none⟩ v6).setCell ⟨g, 7, none⟩ v7).setCell ⟨g, 8, none⟩ v8) := chg_nine w g v0 v1 v2 v3 v4 v5 v6 v7 v8
theorem SpP.chgP {F : Nat → Prop} {lo : Nat} {w w' : World} {p : PP} {gi gd : Nat} {zs : List (PI × TA)} (h : SpP lo w p gi gd zs) (hc : Chg F w w') (h1 : ¬ F gi) (h2 : ¬ F gd) (h3 : ∀ a ∈ adrs zs, ∀ k, blk a = some k → ¬ F k) : SpP lo w' p gi gd zs :=
  ⟨h.zp, h.own.chg hc (fun k e => by cases e; exact h1), fun z hz => (h.obs z hz).chg hc (h3 _ (mem_adrs hz).1) (h3 _ (mem_adrs hz).2), h.dat.chg hc h2, h.dl, h.gdl, h.up.mono hc.size, h.kd, h.lv, h.nx⟩
theorem mine_spL {gd dl gb bl k : Nat} {zs : List (PI × TA)} : mine (spL gd dl gb bl zs) k ↔ (gd = k ∨ gb = k ∨ ∃ a ∈ adrs zs, blk a = some k) := by
  have h1 : mine (spL gd dl gb bl zs) k ↔ ∃ a ∈ (spL gd dl gb bl zs).map Lst.oa, blk a = some k := by
    constructor
    · rintro ⟨e, he, hk⟩; exact ⟨_, List.mem_map.2 ⟨e, he, rfl⟩, hk⟩
    · rintro ⟨a, ha, hk⟩
      obtain ⟨e, he, rfl⟩ := List.mem_map.1 ha
      exact ⟨e, he, hk⟩
  rw [h1, spL_oa]
  constructor
  · rintro ⟨a, ha, hk⟩
    rcases List.mem_append.1 ha with ha | ha
    · rcases List.mem_cons.1 ha with rfl | ha
      · exact .inl (Option.some.inj hk)
      · exact .inr (.inr ⟨a, ha, hk⟩)
    · simp at ha; subst ha
      exact .inr (.inl (Option.some.inj hk))
  · rintro (rfl | rfl | ⟨a, ha, hk⟩)
    · exact ⟨_, List.mem_append.2 (.inl (List.mem_cons_self ..)), rfl⟩
    · exact ⟨_, List.mem_append.2 (.inr (List.mem_cons_self ..)), rfl⟩
    · exact ⟨a, List.mem_append.2 (.inl (List.mem_cons_of_mem _ ha)), hk⟩
theorem row_nine {w : World} {q : Nat} {z0 z1 z2 z3 z4 z5 z6 z7 z8 : Value} {T : TypeId} (h : w.heap[q]? = some (.cells #[z0, z1, z2, z3, z4, z5, z6, z7, z8] T)) (v0 v1 v2 v3 v4 v5 v6 v7 v8 : Value) :
    (((((((((w.setCell ⟨q, 0, none⟩ v0).setCell ⟨q, 1, none⟩ v1).setCell ⟨q, 2, none⟩ v2).setCell ⟨q, 3, none⟩ v3).setCell ⟨q, 4, none⟩ v4).setCell ⟨q, 5, none⟩ v5).setCell ⟨q, 6, none⟩ v6).setCell ⟨q, 7, none⟩ v7).setCell ⟨q, 8, none⟩ v8).heap[q]? = some (.cells #[v0, v1, v2, v3, v4, v5, v6, v7, v8] T) := by
  have h0 : (w.setCell ⟨q, 0, none⟩ v0).heap[q]? = some (.cells #[v0, z1, z2, z3, z4, z5, z6, z7, z8] T) := by rw [set_rowP h]; rfl
  have h1 : ((w.setCell ⟨q, 0, none⟩ v0).setCell ⟨q, 1, none⟩ v1).heap[q]? = some (.cells #[v0, v1, z2, z3, z4, z5, z6, z7, z8] T) := by rw [set_rowP h0]; rfl
  have h2 : (((w.setCell ⟨q, 0, none⟩ v0).setCell ⟨q, 1, none⟩ v1).setCell ⟨q, 2, none⟩ v2).heap[q]? = some (.cells #[v0, v1, v2, z3, z4, z5, z6, z7, z8] T) := by rw [set_rowP h1]; rfl
  have h3 : ((((w.setCell ⟨q, 0, none⟩ v0).setCell ⟨q, 1, none⟩ v1).setCell ⟨q, 2, none⟩ v2).setCell ⟨q, 3, none⟩ v3).heap[q]? = some (.cells #[v0, v1, v2, v3, z4, z5, z6, z7, z8] T) := by rw [set_rowP h2]; rfl
  have h4 : (((((w.setCell ⟨q, 0, none⟩ v0).setCell ⟨q, 1, none⟩ v1).setCell ⟨q, 2, none⟩ v2).setCell ⟨q, 3, none⟩ v3).setCell ⟨q, 4, none⟩ v4).heap[q]? = some (.cells #[v0, v1, v2, v3, v4, z5, z6, z7, z8] T) := by rw [set_rowP h3]; rfl
  have h5 : ((((((w.setCell ⟨q, 0, none⟩ v0).setCell ⟨q, 1, none⟩ v1).setCell ⟨q, 2, none⟩ v2).setCell ⟨q, 3, none⟩ v3).setCell ⟨q, 4, none⟩ v4).setCell ⟨q, 5, none⟩ v5).heap[q]? = some (.cells #[v0, v1, v2, v3, v4, v5, z6, z7, z8] T) := by rw [set_rowP h4]; rfl
  have h6 : (((((((w.setCell ⟨q, 0, none⟩ v0).setCell ⟨q, 1, none⟩ v1).setCell ⟨q, 2, none⟩ v2).setCell ⟨q, 3, none⟩ v3).setCell ⟨q, 4, none⟩ v4).setCell ⟨q, 5, none⟩ v5).setCell ⟨q, 6, none⟩ v6).heap[q]? = some (.cells #[v0, v1, v2, v3, v4, v5, v6, z7, z8] T) := by rw [set_rowP h5]; rfl
  have h7 : ((((((((w.setCell ⟨q, 0, none⟩ v0).setCell ⟨q, 1, none⟩ v1).setCell ⟨q, 2, none⟩ v2).setCell ⟨q, 3, none⟩ v3).setCell ⟨q, 4, none⟩ v4).setCell ⟨q, 5, none⟩ v5).setCell ⟨q, 6, none⟩ v6).setCell ⟨q, 7, none⟩ v7).heap[q]? = some (.cells #[v0, v1, v2, v3, v4, v5, v6, v7, z8] T) := by rw [set_rowP h6]; rfl
  have h8 : (((((((((w.setCell ⟨q, 0, none⟩ v0).setCell ⟨q, 1, none⟩ v1).setCell ⟨q, 2, none⟩ v2).setCell ⟨q, 3, none⟩ v3).setCell ⟨q, 4, none⟩ v4).setCell ⟨q, 5, none⟩ v5).setCell ⟨q, 6, none⟩ v6).setCell ⟨q, 7, none⟩ v7).setCell ⟨q, 8, none⟩ v8).heap[q]? = some (.cells #[v0, v1, v2, v3, v4, v5, v6, v7, v8] T) := by rw [set_rowP h7]; rfl
  exact h8
theorem spL_small {lo : Nat} {w : World} {p : PP} {gi gd gb bl : Nat} {zs : List (PI × TA)} (h : SpP lo w p gi gd zs) (hb : bl ≤ 140737488351232) : ∀ e ∈ spL gd p.data.length gb bl zs, e.n ≤ 140737488351232 := by
  intro e he
  unfold spL at he
  rcases List.mem_append.1 he with he | he
  · rcases List.mem_cons.1 he with rfl | he
    · exact h.dl
    · unfold lsZ at he
      obtain ⟨z, hz, he⟩ := List.mem_flatMap.1 he
      obtain ⟨k, v, ez, -, -, l1, l2, -⟩ := h.obs z hz
      simp only [List.mem_cons, List.not_mem_nil, or_false] at he
      rcases he with rfl | rfl
      · exact l1
      · exact l2
  · simp at he; subst he
    exact hb
theorem ocut_at {W w4 : World} {lo : Nat} {kind no gen : Int} {p : PP} {bs : List UInt8} {n dl bl q gi gd gb : Nat} {zs : List (PI × TA)} {T : TypeId} (hT : T = 29) (hq : w4.heap[q]? = some (.cells #[.int .i64 0, .int .i64 0, .int .i64 0, .int .i64 0, .int .i64 0, .slice none 0 0, .slice none 0 0, .int .i64 0, .slice none 0 0] T)) (hp : SpP lo w4 p gi gd zs) (hb : Spared w4 gb bs) (hu : Up (gi + 1) gb (adrs zs)) (hn : p.items.length = n) (hdl : p.data.length = dl) (hbl : bs.length = bl) (hlo : W.heap.size ≤ lo)
    (hne : ∀ j, (j = gi ∨ gd = j ∨ gb = j ∨ ∃ a ∈ adrs zs, blk a = some j) → j ≠ q) (hWq : W.heap.size ≤ q) (hB : Below W.heap.size W w4) :
    OCut W kind no gen p bs n dl bl (.pointer (some ⟨q, 0, none⟩)) (((((((((w4.setCell ⟨q, 0, none⟩ (.int .i64 kind)).setCell ⟨q, 1, none⟩ (.int .i64 no)).setCell ⟨q, 2, none⟩ (.int .i64 gen)).setCell ⟨q, 3, none⟩ (.int .i64 p.kind)).setCell ⟨q, 4, none⟩ (.int .i64 p.level)).setCell ⟨q, 5, none⟩ (.slice (some ⟨gi, 0, none⟩) n (n + 2))).setCell ⟨q, 6, none⟩ (.slice (some ⟨gd, 0, none⟩) dl (dl + 64))).setCell ⟨q, 7, none⟩ (.int .i64 p.next)).setCell ⟨q, 8, none⟩ (.slice (some ⟨gb, 0, none⟩) bl (bl + 64))) := by
  subst hT
  have hC := chg_nine w4 q (.int .i64 kind) (.int .i64 no) (.int .i64 gen) (.int .i64 p.kind) (.int .i64 p.level) (.slice (some ⟨gi, 0, none⟩) n (n + 2)) (.slice (some ⟨gd, 0, none⟩) dl (dl + 64)) (.int .i64 p.next) (.slice (some ⟨gb, 0, none⟩) bl (bl + 64))
  have hP : SpP W.heap.size _ p gi gd zs := let h := hp.chgP hC (hne gi (.inl rfl)) (hne gd (.inr (.inl rfl))) (fun a ha k hk => hne k (.inr (.inr (.inr ⟨a, ha, hk⟩))))
    ⟨h.zp, h.own, h.obs, h.dat, h.dl, ⟨Nat.le_trans hlo h.gdl.1, h.gdl.2⟩, h.up, h.kd, h.lv, h.nx⟩
  refine ⟨q, gi, gd, gb, zs, rfl, ?_, hP, hb.chg hC (hne gb (.inr (.inr (.inl rfl)))), hu, ⟨fun hm => ?_, fun e => hne gi (.inl rfl) e.symm⟩, hWq, hB.trans (hC.below hB.size (fun k e => by omega))⟩
  · exact row_nine hq _ _ _ _ _ _ _ _ _
  · exact hne q (.inr (mine_spL.1 hm)) rfl
theorem Cpd.low {lo l2 : Nat} {w : World} {p : PP} {ia : Option Addr} {ic : Nat} {da : Option Addr} {dc : Nat} (h : Cpd lo w p ia ic da dc) (hl : l2 ≤ lo) : Cpd l2 w p ia ic da dc := by
  obtain ⟨⟨zs, hi, h1, h2⟩, h3, h4⟩ := h
  exact ⟨⟨zs, hi, h1, h2.low hl⟩, h3, fun k e => Nat.le_trans hl (h4 k e)⟩
def NCut (W : World) (kind no gen kd lv nx : Int) (p : PP) (bs : List UInt8) (n dl bl : Nat) (v : Value) (wx : World) : Prop :=
  ∃ qn ja jc ea ec pa pc, v = .pointer (some ⟨qn, 0, none⟩) ∧ wx.heap[qn]? = some (.cells #[.int .i64 kind, .int .i64 no, .int .i64 gen, .int .i64 kd, .int .i64 lv, .slice ja n jc, .slice ea dl ec, .int .i64 nx, .slice pa bl pc] 29) ∧ Cpd W.heap.size wx p ja jc ea ec ∧ OB wx pa pc bs ∧ Below W.heap.size W wx
theorem ncut_at {W w4 : World} {lo : Nat} {kind no gen kd lv nx : Int} {p : PP} {bs : List UInt8} {n dl bl q : Nat} {ja : Option Addr} {jc : Nat} {ea : Option Addr} {ec : Nat} {pa : Option Addr} {pc : Nat} {T : TypeId} (hT : T = 29) (hq : w4.heap[q]? = some (.cells #[.int .i64 0, .int .i64 0, .int .i64 0, .int .i64 0, .int .i64 0, .slice none 0 0, .slice none 0 0, .int .i64 0, .slice none 0 0] T)) (hc : ∀ w5, Chg (fun k => k = q) w4 w5 → Cpd W.heap.size w5 p ja jc ea ec) (hb : OB w4 pa pc bs) (hne : ∀ k, blk pa = some k → k ≠ q) (hWq : W.heap.size ≤ q) (hB : Below W.heap.size W w4) :
    NCut W kind no gen kd lv nx p bs n dl bl (.pointer (some ⟨q, 0, none⟩)) (((((((((w4.setCell ⟨q, 0, none⟩ (.int .i64 kind)).setCell ⟨q, 1, none⟩ (.int .i64 no)).setCell ⟨q, 2, none⟩ (.int .i64 gen)).setCell ⟨q, 3, none⟩ (.int .i64 kd)).setCell ⟨q, 4, none⟩ (.int .i64 lv)).setCell ⟨q, 5, none⟩ (.slice ja n jc)).setCell ⟨q, 6, none⟩ (.slice ea dl ec)).setCell ⟨q, 7, none⟩ (.int .i64 nx)).setCell ⟨q, 8, none⟩ (.slice pa bl pc)) := by
  subst hT
  have hC := chg_nine w4 q (.int .i64 kind) (.int .i64 no) (.int .i64 gen) (.int .i64 kd) (.int .i64 lv) (.slice ja n jc) (.slice ea dl ec) (.int .i64 nx) (.slice pa bl pc)
  exact ⟨q, ja, jc, ea, ec, pa, pc, rfl, row_nine hq _ _ _ _ _ _ _ _ _, hc _ hC, hb.chg hC (fun k e f => hne k e f), hB.trans (hC.below hB.size (fun k e => by omega))⟩
end Go.Proofs.Ytkjgncmbhkhbnaa
namespace Go.Proofs.Ytkjgncmbhkhbnaa
open Go.RowKit
set_option linter.unusedVariables false
set_option maxRecDepth 100000

theorem OB.roomy {w : World} {oa : Option Addr} {cap : Nat} {bs : List UInt8} (h : OB w oa cap bs) : bs.length ≤ cap := by
  rcases (OR.form h).2 with ⟨-, -, h3, -⟩ | ⟨g, -, -, h3, -⟩
  · omega
  · exact h3
theorem news_or {E : Elt} {w : World} {la : Option Addr} {lc m : Nat} {cs : List Value} (h : OR E w la lc m cs) : News w la lc m cs := by
  rcases h.form.2 with ⟨e1, e2, e3, e4⟩ | ⟨g, e, -⟩
  · exact .inl ⟨e1, e2, e3, e4⟩
  · refine .inr ⟨_, e, fun j u hu => ?_⟩
    obtain ⟨g', e', hc, -⟩ := h.cell hu
    rw [e] at e'; cases e'
    rw [add_none, Nat.zero_add]; exact hc
theorem lrow_or {E : Elt} {w : World} {la : Option Addr} {lc n : Nat} {es : List Lst} (h : OR E w la lc n (es.map Lst.val)) : LRow w la es := by
  rcases h.form.2 with ⟨-, -, -, e4⟩ | ⟨g, e, hg, -⟩
  · exact .inl (List.map_eq_nil_iff.1 e4)
  · refine .inr ⟨g, 0, e, hg, fun i x hx => ?_⟩
    obtain ⟨g', e', hc, -⟩ := h.cell (j := i) (u := x.val) (by rw [List.getElem?_map, hx]; rfl)
    rw [e] at e'; cases e'
    rw [Nat.zero_add]; exact hc
theorem blk_kinds {w : World} {oa ob : Option Addr} {c1 n1 c2 n2 : Nat} {xs ys : List Value} (h1 : OR eB w oa c1 n1 xs) (h2 : OR eN w ob c2 n2 ys) : ∀ k, blk oa = some k → ¬ blk ob = some k := by
  intro k e1 e2
  rcases h1.form.2 with ⟨r, -⟩ | ⟨g, r, -, -, -, c, hh, -⟩
  · rw [r] at e1; cases e1
  · rcases h2.form.2 with ⟨s, -⟩ | ⟨g2, s, -, -, -, c2, hh2, -⟩
    · rw [s] at e2; cases e2
    · rw [r] at e1; rw [s] at e2; cases e1; cases e2
      rw [hh] at hh2
      have h3 := Obj.cells.inj (Option.some.inj hh2)
      exact absurd h3.2.1 (by decide)
theorem vals_one (es : List Lst) : ∀ u ∈ es.map Lst.val, u.oneCell' = true := by
  intro u hu
  obtain ⟨e, -, rfl⟩ := List.mem_map.1 hu
  rfl
theorem AnOk.items {A : AN} (h : AnOk A) : A.p.items.length ≤ 70000 := by
  rcases h.1 with e | e
  · rw [e]; exact Nat.zero_le _
  · exact Nat.le_trans e.items (by decide)
def In3 (a b c d e f k : Nat) : Prop := (a ≤ k ∧ k < b) ∨ (c ≤ k ∧ k < d) ∨ (e ≤ k ∧ k < f)
theorem AnZ.mine_in {lo hi : Nat} {w : World} {A : AN} {d : AD} {zs : List (PI × TA)} (h : AnZ lo hi w A d zs) {e : Lst} (he : e ∈ anL A d zs) {k : Nat} (hk : blk e.oa = some k) : lo ≤ k ∧ k < hi :=
  h.up.mem _ (List.mem_map.2 ⟨e, he, rfl⟩) k hk
theorem apart3 {A C : AN} {d2 d3 d4 : AD} {zs2 zs3 zs4 : List (PI × TA)} {lo2 hi2 lo3 hi3 lo4 hi4 n : Nat} (w : World) (h2 : AnZ lo2 hi2 w A d2 zs2) (h3 : AnZ lo3 hi3 w A d3 zs3) (h4 : AnZ lo4 hi4 w C d4 zs4) (h23 : hi2 ≤ lo3) (h34 : hi3 ≤ lo4) (hA : AnOk A) (hC : AnOk C) (la : Option Addr) (lc : Nat)
    (hO : OR ApB.eLB w la lc n ((anL A d2 zs2 ++ anL A d3 zs3 ++ anL C d4 zs4).map Lst.val)) (hl : ∀ j, blk la = some j → hi4 ≤ j) :
    Calls Try.prog 24 #[.slice la n lc] w fun x w' => x = .returned (.bool true) ∧ Chg (In3 lo2 hi2 lo3 hi3 lo4 hi4) w w' ∧ ON w' d2.la d2.lc A.l ∧ ON w' d3.la d3.lc A.l ∧ ON w' d4.la d4.lc C.l := by
  have i2 := h2.lh
  have i3 := h3.lh
  have i4 := h4.lh
  obtain ⟨s2, t2⟩ := anL_small h2 hA
  obtain ⟨s3, t3⟩ := anL_small h3 hA
  obtain ⟨s4, t4⟩ := anL_small h4 hC
  have hn : (anL A d2 zs2 ++ anL A d3 zs3 ++ anL C d4 zs4).length = n := by
    have := hO.form.1
    rw [List.length_map] at this
    rw [this]; exact Nat.mul_one _
  have hup : Up lo2 hi4 ((anL A d2 zs2 ++ anL A d3 zs3 ++ anL C d4 zs4).map Lst.oa) := by
    rw [List.map_append, List.map_append]
    exact Up.append (Up.append h2.up (h3.up.low h23)) (h4.up.low h34)
  have hin : ∀ e ∈ anL A d2 zs2 ++ anL A d3 zs3 ++ anL C d4 zs4, ∀ k, blk e.oa = some k → In3 lo2 hi2 lo3 hi3 lo4 hi4 k := by
    intro e he k hk
    rcases List.mem_append.1 he with he | he
    · rcases List.mem_append.1 he with he | he
      · exact .inl (h2.mine_in he hk)
      · exact .inr (.inl (h3.mine_in he hk))
    · exact .inr (.inr (h4.mine_in he hk))
  have hown : ∀ e ∈ anL A d2 zs2 ++ anL A d3 zs3 ++ anL C d4 zs4, ∃ cs, OR eB w e.oa e.cap e.n cs := by
    intro e he
    rcases List.mem_append.1 he with he | he
    · rcases List.mem_append.1 he with he | he
      · exact h2.own e he
      · exact h3.own e he
    · exact h4.own e he
  have hsm : ∀ e ∈ anL A d2 zs2 ++ anL A d3 zs3 ++ anL C d4 zs4, e.n ≤ 140737488355300 := by
    intro e he
    refine Nat.le_trans ?_ (show 70000 ≤ 140737488355300 by decide)
    rcases List.mem_append.1 he with he | he
    · rcases List.mem_append.1 he with he | he
      · exact t2 e he
      · exact t3 e he
    · exact t4 e he
  have hno : ∀ {la2 : Option Addr} {lc2 : Nat} {l : List Int}, ON w la2 lc2 l → ∀ k, blk la2 = some k → ¬ mine (anL A d2 zs2 ++ anL A d3 zs3 ++ anL C d4 zs4) k := by
    rintro la2 lc2 l ho k hk ⟨e, he, hek⟩
    obtain ⟨cs, hc⟩ := hown e he
    exact blk_kinds hc ho k hek hk
  have hmine : ∀ k, mine (anL A d2 zs2 ++ anL A d3 zs3 ++ anL C d4 zs4) k → In3 lo2 hi2 lo3 hi3 lo4 hi4 k := fun k ⟨e, he, hk⟩ => hin e he k hk
  subst hn
  refine (ApB.apart_any la lc _ (by rw [List.length_append, List.length_append]; omega) hsm (sep_of_up hup) w (lrow_or hO) (fun b hb hm => ?_) (fun b hb => hO.lt b hb) hown).mono ?_
  · have h6 := hl b hb
    rcases hmine b hm with h7 | h7 | h7 <;> omega
  rintro _ w' ⟨rfl, hC2⟩
  exact ⟨rfl, hC2.mono (fun k _ hk => hmine k hk), OR.chg h2.l hC2 (hno h2.l), OR.chg h3.l hC2 (hno h3.l), OR.chg h4.l hC2 (hno h4.l)⟩
theorem apint3 {lA lC : List Int} {a2 a3 a4 : Option Addr} {c2 c3 c4 lo2 hi2 lo3 hi3 lo4 hi4 : Nat} (w : World) (h2 : ON w a2 c2 lA) (h3 : ON w a3 c3 lA) (h4 : ON w a4 c4 lC)
    (b2 : ∀ k, blk a2 = some k → lo2 ≤ k ∧ k < hi2) (b3 : ∀ k, blk a3 = some k → lo3 ≤ k ∧ k < hi3) (b4 : ∀ k, blk a4 = some k → lo4 ≤ k ∧ k < hi4) (i2 : lo2 ≤ hi2) (h23 : hi2 ≤ lo3) (i3 : lo3 ≤ hi3) (h34 : hi3 ≤ lo4) (i4 : lo4 ≤ hi4) (hA : lA.length ≤ 70000) (hC : lC.length ≤ 70000) (g : Nat) (hg : hi4 ≤ g) {T : TypeId}
    (hr : w.heap[g]? = some (.cells #[.slice a2 lA.length c2, .slice a3 lA.length c3, .slice a4 lC.length c4] T)) :
    Calls Try.prog 25 #[.slice (some ⟨g, 0, none⟩) 3 3] w fun x w' => x = .returned (.bool true) ∧ Chg (In3 lo2 hi2 lo3 hi3 lo4 hi4) w w' := by
  have hgz : g < w.heap.size := rlt_of_heapP hr
  have hup : Up lo2 hi4 (([⟨a2, c2, lA.length⟩, ⟨a3, c3, lA.length⟩, ⟨a4, c4, lC.length⟩] : List Lst).map Lst.oa) :=
    ⟨hi2, i2, b2, hi3, by omega, fun k e => ⟨by have := (b3 k e).1; omega, (b3 k e).2⟩, hi4, by omega, fun k e => ⟨by have := (b4 k e).1; omega, (b4 k e).2⟩, Nat.le_refl _⟩
  have hmine : ∀ k, mine ([⟨a2, c2, lA.length⟩, ⟨a3, c3, lA.length⟩, ⟨a4, c4, lC.length⟩] : List Lst) k → In3 lo2 hi2 lo3 hi3 lo4 hi4 k := by
    rintro k ⟨e, he, hk⟩
    simp only [List.mem_cons, List.not_mem_nil, or_false] at he
    rcases he with rfl | rfl | rfl
    · exact .inl (b2 k hk)
    · exact .inr (.inl (b3 k hk))
    · exact .inr (.inr (b4 k hk))
  refine (ApI.apart_any (some ⟨g, 0, none⟩) 3 [⟨a2, c2, lA.length⟩, ⟨a3, c3, lA.length⟩, ⟨a4, c4, lC.length⟩] (by show 3 ≤ 1000000; decide) ?_ (sep_of_up hup) w ?_ (fun b hb hm => ?_) (fun b hb => ?_) ?_).mono ?_
  · intro e he
    simp only [List.mem_cons, List.not_mem_nil, or_false] at he
    rcases he with rfl | rfl | rfl
    · exact hA
    · exact hA
    · exact hC
  · refine .inr ⟨g, 0, rfl, hgz, fun i e he => ?_⟩
    rw [Nat.zero_add]
    refine (cell_of_row _ _ i _ T (0, 0) hr).trans ?_
    match i, he with
    | 0, he => cases he; rfl
    | 1, he => cases he; rfl
    | 2, he => cases he; rfl
    | (n + 3), he => cases he
  · cases hb
    rcases hmine g hm with h7 | h7 | h7 <;> omega
  · cases hb; exact hgz
  · intro e he
    simp only [List.mem_cons, List.not_mem_nil, or_false] at he
    rcases he with rfl | rfl | rfl
    · exact ⟨_, h2⟩
    · exact ⟨_, h3⟩
    · exact ⟨_, h4⟩
  rintro _ w' ⟨rfl, hC2⟩
  exact ⟨rfl, hC2.mono (fun k _ hk => hmine k hk)⟩
end Go.Proofs.Ytkjgncmbhkhbnaa
namespace Go.Proofs.Ytkjgncmbhkhbnaa
open Go.RowKit
set_option linter.unusedVariables false
set_option maxRecDepth 100000

/-- a region of a piece of code, by its number -/
def rgn (n : Nat) : Code → Option Code
  | .region k ops d => if k = n then some (.region k ops d) else none
  | .seq a b => match rgn n a with
    | some c => some c
    | none => rgn n b
  | .block _ c => rgn n c
  | .loop c => rgn n c
  | .scope c => rgn n c
  | .cond _ a b => match rgn n a with
    | some c => some c
    | none => rgn n b
  | _ => none
set_option maxHeartbeats 4000000 in
theorem region9_any {t0 t1 t2 t3 t5 t6 t7 t8 t9 t10 t11 t12 t13 t14 t15 t16 t17 t18 t19 t20 t21 t22 t23 t24 t25 t26 t27 t28 t29 t30 t31 t32 t33 t34 t35 t36 t37 t38 t39 t40 t41 t42 t43 t44 t45 t46 t47 t48 t49 t50 t51 t52 t53 t54 t55 t56 t57 t58 t59 t60 t61 t62 t63 t64 t65 t66 t67 t68 t69 t70 t71 t72 t73 t74 t75 t76 t77 t78 t79 t80 t81 t82 t83 t84 t85 t86 t87 t88 t89 t90 t91 t92 t93 t94 t95 t96 t97 t98 t99 t100 t101 t102 t103 t104 t105 t106 t107 t108 t109 t110 t111 t112 t113 t114 t115 t116 t117 t118 t119 t120 t121 t122 t123 t124 t125 t126 t127 t128 t129 t130 t131 t132 t133 t134 t135 t136 t137 t138 t139 t140 t141 t142 t143 t144 t145 t146 t147 t148 t149 t150 t151 t152 t153 t154 t155 t156 t157 t158 t159 t160 t161 t162 t163 t164 t165 t166 t167 t168 t169 t170 t171 t172 t173 t174 t175 t176 t177 t178 t179 : Value} {Q : Exit → Act → World → Prop} {W1 : World} {B g n dl bl : Nat} {kind no gen kd lv nx : Int} {p : PP} {bs : List UInt8} {ia : Option Addr} {ic : Nat} {da : Option Addr} {dc : Nat} {ba : Option Addr} {bc : Nat}
    (hzx : W1.heap.size = g + 1) (hrow : W1.heap[g]? = some (.cells #[.int .i64 kind, .int .i64 no, .int .i64 gen, .int .i64 kd, .int .i64 lv, .slice ia n ic, .slice da dl dc, .int .i64 nx, .slice ba bl bc] 29)) (hpg : ∀ w1, Below W1.heap.size W1 w1 → PgAt w1.heap.size w1 p ia ic da dc) (hsl : ∀ w1, Below W1.heap.size W1 w1 → Sl B w1 ba bc bs) (hn : p.items.length = n) (hdl : p.data.length = dl) (hbl : bs.length = bl) (hkd : p.kind = kd ∧ p.level = lv ∧ p.next = nx) (hbI : n ≤ 65536)
    (hQP : ∀ c (a : Act) d v w, Q (.panic c) (a.put d v) w → Q (.panic c) a w) (hJ : ∀ (v5 v43 v44 v45 v46 v47 v48 v49 v50 v51 v52 v53 v54 v55 : Value) (w' : World), OCut W1 kind no gen p bs n dl bl v5 w' → Q .normal ⟨#[t0, t1, t2, t3, (.pointer (some ⟨g, 0, none⟩)), v5, t6, t7, t8, t9, t10, t11, t12, t13, t14, t15, t16, t17, t18, t19, t20, t21, t22, t23, t24, t25, t26, t27, t28, t29, t30, t31, t32, t33, t34, t35, t36, t37, t38, t39, t40, t41, t42, v43, v44, v45, v46, v47, v48, v49, v50, v51, v52, v53, v54, v55, t56, t57, t58, t59, t60, t61, t62, t63, t64, t65, t66, t67, t68, t69, t70, t71, t72, t73, t74, t75, t76, t77, t78, t79, t80, t81, t82, t83, t84, t85, t86, t87, t88, t89, t90, t91, t92, t93, t94, t95, t96, t97, t98, t99, t100, t101, t102, t103, t104, t105, t106, t107, t108, t109, t110, t111, t112, t113, t114, t115, t116, t117, t118, t119, t120, t121, t122, t123, t124, t125, t126, t127, t128, t129, t130, t131, t132, t133, t134, t135, t136, t137, t138, t139, t140, t141, t142, t143, t144, t145, t146, t147, t148, t149, t150, t151, t152, t153, t154, t155, t156, t157, t158, t159, t160, t161, t162, t163, t164, t165, t166, t167, t168, t169, t170, t171, t172, t173, t174, t175, t176, t177, t178, t179], []⟩ w') :
    Code.wp Try.prog ((Try.f3.body.bind (rgn 9)).getD .skip) Q ⟨#[t0, t1, t2, t3, (.pointer (some ⟨g, 0, none⟩)), t5, t6, t7, t8, t9, t10, t11, t12, t13, t14, t15, t16, t17, t18, t19, t20, t21, t22, t23, t24, t25, t26, t27, t28, t29, t30, t31, t32, t33, t34, t35, t36, t37, t38, t39, t40, t41, t42, t43, t44, t45, t46, t47, t48, t49, t50, t51, t52, t53, t54, t55, t56, t57, t58, t59, t60, t61, t62, t63, t64, t65, t66, t67, t68, t69, t70, t71, t72, t73, t74, t75, t76, t77, t78, t79, t80, t81, t82, t83, t84, t85, t86, t87, t88, t89, t90, t91, t92, t93, t94, t95, t96, t97, t98, t99, t100, t101, t102, t103, t104, t105, t106, t107, t108, t109, t110, t111, t112, t113, t114, t115, t116, t117, t118, t119, t120, t121, t122, t123, t124, t125, t126, t127, t128, t129, t130, t131, t132, t133, t134, t135, t136, t137, t138, t139, t140, t141, t142, t143, t144, t145, t146, t147, t148, t149, t150, t151, t152, t153, t154, t155, t156, t157, t158, t159, t160, t161, t162, t163, t164, t165, t166, t167, t168, t169, t170, t171, t172, t173, t174, t175, t176, t177, t178, t179], []⟩ W1 := by
  have HJ := Lib.hid hJ
  have HQP := Lib.hid hQP
  clear hJ hQP
  have HN := Lib.hid hn
  have HDL := Lib.hid hdl
  have HBL := Lib.hid hbl
  have HKD := Lib.hid hkd
  have HGX := Lib.hid hrow
  have HSPG := Lib.hid fun w1 (h : Below W1.heap.size W1 w1) => sparePage_any p ia ic da dc w1 (hpg w1 h) (by rw [hn]; exact hbI)
  have HSPB := Lib.hid fun w1 (h : Below W1.heap.size W1 w1) => spare_any ba bc bs (Nat.le_trans (hsl w1 h).2.2.1 (by decide)) w1 (hsl w1 h).1
  unfold NewSpP pgv at HSPG
  unfold NewSpare at HSPB
  simp only [HN.out, HDL.out, HKD.out.1, HKD.out.2.1, HKD.out.2.2] at HSPG
  simp only [HBL.out] at HSPB
  have HS := Lib.hid fun w1 (h : Below W1.heap.size W1 w1) => (show (fun w' : World => w'.cell? ⟨g, 0, none⟩ = some (.int .i64 kind) ∧ w'.cell? ⟨g, 1, none⟩ = some (.int .i64 no) ∧ w'.cell? ⟨g, 2, none⟩ = some (.int .i64 gen) ∧ w'.cell? ⟨g, 3, none⟩ = some (.int .i64 kd) ∧ w'.cell? ⟨g, 4, none⟩ = some (.int .i64 lv) ∧ w'.cell? ⟨g, 5, none⟩ = some (.slice ia n ic) ∧ w'.cell? ⟨g, 6, none⟩ = some (.slice da dl dc) ∧ w'.cell? ⟨g, 7, none⟩ = some (.int .i64 nx) ∧ w'.cell? ⟨g, 8, none⟩ = some (.slice ba bl bc)) w1 from by
    obtain ⟨c0, c1, c2, c3, c4, c5, c6, c7, c8, -⟩ := cells9 ((h.block g (by omega)).trans HGX.out)
    exact ⟨c0, c1, c2, c3, c4, c5, c6, c7, c8⟩)
  have HBd := Lib.hid (show Below W1.heap.size W1 W1.drew from (Below.refl W1.heap.size W1).drew)
  have HSe := Lib.hid (HS.out _ HBd.out)
  clear hrow hpg hsl hn hdl hbl hkd HGX
  conv => arg 2; whnf
  refine wp_region_E (fun w' : World => w'.cell? ⟨g, 0, none⟩ = some (.int .i64 kind) ∧ w'.cell? ⟨g, 1, none⟩ = some (.int .i64 no) ∧ w'.cell? ⟨g, 2, none⟩ = some (.int .i64 gen) ∧ w'.cell? ⟨g, 3, none⟩ = some (.int .i64 kd) ∧ w'.cell? ⟨g, 4, none⟩ = some (.int .i64 lv) ∧ w'.cell? ⟨g, 5, none⟩ = some (.slice ia n ic) ∧ w'.cell? ⟨g, 6, none⟩ = some (.slice da dl dc) ∧ w'.cell? ⟨g, 7, none⟩ = some (.int .i64 nx) ∧ w'.cell? ⟨g, 8, none⟩ = some (.slice ba bl bc)) 14 (by as_aux_lemma => kernel_rfl) (by as_aux_lemma => kernel_rfl) ?_
  change At _ _ _ _ _ _ 15 #[false, false, false, false, false, false, false, false, false, false, false, false, false, false, false] _ _
  refine at_take 0 (v := ?_) rfl (by decide) (by as_aux_lemma => kernel_rfl) (by as_aux_lemma => kernel_rfl) (fun _ _ _ h => HQP.out _ _ _ _ _ h) (Or.inl ⟨by rfl, ?_⟩) HSe.out ?_
  rotate_left
  · intro w' hSw; (try dsimp only at hSw); go_simp; (try with_reducible rfl)
  simp only [Act.put, List.setIfInBounds_toArray, List.set_cons_zero, List.set_cons_succ]
  refine at_take 1 (v := ?_) rfl (by decide) (by as_aux_lemma => kernel_rfl) (by as_aux_lemma => kernel_rfl) (fun _ _ _ h => HQP.out _ _ _ _ _ h) (Or.inl ⟨by rfl, ?_⟩) HSe.out ?_
  rotate_left
  · intro w' hSw; (try dsimp only at hSw); go_simp; (try with_reducible rfl)
  simp only [Act.put, List.setIfInBounds_toArray, List.set_cons_zero, List.set_cons_succ]
  refine at_take 2 (v := ?_) rfl (by decide) (by as_aux_lemma => kernel_rfl) (by as_aux_lemma => kernel_rfl) (fun _ _ _ h => HQP.out _ _ _ _ _ h) (Or.inl ⟨by rfl, ?_⟩) HSe.out ?_
  rotate_left
  · intro w' hSw; (try dsimp only at hSw); go_simp; (try with_reducible rfl)
  simp only [Act.put, List.setIfInBounds_toArray, List.set_cons_zero, List.set_cons_succ]
  refine at_take 3 (v := ?_) rfl (by decide) (by as_aux_lemma => kernel_rfl) (by as_aux_lemma => kernel_rfl) (fun _ _ _ h => HQP.out _ _ _ _ _ h) (Or.inl ⟨by rfl, ?_⟩) HSe.out ?_
  rotate_left
  · intro w' hSw; (try dsimp only at hSw); go_simp; (try with_reducible rfl)
  simp only [Act.put, List.setIfInBounds_toArray, List.set_cons_zero, List.set_cons_succ]
  refine at_take 4 (v := ?_) rfl (by decide) (by as_aux_lemma => kernel_rfl) (by as_aux_lemma => kernel_rfl) (fun _ _ _ h => HQP.out _ _ _ _ _ h) (Or.inl ⟨by rfl, ?_⟩) HSe.out ?_
  rotate_left
  · intro w' hSw; (try dsimp only at hSw); go_simp; (try with_reducible rfl)
  simp only [Act.put, List.setIfInBounds_toArray, List.set_cons_zero, List.set_cons_succ]
  refine at_take 5 (v := ?_) rfl (by decide) (by as_aux_lemma => kernel_rfl) (by as_aux_lemma => kernel_rfl) (fun _ _ _ h => HQP.out _ _ _ _ _ h) (Or.inl ⟨by rfl, ?_⟩) HSe.out ?_
  rotate_left
  · intro w' hSw; (try dsimp only at hSw); go_simp; (try with_reducible rfl)
  simp only [Act.put, List.setIfInBounds_toArray, List.set_cons_zero, List.set_cons_succ]
  refine at_take 6 (v := ?_) rfl (by decide) (by as_aux_lemma => kernel_rfl) (by as_aux_lemma => kernel_rfl) (fun _ _ _ h => HQP.out _ _ _ _ _ h) (Or.inl ⟨by rfl, ?_⟩) HSe.out ?_
  rotate_left
  · intro w' hSw; (try dsimp only at hSw); go_simp; (try with_reducible rfl)
  simp only [Act.put, List.setIfInBounds_toArray, List.set_cons_zero, List.set_cons_succ]
  refine at_take 7 (v := ?_) rfl (by decide) (by as_aux_lemma => kernel_rfl) (by as_aux_lemma => kernel_rfl) (fun _ _ _ h => HQP.out _ _ _ _ _ h) (Or.inl ⟨by rfl, ?_⟩) HSe.out ?_
  rotate_left
  · intro w' hSw; (try dsimp only at hSw); go_simp; (try with_reducible rfl)
  simp only [Act.put, List.setIfInBounds_toArray, List.set_cons_zero, List.set_cons_succ]
  refine at_take 9 (v := ?_) rfl (by decide) (by as_aux_lemma => kernel_rfl) (by as_aux_lemma => kernel_rfl) (fun _ _ _ h => HQP.out _ _ _ _ _ h) (Or.inl ⟨by rfl, ?_⟩) HSe.out ?_
  rotate_left
  · intro w' hSw; (try dsimp only at hSw); go_simp; (try with_reducible rfl)
  simp only [Act.put, List.setIfInBounds_toArray, List.set_cons_zero, List.set_cons_succ]
  refine at_take 10 (v := ?_) rfl (by decide) (by as_aux_lemma => kernel_rfl) (by as_aux_lemma => kernel_rfl) (fun _ _ _ h => HQP.out _ _ _ _ _ h) (Or.inl ⟨by rfl, ?_⟩) HSe.out ?_
  rotate_left
  · intro w' hSw; (try dsimp only at hSw); go_simp; (try with_reducible rfl)
  simp only [Act.put, List.setIfInBounds_toArray, List.set_cons_zero, List.set_cons_succ]
  refine at_two 8 13 rfl rfl (by decide) (by decide) (by as_aux_lemma => kernel_rfl) (by rfl) (by rfl) ?_ ?_
  · intro K hK
    go_simp
    refine (HSPG.out _ HBd.out).mono ?_
    rintro _ w2 ⟨gi, gd, zs, rfl, hsp, hb2⟩
    simp only [HN.out, HDL.out]
    have HB2 := Lib.hid (HBd.out.trans (hb2.mono HBd.out.size))
    have HS2 := Lib.hid (HS.out w2 HB2.out)
    have HP2 := Lib.hid hsp
    clear hsp hb2
    go_simp
    refine hK _ _ HS2.out ?_
    clear hK K
    simp only [Act.put, List.setIfInBounds_toArray, List.set_cons_zero, List.set_cons_succ]
    refine at_two 11 13 rfl rfl (by decide) (by decide) (by as_aux_lemma => kernel_rfl) (by rfl) (by rfl) ?_ ?_
    · intro K hK
      go_simp
      refine (HSPB.out _ HB2.out).mono ?_
      rintro _ w3 ⟨rfl, hsb, hb3⟩
      have HB3 := Lib.hid (HB2.out.trans (hb3.mono HB2.out.size))
      have HS3 := Lib.hid (HS.out w3 HB3.out)
      have HP3 := Lib.hid (HP2.out.below hb3)
      have HU3 := Lib.hid HP2.out.up
      have HG3 := Lib.hid hsb
      have ha := one_below w3 (.cells #[.int .i64 0, .int .i64 0, .int .i64 0, .int .i64 0, .int .i64 0, .slice none 0 0, .slice none 0 0, .int .i64 0, .slice none 0 0] 29)
      have HB4 := Lib.hid (HB3.out.trans (ha.mono HB3.out.size))
      have HS4 := Lib.hid (HS.out _ HB4.out)
      have HQ := Lib.hid (heap_alloc_new w3 (.cells #[.int .i64 0, .int .i64 0, .int .i64 0, .int .i64 0, .int .i64 0, .slice none 0 0, .slice none 0 0, .int .i64 0, .slice none 0 0] 29))
      have hgi := HP3.out.own.lt gi rfl
      have hgd := HP3.out.gdl
      have hgb : w2.heap.size < w3.heap.size := OR.lt hsb _ rfl
      have hsc := ocut_at (W := W1) (kind := kind) (no := no) (gen := gen) rfl HQ.out (HP3.out.below ha) (hsb.below ha) HU3.out HN.out HDL.out HBL.out HBd.out.size (fun j hj => by
        rcases hj with rfl | rfl | rfl | ⟨x, hx, hk⟩
        · omega
        · omega
        · omega
        · have := (HU3.out.mem x hx j hk).2; omega) HB3.out.size HB4.out
      rw [HKD.out.1, HKD.out.2.1, HKD.out.2.2] at hsc
      have HSC := Lib.hid hsc
      clear hsc
      clear ha hgi hgd hgb
      clear hsb hb3
      go_simp
      refine hK _ _ HS3.out ?_
      clear hK K
      simp only [Act.put, List.setIfInBounds_toArray, List.set_cons_zero, List.set_cons_succ]
      refine at_take 12 (v := ?_) rfl (by decide) (by as_aux_lemma => kernel_rfl) (by as_aux_lemma => kernel_rfl) (fun _ _ _ h => HQP.out _ _ _ _ _ h) (Or.inl ⟨by rfl, ?_⟩) HS3.out ?_
      rotate_left
      · intro w' hSw; (try dsimp only at hSw); go_simp; (try with_reducible rfl)
      simp only [Act.put, List.setIfInBounds_toArray, List.set_cons_zero, List.set_cons_succ]
      refine at_only 13 rfl (by decide) (by as_aux_lemma => kernel_rfl) (by rfl) ?_
      intro K hK
      go_simp
      refine hK _ _ HS4.out ?_
      clear hK K
      simp only [Act.put, List.setIfInBounds_toArray, List.set_cons_zero, List.set_cons_succ]
      generalize w3.alloc (.cells #[.int .i64 0, .int .i64 0, .int .i64 0, .int .i64 0, .int .i64 0, .slice none 0 0, .slice none 0 0, .int .i64 0, .slice none 0 0] 29) = w4 at HQ HSC ⊢
      generalize w3.heap.size = q at HQ HSC ⊢
      refine at_tail rfl (by as_aux_lemma => kernel_rfl) ?_
      simp only [List.drop_succ_cons, List.drop_zero]
      obtain ⟨r0, r1, r2, r3, r4, r5, r6, r7, r8, rf⟩ := cells9 HQ.out
      have f0 := rf 0
      have f1 := rf 1
      have f2 := rf 2
      have f3 := rf 3
      have f4 := rf 4
      have f5 := rf 5
      have f6 := rf 6
      have f7 := rf 7
      have f8 := rf 8
      clear rf
      go_wp2_with fail
      exact HJ.out _ _ _ _ _ _ _ _ _ _ _ _ _ _ _ HSC.out
    · intro K hK
      have ha := one_below w2 (.cells #[.int .i64 0, .int .i64 0, .int .i64 0, .int .i64 0, .int .i64 0, .slice none 0 0, .slice none 0 0, .int .i64 0, .slice none 0 0] 29)
      have HB3 := Lib.hid (HB2.out.trans (ha.mono HB2.out.size))
      have HS3 := Lib.hid (HS.out _ HB3.out)
      have HQ := Lib.hid (heap_alloc_new w2 (.cells #[.int .i64 0, .int .i64 0, .int .i64 0, .int .i64 0, .int .i64 0, .slice none 0 0, .slice none 0 0, .int .i64 0, .slice none 0 0] 29))
      have HPb := Lib.hid (HP2.out.below ha)
      have HUb := Lib.hid HP2.out.up
      have hqz : w2.heap.size < (w2.alloc (.cells #[.int .i64 0, .int .i64 0, .int .i64 0, .int .i64 0, .int .i64 0, .slice none 0 0, .slice none 0 0, .int .i64 0, .slice none 0 0] 29)).heap.size := by simp
      have hgi := HP2.out.own.lt gi rfl
      have hqW : W1.heap.size ≤ w2.heap.size := HB2.out.size
      clear ha
      go_simp
      refine hK _ _ HS3.out ?_
      clear hK K
      simp only [Act.put, List.setIfInBounds_toArray, List.set_cons_zero, List.set_cons_succ]
      generalize w2.alloc (.cells #[.int .i64 0, .int .i64 0, .int .i64 0, .int .i64 0, .int .i64 0, .slice none 0 0, .slice none 0 0, .int .i64 0, .slice none 0 0] 29) = w2b at HB3 HS3 HQ HPb hqz ⊢
      generalize w2.heap.size = q at HQ HUb hqz hgi hqW ⊢
      refine at_only 11 rfl (by decide) (by as_aux_lemma => kernel_rfl) (by rfl) ?_
      intro K hK
      go_simp
      refine (HSPB.out _ HB3.out).mono ?_
      rintro _ w3 ⟨rfl, hsb, hb3⟩
      have HB4 := Lib.hid (HB3.out.trans (hb3.mono HB3.out.size))
      have HS4 := Lib.hid (HS.out w3 HB4.out)
      have HQ4 := Lib.hid ((hb3.block q hqz).trans HQ.out)
      have hgd := HPb.out.gdl
      have hsc := ocut_at (W := W1) (kind := kind) (no := no) (gen := gen) rfl HQ4.out (HPb.out.below hb3) hsb (HUb.out.mono (Nat.le_of_lt hqz)) HN.out HDL.out HBL.out HBd.out.size (fun j hj => by
        rcases hj with rfl | rfl | rfl | ⟨x, hx, hk⟩
        · omega
        · omega
        · omega
        · have := (HUb.out.mem x hx j hk).2; omega) hqW HB4.out
      rw [HKD.out.1, HKD.out.2.1, HKD.out.2.2] at hsc
      have HSC := Lib.hid hsc
      clear hsc
      clear hsb hb3 hgd
      go_simp
      refine hK _ _ HS4.out ?_
      clear hK K
      simp only [Act.put, List.setIfInBounds_toArray, List.set_cons_zero, List.set_cons_succ]
      refine at_take 12 (v := ?_) rfl (by decide) (by as_aux_lemma => kernel_rfl) (by as_aux_lemma => kernel_rfl) (fun _ _ _ h => HQP.out _ _ _ _ _ h) (Or.inl ⟨by rfl, ?_⟩) HS4.out ?_
      rotate_left
      · intro w' hSw; (try dsimp only at hSw); go_simp; (try with_reducible rfl)
      simp only [Act.put, List.setIfInBounds_toArray, List.set_cons_zero, List.set_cons_succ]
      refine at_tail rfl (by as_aux_lemma => kernel_rfl) ?_
      simp only [List.drop_succ_cons, List.drop_zero]
      obtain ⟨r0, r1, r2, r3, r4, r5, r6, r7, r8, rf⟩ := cells9 HQ4.out
      have f0 := rf 0
      have f1 := rf 1
      have f2 := rf 2
      have f3 := rf 3
      have f4 := rf 4
      have f5 := rf 5
      have f6 := rf 6
      have f7 := rf 7
      have f8 := rf 8
      clear rf
      go_wp2_with fail
      exact HJ.out _ _ _ _ _ _ _ _ _ _ _ _ _ _ _ HSC.out
  · intro K hK
    have hbe : Below W1.heap.size W1 (W1.alloc (.cells #[.int .i64 0, .int .i64 0, .int .i64 0, .int .i64 0, .int .i64 0, .slice none 0 0, .slice none 0 0, .int .i64 0, .slice none 0 0] 29)).drew := ((Below.refl _ _).alloc (Nat.le_refl _) _).drew
    have HBe := Lib.hid hbe
    have HSb := Lib.hid (HS.out _ HBe.out)
    have HQ := Lib.hid (show (W1.alloc (.cells #[.int .i64 0, .int .i64 0, .int .i64 0, .int .i64 0, .int .i64 0, .slice none 0 0, .slice none 0 0, .int .i64 0, .slice none 0 0] 29)).drew.heap[W1.heap.size]? = some (.cells #[.int .i64 0, .int .i64 0, .int .i64 0, .int .i64 0, .int .i64 0, .slice none 0 0, .slice none 0 0, .int .i64 0, .slice none 0 0] 29) from heap_alloc_new W1 _)
    have hqz : W1.heap.size < (W1.alloc (.cells #[.int .i64 0, .int .i64 0, .int .i64 0, .int .i64 0, .int .i64 0, .slice none 0 0, .slice none 0 0, .int .i64 0, .slice none 0 0] 29)).drew.heap.size := by simp
    clear hbe
    go_simp
    refine hK _ _ HSb.out ?_
    clear hK K
    simp only [Act.put, List.setIfInBounds_toArray, List.set_cons_zero, List.set_cons_succ]
    generalize (W1.alloc (.cells #[.int .i64 0, .int .i64 0, .int .i64 0, .int .i64 0, .int .i64 0, .slice none 0 0, .slice none 0 0, .int .i64 0, .slice none 0 0] 29)).drew = w1b at HBe HSb HQ hqz ⊢
    refine at_only 8 rfl (by decide) (by as_aux_lemma => kernel_rfl) (by rfl) ?_
    intro K hK
    go_simp
    refine (HSPG.out _ HBe.out).mono ?_
    rintro _ w2 ⟨gi, gd, zs, rfl, hsp, hb2⟩
    simp only [HN.out, HDL.out]
    have HB2 := Lib.hid (HBe.out.trans (hb2.mono HBe.out.size))
    have HS2 := Lib.hid (HS.out w2 HB2.out)
    have HP2 := Lib.hid hsp
    have HQ2 := Lib.hid ((hb2.block _ hqz).trans HQ.out)
    have hqz2 := Nat.lt_of_lt_of_le hqz hb2.size
    clear hsp hb2
    go_simp
    refine hK _ _ HS2.out ?_
    clear hK K
    simp only [Act.put, List.setIfInBounds_toArray, List.set_cons_zero, List.set_cons_succ]
    refine at_only 11 rfl (by decide) (by as_aux_lemma => kernel_rfl) (by rfl) ?_
    intro K hK
    go_simp
    refine (HSPB.out _ HB2.out).mono ?_
    rintro _ w3 ⟨rfl, hsb, hb3⟩
    have HB3 := Lib.hid (HB2.out.trans (hb3.mono HB2.out.size))
    have HS3 := Lib.hid (HS.out w3 HB3.out)
    have HP3 := Lib.hid (HP2.out.below hb3)
    have HU3 := Lib.hid HP2.out.up
    have HG3 := Lib.hid hsb
    have HQ3 := Lib.hid ((hb3.block _ hqz2).trans HQ2.out)
    have hgd := HP3.out.gdl
    have hsc := ocut_at (W := W1) (kind := kind) (no := no) (gen := gen) rfl HQ3.out HP3.out hsb HU3.out HN.out HDL.out HBL.out (Nat.le_of_lt hqz) (fun j hj => by
      rcases hj with rfl | rfl | rfl | ⟨x, hx, hk⟩
      · omega
      · omega
      · omega
      · have := (HU3.out.mem x hx j hk).1; omega) (Nat.le_refl _) HB3.out
    rw [HKD.out.1, HKD.out.2.1, HKD.out.2.2] at hsc
    have HSC := Lib.hid hsc
    clear hsc
    clear hgd
    clear hsb hb3
    go_simp
    refine hK _ _ HS3.out ?_
    clear hK K
    simp only [Act.put, List.setIfInBounds_toArray, List.set_cons_zero, List.set_cons_succ]
    refine at_take 12 (v := ?_) rfl (by decide) (by as_aux_lemma => kernel_rfl) (by as_aux_lemma => kernel_rfl) (fun _ _ _ h => HQP.out _ _ _ _ _ h) (Or.inl ⟨by rfl, ?_⟩) HS3.out ?_
    rotate_left
    · intro w' hSw; (try dsimp only at hSw); go_simp; (try with_reducible rfl)
    simp only [Act.put, List.setIfInBounds_toArray, List.set_cons_zero, List.set_cons_succ]
    rw [hzx] at HQ3 HSC
    generalize g + 1 = q at HQ3 HSC ⊢
    refine at_tail rfl (by as_aux_lemma => kernel_rfl) ?_
    simp only [List.drop_succ_cons, List.drop_zero]
    obtain ⟨r0, r1, r2, r3, r4, r5, r6, r7, r8, rf⟩ := cells9 HQ3.out
    have f0 := rf 0
    have f1 := rf 1
    have f2 := rf 2
    have f3 := rf 3
    have f4 := rf 4
    have f5 := rf 5
    have f6 := rf 6
    have f7 := rf 7
    have f8 := rf 8
    clear rf
    go_wp2_with fail
    exact HJ.out _ _ _ _ _ _ _ _ _ _ _ _ _ _ _ HSC.out
set_option maxHeartbeats 4000000 in
theorem region24_any {t0 t1 t2 t3 t6 t7 t8 t9 t10 t11 t12 t13 t14 t15 t16 t17 t18 t19 t20 t21 t22 t23 t24 t25 t26 t27 t28 t29 t30 t31 t32 t33 t34 t35 t36 t37 t38 t39 t40 t41 t42 t43 t44 t45 t46 t47 t48 t49 t50 t51 t52 t53 t54 t55 t56 t57 t58 t59 t60 t61 t62 t63 t64 t65 t66 t67 t68 t69 t70 t71 t72 t73 t74 t75 t76 t77 t78 t79 t80 t81 t82 t83 t84 t85 t86 t87 t88 t89 t90 t91 t92 t93 t94 t95 t96 t97 t98 t99 t100 t101 t102 t103 t104 t105 t106 t107 t108 t109 t110 t111 t112 t113 t114 t115 t116 t117 t118 t119 t120 t121 t122 t123 t124 t125 t126 t127 t128 t129 t130 t131 t132 t133 t134 t135 t136 t137 t138 t139 t140 t141 t142 t143 t144 t145 t146 t147 t148 t149 t150 t151 t152 t153 t154 t155 t156 t157 t158 t159 t160 t161 t162 t163 t164 t165 t166 t167 t168 t169 t170 t171 t172 t173 t174 t175 t176 t177 t178 t179 : Value} {Q : Exit → Act → World → Prop} {U10 : World} {g q gi gd gb n dl bl ic dc bc : Nat} {kind no gen kd lv nx : Int} {p2 : PP} {b2 : List UInt8} {ia da ba : Option Addr}
    (hg : U10.heap[g]? = some (.cells #[.int .i64 kind, .int .i64 no, .int .i64 gen, .int .i64 kd, .int .i64 lv, .slice ia n ic, .slice da dl dc, .int .i64 nx, .slice ba bl bc] 29)) (hq : U10.heap[q]? = some (.cells #[.int .i64 kind, .int .i64 no, .int .i64 gen, .int .i64 kd, .int .i64 lv, .slice (some ⟨gi, 0, none⟩) n (n + 2), .slice (some ⟨gd, 0, none⟩) dl (dl + 64), .int .i64 nx, .slice (some ⟨gb, 0, none⟩) bl (bl + 64)] 29)) (hp2 : PgAt U10.heap.size U10 p2 (some ⟨gi, 0, none⟩) (n + 2) (some ⟨gd, 0, none⟩) (dl + 64)) (hb2 : Bts U10 (some ⟨gb, 0, none⟩) b2) (hk2 : p2.kind = kd ∧ p2.level = lv ∧ p2.next = nx ∧ p2.items.length = n ∧ p2.data.length = dl ∧ b2.length = bl) (hbI : n ≤ 65536) (hlong : bl ≤ 1048576)
    (hQP : ∀ c (a : Act) d v w, Q (.panic c) (a.put d v) w → Q (.panic c) a w) (hJ : ∀ (v12 v125 v126 v127 v128 v129 v130 v131 v132 v133 v134 v135 v136 v137 : Value) (w' : World), NCut U10 kind no gen kd lv nx p2 b2 n dl bl v12 w' → Q .normal ⟨#[t0, t1, t2, t3, (.pointer (some ⟨g, 0, none⟩)), (.pointer (some ⟨q, 0, none⟩)), t6, t7, t8, t9, t10, t11, v12, t13, t14, t15, t16, t17, t18, t19, t20, t21, t22, t23, t24, t25, t26, t27, t28, t29, t30, t31, t32, t33, t34, t35, t36, t37, t38, t39, t40, t41, t42, t43, t44, t45, t46, t47, t48, t49, t50, t51, t52, t53, t54, t55, t56, t57, t58, t59, t60, t61, t62, t63, t64, t65, t66, t67, t68, t69, t70, t71, t72, t73, t74, t75, t76, t77, t78, t79, t80, t81, t82, t83, t84, t85, t86, t87, t88, t89, t90, t91, t92, t93, t94, t95, t96, t97, t98, t99, t100, t101, t102, t103, t104, t105, t106, t107, t108, t109, t110, t111, t112, t113, t114, t115, t116, t117, t118, t119, t120, t121, t122, t123, t124, v125, v126, v127, v128, v129, v130, v131, v132, v133, v134, v135, v136, v137, t138, t139, t140, t141, t142, t143, t144, t145, t146, t147, t148, t149, t150, t151, t152, t153, t154, t155, t156, t157, t158, t159, t160, t161, t162, t163, t164, t165, t166, t167, t168, t169, t170, t171, t172, t173, t174, t175, t176, t177, t178, t179], []⟩ w') :
    Code.wp Try.prog ((Try.f3.body.bind (rgn 24)).getD .skip) Q ⟨#[t0, t1, t2, t3, (.pointer (some ⟨g, 0, none⟩)), (.pointer (some ⟨q, 0, none⟩)), t6, t7, t8, t9, t10, t11, t12, t13, t14, t15, t16, t17, t18, t19, t20, t21, t22, t23, t24, t25, t26, t27, t28, t29, t30, t31, t32, t33, t34, t35, t36, t37, t38, t39, t40, t41, t42, t43, t44, t45, t46, t47, t48, t49, t50, t51, t52, t53, t54, t55, t56, t57, t58, t59, t60, t61, t62, t63, t64, t65, t66, t67, t68, t69, t70, t71, t72, t73, t74, t75, t76, t77, t78, t79, t80, t81, t82, t83, t84, t85, t86, t87, t88, t89, t90, t91, t92, t93, t94, t95, t96, t97, t98, t99, t100, t101, t102, t103, t104, t105, t106, t107, t108, t109, t110, t111, t112, t113, t114, t115, t116, t117, t118, t119, t120, t121, t122, t123, t124, t125, t126, t127, t128, t129, t130, t131, t132, t133, t134, t135, t136, t137, t138, t139, t140, t141, t142, t143, t144, t145, t146, t147, t148, t149, t150, t151, t152, t153, t154, t155, t156, t157, t158, t159, t160, t161, t162, t163, t164, t165, t166, t167, t168, t169, t170, t171, t172, t173, t174, t175, t176, t177, t178, t179], []⟩ U10 := by
  have HJ := Lib.hid hJ
  have HQP := Lib.hid hQP
  clear hJ hQP
  have HK2 := Lib.hid hk2
  have HG_10 := Lib.hid hg
  have HQ_10 := Lib.hid hq
  have HCP := Lib.hid fun w1 (h : Below U10.heap.size U10 w1) => copyPage_any p2 (some ⟨gi, 0, none⟩) (n + 2) (some ⟨gd, 0, none⟩) (dl + 64) w1 ((hp2.below h).mono h.size) (by rw [HK2.out.2.2.2.1]; omega)
  have HCB := Lib.hid fun w1 (h : Below U10.heap.size U10 w1) => copyBytes_any (some ⟨gb, 0, none⟩) (bl + 64) b2 (by rw [HK2.out.2.2.2.2.2]; omega) w1 (hb2.below h)
  unfold CpP pgv at HCP
  unfold NewB at HCB
  simp only [HK2.out.1, HK2.out.2.1, HK2.out.2.2.1, HK2.out.2.2.2.1, HK2.out.2.2.2.2.1] at HCP
  simp only [HK2.out.2.2.2.2.2] at HCB
  have HS := Lib.hid fun w1 (h : Below U10.heap.size U10 w1) => (show (fun w' : World => w'.cell? ⟨g, 0, none⟩ = some (.int .i64 kind) ∧ w'.cell? ⟨g, 1, none⟩ = some (.int .i64 no) ∧ w'.cell? ⟨g, 2, none⟩ = some (.int .i64 gen) ∧ w'.cell? ⟨q, 3, none⟩ = some (.int .i64 kd) ∧ w'.cell? ⟨q, 4, none⟩ = some (.int .i64 lv) ∧ w'.cell? ⟨q, 5, none⟩ = some (.slice (some ⟨gi, 0, none⟩) n (n + 2)) ∧ w'.cell? ⟨q, 6, none⟩ = some (.slice (some ⟨gd, 0, none⟩) dl (dl + 64)) ∧ w'.cell? ⟨q, 7, none⟩ = some (.int .i64 nx) ∧ w'.cell? ⟨q, 8, none⟩ = some (.slice (some ⟨gb, 0, none⟩) bl (bl + 64))) w1 from by
    obtain ⟨c0, c1, c2, -⟩ := cells9 ((h.block _ (rlt_of_heapP HG_10.out)).trans HG_10.out)
    obtain ⟨-, -, -, c3, c4, c5, c6, c7, c8, -⟩ := cells9 ((h.block _ (rlt_of_heapP HQ_10.out)).trans HQ_10.out)
    exact ⟨c0, c1, c2, c3, c4, c5, c6, c7, c8⟩)
  have HBd := Lib.hid (show Below U10.heap.size U10 U10.drew from (Below.refl U10.heap.size U10).drew)
  have HSe := Lib.hid (HS.out _ HBd.out)
  clear hg hq hp2 hb2 hk2 hbI hlong HG_10 HQ_10
  conv => arg 2; whnf
  refine wp_region_E (fun w' : World => w'.cell? ⟨g, 0, none⟩ = some (.int .i64 kind) ∧ w'.cell? ⟨g, 1, none⟩ = some (.int .i64 no) ∧ w'.cell? ⟨g, 2, none⟩ = some (.int .i64 gen) ∧ w'.cell? ⟨q, 3, none⟩ = some (.int .i64 kd) ∧ w'.cell? ⟨q, 4, none⟩ = some (.int .i64 lv) ∧ w'.cell? ⟨q, 5, none⟩ = some (.slice (some ⟨gi, 0, none⟩) n (n + 2)) ∧ w'.cell? ⟨q, 6, none⟩ = some (.slice (some ⟨gd, 0, none⟩) dl (dl + 64)) ∧ w'.cell? ⟨q, 7, none⟩ = some (.int .i64 nx) ∧ w'.cell? ⟨q, 8, none⟩ = some (.slice (some ⟨gb, 0, none⟩) bl (bl + 64))) 14 (by as_aux_lemma => kernel_rfl) (by as_aux_lemma => kernel_rfl) ?_
  change At _ _ _ _ _ _ 15 #[false, false, false, false, false, false, false, false, false, false, false, false, false, false, false] _ _
  refine at_take 0 (v := ?_) rfl (by decide) (by as_aux_lemma => kernel_rfl) (by as_aux_lemma => kernel_rfl) (fun _ _ _ h => HQP.out _ _ _ _ _ h) (Or.inl ⟨by rfl, ?_⟩) HSe.out ?_
  rotate_left
  · intro w' hSw; (try dsimp only at hSw); go_simp; (try with_reducible rfl)
  simp only [Act.put, List.setIfInBounds_toArray, List.set_cons_zero, List.set_cons_succ]
  refine at_take 1 (v := ?_) rfl (by decide) (by as_aux_lemma => kernel_rfl) (by as_aux_lemma => kernel_rfl) (fun _ _ _ h => HQP.out _ _ _ _ _ h) (Or.inl ⟨by rfl, ?_⟩) HSe.out ?_
  rotate_left
  · intro w' hSw; (try dsimp only at hSw); go_simp; (try with_reducible rfl)
  simp only [Act.put, List.setIfInBounds_toArray, List.set_cons_zero, List.set_cons_succ]
  refine at_take 2 (v := ?_) rfl (by decide) (by as_aux_lemma => kernel_rfl) (by as_aux_lemma => kernel_rfl) (fun _ _ _ h => HQP.out _ _ _ _ _ h) (Or.inl ⟨by rfl, ?_⟩) HSe.out ?_
  rotate_left
  · intro w' hSw; (try dsimp only at hSw); go_simp; (try with_reducible rfl)
  simp only [Act.put, List.setIfInBounds_toArray, List.set_cons_zero, List.set_cons_succ]
  refine at_take 3 (v := ?_) rfl (by decide) (by as_aux_lemma => kernel_rfl) (by as_aux_lemma => kernel_rfl) (fun _ _ _ h => HQP.out _ _ _ _ _ h) (Or.inl ⟨by rfl, ?_⟩) HSe.out ?_
  rotate_left
  · intro w' hSw; (try dsimp only at hSw); go_simp; (try with_reducible rfl)
  simp only [Act.put, List.setIfInBounds_toArray, List.set_cons_zero, List.set_cons_succ]
  refine at_take 4 (v := ?_) rfl (by decide) (by as_aux_lemma => kernel_rfl) (by as_aux_lemma => kernel_rfl) (fun _ _ _ h => HQP.out _ _ _ _ _ h) (Or.inl ⟨by rfl, ?_⟩) HSe.out ?_
  rotate_left
  · intro w' hSw; (try dsimp only at hSw); go_simp; (try with_reducible rfl)
  simp only [Act.put, List.setIfInBounds_toArray, List.set_cons_zero, List.set_cons_succ]
  refine at_take 5 (v := ?_) rfl (by decide) (by as_aux_lemma => kernel_rfl) (by as_aux_lemma => kernel_rfl) (fun _ _ _ h => HQP.out _ _ _ _ _ h) (Or.inl ⟨by rfl, ?_⟩) HSe.out ?_
  rotate_left
  · intro w' hSw; (try dsimp only at hSw); go_simp; (try with_reducible rfl)
  simp only [Act.put, List.setIfInBounds_toArray, List.set_cons_zero, List.set_cons_succ]
  refine at_take 6 (v := ?_) rfl (by decide) (by as_aux_lemma => kernel_rfl) (by as_aux_lemma => kernel_rfl) (fun _ _ _ h => HQP.out _ _ _ _ _ h) (Or.inl ⟨by rfl, ?_⟩) HSe.out ?_
  rotate_left
  · intro w' hSw; (try dsimp only at hSw); go_simp; (try with_reducible rfl)
  simp only [Act.put, List.setIfInBounds_toArray, List.set_cons_zero, List.set_cons_succ]
  refine at_take 7 (v := ?_) rfl (by decide) (by as_aux_lemma => kernel_rfl) (by as_aux_lemma => kernel_rfl) (fun _ _ _ h => HQP.out _ _ _ _ _ h) (Or.inl ⟨by rfl, ?_⟩) HSe.out ?_
  rotate_left
  · intro w' hSw; (try dsimp only at hSw); go_simp; (try with_reducible rfl)
  simp only [Act.put, List.setIfInBounds_toArray, List.set_cons_zero, List.set_cons_succ]
  refine at_take 9 (v := ?_) rfl (by decide) (by as_aux_lemma => kernel_rfl) (by as_aux_lemma => kernel_rfl) (fun _ _ _ h => HQP.out _ _ _ _ _ h) (Or.inl ⟨by rfl, ?_⟩) HSe.out ?_
  rotate_left
  · intro w' hSw; (try dsimp only at hSw); go_simp; (try with_reducible rfl)
  simp only [Act.put, List.setIfInBounds_toArray, List.set_cons_zero, List.set_cons_succ]
  refine at_take 10 (v := ?_) rfl (by decide) (by as_aux_lemma => kernel_rfl) (by as_aux_lemma => kernel_rfl) (fun _ _ _ h => HQP.out _ _ _ _ _ h) (Or.inl ⟨by rfl, ?_⟩) HSe.out ?_
  rotate_left
  · intro w' hSw; (try dsimp only at hSw); go_simp; (try with_reducible rfl)
  simp only [Act.put, List.setIfInBounds_toArray, List.set_cons_zero, List.set_cons_succ]
  refine at_two 8 13 rfl rfl (by decide) (by decide) (by as_aux_lemma => kernel_rfl) (by rfl) (by rfl) ?_ ?_
  · intro K hK
    go_simp
    refine (HCP.out _ HBd.out).mono ?_
    rintro _ w2 ⟨ja, jc, ea, ec, rfl, hcp, hb2⟩
    have HB2 := Lib.hid (HBd.out.trans (hb2.mono HBd.out.size))
    have HS2 := Lib.hid (HS.out w2 HB2.out)
    have HC2 := Lib.hid hcp
    have hz2 := hb2.size
    clear hcp hb2
    go_simp
    refine hK _ _ HS2.out ?_
    clear hK K
    simp only [Act.put, List.setIfInBounds_toArray, List.set_cons_zero, List.set_cons_succ]
    refine at_two 11 13 rfl rfl (by decide) (by decide) (by as_aux_lemma => kernel_rfl) (by rfl) (by rfl) ?_ ?_
    · intro K hK
      go_simp
      refine (HCB.out _ HB2.out).mono ?_
      rintro _ w3 ⟨pa, pc, rfl, hO, ho, hb3⟩
      have HB3 := Lib.hid (HB2.out.trans (hb3.mono HB2.out.size))
      have HS3 := Lib.hid (HS.out w3 HB3.out)
      have HC3 := Lib.hid (HC2.out.below hb3)
      have ha := one_below w3 (.cells #[.int .i64 0, .int .i64 0, .int .i64 0, .int .i64 0, .int .i64 0, .slice none 0 0, .slice none 0 0, .int .i64 0, .slice none 0 0] 29)
      have HB4 := Lib.hid (HB3.out.trans (ha.mono HB3.out.size))
      have HS4 := Lib.hid (HS.out _ HB4.out)
      have HQn := Lib.hid (heap_alloc_new w3 (.cells #[.int .i64 0, .int .i64 0, .int .i64 0, .int .i64 0, .int .i64 0, .slice none 0 0, .slice none 0 0, .int .i64 0, .slice none 0 0] 29))
      have HSC := Lib.hid (ncut_at (lo := 0) (W := U10) (kind := kind) (no := no) (gen := gen) (kd := kd) (lv := lv) (nx := nx) (n := n) (dl := dl) (bl := bl) rfl HQn.out (fun w5 h5 => (HC3.out.chg (F := fun k => k = w3.heap.size) ((Chg.of_below ha).trans h5 (fun _ _ f => f)) (fun k hk => .inr (by omega))).low HBd.out.size) (hO.below ha) (fun k e => Nat.ne_of_lt (hO.lt k e)) HB3.out.size HB4.out)
      clear ha
      clear hO ho hb3
      go_simp
      refine hK _ _ HS3.out ?_
      clear hK K
      simp only [Act.put, List.setIfInBounds_toArray, List.set_cons_zero, List.set_cons_succ]
      refine at_take 12 (v := ?_) rfl (by decide) (by as_aux_lemma => kernel_rfl) (by as_aux_lemma => kernel_rfl) (fun _ _ _ h => HQP.out _ _ _ _ _ h) (Or.inl ⟨by rfl, ?_⟩) HS3.out ?_
      rotate_left
      · intro w' hSw; (try dsimp only at hSw); go_simp; (try with_reducible rfl)
      simp only [Act.put, List.setIfInBounds_toArray, List.set_cons_zero, List.set_cons_succ]
      refine at_only 13 rfl (by decide) (by as_aux_lemma => kernel_rfl) (by rfl) ?_
      intro K hK
      go_simp
      refine hK _ _ HS4.out ?_
      clear hK K
      simp only [Act.put, List.setIfInBounds_toArray, List.set_cons_zero, List.set_cons_succ]
      generalize w3.alloc (.cells #[.int .i64 0, .int .i64 0, .int .i64 0, .int .i64 0, .int .i64 0, .slice none 0 0, .slice none 0 0, .int .i64 0, .slice none 0 0] 29) = w4 at HQn HSC ⊢
      generalize w3.heap.size = qn at HQn HSC ⊢
      refine at_tail rfl (by as_aux_lemma => kernel_rfl) ?_
      simp only [List.drop_succ_cons, List.drop_zero]
      obtain ⟨r0, r1, r2, r3, r4, r5, r6, r7, r8, rf⟩ := cells9 HQn.out
      have f0 := rf 0
      have f1 := rf 1
      have f2 := rf 2
      have f3 := rf 3
      have f4 := rf 4
      have f5 := rf 5
      have f6 := rf 6
      have f7 := rf 7
      have f8 := rf 8
      clear rf
      go_wp2_with fail
      exact HJ.out _ _ _ _ _ _ _ _ _ _ _ _ _ _ _ HSC.out
    · intro K hK
      have ha := one_below w2 (.cells #[.int .i64 0, .int .i64 0, .int .i64 0, .int .i64 0, .int .i64 0, .slice none 0 0, .slice none 0 0, .int .i64 0, .slice none 0 0] 29)
      have HB3 := Lib.hid (HB2.out.trans (ha.mono HB2.out.size))
      have HS3 := Lib.hid (HS.out _ HB3.out)
      have HQn := Lib.hid (heap_alloc_new w2 (.cells #[.int .i64 0, .int .i64 0, .int .i64 0, .int .i64 0, .int .i64 0, .slice none 0 0, .slice none 0 0, .int .i64 0, .slice none 0 0] 29))
      have HCC := Lib.hid fun (w5 : World) (h : Chg (fun k => k = w2.heap.size) (w2.alloc (.cells #[.int .i64 0, .int .i64 0, .int .i64 0, .int .i64 0, .int .i64 0, .slice none 0 0, .slice none 0 0, .int .i64 0, .slice none 0 0] 29)) w5) => ((HC2.out.chg (F := fun k => k = w2.heap.size) ((Chg.of_below ha).trans h (fun _ _ f => f)) (fun k hk => .inr (by omega))).low HBd.out.size)
      have hqz9 : w2.heap.size < (w2.alloc (.cells #[.int .i64 0, .int .i64 0, .int .i64 0, .int .i64 0, .int .i64 0, .slice none 0 0, .slice none 0 0, .int .i64 0, .slice none 0 0] 29)).heap.size := by simp
      have hqW : U10.heap.size ≤ w2.heap.size := HB2.out.size
      clear ha
      go_simp
      refine hK _ _ HS3.out ?_
      clear hK K
      simp only [Act.put, List.setIfInBounds_toArray, List.set_cons_zero, List.set_cons_succ]
      generalize w2.alloc (.cells #[.int .i64 0, .int .i64 0, .int .i64 0, .int .i64 0, .int .i64 0, .slice none 0 0, .slice none 0 0, .int .i64 0, .slice none 0 0] 29) = w2b at HB3 HS3 HQn HCC hqz9 ⊢
      generalize w2.heap.size = qn at HQn HCC hqz9 hqW ⊢
      refine at_only 11 rfl (by decide) (by as_aux_lemma => kernel_rfl) (by rfl) ?_
      intro K hK
      go_simp
      refine (HCB.out _ HB3.out).mono ?_
      rintro _ w3 ⟨pa, pc, rfl, hO, ho, hb3⟩
      have HB4 := Lib.hid (HB3.out.trans (hb3.mono HB3.out.size))
      have HS4 := Lib.hid (HS.out w3 HB4.out)
      have HQ4 := Lib.hid ((hb3.block qn hqz9).trans HQn.out)
      have HSC := Lib.hid (ncut_at (lo := 0) (W := U10) (kind := kind) (no := no) (gen := gen) (kd := kd) (lv := lv) (nx := nx) (n := n) (dl := dl) (bl := bl) rfl HQ4.out (fun w5 h5 => HCC.out w5 ((Chg.of_below hb3).trans h5 (fun _ _ f => f))) hO (fun k e => by have := ho k e; omega) hqW HB4.out)
      clear hO ho hb3
      go_simp
      refine hK _ _ HS4.out ?_
      clear hK K
      simp only [Act.put, List.setIfInBounds_toArray, List.set_cons_zero, List.set_cons_succ]
      refine at_take 12 (v := ?_) rfl (by decide) (by as_aux_lemma => kernel_rfl) (by as_aux_lemma => kernel_rfl) (fun _ _ _ h => HQP.out _ _ _ _ _ h) (Or.inl ⟨by rfl, ?_⟩) HS4.out ?_
      rotate_left
      · intro w' hSw; (try dsimp only at hSw); go_simp; (try with_reducible rfl)
      simp only [Act.put, List.setIfInBounds_toArray, List.set_cons_zero, List.set_cons_succ]
      refine at_tail rfl (by as_aux_lemma => kernel_rfl) ?_
      simp only [List.drop_succ_cons, List.drop_zero]
      obtain ⟨r0, r1, r2, r3, r4, r5, r6, r7, r8, rf⟩ := cells9 HQ4.out
      have f0 := rf 0
      have f1 := rf 1
      have f2 := rf 2
      have f3 := rf 3
      have f4 := rf 4
      have f5 := rf 5
      have f6 := rf 6
      have f7 := rf 7
      have f8 := rf 8
      clear rf
      go_wp2_with fail
      exact HJ.out _ _ _ _ _ _ _ _ _ _ _ _ _ _ _ HSC.out
  · intro K hK
    have hbe : Below U10.heap.size U10 (U10.alloc (.cells #[.int .i64 0, .int .i64 0, .int .i64 0, .int .i64 0, .int .i64 0, .slice none 0 0, .slice none 0 0, .int .i64 0, .slice none 0 0] 29)).drew := ((Below.refl _ _).alloc (Nat.le_refl _) _).drew
    have HBe := Lib.hid hbe
    have HSb := Lib.hid (HS.out _ HBe.out)
    have HQn := Lib.hid (show (U10.alloc (.cells #[.int .i64 0, .int .i64 0, .int .i64 0, .int .i64 0, .int .i64 0, .slice none 0 0, .slice none 0 0, .int .i64 0, .slice none 0 0] 29)).drew.heap[U10.heap.size]? = some (.cells #[.int .i64 0, .int .i64 0, .int .i64 0, .int .i64 0, .int .i64 0, .slice none 0 0, .slice none 0 0, .int .i64 0, .slice none 0 0] 29) from heap_alloc_new U10 _)
    have hqz9 : U10.heap.size < (U10.alloc (.cells #[.int .i64 0, .int .i64 0, .int .i64 0, .int .i64 0, .int .i64 0, .slice none 0 0, .slice none 0 0, .int .i64 0, .slice none 0 0] 29)).drew.heap.size := by simp
    clear hbe
    go_simp
    refine hK _ _ HSb.out ?_
    clear hK K
    simp only [Act.put, List.setIfInBounds_toArray, List.set_cons_zero, List.set_cons_succ]
    generalize (U10.alloc (.cells #[.int .i64 0, .int .i64 0, .int .i64 0, .int .i64 0, .int .i64 0, .slice none 0 0, .slice none 0 0, .int .i64 0, .slice none 0 0] 29)).drew = w1b at HBe HSb HQn hqz9 ⊢
    refine at_only 8 rfl (by decide) (by as_aux_lemma => kernel_rfl) (by rfl) ?_
    intro K hK
    go_simp
    refine (HCP.out _ HBe.out).mono ?_
    rintro _ w2 ⟨ja, jc, ea, ec, rfl, hcp, hb2⟩
    have HB2 := Lib.hid (HBe.out.trans (hb2.mono HBe.out.size))
    have HS2 := Lib.hid (HS.out w2 HB2.out)
    have HC2 := Lib.hid hcp
    have hz2 := hb2.size
    have HQ2 := Lib.hid ((hb2.block _ hqz9).trans HQn.out)
    have hqz2 := Nat.lt_of_lt_of_le hqz9 hb2.size
    clear hcp hb2
    go_simp
    refine hK _ _ HS2.out ?_
    clear hK K
    simp only [Act.put, List.setIfInBounds_toArray, List.set_cons_zero, List.set_cons_succ]
    refine at_only 11 rfl (by decide) (by as_aux_lemma => kernel_rfl) (by rfl) ?_
    intro K hK
    go_simp
    refine (HCB.out _ HB2.out).mono ?_
    rintro _ w3 ⟨pa, pc, rfl, hO, ho, hb3⟩
    have HB3 := Lib.hid (HB2.out.trans (hb3.mono HB2.out.size))
    have HS3 := Lib.hid (HS.out w3 HB3.out)
    have HC3 := Lib.hid (HC2.out.below hb3)
    have HQ3 := Lib.hid ((hb3.block _ hqz2).trans HQ2.out)
    have HSC := Lib.hid (ncut_at (lo := 0) (W := U10) (kind := kind) (no := no) (gen := gen) (kd := kd) (lv := lv) (nx := nx) (n := n) (dl := dl) (bl := bl) rfl HQ3.out (fun w5 h5 => (HC3.out.chg h5 (fun k hk => .inl (by omega))).low (Nat.le_of_lt hqz9)) hO (fun k e => by have := ho k e; omega) (Nat.le_refl _) HB3.out)
    clear hO ho hb3
    go_simp
    refine hK _ _ HS3.out ?_
    clear hK K
    simp only [Act.put, List.setIfInBounds_toArray, List.set_cons_zero, List.set_cons_succ]
    refine at_take 12 (v := ?_) rfl (by decide) (by as_aux_lemma => kernel_rfl) (by as_aux_lemma => kernel_rfl) (fun _ _ _ h => HQP.out _ _ _ _ _ h) (Or.inl ⟨by rfl, ?_⟩) HS3.out ?_
    rotate_left
    · intro w' hSw; (try dsimp only at hSw); go_simp; (try with_reducible rfl)
    simp only [Act.put, List.setIfInBounds_toArray, List.set_cons_zero, List.set_cons_succ]
    generalize U10.heap.size = qn at HQ3 HSC ⊢
    refine at_tail rfl (by as_aux_lemma => kernel_rfl) ?_
    simp only [List.drop_succ_cons, List.drop_zero]
    obtain ⟨r0, r1, r2, r3, r4, r5, r6, r7, r8, rf⟩ := cells9 HQ3.out
    have f0 := rf 0
    have f1 := rf 1
    have f2 := rf 2
    have f3 := rf 3
    have f4 := rf 4
    have f5 := rf 5
    have f6 := rf 6
    have f7 := rf 7
    have f8 := rf 8
    clear rf
    go_wp2_with fail
    exact HJ.out _ _ _ _ _ _ _ _ _ _ _ _ _ _ _ HSC.out
end Go.Proofs.Ytkjgncmbhkhbnaa
