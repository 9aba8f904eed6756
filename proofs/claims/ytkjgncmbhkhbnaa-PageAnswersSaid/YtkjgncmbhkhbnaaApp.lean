/- append to a list that the program made: where it makes a new list, the old one stays. -/
import Derived.Test.YtkjgncmbhkhbnaaByt
import Derived.Deep.RegionLaw
namespace Go.Proofs.Ytkjgncmbhkhbnaa
open Go.RowKit
set_option linter.unusedVariables false

/-- append: either the list is lengthened where it lies, or a new one is made and nothing else has turned -/
theorem run_append_two (E : Elt) (w : World) (ty : TypeId) {oa : Option Addr} {cap n : Nat} {cs : List Value} (hown : OR E w oa cap n cs) {ad : Addr} {m c : Nat} {news : List Value} (hl : news.length = m * E.size) (hn : ∀ j u, news[j]? = some u → w.cell? (ad.add j) = some u) (h1 : ∀ u ∈ news, u.oneCell' = true)
    (hbytes : (n + m) * E.bytes ≤ 140737488355328) (h63 : n + m ≤ 140737488355328) :
    ∃ oa' cap' w', (Builtin.append_ #[E.t, E.t] ty #[.slice oa n cap, .slice (some ad) m c]).run Try.prog w = .ok (.slice oa' (n + m) cap') w' ∧ OR E w' oa' cap' (n + m) (cs ++ news) ∧ Chg (fun k => blk oa = some k) w w' ∧ (blk oa' = blk oa ∨ (blk oa' = some w.heap.size ∧ Chg (fun _ => False) w w')) := by
  obtain ⟨i0, hi, hz0, hz1, hz2⟩ := info_parts E.hi
  obtain ⟨v', w', hr, h2, h3, h4, h5⟩ := run_append_own_at (P := Try.prog) w 0 E.t ty E.e i0 E.z E.size E.bytes E.hu hi hz0 hz1 hz2 E.hz E.h0 (.slice oa n cap) n cs hown ad m c news hl hn h1 (by unfold maxLen; omega) hbytes (Nat.zero_le _)
  have hb : (Value.slice oa n cap).ownBlock = blk oa := by cases oa <;> rfl
  have hf : ∃ oa' cap', v' = .slice oa' (n + m) cap' := by
    rcases h2.2 with ⟨rfl, h0⟩ | ⟨g, cap', cur, rfl, _⟩
    · exact ⟨none, 0, by rw [h0]⟩
    · exact ⟨_, _, rfl⟩
  obtain ⟨oa', cap', rfl⟩ := hf
  have hC : Chg (fun k => blk oa = some k) w w' := ⟨h3.os, h3.tape, h3.output, h3.size, fun k hk hn => h3.block k hk (by rw [hb]; exact fun e => hn e.symm)⟩
  refine ⟨oa', cap', w', hr, h2, hC, ?_⟩
  have hb' : (Value.slice oa' (n + m) cap').ownBlock = blk oa' := by cases oa' <;> rfl
  rw [hb, hb'] at h5
  rcases h5 with h5 | h5
  · exact .inl h5
  rcases hown.form with ⟨g1, ⟨rfl, _⟩ | ⟨g, rfl, hg, hnc, hcm, rest, hh, hlen⟩⟩
  · exact .inr ⟨h5, hC.mono fun i _ e => by cases e⟩
  · by_cases hroom : n + m ≤ cap
    · have hr2 := run_append_room (P := Try.prog) w E.t ty E.e i0 E.hu hi g n cap _ hh ad m c news (by rw [hz1]; exact hl) hn h1 hroom (by
        rw [hz1, hl, List.size_toArray, hlen, ← Nat.add_mul]; exact Nat.mul_le_mul_right _ hroom)
      rw [hr] at hr2
      injection hr2 with e1 e2
      injection e1 with e1
      exact .inl (by rw [e1])
    · have holds : ∀ j u, cs[j]? = some u → w.cell? ((⟨g, 0, none⟩ : Addr).add j) = some u := fun j u hj => by
        obtain ⟨g', e, hc, _⟩ := hown.cell hj
        cases e
        rw [add_none, Nat.zero_add]; exact hc
      have hr2 := run_append_grow (P := Try.prog) w E.t ty E.e i0 E.z E.hu hi hz0 ⟨g, 0, none⟩ n cap cs (by rw [hz1]; exact g1) holds ad m c news (by rw [hz1]; exact hl) hn (by omega) (by omega) (growslice_fits (by omega) (by rw [hz2]; exact hbytes))
      rw [hr] at hr2
      injection hr2 with e1 e2
      refine .inr ⟨h5, ?_⟩
      rw [e2]
      exact (Chg.refl _ w).drew.alloc _

theorem wpList_append_two (E : Elt) {ops : Array Oper} {rest : List Oper} {o : Oper} {a : Act} {w : World} {Q : Exit → Act → World → Prop} (hgd : o.guard = none) (s x : Operand)
    (ho : o.op = .call { callee := .builtin .append, args := #[s, x], argTypes := #[E.t, E.t] })
    {oa : Option Addr} {cap n : Nat} {cs : List Value} (hs : a.eval s = .slice oa n cap) (hown : OR E w oa cap n cs)
    {ad : Addr} {m c : Nat} {news : List Value} (hx : a.eval x = .slice (some ad) m c) (hl : news.length = m * E.size) (hn : ∀ j u, news[j]? = some u → w.cell? (ad.add j) = some u) (h1 : ∀ u ∈ news, u.oneCell' = true)
    (hbytes : (n + m) * E.bytes ≤ 140737488355328) (h63 : n + m ≤ 140737488355328)
    (h : ∀ oa' cap' w', OR E w' oa' cap' (n + m) (cs ++ news) → Chg (fun k => blk oa = some k) w w' → (blk oa' = blk oa ∨ (blk oa' = some w.heap.size ∧ Chg (fun _ => False) w w')) → wpList Try.prog ops Q rest (a.put o.dst (.slice oa' (n + m) cap')) w') :
    wpList Try.prog ops Q (o :: rest) a w := by
  refine wpList_plain hgd fun K hK => ?_
  obtain ⟨oa', cap', w', hr, h2, h3, h4⟩ := run_append_two E w o.type hown hl hn h1 hbytes h63 (ad := ad) (c := c)
  unfold Oper.wp execOp
  simp only [ho, resolve, invoke, builtin, Sem.run_bind, Sem.run_pure, Result.andThen_ok, List.map_toArray, List.map_cons, List.map_nil, hs, hx, hr]
  exact hK _ _ (h oa' cap' w' h2 h3 h4)
/-- one cell in a new block -/
theorem cell_new (w : World) (v : Value) (t : TypeId) : ∀ j u, [v][j]? = some u → (w.alloc (.cells #[v] t)).cell? ((⟨w.heap.size, 0, none⟩ : Addr).add j) = some u := by
  intro j u hj
  obtain rfl : j = 0 := by
    have := (List.getElem?_eq_some_iff.1 hj).1
    simp at this; omega
  rw [add_none, cell_of_row _ _ _ _ _ _ (heap_alloc_new w _)]
  simpa using hj

/-- append, as one step of a region that draws -/
theorem step_append_two (E : Elt) {ops : Array Oper} {o : Oper} {a : Act} {w : World} {K : Act → World → Prop} {Q : Exit → Act → World → Prop} {F : Prop} (hgd : o.guard = none) (s x : Operand)
    (ho : o.op = .call { callee := .builtin .append, args := #[s, x], argTypes := #[E.t, E.t] })
    {oa : Option Addr} {cap n : Nat} {cs : List Value} (hs : a.eval s = .slice oa n cap) (hown : OR E w oa cap n cs)
    {ad : Addr} {m c : Nat} {news : List Value} (hx : a.eval x = .slice (some ad) m c) (hl : news.length = m * E.size) (hn : ∀ j u, news[j]? = some u → w.cell? (ad.add j) = some u) (h1 : ∀ u ∈ news, u.oneCell' = true)
    (hbytes : (n + m) * E.bytes ≤ 140737488355328) (h63 : n + m ≤ 140737488355328)
    (h : ∀ oa' cap' w', OR E w' oa' cap' (n + m) (cs ++ news) → Chg (fun k => blk oa = some k) w w' → (blk oa' = blk oa ∨ (blk oa' = some w.heap.size ∧ Chg (fun _ => False) w w')) → K (a.put o.dst (.slice oa' (n + m) cap')) w') :
    if Region.wanted o (yielded ops a.tmps) = true then Oper.wp Try.prog o a w K Q else F := by
  have hw : Region.wanted o (yielded ops a.tmps) = true := by simp [Region.wanted, hgd]
  rw [if_pos hw]
  obtain ⟨oa', cap', w', hr, h2, h3, h4⟩ := run_append_two E w o.type hown hl hn h1 hbytes h63 (ad := ad) (c := c)
  unfold Oper.wp execOp
  simp only [ho, resolve, invoke, builtin, Sem.run_bind, Sem.run_pure, Result.andThen_ok, List.map_toArray, List.map_cons, List.map_nil, hs, hx, hr]
  exact h oa' cap' w' h2 h3 h4
/-- .. of a byte to a list of bytes -/
theorem step_append_byte {ops : Array Oper} {o : Oper} {a : Act} {w : World} {K : Act → World → Prop} {Q : Exit → Act → World → Prop} {F : Prop} (hgd : o.guard = none) (s x : Operand)
    (ho : o.op = .call { callee := .builtin .append, args := #[s, x], argTypes := #[25, 25] })
    {oa : Option Addr} {cap n : Nat} {bs : List UInt8} {b : UInt8} (hs : a.eval s = .slice oa n cap) (hnb : bs.length = n) (hown : OB w oa cap bs)
    {ad : Addr} (hx : a.eval x = .slice (some ad) 1 1) (hn : w.cell? ad = some (.int .u8 (b.toNat : Int)))
    (h63 : n + 1 ≤ 140737488355328)
    (h : ∀ oa' cap' w', OB w' oa' cap' (bs ++ [b]) → Chg (fun k => blk oa = some k) w w' → (blk oa' = blk oa ∨ (blk oa' = some w.heap.size ∧ Chg (fun _ => False) w w')) → K (a.put o.dst (.slice oa' (n + 1) cap')) w') :
    if Region.wanted o (yielded ops a.tmps) = true then Oper.wp Try.prog o a w K Q else F := by
  subst hnb
  refine step_append_two eB hgd s x ho hs hown hx (news := [.int .u8 (b.toNat : Int)]) rfl (fun j u hj => ?_) (fun u hu => by simp at hu; subst hu; rfl) (by show _ * 1 ≤ _; omega) h63 fun oa' cap' w' h1 => h oa' cap' w' (by
    unfold OB
    rw [List.length_append, cellsB_append]
    exact h1)
  obtain rfl : j = 0 := by
    have := (List.getElem?_eq_some_iff.1 hj).1
    simp at this; omega
  cases hj
  rw [show ad.add 0 = ad by cases ad; unfold Addr.add; split <;> simp_all]
  exact hn
end Go.Proofs.Ytkjgncmbhkhbnaa
