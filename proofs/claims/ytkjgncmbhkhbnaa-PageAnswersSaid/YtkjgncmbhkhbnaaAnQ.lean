/- same; what answers are like. told. All lists of bytes of an answer. -/
import Derived.Test.YtkjgncmbhkhbnaaAnA
import Derived.Test.YtkjgncmbhkhbnaaPEqP
namespace Go.Proofs.Ytkjgncmbhkhbnaa
open Go.RowKit
set_option linter.unusedVariables false
set_option maxRecDepth 100000

structure SZ (W : World) (vs us : Array Value) (w : World) : Prop where
  one : w.heap[W.heap.size]? = some (.cells vs 36)
  two : w.heap[W.heap.size + 1]? = some (.cells us 36)
  bel : Below W.heap.size W w
  siz : W.heap.size + 2 ≤ w.heap.size
theorem SZ.below {W w w2 : World} {vs us : Array Value} (h : SZ W vs us w) (hb : Below w.heap.size w w2) : SZ W vs us w2 :=
  ⟨(hb.block _ (by have := h.siz; omega)).trans h.one, (hb.block _ (by have := h.siz; omega)).trans h.two, h.bel.trans (hb.mono h.bel.size), Nat.le_trans h.siz hb.size⟩
theorem SZ.start (W : World) (vs us : Array Value) : SZ W vs us ((W.alloc (.cells vs 36)).alloc (.cells us 36)) := by
  have h1 := one_below W (.cells vs 36)
  have h2 := one_below (W.alloc (.cells vs 36)) (.cells us 36)
  have hs : (W.alloc (.cells vs 36)).heap.size = W.heap.size + 1 := by simp
  refine ⟨(h2.block _ (by omega)).trans (heap_alloc_new W _), ?_, h1.trans (h2.mono h1.size), by simp⟩
  rw [← hs]; exact heap_alloc_new _ _
/-- an answer that is read -/
structure AnRd (w : World) (A : AN) (d : AD) : Prop where
  p : PgAt w.heap.size w A.p d.ia d.ic d.da d.dc
  b : Bts w d.ba A.b
  l : Nts w d.la A.l
theorem AnRd.below {w w' : World} {A : AN} {d : AD} (h : AnRd w A d) (hb : Below w.heap.size w w') : AnRd w' A d := ⟨(h.p.below hb).mono hb.size, h.b.below hb, h.l.below hb⟩
set_option maxHeartbeats 4000000 in
theorem same_any (A : AN) (d e : AD) (w : World) (h1 : AnRd w A d) (h2 : AnRd w A e) (hb : A.b.length ≤ 4611686018427387904) (hl : A.l.length ≤ 4611686018427387904) :
    Calls Try.prog 17 #[anv A d, anv A e] w fun x w' => x = .returned (.bool true) ∧ Below w.heap.size w w' := by
  have HP := Lib.hid fun w1 (h : Below w.heap.size w w1) => eqPage_any A.p A.p d.ia d.ic d.da d.dc e.ia e.ic e.da e.dc w1 (h1.below h).p (h2.below h).p
  have HB := Lib.hid fun w1 (h : Below w.heap.size w w1) => eqBytes_any A.b A.b d.ba e.ba d.bc e.bc hb hb w1 (h1.below h).b (h2.below h).b
  have HI := Lib.hid fun w1 (h : Below w.heap.size w w1) => eqInts_any A.l A.l d.la e.la d.lc e.lc w1 (h1.below h).l (h2.below h).l hl hl
  unfold EqA pgv at HP
  unfold Same at HB
  unfold EqA at HI
  simp only [decide_true] at HP HB HI
  unfold anv
  obtain ⟨⟨kd, lv, items, data, nx⟩, n, bb, l, ee⟩ := A
  obtain ⟨ia, ic, da, dc, ba, bc, la, lc⟩ := d
  obtain ⟨ja, jc, ka, kc, pa, pc, qa, qc⟩ := e
  simp only at HP HB HI ⊢
  clear h1 h2 hb hl
  generalize items.length = il at *
  generalize data.length = dl at *
  generalize bb.length = bl at *
  generalize l.length = ll at *
  have hnn : ((n : Int) == (n : Int)) = true := by simp
  have hee : (ee == ee) = true := by simp
  have HZ := Lib.hid (SZ.start w #[.int .i64 kd, .int .i64 lv, .slice ia il ic, .slice da dl dc, .int .i64 nx, .int .i64 (n : Int), .slice ba bl bc, .slice la ll lc, .int .i64 ee] #[.int .i64 kd, .int .i64 lv, .slice ja il jc, .slice ka dl kc, .int .i64 nx, .int .i64 (n : Int), .slice pa bl pc, .slice qa ll qc, .int .i64 ee])
  go_enter Try.func17, Try.ntmps17
  go_wp2_with fail
  generalize (w.alloc _).alloc _ = W2 at HZ ⊢
  obtain ⟨c0, c1, c2, c3, c4, c5, c6, c7, c8, -⟩ := cells9 HZ.out.one
  obtain ⟨e0, e1, e2, e3, e4, e5, e6, e7, e8, -⟩ := cells9 HZ.out.two
  go_wp2_with fail
  refine (HP.out _ HZ.out.bel).mono ?_
  rintro _ w3 ⟨rfl, hb3⟩
  have HZ3 := Lib.hid (HZ.out.below hb3)
  clear hb3 HP HZ c0 c1 c2 c3 c4 c5 c6 c7 c8 e0 e1 e2 e3 e4 e5 e6 e7 e8
  obtain ⟨c0, c1, c2, c3, c4, c5, c6, c7, c8, -⟩ := cells9 HZ3.out.one
  obtain ⟨e0, e1, e2, e3, e4, e5, e6, e7, e8, -⟩ := cells9 HZ3.out.two
  go_wp2_with fail
  refine (HB.out _ HZ3.out.bel).mono ?_
  rintro _ w4 ⟨rfl, hb4⟩
  have HZ4 := Lib.hid (HZ3.out.below hb4)
  clear hb4 HB HZ3 c0 c1 c2 c3 c4 c5 c6 c7 c8 e0 e1 e2 e3 e4 e5 e6 e7 e8
  obtain ⟨c0, c1, c2, c3, c4, c5, c6, c7, c8, -⟩ := cells9 HZ4.out.one
  obtain ⟨e0, e1, e2, e3, e4, e5, e6, e7, e8, -⟩ := cells9 HZ4.out.two
  go_wp2_with fail
  refine (HI.out _ HZ4.out.bel).mono ?_
  rintro _ w5 ⟨rfl, hb5⟩
  have HBF := Lib.hid (HZ4.out.below hb5).bel
  clear hb5 HI HZ4 c0 c1 c2 c3 c4 c5 c6 c7 c8 e0 e1 e2 e3 e4 e5 e6 e7 e8
  go_wp2_with fail
  go_ret
  exact ⟨rfl, HBF.out⟩
end Go.Proofs.Ytkjgncmbhkhbnaa
namespace Go.Proofs.Ytkjgncmbhkhbnaa
open Go.RowKit
set_option linter.unusedVariables false
set_option maxRecDepth 100000

set_option maxHeartbeats 4000000 in
theorem told_any (kind no gen : Int) (p : PP) (ia : Option Addr) (ic : Nat) (da : Option Addr) (dc : Nat) (bs : List UInt8) (ba : Option Addr) (bc : Nat) (w : World) (hp : PgAt w.heap.size w p ia ic da dc) (hlen : p.items.length ≤ 4000000000000) (hb : Bts w ba bs) (hbc : bs.length ≤ bc) :
    Calls Try.prog 15 #[opv kind no gen p ia ic da dc bs ba bc] w (AnsP (ans kind no gen p bs) w) := by
  have HCH := Lib.hid fun w1 (h : Below w.heap.size w w1) => dCheck_any p ia ic da dc w1 ((hp.below h).mono h.size)
  have HEN := Lib.hid fun w1 (h : Below w.heap.size w w1) => dEncode_any no gen p ia ic da dc w1 ((hp.below h).mono h.size)
  have HDE := Lib.hid fun w1 (h : Below w.heap.size w w1) => dDecode_any no ba bc bs w1 (hb.below h) hbc
  have HKI := Lib.hid fun w1 (h : Below w.heap.size w w1) => dKids_any p ia ic da dc w1 ((hp.below h).mono h.size) hlen
  obtain ⟨A, hA⟩ : ∃ A, ans kind no gen p bs = A := ⟨_, rfl⟩
  rw [hA]
  unfold ans at hA
  have HA := Lib.hid hA.symm
  clear hA
  unfold Checked pgv at HCH
  unfold Encd pgv at HEN
  unfold DecdP at HDE
  unfold KidsP pgv at HKI
  generalize pcheck p = chk at *
  generalize pkids p = kl at *
  obtain ⟨⟨ee, eb⟩, hen⟩ : ∃ r, penc no gen p = r := ⟨_, rfl⟩
  obtain ⟨⟨de, dp, dn⟩, hde⟩ : ∃ r, pdec no bs = r := ⟨_, rfl⟩
  rw [hen] at HA HEN
  rw [hde] at HA HDE
  simp only at HA HEN HDE
  unfold opv
  obtain ⟨kd, lv, items, data, nx⟩ := p
  simp only at HCH HEN HKI ⊢
  generalize items.length = n at *
  generalize data.length = dl at *
  generalize bs.length = bl at *
  have HZ := Lib.hid (AZ.start w #[.int .i64 kind, .int .i64 no, .int .i64 gen, .int .i64 kd, .int .i64 lv, .slice ia n ic, .slice da dl dc, .int .i64 nx, .slice ba bl bc])
  clear hp hb hen hde hlen hbc
  by_cases hk0 : kind = 0
  · subst hk0
    rw [if_pos rfl] at HA
    go_enter Try.func15, Try.ntmps15
    go_wp2_with fail
    generalize (w.alloc _).alloc _ = W2 at HZ ⊢
    obtain ⟨c0, c1, c2, c3, c4, c5, c6, c7, c8, -⟩ := cells9 HZ.out.op
    go_wp2_with fail
    refine (HCH.out _ HZ.out.bel).mono ?_
    rintro _ w3 ⟨rfl, hb3⟩
    have HZ3 := Lib.hid (HZ.out.below hb3)
    clear hb3 c0 c1 c2 c3 c4 c5 c6 c7 c8
    obtain ⟨r0, r1, r2, r3, r4, r5, r6, r7, r8, rf⟩ := cells9 HZ3.out.an
    have f0 := rf 0
    have f1 := rf 1
    have f2 := rf 2
    have f3 := rf 3
    have f4 := rf 4
    have f5 := rf 5
    have f6 := rf 6
    have f7 := rf 7
    have f8 := rf 8
    clear rf
    go_wp2_with fail
    refine bodyPost_ret (v := .agg #[.int .i64 0, .int .i64 0, .slice none 0 0, .slice none 0 0, .int .i64 0, .int .i64 0, .slice none 0 0, .slice none 0 0, .int .i64 chk]) (by simp [results, Try.results15, go_sem, r0, r1, r2, r3, r4, r5, r6, r7, r8]) rfl ?_
    rw [HA.out]
    exact ans_done (A := ⟨zeroP, 0, [], [], chk⟩) (d := ⟨none, 0, none, 0, none, 0, none, 0⟩) ⟨newPg_zero HZ3.out.siz, OB.nil _, fun k e => (by cases e), OR.nil eN _, fun k e => (by cases e), .inl rfl⟩ HZ3.out.bel _ _ _ _ _ _ _ _ _
  rw [if_neg hk0] at HA
  have hd0 : (kind == 0) = false := by rw [beq_eq_false_iff_ne]; exact hk0
  by_cases hk1 : kind = 1
  · subst hk1
    rw [if_pos rfl] at HA
    obtain ⟨el, hel⟩ : ∃ el, eb.length = el := ⟨_, rfl⟩
    have HEL := Lib.hid hel
    rw [hel] at HEN
    clear hel
    go_enter Try.func15, Try.ntmps15
    go_wp2_with fail
    generalize (w.alloc _).alloc _ = W2 at HZ ⊢
    obtain ⟨c0, c1, c2, c3, c4, c5, c6, c7, c8, -⟩ := cells9 HZ.out.op
    go_wp2_with fail
    refine (HEN.out _ HZ.out.bel).mono ?_
    rintro _ w3 ⟨oa, oc, rfl, hO, ho, hb3⟩
    have HZ3 := Lib.hid (HZ.out.below hb3)
    have HAT := Lib.hid (show AnAt (w.heap.size + 2) w3 ⟨zeroP, 0, eb, [], ee⟩ ⟨none, 0, none, 0, oa, oc, none, 0⟩ from
      ⟨newPg_zero HZ3.out.siz, hO, fun k e => Nat.le_trans HZ.out.siz (ho k e), OR.nil eN _, fun k e => (by cases e), .inr ⟨rfl, rfl⟩⟩)
    clear hO ho hb3 c0 c1 c2 c3 c4 c5 c6 c7 c8
    obtain ⟨r0, r1, r2, r3, r4, r5, r6, r7, r8, rf⟩ := cells9 HZ3.out.an
    have f0 := rf 0
    have f1 := rf 1
    have f2 := rf 2
    have f3 := rf 3
    have f4 := rf 4
    have f5 := rf 5
    have f6 := rf 6
    have f7 := rf 7
    have f8 := rf 8
    clear rf
    go_wp2_with fail
    refine bodyPost_ret (v := .agg #[.int .i64 0, .int .i64 0, .slice none 0 0, .slice none 0 0, .int .i64 0, .int .i64 0, .slice oa el oc, .slice none 0 0, .int .i64 ee]) (by simp [results, Try.results15, go_sem, r0, r1, r2, r3, r4, r5, r6, r7, r8]) rfl ?_
    rw [HA.out]
    have hf := fun v0 v1 v2 v3 v4 v5 v6 v7 v8 => ans_done HAT.out HZ3.out.bel v0 v1 v2 v3 v4 v5 v6 v7 v8
    unfold anv at hf
    simp only [HEL.out] at hf
    exact hf _ _ _ _ _ _ _ _ _
  rw [if_neg hk1] at HA
  have hd1 : (kind == 1) = false := by rw [beq_eq_false_iff_ne]; exact hk1
  by_cases hk2 : kind = 2
  · subst hk2
    rw [if_pos rfl] at HA
    unfold pgv at HDE
    obtain ⟨il, hil⟩ : ∃ il, dp.items.length = il := ⟨_, rfl⟩
    obtain ⟨pl, hpl⟩ : ∃ pl, dp.data.length = pl := ⟨_, rfl⟩
    have HIL := Lib.hid hil
    have HPL := Lib.hid hpl
    rw [hil, hpl] at HDE
    clear hil hpl
    obtain ⟨dk, hdk⟩ : ∃ x, dp.kind = x := ⟨_, rfl⟩
    obtain ⟨dl2, hdl⟩ : ∃ x, dp.level = x := ⟨_, rfl⟩
    obtain ⟨dx, hdx⟩ : ∃ x, dp.next = x := ⟨_, rfl⟩
    have HDK := Lib.hid (And.intro hdk (And.intro hdl hdx))
    rw [hdk, hdl, hdx] at HDE
    clear hdk hdl hdx
    go_enter Try.func15, Try.ntmps15
    go_wp2_with fail
    generalize (w.alloc _).alloc _ = W2 at HZ ⊢
    obtain ⟨c0, c1, c2, c3, c4, c5, c6, c7, c8, -⟩ := cells9 HZ.out.op
    go_wp2_with fail
    refine (HDE.out _ HZ.out.bel).mono ?_
    rintro _ w3 ⟨ja, jc, ea, ec, rfl, hP, hb3⟩
    have HZ3 := Lib.hid (HZ.out.below hb3)
    have ha4 := one_below w3 (.cells #[.int .i64 dk, .int .i64 dl2, .slice ja il jc, .slice ea pl ec, .int .i64 dx] 27)
    have hp4 := heap_alloc_new w3 (.cells #[.int .i64 dk, .int .i64 dl2, .slice ja il jc, .slice ea pl ec, .int .i64 dx] 27)
    have HZ4 := Lib.hid (HZ3.out.below ha4)
    have HAT := Lib.hid (show AnAt (w.heap.size + 2) (w3.alloc (.cells #[.int .i64 dk, .int .i64 dl2, .slice ja il jc, .slice ea pl ec, .int .i64 dx] 27)) ⟨dp, dn, [], [], de⟩ ⟨ja, jc, ea, ec, none, 0, none, 0⟩ from
      ⟨(hP.low HZ.out.siz).below ha4, OB.nil _, fun k e => (by cases e), OR.nil eN _, fun k e => (by cases e), .inl rfl⟩)
    obtain ⟨x0, x1, x2, x3, x4⟩ := cells5 hp4
    have hs3 := HZ3.out.siz
    have hne : ¬ w3.heap.size = w.heap.size + 1 := by omega
    have hne2 : ¬ w.heap.size + 1 = w3.heap.size := by omega
    clear hP hb3 c0 c1 c2 c3 c4 c5 c6 c7 c8 ha4 hp4
    obtain ⟨r0, r1, r2, r3, r4, r5, r6, r7, r8, rf⟩ := cells9 HZ4.out.an
    have f0 := rf 0
    have f1 := rf 1
    have f2 := rf 2
    have f3 := rf 3
    have f4 := rf 4
    have f5 := rf 5
    have f6 := rf 6
    have f7 := rf 7
    have f8 := rf 8
    clear rf
    go_wp2_with fail
    refine bodyPost_ret (v := .agg #[.int .i64 dk, .int .i64 dl2, .slice ja il jc, .slice ea pl ec, .int .i64 dx, .int .i64 (dn : Int), .slice none 0 0, .slice none 0 0, .int .i64 de]) (by simp [results, Try.results15, go_sem, r0, r1, r2, r3, r4, r5, r6, r7, r8]) rfl ?_
    rw [HA.out]
    have hf := fun v0 v1 v2 v3 v4 v5 v6 v7 v8 => ans_done HAT.out HZ4.out.bel v0 v1 v2 v3 v4 v5 v6 v7 v8
    unfold anv at hf
    simp only [HIL.out, HPL.out, HDK.out.1, HDK.out.2.1, HDK.out.2.2] at hf
    exact hf _ _ _ _ _ _ _ _ _
  rw [if_neg hk2] at HA
  have hd2 : (kind == 2) = false := by rw [beq_eq_false_iff_ne]; exact hk2
  obtain ⟨ll, hll⟩ : ∃ ll, kl.length = ll := ⟨_, rfl⟩
  have HLL := Lib.hid hll
  rw [hll] at HKI
  clear hll hk0 hk1 hk2
  go_enter Try.func15, Try.ntmps15
  go_wp2_with fail
  generalize (w.alloc _).alloc _ = W2 at HZ ⊢
  obtain ⟨c0, c1, c2, c3, c4, c5, c6, c7, c8, -⟩ := cells9 HZ.out.op
  go_wp2_with fail
  refine (HKI.out _ HZ.out.bel).mono ?_
  rintro _ w3 ⟨oa, oc, rfl, hO, ho, hb3⟩
  have HZ3 := Lib.hid (HZ.out.below hb3)
  have HAT := Lib.hid (show AnAt (w.heap.size + 2) w3 ⟨zeroP, 0, [], kl, 0⟩ ⟨none, 0, none, 0, none, 0, oa, oc⟩ from
    ⟨newPg_zero HZ3.out.siz, OB.nil _, fun k e => (by cases e), hO, fun k e => Nat.le_trans HZ.out.siz (ho k e), .inl rfl⟩)
  clear hO ho hb3 c0 c1 c2 c3 c4 c5 c6 c7 c8
  obtain ⟨r0, r1, r2, r3, r4, r5, r6, r7, r8, rf⟩ := cells9 HZ3.out.an
  have f0 := rf 0
  have f1 := rf 1
  have f2 := rf 2
  have f3 := rf 3
  have f4 := rf 4
  have f5 := rf 5
  have f6 := rf 6
  have f7 := rf 7
  have f8 := rf 8
  clear rf
  go_wp2_with fail
  refine bodyPost_ret (v := .agg #[.int .i64 0, .int .i64 0, .slice none 0 0, .slice none 0 0, .int .i64 0, .int .i64 0, .slice none 0 0, .slice oa ll oc, .int .i64 0]) (by simp [results, Try.results15, go_sem, r0, r1, r2, r3, r4, r5, r6, r7, r8]) rfl ?_
  rw [HA.out]
  have hf := fun v0 v1 v2 v3 v4 v5 v6 v7 v8 => ans_done HAT.out HZ3.out.bel v0 v1 v2 v3 v4 v5 v6 v7 v8
  unfold anv at hf
  simp only [HLL.out] at hf
  exact hf _ _ _ _ _ _ _ _ _
end Go.Proofs.Ytkjgncmbhkhbnaa
namespace Go.Proofs.Ytkjgncmbhkhbnaa
open Go.RowKit
set_option linter.unusedVariables false
set_option maxRecDepth 100000

theorem Its.z {lo hi : Nat} {w : World} {la : Option Addr} {lc : Nat} {zs : List (PI × TA)} (h : Its lo hi w la lc zs) : ItZ w la zs := by
  rcases h.own.form.2 with ⟨_, _, h0, _⟩ | ⟨g, e, hg, _⟩
  · exact .inl (List.length_eq_zero_iff.1 h0)
  · refine .inr ⟨g, 0, e, hg, fun i z hz j u hj => ?_⟩
    obtain ⟨g', e', hc, _⟩ := h.own.cell (cellsZ_get hz j u hj)
    rw [e] at e'; cases e'
    rw [Nat.zero_add]; exact hc
set_option maxHeartbeats 1000000 in
theorem lists_any (A : AN) (d : AD) (zs : List (PI × TA)) (w : World) (hz : zs.map (·.1) = A.p.items) (hn : A.p.items.length ≤ 70000) (hi : ItZ w d.ia zs) :
    Calls Try.prog 23 #[anv A d] w (LsP (⟨d.da, d.dc, A.p.data.length⟩ :: lsZ zs ++ [⟨d.ba, d.bc, A.b.length⟩]) w) := by
  have HL := Lib.hid fun w1 (h : Below w.heap.size w w1) => listsOf_any A.p d.ia d.ic d.da d.dc zs w1 hz hn (hi.below h)
  have HLN0 := show (⟨d.da, d.dc, A.p.data.length⟩ :: lsZ zs ++ [⟨d.ba, d.bc, A.b.length⟩] : List Lst).length = (⟨d.da, d.dc, A.p.data.length⟩ :: lsZ zs : List Lst).length + 1 by simp
  have hml : (⟨d.da, d.dc, A.p.data.length⟩ :: lsZ zs : List Lst).length ≤ 150000 := by
    rw [List.length_cons, lsZ_length]
    have : zs.length = A.p.items.length := by rw [← hz, List.length_map]
    omega
  unfold LsP at HL
  unfold pgv at HL
  unfold anv
  obtain ⟨⟨kd, lv, items, data, nx⟩, n, bb, l, ee⟩ := A
  obtain ⟨ia, ic, da, dc, ba, bc, la, lc⟩ := d
  simp only at HL HLN0 hml ⊢
  obtain ⟨bl, hbl⟩ : ∃ bl, bb.length = bl := ⟨_, rfl⟩
  have HBB := Lib.hid hbl
  simp only [hbl] at HLN0 ⊢
  obtain ⟨dl, hdl⟩ : ∃ dl, data.length = dl := ⟨_, rfl⟩
  simp only [hdl] at HL HLN0 hml ⊢
  obtain ⟨m, hm⟩ : ∃ m, (⟨da, dc, dl⟩ :: lsZ zs : List Lst).length = m := ⟨_, rfl⟩
  rw [hm] at HLN0 hml
  simp only [hm] at HL
  obtain ⟨es, hes⟩ : ∃ es, (⟨da, dc, dl⟩ :: lsZ zs ++ [⟨ba, bc, bl⟩] : List Lst) = es := ⟨_, rfl⟩
  rw [hes] at HLN0 ⊢
  have HFin := Lib.hid fun (la2 : Option Addr) (lc2 : Nat) (w7 : World) (hO : OR ApB.eLB w7 la2 lc2 (m + 1) ((⟨da, dc, dl⟩ :: lsZ zs : List Lst).map Lst.val ++ [.slice ba bl bc])) (hf : ∀ j, blk la2 = some j → w.heap.size ≤ j) (hB : Below w.heap.size w w7) => (show LsP es w (.returned (.slice la2 (m + 1) lc2)) w7 from
    ⟨la2, lc2, by rw [HLN0], by rw [HLN0, ← hes, List.map_append]; exact hO, hf, hB⟩)
  obtain ⟨e0, he0⟩ : ∃ e0, (⟨da, dc, dl⟩ :: lsZ zs : List Lst).map Lst.val = e0 := ⟨_, rfl⟩
  simp only [he0] at HL HFin
  clear hes he0
  generalize items.length = il at *
  generalize l.length = ll at *
  clear hz hn hi HLN0 hbl hdl hm HBB
  have hg1 := heap_alloc_new w (.cells #[.int .i64 kd, .int .i64 lv, .slice ia il ic, .slice da dl dc, .int .i64 nx, .int .i64 (n : Int), .slice ba bl bc, .slice la ll lc, .int .i64 ee] 36)
  have hb1 := one_below w (.cells #[.int .i64 kd, .int .i64 lv, .slice ia il ic, .slice da dl dc, .int .i64 nx, .int .i64 (n : Int), .slice ba bl bc, .slice la ll lc, .int .i64 ee] 36)
  have hs1 : (w.alloc (.cells #[.int .i64 kd, .int .i64 lv, .slice ia il ic, .slice da dl dc, .int .i64 nx, .int .i64 (n : Int), .slice ba bl bc, .slice la ll lc, .int .i64 ee] 36)).heap.size = w.heap.size + 1 := by simp
  go_enter Try.func23, Try.ntmps23
  go_wp2_with fail
  generalize w.alloc (.cells #[.int .i64 kd, .int .i64 lv, .slice ia il ic, .slice da dl dc, .int .i64 nx, .int .i64 (n : Int), .slice ba bl bc, .slice la ll lc, .int .i64 ee] 36) = W1 at *
  obtain ⟨g, hgg⟩ : ∃ g, w.heap.size = g := ⟨_, rfl⟩
  have HGG := Lib.hid hgg
  simp only [hgg] at HL hg1 hb1 hs1 ⊢
  have HB1 := Lib.hid hb1
  have HZ := Lib.hid (show g ≤ W1.heap.size by omega)
  have hs1' : g < W1.heap.size := by omega
  have HS := Lib.hid fun w1 (h : Below W1.heap.size W1 w1) => (show (fun w' : World => w'.cell? ⟨g, 0, none⟩ = some (.int .i64 kd) ∧ w'.cell? ⟨g, 1, none⟩ = some (.int .i64 lv) ∧ w'.cell? ⟨g, 2, none⟩ = some (.slice ia il ic) ∧ w'.cell? ⟨g, 3, none⟩ = some (.slice da dl dc) ∧ w'.cell? ⟨g, 4, none⟩ = some (.int .i64 nx) ∧ w'.cell? ⟨g, 6, none⟩ = some (.slice ba bl bc)) w1 from by
    obtain ⟨c0, c1, c2, c3, c4, c5, c6, c7, c8, -⟩ := cells9 ((h.block g hs1').trans hg1)
    exact ⟨c0, c1, c2, c3, c4, c6⟩)
  have HL := Lib.hid fun w1 (h : Below W1.heap.size W1 w1) => HL.out w1 (HB1.out.trans (h.mono HZ.out))
  clear hg1 hb1 hs1 hs1' hgg
  have HBd := Lib.hid (show Below W1.heap.size W1 W1.drew from (Below.refl W1.heap.size W1).drew)
  have HSe := Lib.hid (HS.out _ HBd.out)
  refine wp_region_E (fun w' : World => w'.cell? ⟨g, 0, none⟩ = some (.int .i64 kd) ∧ w'.cell? ⟨g, 1, none⟩ = some (.int .i64 lv) ∧ w'.cell? ⟨g, 2, none⟩ = some (.slice ia il ic) ∧ w'.cell? ⟨g, 3, none⟩ = some (.slice da dl dc) ∧ w'.cell? ⟨g, 4, none⟩ = some (.int .i64 nx) ∧ w'.cell? ⟨g, 6, none⟩ = some (.slice ba bl bc)) 6 (by kernel_rfl) (by kernel_rfl) ?_
  change At _ _ _ _ _ _ 8 #[false, false, false, false, false, false, false, false] _ _
  refine at_take 0 (v := ?_) rfl (by decide) (by kernel_rfl) (by kernel_rfl) (fun _ _ _ h => h) (Or.inl ⟨by rfl, ?_⟩) HSe.out ?_
  rotate_left
  · intro w' hSw; (try dsimp only at hSw); go_simp; (try with_reducible rfl)
  simp only [Act.put, List.setIfInBounds_toArray, List.set_cons_zero, List.set_cons_succ]
  refine at_take 1 (v := ?_) rfl (by decide) (by kernel_rfl) (by kernel_rfl) (fun _ _ _ h => h) (Or.inl ⟨by rfl, ?_⟩) HSe.out ?_
  rotate_left
  · intro w' hSw; (try dsimp only at hSw); go_simp; (try with_reducible rfl)
  simp only [Act.put, List.setIfInBounds_toArray, List.set_cons_zero, List.set_cons_succ]
  refine at_take 3 (v := ?_) rfl (by decide) (by kernel_rfl) (by kernel_rfl) (fun _ _ _ h => h) (Or.inl ⟨by rfl, ?_⟩) HSe.out ?_
  rotate_left
  · intro w' hSw; (try dsimp only at hSw); go_simp; (try with_reducible rfl)
  simp only [Act.put, List.setIfInBounds_toArray, List.set_cons_zero, List.set_cons_succ]
  refine at_take 4 (v := ?_) rfl (by decide) (by kernel_rfl) (by kernel_rfl) (fun _ _ _ h => h) (Or.inl ⟨by rfl, ?_⟩) HSe.out ?_
  rotate_left
  · intro w' hSw; (try dsimp only at hSw); go_simp; (try with_reducible rfl)
  simp only [Act.put, List.setIfInBounds_toArray, List.set_cons_zero, List.set_cons_succ]
  refine at_two 2 5 rfl rfl (by decide) (by decide) (by kernel_rfl) (by rfl) (by rfl) ?_ ?_
  · intro K hK
    go_simp
    refine (HL.out _ HBd.out).mono ?_
    rintro _ w2 ⟨la, lc, rfl, hO, ho, hb2⟩
    have HB2 := Lib.hid (HBd.out.trans (hb2.mono HBd.out.size))
    have HS2 := Lib.hid (HS.out w2 HB2.out)
    have ha := one_below w2 (.cells #[.slice ba bl bc] 25)
    have HB3' := Lib.hid (HB2.out.trans (ha.mono HB2.out.size))
    have HS3 := Lib.hid (HS.out _ HB3'.out)
    have HO3 := Lib.hid (hO.chg (F := fun _ => False) (Chg.of_below ha) (fun _ _ f => f))
    have HU3 := Lib.hid (fun j e => Nat.le_trans (Nat.le_trans HZ.out HBd.out.size) (ho j e))
    have HB3 := Lib.hid (HB1.out.trans (HB3'.out.mono HZ.out))
    have HNW := Lib.hid (show (w2.alloc (.cells #[.slice ba bl bc] 25)).heap[w2.heap.size]? = some (.cells [.slice ba bl bc].toArray 25) from heap_alloc_new w2 _)
    clear hO ho hb2 ha
    go_simp
    refine hK _ _ HS2.out ?_
    clear hK K
    simp only [Act.put, List.setIfInBounds_toArray, List.set_cons_zero, List.set_cons_succ]
    refine at_only 5 rfl (by decide) (by kernel_rfl) (by rfl) ?_
    intro K hK
    go_simp
    refine hK _ _ HS3.out ?_
    clear hK K
    simp only [Act.put, List.setIfInBounds_toArray, List.set_cons_zero, List.set_cons_succ]
    refine at_tail rfl (by kernel_rfl) ?_
    simp only [List.drop_succ_cons, List.drop_zero]
    go_wp2_with (at_builtin; go_must (refine wpList_append_or ApB.eLB rfl (.tmp 5) (.tmp 8) rfl rfl HO3.out rfl (m := 1) (news := [.slice ba bl bc]) rfl (.inr ⟨_, rfl, news_row HNW.out⟩) (by simp [Value.oneCell']) (by show (m + 1) * 24 ≤ _; omega) (by omega) ?_)
                 intro la2 lc2 w7 hO7 hC7 hb7 _)
    go_ret
    refine HFin.out _ _ _ hO7 (fun j e => ?_) (by have h := HB3.out.trans (hC7.below (Nat.le_trans HZ.out HB3'.out.size) (fun j e => HU3.out j e)); rw [← HGG.out] at h; exact h)
    rw [HGG.out]
    rcases hb7 with hb7 | hb7
    · exact HU3.out j (hb7 ▸ e)
    · rw [hb7] at e; cases e; exact Nat.le_trans HZ.out HB3'.out.size
  · intro K hK
    have HBe := Lib.hid (show Below W1.heap.size W1 (W1.alloc (.cells #[.slice ba bl bc] 25)).drew from ((Below.refl _ _).alloc (Nat.le_refl _) _).drew)
    have HS2 := Lib.hid (HS.out _ HBe.out)
    have hnw := (show (W1.alloc (.cells #[.slice ba bl bc] 25)).drew.heap[W1.heap.size]? = some (.cells [.slice ba bl bc].toArray 25) from heap_alloc_new W1 _)
    go_simp
    refine hK _ _ HS2.out ?_
    clear hK K
    simp only [Act.put, List.setIfInBounds_toArray, List.set_cons_zero, List.set_cons_succ]
    refine at_only 2 rfl (by decide) (by kernel_rfl) (by rfl) ?_
    intro K hK
    go_simp
    refine (HL.out _ HBe.out).mono ?_
    rintro _ w2 ⟨la, lc, rfl, hO, ho, hb2⟩
    have HB3' := Lib.hid (HBe.out.trans (hb2.mono HBe.out.size))
    have HS3 := Lib.hid (HS.out w2 HB3'.out)
    have HO3 := Lib.hid hO
    have HU3 := Lib.hid (fun j e => Nat.le_trans (Nat.le_trans HZ.out HBe.out.size) (ho j e))
    have HB3 := Lib.hid (HB1.out.trans (HB3'.out.mono HZ.out))
    have HNW := Lib.hid ((hb2.block W1.heap.size (rlt_of_heapP hnw)).trans hnw)
    clear hO ho hb2
    go_simp
    refine hK _ _ HS3.out ?_
    clear hK K
    simp only [Act.put, List.setIfInBounds_toArray, List.set_cons_zero, List.set_cons_succ]
    refine at_tail rfl (by kernel_rfl) ?_
    simp only [List.drop_succ_cons, List.drop_zero]
    go_wp2_with (at_builtin; go_must (refine wpList_append_or ApB.eLB rfl (.tmp 5) (.tmp 8) rfl rfl HO3.out rfl (m := 1) (news := [.slice ba bl bc]) rfl (.inr ⟨_, rfl, news_row HNW.out⟩) (by simp [Value.oneCell']) (by show (m + 1) * 24 ≤ _; omega) (by omega) ?_)
                 intro la2 lc2 w7 hO7 hC7 hb7 _)
    go_ret
    refine HFin.out _ _ _ hO7 (fun j e => ?_) (by have h := HB3.out.trans (hC7.below (Nat.le_trans HZ.out HB3'.out.size) (fun j e => HU3.out j e)); rw [← HGG.out] at h; exact h)
    rw [HGG.out]
    rcases hb7 with hb7 | hb7
    · exact HU3.out j (hb7 ▸ e)
    · rw [hb7] at e; cases e; exact Nat.le_trans HZ.out HB3'.out.size
end Go.Proofs.Ytkjgncmbhkhbnaa
