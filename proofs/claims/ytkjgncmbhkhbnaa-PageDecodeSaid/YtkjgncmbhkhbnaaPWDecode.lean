/- The walk of PageDecode. -/
import Derived.Test.YtkjgncmbhkhbnaaDDec
import Derived.Test.YtkjgncmbhkhbnaaPWOneForm
namespace Go.Proofs.Ytkjgncmbhkhbnaa
open Go.RowKit
set_option linter.unusedVariables false
set_option maxRecDepth 100000

theorem pdec_at {no : Int} {bs : List UInt8} {lo : Nat} {w : World} {ia : Option Addr} {ic : Nat} {da : Option Addr} {dc : Nat} (h : NewPg lo w (pdec no bs).2.1 ia ic da dc) : PgAt w.heap.size w (pdec no bs).2.1 ia ic da dc := by
  by_cases he : (pdec no bs).1 = 0
  · obtain ⟨⟨e, p, g⟩, hr⟩ : ∃ r, pdec no bs = r := ⟨_, rfl⟩
    rw [hr] at he h ⊢
    simp only at he h ⊢
    subst he
    obtain ⟨-, -, h3, -⟩ := pdec_one hr
    exact h.right (pcheck_right h3)
  · have hz := pdec_not he
    rw [hz] at h ⊢
    simp only at h ⊢
    exact h.pgAt (fun x hx => (by cases hx)) (Nat.zero_le _) (Nat.zero_le _) ⟨by decide, by decide⟩ ⟨by decide, by decide⟩ ⟨by decide, by decide⟩
set_option maxHeartbeats 1000000 in
theorem pageDecode_bts (no : Int) (a : Option Addr) (bs : List UInt8) (cap : Nat) (W : World) (hl : bs.length ≤ cap) (hb : Bts W a bs) :
    Calls Try.prog 6 #[.int .i64 no, .slice a bs.length cap] W fun e w' => e = .returned (.bool true) ∧ Below W.heap.size W w' := by
  have HP := Lib.hid fun w1 (h : Below W.heap.size W w1) => pDecode_any no a cap bs w1 (hb.below h) hl
  have HQ := Lib.hid fun w1 (h : Below W.heap.size W w1) => dDecode_any no a cap bs w1 (hb.below h) hl
  have HAT := Lib.hid fun (lo : Nat) (w1 : World) ia ic da dc (h : NewPg lo w1 (pdec no bs).2.1 ia ic da dc) => pdec_at h
  unfold DecdP at HP HQ
  generalize pdec no bs = r at HP HQ HAT
  obtain ⟨e, p, gen⟩ := r
  simp only at HP HQ HAT
  have HEQ := Lib.hid fun (w1 : World) ia ic da dc ja jc ea ec h1 h2 => eqPage_any p p ia ic da dc ja jc ea ec w1 h1 h2
  unfold EqA at HEQ
  simp only [decide_true] at HEQ
  obtain ⟨kd, lv, its, ds, nx⟩ := p
  simp only [pgv_row] at HP HQ HEQ
  obtain ⟨il, hil⟩ : ∃ il, its.length = il := ⟨_, rfl⟩
  obtain ⟨dl, hdl⟩ : ∃ dl, ds.length = dl := ⟨_, rfl⟩
  simp only [hil, hdl] at HP HQ HEQ
  generalize bs.length = bl at HP HQ hl ⊢
  clear hb hl hil hdl
  go_enter Try.func6, Try.ntmps6
  go_wp2_with fail
  refine (HP.out _ (Below.refl _ _)).mono ?_
  rintro _ w1 ⟨ia, ic, da, dc, rfl, hN1, hB1⟩
  have HB2 := Lib.hid (hB1.trans ((one_below w1 (.cells #[.int .i64 kd, .int .i64 lv, .slice ia il ic, .slice da dl dc, .int .i64 nx] 27)).mono hB1.size))
  have HA2 := Lib.hid ((HAT.out _ _ _ _ _ _ hN1).below (one_below w1 (.cells #[.int .i64 kd, .int .i64 lv, .slice ia il ic, .slice da dl dc, .int .i64 nx] 27)))
  have HR2 := Lib.hid (heap_alloc_new w1 (.cells #[.int .i64 kd, .int .i64 lv, .slice ia il ic, .slice da dl dc, .int .i64 nx] 27))
  have HS2 := Lib.hid (one_below w1 (.cells #[.int .i64 kd, .int .i64 lv, .slice ia il ic, .slice da dl dc, .int .i64 nx] 27)).size
  clear hN1 hB1 HP
  go_wp2_with fail
  generalize w1.alloc (.cells #[.int .i64 kd, .int .i64 lv, .slice ia il ic, .slice da dl dc, .int .i64 nx] 27) = w2 at HB2 HA2 HR2 HS2 ⊢
  have HA2 := Lib.hid (HA2.out.mono HS2.out)
  generalize w1.heap.size = q at HR2 ⊢
  clear HS2
  refine (HQ.out _ HB2.out).mono ?_
  rintro _ w3 ⟨ja, jc, ea, ec, rfl, hN3, hB3⟩
  have HB3 := Lib.hid (HB2.out.trans (hB3.mono HB2.out.size))
  have HA3 := Lib.hid ((HA2.out.below hB3).mono hB3.size)
  have HR3 := Lib.hid ((hB3.block _ (rlt_of_heapP HR2.out)).trans HR2.out)
  have HC3 := Lib.hid (HAT.out _ _ _ _ _ _ hN3)
  clear hN3 hB3 HQ HB2 HA2 HR2
  have hb4 := one_below w3 (.cells #[.int .i64 kd, .int .i64 lv, .slice ja il jc, .slice ea dl ec, .int .i64 nx] 27)
  have HB4 := Lib.hid (HB3.out.trans (hb4.mono HB3.out.size))
  have HA4 := Lib.hid ((HA3.out.below hb4).mono hb4.size)
  have HC4 := Lib.hid ((HC3.out.below hb4).mono hb4.size)
  have HR4 := Lib.hid ((hb4.block _ (rlt_of_heapP HR3.out)).trans HR3.out)
  have HT4 := Lib.hid (heap_alloc_new w3 (.cells #[.int .i64 kd, .int .i64 lv, .slice ja il jc, .slice ea dl ec, .int .i64 nx] 27))
  clear hb4 HB3 HA3 HC3 HR3
  go_wp2_with fail
  generalize w3.alloc (.cells #[.int .i64 kd, .int .i64 lv, .slice ja il jc, .slice ea dl ec, .int .i64 nx] 27) = w4 at HB4 HA4 HC4 HR4 HT4 ⊢
  generalize w3.heap.size = q2 at HT4 ⊢
  refine (fixed_any _).mono ?_
  rintro _ w5 ⟨rfl, hB5⟩
  have HB5 := Lib.hid (HB4.out.trans (hB5.mono HB4.out.size))
  have HR5 := Lib.hid ((hB5.block _ (rlt_of_heapP HR4.out)).trans HR4.out)
  have HT5 := Lib.hid ((hB5.block _ (rlt_of_heapP HT4.out)).trans HT4.out)
  have H6 := Lib.hid (HEQ.out w5 ia ic da dc ja jc ea ec ((HA4.out.below hB5).mono hB5.size) ((HC4.out.below hB5).mono hB5.size))
  clear hB5 HB4 HA4 HC4 HR4 HT4 HEQ
  obtain ⟨x0, x1, x2, x3, x4⟩ := cells5 HR5.out
  obtain ⟨y0, y1, y2, y3, y4⟩ := cells5 HT5.out
  go_wp2_with fail
  refine H6.out.mono ?_
  rintro _ w6 ⟨rfl, hb6⟩
  have HB6 := Lib.hid (HB5.out.trans (hb6.mono HB5.out.size))
  clear hb6 H6 x0 x1 x2 x3 x4 y0 y1 y2 y3 y4
  go_wp2_with fail
  go_ret
  exact ⟨rfl, HB6.out⟩
theorem pageDecode_walk (no : Int) (a : Option Addr) (len cap : Nat) (zs : List Int) (W : World) (h0 : (Lit.int .i64 no).wf = true) (hr : IsRow .u8 W a len cap zs) (hc : cap ≤ 140737488351232) :
    Calls Try.prog 6 #[.int .i64 no, .slice a len cap] W fun e w' => e = .returned (.bool true) ∧ Below W.heap.size W w' := by
  have hlc := hr.len_cap
  obtain ⟨bs, rfl, hb⟩ := hr.bts
  exact pageDecode_bts no a bs cap W hlc hb
end Go.Proofs.Ytkjgncmbhkhbnaa
