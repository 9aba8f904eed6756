/- The walk of PageOneForm. -/
import Derived.Test.YtkjgncmbhkhbnaaPFixW
namespace Go.Proofs.Ytkjgncmbhkhbnaa
open Go.RowKit
set_option linter.unusedVariables false
set_option maxRecDepth 100000

theorem RightI.value_len {kind : Int} {x : PI} (h : RightI kind x) : x.value.length ≤ 32 := by
  by_cases hs : kind = 1 ∧ x.size ≤ 32
  · have := (h.small hs.1 hs.2).1; omega
  · rw [h.none hs]; simp
theorem NewPg.right {lo : Nat} {w : World} {p : PP} {ia : Option Addr} {ic : Nat} {da : Option Addr} {dc : Nat} (h : NewPg lo w p ia ic da dc) (hr : RightP p) : PgAt w.heap.size w p ia ic da dc := by
  have hk := hr.kind
  have hl := hr.level
  have hn := hr.next
  refine h.pgAt (fun x hx => ?_) ?_ (by have := hr.items; omega) ⟨by omega, by omega⟩ ⟨by omega, by omega⟩ ⟨by omega, by omega⟩
  · obtain ⟨i, hi⟩ := List.mem_iff_getElem?.1 hx
    have h1 := hr.all i x hi
    have := h1.key
    have := h1.value_len
    omega
  · by_cases h3 : p.kind = 3
    · have := hr.blob h3; omega
    · rw [(hr.data h3).1]; simp
theorem pgv_row (p : PP) (ia : Option Addr) (ic : Nat) (da : Option Addr) (dc : Nat) : pgv p ia ic da dc = .agg #[.int .i64 p.kind, .int .i64 p.level, .slice ia p.items.length ic, .slice da p.data.length dc, .int .i64 p.next] := rfl
theorem penc_ok {no : Int} {gen : Nat} {p : PP} (h1 : isPg no = true) (h2 : gen ≤ 1099511627776) (h3 : pcheck p = 0) : penc no gen p = (0, pblock no.toNat gen p) := by
  unfold penc
  rw [if_neg (by simp [h1]), if_neg (by omega), if_neg (by simp [h3]), Int.toNat_natCast]

set_option maxHeartbeats 1000000 in
theorem pageOneForm_bts (no : Int) (a : Option Addr) (bs : List UInt8) (cap : Nat) (W : World) (hl : bs.length ≤ cap) (hc : bs.length ≤ 4611686018427387904) (hb : Bts W a bs) :
    Calls Try.prog 8 #[.int .i64 no, .slice a bs.length cap] W fun e w' => e = .returned (.bool true) ∧ Below W.heap.size W w' := by
  have HD := Lib.hid fun w1 (h : Below W.heap.size W w1) => pDecode_any no a cap bs w1 (hb.below h) hl
  have Hbt := Lib.hid hb
  have Hc := Lib.hid hc
  unfold DecdP at HD
  have h1 : ∀ p gen, pdec no bs = (0, p, gen) → isPg no = true ∧ gen ≤ 1099511627776 ∧ pcheck p = 0 ∧ pblock no.toNat gen p = bs := fun p gen h => pdec_one h
  generalize pdec no bs = r at HD h1
  obtain ⟨e, p, gen⟩ := r
  simp only at HD
  obtain ⟨n, hn⟩ : ∃ n, bs.length = n := ⟨_, rfl⟩
  rw [hn] at HD ⊢
  have HN := Lib.hid hn
  clear hb hl hc hn
  by_cases he : e = 0
  · subst he
    obtain ⟨g1, g2, g3, g4⟩ := h1 p gen rfl
    have HR := Lib.hid (pcheck_right g3)
    have HE := Lib.hid (penc_ok (no := no) g1 g2 g3)
    rw [g4] at HE
    clear g1 g2 g3 g4 h1
    go_enter Try.func8, Try.ntmps8
    go_wp2_with fail
    refine (fixed_any _).mono ?_
    rintro _ w1 ⟨rfl, hb1⟩
    go_wp2_with fail
    refine (HD.out _ hb1).mono ?_
    rintro _ w2 ⟨ia, ic, da, dc, rfl, hN, hb2⟩
    rw [pgv_row]
    have HB2 := Lib.hid (hb1.trans (hb2.mono hb1.size))
    have HP3 := Lib.hid ((hN.right HR.out).below (one_below w2 (.cells #[.int .i64 p.kind, .int .i64 p.level, .slice ia p.items.length ic, .slice da p.data.length dc, .int .i64 p.next] 27)))
    have HB3 := Lib.hid (HB2.out.trans ((one_below w2 (.cells #[.int .i64 p.kind, .int .i64 p.level, .slice ia p.items.length ic, .slice da p.data.length dc, .int .i64 p.next] 27)).mono HB2.out.size))
    have H4 := Lib.hid (pEncode_any no gen p ia ic da dc _ (HP3.out.mono (one_below w2 (.cells #[.int .i64 p.kind, .int .i64 p.level, .slice ia p.items.length ic, .slice da p.data.length dc, .int .i64 p.next] 27)).size))
    rw [HE.out] at H4
    unfold Encd at H4
    rw [pgv_row] at H4
    simp only [HN.out] at H4
    clear hN hb1 hb2 HP3
    obtain ⟨kd, lv, its, ds, nx⟩ := p
    simp only at H4 ⊢
    generalize its.length = il at *
    generalize ds.length = dl at *
    go_wp2_with fail
    refine H4.out.mono ?_
    rintro _ w4 ⟨oa, oc, rfl, hO, -, hb4⟩
    have HB4 := Lib.hid (HB3.out.trans (hb4.mono HB3.out.size))
    have H5 := Lib.hid (eqBytes_any bs bs a oa cap oc Hc.out Hc.out w4 (Hbt.out.below HB4.out) hO.bts)
    rw [HN.out] at H5
    unfold Same at H5
    clear hO hb4 H4
    go_wp2_with fail
    refine H5.out.mono ?_
    rintro _ w5 ⟨rfl, hb5⟩
    have HB5 := Lib.hid (HB4.out.trans (hb5.mono HB4.out.size))
    clear hb5 H5
    go_wp2_with fail
    all_goals
      go_ret
      exact ⟨by simp, HB5.out⟩
  · have hed : (e != 0) = true := by rw [bne_iff_ne]; exact he
    clear h1
    go_enter Try.func8, Try.ntmps8
    go_wp2_with fail
    refine (fixed_any _).mono ?_
    rintro _ w1 ⟨rfl, hb1⟩
    go_wp2_with fail
    refine (HD.out _ hb1).mono ?_
    rintro _ w2 ⟨ia, ic, da, dc, rfl, hN, hb2⟩
    rw [pgv_row]
    have HB3 := Lib.hid ((hb1.trans (hb2.mono hb1.size)).trans ((one_below w2 (.cells #[.int .i64 p.kind, .int .i64 p.level, .slice ia p.items.length ic, .slice da p.data.length dc, .int .i64 p.next] 27)).mono (hb1.trans (hb2.mono hb1.size)).size))
    clear hN hb1 hb2
    obtain ⟨kd, lv, its, ds, nx⟩ := p
    simp only at HB3 ⊢
    generalize its.length = il at *
    generalize ds.length = dl at *
    go_wp2_with fail
    go_ret
    exact ⟨rfl, HB3.out⟩
theorem pageOneForm_walk (no : Int) (a : Option Addr) (len cap : Nat) (zs : List Int) (W : World) (h0 : (Lit.int .i64 no).wf = true) (hr : IsRow .u8 W a len cap zs) (hc : cap ≤ 140737488351232) :
    Calls Try.prog 8 #[.int .i64 no, .slice a len cap] W fun e w' => e = .returned (.bool true) ∧ Below W.heap.size W w' := by
  have hlc := hr.len_cap
  obtain ⟨bs, rfl, hb⟩ := hr.bts
  exact pageOneForm_bts no a bs cap W hlc (by omega) hb
end Go.Proofs.Ytkjgncmbhkhbnaa
