/- The walk of SuperOneForm. -/
import Derived.Test.YthkopgmkdenebaaSupW
namespace Go.Proofs.Ythkopgmkdenebaa
open Go.RowKit
set_option linter.unusedVariables false
set_option maxRecDepth 100000

set_option maxHeartbeats 4000000 in
theorem superOneForm_bts (a : Option Addr) (bs : List UInt8) (cap : Nat) (W : World) (hl : bs.length ≤ 140737488351232) (hb : Bts W a bs) :
    Calls Try.prog 8 #[.slice a bs.length cap] W fun e w' => e = .returned (.bool true) ∧ Below W.heap.size W w' := by
  have HY := Lib.hid fun w' (h : Below W.heap.size W w') => copyBytes_any a cap bs (by omega) w' (hb.below h)
  have Hb := Lib.hid hb
  obtain ⟨n, hn⟩ : ∃ n, bs.length = n := ⟨_, rfl⟩
  have Hn := Lib.hid hn
  rw [hn] at HY hl ⊢
  clear hb hn
  go_enter Try.func8, Try.ntmps8
  go_wp2_with fail
  refine (works_any _).mono ?_
  rintro _ w1 ⟨rfl, hb1⟩
  go_wp2_with fail
  refine (HY.out _ hb1).mono ?_
  clear HY
  rintro _ w2 ⟨oa, oc, rfl, hO, hof, hb2⟩
  have HB2 := Lib.hid (hb1.trans (hb2.mono hb1.size))
  have hcp := hO.cap
  have HD := Lib.hid (decode_any bs oa oc w2 hO.bts hcp.1 (by rw [Hn.out]; omega))
  obtain ⟨⟨r, S⟩, hsd⟩ : ∃ q, sdec bs = q := ⟨_, rfl⟩
  rw [hsd] at HD
  rw [Hn.out] at HD ⊢
  clear hO hof hb2 hb1 hcp
  go_wp2_with fail
  refine HD.out.mono ?_
  clear HD
  rintro _ w3 ⟨da, dc, rfl, hO3, -, hb3⟩
  have HB3 := Lib.hid (HB2.out.trans (hb3.mono HB2.out.size))
  have hv : spv (((r, S) : Nat × SP)).2 da dc = .agg #[.int .i64 S.gen, .int .i64 S.cf.blocks, .int .i64 S.cf.clones, .int .i64 S.cf.refs, .int .i64 S.next, .slice da S.roots.length dc] := rfl
  rw [hv, show (((((r, S) : Nat × SP)).1 : Nat) : Int) = (r : Int) from rfl]
  have hb4 := one_below w3 (.cells #[.int .i64 S.gen, .int .i64 S.cf.blocks, .int .i64 S.cf.clones, .int .i64 S.cf.refs, .int .i64 S.next, .slice da S.roots.length dc] 33)
  have HB4 := Lib.hid (HB3.out.trans (hb4.mono HB3.out.size))
  by_cases h0 : r = 0
  · subst h0
    obtain ⟨hR, hlS⟩ := sdec_one hsd
    have HR := Lib.hid hR
    have h4 := ((hR.sp hO3).below hb4)
    have HE := Lib.hid (encode_any S da dc _ w3.heap.size hb4.size h4)
    have he : encB S = bs := by rw [encB, if_pos (scheck_ok.2 hR)]; exact hlS
    unfold Enc at HE
    rw [he, scheck_ok.2 hR, Hn.out] at HE
    have HC := Lib.hid fun w' (h : Below (w3.alloc (.cells #[.int .i64 S.gen, .int .i64 S.cf.blocks, .int .i64 S.cf.clones, .int .i64 S.cf.refs, .int .i64 S.next, .slice da S.roots.length dc] 33)).heap.size (w3.alloc (.cells #[.int .i64 S.gen, .int .i64 S.cf.blocks, .int .i64 S.cf.clones, .int .i64 S.cf.refs, .int .i64 S.next, .slice da S.roots.length dc] 33)) w') => check_any S da dc w' w3.heap.size (Nat.le_trans hb4.size h.size) (h4.below (h.mono hb4.size))
    unfold Checked at HC
    rw [scheck_ok.2 hR] at HC
    have HQ := Lib.hid fun w' (h : Below W.heap.size W w') ca cap' (hc : Bts w' ca bs) => eqBytes_any bs bs a ca cap cap' (by rw [Hn.out]; omega) (by rw [Hn.out]; omega) w' (Hb.out.below h) hc
    rw [Hn.out] at HQ
    have hg4 := heap_alloc_new w3 (.cells #[.int .i64 S.gen, .int .i64 S.cf.blocks, .int .i64 S.cf.clones, .int .i64 S.cf.refs, .int .i64 S.next, .slice da S.roots.length dc] 33)
    have hz4 : w3.heap.size < (w3.alloc (.cells #[.int .i64 S.gen, .int .i64 S.cf.blocks, .int .i64 S.cf.clones, .int .i64 S.cf.refs, .int .i64 S.next, .slice da S.roots.length dc] 33)).heap.size := by simp
    have hbB := HB4.out
    simp only [spv] at HE HC
    have Hg4 := Lib.hid hg4
    have Hz4 := Lib.hid hz4
    clear hb3 hO3 hv hsd hR hlS h4 he hb4 hg4 hz4 hbB
    go_wp2_with fail
    generalize w3.alloc (.cells #[.int .i64 S.gen, .int .i64 S.cf.blocks, .int .i64 S.cf.clones, .int .i64 S.cf.refs, .int .i64 S.next, .slice da S.roots.length dc] 33) = W4 at *
    refine HE.out.mono ?_
    clear HE
    rintro _ w5 ⟨ea, ec, rfl, hE, -, hb5⟩
    have HB5 := Lib.hid (HB4.out.trans (hb5.mono HB4.out.size))
    have hg5 := (hb5.block _ Hz4.out).trans Hg4.out
    obtain ⟨y0, y1, y2, y3, y4, y5, -⟩ := cells6 hg5
    have H := Lib.hid (HQ.out _ HB5.out ea ec hE.bts)
    have Hb5 := Lib.hid hb5
    clear hb5 hg5 hE HQ
    go_wp2_with fail
    refine H.out.mono ?_
    clear H
    rintro _ w6 ⟨rfl, hb6⟩
    rw [show decide (bs = bs) = true by simp]
    have HB6 := Lib.hid (HB5.out.trans (hb6.mono HB5.out.size))
    have hg6 := (hb6.block _ (Nat.lt_of_lt_of_le Hz4.out Hb5.out.size)).trans ((Hb5.out.block _ Hz4.out).trans Hg4.out)
    obtain ⟨x0, x1, x2, x3, x4, x5, -⟩ := cells6 hg6
    have H := Lib.hid (HC.out _ (Hb5.out.trans (hb6.mono Hb5.out.size)))
    clear hb6 hg6 HC y0 y1 y2 y3 y4 y5
    go_wp2_with fail
    refine H.out.mono ?_
    clear H
    rintro _ w7 ⟨rfl, hb7⟩
    have HB7 := Lib.hid (HB6.out.trans (hb7.mono HB6.out.size))
    clear hb7
    go_wp2_with fail
    go_ret
    exact ⟨rfl, HB7.out⟩
  · have hne : ((r : Int) != 0) = true := by rw [bne_iff_ne]; omega
    clear hb3 hO3 hv hsd
    go_wp2_with fail
    go_ret
    exact ⟨rfl, HB4.out⟩
theorem superOneForm_walk (a : Option Addr) (len cap : Nat) (zs : List Int) (W : World) (hr : IsRow .u8 W a len cap zs) (hc : cap ≤ 140737488351232) :
    Calls Try.prog 8 #[.slice a len cap] W fun e w' => e = .returned (.bool true) ∧ Below W.heap.size W w' := by
  have hlc := hr.len_cap
  obtain ⟨bs, rfl, hb⟩ := hr.bts
  exact superOneForm_bts a bs cap W (by omega) hb
end Go.Proofs.Ythkopgmkdenebaa
