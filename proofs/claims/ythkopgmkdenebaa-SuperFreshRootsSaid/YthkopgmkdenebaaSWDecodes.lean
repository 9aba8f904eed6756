/- The walk of SuperDecodes. -/
import Derived.Test.YthkopgmkdenebaaSupT
import Derived.Test.YthkopgmkdenebaaSWTells
namespace Go.Proofs.Ythkopgmkdenebaa
open Go.RowKit
set_option linter.unusedVariables false
set_option maxRecDepth 100000

theorem sdec_sp {bs : List UInt8} {r : Nat} {S : SP} (h : sdec bs = (r, S)) {w : World} {oa : Option Addr} {cap : Nat} (ho : ORt w oa cap S.roots) : SpAt w.heap.size w S oa cap := by
  by_cases h0 : r = 0
  · subst h0
    exact (sdec_one h).1.sp ho
  · have hz := sdec_zero (bs := bs) (by rw [h]; exact h0)
    rw [h] at hz
    obtain rfl : S = zeroS := hz
    exact ⟨.inl rfl, (fun x hx => by simp [zeroS] at hx), by decide, ORt.nilcap ho, by decide, by decide, by decide, by decide, by decide⟩

set_option maxHeartbeats 4000000 in
theorem superDecodes_bts (a : Option Addr) (bs : List UInt8) (cap : Nat) (W : World) (hl : bs.length ≤ 140737488351232) (hcap : bs.length ≤ cap) (hb : Bts W a bs) :
    Calls Try.prog 6 #[.slice a bs.length cap] W fun e w' => e = .returned (.bool true) ∧ Below W.heap.size W w' := by
  have HY := Lib.hid (spare_any a cap bs (by omega) W hb)
  have Hb := Lib.hid hb
  obtain ⟨n, hn⟩ : ∃ n, bs.length = n := ⟨_, rfl⟩
  have Hn := Lib.hid hn
  unfold NewSpare at HY
  rw [hn] at HY hl hcap ⊢
  clear hb hn
  go_enter Try.func6, Try.ntmps6
  go_wp2_with fail
  refine HY.out.mono ?_
  clear HY
  rintro _ w1 ⟨rfl, hS, hb1⟩
  have HB1 := Lib.hid hb1
  have HS1 := Lib.hid hS
  have HD := Lib.hid (decode_any bs (some ⟨W.heap.size, 0, none⟩) (n + 64) w1 hS.bts (by rw [Hn.out]; omega) (by rw [Hn.out]; omega))
  obtain ⟨⟨r, S⟩, hsd⟩ : ∃ q, sdec bs = q := ⟨_, rfl⟩
  rw [hsd] at HD
  rw [Hn.out] at HD
  have Hsd := Lib.hid hsd
  clear hS hb1 hsd
  go_wp2_with fail
  refine HD.out.mono ?_
  clear HD
  rintro _ w3 ⟨da, dc, rfl, hO3, -, hb3⟩
  have HB3 := Lib.hid (HB1.out.trans (hb3.mono HB1.out.size))
  have hv : spv (((r, S) : Nat × SP)).2 da dc = .agg #[.int .i64 S.gen, .int .i64 S.cf.blocks, .int .i64 S.cf.clones, .int .i64 S.cf.refs, .int .i64 S.next, .slice da S.roots.length dc] := rfl
  rw [hv, show (((((r, S) : Nat × SP)).1 : Nat) : Int) = (r : Int) from rfl]
  have hb4 := one_below w3 (.cells #[.int .i64 S.gen, .int .i64 S.cf.blocks, .int .i64 S.cf.clones, .int .i64 S.cf.refs, .int .i64 S.next, .slice da S.roots.length dc] 33)
  have HB4 := Lib.hid (HB3.out.trans (hb4.mono HB3.out.size))
  have h4 := (sdec_sp Hsd.out hO3).below hb4
  have HSp := Lib.hid fun w' (h : Below (w3.alloc (.cells #[.int .i64 S.gen, .int .i64 S.cf.blocks, .int .i64 S.cf.clones, .int .i64 S.cf.refs, .int .i64 S.next, .slice da S.roots.length dc] 33)).heap.size (w3.alloc (.cells #[.int .i64 S.gen, .int .i64 S.cf.blocks, .int .i64 S.cf.clones, .int .i64 S.cf.refs, .int .i64 S.next, .slice da S.roots.length dc] 33)) w') => h4.below (h.mono hb4.size)
  have HS4 := Lib.hid ((HS1.out.below hb3).below hb4)
  have HD := Lib.hid (dDecode_any bs a cap (w3.alloc (.cells #[.int .i64 S.gen, .int .i64 S.cf.blocks, .int .i64 S.cf.clones, .int .i64 S.cf.refs, .int .i64 S.next, .slice da S.roots.length dc] 33)) (Hb.out.below HB4.out) (by rw [Hn.out]; exact hcap) (by rw [Hn.out]; omega))
  unfold Decs at HD
  rw [Hsd.out, Hn.out, show (((((r, S) : Nat × SP)).1 : Nat) : Int) = (r : Int) from rfl] at HD
  have Hg4 := Lib.hid (heap_alloc_new w3 (.cells #[.int .i64 S.gen, .int .i64 S.cf.blocks, .int .i64 S.cf.clones, .int .i64 S.cf.refs, .int .i64 S.next, .slice da S.roots.length dc] 33))
  clear hb3 hO3 hv hb4 h4
  go_wp2_with fail
  generalize w3.alloc (.cells #[.int .i64 S.gen, .int .i64 S.cf.blocks, .int .i64 S.cf.clones, .int .i64 S.cf.refs, .int .i64 S.next, .slice da S.roots.length dc] 33) = W4 at *
  refine HD.out.mono ?_
  clear HD
  rintro _ w5 ⟨ta, tc, rfl, hO5, -, hb5⟩
  have HB5 := Lib.hid (HB4.out.trans (hb5.mono HB4.out.size))
  have hv : spv (((r, S) : Nat × SP)).2 ta tc = .agg #[.int .i64 S.gen, .int .i64 S.cf.blocks, .int .i64 S.cf.clones, .int .i64 S.cf.refs, .int .i64 S.next, .slice ta S.roots.length tc] := rfl
  rw [hv]
  have hb6 := one_below w5 (.cells #[.int .i64 S.gen, .int .i64 S.cf.blocks, .int .i64 S.cf.clones, .int .i64 S.cf.refs, .int .i64 S.next, .slice ta S.roots.length tc] 33)
  have HB6 := Lib.hid (HB5.out.trans (hb6.mono HB5.out.size))
  have h6 := (sdec_sp Hsd.out hO5).below hb6
  have hb46 := hb5.trans (hb6.mono hb5.size)
  have hz4 := lt_of_heap Hg4.out
  have Hz4 := Lib.hid hz4
  have Hg6 := Lib.hid ((hb46.block _ hz4).trans Hg4.out)
  have Hg7 := Lib.hid (heap_alloc_new w5 (.cells #[.int .i64 S.gen, .int .i64 S.cf.blocks, .int .i64 S.cf.clones, .int .i64 S.cf.refs, .int .i64 S.next, .slice ta S.roots.length tc] 33))
  have HE := eqSuper_any S S da ta dc tc w5.heap.size (w5.alloc (.cells #[.int .i64 S.gen, .int .i64 S.cf.blocks, .int .i64 S.cf.clones, .int .i64 S.cf.refs, .int .i64 S.next, .slice ta S.roots.length tc] 33)) hb6.size ((HSp.out _ hb46).mono (by have := hb5.size; omega)) h6
  rw [show decide (S = S) = true by simp] at HE
  have HE := Lib.hid (show Calls Try.prog 26 #[.agg #[.int .i64 S.gen, .int .i64 S.cf.blocks, .int .i64 S.cf.clones, .int .i64 S.cf.refs, .int .i64 S.next, .slice da S.roots.length dc], .agg #[.int .i64 S.gen, .int .i64 S.cf.blocks, .int .i64 S.cf.clones, .int .i64 S.cf.refs, .int .i64 S.next, .slice ta S.roots.length tc]] _ _ from HE)
  have HS6 := Lib.hid (HS4.out.below hb46)
  clear hb5 hO5 hv hb6 h6 hb46 hz4 HSp
  obtain ⟨y0, y1, y2, y3, y4, y5, -⟩ := cells6 Hg6.out
  obtain ⟨x0, x1, x2, x3, x4, x5, -⟩ := cells6 Hg7.out
  go_wp2_with fail
  refine HE.out.mono ?_
  clear HE
  rintro _ w8 ⟨rfl, hb8⟩
  have HB8 := Lib.hid (HB6.out.trans (hb8.mono HB6.out.size))
  have HK := kept_any W.heap.size a cap bs (by rw [Hn.out]; omega) w8 (HS6.out.below hb8) (Hb.out.below HB8.out)
  rw [Hn.out] at HK
  have HK := Lib.hid HK
  clear hb8 y0 y1 y2 y3 y4 y5 x0 x1 x2 x3 x4 x5
  go_wp2_with fail
  refine HK.out.mono ?_
  clear HK
  rintro _ w9 ⟨rfl, hb9⟩
  have HB9 := Lib.hid (HB8.out.trans (hb9.mono HB8.out.size))
  clear hb9
  go_wp2_with fail
  refine (works_any _).mono ?_
  rintro _ w10 ⟨rfl, hb10⟩
  have HB10 := Lib.hid (HB9.out.trans (hb10.mono HB9.out.size))
  clear hb10
  go_wp2_with fail
  go_ret
  exact ⟨rfl, HB10.out⟩
theorem superDecodes_walk (a : Option Addr) (len cap : Nat) (zs : List Int) (W : World) (hr : IsRow .u8 W a len cap zs) (hc : cap ≤ 140737488351232) :
    Calls Try.prog 6 #[.slice a len cap] W fun e w' => e = .returned (.bool true) ∧ Below W.heap.size W w' := by
  have hlc := hr.len_cap
  obtain ⟨bs, rfl, hb⟩ := hr.bts
  exact superDecodes_bts a bs cap W (by omega) (by omega) hb
end Go.Proofs.Ythkopgmkdenebaa
