/- The walk of SuperFreshRoots. -/
import Derived.Test.YthkopgmkdenebaaSWDecodes
import Derived.Test.YthkopgmkdenebaaApR
namespace Go.Proofs.Ythkopgmkdenebaa
open Go.RowKit
set_option linter.unusedVariables false
set_option maxRecDepth 100000

/-- a variable that holds a superblock with roots of its own -/
structure DecAt (w : World) (lo bx : Nat) (S : SP) (oa : Option Addr) (oc : Nat) : Prop where
  box : w.heap[bx]? = some (sBox S.gen S.cf.blocks S.cf.clones S.cf.refs S.next oa S.roots.length oc)
  ro : ORt w oa oc S.roots
  bd : ∀ k, blk oa = some k → lo ≤ k ∧ k < bx
theorem DecAt.chg {F : Nat → Prop} {w w' : World} {lo bx : Nat} {S : SP} {oa : Option Addr} {oc : Nat} (h : DecAt w lo bx S oa oc) (hc : Chg F w w') (h1 : ¬ F bx) (h2 : ∀ k, lo ≤ k → k < bx → ¬ F k) : DecAt w' lo bx S oa oc :=
  ⟨(hc.block bx (lt_of_heap h.box) h1).trans h.box, OR.chg h.ro hc fun k hk => h2 k (h.bd k hk).1 (h.bd k hk).2, h.bd⟩
theorem DecAt.below {w w' : World} {lo bx : Nat} {S : SP} {oa : Option Addr} {oc : Nat} (h : DecAt w lo bx S oa oc) (hb : Below w.heap.size w w') : DecAt w' lo bx S oa oc :=
  h.chg (F := fun _ => False) (Chg.of_below hb) (fun f => f) (fun _ _ _ f => f)
theorem DecAt.new {w : World} {lo : Nat} {S : SP} {oa : Option Addr} {oc : Nat} (ro : ORt w oa oc S.roots) (bd : ∀ k, blk oa = some k → lo ≤ k) : DecAt (w.alloc (sBox S.gen S.cf.blocks S.cf.clones S.cf.refs S.next oa S.roots.length oc)) lo w.heap.size S oa oc :=
  ⟨heap_alloc_new w _, OR.chg (F := fun _ => False) ro (Chg.of_below (one_below w _)) (fun _ _ f => f), fun k hk => ⟨bd k hk, OR.lt ro k hk⟩⟩
theorem DecAt.sp {w : World} {lo bx : Nat} {S : SP} {oa : Option Addr} {oc : Nat} (h : DecAt w lo bx S oa oc) {bs : List UInt8} {r : Nat} (hd : sdec bs = (r, S)) : SpAt w.heap.size w S oa oc := sdec_sp hd h.ro

theorem sdec_len {bs : List UInt8} {r : Nat} {S : SP} (h : sdec bs = (r, S)) : S.roots.length ≤ 16 := by
  by_cases h0 : r = 0
  · subst h0
    exact (sdec_one h).1.len
  · have hz := sdec_zero (bs := bs) (by rw [h]; exact h0)
    rw [h] at hz
    obtain rfl : S = zeroS := hz
    decide
def RelB (w9 : World) (g n : Nat) (tl : List UInt8) (i : Value) (wr : World) : Prop :=
  ∃ (k : Nat) (cur : List UInt8), k ≤ n ∧ i = .int .i64 k ∧ cur.length = n ∧ OB wr (some ⟨g, 0, none⟩) (n + 64) (cur ++ tl) ∧ Chg (fun j => j = g) w9 wr
theorem wr1 {w : World} {g : Nat} {bs : List UInt8} (h : Spared w g bs) : g < w.heap.size := OB.lt h g rfl

set_option maxHeartbeats 1000000 in
theorem superFreshRoots_bts (a : Option Addr) (xs : List UInt8) (ca : Nat) (b : Option Addr) (bs : List UInt8) (cb : Nat) (W : World) (hl : xs.length ≤ 140737488351232) (hcap : xs.length ≤ ca) (ha : Bts W a xs) (hlb : bs.length ≤ 140737488351232) (hb : Bts W b bs) :
    Calls Try.prog 11 #[.slice a xs.length ca, .slice b bs.length cb] W fun e w' => e = .returned (.bool true) ∧ Below W.heap.size W w' := by
  have HY := Lib.hid (spare_any a ca xs (by omega) W ha)
  have HZ := Lib.hid fun w' (h : Below W.heap.size W w') => copyBytes_any b cb bs (by omega) w' (hb.below h)
  have Ha := Lib.hid ha
  have Hb := Lib.hid hb
  obtain ⟨n, hn⟩ : ∃ n, xs.length = n := ⟨_, rfl⟩
  obtain ⟨m, hm⟩ : ∃ m, bs.length = m := ⟨_, rfl⟩
  have Hn := Lib.hid hn
  have Hm := Lib.hid hm
  unfold NewSpare at HY
  rw [hn] at HY hl hcap ⊢
  rw [hm] at HZ hlb ⊢
  clear hb ha hn hm
  obtain ⟨⟨r, S⟩, hsd⟩ : ∃ q, sdec xs = q := ⟨_, rfl⟩
  obtain ⟨⟨rt, T⟩, htd⟩ : ∃ q, sdec bs = q := ⟨_, rfl⟩
  have Hsd := Lib.hid hsd
  have Htd := Lib.hid htd
  have hvS : ∀ oa oc, spv (((r, S) : Nat × SP)).2 oa oc = .agg #[.int .i64 S.gen, .int .i64 S.cf.blocks, .int .i64 S.cf.clones, .int .i64 S.cf.refs, .int .i64 S.next, .slice oa S.roots.length oc] := fun _ _ => rfl
  have hvT : ∀ oa oc, spv (((rt, T) : Nat × SP)).2 oa oc = .agg #[.int .i64 T.gen, .int .i64 T.cf.blocks, .int .i64 T.cf.clones, .int .i64 T.cf.refs, .int .i64 T.next, .slice oa T.roots.length oc] := fun _ _ => rfl
  have HvS := Lib.hid hvS
  have HvT := Lib.hid hvT
  -- the decoders, in a world in which the bytes stand
  have HD := Lib.hid fun w' g (hS : Spared w' g xs) => (show Calls Try.prog 24 #[.slice (some ⟨g, 0, none⟩) n (n + 64)] w' (Decs (r, S) w') from by
    have := decode_any xs (some ⟨g, 0, none⟩) (n + 64) w' hS.bts (by rw [Hn.out]; omega) (by rw [Hn.out]; omega)
    rw [Hsd.out, Hn.out] at this; exact this)
  have HDt := Lib.hid fun w' oa oc (hO : OB w' oa oc bs) => (show Calls Try.prog 24 #[.slice oa m oc] w' (Decs (rt, T) w') from by
    have := decode_any bs oa oc w' hO.bts hO.cap.1 (by rw [Hm.out]; omega)
    rw [Htd.out, Hm.out] at this; exact this)
  have HDD := Lib.hid fun w' (h : Below W.heap.size W w') => (show Calls Try.prog 25 #[.slice a n ca] w' (Decs (r, S) w') from by
    have := dDecode_any xs a ca w' (Ha.out.below h) (by rw [Hn.out]; exact hcap) (by rw [Hn.out]; omega)
    rw [Hsd.out, Hn.out] at this; exact this)
  clear hsd htd hvS hvT
  go_enter Try.func11, Try.ntmps11
  go_wp2_with fail
  refine HY.out.mono ?_
  clear HY
  rintro _ w1 ⟨rfl, hS, hb1⟩
  have HB1 := Lib.hid hb1
  have HS1 := Lib.hid hS
  have hw1 := wr1 hS
  have H := Lib.hid (HD.out w1 _ hS)
  clear hS hb1
  unfold Decs at H
  go_wp2_with fail
  refine H.out.mono ?_
  clear H
  rintro _ w2 ⟨sa, sc, rfl, hO, hof, hb2⟩
  rw [HvS.out]
  have hz1 := hb2.size
  have HP := Lib.hid (DecAt.new hO hof)
  have HB2 := Lib.hid (HB1.out.trans ((hb2.trans ((one_below w2 (sBox S.gen S.cf.blocks S.cf.clones S.cf.refs S.next sa S.roots.length sc)).mono hb2.size)).mono HB1.out.size))
  have HS2 := Lib.hid ((HS1.out.below hb2).below (one_below w2 (sBox S.gen S.cf.blocks S.cf.clones S.cf.refs S.next sa S.roots.length sc)))
  have hz2 : w2.heap.size < (w2.alloc (sBox S.gen S.cf.blocks S.cf.clones S.cf.refs S.next sa S.roots.length sc)).heap.size := by simp
  have H := Lib.hid (HZ.out _ HB2.out)
  unfold sBox at HP HB2 HS2 hz2 H
  clear hO hof hb2 HZ
  go_wp2_with fail
  generalize w2.alloc (.cells #[.int .i64 S.gen, .int .i64 S.cf.blocks, .int .i64 S.cf.clones, .int .i64 S.cf.refs, .int .i64 S.next, .slice sa S.roots.length sc] 33) = W2 at *
  refine H.out.mono ?_
  clear H
  rintro _ w3 ⟨ya, yc, rfl, hO, -, hb3⟩
  rw [Hm.out]
  have HB3 := Lib.hid (HB2.out.trans (hb3.mono HB2.out.size))
  have HS3 := Lib.hid (HS2.out.below hb3)
  have HP := Lib.hid (HP.out.below hb3)
  have hz3 := hb3.size
  have H := Lib.hid (HDt.out w3 _ _ hO)
  unfold Decs at H
  clear hO hb3 HDt
  go_wp2_with fail
  refine H.out.mono ?_
  clear H
  rintro _ w4 ⟨ta, tc, rfl, hO, hof, hb4⟩
  rw [HvT.out]
  have hz4 := hb4.size
  have hbb4 := hb4.trans ((one_below w4 (sBox T.gen T.cf.blocks T.cf.clones T.cf.refs T.next ta T.roots.length tc)).mono hb4.size)
  have HQ := Lib.hid (DecAt.new hO hof)
  have HP := Lib.hid (HP.out.below hbb4)
  have HB4 := Lib.hid (HB3.out.trans (hbb4.mono HB3.out.size))
  have HS4 := Lib.hid (HS3.out.below hbb4)
  have hy4 : w4.heap.size < (w4.alloc (sBox T.gen T.cf.blocks T.cf.clones T.cf.refs T.next ta T.roots.length tc)).heap.size := by simp
  have H := Lib.hid (HD.out _ _ HS4.out)
  unfold Decs at H
  unfold sBox at HQ HP HB4 HS4 hy4 H
  clear hO hof hb4 hbb4
  go_wp2_with fail
  generalize w4.alloc (.cells #[.int .i64 T.gen, .int .i64 T.cf.blocks, .int .i64 T.cf.clones, .int .i64 T.cf.refs, .int .i64 T.next, .slice ta T.roots.length tc] 33) = W4 at *
  refine H.out.mono ?_
  clear H
  rintro _ w5 ⟨ga, gc, rfl, hO, hof, hb5⟩
  rw [HvS.out]
  have hz5 := hb5.size
  have hbb5 := hb5.trans ((one_below w5 (sBox S.gen S.cf.blocks S.cf.clones S.cf.refs S.next ga S.roots.length gc)).mono hb5.size)
  have HR := Lib.hid (DecAt.new hO hof)
  have HP := Lib.hid (HP.out.below hbb5)
  have HQ := Lib.hid (HQ.out.below hbb5)
  have HB5 := Lib.hid (HB4.out.trans (hbb5.mono HB4.out.size))
  have HS5 := Lib.hid (HS4.out.below hbb5)
  have hy5 : w5.heap.size < (w5.alloc (sBox S.gen S.cf.blocks S.cf.clones S.cf.refs S.next ga S.roots.length gc)).heap.size := by simp
  have H := Lib.hid (HDD.out _ HB5.out)
  unfold Decs at H
  unfold sBox at HR HP HQ HB5 HS5 hy5 H
  clear hO hof hb5 hbb5
  go_wp2_with fail
  generalize w5.alloc (.cells #[.int .i64 S.gen, .int .i64 S.cf.blocks, .int .i64 S.cf.clones, .int .i64 S.cf.refs, .int .i64 S.next, .slice ga S.roots.length gc] 33) = W5 at *
  refine H.out.mono ?_
  clear H
  rintro _ w6 ⟨wa, wc, rfl, hO, hof, hb6⟩
  rw [HvS.out]
  have hz6 := hb6.size
  have hbb6 := hb6.trans ((one_below w6 (sBox S.gen S.cf.blocks S.cf.clones S.cf.refs S.next wa S.roots.length wc)).mono hb6.size)
  have HU := Lib.hid (DecAt.new hO hof)
  have HP := Lib.hid (HP.out.below hbb6)
  have HQ := Lib.hid (HQ.out.below hbb6)
  have HR := Lib.hid (HR.out.below hbb6)
  have HB6 := Lib.hid (HB5.out.trans (hbb6.mono HB5.out.size))
  have HS6 := Lib.hid (HS5.out.below hbb6)
  have hy6 : w6.heap.size < (w6.alloc (sBox S.gen S.cf.blocks S.cf.clones S.cf.refs S.next wa S.roots.length wc)).heap.size := by simp
  unfold sBox at HP HQ HR HU HB6 HS6 hy6
  clear hO hof hb6 hbb6 HD HDD
  have hpb := HP.out.box
  have hub := HU.out.box
  have hrb := HR.out.box
  obtain ⟨p0, p1, p2, p3, p4, p5, -⟩ := cells6 hpb
  obtain ⟨u0, u1, u2, u3, u4, u5, -⟩ := cells6 hub
  have HE := eqSuper_any S S sa wa sc wc _ (w6.alloc (.cells #[.int .i64 S.gen, .int .i64 S.cf.blocks, .int .i64 S.cf.clones, .int .i64 S.cf.refs, .int .i64 S.next, .slice wa S.roots.length wc] 33)) (Nat.le_refl _) (HP.out.sp Hsd.out) (HU.out.sp Hsd.out)
  rw [show decide (S = S) = true by simp] at HE
  have HE := Lib.hid HE
  have hvS2 : ∀ oa oc, spv S oa oc = .agg #[.int .i64 S.gen, .int .i64 S.cf.blocks, .int .i64 S.cf.clones, .int .i64 S.cf.refs, .int .i64 S.next, .slice oa S.roots.length oc] := fun _ _ => rfl
  rw [hvS2, hvS2] at HE
  have HvS2 := Lib.hid hvS2
  clear hpb hub hrb hvS2
  go_wp2_with fail
  generalize w6.alloc (.cells #[.int .i64 S.gen, .int .i64 S.cf.blocks, .int .i64 S.cf.clones, .int .i64 S.cf.refs, .int .i64 S.next, .slice wa S.roots.length wc] 33) = W6 at *
  refine HE.out.mono ?_
  clear HE
  rintro _ w7 ⟨rfl, hb7⟩
  have HB7 := Lib.hid (HB6.out.trans (hb7.mono HB6.out.size))
  have HS7 := Lib.hid (HS6.out.below hb7)
  have HP := Lib.hid (HP.out.below hb7)
  have HQ := Lib.hid (HQ.out.below hb7)
  have HR := Lib.hid (HR.out.below hb7)
  have HU := Lib.hid (HU.out.below hb7)
  have hz7 := hb7.size
  clear hb7 p0 p1 p2 p3 p4 p5 u0 u1 u2 u3 u4 u5
  have hub := HU.out.box
  have hrb := HR.out.box
  obtain ⟨p0, p1, p2, p3, p4, p5, -⟩ := cells6 hrb
  obtain ⟨u0, u1, u2, u3, u4, u5, -⟩ := cells6 hub
  have HE := eqSuper_any S S ga wa gc wc _ w7 (Nat.le_refl _) (HR.out.sp Hsd.out) (HU.out.sp Hsd.out)
  rw [show decide (S = S) = true by simp, HvS2.out, HvS2.out] at HE
  have HE := Lib.hid HE
  clear hub hrb
  go_wp2_with fail
  refine HE.out.mono ?_
  clear HE
  rintro _ w8 ⟨rfl, hb8⟩
  have HB8 := Lib.hid (HB7.out.trans (hb8.mono HB7.out.size))
  have HS8 := Lib.hid (HS7.out.below hb8)
  have HP := Lib.hid (HP.out.below hb8)
  have HQ := Lib.hid (HQ.out.below hb8)
  have HR := Lib.hid (HR.out.below hb8)
  have HU := Lib.hid (HU.out.below hb8)
  have hz8 := hb8.size
  have HK := kept_any W.heap.size a ca xs (by rw [Hn.out]; omega) w8 HS8.out (Ha.out.below HB8.out)
  rw [Hn.out] at HK
  have HK := Lib.hid HK
  clear hb8 p0 p1 p2 p3 p4 p5 u0 u1 u2 u3 u4 u5
  go_wp2_with fail
  refine HK.out.mono ?_
  clear HK
  rintro _ w9 ⟨rfl, hb9⟩
  have HB9 := Lib.hid (HB8.out.trans (hb9.mono HB8.out.size))
  have HS9 := Lib.hid (HS8.out.below hb9)
  have HP := Lib.hid (HP.out.below hb9)
  have HQ := Lib.hid (HQ.out.below hb9)
  have HR := Lib.hid (HR.out.below hb9)
  have HU := Lib.hid (HU.out.below hb9)
  have hz9 := hb9.size
  clear hb9 HB1 HB2 HB3 HB4 HB5 HB6 HB7 HB8 HS1 HS2 HS3 HS4 HS5 HS6 HS7 HS8
  go_wp2_with fail
  obtain ⟨tl, htl⟩ : ∃ tl, full xs = xs ++ tl := ⟨_, rfl⟩
  have HS0 := Lib.hid (show OB w9 (some ⟨W.heap.size, 0, none⟩) (n + 64) (xs ++ tl) from by have := HS9.out; unfold Spared at this; rw [htl, Hn.out] at this; exact this)
  clear htl
  go_loopw [14] (fun i wr => RelB w9 W.heap.size n tl i wr) (fun i _ => n - (intOf i).toNat)
  case atStart => exact ⟨0, xs, Nat.zero_le _, rfl, Hn.out, HS0.out, Chg.refl _ _⟩
  case round =>
    obtain ⟨k, cur, hk, rfl, hcl, hO, hC⟩ := hrel
    have hbr : Below W.heap.size W wr := HB9.out.trans (hC.below (B := W.heap.size) HB9.out.size (fun j hj => by rw [hj]; exact Nat.le_refl _))
    have HC := Lib.hid hC
    have Hbr := Lib.hid hbr
    have Hcl := Lib.hid hcl
    clear hC hbr hcl
    by_cases hlt2 : k < n ∧ k < m
    · obtain ⟨hkn, hkm⟩ := hlt2
      obtain ⟨b1, o1, rfl, hb1, c0⟩ := (Hb.out.below Hbr.out).at (k := k) (by rw [Hm.out]; exact hkm)
      have hka : k < (cur ++ tl).length := by rw [List.length_append, Hcl.out]; omega
      obtain ⟨c1, f1⟩ := hO.cell hka
      have hO2 := hO.set hka (bs.getD k 0)
      rw [List.set_append_left _ _ (by rw [Hcl.out]; exact hkn)] at hO2
      have Fin := Lib.hid (show RelB w9 W.heap.size n tl (.int .i64 ((k + 1 : Nat) : Int)) (wr.setCell ⟨W.heap.size, k, none⟩ (.int .u8 ((bs.getD k 0).toNat : Int))) from
        ⟨k + 1, cur.set k (bs.getD k 0), hkn, rfl, by rw [List.length_set]; exact Hcl.out, hO2, HC.out.setCell _ _ (fun _ => rfl)⟩)
      clear hO hO2 hka
      go_wp2_with fail
      exact ⟨Fin.out, by simp [intOf]; omega⟩
    · obtain ⟨⟨r2, U⟩, hud⟩ : ∃ q, sdec cur = q := ⟨_, rfl⟩
      have Hud := Lib.hid hud
      have hcb := hO.low
      have H := decode_any cur (some ⟨W.heap.size, 0, none⟩) (n + 64) wr hcb (by rw [Hcl.out]; omega) (by rw [Hcl.out]; omega)
      rw [Hud.out, Hcl.out] at H
      unfold Decs at H
      have H := Lib.hid H
      have Hcb := Lib.hid hcb
      have hvU : ∀ oa oc, spv (((r2, U) : Nat × SP)).2 oa oc = .agg #[.int .i64 U.gen, .int .i64 U.cf.blocks, .int .i64 U.cf.clones, .int .i64 U.cf.refs, .int .i64 U.next, .slice oa U.roots.length oc] := fun _ _ => rfl
      have HvU := Lib.hid hvU
      have HP := Lib.hid (HP.out.chg HC.out (fun (e : _ = _) => by omega) (fun k h1 h2 (e : k = _) => by omega))
      have HQ := Lib.hid (HQ.out.chg HC.out (fun (e : _ = _) => by omega) (fun k h1 h2 (e : k = _) => by omega))
      have HR := Lib.hid (HR.out.chg HC.out (fun (e : _ = _) => by omega) (fun k h1 h2 (e : k = _) => by omega))
      have HU := Lib.hid (HU.out.chg HC.out (fun (e : _ = _) => by omega) (fun k h1 h2 (e : k = _) => by omega))
      have hzr := HC.out.size
      clear hud hcb hO hvU
      rcases (by omega : ¬ k < n ∨ (k < n ∧ ¬ k < m)) with hlt3 | ⟨hkn, hkm⟩
      all_goals
        clear hlt2
        go_wp2_with fail
        refine H.out.mono ?_
        clear H
        rintro _ wa0 ⟨na, nc, rfl, hO, hof, hba⟩
        rw [HvU.out]
        have hza := hba.size
        have hbba := hba.trans ((one_below wa0 (sBox U.gen U.cf.blocks U.cf.clones U.cf.refs U.next na U.roots.length nc)).mono hba.size)
        have HN := Lib.hid (DecAt.new hO hof)
        have HP := Lib.hid (HP.out.below hbba)
        have HQ := Lib.hid (HQ.out.below hbba)
        have HR := Lib.hid (HR.out.below hbba)
        have HU := Lib.hid (HU.out.below hbba)
        have HBa := Lib.hid (Hbr.out.trans (hbba.mono Hbr.out.size))
        have hya : wa0.heap.size < (wa0.alloc (sBox U.gen U.cf.blocks U.cf.clones U.cf.refs U.next na U.roots.length nc)).heap.size := by simp
        have H := dDecode_any cur (some ⟨W.heap.size, 0, none⟩) (n + 64) (wa0.alloc (sBox U.gen U.cf.blocks U.cf.clones U.cf.refs U.next na U.roots.length nc)) (Hcb.out.below hbba) (by rw [Hcl.out]; omega) (by rw [Hcl.out]; omega)
        rw [Hud.out, Hcl.out] at H
        unfold Decs at H
        have H := Lib.hid H
        unfold sBox at HN HP HQ HR HU HBa hya H
        clear hO hof hba hbba
        go_wp2_with fail
        generalize wa0.alloc (.cells #[.int .i64 U.gen, .int .i64 U.cf.blocks, .int .i64 U.cf.clones, .int .i64 U.cf.refs, .int .i64 U.next, .slice na U.roots.length nc] 33) = Wa at *
        refine H.out.mono ?_
        clear H
        rintro _ wb ⟨va, vc, rfl, hO, hof, hbb⟩
        rw [HvU.out]
        have hzb := hbb.size
        have HN := Lib.hid (HN.out.below hbb)
        have HP := Lib.hid (HP.out.below hbb)
        have HQ := Lib.hid (HQ.out.below hbb)
        have HR := Lib.hid (HR.out.below hbb)
        have HU := Lib.hid (HU.out.below hbb)
        have HBb := Lib.hid (HBa.out.trans (hbb.mono HBa.out.size))
        have HOb := Lib.hid hO
        have Hob := Lib.hid hof
        have hub := HU.out.box
        obtain ⟨u0, u1, u2, u3, u4, u5, uf⟩ := cells6 hub
        have f0 := uf 0
        have f1 := uf 1
        have f2 := uf 2
        have f3 := uf 3
        have f4 := uf 4
        have f5 := uf 5
        have hst := set_row (set_row (set_row (set_row (set_row (set_row hub 0 (.int .i64 U.gen)) 1 (.int .i64 U.cf.blocks)) 2 (.int .i64 U.cf.clones)) 3 (.int .i64 U.cf.refs)) 4 (.int .i64 U.next)) 5 (.slice va U.roots.length vc)
        have Hst := Lib.hid hst
        have hne1 : wa0.heap.size ≠ w6.heap.size := by omega
        have hne2 : w6.heap.size ≠ wa0.heap.size := by omega
        obtain ⟨n0, n1, n2, n3, n4, n5, -⟩ := cells6 HN.out.box
        have hcw : Chg (fun q => q = w6.heap.size) wb ((((((wb.setCell ⟨w6.heap.size, 0, none⟩ (.int .i64 U.gen)).setCell ⟨w6.heap.size, 1, none⟩ (.int .i64 U.cf.blocks)).setCell ⟨w6.heap.size, 2, none⟩ (.int .i64 U.cf.clones)).setCell ⟨w6.heap.size, 3, none⟩ (.int .i64 U.cf.refs)).setCell ⟨w6.heap.size, 4, none⟩ (.int .i64 U.next)).setCell ⟨w6.heap.size, 5, none⟩ (.slice va U.roots.length vc)) :=
          ((((((Chg.refl (fun q => q = w6.heap.size) wb).setCell ⟨w6.heap.size, 0, none⟩ _ (fun _ => rfl)).setCell ⟨w6.heap.size, 1, none⟩ _ (fun _ => rfl)).setCell ⟨w6.heap.size, 2, none⟩ _ (fun _ => rfl)).setCell ⟨w6.heap.size, 3, none⟩ _ (fun _ => rfl)).setCell ⟨w6.heap.size, 4, none⟩ _ (fun _ => rfl)).setCell ⟨w6.heap.size, 5, none⟩ _ (fun _ => rfl)
        have Hcw := Lib.hid hcw
        clear hub uf hst hO hof hbb hcw
        go_wp2_with fail
        clear n0 n1 n2 n3 n4 n5 u0 u1 u2 u3 u4 u5 f0 f1 f2 f3 f4 f5 Hst
        generalize ((((((wb.setCell ⟨w6.heap.size, 0, none⟩ (.int .i64 U.gen)).setCell ⟨w6.heap.size, 1, none⟩ (.int .i64 U.cf.blocks)).setCell ⟨w6.heap.size, 2, none⟩ (.int .i64 U.cf.clones)).setCell ⟨w6.heap.size, 3, none⟩ (.int .i64 U.cf.refs)).setCell ⟨w6.heap.size, 4, none⟩ (.int .i64 U.next)).setCell ⟨w6.heap.size, 5, none⟩ (.slice va U.roots.length vc)) = Wc at *
        have HN := Lib.hid (HN.out.chg Hcw.out (fun (e : _ = _) => by omega) (fun q h1 h2 (e : q = _) => by omega))
        have HP := Lib.hid (HP.out.chg Hcw.out (fun (e : _ = _) => by omega) (fun q h1 h2 (e : q = _) => by omega))
        have HQ := Lib.hid (HQ.out.chg Hcw.out (fun (e : _ = _) => by omega) (fun q h1 h2 (e : q = _) => by omega))
        have HR := Lib.hid (HR.out.chg Hcw.out (fun (e : _ = _) => by omega) (fun q h1 h2 (e : q = _) => by omega))
        have hoc : ORt Wc va vc U.roots := OR.chg HOb.out Hcw.out (fun q hq (e : q = _) => by have := Hob.out q hq; omega)
        have hwW := HBb.out.size
        have HBc := Lib.hid (HBb.out.trans (Hcw.out.below (B := W.heap.size) hwW (fun q hq => by rw [hq]; omega)))
        have hzc := Hcw.out.size
        have HE := eqSuper_any U U na va nc vc _ Wc (Nat.le_refl _) (HN.out.sp Hud.out) (sdec_sp Hud.out hoc)
        have hvU2 : ∀ oa oc, spv U oa oc = .agg #[.int .i64 U.gen, .int .i64 U.cf.blocks, .int .i64 U.cf.clones, .int .i64 U.cf.refs, .int .i64 U.next, .slice oa U.roots.length oc] := fun _ _ => rfl
        rw [show decide (U = U) = true by simp, hvU2, hvU2] at HE
        have HE := Lib.hid HE
        clear hoc hvU2 HU Hcw HOb Hob
        refine HE.out.mono ?_
        clear HE
        rintro _ wd ⟨rfl, hbd⟩
        have HN := Lib.hid (HN.out.below hbd)
        have HP := Lib.hid (HP.out.below hbd)
        have HQ := Lib.hid (HQ.out.below hbd)
        have HR := Lib.hid (HR.out.below hbd)
        have HBd := Lib.hid (HBc.out.trans (hbd.mono HBc.out.size))
        have hzd := hbd.size
        have hwB := HBd.out.size
        have hM : ∀ q, mine [⟨sa, sc, S.roots.length⟩, ⟨ta, tc, T.roots.length⟩, ⟨ga, gc, S.roots.length⟩, ⟨na, nc, U.roots.length⟩] q → W.heap.size ≤ q ∧ q < wd.heap.size := by
          rintro q ⟨e, he, hq⟩
          simp only [List.mem_cons, List.not_mem_nil, or_false] at he
          rcases he with rfl | rfl | rfl | rfl
          · have := HP.out.bd q hq; have := OR.lt HP.out.ro q hq; omega
          · have := HQ.out.bd q hq; have := OR.lt HQ.out.ro q hq; omega
          · have := HR.out.bd q hq; have := OR.lt HR.out.ro q hq; omega
          · have := HN.out.bd q hq; have := OR.lt HN.out.ro q hq; omega
        have hbi := one_below wd (.cells #[.slice sa S.roots.length sc, .slice ta T.roots.length tc, .slice ga S.roots.length gc, .slice na U.roots.length nc] 31)
        obtain ⟨q0, q1, q2, q3, -⟩ := cells4 (heap_alloc_new wd (.cells #[.slice sa S.roots.length sc, .slice ta T.roots.length tc, .slice ga S.roots.length gc, .slice na U.roots.length nc] 31))
        have HAp := Lib.hid (ApR.apart_any (some ⟨wd.heap.size, 0, none⟩) 4 [⟨sa, sc, S.roots.length⟩, ⟨ta, tc, T.roots.length⟩, ⟨ga, gc, S.roots.length⟩, ⟨na, nc, U.roots.length⟩] (by simp)
          (fun e he => by
            have q1 := sdec_len Hsd.out; have q2 := sdec_len Htd.out; have q3 := sdec_len Hud.out
            simp only [List.mem_cons, List.not_mem_nil, or_false] at he
            rcases he with rfl | rfl | rfl | rfl <;> simp only <;> omega)
          (sep4 (fun q h1 h2 => by have := HP.out.bd q h1; have := HQ.out.bd q h2; omega) (fun q h1 h2 => by have := HP.out.bd q h1; have := HR.out.bd q h2; omega) (fun q h1 h2 => by have := HP.out.bd q h1; have := HN.out.bd q h2; omega)
            (fun q h1 h2 => by have := HQ.out.bd q h1; have := HR.out.bd q h2; omega) (fun q h1 h2 => by have := HQ.out.bd q h1; have := HN.out.bd q h2; omega) (fun q h1 h2 => by have := HR.out.bd q h1; have := HN.out.bd q h2; omega))
          (wd.alloc (.cells #[.slice sa S.roots.length sc, .slice ta T.roots.length tc, .slice ga S.roots.length gc, .slice na U.roots.length nc] 31))
          (.inr ⟨wd.heap.size, 0, rfl, by simp, fun i e hi => by
            rcases i with _ | _ | _ | _ | i <;> simp at hi <;> subst hi
            · exact q0
            · exact q1
            · exact q2
            · exact q3⟩)
          (fun b hb h => by cases hb; exact absurd (hM _ h).2 (Nat.lt_irrefl _))
          (fun b hb => by cases hb; simp)
          (fun e he => by
            simp only [List.mem_cons, List.not_mem_nil, or_false] at he
            rcases he with rfl | rfl | rfl | rfl
            · exact ⟨_, (HP.out.below hbi).ro⟩
            · exact ⟨_, (HQ.out.below hbi).ro⟩
            · exact ⟨_, (HR.out.below hbi).ro⟩
            · exact ⟨_, (HN.out.below hbi).ro⟩))
        have Hfin := Lib.hid fun w' (h : Chg (mine [⟨sa, sc, S.roots.length⟩, ⟨ta, tc, T.roots.length⟩, ⟨ga, gc, S.roots.length⟩, ⟨na, nc, U.roots.length⟩]) (wd.alloc (.cells #[.slice sa S.roots.length sc, .slice ta T.roots.length tc, .slice ga S.roots.length gc, .slice na U.roots.length nc] 31)) w') => (HBd.out.trans (hbi.mono hwB)).trans (h.below (B := W.heap.size) (Nat.le_trans hwB hbi.size) (fun j hj => (hM j hj).1))
        obtain ⟨-, -, -, -, -, p5, -⟩ := cells6 HP.out.box
        obtain ⟨-, -, -, -, -, t5, -⟩ := cells6 HQ.out.box
        obtain ⟨-, -, -, -, -, r5, -⟩ := cells6 HR.out.box
        obtain ⟨-, -, -, -, -, n5, -⟩ := cells6 HN.out.box
        clear q0 q1 q2 q3 hbi hM hbd
        go_wp2_with fail
        refine HAp.out.mono ?_
        clear HAp
        rintro _ wh ⟨rfl, hCh⟩
        have Hbi := Lib.hid (Hfin.out _ hCh)
        clear Hfin hCh
        go_wp2_with fail
        refine (works_any _).mono ?_
        rintro _ wi ⟨rfl, hbj⟩
        have Hbj := Lib.hid (Hbi.out.trans (hbj.mono Hbi.out.size))
        clear hbj
        go_wp2_with fail
        go_ret
        exact ⟨rfl, Hbj.out⟩
theorem superFreshRoots_walk (a : Option Addr) (len cap : Nat) (zs : List Int) (b : Option Addr) (lenb cb : Nat) (ys : List Int) (W : World) (hr : IsRow .u8 W a len cap zs) (hc : cap ≤ 140737488351232) (hrb : IsRow .u8 W b lenb cb ys) (hcb : cb ≤ 140737488351232) :
    Calls Try.prog 11 #[.slice a len cap, .slice b lenb cb] W fun e w' => e = .returned (.bool true) ∧ Below W.heap.size W w' := by
  have hlc := hr.len_cap
  have hlb := hrb.len_cap
  obtain ⟨xs, rfl, ha⟩ := hr.bts
  obtain ⟨bs, rfl, hb⟩ := hrb.bts
  exact superFreshRoots_bts a xs cap b bs cb W (by omega) (by omega) ha (by omega) hb
end Go.Proofs.Ythkopgmkdenebaa
