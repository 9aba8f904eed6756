/- The walk of SuperFresh. -/
import Derived.Test.YthkopgmkdenebaaSWEncodes
import Derived.Test.YthkopgmkdenebaaSWReturns
import Derived.Test.YthkopgmkdenebaaSupY
import Derived.Test.YthkopgmkdenebaaApart
namespace Go.Proofs.Ythkopgmkdenebaa
open Go.RowKit
set_option linter.unusedVariables false
set_option maxRecDepth 100000

theorem encB_le (s : SP) : (encB s).length ≤ 512 := by
  unfold encB; split
  · rename_i h; rw [laid_length (scheck_ok.1 h)]; exact Nat.le_refl _
  · simp

/-- what stands when x has its box -/
structure FreshAt (W w : World) (s t : SP) (a : Option Addr) (cap : Nat) (b : Option Addr) (cb : Nat) (bs bt bx g : Nat) : Prop where
  base : Below W.heap.size W w
  s0 : w.heap[bs]? = some (sBox s.gen s.cf.blocks s.cf.clones s.cf.refs s.next a s.roots.length cap)
  t0 : w.heap[bt]? = some (sBox t.gen t.cf.blocks t.cf.clones t.cf.refs t.next b t.roots.length cb)
  x0 : w.heap[bx]? = some (sBox s.gen s.cf.blocks s.cf.clones s.cf.refs s.next (some ⟨g, 0, none⟩) s.roots.length (s.roots.length + 2))
  sp : SparedR w g s
  ne : g ≠ bs ∧ g ≠ bt ∧ g ≠ bx ∧ W.heap.size ≤ g

theorem FreshAt.below {W w w' : World} {s t : SP} {a b : Option Addr} {cap cb bs bt bx g : Nat} (h : FreshAt W w s t a cap b cb bs bt bx g) (hb : Below w.heap.size w w') : FreshAt W w' s t a cap b cb bs bt bx g :=
  ⟨h.base.trans (hb.mono h.base.size), (hb.block _ (lt_of_heap h.s0)).trans h.s0, (hb.block _ (lt_of_heap h.t0)).trans h.t0, (hb.block _ (lt_of_heap h.x0)).trans h.x0, h.sp.below hb, h.ne⟩

theorem sep4 {e0 e1 e2 e3 : Lst} (h01 : ∀ k, blk e0.oa = some k → blk e1.oa = some k → False) (h02 : ∀ k, blk e0.oa = some k → blk e2.oa = some k → False) (h03 : ∀ k, blk e0.oa = some k → blk e3.oa = some k → False)
    (h12 : ∀ k, blk e1.oa = some k → blk e2.oa = some k → False) (h13 : ∀ k, blk e1.oa = some k → blk e3.oa = some k → False) (h23 : ∀ k, blk e2.oa = some k → blk e3.oa = some k → False) : SepL [e0, e1, e2, e3] := by
  intro i j e f hi hj hij k h1 h2
  rcases i with _ | _ | _ | _ | i <;> rcases j with _ | _ | _ | _ | j <;> simp at hi hj hij <;> subst hi <;> subst hj
  · exact h01 k h1 h2
  · exact h02 k h1 h2
  · exact h03 k h1 h2
  · exact h01 k h2 h1
  · exact h12 k h1 h2
  · exact h13 k h1 h2
  · exact h02 k h2 h1
  · exact h12 k h2 h1
  · exact h23 k h1 h2
  · exact h03 k h2 h1
  · exact h13 k h2 h1
  · exact h23 k h2 h1
def SP.put (s : SP) (cur : List RT) : SP := ⟨s.gen, s.cf, s.next, cur⟩
theorem markedR_set (cur : List RT) (k : Nat) (x : RT) (h : k < cur.length) : (markedR cur).set k x = markedR (cur.set k x) := by
  unfold markedR
  rw [List.set_append_left _ _ h, List.length_set]
theorem SparedR.put_sp {w : World} {g : Nat} {s : SP} {cur : List RT} (h : SparedR w g (s.put cur)) (hok : ∀ r ∈ cur, r.ok) (hl : cur.length ≤ 4398046511000) {B : Nat} {w0 : World} {a : Option Addr} {cap : Nat} (hs : SpAt B w0 s a cap) : SpAt w.heap.size w (s.put cur) (some ⟨g, 0, none⟩) (cur.length + 2) := by
  refine ⟨?_, hok, (by show cur.length ≤ _; omega), (fun e => by cases e), hs.g, hs.b, hs.c, hs.r, hs.n⟩
  have hlt : g < w.heap.size := OR.lt h g rfl
  refine .inr ⟨g, 0, rfl, hlt, fun i x hi => ?_⟩
  have hi' : cur[i]? = some x := hi
  have hil := (List.getElem?_eq_some_iff.1 hi').1
  obtain ⟨h0, h1, h2, h3⟩ := cellsR_get (rs := markedR cur) (i := i) (x := x) (by rw [markedR, List.getElem?_append_left hil]; exact hi')
  obtain ⟨_, e0, k0, _⟩ := OR.cell h h0
  obtain ⟨_, e1, k1, _⟩ := OR.cell h h1
  obtain ⟨_, e2, k2, _⟩ := OR.cell h h2
  obtain ⟨_, e3, k3, _⟩ := OR.cell h h3
  cases e0; cases e1; cases e2; cases e3
  exact ⟨by simpa using k0, by simpa using k1, by simpa using k2, by simpa using k3⟩
def RelO (wa : World) (s : SP) (g n : Nat) (i : Value) (wr : World) : Prop :=
  ∃ (k : Nat) (cur : List RT), k ≤ n ∧ i = .int .i64 k ∧ cur.length = n ∧ (∀ r ∈ cur, r.ok) ∧ SparedR wr g (s.put cur) ∧ Chg (fun j => j = g) wa wr

set_option maxHeartbeats 4000000 in
theorem superFresh_walk (s : SP) (a : Option Addr) (cap : Nat) (t : SP) (b : Option Addr) (cb : Nat) (W : World) (hs : SpAt W.heap.size W s a cap ∧ s.roots.length ≤ 4398046511000) (ht : SpAt W.heap.size W t b cb ∧ t.roots.length ≤ 4398046511000) :
    Calls Try.prog 10 #[spv s a cap, spv t b cb] W fun e w' => e = .returned (.bool true) ∧ Below W.heap.size W w' := by
  obtain ⟨hs, hl⟩ := hs
  obtain ⟨ht, hlt⟩ := ht
  have HS := Lib.hid fun w' (h : Below W.heap.size W w') => spareS_any s a cap w' W.heap.size h.size (hs.below h) hl
  have HT := Lib.hid fun w' (h : Below W.heap.size W w') => spareS_any t b cb w' W.heap.size h.size (ht.below h) hlt
  have HD := Lib.hid fun w' (h : Below W.heap.size W w') => dEncode_any s a cap w' W.heap.size h.size (hs.below h)
  have HK := Lib.hid fun w' g (h : Below W.heap.size W w') (hg : SparedR w' g s) => keptS_any s g a cap w' hg ((hs.below h).mono h.size) hl
  have HE := Lib.hid fun w' g (hg : SparedR w' g s) => encode_any s (some ⟨g, 0, none⟩) (s.roots.length + 2) w' _ (Nat.le_refl _) (hg.sp hs)
  have HF := Lib.hid fun w' g (hg : SparedR w' g t) => encode_any t (some ⟨g, 0, none⟩) (t.roots.length + 2) w' _ (Nat.le_refl _) (hg.sp ht)
  have Hs := Lib.hid hs
  have Ht := Lib.hid ht
  have hv : spv s a cap = .agg #[.int .i64 s.gen, .int .i64 s.cf.blocks, .int .i64 s.cf.clones, .int .i64 s.cf.refs, .int .i64 s.next, .slice a s.roots.length cap] := rfl
  have hvt : spv t b cb = .agg #[.int .i64 t.gen, .int .i64 t.cf.blocks, .int .i64 t.cf.clones, .int .i64 t.cf.refs, .int .i64 t.next, .slice b t.roots.length cb] := rfl
  rw [hv] at HS HD HK ⊢
  rw [hvt] at HT ⊢
  clear hv hvt hs ht
  have hB0 := two_below W (sBox s.gen s.cf.blocks s.cf.clones s.cf.refs s.next a s.roots.length cap) (sBox t.gen t.cf.blocks t.cf.clones t.cf.refs t.next b t.roots.length cb)
  have hg0 := (heap_alloc_old (W.alloc (sBox s.gen s.cf.blocks s.cf.clones s.cf.refs s.next a s.roots.length cap)) (sBox t.gen t.cf.blocks t.cf.clones t.cf.refs t.next b t.roots.length cb) (by simp)).trans (heap_alloc_new W (sBox s.gen s.cf.blocks s.cf.clones s.cf.refs s.next a s.roots.length cap))
  have hg1 := heap_alloc_new (W.alloc (sBox s.gen s.cf.blocks s.cf.clones s.cf.refs s.next a s.roots.length cap)) (sBox t.gen t.cf.blocks t.cf.clones t.cf.refs t.next b t.roots.length cb)
  have hz0 : ((W.alloc (sBox s.gen s.cf.blocks s.cf.clones s.cf.refs s.next a s.roots.length cap)).alloc (sBox t.gen t.cf.blocks t.cf.clones t.cf.refs t.next b t.roots.length cb)).heap.size = W.heap.size + 2 := by simp
  rw [show (W.alloc (sBox s.gen s.cf.blocks s.cf.clones s.cf.refs s.next a s.roots.length cap)).heap.size = W.heap.size + 1 by simp] at hg1
  have HB0 := Lib.hid hB0
  have Hg0 := Lib.hid hg0
  have Hg1 := Lib.hid hg1
  have Hz0 := Lib.hid hz0
  unfold sBox at HB0 Hg0 Hg1 Hz0
  clear hB0 hg0 hg1 hz0
  go_enter Try.func10, Try.ntmps10
  go_wp2_with fail
  generalize (W.alloc (.cells #[.int .i64 s.gen, .int .i64 s.cf.blocks, .int .i64 s.cf.clones, .int .i64 s.cf.refs, .int .i64 s.next, .slice a s.roots.length cap] 33)).alloc (.cells #[.int .i64 t.gen, .int .i64 t.cf.blocks, .int .i64 t.cf.clones, .int .i64 t.cf.refs, .int .i64 t.next, .slice b t.roots.length cb] 33) = W0 at *
  refine (HS.out _ HB0.out).mono ?_
  clear HS
  rintro _ w1 ⟨g, rfl, hsp, hgf, hb1⟩
  rw [spv_eq s (some ⟨g, 0, none⟩)]
  have hz0 := Hz0.out
  have hz1 := hb1.size
  have hglt : g < w1.heap.size := OR.lt hsp g rfl
  have hb2 := one_below w1 (sBox s.gen s.cf.blocks s.cf.clones s.cf.refs s.next (some ⟨g, 0, none⟩) s.roots.length (s.roots.length + 2))
  have hB1 := HB0.out.trans (hb1.mono HB0.out.size)
  have hb02 := hb1.trans (hb2.mono hb1.size)
  have HX2 := Lib.hid (show FreshAt W (w1.alloc (sBox s.gen s.cf.blocks s.cf.clones s.cf.refs s.next (some ⟨g, 0, none⟩) s.roots.length (s.roots.length + 2))) s t a cap b cb W.heap.size (W.heap.size + 1) w1.heap.size g from
    ⟨hB1.trans (hb2.mono hB1.size), (hb02.block _ (lt_of_heap Hg0.out)).trans Hg0.out, (hb02.block _ (lt_of_heap Hg1.out)).trans Hg1.out, heap_alloc_new w1 _, hsp.below hb2, by omega, by omega, by omega, by omega⟩)
  have H := Lib.hid (HE.out _ g (hsp.below hb2))
  rw [spv_eq s (some ⟨g, 0, none⟩)] at H
  have hz2 : w1.heap.size < (w1.alloc (sBox s.gen s.cf.blocks s.cf.clones s.cf.refs s.next (some ⟨g, 0, none⟩) s.roots.length (s.roots.length + 2))).heap.size := by simp
  unfold sBox at H HX2 hz2
  clear hsp hb1 hb2 hB1 hb02 HB0 Hg0 Hg1
  go_wp2_with fail
  generalize w1.alloc (.cells #[.int .i64 s.gen, .int .i64 s.cf.blocks, .int .i64 s.cf.clones, .int .i64 s.cf.refs, .int .i64 s.next, .slice (some ⟨g, 0, none⟩) s.roots.length (s.roots.length + 2)] 33) = W2 at *
  obtain ⟨bx, hbx⟩ : ∃ bx, w1.heap.size = bx := ⟨_, rfl⟩
  rw [hbx] at HX2 ⊢
  refine H.out.mono ?_
  clear H
  rintro _ w3 ⟨ea, ec, rfl, hE1, hef, hb3⟩
  have HX3 := Lib.hid (HX2.out.below hb3)
  have hz3 := hb3.size
  have hef1 : ∀ k, blk ea = some k → bx < k ∧ k < w3.heap.size := fun k hk => by have := hef k hk; have := OR.lt hE1 k hk; omega
  have H := Lib.hid (HT.out _ HX3.out.base)
  have HE1 := Lib.hid hE1
  have Hef1 := Lib.hid hef1
  obtain ⟨y0, y1, y2, y3, y4, y5, -⟩ := cells6 HX3.out.t0
  clear hef hb3 hE1 hef1 HT
  go_wp2_with fail
  refine H.out.mono ?_
  clear H
  rintro _ w4 ⟨gt, rfl, hspt, hgtf, hb4⟩
  rw [spv_eq t (some ⟨gt, 0, none⟩)]
  have HX4 := Lib.hid (HX3.out.below hb4)
  have HE1 := Lib.hid (OB.below HE1.out hb4)
  have H := Lib.hid (HF.out _ gt hspt)
  rw [spv_eq t (some ⟨gt, 0, none⟩)] at H
  have hz4 := hb4.size
  clear hb4 hspt HF y0 y1 y2 y3 y4 y5
  go_wp2_with fail
  refine H.out.mono ?_
  clear H
  rintro _ w5 ⟨oa, oc, rfl, hO1, hof, hb5⟩
  have HX5 := Lib.hid (HX4.out.below hb5)
  have HE1 := Lib.hid (OB.below HE1.out hb5)
  have HO1 := Lib.hid hO1
  have Hof1 := Lib.hid (show ∀ k, blk oa = some k → w4.heap.size ≤ k ∧ k < w5.heap.size from fun k hk => ⟨hof k hk, OR.lt hO1 k hk⟩)
  have H := Lib.hid (HE.out _ g HX5.out.sp)
  rw [spv_eq s (some ⟨g, 0, none⟩)] at H
  have hz5 := hb5.size
  obtain ⟨y0, y1, y2, y3, y4, y5, -⟩ := cells6 HX5.out.x0
  clear hb5 hO1 hof
  go_wp2_with fail
  refine H.out.mono ?_
  clear H
  rintro _ w6 ⟨aa, ac, rfl, hA1, haf, hb6⟩
  have HX6 := Lib.hid (HX5.out.below hb6)
  have HE1 := Lib.hid (OB.below HE1.out hb6)
  have HO1 := Lib.hid (OB.below HO1.out hb6)
  have HA1 := Lib.hid hA1
  have Haf1 := Lib.hid (show ∀ k, blk aa = some k → w5.heap.size ≤ k ∧ k < w6.heap.size from fun k hk => ⟨haf k hk, OR.lt hA1 k hk⟩)
  have H := Lib.hid (HD.out _ HX6.out.base)
  have hz6 := hb6.size
  clear hb6 hA1 haf y0 y1 y2 y3 y4 y5
  obtain ⟨y0, y1, y2, y3, y4, y5, -⟩ := cells6 HX6.out.s0
  go_wp2_with fail
  refine H.out.mono ?_
  clear H HD
  rintro _ w7 ⟨ca, cc, rfl, hC1, hcf, hb7⟩
  have HX7 := Lib.hid (HX6.out.below hb7)
  have HE1 := Lib.hid (OB.below HE1.out hb7)
  have HO1 := Lib.hid (OB.below HO1.out hb7)
  have HA1 := Lib.hid (OB.below HA1.out hb7)
  have HC1 := Lib.hid hC1
  have hz7 := hb7.size
  have hel := encB_le s
  have HQ := Lib.hid (eqBytes_any (encB s) (encB s) ea ca ec cc (by omega) (by omega) w7 HE1.out.bts hC1.bts)
  unfold Same at HQ
  rw [show decide (encB s = encB s) = true by simp] at HQ
  have hle := scheck_le s
  clear hb7 hC1 hcf y0 y1 y2 y3 y4 y5
  go_wp2_with fail
  refine HQ.out.mono ?_
  clear HQ
  rintro _ w8 ⟨rfl, hb8⟩
  have HX8 := Lib.hid (HX7.out.below hb8)
  have HE1 := Lib.hid (OB.below HE1.out hb8)
  have HO1 := Lib.hid (OB.below HO1.out hb8)
  have HA1 := Lib.hid (OB.below HA1.out hb8)
  have HC1 := Lib.hid (OB.below HC1.out hb8)
  have hz8 := hb8.size
  have HQ := Lib.hid (eqBytes_any (encB s) (encB s) aa ca ac cc (by omega) (by omega) w8 HA1.out.bts HC1.out.bts)
  unfold Same at HQ
  rw [show decide (encB s = encB s) = true by simp] at HQ
  clear hb8
  go_wp2_with fail
  refine HQ.out.mono ?_
  clear HQ
  rintro _ w9 ⟨rfl, hb9⟩
  have HX9 := Lib.hid (HX8.out.below hb9)
  have HE1 := Lib.hid (OB.below HE1.out hb9)
  have HO1 := Lib.hid (OB.below HO1.out hb9)
  have HA1 := Lib.hid (OB.below HA1.out hb9)
  have hz9 := hb9.size
  have H := Lib.hid (HK.out _ g HX9.out.base HX9.out.sp)
  rw [spv_eq s (some ⟨g, 0, none⟩)] at H
  obtain ⟨x0, x1, x2, x3, x4, x5, -⟩ := cells6 HX9.out.x0
  obtain ⟨y0, y1, y2, y3, y4, y5, -⟩ := cells6 HX9.out.s0
  clear hb9 HK
  go_wp2_with fail
  refine H.out.mono ?_
  clear H
  rintro _ wa ⟨rfl, hba⟩
  have HXa := Lib.hid (HX9.out.below hba)
  have HE1 := Lib.hid (OB.below HE1.out hba)
  have HO1 := Lib.hid (OB.below HO1.out hba)
  have HA1 := Lib.hid (OB.below HA1.out hba)
  have hza := hba.size
  clear hba x0 x1 x2 x3 x4 x5 y0 y1 y2 y3 y4 y5
  go_wp2_with fail
  obtain ⟨n, hn⟩ : ∃ n, s.roots.length = n := ⟨_, rfl⟩
  obtain ⟨m, hm⟩ : ∃ m, t.roots.length = m := ⟨_, rfl⟩
  have Hn := Lib.hid hn
  have Hm := Lib.hid hm
  have hne := HXa.out.ne
  obtain ⟨hn1, hn2, hn3, hn4⟩ := hne
  have HXs := Lib.hid HXa.out.sp
  have hbase := HXa.out.base
  have Hbase := Lib.hid hbase
  have HXx := Lib.hid HXa.out.x0
  have HXt := Lib.hid HXa.out.t0
  have Hel := Lib.hid hel
  have Hle := Lib.hid hle
  rw [hn] at HXx hl ⊢
  rw [hm] at HXt hlt ⊢
  clear hn hm hbase hel hle HX2 HX3 HX4 HX5 HX6 HX7 HX8 HX9
  go_loopw [14] (fun i wr => RelO wa s g n i wr) (fun i _ => n - (intOf i).toNat)
  case atStart => exact ⟨0, s.roots, Nat.zero_le _, rfl, Hn.out, Hs.out.rok, HXs.out, Chg.refl _ _⟩
  case round =>
    obtain ⟨k, cur, hk, rfl, hcl, hok, hS, hC⟩ := hrel
    have hbr : Below W.heap.size W wr := Hbase.out.trans (hC.below (B := W.heap.size) Hbase.out.size (fun j hj => by rw [hj]; exact hn4))
    have hx := (hC.block bx (lt_of_heap HXx.out) (fun e => hn3 e.symm)).trans HXx.out
    have ht := (hC.block (W.heap.size + 1) (lt_of_heap HXt.out) (fun e => hn2 e.symm)).trans HXt.out
    obtain ⟨x0, x1, x2, x3, x4, x5, -⟩ := cells6 hx
    obtain ⟨y0, y1, y2, y3, y4, y5, -⟩ := cells6 ht
    have HS := Lib.hid hS
    have HC := Lib.hid hC
    have Hbr := Lib.hid hbr
    have Hok := Lib.hid hok
    have Hcl := Lib.hid hcl
    clear hS hC hbr hx ht hok hcl
    by_cases hlt2 : k < n ∧ k < m
    · obtain ⟨hkn, hkm⟩ := hlt2
      obtain ⟨x, hxk⟩ : ∃ x, t.roots[k]? = some x := ⟨_, List.getElem?_eq_getElem (by rw [Hm.out]; exact hkm)⟩
      obtain ⟨b1, o1, rfl, hb1, ⟨c0, c1, c2, c3⟩⟩ := (Ht.out.rts.below Hbr.out).at hxk
      have hxo := Ht.out.rok x (List.mem_of_getElem? hxk)
      have hkc : k < cur.length := by rw [Hcl.out]; exact hkn
      obtain ⟨u, hu⟩ : ∃ u, (markedR cur)[k]? = some u := ⟨_, List.getElem?_eq_getElem (by rw [markedR_length]; omega)⟩
      obtain ⟨m0, m1, m2, m3⟩ := cellsR_get hu
      have hSO : OR eRt wr (some ⟨g, 0, none⟩) (cur.length + 2) (cur.length + 2) (cellsR (markedR cur)) := HS.out
      obtain ⟨_, e0, k0, f0⟩ := OR.cell hSO m0
      obtain ⟨_, e1, k1, f1⟩ := OR.cell hSO m1
      obtain ⟨_, e2, k2, f2⟩ := OR.cell hSO m2
      obtain ⟨_, e3, k3, f3⟩ := OR.cell hSO m3
      cases e0; cases e1; cases e2; cases e3
      have hlen4 := cellsR_length (markedR cur)
      have hml := markedR_length cur
      have Fin := Lib.hid (show RelO wa s g n (.int .i64 ((k + 1 : Nat) : Int)) ((((wr.drew.setCell ⟨g, k * 4, none⟩ (.int .i64 x.id)).setCell ⟨g, k * 4 + 1, none⟩ (.int .i64 x.root)).setCell ⟨g, k * 4 + 2, none⟩ (.int .i64 x.height)).setCell ⟨g, k * 4 + 3, none⟩ (.int .i64 x.items)) from by
        refine ⟨k + 1, cur.set k x, hkn, rfl, by rw [List.length_set]; exact Hcl.out, fun r hr => ?_, ?_, ?_⟩
        · rcases List.mem_or_eq_of_mem_set hr with h | h
          · exact Hok.out r h
          · rw [h]; exact hxo
        · show OR eRt _ _ ((cur.set k x).length + 2) ((cur.set k x).length + 2) (cellsR (markedR (cur.set k x)))
          rw [← markedR_set cur k x hkc, List.length_set, cellsR_set (markedR cur) k x (by omega)]
          have hSd : OR eRt wr.drew (some ⟨g, 0, none⟩) (cur.length + 2) (cur.length + 2) (cellsR (markedR cur)) := hSO
          exact ((((hSd.set (k * 4) _ (by omega)).set (k * 4 + 1) _ (by rw [List.length_set]; omega)).set (k * 4 + 2) _ (by rw [List.length_set, List.length_set]; omega)).set (k * 4 + 3) _ (by rw [List.length_set, List.length_set, List.length_set]; omega))
        · have hCd : Chg (fun j => j = g) wa wr.drew := HC.out.drew
          exact (((hCd.setCell ⟨g, k * 4, none⟩ _ (fun _ => rfl)).setCell ⟨g, k * 4 + 1, none⟩ _ (fun _ => rfl)).setCell ⟨g, k * 4 + 2, none⟩ _ (fun _ => rfl)).setCell ⟨g, k * 4 + 3, none⟩ _ (fun _ => rfl))
      clear m0 m1 m2 m3 hu hSO hxk hxo hlen4 hml hkc
      go_wp2_with fail
      go_still_tail 9, (by kernel_rfl)
      change wpList _ _ _ _ _ wr.drew
      go_wp2_with fail
      exact ⟨Fin.out, by simp [intOf]; omega⟩
    · have HT := Lib.hid ((HS.out).put_sp Hok.out (by rw [Hcl.out]; exact hl) Hs.out)
      rw [Hcl.out] at HT
      have hvx : spv (s.put cur) (some ⟨g, 0, none⟩) (n + 2) = .agg #[.int .i64 s.gen, .int .i64 s.cf.blocks, .int .i64 s.cf.clones, .int .i64 s.cf.refs, .int .i64 s.next, .slice (some ⟨g, 0, none⟩) n (n + 2)] := by rw [← Hcl.out]; rfl
      have H := Lib.hid (copySuper_any (s.put cur) (some ⟨g, 0, none⟩) (n + 2) wr _ (Nat.le_refl _) HT.out (by show cur.length ≤ _; rw [Hcl.out]; exact hl))
      rw [hvx] at H
      have Hvx := Lib.hid hvx
      clear hvx
      rcases (by omega : ¬ k < n ∨ (k < n ∧ ¬ k < m)) with hlt3 | ⟨hkn, hkm⟩
      all_goals
        clear hlt2
        go_wp2_with fail
        refine H.out.mono ?_
        clear H
        rintro _ wc ⟨na, nc, rfl, hNO, hnf, hbc⟩
        have hvn : spv (s.put cur) na nc = .agg #[.int .i64 s.gen, .int .i64 s.cf.blocks, .int .i64 s.cf.clones, .int .i64 s.cf.refs, .int .i64 s.next, .slice na n nc] := by rw [← Hcl.out]; rfl
        have hNS : SpAt wc.heap.size wc (s.put cur) na nc := ⟨hNO.rts, Hok.out, (by show cur.length ≤ _; rw [Hcl.out]; omega), hNO.nilcap, Hs.out.g, Hs.out.b, Hs.out.c, Hs.out.r, Hs.out.n⟩
        have hbd := one_below wc (.cells #[.int .i64 s.gen, .int .i64 s.cf.blocks, .int .i64 s.cf.clones, .int .i64 s.cf.refs, .int .i64 s.next, .slice na n nc] 33)
        have hbcd := hbc.trans (hbd.mono hbc.size)
        have Hbd := Lib.hid (Hbr.out.trans (hbcd.mono Hbr.out.size))
        have HNd := Lib.hid (heap_alloc_new wc (.cells #[.int .i64 s.gen, .int .i64 s.cf.blocks, .int .i64 s.cf.clones, .int .i64 s.cf.refs, .int .i64 s.next, .slice na n nc] 33))
        have hx := (HC.out.block bx (lt_of_heap HXx.out) (fun e => hn3 e.symm)).trans HXx.out
        have Hxd := Lib.hid ((hbcd.block _ (lt_of_heap hx)).trans hx)
        have HE2 := Lib.hid (OB.below (OR.chg HE1.out HC.out (fun j hj (e : j = g) => by have := Hef1.out j hj; omega)) hbcd)
        have HO2 := Lib.hid (OB.below (OR.chg HO1.out HC.out (fun j hj (e : j = g) => by have := Hof1.out j hj; omega)) hbcd)
        have HA2 := Lib.hid (OB.below (OR.chg HA1.out HC.out (fun j hj (e : j = g) => by have := Haf1.out j hj; omega)) hbcd)
        have hzr := HC.out.size
        have hzd := hbcd.size
        have hzn : wc.heap.size < (wc.alloc (.cells #[.int .i64 s.gen, .int .i64 s.cf.blocks, .int .i64 s.cf.clones, .int .i64 s.cf.refs, .int .i64 s.next, .slice na n nc] 33)).heap.size := by simp
        have HNS := Lib.hid ((hNS.below hbd).mono hbd.size)
        have H := Lib.hid (encode_any (s.put cur) (some ⟨g, 0, none⟩) (n + 2) (wc.alloc (.cells #[.int .i64 s.gen, .int .i64 s.cf.blocks, .int .i64 s.cf.clones, .int .i64 s.cf.refs, .int .i64 s.next, .slice na n nc] 33)) _ hzd (HT.out.below hbcd))
        rw [Hvx.out] at H
        rw [hvn]
        have Hvn := Lib.hid hvn
        clear hNO hnf hbc hNS hbd hbcd hvn hx HE1 HO1 HA1 x0 x1 x2 x3 x4 x5 y0 y1 y2 y3 y4 y5
        obtain ⟨x0, x1, x2, x3, x4, x5, -⟩ := cells6 Hxd.out
        go_wp2_with fail
        generalize wc.alloc (.cells #[.int .i64 s.gen, .int .i64 s.cf.blocks, .int .i64 s.cf.clones, .int .i64 s.cf.refs, .int .i64 s.next, .slice na n nc] 33) = Wd at *
        refine H.out.mono ?_
        clear H
        rintro _ we ⟨ba, bc, rfl, hB1, hbf, hbe⟩
        have Hbe := Lib.hid (Hbd.out.trans (hbe.mono Hbd.out.size))
        have HE2 := Lib.hid (OB.below HE2.out hbe)
        have HO2 := Lib.hid (OB.below HO2.out hbe)
        have HA2 := Lib.hid (OB.below HA2.out hbe)
        have HB2 := Lib.hid hB1
        have Hbf := Lib.hid (show ∀ k, blk ba = some k → Wd.heap.size ≤ k ∧ k < we.heap.size from fun k hk => ⟨hbf k hk, OR.lt hB1 k hk⟩)
        have hze := hbe.size
        have HNe := Lib.hid ((hbe.block _ (lt_of_heap HNd.out)).trans HNd.out)
        have H := Lib.hid (dEncode_any (s.put cur) na nc we _ hze (HNS.out.below hbe))
        rw [Hvn.out] at H
        clear hB1 hbf hbe x0 x1 x2 x3 x4 x5
        obtain ⟨x0, x1, x2, x3, x4, x5, -⟩ := cells6 HNe.out
        go_wp2_with fail
        refine H.out.mono ?_
        clear H
        rintro _ wf ⟨da, dc, rfl, hD1, hdf, hbg⟩
        have Hbg := Lib.hid (Hbe.out.trans (hbg.mono Hbe.out.size))
        have HE2 := Lib.hid (OB.below HE2.out hbg)
        have HO2 := Lib.hid (OB.below HO2.out hbg)
        have HA2 := Lib.hid (OB.below HA2.out hbg)
        have HB2 := Lib.hid (OB.below HB2.out hbg)
        have hzf := hbg.size
        have hel := encB_le (s.put cur)
        have HQ := Lib.hid (eqBytes_any (encB (s.put cur)) (encB (s.put cur)) ba da bc dc (by omega) (by omega) wf HB2.out.bts hD1.bts)
        unfold Same at HQ
        rw [show decide (encB (s.put cur) = encB (s.put cur)) = true by simp] at HQ
        have hle := scheck_le (s.put cur)
        clear hD1 hdf hbg x0 x1 x2 x3 x4 x5
        go_wp2_with fail
        refine HQ.out.mono ?_
        clear HQ
        rintro _ wg ⟨rfl, hbh⟩
        have Hbh := Lib.hid (Hbg.out.trans (hbh.mono Hbg.out.size))
        have HE2 := Lib.hid (OB.below HE2.out hbh)
        have HO2 := Lib.hid (OB.below HO2.out hbh)
        have HA2 := Lib.hid (OB.below HA2.out hbh)
        have HB2 := Lib.hid (OB.below HB2.out hbh)
        have hzg := hbh.size
        clear hbh
        have hwB := Hbh.out.size
        have hM : ∀ k, mine [⟨ea, ec, (encB s).length⟩, ⟨oa, oc, (encB t).length⟩, ⟨aa, ac, (encB s).length⟩, ⟨ba, bc, (encB (s.put cur)).length⟩] k → W.heap.size ≤ k ∧ k < wg.heap.size := by
          rintro k ⟨e, he, hk⟩
          simp only [List.mem_cons, List.not_mem_nil, or_false] at he
          rcases he with rfl | rfl | rfl | rfl
          · have := Hef1.out k hk; have := OB.lt HE2.out k hk; omega
          · have := Hof1.out k hk; have := OB.lt HO2.out k hk; omega
          · have := Haf1.out k hk; have := OB.lt HA2.out k hk; omega
          · have := Hbf.out k hk; have := OB.lt HB2.out k hk; omega
        have hbi := one_below wg (.cells #[.slice ea (encB s).length ec, .slice oa (encB t).length oc, .slice aa (encB s).length ac, .slice ba (encB (s.put cur)).length bc] 35)
        obtain ⟨q0, q1, q2, q3, -⟩ := cells4 (heap_alloc_new wg (.cells #[.slice ea (encB s).length ec, .slice oa (encB t).length oc, .slice aa (encB s).length ac, .slice ba (encB (s.put cur)).length bc] 35))
        have HAp := Lib.hid (ApB.apart_any (some ⟨wg.heap.size, 0, none⟩) 4 [⟨ea, ec, (encB s).length⟩, ⟨oa, oc, (encB t).length⟩, ⟨aa, ac, (encB s).length⟩, ⟨ba, bc, (encB (s.put cur)).length⟩] (by simp)
          (fun e he => by
            have q1 := encB_le s; have q2 := encB_le t; have q3 := encB_le (s.put cur)
            simp only [List.mem_cons, List.not_mem_nil, or_false] at he
            rcases he with rfl | rfl | rfl | rfl <;> simp only <;> omega)
          (sep4 (fun k h1 h2 => by have := Hef1.out k h1; have := Hof1.out k h2; omega) (fun k h1 h2 => by have := Hef1.out k h1; have := Haf1.out k h2; omega) (fun k h1 h2 => by have := Hef1.out k h1; have := Hbf.out k h2; omega)
            (fun k h1 h2 => by have := Hof1.out k h1; have := Haf1.out k h2; omega) (fun k h1 h2 => by have := Hof1.out k h1; have := Hbf.out k h2; omega) (fun k h1 h2 => by have := Haf1.out k h1; have := Hbf.out k h2; omega))
          (wg.alloc (.cells #[.slice ea (encB s).length ec, .slice oa (encB t).length oc, .slice aa (encB s).length ac, .slice ba (encB (s.put cur)).length bc] 35))
          (.inr ⟨wg.heap.size, 0, rfl, by simp, fun i e hi => by
            rcases i with _ | _ | _ | _ | i <;> simp at hi <;> subst hi
            · exact q0
            · exact q1
            · exact q2
            · exact q3⟩)
          (fun b hb h => by cases hb; exact absurd (hM _ h).2 (Nat.lt_irrefl _))
          (fun b hb => by cases hb; simp)
          (fun e he => by
            simp only [List.mem_cons, List.not_mem_nil, or_false] at he
            rcases he with rfl | rfl | rfl | rfl
            · exact ⟨_, OB.below HE2.out hbi⟩
            · exact ⟨_, OB.below HO2.out hbi⟩
            · exact ⟨_, OB.below HA2.out hbi⟩
            · exact ⟨_, OB.below HB2.out hbi⟩))
        have Hfin := Lib.hid fun w' (h : Chg (mine [⟨ea, ec, (encB s).length⟩, ⟨oa, oc, (encB t).length⟩, ⟨aa, ac, (encB s).length⟩, ⟨ba, bc, (encB (s.put cur)).length⟩]) (wg.alloc (.cells #[.slice ea (encB s).length ec, .slice oa (encB t).length oc, .slice aa (encB s).length ac, .slice ba (encB (s.put cur)).length bc] 35)) w') => (Hbh.out.trans (hbi.mono hwB)).trans (h.below (B := W.heap.size) (Nat.le_trans hwB hbi.size) (fun j hj => (hM j hj).1))
        clear q0 q1 q2 q3 hbi hM
        go_wp2_with fail
        refine HAp.out.mono ?_
        clear HAp
        rintro _ wh ⟨rfl, hCh⟩
        have Hbi := Lib.hid (Hfin.out _ hCh)
        clear Hfin hCh
        go_wp2_with fail
        refine (works_any _).mono ?_
        rintro _ wi ⟨rfl, hbj⟩
        have Hbj := Lib.hid (Hbi.out.trans (hbj.mono Hbi.out.size))
        clear hbj
        go_wp2_with fail
        go_ret
        exact ⟨rfl, Hbj.out⟩
end Go.Proofs.Ythkopgmkdenebaa
