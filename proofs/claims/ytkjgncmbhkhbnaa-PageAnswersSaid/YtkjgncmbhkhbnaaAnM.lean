/- The walk of PageAnswers. -/
import Derived.Test.YtkjgncmbhkhbnaaAnR
import Derived.Test.YtkjgncmbhkhbnaaAnK
import Derived.Test.YtkjgncmbhkhbnaaAnQ
namespace Go.Proofs.Ytkjgncmbhkhbnaa
open Go.RowKit

set_option linter.unusedVariables false
set_option maxRecDepth 100000

theorem xor85 {c : Nat} (h : c < 256) : 0 ≤ bits BinOp.xor IntKind.u8 (c : Int) 85 ∧ bits BinOp.xor IntKind.u8 (c : Int) 85 < 256 := by
  revert c
  decide +kernel
def RelAn (W : World) (m : Nat) (v : Value) (wr : World) : Prop := ∃ k : Nat, k ≤ m ∧ v = .int .i64 k ∧ Below W.heap.size W wr
set_option maxHeartbeats 4000000 in
theorem pageAnswers_ops (a : Option Addr) (len cap : Nat) (os : List OpM) (m : Nat) (hol : os.length = m) (hm : m ≤ 300) (hmc : m ≤ cap) (hmin : (if (300 : Int) < (len : Int) then (300 : Int) else (len : Int)) = (m : Int)) (W : World) (ho : OpsAt W.heap.size W a os) :
    Calls Try.prog 3 #[.slice a len cap] W fun x w' => x = .returned (.bool true) ∧ Below W.heap.size W w' := by
  have HO := Lib.hid ho
  have HL := Lib.hid hol
  clear ho hol
  go_enter Try.func3, Try.ntmps3
  go_wp2_with fail
  refine (fixed_any _).mono ?_
  rintro _ w1 ⟨rfl, hb1⟩
  have HB1 := Lib.hid hb1
  clear hb1
  go_wp2_with fail
  go_loopw [3] (fun v wr => RelAn W m v wr) (fun v _ => m - (intOf v).toNat)
  case atStart => exact ⟨0, Nat.zero_le _, rfl, HB1.out⟩
  case round =>
    clear HB1
    obtain ⟨k, hk, rfl, hB⟩ := hrel
    have HB := Lib.hid hB
    by_cases hkm : k < m
    · have HJ := Lib.hid hkm
      obtain ⟨o, hok⟩ : ∃ o, os[k]? = some o := ⟨_, List.getElem?_eq_getElem (by rw [HL.out]; exact hkm)⟩
      obtain ⟨b, off, ia, ic, da, dc, ba, bc, rfl, hblt, hin⟩ := (HO.out.below hB).at hok
      obtain ⟨hp, hbs, hbc, d0, d1, d2, d3, d4, d5, d6, d7, d8⟩ := hin
      obtain ⟨kind, no, gen, p, bs⟩ := o
      simp only at hp hbs hbc d0 d1 d2 d3 d4 d5 d6 d7 d8
      have HPG := Lib.hid fun w1 (h : Below W.heap.size wr w1) => (hp.below h)
      have HSL := Lib.hid fun w1 (h : Below W.heap.size wr w1) => (hbs.below h)
      have HBC := Lib.hid hbc
      obtain ⟨kd, hkd⟩ : ∃ x, p.kind = x := ⟨_, rfl⟩
      obtain ⟨lv, hlv⟩ : ∃ x, p.level = x := ⟨_, rfl⟩
      obtain ⟨nx, hnx⟩ : ∃ x, p.next = x := ⟨_, rfl⟩
      obtain ⟨n, hn⟩ : ∃ x, p.items.length = x := ⟨_, rfl⟩
      obtain ⟨dl, hdl⟩ : ∃ x, p.data.length = x := ⟨_, rfl⟩
      obtain ⟨bl, hbl⟩ : ∃ x, bs.length = x := ⟨_, rfl⟩
      rw [hkd] at d3
      rw [hlv] at d4
      rw [hn] at d5
      rw [hdl] at d6
      rw [hnx] at d7
      rw [hbl] at d8
      have HN := Lib.hid hn
      have HDL := Lib.hid hdl
      have HBL := Lib.hid hbl
      have HKD := Lib.hid (And.intro hkd (And.intro hlv hnx))
      clear hp hbs hbc hn hdl hbl hkd hlv hnx hok
      obtain ⟨W0, rfl⟩ : ∃ W0 : World, W0 = wr := ⟨_, rfl⟩
      have hbx := one_below W0 (.cells #[.int .i64 kind, .int .i64 no, .int .i64 gen, .int .i64 kd, .int .i64 lv, .slice ia n ic, .slice da dl dc, .int .i64 nx, .slice ba bl bc] 29)
      have hgx := heap_alloc_new W0 (.cells #[.int .i64 kind, .int .i64 no, .int .i64 gen, .int .i64 kd, .int .i64 lv, .slice ia n ic, .slice da dl dc, .int .i64 nx, .slice ba bl bc] 29)
      have hzx : (W0.alloc (.cells #[.int .i64 kind, .int .i64 no, .int .i64 gen, .int .i64 kd, .int .i64 lv, .slice ia n ic, .slice da dl dc, .int .i64 nx, .slice ba bl bc] 29)).heap.size = W0.heap.size + 1 := by simp
      obtain ⟨c0, c1, c2, c3, c4, c5, c6, c7, c8, -⟩ := cells9 hgx
      by_cases hbig : 65536 < n
      · have hbI : (65536 : Int) < (n : Int) := by omega
        have HB2 := Lib.hid (HB.out.trans (hbx.mono HB.out.size))
        clear hB hbx hgx hzx
        go_wp2_with fail
        go_roundw
        case rel => exact ⟨k + 1, HJ.out, by go_num, HB2.out⟩
        case measure => exact meas_upL HJ.out
      have hbI : ¬ (65536 : Int) < (n : Int) := by omega
      have HB2 := Lib.hid (HB.out.trans (hbx.mono HB.out.size))
      have HBW := HB2
      by_cases hlong : (1048576 : Int) < (bl : Int)
      · have H := Lib.hid fun w1 => longP_any (bl : Int) w1
        rw [decide_eq_true hlong] at H
        clear hB hbx hgx hzx
        go_wp2_with fail
        refine (H.out _).mono ?_
        rintro _ wx ⟨rfl, e0⟩
        rw [← e0]
        clear e0 wx
        go_wp2_with fail
        go_roundw
        case rel => exact ⟨k + 1, HJ.out, by go_num, HB2.out⟩
        case measure => exact meas_upL HJ.out
      have H := Lib.hid fun w1 => longP_any (bl : Int) w1
      rw [decide_eq_false hlong] at H
      have HBX := Lib.hid hbx
      have HGX := Lib.hid hgx
      clear hB hbx hgx
      go_wp2_with fail
      refine (H.out _).mono ?_
      rintro _ wx ⟨rfl, e0⟩
      rw [← e0]
      clear e0 wx H
      go_wp2_with fail
      generalize W0.alloc (.cells #[.int .i64 kind, .int .i64 no, .int .i64 gen, .int .i64 kd, .int .i64 lv, .slice ia n ic, .slice da dl dc, .int .i64 nx, .slice ba bl bc] 29) = W1 at *
      obtain ⟨g, hgg⟩ : ∃ g, W0.heap.size = g := ⟨_, rfl⟩
      have HGG := Lib.hid hgg
      simp only [hgg] at HGX hzx c0 c1 c2 c3 c4 c5 c6 c7 c8 ⊢
      have hWW : W.heap.size ≤ W1.heap.size := HB2.out.size
      have HW1 := Lib.hid fun w1 (h : Below W1.heap.size W1 w1) => (show Below W.heap.size W0 w1 from (HBX.out.mono HB.out.size).trans (h.mono hWW))
      have HPG := Lib.hid fun w1 (h : Below W1.heap.size W1 w1) => (HPG.out w1 (HW1.out w1 h)).mono (Nat.le_trans hWW h.size)
      have HSL := Lib.hid fun w1 (h : Below W1.heap.size W1 w1) => (HSL.out w1 (HW1.out w1 h))
      have HSPG := Lib.hid fun w1 (h : Below W1.heap.size W1 w1) => sparePage_any p ia ic da dc w1 (HPG.out w1 h) (by rw [HN.out]; omega)
      have HSPB := Lib.hid fun w1 (h : Below W1.heap.size W1 w1) => spare_any ba bc bs (Nat.le_trans (HSL.out w1 h).2.2.1 (by decide)) w1 (HSL.out w1 h).1
      unfold NewSpP pgv at HSPG
      unfold NewSpare at HSPB
      simp only [HN.out, HDL.out, HKD.out.1, HKD.out.2.1, HKD.out.2.2] at HSPG
      simp only [HBL.out] at HSPB
      have HS := Lib.hid fun w1 (h : Below W1.heap.size W1 w1) => (show (fun w' : World => w'.cell? ⟨g, 0, none⟩ = some (.int .i64 kind) ∧ w'.cell? ⟨g, 1, none⟩ = some (.int .i64 no) ∧ w'.cell? ⟨g, 2, none⟩ = some (.int .i64 gen) ∧ w'.cell? ⟨g, 3, none⟩ = some (.int .i64 kd) ∧ w'.cell? ⟨g, 4, none⟩ = some (.int .i64 lv) ∧ w'.cell? ⟨g, 5, none⟩ = some (.slice ia n ic) ∧ w'.cell? ⟨g, 6, none⟩ = some (.slice da dl dc) ∧ w'.cell? ⟨g, 7, none⟩ = some (.int .i64 nx) ∧ w'.cell? ⟨g, 8, none⟩ = some (.slice ba bl bc)) w1 from by
        obtain ⟨c0, c1, c2, c3, c4, c5, c6, c7, c8, -⟩ := cells9 ((h.block g (by omega)).trans HGX.out)
        exact ⟨c0, c1, c2, c3, c4, c5, c6, c7, c8⟩)
      have HBd := Lib.hid (show Below W1.heap.size W1 W1.drew from (Below.refl W1.heap.size W1).drew)
      have HSe := Lib.hid (HS.out _ HBd.out)
      clear c0 c1 c2 c3 c4 c5 c6 c7 c8 hgg d0 d1 d2 d3 d4 d5 d6 d7 d8
      go_cut [5] from 22 to 179 (fun v wx => OCut W1 kind no gen p bs n dl bl v wx)
      case first =>
        refine region9_any hzx HGX.out (fun w1 h => HPG.out w1 h) (fun w1 h => HSL.out w1 h) HN.out HDL.out HBL.out HKD.out (by omega) (by intro c a d v w h; cases d <;> exact h) ?_
        intro v5 v43 v44 v45 v46 v47 v48 v49 v50 v51 v52 v53 v54 v55 w' hv
        go_wp2_with fail
        go_meet
        exact hv
      case rest =>
        obtain ⟨q, gi, gd, gb, zs, rfl, hq, hsp, hsb, hu, hne, hqW, hbc⟩ := hcut
        rw [HKD.out.1, HKD.out.2.1, HKD.out.2.2] at hq
        have HG_0 := Lib.hid ((hbc.block g (by omega)).trans HGX.out)
        have HQ_0 := Lib.hid hq
        have HSP_0 := Lib.hid hsp
        have HSB_0 := Lib.hid hsb
        have HBL_0 := Lib.hid hbc
        have HU := Lib.hid hu
        have HNE := Lib.hid hne
        have HZP := Lib.hid hsp.zp
        have hn65 : p.items.length ≤ 65536 := by rw [HN.out]; omega
        have HBS := Lib.hid fun w1 (h : Below W1.heap.size W1 w1) => (HSL.out w1 h).2.2.1
        have HT := Lib.hid fun w1 (h : Below W1.heap.size W1 w1) => told_any kind no gen p ia ic da dc bs ba bc w1 (HPG.out w1 h) (by omega) (HSL.out w1 h).1 HBC.out
        have HAS := Lib.hid fun w1 (hs : SpP W1.heap.size w1 p gi gd zs) (hb : Spared w1 gb bs) => asked_any kind no gen p (some ⟨gi, 0, none⟩) (p.items.length + 2) (some ⟨gd, 0, none⟩) (p.data.length + 64) bs (some ⟨gb, 0, none⟩) (bs.length + 64) w1 (hs.pgAt (by omega)) (by omega) hb.bts (Nat.le_add_right _ _)
        have hAok := ans_ok kind no gen p bs hn65
        obtain ⟨A, hA⟩ : ∃ A, ans kind no gen p bs = A := ⟨_, rfl⟩
        rw [hA] at hAok
        have HOK := Lib.hid hAok
        have HLA := Lib.hid fun w1 (d : AD) (zs : List (PI × TA)) (hz : zs.map (·.1) = A.p.items) (hi : ItZ w1 d.ia zs) => (show Calls _ _ _ w1 (LsP (anL A d zs) w1) from lists_any A d zs w1 hz hAok.items hi)
        have HSM := Lib.hid fun w1 (d e : AD) (h1 : AnRd w1 A d) (h2 : AnRd w1 A e) => same_any A d e w1 h1 h2 (Nat.le_trans hAok.2.1 (by decide)) (Nat.le_trans hAok.2.2 (by decide))
        have HKP := Lib.hid fun w1 (hs : SpP W1.heap.size w1 p gi gd zs) (h : Below W1.heap.size W1 w1) => keptPage_any p W1.heap.size gi gd zs ia ic da dc w1 hs (HPG.out w1 h) hn65
        have HKB := Lib.hid fun w1 (hb : Spared w1 gb bs) (h : Below W1.heap.size W1 w1) => kept_any gb ba bc bs (Nat.le_trans (HSL.out w1 h).2.2.1 (by decide)) w1 hb (HSL.out w1 h).1
        have HLO := Lib.hid fun w1 (hs : SpP W1.heap.size w1 p gi gd zs) => listsOf_any p (some ⟨gi, 0, none⟩) (p.items.length + 2) (some ⟨gd, 0, none⟩) (p.data.length + 64) zs w1 hs.zp (by omega) hs.z
        have hlsl : (⟨some ⟨gd, 0, none⟩, p.data.length + 64, p.data.length⟩ :: lsZ zs : List Lst).length = 1 + 2 * n := by
          rw [List.length_cons, lsZ_length]
          have : zs.length = n := by rw [← List.length_map (f := (·.1)), hsp.zp, HN.out]
          omega
        unfold opv at HT HAS
        unfold AnsP anv at HT HAS
        unfold anv at HSM HLA
        unfold pgv at HKP HLO
        unfold LsP at HLO HLA
        obtain ⟨m1, hm1⟩ : ∃ x, 1 + 2 * n = x := ⟨_, rfl⟩
        have hm1b : m1 ≤ 140000 := by omega
        simp only [hlsl, hm1] at HLO
        simp only [hA, HN.out, HDL.out, HBL.out, HKD.out.1, HKD.out.2.1, HKD.out.2.2] at HT HAS HKP HKB HLO
        obtain ⟨kA, hkA⟩ : ∃ x, A.p.kind = x := ⟨_, rfl⟩
        obtain ⟨lA, hlA⟩ : ∃ x, A.p.level = x := ⟨_, rfl⟩
        obtain ⟨xA, hxA⟩ : ∃ x, A.p.next = x := ⟨_, rfl⟩
        obtain ⟨iA, hiA⟩ : ∃ x, A.p.items.length = x := ⟨_, rfl⟩
        obtain ⟨dA, hdA⟩ : ∃ x, A.p.data.length = x := ⟨_, rfl⟩
        obtain ⟨nA, hnA⟩ : ∃ x, A.n = x := ⟨_, rfl⟩
        obtain ⟨bA, hbA⟩ : ∃ x, A.b.length = x := ⟨_, rfl⟩
        obtain ⟨mA, hmA⟩ : ∃ x, A.l.length = x := ⟨_, rfl⟩
        obtain ⟨eA, heA⟩ : ∃ x, A.e = x := ⟨_, rfl⟩
        simp only [hkA, hlA, hxA, hiA, hdA, hnA, hbA, hmA, heA] at HT HAS HSM HLA
        have HFA := Lib.hid (And.intro hdA (And.intro hbA hmA))
        have hgbw : gb < wc.heap.size := OR.lt hsb gb rfl
        have hgz : g < wc.heap.size := rlt_of_heapP HG_0.out
        have hWc : W1.heap.size ≤ wc.heap.size := hbc.size
        have hqz : q < wc.heap.size := rlt_of_heapP hq
        clear hq hsp hsb hu hne hbc hm1 hA hAok hkA hlA hxA hiA hdA hnA hbA hmA heA hlsl HSPG HSPB HS HBd HSe HGX
        obtain ⟨c0, c1, c2, c3, c4, c5, c6, c7, c8, -⟩ := cells9 HG_0.out
        go_wp2_with fail
        refine (HT.out _ HBL_0.out).mono ?_
        rintro _ v1 ⟨⟨ia1, ic1, da1, dc1, ba1, bc1, la1, lc1⟩, rfl, hA, hb⟩
        obtain ⟨zs1, hz⟩ := hA.z hb.size
        have ha := one_below v1 (.cells #[.int .i64 kA, .int .i64 lA, .slice ia1 iA ic1, .slice da1 dA dc1, .int .i64 xA, .int .i64 (nA : Int), .slice ba1 bA bc1, .slice la1 mA lc1, .int .i64 eA] 36)
        have hn := heap_alloc_new v1 (.cells #[.int .i64 kA, .int .i64 lA, .slice ia1 iA ic1, .slice da1 dA dc1, .int .i64 xA, .int .i64 (nA : Int), .slice ba1 bA bc1, .slice la1 mA lc1, .int .i64 eA] 36)
        have hb2 := hb.trans (ha.mono hb.size)
        have hle1 : v1.heap.size < (v1.alloc (.cells #[.int .i64 kA, .int .i64 lA, .slice ia1 iA ic1, .slice da1 dA dc1, .int .i64 xA, .int .i64 (nA : Int), .slice ba1 bA bc1, .slice la1 mA lc1, .int .i64 eA] 36)).heap.size := by simp
        have HBL_1 := Lib.hid (HBL_0.out.trans (hb2.mono HBL_0.out.size))
        have HG_1 := Lib.hid ((hb2.block _ (rlt_of_heapP HG_0.out)).trans HG_0.out)
        have HQ_1 := Lib.hid ((hb2.block _ (rlt_of_heapP HQ_0.out)).trans HQ_0.out)
        have HSP_1 := Lib.hid (HSP_0.out.below hb2)
        have HSB_1 := Lib.hid (HSB_0.out.below hb2)
        clear HBL_0 HG_0 HQ_0 HSP_0 HSB_0
        have HR1_1 := Lib.hid hn
        have HZ1_1 := Lib.hid (hz.below ha)
        clear hA hb hz ha hn hb2
        clear c0 c1 c2 c3 c4 c5 c6 c7 c8
        obtain ⟨c0, c1, c2, c3, c4, c5, c6, c7, c8, -⟩ := cells9 HQ_1.out
        go_wp2_with fail
        generalize v1.alloc (.cells #[.int .i64 kA, .int .i64 lA, .slice ia1 iA ic1, .slice da1 dA dc1, .int .i64 xA, .int .i64 (nA : Int), .slice ba1 bA bc1, .slice la1 mA lc1, .int .i64 eA] 36) = U1 at *
        generalize v1.heap.size = q1 at *
        refine (HAS.out _ HSP_1.out HSB_1.out).mono ?_
        rintro _ v2 ⟨⟨ia2, ic2, da2, dc2, ba2, bc2, la2, lc2⟩, rfl, hA, hb⟩
        obtain ⟨zs2, hz⟩ := hA.z hb.size
        have ha := one_below v2 (.cells #[.int .i64 kA, .int .i64 lA, .slice ia2 iA ic2, .slice da2 dA dc2, .int .i64 xA, .int .i64 (nA : Int), .slice ba2 bA bc2, .slice la2 mA lc2, .int .i64 eA] 36)
        have hn := heap_alloc_new v2 (.cells #[.int .i64 kA, .int .i64 lA, .slice ia2 iA ic2, .slice da2 dA dc2, .int .i64 xA, .int .i64 (nA : Int), .slice ba2 bA bc2, .slice la2 mA lc2, .int .i64 eA] 36)
        have hb2 := hb.trans (ha.mono hb.size)
        have hle2 : v2.heap.size < (v2.alloc (.cells #[.int .i64 kA, .int .i64 lA, .slice ia2 iA ic2, .slice da2 dA dc2, .int .i64 xA, .int .i64 (nA : Int), .slice ba2 bA bc2, .slice la2 mA lc2, .int .i64 eA] 36)).heap.size := by simp
        have HBL_2 := Lib.hid (HBL_1.out.trans (hb2.mono HBL_1.out.size))
        have HG_2 := Lib.hid ((hb2.block _ (rlt_of_heapP HG_1.out)).trans HG_1.out)
        have HQ_2 := Lib.hid ((hb2.block _ (rlt_of_heapP HQ_1.out)).trans HQ_1.out)
        have HSP_2 := Lib.hid (HSP_1.out.below hb2)
        have HSB_2 := Lib.hid (HSB_1.out.below hb2)
        have HR1_2 := Lib.hid ((hb2.block _ (rlt_of_heapP HR1_1.out)).trans HR1_1.out)
        have HZ1_2 := Lib.hid (HZ1_1.out.below hb2)
        clear HBL_1 HG_1 HQ_1 HSP_1 HSB_1 HR1_1 HZ1_1
        have HR2_2 := Lib.hid hn
        have HZ2_2 := Lib.hid (hz.below ha)
        clear hA hb hz ha hn hb2
        clear c0 c1 c2 c3 c4 c5 c6 c7 c8
        obtain ⟨c0, c1, c2, c3, c4, c5, c6, c7, c8, -⟩ := cells9 HQ_2.out
        go_wp2_with fail
        generalize v2.alloc (.cells #[.int .i64 kA, .int .i64 lA, .slice ia2 iA ic2, .slice da2 dA dc2, .int .i64 xA, .int .i64 (nA : Int), .slice ba2 bA bc2, .slice la2 mA lc2, .int .i64 eA] 36) = U2 at *
        generalize v2.heap.size = q2 at *
        refine (HAS.out _ HSP_2.out HSB_2.out).mono ?_
        rintro _ v3 ⟨⟨ia3, ic3, da3, dc3, ba3, bc3, la3, lc3⟩, rfl, hA, hb⟩
        obtain ⟨zs3, hz⟩ := hA.z hb.size
        have ha := one_below v3 (.cells #[.int .i64 kA, .int .i64 lA, .slice ia3 iA ic3, .slice da3 dA dc3, .int .i64 xA, .int .i64 (nA : Int), .slice ba3 bA bc3, .slice la3 mA lc3, .int .i64 eA] 36)
        have hn := heap_alloc_new v3 (.cells #[.int .i64 kA, .int .i64 lA, .slice ia3 iA ic3, .slice da3 dA dc3, .int .i64 xA, .int .i64 (nA : Int), .slice ba3 bA bc3, .slice la3 mA lc3, .int .i64 eA] 36)
        have hb2 := hb.trans (ha.mono hb.size)
        have hle3 : v3.heap.size < (v3.alloc (.cells #[.int .i64 kA, .int .i64 lA, .slice ia3 iA ic3, .slice da3 dA dc3, .int .i64 xA, .int .i64 (nA : Int), .slice ba3 bA bc3, .slice la3 mA lc3, .int .i64 eA] 36)).heap.size := by simp
        have HBL_3 := Lib.hid (HBL_2.out.trans (hb2.mono HBL_2.out.size))
        have HG_3 := Lib.hid ((hb2.block _ (rlt_of_heapP HG_2.out)).trans HG_2.out)
        have HQ_3 := Lib.hid ((hb2.block _ (rlt_of_heapP HQ_2.out)).trans HQ_2.out)
        have HSP_3 := Lib.hid (HSP_2.out.below hb2)
        have HSB_3 := Lib.hid (HSB_2.out.below hb2)
        have HR1_3 := Lib.hid ((hb2.block _ (rlt_of_heapP HR1_2.out)).trans HR1_2.out)
        have HZ1_3 := Lib.hid (HZ1_2.out.below hb2)
        have HR2_3 := Lib.hid ((hb2.block _ (rlt_of_heapP HR2_2.out)).trans HR2_2.out)
        have HZ2_3 := Lib.hid (HZ2_2.out.below hb2)
        clear HBL_2 HG_2 HQ_2 HSP_2 HSB_2 HR1_2 HZ1_2 HR2_2 HZ2_2
        have HR3_3 := Lib.hid hn
        have HZ3_3 := Lib.hid (hz.below ha)
        clear hA hb hz ha hn hb2
        clear c0 c1 c2 c3 c4 c5 c6 c7 c8
        go_upto_region 13 with fail
        generalize v3.alloc (.cells #[.int .i64 kA, .int .i64 lA, .slice ia3 iA ic3, .slice da3 dA dc3, .int .i64 xA, .int .i64 (nA : Int), .slice ba3 bA bc3, .slice la3 mA lc3, .int .i64 eA] 36) = U3 at *
        generalize v3.heap.size = q3 at *
        go_cut [87] from 22 to 179 (fun v wx => v = .bool false ∧ Below U3.heap.size U3 wx)
        case first =>
          have HX_3 := Lib.hid (Below.refl U3.heap.size U3)
          obtain ⟨c0, c1, c2, c3, c4, c5, c6, c7, c8, -⟩ := cells9 HR2_3.out
          obtain ⟨y0, y1, y2, y3, y4, y5, y6, y7, y8, -⟩ := cells9 HR1_3.out
          go_wp2_with fail
          refine (HSM.out _ ⟨ia2, ic2, da2, dc2, ba2, bc2, la2, lc2⟩ ⟨ia1, ic1, da1, dc1, ba1, bc1, la1, lc1⟩ (HZ2_3.out.rd HOK.out) (HZ1_3.out.rd HOK.out)).mono ?_
          rintro _ U4 ⟨rfl, hb⟩
          have HBL_4 := Lib.hid (HBL_3.out.trans (hb.mono HBL_3.out.size))
          have HG_4 := Lib.hid ((hb.block _ (rlt_of_heapP HG_3.out)).trans HG_3.out)
          have HQ_4 := Lib.hid ((hb.block _ (rlt_of_heapP HQ_3.out)).trans HQ_3.out)
          have HSP_4 := Lib.hid (HSP_3.out.below hb)
          have HSB_4 := Lib.hid (HSB_3.out.below hb)
          have HR1_4 := Lib.hid ((hb.block _ (rlt_of_heapP HR1_3.out)).trans HR1_3.out)
          have HZ1_4 := Lib.hid (HZ1_3.out.below hb)
          have HR2_4 := Lib.hid ((hb.block _ (rlt_of_heapP HR2_3.out)).trans HR2_3.out)
          have HZ2_4 := Lib.hid (HZ2_3.out.below hb)
          have HR3_4 := Lib.hid ((hb.block _ (rlt_of_heapP HR3_3.out)).trans HR3_3.out)
          have HZ3_4 := Lib.hid (HZ3_3.out.below hb)
          have HX_4 := Lib.hid (HX_3.out.trans (hb.mono HX_3.out.size))
          clear HBL_3 HG_3 HQ_3 HSP_3 HSB_3 HR1_3 HZ1_3 HR2_3 HZ2_3 HR3_3 HZ3_3 HX_3
          clear hb
          clear c0 c1 c2 c3 c4 c5 c6 c7 c8
          clear y0 y1 y2 y3 y4 y5 y6 y7 y8
          obtain ⟨c0, c1, c2, c3, c4, c5, c6, c7, c8, -⟩ := cells9 HR3_4.out
          obtain ⟨y0, y1, y2, y3, y4, y5, y6, y7, y8, -⟩ := cells9 HR1_4.out
          go_wp2_with fail
          refine (HSM.out _ ⟨ia3, ic3, da3, dc3, ba3, bc3, la3, lc3⟩ ⟨ia1, ic1, da1, dc1, ba1, bc1, la1, lc1⟩ (HZ3_4.out.rd HOK.out) (HZ1_4.out.rd HOK.out)).mono ?_
          rintro _ U5 ⟨rfl, hb⟩
          have HBL_5 := Lib.hid (HBL_4.out.trans (hb.mono HBL_4.out.size))
          have HG_5 := Lib.hid ((hb.block _ (rlt_of_heapP HG_4.out)).trans HG_4.out)
          have HQ_5 := Lib.hid ((hb.block _ (rlt_of_heapP HQ_4.out)).trans HQ_4.out)
          have HSP_5 := Lib.hid (HSP_4.out.below hb)
          have HSB_5 := Lib.hid (HSB_4.out.below hb)
          have HR1_5 := Lib.hid ((hb.block _ (rlt_of_heapP HR1_4.out)).trans HR1_4.out)
          have HZ1_5 := Lib.hid (HZ1_4.out.below hb)
          have HR2_5 := Lib.hid ((hb.block _ (rlt_of_heapP HR2_4.out)).trans HR2_4.out)
          have HZ2_5 := Lib.hid (HZ2_4.out.below hb)
          have HR3_5 := Lib.hid ((hb.block _ (rlt_of_heapP HR3_4.out)).trans HR3_4.out)
          have HZ3_5 := Lib.hid (HZ3_4.out.below hb)
          have HX_5 := Lib.hid (HX_4.out.trans (hb.mono HX_4.out.size))
          clear HBL_4 HG_4 HQ_4 HSP_4 HSB_4 HR1_4 HZ1_4 HR2_4 HZ2_4 HR3_4 HZ3_4 HX_4
          clear hb
          clear c0 c1 c2 c3 c4 c5 c6 c7 c8
          clear y0 y1 y2 y3 y4 y5 y6 y7 y8
          obtain ⟨c0, c1, c2, c3, c4, c5, c6, c7, c8, -⟩ := cells9 HQ_5.out
          obtain ⟨y0, y1, y2, y3, y4, y5, y6, y7, y8, -⟩ := cells9 HG_5.out
          go_wp2_with fail
          refine (HKP.out _ HSP_5.out HBL_5.out).mono ?_
          rintro _ U6 ⟨rfl, hb⟩
          have HBL_6 := Lib.hid (HBL_5.out.trans (hb.mono HBL_5.out.size))
          have HG_6 := Lib.hid ((hb.block _ (rlt_of_heapP HG_5.out)).trans HG_5.out)
          have HQ_6 := Lib.hid ((hb.block _ (rlt_of_heapP HQ_5.out)).trans HQ_5.out)
          have HSP_6 := Lib.hid (HSP_5.out.below hb)
          have HSB_6 := Lib.hid (HSB_5.out.below hb)
          have HR1_6 := Lib.hid ((hb.block _ (rlt_of_heapP HR1_5.out)).trans HR1_5.out)
          have HZ1_6 := Lib.hid (HZ1_5.out.below hb)
          have HR2_6 := Lib.hid ((hb.block _ (rlt_of_heapP HR2_5.out)).trans HR2_5.out)
          have HZ2_6 := Lib.hid (HZ2_5.out.below hb)
          have HR3_6 := Lib.hid ((hb.block _ (rlt_of_heapP HR3_5.out)).trans HR3_5.out)
          have HZ3_6 := Lib.hid (HZ3_5.out.below hb)
          have HX_6 := Lib.hid (HX_5.out.trans (hb.mono HX_5.out.size))
          clear HBL_5 HG_5 HQ_5 HSP_5 HSB_5 HR1_5 HZ1_5 HR2_5 HZ2_5 HR3_5 HZ3_5 HX_5
          clear hb
          clear c0 c1 c2 c3 c4 c5 c6 c7 c8
          clear y0 y1 y2 y3 y4 y5 y6 y7 y8
          obtain ⟨c0, c1, c2, c3, c4, c5, c6, c7, c8, -⟩ := cells9 HQ_6.out
          obtain ⟨y0, y1, y2, y3, y4, y5, y6, y7, y8, -⟩ := cells9 HG_6.out
          go_wp2_with fail
          refine (HKB.out _ HSB_6.out HBL_6.out).mono ?_
          rintro _ U7 ⟨rfl, hb⟩
          have HBL_7 := Lib.hid (HBL_6.out.trans (hb.mono HBL_6.out.size))
          have HG_7 := Lib.hid ((hb.block _ (rlt_of_heapP HG_6.out)).trans HG_6.out)
          have HQ_7 := Lib.hid ((hb.block _ (rlt_of_heapP HQ_6.out)).trans HQ_6.out)
          have HSP_7 := Lib.hid (HSP_6.out.below hb)
          have HSB_7 := Lib.hid (HSB_6.out.below hb)
          have HR1_7 := Lib.hid ((hb.block _ (rlt_of_heapP HR1_6.out)).trans HR1_6.out)
          have HZ1_7 := Lib.hid (HZ1_6.out.below hb)
          have HR2_7 := Lib.hid ((hb.block _ (rlt_of_heapP HR2_6.out)).trans HR2_6.out)
          have HZ2_7 := Lib.hid (HZ2_6.out.below hb)
          have HR3_7 := Lib.hid ((hb.block _ (rlt_of_heapP HR3_6.out)).trans HR3_6.out)
          have HZ3_7 := Lib.hid (HZ3_6.out.below hb)
          have HX_7 := Lib.hid (HX_6.out.trans (hb.mono HX_6.out.size))
          clear HBL_6 HG_6 HQ_6 HSP_6 HSB_6 HR1_6 HZ1_6 HR2_6 HZ2_6 HR3_6 HZ3_6 HX_6
          clear hb
          clear c0 c1 c2 c3 c4 c5 c6 c7 c8
          clear y0 y1 y2 y3 y4 y5 y6 y7 y8
          go_wp2_with fail
          go_meet
          exact ⟨rfl, HX_7.out⟩
        case rest =>
          obtain ⟨rfl, hb⟩ := hcut
          obtain ⟨U7, rfl⟩ : ∃ U7 : World, U7 = wc := ⟨_, rfl⟩
          have HBL_7 := Lib.hid (HBL_3.out.trans (hb.mono HBL_3.out.size))
          have HG_7 := Lib.hid ((hb.block _ (rlt_of_heapP HG_3.out)).trans HG_3.out)
          have HQ_7 := Lib.hid ((hb.block _ (rlt_of_heapP HQ_3.out)).trans HQ_3.out)
          have HSP_7 := Lib.hid (HSP_3.out.below hb)
          have HSB_7 := Lib.hid (HSB_3.out.below hb)
          have HR1_7 := Lib.hid ((hb.block _ (rlt_of_heapP HR1_3.out)).trans HR1_3.out)
          have HZ1_7 := Lib.hid (HZ1_3.out.below hb)
          have HR2_7 := Lib.hid ((hb.block _ (rlt_of_heapP HR2_3.out)).trans HR2_3.out)
          have HZ2_7 := Lib.hid (HZ2_3.out.below hb)
          have HR3_7 := Lib.hid ((hb.block _ (rlt_of_heapP HR3_3.out)).trans HR3_3.out)
          have HZ3_7 := Lib.hid (HZ3_3.out.below hb)
          clear HBL_3 HG_3 HQ_3 HSP_3 HSB_3 HR1_3 HZ1_3 HR2_3 HZ2_3 HR3_3 HZ3_3
          clear hb HT HAS HKP HKB
          obtain ⟨c0, c1, c2, c3, c4, c5, c6, c7, c8, -⟩ := cells9 HQ_7.out
          go_wp2_with fail
          have hgb7 : gb < U7.heap.size := OR.lt HSB_7.out gb rfl
          have HSH7 := Lib.hid (spL_sh HSP_7.out HSB_7.out)
          have HUP := Lib.hid (spL_up (bl := bl) HSP_7.out HU.out)
          have HFO := Lib.hid (spL_form (gb := gb) (bl := bl) HSP_7.out)
          have HSML := Lib.hid (spL_small (gb := gb) (bl := bl) HSP_7.out (by omega))
          rw [HDL.out, HBL.out] at HSH7
          rw [HDL.out] at HSML
          rw [HDL.out] at HUP HFO
          refine (HLO.out _ HSP_7.out).mono ?_
          rintro _ v8 ⟨la, lc, rfl, hO, hla, hb⟩
          have ha := one_below v8 (.cells #[.slice (some ⟨gb, 0, none⟩) bl (bl + 64)] 25)
          have hb2 := hb.trans (ha.mono hb.size)
          have HO8 := Lib.hid (hO.chg (F := fun _ => False) (Chg.of_below ha) (fun _ _ f => f))
          have HNW := Lib.hid (show (v8.alloc (.cells #[.slice (some ⟨gb, 0, none⟩) bl (bl + 64)] 25)).heap[v8.heap.size]? = some (.cells [.slice (some ⟨gb, 0, none⟩) bl (bl + 64)].toArray 25) from heap_alloc_new v8 _)
          have HLA := Lib.hid hla
          have HU7 := Lib.hid hb2
          clear c0 c1 c2 c3 c4 c5 c6 c7 c8
          obtain ⟨c0, c1, c2, c3, c4, c5, c6, c7, c8, -⟩ := cells9 ((hb.block _ (rlt_of_heapP HQ_7.out)).trans HQ_7.out)
          clear hb ha hb2 hO hla
          go_wp2_with (at_builtin; go_must (refine wpList_append_or ApB.eLB rfl (.tmp 91) (.tmp 94) rfl rfl HO8.out rfl (m := 1) (news := [.slice (some ⟨gb, 0, none⟩) bl (bl + 64)]) rfl (.inr ⟨_, rfl, news_row HNW.out⟩) (by simp [Value.oneCell']) (by show (m1 + 1) * 24 ≤ _; omega) (by omega) ?_)
                       intro lq lqc U9 hO9 hC9 hb9 _
                       have HU9 := Lib.hid (show Below U7.heap.size U7 U9 from HU7.out.trans (hC9.below HU7.out.size HLA.out))
                       have HLA2 := Lib.hid (show ∀ j, blk lq = some j → U7.heap.size ≤ j from fun j e => by
                         rcases hb9 with h9 | h9
                         · exact HLA.out j (h9 ▸ e)
                         · rw [h9] at e; cases e; exact HU7.out.size)
                       have HO9 := Lib.hid (show OR ApB.eLB U9 lq lqc (m1 + 1) ((spL gd dl gb bl zs).map Lst.val) from by unfold spL; rw [List.map_append]; exact hO9)
                       clear hO9 hC9 hb9)
          have HBL_9 := Lib.hid (HBL_7.out.trans (HU9.out.mono HBL_7.out.size))
          have HG_9 := Lib.hid ((HU9.out.block _ (rlt_of_heapP HG_7.out)).trans HG_7.out)
          have HQ_9 := Lib.hid ((HU9.out.block _ (rlt_of_heapP HQ_7.out)).trans HQ_7.out)
          have HSP_9 := Lib.hid (HSP_7.out.below HU9.out)
          have HSB_9 := Lib.hid (HSB_7.out.below HU9.out)
          have HR1_9 := Lib.hid ((HU9.out.block _ (rlt_of_heapP HR1_7.out)).trans HR1_7.out)
          have HZ1_9 := Lib.hid (HZ1_7.out.below HU9.out)
          have HR2_9 := Lib.hid ((HU9.out.block _ (rlt_of_heapP HR2_7.out)).trans HR2_7.out)
          have HZ2_9 := Lib.hid (HZ2_7.out.below HU9.out)
          have HR3_9 := Lib.hid ((HU9.out.block _ (rlt_of_heapP HR3_7.out)).trans HR3_7.out)
          have HZ3_9 := Lib.hid (HZ3_7.out.below HU9.out)
          clear HBL_7 HG_7 HQ_7 HSP_7 HSB_7 HR1_7 HZ1_7 HR2_7 HZ2_7 HR3_7 HZ3_7
          have hmIb : m1 + 1 ≤ 140001 := by omega
          generalize m1 + 1 = mI at HO9 hmIb ⊢
          have HSHW := Lib.hid (show ShL U9 (spL gd dl gb bl zs) from fun e he => by obtain ⟨x, h1, h2⟩ := HSH7.out e he; exact ⟨x, h1, h2.below HU9.out⟩)
          clear HSH7 c0 c1 c2 c3 c4 c5 c6 c7 c8
          obtain ⟨es, hes⟩ : ∃ es, spL gd dl gb bl zs = es := ⟨_, rfl⟩
          have HES := Lib.hid hes
          have hesl : es.length = mI := by have := HO9.out.form.1; rw [hes, List.length_map] at this; rw [this]; exact Nat.mul_one _
          simp only [hes] at HO9 HSHW HUP HFO HNE HSML
          have HEL := Lib.hid hesl
          clear hes hesl HLO HU7 HLA HO8 HNW
          go_wp2_with fail
          go_loopw [10] (fun v w' => RelFlL U9 es (mI) v w') (fun v _ => mI - (intOf v).toNat)
          case atStart => exact ⟨0, Nat.zero_le _, rfl, HSHW.out, Chg.refl _ _⟩
          case round =>
            clear HSHW
            obtain ⟨k3, hk3, rfl, hs, hC⟩ := hrel
            by_cases hkm3 : k3 < mI
            · obtain ⟨e, he⟩ : ∃ e, es[k3]? = some e := ⟨_, List.getElem?_eq_getElem (by rw [HEL.out]; exact hkm3)⟩
              have hem := List.mem_of_getElem? he
              obtain ⟨ge, hge, hcap⟩ := HFO.out e hem
              have hsep : ∀ y ∈ es, blk y.oa = some ge → y.oa = some ⟨ge, 0, none⟩ ∧ e.n ≤ y.n := fun y hy e2 => by
                obtain ⟨j, hj⟩ := List.mem_iff_getElem?.1 hy
                by_cases hjk : j = k3
                · subst hjk
                  rw [he] at hj; cases hj
                  exact ⟨hge, Nat.le_refl _⟩
                · exact absurd e2 (up_sepP HUP.out k3 j e.oa y.oa (by rw [List.getElem?_map, he]; rfl) (by rw [List.getElem?_map, hj]; rfl) (fun x => hjk x.symm) ge (by rw [hge]; rfl))
              have HCL := Lib.hid fun (w2 : World) (h : Chg (mine es) U9 w2) => (show ∃ gl, lq = some ⟨gl, 0, none⟩ ∧ w2.cell? ⟨gl, k3, none⟩ = some (.slice (some ⟨ge, 0, none⟩) e.n (e.n + 64)) from by
                have h1 := HO9.out.chg h (fun j e1 hm => by
                  obtain ⟨x, hx, hk⟩ := hm
                  have h2 := (HUP.out.mem _ (List.mem_map.2 ⟨x, hx, rfl⟩) j hk).2
                  have h3 := HLA2.out j e1
                  omega)
                obtain ⟨gl, e1, e2, -⟩ := h1.cell (j := k3) (u := e.val) (by rw [List.getElem?_map, he]; rfl)
                refine ⟨gl, e1, ?_⟩
                rw [e2, Lst.val, hge, hcap])
              obtain ⟨ml, hml⟩ : ∃ ml, e.n = ml := ⟨_, rfl⟩
              have hmlb : ml ≤ 140737488351232 := by rw [← hml]; exact HSML.out e hem
              rw [hml] at HCL hsep
              obtain ⟨gl, rfl, hcell⟩ := HCL.out wr hC
              have HXM := Lib.hid hem
              have HX1 := Lib.hid hge
              have HSEP := Lib.hid hsep
              have HML := Lib.hid hml
              have HR0 := Lib.hid (show RelFlL U9 es ml (.int .i64 0) wr from ⟨0, Nat.zero_le _, rfl, hs, hC⟩)
              have HJ3 := Lib.hid hkm3
              clear hem hge hsep hml he hs hC hcap
              go_wp2_with fail
              clear hcell
              go_loopw [11] (fun v w2 => RelFlL U9 es ml v w2) (fun v _ => ml - (intOf v).toNat)
              case atStart => exact HR0.out
              case round =>
                clear HR0
                obtain ⟨k4, hk4, rfl, hs, hC⟩ := hrel
                obtain ⟨gl2, egl, hcell⟩ := HCL.out _ hC
                cases egl
                by_cases hkl : k4 < ml
                · obtain ⟨xs, hbl2, hO⟩ := hs e HXM.out
                  rw [HX1.out, HML.out] at hO
                  rw [HML.out] at hbl2
                  obtain ⟨hcb, hfb⟩ := hO.cell (i := k4) (by omega)
                  have hlt := (xs.getD k4 0).toNat_lt
                  have hd : Below wr.heap.size wr wr.drew := (Below.refl wr.heap.size wr).drew
                  have hs3 : ShL wr.drew es := fun y hy => by obtain ⟨x, h1, h2⟩ := hs y hy; exact ⟨x, h1, h2.below hd⟩
                  have hC3 := hC.trans (Chg.of_below (F := mine es) hd) (fun _ _ f => f)
                  have hO3 := hO.below hd
                  have HC3 := Lib.hid (hO3.cell (i := k4) (by omega))
                  have Hnx := Lib.hid fun (v : Int) (h0 : 0 ≤ v) (h1 : v < 256) (i : Value) hi => relFlL_next (v := v) (n := ml) (m := ml) (i := i) hkl hs3 hC3 HXM.out HX1.out hkl h0 h1 HSEP.out hi
                  generalize (xs.getD k4 0).toNat = c at *
                  have HJ2 := Lib.hid hkl
                  clear hs hC hO hbl2 hd hs3 hC3 hO3
                  go_wp2_with fail
                  go_still_tail 14, (by as_aux_lemma => kernel_rfl)
                  change wpList _ _ _ _ _ wr.drew
                  generalize wr.drew = w3 at HC3 Hnx ⊢
                  obtain ⟨hcb3, hfb3⟩ := HC3.out
                  clear hcb hfb hcell
                  go_wp2_with fail
                  go_roundw
                  case rel => exact Hnx.out _ (xor85 hlt).1 (xor85 hlt).2 _ (by go_num)
                  case measure => exact meas_upL HJ2.out
                · obtain rfl : k4 = ml := by omega
                  have HN3 := Lib.hid fun (v : Value) (hv : v = .int .i64 ((k3 + 1 : Nat) : Int)) => (show RelFlL U9 es (mI) v wr from ⟨k3 + 1, HJ3.out, hv, hs, hC⟩)
                  clear hs hC
                  go_wp2_with fail
                  go_roundw
                  case rel => exact HN3.out _ (by go_num)
                  case measure => exact meas_upL HJ3.out
            · obtain rfl : k3 = mI := by omega
              obtain ⟨p2, b2, hk2, hl2, hx2, hn2, hd2, hb2, hP2, hB2, hI2⟩ := flipped HSP_9.out HSB_9.out HU.out hn65 (by rw [HDL.out, HBL.out, HES.out]; exact hs) (by rw [HDL.out, HBL.out, HES.out]; exact hC)
              rw [HN.out] at hn2 hP2
              rw [HDL.out] at hd2 hP2
              rw [HBL.out] at hb2
              have hmine : ∀ k, mine es k → W1.heap.size ≤ k ∧ k < gb + 1 := fun k ⟨e, he, hk⟩ => HUP.out.mem _ (List.mem_map.2 ⟨e, he, rfl⟩) k hk
              have hz1 := HZ1_9.out.lh
              have hz2 := HZ2_9.out.lh
              have hz3 := HZ3_9.out.lh
              have hrow : ∀ {a : Nat} {vs : Array Value} {T : TypeId}, U9.heap[a]? = some (.cells vs T) → (mine es a → False) → wr.heap[a]? = some (.cells vs T) := fun h hn => (hC.block _ (rlt_of_heapP h) hn).trans h
              have HBL_10 := Lib.hid (HBL_9.out.trans (hC.below HBL_9.out.size (fun k hk => (hmine k hk).1)))
              have HG_10 := Lib.hid (hrow HG_9.out (fun h => by have := (hmine g h).1; omega))
              have HQ_10 := Lib.hid (hrow HQ_9.out HNE.out.1)
              have HR1_10 := Lib.hid (hrow HR1_9.out (fun h => by have := (hmine q1 h).2; omega))
              have HR2_10 := Lib.hid (hrow HR2_9.out (fun h => by have := (hmine q2 h).2; omega))
              have HR3_10 := Lib.hid (hrow HR3_9.out (fun h => by have := (hmine q3 h).2; omega))
              have HZ1_10 := Lib.hid (HZ1_9.out.chg hC (fun k hk => by have := (hmine k hk).2; omega))
              have HZ2_10 := Lib.hid (HZ2_9.out.chg hC (fun k hk => by have := (hmine k hk).2; omega))
              have HZ3_10 := Lib.hid (HZ3_9.out.chg hC (fun k hk => by have := (hmine k hk).2; omega))
              have HP2 := Lib.hid hP2
              have HB2 := Lib.hid hB2
              have HK2 := Lib.hid (And.intro hk2 (And.intro hl2 (And.intro hx2 (And.intro hn2 (And.intro hd2 (And.intro hb2 hI2))))))
              clear hs hC hP2 hB2 hk2 hl2 hx2 hn2 hd2 hb2 hI2 hrow hmine HBL_9 HG_9 HQ_9 HR1_9 HR2_9 HR3_9 HZ1_9 HZ2_9 HZ3_9 HSP_9 HSB_9 HO9 HUP HFO HSML HLA2 HEL HES hkm3
              go_wp2_with fail
              obtain ⟨U10, rfl⟩ : ∃ U10 : World, U10 = wr := ⟨_, rfl⟩
              have HCP := Lib.hid fun w1 (h : Below U10.heap.size U10 w1) => copyPage_any p2 (some ⟨gi, 0, none⟩) (n + 2) (some ⟨gd, 0, none⟩) (dl + 64) w1 ((HP2.out.below h).mono h.size) (by rw [HK2.out.2.2.2.1]; omega)
              have HCB := Lib.hid fun w1 (h : Below U10.heap.size U10 w1) => copyBytes_any (some ⟨gb, 0, none⟩) (bl + 64) b2 (by rw [HK2.out.2.2.2.2.2.1]; omega) w1 (HB2.out.below h)
              unfold CpP pgv at HCP
              unfold NewB at HCB
              simp only [HK2.out.1, HK2.out.2.1, HK2.out.2.2.1, HK2.out.2.2.2.1, HK2.out.2.2.2.2.1, HKD.out.1, HKD.out.2.1, HKD.out.2.2] at HCP
              simp only [HK2.out.2.2.2.2.2.1] at HCB
              have HS := Lib.hid fun w1 (h : Below U10.heap.size U10 w1) => (show (fun w' : World => w'.cell? ⟨g, 0, none⟩ = some (.int .i64 kind) ∧ w'.cell? ⟨g, 1, none⟩ = some (.int .i64 no) ∧ w'.cell? ⟨g, 2, none⟩ = some (.int .i64 gen) ∧ w'.cell? ⟨q, 3, none⟩ = some (.int .i64 kd) ∧ w'.cell? ⟨q, 4, none⟩ = some (.int .i64 lv) ∧ w'.cell? ⟨q, 5, none⟩ = some (.slice (some ⟨gi, 0, none⟩) n (n + 2)) ∧ w'.cell? ⟨q, 6, none⟩ = some (.slice (some ⟨gd, 0, none⟩) dl (dl + 64)) ∧ w'.cell? ⟨q, 7, none⟩ = some (.int .i64 nx) ∧ w'.cell? ⟨q, 8, none⟩ = some (.slice (some ⟨gb, 0, none⟩) bl (bl + 64))) w1 from by
                obtain ⟨c0, c1, c2, -⟩ := cells9 ((h.block _ (rlt_of_heapP HG_10.out)).trans HG_10.out)
                obtain ⟨-, -, -, c3, c4, c5, c6, c7, c8, -⟩ := cells9 ((h.block _ (rlt_of_heapP HQ_10.out)).trans HQ_10.out)
                exact ⟨c0, c1, c2, c3, c4, c5, c6, c7, c8⟩)
              have HBd := Lib.hid (show Below U10.heap.size U10 U10.drew from (Below.refl U10.heap.size U10).drew)
              have HSe := Lib.hid (HS.out _ HBd.out)
              go_cut [12] from 22 to 179 (fun v wx => NCut U10 kind no gen kd lv nx p2 b2 n dl bl v wx)
              case first =>
                refine region24_any HG_10.out HQ_10.out HP2.out HB2.out ⟨HK2.out.1.trans HKD.out.1, HK2.out.2.1.trans HKD.out.2.1, HK2.out.2.2.1.trans HKD.out.2.2, HK2.out.2.2.2.1, HK2.out.2.2.2.2.1, HK2.out.2.2.2.2.2.1⟩ (by omega) (by omega) (by intro c a d v w h; cases d <;> exact h) ?_
                intro v12 v125 v126 v127 v128 v129 v130 v131 v132 v133 v134 v135 v136 v137 w' hv
                go_wp2_with fail
                go_meet
                exact hv
              case rest =>
                obtain ⟨qn, ja, jc, ea, ec, pa, pc, rfl, hqn, hcp, hob, hbn⟩ := hcut
                obtain ⟨U11, rfl⟩ : ∃ U11 : World, U11 = wc := ⟨_, rfl⟩
                have HBL_11 := Lib.hid (HBL_10.out.trans (hbn.mono HBL_10.out.size))
                have HQ_11 := Lib.hid ((hbn.block _ (rlt_of_heapP HQ_10.out)).trans HQ_10.out)
                have HR1_11 := Lib.hid ((hbn.block _ (rlt_of_heapP HR1_10.out)).trans HR1_10.out)
                have HR2_11 := Lib.hid ((hbn.block _ (rlt_of_heapP HR2_10.out)).trans HR2_10.out)
                have HR3_11 := Lib.hid ((hbn.block _ (rlt_of_heapP HR3_10.out)).trans HR3_10.out)
                have HZ1_11 := Lib.hid (HZ1_10.out.below hbn)
                have HZ2_11 := Lib.hid (HZ2_10.out.below hbn)
                have HZ3_11 := Lib.hid (HZ3_10.out.below hbn)
                clear HBL_10 HQ_10 HR1_10 HR2_10 HR3_10 HZ1_10 HZ2_10 HZ3_10
                have HN_11 := Lib.hid hqn
                have HCP_11 := Lib.hid hcp
                have HOB_11 := Lib.hid hob
                have HP11 := Lib.hid ((HP2.out.below hbn).mono hbn.size)
                have HB11 := Lib.hid (HB2.out.below hbn)
                have HR3_11K := HR3_11
                have HZ1_11K := HZ1_11
                clear hqn hcp hob hbn HG_10 HS HSe HBd HCP HCB HP2 HB2
                have hn2 := HK2.out.2.2.2.1
                have hb2l := HK2.out.2.2.2.2.2.1
                have hCok := ans_ok kind no gen p2 b2 (by rw [hn2]; omega)
                have HAC := Lib.hid fun w1 (h : Below U11.heap.size U11 w1) => asked_any kind no gen p2 (some ⟨gi, 0, none⟩) (n + 2) (some ⟨gd, 0, none⟩) (dl + 64) b2 (some ⟨gb, 0, none⟩) (bl + 64) w1 ((HP11.out.below h).mono h.size) (by rw [hn2]; omega) (HB11.out.below h) (by rw [hb2l]; omega)
                have HTC := Lib.hid fun w1 (hcp : Cpd U10.heap.size w1 p2 ja jc ea ec) (hob : OB w1 pa pc b2) => told_any kind no gen p2 ja jc ea ec b2 pa pc w1 (hcp.pgAt HK2.out.2.2.2.2.2.2 HP11.out.data.2.2.1 (by rw [hn2]; omega) HP11.out.kd HP11.out.lv HP11.out.nx) (by rw [hn2]; omega) hob.bts hob.roomy
                obtain ⟨C, hC⟩ : ∃ C, ans kind no gen p2 b2 = C := ⟨_, rfl⟩
                rw [hC] at hCok
                have HOKC := Lib.hid hCok
                have HSMC := Lib.hid fun w1 (d e : AD) (h1 : AnRd w1 C d) (h2 : AnRd w1 C e) => same_any C d e w1 h1 h2 (Nat.le_trans hCok.2.1 (by decide)) (Nat.le_trans hCok.2.2 (by decide))
                have HLC := Lib.hid fun w1 (d : AD) (zs : List (PI × TA)) (hz : zs.map (·.1) = C.p.items) (hi : ItZ w1 d.ia zs) => (show Calls _ _ _ w1 (LsP (anL C d zs) w1) from lists_any C d zs w1 hz hCok.items hi)
                unfold opv at HAC HTC
                unfold AnsP anv at HAC HTC
                unfold anv at HSMC HLC
                unfold LsP at HLC
                simp only [hC, HK2.out.1, HK2.out.2.1, HK2.out.2.2.1, HK2.out.2.2.2.1, HK2.out.2.2.2.2.1, HK2.out.2.2.2.2.2.1, HKD.out.1, HKD.out.2.1, HKD.out.2.2] at HAC HTC
                obtain ⟨kC, hkC⟩ : ∃ x, C.p.kind = x := ⟨_, rfl⟩
                obtain ⟨lC, hlC⟩ : ∃ x, C.p.level = x := ⟨_, rfl⟩
                obtain ⟨xC, hxC⟩ : ∃ x, C.p.next = x := ⟨_, rfl⟩
                obtain ⟨iC, hiC⟩ : ∃ x, C.p.items.length = x := ⟨_, rfl⟩
                obtain ⟨dC, hdC⟩ : ∃ x, C.p.data.length = x := ⟨_, rfl⟩
                obtain ⟨nC, hnC⟩ : ∃ x, C.n = x := ⟨_, rfl⟩
                obtain ⟨bC, hbC⟩ : ∃ x, C.b.length = x := ⟨_, rfl⟩
                obtain ⟨mC, hmC⟩ : ∃ x, C.l.length = x := ⟨_, rfl⟩
                obtain ⟨eC, heC⟩ : ∃ x, C.e = x := ⟨_, rfl⟩
                simp only [hkC, hlC, hxC, hiC, hdC, hnC, hbC, hmC, heC] at HAC HTC HSMC HLC
                have HFC := Lib.hid hmC
                clear hn2 hb2l hCok hC hkC hlC hxC hiC hdC hnC hbC hmC heC
                obtain ⟨c0, c1, c2, c3, c4, c5, c6, c7, c8, -⟩ := cells9 HQ_11.out
                go_wp2_with fail
                refine (HAC.out _ (Below.refl _ _)).mono ?_
                rintro _ v12 ⟨⟨ia4, ic4, da4, dc4, ba4, bc4, la4, lc4⟩, rfl, hA, hb⟩
                obtain ⟨zs4, hz⟩ := hA.z hb.size
                have ha := one_below v12 (.cells #[.int .i64 kC, .int .i64 lC, .slice ia4 iC ic4, .slice da4 dC dc4, .int .i64 xC, .int .i64 (nC : Int), .slice ba4 bC bc4, .slice la4 mC lc4, .int .i64 eC] 36)
                have hn := heap_alloc_new v12 (.cells #[.int .i64 kC, .int .i64 lC, .slice ia4 iC ic4, .slice da4 dC dc4, .int .i64 xC, .int .i64 (nC : Int), .slice ba4 bC bc4, .slice la4 mC lc4, .int .i64 eC] 36)
                have hb2 := hb.trans (ha.mono hb.size)
                have hle4 : v12.heap.size < (v12.alloc (.cells #[.int .i64 kC, .int .i64 lC, .slice ia4 iC ic4, .slice da4 dC dc4, .int .i64 xC, .int .i64 (nC : Int), .slice ba4 bC bc4, .slice la4 mC lc4, .int .i64 eC] 36)).heap.size := by simp
                have HBL_12 := Lib.hid (HBL_11.out.trans (hb2.mono HBL_11.out.size))
                have HQ_12 := Lib.hid ((hb2.block _ (rlt_of_heapP HQ_11.out)).trans HQ_11.out)
                have HR1_12 := Lib.hid ((hb2.block _ (rlt_of_heapP HR1_11.out)).trans HR1_11.out)
                have HR2_12 := Lib.hid ((hb2.block _ (rlt_of_heapP HR2_11.out)).trans HR2_11.out)
                have HR3_12 := Lib.hid ((hb2.block _ (rlt_of_heapP HR3_11.out)).trans HR3_11.out)
                have HZ1_12 := Lib.hid (HZ1_11.out.below hb2)
                have HZ2_12 := Lib.hid (HZ2_11.out.below hb2)
                have HZ3_12 := Lib.hid (HZ3_11.out.below hb2)
                have HN_12 := Lib.hid ((hb2.block _ (rlt_of_heapP HN_11.out)).trans HN_11.out)
                have HCP_12 := Lib.hid (HCP_11.out.below hb2)
                have HOB_12 := Lib.hid (HOB_11.out.below hb2)
                clear HBL_11 HQ_11 HR1_11 HR2_11 HR3_11 HZ1_11 HZ2_11 HZ3_11 HN_11 HCP_11 HOB_11
                have HR4_12 := Lib.hid hn
                have HZ4_12 := Lib.hid (hz.below ha)
                clear hA hb hz ha hn hb2
                clear c0 c1 c2 c3 c4 c5 c6 c7 c8
                go_wp2_with fail
                generalize v12.alloc (.cells #[.int .i64 kC, .int .i64 lC, .slice ia4 iC ic4, .slice da4 dC dc4, .int .i64 xC, .int .i64 (nC : Int), .slice ba4 bC bc4, .slice la4 mC lc4, .int .i64 eC] 36) = U12 at *
                generalize v12.heap.size = q4 at *
                have HS := Lib.hid fun w1 (h : Below U12.heap.size U12 w1) => (show (fun w' : World => w'.heap[q1]? = some (.cells #[.int .i64 kA, .int .i64 lA, .slice ia1 iA ic1, .slice da1 dA dc1, .int .i64 xA, .int .i64 (nA : Int), .slice ba1 bA bc1, .slice la1 mA lc1, .int .i64 eA] 36) ∧ w'.heap[q2]? = some (.cells #[.int .i64 kA, .int .i64 lA, .slice ia2 iA ic2, .slice da2 dA dc2, .int .i64 xA, .int .i64 (nA : Int), .slice ba2 bA bc2, .slice la2 mA lc2, .int .i64 eA] 36) ∧ w'.heap[q3]? = some (.cells #[.int .i64 kA, .int .i64 lA, .slice ia3 iA ic3, .slice da3 dA dc3, .int .i64 xA, .int .i64 (nA : Int), .slice ba3 bA bc3, .slice la3 mA lc3, .int .i64 eA] 36) ∧ w'.heap[q4]? = some (.cells #[.int .i64 kC, .int .i64 lC, .slice ia4 iC ic4, .slice da4 dC dc4, .int .i64 xC, .int .i64 (nC : Int), .slice ba4 bC bc4, .slice la4 mC lc4, .int .i64 eC] 36) ∧ w'.heap[qn]? = some (.cells #[.int .i64 kind, .int .i64 no, .int .i64 gen, .int .i64 kd, .int .i64 lv, .slice ja n jc, .slice ea dl ec, .int .i64 nx, .slice pa bl pc] 29)) w1 from ⟨(h.block _ (rlt_of_heapP HR1_12.out)).trans HR1_12.out, (h.block _ (rlt_of_heapP HR2_12.out)).trans HR2_12.out, (h.block _ (rlt_of_heapP HR3_12.out)).trans HR3_12.out, (h.block _ (rlt_of_heapP HR4_12.out)).trans HR4_12.out, (h.block _ (rlt_of_heapP HN_12.out)).trans HN_12.out⟩)
                have HW_0 := Lib.hid (show Below U12.heap.size U12 U12.drew from (Below.refl U12.heap.size U12).drew)
                have HS_0 := Lib.hid (HS.out _ HW_0.out)
                go_cut [156] from 22 to 179 (fun v wx => v = .bool false ∧ Below U12.heap.size U12 wx)
                case first =>
                  refine wp_region_E (fun w' : World => w'.heap[q1]? = some (.cells #[.int .i64 kA, .int .i64 lA, .slice ia1 iA ic1, .slice da1 dA dc1, .int .i64 xA, .int .i64 (nA : Int), .slice ba1 bA bc1, .slice la1 mA lc1, .int .i64 eA] 36) ∧ w'.heap[q2]? = some (.cells #[.int .i64 kA, .int .i64 lA, .slice ia2 iA ic2, .slice da2 dA dc2, .int .i64 xA, .int .i64 (nA : Int), .slice ba2 bA bc2, .slice la2 mA lc2, .int .i64 eA] 36) ∧ w'.heap[q3]? = some (.cells #[.int .i64 kA, .int .i64 lA, .slice ia3 iA ic3, .slice da3 dA dc3, .int .i64 xA, .int .i64 (nA : Int), .slice ba3 bA bc3, .slice la3 mA lc3, .int .i64 eA] 36) ∧ w'.heap[q4]? = some (.cells #[.int .i64 kC, .int .i64 lC, .slice ia4 iC ic4, .slice da4 dC dc4, .int .i64 xC, .int .i64 (nC : Int), .slice ba4 bC bc4, .slice la4 mC lc4, .int .i64 eC] 36) ∧ w'.heap[qn]? = some (.cells #[.int .i64 kind, .int .i64 no, .int .i64 gen, .int .i64 kd, .int .i64 lv, .slice ja n jc, .slice ea dl ec, .int .i64 nx, .slice pa bl pc] 29)) 16 (by as_aux_lemma => kernel_rfl) (by as_aux_lemma => kernel_rfl) ?_
                  change At _ _ _ _ _ _ 17 #[false, false, false, false, false, false, false, false, false, false, false, false, false, false, false, false, false] _ _
                  refine at_take 0 (v := ?_) rfl (by decide) (by as_aux_lemma => kernel_rfl) (by as_aux_lemma => kernel_rfl) (fun _ _ _ h => h) (Or.inl ⟨by rfl, ?_⟩) HS_0.out ?_
                  rotate_left
                  · intro w' hSw; (try dsimp only at hSw); obtain ⟨-, -, -, r, -⟩ := hSw; obtain ⟨c0, c1, c2, c3, c4, c5, c6, c7, c8, -⟩ := cells9 r; go_simp; (try with_reducible rfl)
                  simp only [Act.put, List.setIfInBounds_toArray, List.set_cons_zero, List.set_cons_succ]
                  refine at_take 1 (v := ?_) rfl (by decide) (by as_aux_lemma => kernel_rfl) (by as_aux_lemma => kernel_rfl) (fun _ _ _ h => h) (Or.inl ⟨by rfl, ?_⟩) HS_0.out ?_
                  rotate_left
                  · intro w' hSw; (try dsimp only at hSw); obtain ⟨-, -, -, -, r⟩ := hSw; obtain ⟨c0, c1, c2, c3, c4, c5, c6, c7, c8, -⟩ := cells9 r; go_simp; (try with_reducible rfl)
                  simp only [Act.put, List.setIfInBounds_toArray, List.set_cons_zero, List.set_cons_succ]
                  refine at_only 2 rfl (by decide) (by as_aux_lemma => kernel_rfl) (by rfl) ?_
                  intro K hK
                  go_simp
                  refine (HTC.out _ (HCP_12.out.below HW_0.out) (HOB_12.out.below HW_0.out)).mono ?_
                  rintro _ x1 ⟨⟨ia5, ic5, da5, dc5, ba5, bc5, la5, lc5⟩, rfl, hA, hb⟩
                  have HW_1 := Lib.hid (HW_0.out.trans (hb.mono HW_0.out.size))
                  have HS_1 := Lib.hid (HS.out x1 HW_1.out)
                  obtain ⟨zs5, hz5⟩ := hA.z hb.size
                  have HZ5 := Lib.hid hz5
                  clear hA hz5
                  clear hb
                  go_simp
                  refine hK _ _ HS_1.out ?_
                  clear hK K
                  simp only [Act.put, List.setIfInBounds_toArray, List.set_cons_zero, List.set_cons_succ]
                  refine at_only 3 rfl (by decide) (by as_aux_lemma => kernel_rfl) (by rfl) ?_
                  intro K hK
                  go_simp
                  refine (HSMC.out _ ⟨ia4, ic4, da4, dc4, ba4, bc4, la4, lc4⟩ ⟨ia5, ic5, da5, dc5, ba5, bc5, la5, lc5⟩ ((HZ4_12.out.below HW_1.out).rd HOKC.out) (HZ5.out.rd HOKC.out)).mono ?_
                  rintro _ x2 ⟨rfl, hb⟩
                  have HW_2 := Lib.hid (HW_1.out.trans (hb.mono HW_1.out.size))
                  have HS_2 := Lib.hid (HS.out x2 HW_2.out)
                  clear hb
                  go_simp
                  refine hK _ _ HS_2.out ?_
                  clear hK K
                  simp only [Act.put, List.setIfInBounds_toArray, List.set_cons_zero, List.set_cons_succ]
                  refine at_take 4 (v := ?_) rfl (by decide) (by as_aux_lemma => kernel_rfl) (by as_aux_lemma => kernel_rfl) (fun _ _ _ h => h) (Or.inl ⟨by rfl, ?_⟩) HS_2.out ?_
                  rotate_left
                  · intro w' hSw; (try dsimp only at hSw); go_simp; (try with_reducible rfl)
                  simp only [Act.put, List.setIfInBounds_toArray, List.set_cons_zero, List.set_cons_succ]
                  refine at_take 5 (v := ?_) rfl (by decide) (by as_aux_lemma => kernel_rfl) (by as_aux_lemma => kernel_rfl) (fun _ _ _ h => h) (Or.inl ⟨by rfl, ?_⟩) HS_2.out ?_
                  rotate_left
                  · intro w' hSw; (try dsimp only at hSw); go_simp; (try with_reducible rfl)
                  simp only [Act.put, List.setIfInBounds_toArray, List.set_cons_zero, List.set_cons_succ]
                  refine at_take 6 (v := ?_) rfl (by decide) (by as_aux_lemma => kernel_rfl) (by as_aux_lemma => kernel_rfl) (fun _ _ _ h => h) (Or.inl ⟨by rfl, ?_⟩) HS_2.out ?_
                  rotate_left
                  · intro w' hSw; (try dsimp only at hSw); obtain ⟨-, r, -, -, -⟩ := hSw; obtain ⟨c0, c1, c2, c3, c4, c5, c6, c7, c8, -⟩ := cells9 r; go_simp; (try with_reducible rfl)
                  simp only [Act.put, List.setIfInBounds_toArray, List.set_cons_zero, List.set_cons_succ]
                  refine at_take 7 (v := ?_) rfl (by decide) (by as_aux_lemma => kernel_rfl) (by as_aux_lemma => kernel_rfl) (fun _ _ _ h => h) (Or.inl ⟨by rfl, ?_⟩) HS_2.out ?_
                  rotate_left
                  · intro w' hSw; (try dsimp only at hSw); obtain ⟨r, -, -, -, -⟩ := hSw; obtain ⟨c0, c1, c2, c3, c4, c5, c6, c7, c8, -⟩ := cells9 r; go_simp; (try with_reducible rfl)
                  simp only [Act.put, List.setIfInBounds_toArray, List.set_cons_zero, List.set_cons_succ]
                  refine at_only 8 rfl (by decide) (by as_aux_lemma => kernel_rfl) (by rfl) ?_
                  intro K hK
                  go_simp
                  refine (HSM.out _ ⟨ia2, ic2, da2, dc2, ba2, bc2, la2, lc2⟩ ⟨ia1, ic1, da1, dc1, ba1, bc1, la1, lc1⟩ ((HZ2_12.out.below HW_2.out).rd HOK.out) ((HZ1_12.out.below HW_2.out).rd HOK.out)).mono ?_
                  rintro _ x3 ⟨rfl, hb⟩
                  have HW_3 := Lib.hid (HW_2.out.trans (hb.mono HW_2.out.size))
                  have HS_3 := Lib.hid (HS.out x3 HW_3.out)
                  clear hb
                  go_simp
                  refine hK _ _ HS_3.out ?_
                  clear hK K
                  simp only [Act.put, List.setIfInBounds_toArray, List.set_cons_zero, List.set_cons_succ]
                  refine at_take 9 (v := ?_) rfl (by decide) (by as_aux_lemma => kernel_rfl) (by as_aux_lemma => kernel_rfl) (fun _ _ _ h => h) (Or.inl ⟨by rfl, ?_⟩) HS_3.out ?_
                  rotate_left
                  · intro w' hSw; (try dsimp only at hSw); go_simp; (try with_reducible rfl)
                  simp only [Act.put, List.setIfInBounds_toArray, List.set_cons_zero, List.set_cons_succ]
                  refine at_take 10 (v := ?_) rfl (by decide) (by as_aux_lemma => kernel_rfl) (by as_aux_lemma => kernel_rfl) (fun _ _ _ h => h) (Or.inl ⟨by rfl, ?_⟩) HS_3.out ?_
                  rotate_left
                  · intro w' hSw; (try dsimp only at hSw); go_simp; (try with_reducible rfl)
                  simp only [Act.put, List.setIfInBounds_toArray, List.set_cons_zero, List.set_cons_succ]
                  refine at_take 11 (v := ?_) rfl (by decide) (by as_aux_lemma => kernel_rfl) (by as_aux_lemma => kernel_rfl) (fun _ _ _ h => h) (Or.inl ⟨by rfl, ?_⟩) HS_3.out ?_
                  rotate_left
                  · intro w' hSw; (try dsimp only at hSw); go_simp; (try with_reducible rfl)
                  simp only [Act.put, List.setIfInBounds_toArray, List.set_cons_zero, List.set_cons_succ]
                  refine at_take 12 (v := ?_) rfl (by decide) (by as_aux_lemma => kernel_rfl) (by as_aux_lemma => kernel_rfl) (fun _ _ _ h => h) (Or.inl ⟨by rfl, ?_⟩) HS_3.out ?_
                  rotate_left
                  · intro w' hSw; (try dsimp only at hSw); obtain ⟨-, -, r, -, -⟩ := hSw; obtain ⟨c0, c1, c2, c3, c4, c5, c6, c7, c8, -⟩ := cells9 r; go_simp; (try with_reducible rfl)
                  simp only [Act.put, List.setIfInBounds_toArray, List.set_cons_zero, List.set_cons_succ]
                  refine at_take 13 (v := ?_) rfl (by decide) (by as_aux_lemma => kernel_rfl) (by as_aux_lemma => kernel_rfl) (fun _ _ _ h => h) (Or.inl ⟨by rfl, ?_⟩) HS_3.out ?_
                  rotate_left
                  · intro w' hSw; (try dsimp only at hSw); obtain ⟨r, -, -, -, -⟩ := hSw; obtain ⟨c0, c1, c2, c3, c4, c5, c6, c7, c8, -⟩ := cells9 r; go_simp; (try with_reducible rfl)
                  simp only [Act.put, List.setIfInBounds_toArray, List.set_cons_zero, List.set_cons_succ]
                  refine at_only 14 rfl (by decide) (by as_aux_lemma => kernel_rfl) (by rfl) ?_
                  intro K hK
                  go_simp
                  refine (HSM.out _ ⟨ia3, ic3, da3, dc3, ba3, bc3, la3, lc3⟩ ⟨ia1, ic1, da1, dc1, ba1, bc1, la1, lc1⟩ ((HZ3_12.out.below HW_3.out).rd HOK.out) ((HZ1_12.out.below HW_3.out).rd HOK.out)).mono ?_
                  rintro _ x4 ⟨rfl, hb⟩
                  have HW_4 := Lib.hid (HW_3.out.trans (hb.mono HW_3.out.size))
                  have HS_4 := Lib.hid (HS.out x4 HW_4.out)
                  clear hb
                  go_simp
                  refine hK _ _ HS_4.out ?_
                  clear hK K
                  simp only [Act.put, List.setIfInBounds_toArray, List.set_cons_zero, List.set_cons_succ]
                  refine at_take 15 (v := ?_) rfl (by decide) (by as_aux_lemma => kernel_rfl) (by as_aux_lemma => kernel_rfl) (fun _ _ _ h => h) (Or.inl ⟨by rfl, ?_⟩) HS_4.out ?_
                  rotate_left
                  · intro w' hSw; (try dsimp only at hSw); go_simp; (try with_reducible rfl)
                  simp only [Act.put, List.setIfInBounds_toArray, List.set_cons_zero, List.set_cons_succ]
                  refine at_tail rfl (by as_aux_lemma => kernel_rfl) ?_
                  simp only [List.drop_succ_cons, List.drop_zero]
                  go_wp2_with fail
                  go_meet
                  exact ⟨rfl, HW_4.out⟩
                case rest =>
                  obtain ⟨rfl, hb⟩ := hcut
                  obtain ⟨U13, rfl⟩ : ∃ U13 : World, U13 = wc := ⟨_, rfl⟩
                  have HBL_13 := Lib.hid (HBL_12.out.trans (hb.mono HBL_12.out.size))
                  have HR2_13 := Lib.hid ((hb.block _ (rlt_of_heapP HR2_12.out)).trans HR2_12.out)
                  have HR3_13 := Lib.hid ((hb.block _ (rlt_of_heapP HR3_12.out)).trans HR3_12.out)
                  have HZ2_13 := Lib.hid (HZ2_12.out.below hb)
                  have HZ3_13 := Lib.hid (HZ3_12.out.below hb)
                  have HR4_13 := Lib.hid ((hb.block _ (rlt_of_heapP HR4_12.out)).trans HR4_12.out)
                  have HZ4_13 := Lib.hid (HZ4_12.out.below hb)
                  clear HBL_12 HR2_12 HR3_12 HZ2_12 HZ3_12 HR4_12 HZ4_12
                  clear hb HS HW_0 HS_0 HAC HTC HSMC HSM HP11 HB11 HQ_12 HR1_12 HZ1_12 HN_12 HCP_12 HOB_12
                  have HL2 := Lib.hid fun w1 (h : Below U13.heap.size U13 w1) => HLA.out w1 ⟨ia2, ic2, da2, dc2, ba2, bc2, la2, lc2⟩ zs2 HZ2_13.out.zp (HZ2_13.out.below h).its.z
                  have HL3 := Lib.hid fun w1 (h : Below U13.heap.size U13 w1) => HLA.out w1 ⟨ia3, ic3, da3, dc3, ba3, bc3, la3, lc3⟩ zs3 HZ3_13.out.zp (HZ3_13.out.below h).its.z
                  have HL4 := Lib.hid fun w1 (h : Below U13.heap.size U13 w1) => HLC.out w1 ⟨ia4, ic4, da4, dc4, ba4, bc4, la4, lc4⟩ zs4 HZ4_13.out.zp (HZ4_13.out.below h).its.z
                  have hs2 := (anL_small HZ2_13.out HOK.out).1
                  have hs3 := (anL_small HZ3_13.out HOK.out).1
                  have hs4 := (anL_small HZ4_13.out HOKC.out).1
                  have HAP := Lib.hid fun (w1 : World) (h : Below U13.heap.size U13 w1) (la : Option Addr) (lc nn : Nat) (hO : OR ApB.eLB w1 la lc nn ((anL A ⟨ia2, ic2, da2, dc2, ba2, bc2, la2, lc2⟩ zs2 ++ anL A ⟨ia3, ic3, da3, dc3, ba3, bc3, la3, lc3⟩ zs3 ++ anL C ⟨ia4, ic4, da4, dc4, ba4, bc4, la4, lc4⟩ zs4).map Lst.val)) (hl : ∀ j, blk la = some j → q4 ≤ j) => apart3 w1 (HZ2_13.out.below h) (HZ3_13.out.below h) (HZ4_13.out.below h) (Nat.le_of_lt hle2) (Nat.le_of_lt (rlt_of_heapP HR3_11K.out)) HOK.out HOKC.out la lc hO hl
                  obtain ⟨es2, hes2⟩ : ∃ es, anL A ⟨ia2, ic2, da2, dc2, ba2, bc2, la2, lc2⟩ zs2 = es := ⟨_, rfl⟩
                  simp only [hes2] at HL2 hs2 HAP
                  obtain ⟨n2, hn2⟩ : ∃ x, es2.length = x := ⟨_, rfl⟩
                  simp only [hn2] at HL2 hs2
                  clear hes2 hn2
                  obtain ⟨es3, hes3⟩ : ∃ es, anL A ⟨ia3, ic3, da3, dc3, ba3, bc3, la3, lc3⟩ zs3 = es := ⟨_, rfl⟩
                  simp only [hes3] at HL3 hs3 HAP
                  obtain ⟨n3, hn3⟩ : ∃ x, es3.length = x := ⟨_, rfl⟩
                  simp only [hn3] at HL3 hs3
                  clear hes3 hn3
                  obtain ⟨es4, hes4⟩ : ∃ es, anL C ⟨ia4, ic4, da4, dc4, ba4, bc4, la4, lc4⟩ zs4 = es := ⟨_, rfl⟩
                  simp only [hes4] at HL4 hs4 HAP
                  obtain ⟨n4, hn4⟩ : ∃ x, es4.length = x := ⟨_, rfl⟩
                  simp only [hn4] at HL4 hs4
                  clear hes4 hn4
                  have HS := Lib.hid fun w1 (h : Below U13.heap.size U13 w1) => (show (fun w' : World => w'.heap[q2]? = some (.cells #[.int .i64 kA, .int .i64 lA, .slice ia2 iA ic2, .slice da2 dA dc2, .int .i64 xA, .int .i64 (nA : Int), .slice ba2 bA bc2, .slice la2 mA lc2, .int .i64 eA] 36) ∧ w'.heap[q3]? = some (.cells #[.int .i64 kA, .int .i64 lA, .slice ia3 iA ic3, .slice da3 dA dc3, .int .i64 xA, .int .i64 (nA : Int), .slice ba3 bA bc3, .slice la3 mA lc3, .int .i64 eA] 36)) w1 from ⟨(h.block _ (rlt_of_heapP HR2_13.out)).trans HR2_13.out, (h.block _ (rlt_of_heapP HR3_13.out)).trans HR3_13.out⟩)
                  have HW_0 := Lib.hid (show Below U13.heap.size U13 U13.drew from (Below.refl U13.heap.size U13).drew)
                  have HS_0 := Lib.hid (HS.out _ HW_0.out)
                  go_wp2_with fail
                  refine wp_region_E (fun w' : World => w'.heap[q2]? = some (.cells #[.int .i64 kA, .int .i64 lA, .slice ia2 iA ic2, .slice da2 dA dc2, .int .i64 xA, .int .i64 (nA : Int), .slice ba2 bA bc2, .slice la2 mA lc2, .int .i64 eA] 36) ∧ w'.heap[q3]? = some (.cells #[.int .i64 kA, .int .i64 lA, .slice ia3 iA ic3, .slice da3 dA dc3, .int .i64 xA, .int .i64 (nA : Int), .slice ba3 bA bc3, .slice la3 mA lc3, .int .i64 eA] 36)) 4 (by as_aux_lemma => kernel_rfl) (by as_aux_lemma => kernel_rfl) ?_
                  change At _ _ _ _ _ _ 6 #[false, false, false, false, false, false] _ _
                  refine at_take 0 (v := ?_) rfl (by decide) (by as_aux_lemma => kernel_rfl) (by as_aux_lemma => kernel_rfl) (fun _ _ _ h => h) (Or.inl ⟨by rfl, ?_⟩) HS_0.out ?_
                  rotate_left
                  · intro w' hSw; (try dsimp only at hSw); obtain ⟨r, -⟩ := hSw; obtain ⟨c0, c1, c2, c3, c4, c5, c6, c7, c8, -⟩ := cells9 r; go_simp; (try with_reducible rfl)
                  simp only [Act.put, List.setIfInBounds_toArray, List.set_cons_zero, List.set_cons_succ]
                  refine at_take 2 (v := ?_) rfl (by decide) (by as_aux_lemma => kernel_rfl) (by as_aux_lemma => kernel_rfl) (fun _ _ _ h => h) (Or.inl ⟨by rfl, ?_⟩) HS_0.out ?_
                  rotate_left
                  · intro w' hSw; (try dsimp only at hSw); obtain ⟨-, r⟩ := hSw; obtain ⟨c0, c1, c2, c3, c4, c5, c6, c7, c8, -⟩ := cells9 r; go_simp; (try with_reducible rfl)
                  simp only [Act.put, List.setIfInBounds_toArray, List.set_cons_zero, List.set_cons_succ]
                  refine at_only 1 rfl (by decide) (by as_aux_lemma => kernel_rfl) (by rfl) ?_
                  intro K hK
                  go_simp
                  refine (HL2.out _ HW_0.out).mono ?_
                  rintro _ x1 ⟨ra, rc, rfl, hO, ho, hb⟩
                  have HW_1 := Lib.hid (HW_0.out.trans (hb.mono HW_0.out.size))
                  have HS_1 := Lib.hid (HS.out x1 HW_1.out)
                  have HO1 := Lib.hid hO
                  have HA1 := Lib.hid fun j e => Nat.le_trans HW_0.out.size (ho j e)
                  clear hO ho
                  clear hb
                  go_simp
                  refine hK _ _ HS_1.out ?_
                  clear hK K
                  simp only [Act.put, List.setIfInBounds_toArray, List.set_cons_zero, List.set_cons_succ]
                  refine at_only 3 rfl (by decide) (by as_aux_lemma => kernel_rfl) (by rfl) ?_
                  intro K hK
                  go_simp
                  refine (HL3.out _ HW_1.out).mono ?_
                  rintro _ x2 ⟨rb, rd, rfl, hO, ho, hb⟩
                  have HW_2 := Lib.hid (HW_1.out.trans (hb.mono HW_1.out.size))
                  have HS_2 := Lib.hid (HS.out x2 HW_2.out)
                  have HO2 := Lib.hid hO
                  have HO12 := Lib.hid (OR.chg HO1.out (F := fun _ => False) (Chg.of_below hb) (fun _ _ f => f))
                  clear hO ho
                  clear hb
                  go_simp
                  refine hK _ _ HS_2.out ?_
                  clear hK K
                  simp only [Act.put, List.setIfInBounds_toArray, List.set_cons_zero, List.set_cons_succ]
                  refine at_tail rfl (by as_aux_lemma => kernel_rfl) ?_
                  simp only [List.drop_succ_cons, List.drop_zero]
                  go_wp2_with (at_builtin; go_must (refine wpList_append_or ApB.eLB rfl (.tmp 158) (.tmp 160) rfl rfl HO12.out rfl (m := n3) (news := es3.map Lst.val) HO2.out.form.1 (news_or HO2.out) (vals_one _) (by show (n2 + n3) * 24 ≤ _; omega) (by omega) ?_)
                               intro lx cx U14 hO hC hbx _
                               have HU14 := Lib.hid (show Below U13.heap.size U13 U14 from HW_2.out.trans (hC.below HW_2.out.size HA1.out))
                               have HA14 := Lib.hid (show ∀ j, blk lx = some j → U13.heap.size ≤ j from fun j e => by
                                 rcases hbx with h9 | h9
                                 · exact HA1.out j (h9 ▸ e)
                                 · rw [h9] at e; cases e; exact HW_2.out.size)
                               have HO14 := Lib.hid hO
                               clear hO hC hbx
                               obtain ⟨c0, c1, c2, c3, c4, c5, c6, c7, c8, -⟩ := cells9 ((HU14.out.block _ (rlt_of_heapP HR4_13.out)).trans HR4_13.out))
                  have hn23 : n2 + n3 ≤ 40 := by omega
                  generalize n2 + n3 = n23 at HO14 hn23 ⊢
                  clear HS HW_0 HW_1 HW_2 HS_0 HS_1 HS_2 HO1 HO2 HO12 HA1
                  clear c0 c1 c2 c3 c4 c5 c6 c7 c8
                  refine (HL4.out _ HU14.out).mono ?_
                  rintro _ w15 ⟨rz, ry, rfl, hO, ho, hb⟩
                  have HO4 := Lib.hid hO
                  have HO15 := Lib.hid (OR.chg HO14.out (F := fun _ => False) (Chg.of_below hb) (fun _ _ f => f))
                  have HU15 := Lib.hid (HU14.out.trans (hb.mono HU14.out.size))
                  clear hO ho hb
                  go_wp2_with (at_builtin; go_must (refine wpList_append_or ApB.eLB rfl (.tmp 162) (.tmp 164) rfl rfl HO15.out rfl (m := n4) (news := es4.map Lst.val) HO4.out.form.1 (news_or HO4.out) (vals_one _) (by show (n23 + n4) * 24 ≤ _; omega) (by omega) ?_)
                               intro ly cy U16 hO hC hbx _
                               have HU16 := Lib.hid (show Below U13.heap.size U13 U16 from HU15.out.trans (hC.below HU15.out.size HA14.out))
                               have HA16 := Lib.hid (show ∀ j, blk ly = some j → U13.heap.size ≤ j from fun j e => by
                                 rcases hbx with h9 | h9
                                 · exact HA14.out j (h9 ▸ e)
                                 · rw [h9] at e; cases e; exact HU15.out.size)
                               have HO16 := Lib.hid (show OR ApB.eLB U16 ly cy (n23 + n4) ((es2 ++ es3 ++ es4).map Lst.val) from by rw [List.map_append, List.map_append]; exact hO)
                               clear hO hC hbx)
                  generalize n23 + n4 = nn at HO16 ⊢
                  have hq4 : q4 < U13.heap.size := rlt_of_heapP HR4_13.out
                  have hlh2 := HZ2_13.out.lh
                  have hlh3 := HZ3_13.out.lh
                  have hlh4 := HZ4_13.out.lh
                  have hq34 := rlt_of_heapP HR3_11K.out
                  have hz1 := HZ1_11K.out.lh
                  refine (HAP.out U16 HU16.out ly cy nn HO16.out (fun j e => Nat.le_trans (Nat.le_of_lt hq4) (HA16.out j e))).mono ?_
                  rintro _ U17 ⟨rfl, hC17, hl2, hl3, hl4⟩
                  have HB17 := Lib.hid ((HBL_13.out.trans (HU16.out.mono HBL_13.out.size)).trans (hC17.below (Nat.le_trans HBL_13.out.size HU16.out.size) (fun k hk => by rcases hk with hk | hk | hk <;> omega)))
                  have hr2 := (hC17.block q2 (Nat.lt_of_lt_of_le (rlt_of_heapP HR2_13.out) HU16.out.size) (fun hk => by rcases hk with hk | hk | hk <;> omega)).trans ((HU16.out.block q2 (rlt_of_heapP HR2_13.out)).trans HR2_13.out)
                  have hr3 := (hC17.block q3 (Nat.lt_of_lt_of_le (rlt_of_heapP HR3_13.out) HU16.out.size) (fun hk => by rcases hk with hk | hk | hk <;> omega)).trans ((HU16.out.block q3 (rlt_of_heapP HR3_13.out)).trans HR3_13.out)
                  have hr4 := (hC17.block q4 (Nat.lt_of_lt_of_le (rlt_of_heapP HR4_13.out) HU16.out.size) (fun hk => by rcases hk with hk | hk | hk <;> omega)).trans ((HU16.out.block q4 (rlt_of_heapP HR4_13.out)).trans HR4_13.out)
                  have hq417 : q4 ≤ U17.heap.size := Nat.le_trans (Nat.le_of_lt hq4) (Nat.le_trans HU16.out.size hC17.size)
                  obtain ⟨-, -, -, -, -, -, -, x7, -, -⟩ := cells9 hr2
                  obtain ⟨-, -, -, -, -, -, -, y7, -, -⟩ := cells9 hr3
                  obtain ⟨-, -, -, -, -, -, -, z7, -, -⟩ := cells9 hr4
                  have ha := one_below U17 (.cells #[.slice la2 mA lc2, .slice la3 mA lc3, .slice la4 mC lc4] 33)
                  have HAI := Lib.hid (apint3 (lA := A.l) (lC := C.l) (U17.alloc (.cells #[.slice la2 mA lc2, .slice la3 mA lc3, .slice la4 mC lc4] 33)) (OR.chg hl2 (F := fun _ => False) (Chg.of_below ha) (fun _ _ f => f)) (OR.chg hl3 (F := fun _ => False) (Chg.of_below ha) (fun _ _ f => f)) (OR.chg hl4 (F := fun _ => False) (Chg.of_below ha) (fun _ _ f => f))
                    HZ2_13.out.ll HZ3_13.out.ll HZ4_13.out.ll hlh2 (Nat.le_of_lt hle2) hlh3 (Nat.le_of_lt hq34) hlh4 HOK.out.2.2 HOKC.out.2.2 U17.heap.size hq417 (by rw [HFA.out.2.2, HFC.out]; exact heap_alloc_new U17 _))
                  have HB18 := Lib.hid (HB17.out.trans (ha.mono HB17.out.size))
                  have hWU : W1.heap.size ≤ U1.heap.size := by omega
                  have HB19 := Lib.hid fun (w9 : World) (h : Chg (In3 U1.heap.size q2 U2.heap.size q3 U11.heap.size q4) (U17.alloc (.cells #[.slice la2 mA lc2, .slice la3 mA lc3, .slice la4 mC lc4] 33)) w9) => (show Below W.heap.size W w9 from HBW.out.trans ((HB18.out.trans (h.below HB18.out.size (fun k hk => by rcases hk with hk | hk | hk <;> omega))).mono HBW.out.size))
                  clear ha hl2 hl3 hl4 hr2 hr3 hr4 hC17 HAP HO16 HA16 hlh2 hlh3 hlh4 hq34 hz1 hq4 hq417 hWU
                  go_wp2_with fail
                  refine HAI.out.mono ?_
                  rintro _ w9 ⟨rfl, hC18⟩
                  have HEND := Lib.hid (HB19.out w9 hC18)
                  clear hC18 x7 y7 z7
                  go_wp2_with fail
                  go_roundw
                  case rel => exact ⟨k + 1, HJ.out, by go_num, HEND.out⟩
                  case measure => exact meas_upL HJ.out
    · obtain rfl : k = m := by omega
      go_wp2_with fail
      go_ret
      exact ⟨rfl, HB.out⟩
end Go.Proofs.Ytkjgncmbhkhbnaa
