/- The walk of PageTells. -/
import Derived.Test.YtkjgncmbhkhbnaaPTell
import Derived.StillTailTactics
namespace Go.Proofs.Ytkjgncmbhkhbnaa
open Go.RowKit
set_option linter.unusedVariables false
set_option maxRecDepth 100000

/-- the box of what is to be turned -/
structure TB (w0 : World) (fr bits : Int) (w : World) : Prop where
  row : w.heap[w0.heap.size]? = some (.cells #[.int .i64 fr, .int .u32 bits] 58)
  bel : Below w0.heap.size w0 w
theorem TB.below {w0 w w2 : World} {fr bits : Int} (h : TB w0 fr bits w) (hb : Below w.heap.size w w2) : TB w0 fr bits w2 := ⟨(hb.block _ (rlt_of_heapP h.row)).trans h.row, h.bel.trans (hb.mono h.bel.size)⟩
theorem TB.cells {w0 w : World} {fr bits : Int} (h : TB w0 fr bits w) : w.cell? ⟨w0.heap.size, 0, none⟩ = some (.int .i64 fr) ∧ w.cell? ⟨w0.heap.size, 1, none⟩ = some (.int .u32 bits) := by
  simp [World.cell?, h.row]
theorem TB.start (w : World) (fr bits : Int) : TB w fr bits (w.alloc (.cells #[.int .i64 fr, .int .u32 bits] 58)) := ⟨heap_alloc_new _ _, one_below _ _⟩
theorem TB.set {w0 w : World} {fr bits : Int} (h : TB w0 fr bits w) {g : Nat} (hg : w0.heap.size < g) (q : Nat) (v : Value) : TB w0 fr bits (w.setCell ⟨g, q, none⟩ v).drew :=
  TB.below (w := w.setCell ⟨g, q, none⟩ v) ⟨((Chg.set w ⟨g, q, none⟩ v).block _ (rlt_of_heapP h.row) (by simp only; omega)).trans h.row, h.bel.setCell (Nat.le_of_lt hg) _⟩ (Below.refl _ _).drew
/-- where the rounds of the loop stand -/
def RelTl (w0 : World) (bs : List UInt8) (fr bits g cap : Nat) (v : Value) (wr : World) : Prop :=
  ∃ (k : Nat) (cs : List UInt8), k ≤ 32 ∧ v = .int .i64 k ∧ OB wr (some ⟨g, 0, none⟩) cap cs ∧ TB w0 fr bits wr ∧ cs.length = bs.length ∧
    Crc.le cs = Crc.le bs ^^^ (bits % 2 ^ k * 2 ^ fr) ∧ (bits % 2 ^ k ≠ 0 → fr < 8 * bs.length)

set_option maxHeartbeats 1000000 in
theorem pageTells_bts (no : Int) (a : Option Addr) (bs : List UInt8) (cap : Nat) (fr : Int) (m : Nat) (W : World) (hl : bs.length ≤ cap) (hm : m < 4294967296) (hfr : fr ≤ 9223372036854775807) (hb : Bts W a bs) :
    Calls Try.prog 9 #[.int .i64 no, .slice a bs.length cap, .agg #[.int .i64 fr, .int .u32 m]] W fun e w' => e = .returned (.bool true) ∧ Below W.heap.size W w' := by
  have HD := Lib.hid fun w1 (h : Below W.heap.size W w1) => pDecode_any no a cap bs w1 (hb.below h) hl
  unfold DecdP at HD
  have HCB := Lib.hid fun (hl : bs.length ≤ 140737488355328) w1 (h : Below W.heap.size W w1) => copyBytes_any a cap bs hl w1 (hb.below h)
  unfold NewB at HCB
  have HTB := Lib.hid (TB.start W fr m)
  obtain ⟨⟨e, p, gen⟩, hpd⟩ : ∃ r, pdec no bs = r := ⟨_, rfl⟩
  rw [hpd] at HD
  simp only at HD
  by_cases he : e ≠ 0
  · have hed : (e != 0) = true := by rw [bne_iff_ne]; exact he
    generalize bs.length = bl at *
    obtain ⟨kd, lv, its, ds, nx⟩ := p
    simp only [pgv_rowT] at HD
    generalize its.length = il at *
    generalize ds.length = dl at *
    clear HCB hpd he hb hl
    go_enter Try.func9, Try.ntmps9
    go_wp2_with fail
    refine (fixed_any _).mono ?_
    rintro _ w1 ⟨rfl, hb1⟩
    have HT1 := Lib.hid (HTB.out.below hb1)
    clear hb1 HTB
    go_wp2_with fail
    refine (HD.out _ HT1.out.bel).mono ?_
    rintro _ w2 ⟨ia, ic, da, dc, rfl, -, hb2⟩
    have HT2 := Lib.hid ((HT1.out.below hb2).below (one_below w2 (.cells #[.int .i64 kd, .int .i64 lv, .slice ia il ic, .slice da dl dc, .int .i64 nx] 27)))
    clear hb2 HT1 HD
    go_wp2_with fail
    go_ret
    exact ⟨rfl, HT2.out.bel⟩
  obtain rfl : e = 0 := Decidable.not_not.1 he
  clear he
  obtain ⟨-, h512, -⟩ := pdec_sum hpd
  have HPT := Lib.hid fun (cs : List UInt8) m f hl hm h0 hf hle => pdec_turned (cs := cs) (m := m) (f := f) hpd hl hm h0 hf hle
  have HD2 := Lib.hid fun (cs : List UInt8) g oc w1 (hO : OB w1 (some ⟨g, 0, none⟩) oc cs) => pDecode_any no (some ⟨g, 0, none⟩) oc cs w1 hO.bts hO.cap.1
  unfold DecdP at HD2
  have HCB := Lib.hid (HCB.out (by omega))
  rw [h512] at HCB hl ⊢
  simp only [h512] at HD
  have H5 := Lib.hid h512
  clear hb hpd
  obtain ⟨kd, lv, its, ds, nx⟩ := p
  simp only [pgv_rowT] at HD
  generalize its.length = il at *
  generalize ds.length = dl at *
  by_cases hm0 : m = 0
  · have hmd : ((m : Int) == 0) = true := by rw [beq_iff_eq]; omega
    clear hm0
    go_enter Try.func9, Try.ntmps9
    go_wp2_with fail
    refine (fixed_any _).mono ?_
    rintro _ w1 ⟨rfl, hb1⟩
    have HT1 := Lib.hid (HTB.out.below hb1)
    clear hb1 HTB
    go_wp2_with fail
    refine (HD.out _ HT1.out.bel).mono ?_
    rintro _ w2 ⟨ia, ic, da, dc, rfl, -, hb2⟩
    have HT2 := Lib.hid ((HT1.out.below hb2).below (one_below w2 (.cells #[.int .i64 kd, .int .i64 lv, .slice ia il ic, .slice da dl dc, .int .i64 nx] 27)))
    clear hb2 HT1 HD
    obtain ⟨t0, t1⟩ := HT2.out.cells
    go_wp2_with fail
    go_ret
    exact ⟨rfl, HT2.out.bel⟩
  have hmd : ((m : Int) == 0) = false := by rw [beq_eq_false_iff_ne]; omega
  by_cases hf0 : fr < 0
  · clear hm0
    go_enter Try.func9, Try.ntmps9
    go_wp2_with fail
    refine (fixed_any _).mono ?_
    rintro _ w1 ⟨rfl, hb1⟩
    have HT1 := Lib.hid (HTB.out.below hb1)
    clear hb1 HTB
    go_wp2_with fail
    refine (HD.out _ HT1.out.bel).mono ?_
    rintro _ w2 ⟨ia, ic, da, dc, rfl, -, hb2⟩
    have HT2 := Lib.hid ((HT1.out.below hb2).below (one_below w2 (.cells #[.int .i64 kd, .int .i64 lv, .slice ia il ic, .slice da dl dc, .int .i64 nx] 27)))
    clear hb2 HT1 HD
    obtain ⟨t0, t1⟩ := HT2.out.cells
    go_wp2_with fail
    go_ret
    exact ⟨rfl, HT2.out.bel⟩
  obtain ⟨f, rfl⟩ := Int.eq_ofNat_of_zero_le (Int.not_lt.1 hf0)
  have HM0 := Lib.hid hm0
  clear hm0
  go_enter Try.func9, Try.ntmps9
  go_wp2_with fail
  refine (fixed_any _).mono ?_
  rintro _ w1 ⟨rfl, hb1⟩
  have HT1 := Lib.hid (HTB.out.below hb1)
  clear hb1 HTB
  go_wp2_with fail
  refine (HD.out _ HT1.out.bel).mono ?_
  rintro _ w2 ⟨ia, ic, da, dc, rfl, -, hb2⟩
  have HT2 := Lib.hid ((HT1.out.below hb2).below (one_below w2 (.cells #[.int .i64 kd, .int .i64 lv, .slice ia il ic, .slice da dl dc, .int .i64 nx] 27)))
  clear hb2 HT1 HD
  obtain ⟨t0, t1⟩ := HT2.out.cells
  go_wp2_with fail
  clear t0 t1
  generalize w2.alloc (.cells #[.int .i64 kd, .int .i64 lv, .slice ia il ic, .slice da dl dc, .int .i64 nx] 27) = w3 at HT2 ⊢
  refine (HCB.out _ HT2.out.bel).mono ?_
  rintro _ w4 ⟨oa, oc, rfl, hO, ho, hb4⟩
  obtain ⟨g, rfl, -, -⟩ := OR.cell (j := 0) (u := .int .u8 ((bs.getD 0 0).toNat : Int)) hO (by
    have h1 : 0 < bs.length := by rw [H5.out]; decide
    simp [cellsB, List.getD_eq_getElem?_getD, List.getElem?_eq_getElem h1])
  have hgW : W.heap.size < g := Nat.lt_of_lt_of_le (rlt_of_heapP HT2.out.row) (ho g rfl)
  have HT4 := Lib.hid (HT2.out.below hb4)
  have HO4 := Lib.hid hO
  clear hO ho hb4 HCB HT2
  go_wp2_with fail
  go_loopw [11] (fun v wr => RelTl W bs f m g oc v wr) (fun i _ => 32 - (intOf i).toNat)
  case atStart => exact ⟨0, bs, Nat.zero_le _, rfl, HO4.out, HT4.out, rfl, by simp [Nat.mod_one], by simp [Nat.mod_one]⟩
  case round =>
    clear HO4 HT4
    obtain ⟨k, cs, hk, rfl, ow, hT, hcl, hle, hin⟩ := hrel
    rw [H5.out] at hcl hin
    have Hle := Lib.hid hle
    have Hin := Lib.hid hin
    have Hcl := Lib.hid hcl
    have HTT := Lib.hid hT
    clear hle hin hcl hT
    obtain ⟨t0, t1⟩ := HTT.out.cells
    by_cases hlt : k < 32
    · have ed : (m : Int) / 2 ^ k = ((m / 2 ^ k : Nat) : Int) := by simp
      have h0 : (0 : Int) ≤ (m : Int) / 2 ^ k := by rw [ed]; exact Int.natCast_nonneg _
      by_cases hodd : m / 2 ^ k % 2 = 0
      · have b1 : ((m : Int) / 2 ^ k % 2 == 1) = false := by rw [ed, beq_eq_false_iff_ne]; omega
        have Hodd := Lib.hid hodd
        clear ed hodd
        go_wp2_with fail
        go_roundw
        case rel => exact ⟨k + 1, cs, by omega, by go_num, ow, HTT.out, by rw [H5.out]; exact Hcl.out, by rw [Crc.bits_keep Hodd.out]; exact Hle.out, by rw [Crc.bits_keep Hodd.out, H5.out]; exact Hin.out⟩
        case measure => simp [intOf]; omega
      · have b1 : ((m : Int) / 2 ^ k % 2 == 1) = true := by rw [ed, beq_iff_eq]; omega
        have Hodd := Lib.hid hodd
        clear ed hodd
        by_cases hout : 4095 < f + k
        · have ho1 : (4095 : Int) - (k : Int) < (f : Int) := by omega
          go_wp2_with fail
          go_ret
          exact ⟨rfl, HTT.out.bel⟩
        · have ho1 : ¬ (4095 : Int) - (k : Int) < (f : Int) := by omega
          go_wp2_with fail
          have et : ((f : Int) + (k : Int)) = ((f + k : Nat) : Int) := by omega
          have ht : (f + k) / 8 < cs.length := by rw [Hcl.out]; omega
          rw [et]
          have htl : f + k ≤ 4095 := by omega
          generalize hfk : f + k = t at et ht htl
          have Hfk := Lib.hid hfk
          obtain ⟨x, hx⟩ := bit_of t
          obtain ⟨hz, hfz⟩ := ow.cell ht
          have Hset := Lib.hid (ow.set ht (cs.getD (t / 8) 0 ^^^ x))
          have Hle2 := Lib.hid (Crc.le_turn cs t ht x hx)
          have wq : IntKind.i64.wrap ((t : Int) / 8) = ((t / 8 : Nat) : Int) := by rw [IntWalk.i64_in _ (by omega)]; omega
          have wr1 : (t : Int) % 8 = ((t % 8 : Nat) : Int) := by omega
          have wr2 : (t : Int).tmod 8 = ((t % 8 : Nat) : Int) := by rw [Int.tmod_eq_emod_of_nonneg (by omega)]; omega
          have wx : (2 : Int) ^ (t % 8) % 256 = (x.toNat : Int) := by rw [hx]; exact pow8_mod (by omega)
          have wb := u8_xor_nat (cs.getD (t / 8) 0).toNat x.toNat (by have := (cs.getD (t / 8) 0).toNat_lt; omega) (by have := x.toNat_lt; omega)
          rw [← UInt8.toNat_xor] at wb
          have hq : t / 8 < 512 := by rw [← Hcl.out]; exact ht
          generalize cs.getD (t / 8) 0 ^^^ x = zx at wb Hset Hle2
          generalize cs.getD (t / 8) 0 = zz at hz wb
          have hr8 : t % 8 < 8 := by omega
          generalize t / 8 = q at wq hz hfz Hset Hle2 hq ht
          generalize t % 8 = r at wr1 wr2 wx hr8 hx
          have hqi : (q : Int) < 512 := by omega
          clear et hfk ow ht hx
          go_still_tail 13, (by kernel_rfl)
          change wpList _ _ _ _ _ wr.drew
          have HW := Lib.hid (show bits .xor .u8 (zz.toNat : Int) ((2 : Int) ^ r % 256) = (zx.toNat : Int) by rw [wx]; exact wb)
          clear wq wr1 wr2 wx wb
          go_wp2_with fail
          go_roundw
          case rel =>
            rw [HW.out]
            refine ⟨k + 1, cs.set q zx, by omega, by go_num, OB.below (w := wr.setCell ⟨g, q, none⟩ (.int .u8 (zx.toNat : Int))) Hset.out (Below.refl _ _).drew, HTT.out.set hgW q _, by rw [List.length_set, H5.out]; exact Hcl.out, ?_, fun _ => by have := Hfk.out; rw [H5.out]; omega⟩
            rw [Hle2.out, Hle.out, Crc.bits_turn f Hodd.out, ← Hfk.out, Nat.xor_assoc]
          case measure => simp [intOf]; omega
    · have hk32 : k = 32 := by omega
      have hmm : m % 2 ^ k = m := by rw [hk32]; exact Nat.mod_eq_of_lt hm
      have HN := HPT.out cs m f (by rw [Hcl.out, H5.out]) hm HM0.out (by rw [H5.out]; exact Hin.out (by rw [hmm]; exact HM0.out)) (by rw [Hle.out, hmm])
      have H6 := HD2.out cs g oc wr ow
      rw [HN, Hcl.out] at H6
      simp only [pgv_rowT, zeroP, List.length_nil] at H6
      have H6 := Lib.hid H6
      clear hk32 hmm HN t0 t1
      go_wp2_with fail
      refine H6.out.mono ?_
      rintro _ w6 ⟨ja, jc, ea, ec, rfl, -, hb6⟩
      have HT6 := Lib.hid ((HTT.out.below hb6).below (one_below w6 (.cells #[.int .i64 0, .int .i64 0, .slice ja 0 jc, .slice ea 0 ec, .int .i64 0] 27)))
      clear hb6 H6
      go_wp2_with fail
      go_ret
      exact ⟨rfl, HT6.out.bel⟩
theorem pageTells_walk (no : Int) (a : Option Addr) (len cap : Nat) (zs : List Int) (fr bits : Int) (W : World) (h0 : (Lit.int .i64 no).wf = true) (hr : IsRow .u8 W a len cap zs) (hc : cap ≤ 140737488351232) (hf : (Lit.int .i64 fr).wf = true) (hbits : (Lit.int .u32 bits).wf = true) :
    Calls Try.prog 9 #[.int .i64 no, .slice a len cap, .agg #[.int .i64 fr, .int .u32 bits]] W fun e w' => e = .returned (.bool true) ∧ Below W.heap.size W w' := by
  have hlc := hr.len_cap
  obtain ⟨bs, rfl, hb⟩ := hr.bts
  obtain ⟨m, rfl, hm⟩ := u32_nat hbits
  exact pageTells_bts no a bs cap fr m W hlc hm (i64_le hf).2 hb
end Go.Proofs.Ytkjgncmbhkhbnaa
