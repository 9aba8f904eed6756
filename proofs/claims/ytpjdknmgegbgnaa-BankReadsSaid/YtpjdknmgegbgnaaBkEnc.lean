/- A bank's Encode. -/
import Derived.Test.YtpjdknmgegbgnaaBkR
namespace Go.Proofs.Ytpjdknmgegbgnaa
open Go.RowKit
set_option linter.unusedVariables false
set_option maxRecDepth 100000

theorem wp_load_whole {o : Oper} {a : Act} {w : World} {next : Act → World → Prop} {Q : Exit → Act → World → Prop} {ty : TypeId} {s t : Nat} {v : Value} (hop : o.op = .load ty (.tmp s)) (he : a.eval (.tmp s) = .pointer (some ⟨t, 0, none⟩))
    (hld : (loadVar ty ⟨t, 0, none⟩).run Try.prog w = .ok v w) (h : next (a.put o.dst v) w) : Oper.wp Try.prog o a w next Q := by
  have hr : (execOp a.eval o).run Try.prog w = .ok (.value v) w := by
    simp [execOp, hop, he, Instr.loadAt, Instr.sureAddr, hld, Result.andThen]
  unfold Oper.wp
  rw [hr]
  exact h
theorem encodeB_early (gen : Int) (cs : List Int) (a : Option Addr) (cap : Nat) (w : World) (h : (gen < 0 ∨ 1099511627776 < gen) ∨ (¬ (gen < 0 ∨ 1099511627776 < gen) ∧ 65536 < cs.length)) (hl : cs.length ≤ 9223372036854775807) :
    Calls Try.prog 11 #[.int .i64 gen, .slice a cs.length cap] w (EncB (benc gen cs) w) := by
  rcases h with h | ⟨h, h2⟩
  · have HE := Lib.hid (show benc gen cs = (1, []) by unfold benc; rw [if_pos h])
    rw [HE.out]
    generalize cs.length = n at *
    rcases h with h | h
    · go_enter Try.func11, Try.ntmps11
      go_wp2_with fail
      refine bodyPost_ret (v := .tuple #[.slice none 0 0, .int .i64 1]) (by simp [results, Try.results11, go_sem]) rfl ?_
      exact encB_no (Below.refl _ _)
    · have h3 : ¬ gen < 0 := by omega
      go_enter Try.func11, Try.ntmps11
      go_wp2_with fail
      refine bodyPost_ret (v := .tuple #[.slice none 0 0, .int .i64 1]) (by simp [results, Try.results11, go_sem]) rfl ?_
      exact encB_no (Below.refl _ _)
  · have HE := Lib.hid (show benc gen cs = (4, []) by unfold benc; rw [if_neg h, if_pos h2])
    rw [HE.out]
    have h3 : ¬ gen < 0 := by omega
    have h4 : ¬ 1099511627776 < gen := by omega
    generalize cs.length = n at *
    have h5 : (65536 : Int) < (n : Int) := by omega
    clear h
    go_enter Try.func11, Try.ntmps11
    go_wp2_with fail
    refine bodyPost_ret (v := .tuple #[.slice none 0 0, .int .i64 4]) (by simp [results, Try.results11, go_sem]) rfl ?_
    exact encB_no (Below.refl _ _)
def okC (c : Int) : Prop := 0 ≤ c ∧ c < 65536
def RelC1 (cs : List Int) (v : Value) : Prop := ∃ k : Nat, k ≤ cs.length ∧ v = .int .i64 k ∧ ∀ j, j < k → okC (cs.getD j 0)
def RelEc (W : World) (gen : Nat) (cs : List Int) (n : Nat) (o v : Value) (wr : World) : Prop :=
  ∃ (j : Nat) (la : Option Addr) (lc : Nat) (rs : List Row), j ≤ n ∧ v = .int .i64 j ∧ o = .slice la j lc ∧ rs.map (·.1) = rowsB gen cs j ∧ Rws W.heap.size wr.heap.size wr la lc rs ∧ Below W.heap.size W wr
theorem relEc_next {W : World} {gen : Nat} {cs : List Int} {n j hi m : Nat} {w w' : World} {la la' oa : Option Addr} {lc lc' oc : Nat} {rs : List Row} {b : List UInt8} (hj : j < n) (hrs : rs.map (·.1) = rowsB gen cs j) (h : Rws W.heap.size hi w la lc rs) (hB : Below W.heap.size W w) (hlat : ∀ k, blk la = some k → k < hi)
    (hb : b = blk1 gen j cs.length (part (cs.map Int.toNat) j)) (hm : b.length = m) (hr : OB w oa oc b) (hu : ∀ k, blk oa = some k → hi ≤ k) (hO : OR eSl w' la' lc' (j + 1) (cellsRw rs ++ [.slice oa m oc])) (hC : Chg (fun k => blk la = some k) w w') (hbk : blk la' = blk la ∨ blk la' = some w.heap.size) {i : Value} (hi' : i = .int .i64 ((j + 1 : Nat) : Int)) :
    RelEc W gen cs n (.slice la' (j + 1) lc') i w' := by
  subst hi'
  have hl : rs.length = j := by have := congrArg List.length hrs; rw [List.length_map, rowsB_length] at this; exact this
  have hI := h.snoc (r := (b, oa, oc)) (hi2 := w.heap.size) hr (fun k e => ⟨hu k e, hr.lt k e⟩) h.top (Nat.le_refl _) hlat (by rw [hl]; unfold cellR; simp only [hm]; exact hO) hC hbk
  refine ⟨j + 1, la', lc', rs ++ [(b, oa, oc)], hj, rfl, rfl, by rw [List.map_append, hrs, rowsB_snoc, hb]; rfl, hI.hi hC.size (Nat.le_refl _), hB.trans (hC.below hB.size (fun k e => h.lob k e))⟩
def RelIn (W : World) (t : Nat) (ps : List Nat) (m : Nat) (v : Value) (wr : World) : Prop :=
  ∃ k : Nat, k ≤ m ∧ v = .int .i64 k ∧ CBox wr t (filled ps k) ∧ Chg (fun j => j = t) W wr
def zs240 : List Nat := List.replicate 240 0
theorem zero240 : (Try.prog.info? 47).map (fun i => (i.zero, i.size)) = some (some (.agg (cells16 zs240).toArray), 240) := by kernel_rfl
set_option maxHeartbeats 2000000 in
theorem encodeB_bad (gen : Nat) (hg : gen ≤ 1099511627776) (cs : List Int) (a : Option Addr) (cap : Nat) (w : World) (hn : cs.length ≤ 65536) (hb : Nts w a cs) :
    Calls Try.prog 11 #[.int .i64 (gen : Int), .slice a cs.length cap] w (EncB (benc gen cs) w) := by
  have HNT := Lib.hid hb
  obtain ⟨n, hnl⟩ : ∃ n, cs.length = n := ⟨_, rfl⟩
  rw [hnl] at hn ⊢
  have HL := Lib.hid hnl
  clear hb hnl
  go_enter Try.func11, Try.ntmps11
  go_wp2_with fail
  go_loop [23] (RelC1 cs) (fun i => n - (intOf i).toNat)
  case atStart => exact ⟨0, Nat.zero_le _, rfl, fun j hj => absurd hj (Nat.not_lt_zero j)⟩
  case round =>
    obtain ⟨k, hk, rfl, hok⟩ := hrel
    rw [HL.out] at hk
    by_cases hkn : k < n
    · obtain ⟨b, off, rfl, -, hc⟩ := HNT.out.at (k := k) (by rw [HL.out]; exact hkn)
      by_cases hgood : okC (cs.getD k 0)
      · have Hok := Lib.hid (show ∀ j, j < k + 1 → okC (cs.getD j 0) from fun j hj => by
          rcases Nat.lt_succ_iff_lt_or_eq.1 hj with hj | rfl
          · exact hok j hj
          · exact hgood)
        obtain ⟨g1, g2⟩ := hgood
        have g3 : ¬ (cs.getD k 0) < 0 := by omega
        have g4 : ¬ (65536 : Int) ≤ cs.getD k 0 := by omega
        generalize cs.getD k 0 = c at *
        have HJ := Lib.hid hkn
        clear hok
        go_wp2_with fail
        go_round
        case rel => exact ⟨k + 1, by rw [HL.out]; exact HJ.out, by go_num, Hok.out⟩
        case measure => exact meas_up HJ.out
      · have HE := Lib.hid (show benc gen cs = (13, []) by
          unfold benc
          rw [if_neg (by omega), if_neg (by rw [HL.out]; omega), if_pos]
          rw [List.any_eq_true]
          refine ⟨cs.getD k 0, ?_, ?_⟩
          · rw [List.getD_eq_getElem?_getD, List.getElem?_eq_getElem (by rw [HL.out]; exact hkn)]
            exact List.getElem_mem _
          · unfold okC at hgood
            exact decide_eq_true (by omega))
        unfold okC at hgood
        rw [HE.out]
        generalize cs.getD k 0 = c at *
        clear hok
        by_cases hc0 : c < 0
        · go_wp2_with fail
          refine bodyPost_ret (v := .tuple #[.slice none 0 0, .int .i64 13]) (by simp [results, Try.results11, go_sem]) rfl ?_
          exact encB_no (Below.refl _ _)
        · have hc1 : (65536 : Int) ≤ c := by omega
          clear hgood
          go_wp2_with fail
          refine bodyPost_ret (v := .tuple #[.slice none 0 0, .int .i64 13]) (by simp [results, Try.results11, go_sem]) rfl ?_
          exact encB_no (Below.refl _ _)
    · obtain rfl : k = n := by omega
      have HE := Lib.hid (show benc gen cs = (0, rowsB gen cs (nblocks k)) by
        unfold benc
        rw [if_neg (by omega), if_neg (by rw [HL.out]; omega), if_neg]
        · rw [HL.out, Int.toNat_natCast]; unfold rowsB; rw [HL.out]
        · intro h
          rw [List.any_eq_true] at h
          obtain ⟨c, hc, hd⟩ := h
          obtain ⟨i, hi⟩ := List.mem_iff_getElem?.1 hc
          have h1 := hok i (by rw [← HL.out]; exact (List.getElem?_eq_some_iff.1 hi).1)
          rw [List.getD_eq_getElem?_getD, hi] at h1
          have h2 := of_decide_eq_true hd
          unfold okC at h1
          simp only [Option.getD_some] at h1
          omega)
      have HOK := Lib.hid hok
      have HNB := Lib.hid (show nblocks k * 240 ≤ k + 239 ∧ nblocks k ≤ 274 by unfold nblocks; omega)
      have HBL := Lib.hid fun w1 => blocks_any (k : Int) (by omega) w1
      rw [Int.toNat_natCast] at HBL
      clear hok hkn
      go_wp2_with fail
      refine (HBL.out _).mono ?_
      rintro _ wx ⟨rfl, e0⟩
      rw [e0]
      clear e0 wx
      have hnb1 := HNB.out.1
      have hnb2 := HNB.out.2
      generalize hnn : nblocks k = nb at *
      clear hnn
      go_wp2_with fail
      go_loopw [8, 37] (fun o v wr => RelEc w gen cs nb o v wr) (fun _ v _ => nb - (intOf v).toNat)
      case atStart => exact ⟨0, none, 0, [], Nat.zero_le _, rfl, rfl, rfl, Rws.nil (Nat.le_refl _), Below.refl _ _⟩
      case round =>
        obtain ⟨j, la, lc, rs, hj, rfl, rfl, hrs, hR, hB⟩ := hrel
        by_cases hjn : j < nb
        · have HR := Lib.hid hR
          have HB := Lib.hid hB
          have HRS := Lib.hid hrs
          have HJ := Lib.hid hjn
          have hj240 : j * 240 ≤ k := by omega
          have HOF := Lib.hid fun w1 => of_any k j hn hj240 w1
          clear hR hB hrs hj
          have hz := fun w1 => (zero_of_info zero240).1 w1
          have HLT := Lib.hid HR.out.own.lt
          have HZL := Lib.hid (show rs.length = j by have := congrArg List.length HRS.out; rw [List.length_map, rowsB_length] at this; exact this)
          have HA1 := Lib.hid (one_below wr (.cells (cells16 zs240).toArray 47))
          obtain ⟨ps, hps⟩ : ∃ ps, part (cs.map Int.toNat) j = ps := ⟨_, rfl⟩
          have HPS := Lib.hid hps
          obtain ⟨m, hm⟩ : ∃ m, inBlk k j = m := ⟨_, rfl⟩
          have hm240 : m ≤ 240 := by rw [← hm]; exact inBlk_le _ _
          have hmk : j * 240 + m ≤ k := by rw [← hm]; unfold inBlk; omega
          have HPL := Lib.hid (show ps.length = m by rw [← hps, part_length, List.length_map, HL.out, hm])
          rw [hm] at HOF
          have HM := Lib.hid hm
          have HC1 := Lib.hid (show CBox (wr.alloc (.cells (cells16 zs240).toArray 47)) wr.heap.size (filled ps 0) from ⟨_, by rw [heap_alloc_new]; unfold filled; rfl⟩)
          clear hm hps
          go_wp2_with fail
          generalize wr.alloc (.cells (cells16 zs240).toArray 47) = W1 at HA1 HC1 ⊢
          have HTW := Lib.hid (HC1.out.lt)
          have HR1 := Lib.hid (HR.out.below HA1.out)
          generalize htt : wr.heap.size = t at *
          have HT := Lib.hid htt
          clear htt hz
          refine (HOF.out _).mono ?_
          rintro _ wx ⟨rfl, e0⟩
          rw [e0]
          clear e0 wx HOF
          go_wp2_with fail
          go_loopw [44] (fun v wr2 => RelIn W1 t ps m v wr2) (fun v _ => m - (intOf v).toNat)
          case atStart => exact ⟨0, Nat.zero_le _, rfl, HC1.out, Chg.refl _ _⟩
          case round =>
            clear HC1
            obtain ⟨k2, hk2, rfl, hC, hG⟩ := hrel
            have hBW : Below w.heap.size w W1 := HB.out.trans (HA1.out.mono (by have := HB.out.size; have := HT.out; omega))
            have htw : w.heap.size ≤ t := by have := HB.out.size; have := HT.out; omega
            have hB2 := hBW.trans (hG.below hBW.size (fun q e => by omega))
            by_cases hkm : k2 < m
            · obtain ⟨q, hq⟩ : ∃ q, j * 240 + k2 = q := ⟨_, rfl⟩
              have hqk : q < k := by omega
              have hqI : (j : Int) * 240 + (k2 : Int) = (q : Int) := by omega
              obtain ⟨b, off, rfl, -, hcell⟩ := (HNT.out.below hB2).at (k := q) (by rw [HL.out]; exact hqk)
              obtain ⟨g1, g2⟩ := HOK.out q hqk
              obtain ⟨x, hxx⟩ := Int.eq_ofNat_of_zero_le g1
              have HPX := Lib.hid (show ps[k2]? = some x by
                rw [← HPS.out]
                unfold part
                rw [List.getElem?_take_of_lt (by omega), List.getElem?_drop, hq, List.getElem?_map]
                rw [List.getD_eq_getElem?_getD] at hxx
                rw [List.getElem?_eq_getElem (by rw [HL.out]; exact hqk)] at hxx ⊢
                simp only [Option.getD_some] at hxx
                simp only [Option.map_some]
                rw [hxx]; rfl)
              rw [hxx] at hcell g2
              have hx16 : x < 65536 := by omega
              have hft := hC.cell (k := k2) (by rw [filled_length (by rw [HPL.out]; omega) (by omega)]; omega)
              have hff := hC.free k2
              have hk240 : (k2 : Int) < 240 := by omega
              have HST := Lib.hid (show CBox (wr.setCell ⟨t, k2, none⟩ (.int .u16 (x : Int))) t (filled ps (k2 + 1)) by rw [← filled_set HPX.out (by omega)]; exact hC.set k2 x)
              have HGG := Lib.hid hG
              have HJ2 := Lib.hid hkm
              have hxw : IntKind.u16.wrap (x : Int) = (x : Int) := by simp [IntKind.wrap, IntKind.signed, IntKind.bits]; omega
              clear hC hG hB2 hBW hq hxx g1 g2
              go_wp2_with fail
              go_roundw
              case rel => exact ⟨k2 + 1, HJ2.out, by go_num, HST.out, HGG.out.setCell ⟨t, k2, none⟩ _ (fun _ => rfl)⟩
              case measure => exact meas_up HJ2.out
            · obtain rfl : k2 = m := by omega
              have HGG := Lib.hid hG
              have HB2 := Lib.hid hB2
              have hfl : (filled ps k2).length = 240 := filled_length (by rw [HPL.out]; exact Nat.le_refl _) hm240
              have HFX := Lib.hid (show ∀ v ∈ filled ps k2, v < 65536 by
                intro v hv
                unfold filled at hv
                rcases List.mem_append.1 hv with hv | hv
                · have hv := List.mem_of_mem_take hv
                  rw [← HPS.out] at hv
                  obtain ⟨c, hc, rfl⟩ := List.mem_map.1 (List.mem_of_mem_drop (List.mem_of_mem_take hv))
                  obtain ⟨i, hi⟩ := List.mem_iff_getElem?.1 hc
                  have h1 := HOK.out i (by rw [← HL.out]; exact (List.getElem?_eq_some_iff.1 hi).1)
                  rw [List.getD_eq_getElem?_getD, hi] at h1
                  simp only [Option.getD_some] at h1
                  obtain ⟨h1, h2⟩ := h1
                  omega
                · rw [List.eq_of_mem_replicate hv]; decide)
              have HLD := Lib.hid (show laidB gen k j (filled ps k2) = blk1 gen j k ps by unfold laidB; rw [HM.out, filled_all HPL.out])
              have hCC := hC
              obtain ⟨TT, hrow⟩ := hC
              have hld : (loadVar 47 ⟨t, 0, none⟩).run Try.prog wr = .ok (.agg (cells16 (filled ps k2)).toArray) wr :=
                run_loadVar_row _ _ TT 47 (cells16 (filled ps k2)).toArray (0, 0) _ hrow Try.underlying47 rfl (by rw [show (cells16 (filled ps k2)).toArray.size = 240 by simp [cells16_length, hfl]]; kernel_rfl)
              have H := Lib.hid (laid_any gen k j (filled ps k2) hfl HFX.out hg hn hj240 wr)
              rw [HLD.out] at H
              generalize filled ps k2 = fl at *
              clear hG hB2 hBW hkm
              have HLD2 := Lib.hid hld
              clear hld hrow TT
              go_wp2_with fail
              refine wp_load_whole rfl rfl HLD2.out ?_
              go_wp2_with fail
              refine H.out.mono ?_
              clear H
              rintro _ w5 ⟨oa, oc, rfl, hO5, ho5, hb5⟩
              have hs5 : t < wr.heap.size := hCC.lt
              have HR5 := Lib.hid ((HR1.out.chg HGG.out (fun q e f => by have := HLT.out q e; omega) (fun a ha q e f => by have := (HR1.out.up.mem a ha q e).2; omega)).below hb5)
              have HB5 := Lib.hid (HB2.out.trans (hb5.mono HB2.out.size))
              have ha6 := one_below w5 (.cells #[.slice oa 512 oc] 32)
              have HR6 := Lib.hid (HR5.out.below ha6)
              have HB6 := Lib.hid (HB5.out.trans (ha6.mono HB5.out.size))
              have HO6 := Lib.hid (hO5.below ha6)
              have HU6 := Lib.hid fun q e => Nat.le_trans (Nat.le_of_lt hs5) (ho5 q e)
              have HNW := Lib.hid (cell_new w5 (.slice oa 512 oc) 32)
              have HB12 := Lib.hid (blk1_length (gen := gen) (i := j) (n := k) (xs := ps) (by rw [HPL.out]; exact hm240))
              have HOL := Lib.hid (show OR eSl (w5.alloc (.cells #[.slice oa 512 oc] 32)) la lc j (cellsRw rs) by have := HR6.out.own; rwa [HZL.out] at this)
              clear hO5 ho5 hb5 ha6 HGG HB2 HR5 HB5 hCC
              go_wp2_with (at_builtin; go_must (refine wpList_append_or eSl rfl (.tmp 58) (.tmp 65) rfl rfl HOL.out rfl (m := 1) (news := [.slice oa 512 oc]) rfl (.inr ⟨_, rfl, HNW.out⟩) (by simp [Value.oneCell']) (by show (j + 1) * 24 ≤ _; omega) (by omega) ?_)
                           intro la2 lc2 w7 hO7 hC7 hb7 _)
              go_roundw
              case rel => exact relEc_next HJ.out HRS.out HR6.out HB6.out HLT.out (by rw [HL.out, HPS.out]) HB12.out HO6.out HU6.out hO7 hC7 hb7 (by go_num)
              case measure => exact meas_up HJ.out
        · obtain rfl : j = nb := by omega
          have HF := Lib.hid (show EncB (0, rowsB gen cs j) w (.returned (.tuple #[.slice la j lc, .int .i64 0])) wr from ⟨la, lc, rs, by simp only [rowsB_length], hrs, hR, hB⟩)
          clear hrs hR hB
          go_wp2_with fail
          refine bodyPost_ret (v := .tuple #[.slice la j lc, .int .i64 0]) (by simp [results, Try.results11, go_sem]) rfl ?_
          rw [HE.out]
          exact HF.out
theorem encodeB_any (gen : Int) (cs : List Int) (a : Option Addr) (cap : Nat) (w : World) (hl : cs.length ≤ 9223372036854775807) (hb : Nts w a cs) :
    Calls Try.prog 11 #[.int .i64 gen, .slice a cs.length cap] w (EncB (benc gen cs) w) := by
  by_cases h1 : gen < 0 ∨ 1099511627776 < gen
  · exact encodeB_early gen cs a cap w (.inl h1) hl
  by_cases h2 : 65536 < cs.length
  · exact encodeB_early gen cs a cap w (.inr ⟨h1, h2⟩) hl
  obtain ⟨g, rfl⟩ := Int.eq_ofNat_of_zero_le (show 0 ≤ gen by omega)
  exact encodeB_bad g (by omega) cs a cap w (by omega) hb
end Go.Proofs.Ytpjdknmgegbgnaa
