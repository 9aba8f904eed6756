/- The program's Decode. -/
import Derived.Test.YtkjgncmbhkhbnaaPDec0
namespace Go.Proofs.Ytkjgncmbhkhbnaa
open Go.RowKit
set_option linter.unusedVariables false
set_option maxRecDepth 100000

set_option maxHeartbeats 1000000 in
theorem pDecode_early (no : Int) (a : Option Addr) (cap : Nat) (bs : List UInt8) (w : World) (h : isPg no = false ∨ (isPg no = true ∧ bs.length ≠ 512)) :
    Calls Try.prog 31 #[.int .i64 no, .slice a bs.length cap] w (DecdP (pdecP no bs) w) := by
  have HB := Lib.hid (one_below w)
  have HPG := Lib.hid fun w1 => pIsPage_any no w1
  rcases h with h | ⟨h, hl⟩
  · have HE := Lib.hid (show pdecP no bs = (15, zeroP, 0) by unfold pdecP; rw [if_pos h])
    rw [h] at HPG
    rw [HE.out]
    generalize bs.length = n
    go_enter Try.func31, Try.ntmps31
    go_wp2_with (first
      | (go_at_call 42; refine (HPG.out _).mono ?_; rintro _ _ ⟨rfl, rfl⟩))
    refine bodyPost_ret (v := .tuple #[.agg #[.int .i64 0, .int .i64 0, .slice none 0 0, .slice none 0 0, .int .i64 0], .int .i64 0, .int .i64 15]) (by simp [results, Try.results31, go_sem]) rfl ?_
    exact decd_no (HB.out _)
  · have HE := Lib.hid (show pdecP no bs = (16, zeroP, 0) by unfold pdecP; rw [if_neg (by simp [h]), if_pos hl])
    rw [h] at HPG
    rw [HE.out]
    have hl1 : ((bs.length : Int) != 512) = true := by rw [bne_iff_ne]; omega
    generalize bs.length = n at hl1 hl ⊢
    go_enter Try.func31, Try.ntmps31
    go_wp2_with (first
      | (go_at_call 42; refine (HPG.out _).mono ?_; rintro _ _ ⟨rfl, rfl⟩))
    refine bodyPost_ret (v := .tuple #[.agg #[.int .i64 0, .int .i64 0, .slice none 0 0, .slice none 0 0, .int .i64 0], .int .i64 0, .int .i64 16]) (by simp [results, Try.results31, go_sem]) rfl ?_
    exact decd_no (HB.out _)

set_option maxHeartbeats 1000000 in
theorem pDecode_late (no : Int) (a : Option Addr) (cap : Nat) (bs : List UInt8) (w : World) (hpg : isPg no = true) (hl : bs.length = 512) (hb : Bts w a bs) (hcap : bs.length ≤ cap) :
    Calls Try.prog 31 #[.int .i64 no, .slice a bs.length cap] w (DecdP (pdecP no bs) w) := by
  obtain ⟨b0, off, rfl, hbw, -⟩ := hb.at (k := 0) (by omega)
  have HPG := Lib.hid fun w1 => pIsPage_any no w1
  rw [hpg] at HPG
  have hnb : 1 ≤ no ∧ no ≤ 65536 := by simpa [isPg] using hpg
  obtain ⟨no, rfl⟩ := Int.eq_ofNat_of_zero_le (show 0 ≤ no by omega)
  obtain ⟨g1, g2, g3, g4, g5⟩ := head_reads hl
  have h508 : (bs.take 508).length = 508 := by rw [List.length_take]; omega
  obtain ⟨W0, hW0⟩ : ∃ W0, W0 = w.alloc (.cells #[.int .i64 0, .int .i64 0, .slice none 0 0, .slice none 0 0, .int .i64 0] 27) := ⟨_, rfl⟩
  have HB0 := Lib.hid (show Below w.heap.size w W0 by rw [hW0]; exact one_below _ _)
  have HZ0 := Lib.hid (show W0.heap[w.heap.size]? = some (.cells #[.int .i64 0, .int .i64 0, .slice none 0 0, .slice none 0 0, .int .i64 0] 27) by rw [hW0]; exact heap_alloc_new _ _)
  have HS0 := Lib.hid (show W0.heap.size = w.heap.size + 1 by rw [hW0]; simp)
  have HTL := Lib.hid (show IsRd (W0.alloc (.cells #[.slice (some ⟨b0, off, none⟩) 512 cap, .int .i64 508, .bool true] 75)).drew W0.heap.size b0 off cap bs ⟨508, true⟩ from
    ⟨by rw [hl]; exact heap_alloc_new _ _, (hb.below HB0.out).below (one_below W0 _).drew, by rw [HS0.out]; omega, by rw [hl]; exact (by decide : 508 ≤ 512), by omega, hcap⟩)
  have HNU := Lib.hid (number_any W0.heap.size b0 off cap bs ⟨508, true⟩ 4 (by decide) _ HTL.out)
  unfold NumdP at HNU
  rw [g5] at HNU
  have HSO := Lib.hid fun (w' : World) (h : Bts w' (some ⟨b0, off, none⟩) (bs.take 508)) => sumOf_any (bs.take 508) (some ⟨b0, off, none⟩) cap (by rw [h508]; decide) w' h
  rw [h508] at HSO
  have HBT := Lib.hid hb
  have HL := Lib.hid hl
  have HPD := Lib.hid (show pdecP no bs = if unle (bs.drop 508) ≠ Crc.ofs (bs.take 508) then (6, zeroP, 0) else if (fld bs 2 4 : Int) ≠ no then (25, zeroP, 0)
      else if 1099511627776 < fld bs 6 8 ∨ pzeros (bs.take 508) (pguess (bs.take 508)).2 = false ∨ pcheck (pguess (bs.take 508)).1 ≠ 0 then (5, zeroP, 0) else (0, (pguess (bs.take 508)).1, fld bs 6 8) by
    unfold pdecP; rw [if_neg (by simp [hpg]), if_neg (by simp [hl])])
  simp only at HNU
  rw [hl] at hcap ⊢
  have hc1 : (508 : Int) ≤ (cap : Int) := by omega
  have hus : unle (bs.drop 508) < 4294967296 := by have := unle_lt (bs.drop 508); rw [List.length_drop, hl] at this; exact this
  have hofs := Crc.ofs_lt (bs.take 508)
  generalize hsv : unle (bs.drop 508) = sv at HNU HPD hus
  generalize hsm : Crc.ofs (bs.take 508) = sm at HSO HPD hofs
  clear hsv hsm g5 hb hl hpg
  go_enter Try.func31, Try.ntmps31
  go_wp2_with fail
  rw [← hW0]
  clear hW0
  refine (HPG.out _).mono ?_
  rintro _ w0 ⟨rfl, e0⟩
  rw [e0]
  clear e0 w0
  go_wp2_with fail
  refine wp_region_E (fun _ => True) 3 (by kernel_rfl) (by kernel_rfl) ?_
  change At _ _ _ _ _ _ 6 #[false, false, false, false, false, false] _ _
  refine at_take 1 (v := ?_) rfl (by decide) (by kernel_rfl) (by kernel_rfl) (fun _ _ _ h => h) (Or.inl ⟨by rfl, ?_⟩) trivial ?_
  rotate_left
  · intro w' hSw; (try dsimp only at hSw); go_simp; (try with_reducible rfl)
  simp only [Act.put, List.setIfInBounds_toArray, List.set_cons_zero, List.set_cons_succ]
  refine at_take 2 (v := ?_) rfl (by decide) (by kernel_rfl) (by kernel_rfl) (fun _ _ _ h => h) (Or.inl ⟨by rfl, ?_⟩) trivial ?_
  rotate_left
  · intro w' hSw; (try dsimp only at hSw); go_simp; (try with_reducible rfl)
  simp only [Act.put, List.setIfInBounds_toArray, List.set_cons_zero, List.set_cons_succ]
  refine at_only 0 rfl (by decide) (by kernel_rfl) (by rfl) ?_
  intro K hK
  go_simp
  refine HNU.out.mono ?_
  rintro _ w1 ⟨rfl, hA1⟩
  refine hK _ _ trivial ?_
  clear hK K
  simp only [List.setIfInBounds_toArray, List.set_cons_zero]
  refine at_tail rfl (by kernel_rfl) ?_
  simp only [List.drop_succ_cons, List.drop_zero]
  have HB1 := Lib.hid (show Below w.heap.size w w1 from (HB0.out.trans (((one_below W0 (.cells #[.slice (some ⟨b0, off, none⟩) 512 cap, .int .i64 508, .bool true] 75)).drew).mono HB0.out.size)).trans (hA1.2.below (Nat.le_trans HB0.out.size (one_below W0 (.cells #[.slice (some ⟨b0, off, none⟩) 512 cap, .int .i64 508, .bool true] 75)).size) (fun k e => by rw [e, HS0.out]; omega)))
  have HZ1 := Lib.hid ((hA1.2.block w.heap.size (Nat.lt_of_lt_of_le (rlt_of_heapP HZ0.out) (one_below W0 (.cells #[.slice (some ⟨b0, off, none⟩) 512 cap, .int .i64 508, .bool true] 75)).size) (by rw [HS0.out]; omega)).trans (((one_below W0 (.cells #[.slice (some ⟨b0, off, none⟩) 512 cap, .int .i64 508, .bool true] 75)).block _ (rlt_of_heapP HZ0.out)).trans HZ0.out))
  have hbt1 := hA1.1.bts
  have hs1 : W0.heap.size < w1.heap.size := rlt_of_heapP hA1.1.row
  clear HNU hA1 HTL
  go_wp2_with fail
  refine (HSO.out _ (hbt1.take508 HL.out)).mono ?_
  rintro _ w2 ⟨rfl, hB2⟩
  have HB2 := Lib.hid (HB1.out.trans (hB2.mono HB1.out.size))
  have HZ2 := Lib.hid ((hB2.block _ (rlt_of_heapP HZ1.out)).trans HZ1.out)
  have HBT2 := Lib.hid (hbt1.below hB2)
  clear HSO hbt1 hB2 HZ1 HB1 HZ0
  by_cases hss : sv = sm
  rotate_left
  · have HE := Lib.hid (show pdecP no bs = (6, zeroP, 0) by rw [HPD.out, if_pos hss])
    have hsd : ((sv : Int) != (sm : Int)) = true := by rw [bne_iff_ne]; omega
    obtain ⟨r0, r1, r2, r3, r4, rf⟩ := cells5f HZ2.out
    have f0 := rf 0
    have f1 := rf 1
    have f2 := rf 2
    have f3 := rf 3
    have f4 := rf 4
    clear rf
    go_wp2_with fail
    refine bodyPost_ret (v := .tuple #[.agg #[.int .i64 0, .int .i64 0, .slice none 0 0, .slice none 0 0, .int .i64 0], .int .i64 0, .int .i64 6]) (by simp [results, Try.results31, go_sem, r0, r1, r2, r3, r4]) rfl ?_
    rw [HE.out]
    exact decd_no (below_five HB2.out (Nat.le_refl _) _ _ _ _ _)
  subst hss
  have HP2 := Lib.hid (HPD.out.trans (if_neg (by simp)))
  have HXL := Lib.hid h508
  have HGB := Lib.hid fun hk m x r1 r2 r3 d e1 e2 e3 => pguess_b (m := m) (x := x) (r1 := r1) (r2 := r2) (r3 := r3) (d := d) HL.out hk e1 e2 e3
  have HGI := Lib.hid fun hk => pguess_i HL.out hk
  have hk8 := fld_lt bs 0 1
  have hl8 := fld_lt bs 1 1
  have hn8 := fld_lt bs 2 4
  have hg8 := fld_lt bs 6 8
  have hgz : 0 ≤ fld bs 6 8 := Nat.zero_le _
  have HS3 := Lib.hid (show DS w w2.heap.size b0 off cap (bs.take 508) ⟨0, true⟩ (w2.alloc (.cells #[.slice (some ⟨b0, off, none⟩) 508 cap, .int .i64 0, .bool true] 75)) from
    ⟨⟨by rw [h508]; exact heap_alloc_new _ _, (HBT2.out.take508 HL.out).below (one_below _ _), (by have := HB2.out.size; omega), Nat.zero_le _, by rw [h508]; decide, by rw [h508]; omega⟩,
     ((one_below w2 (.cells #[.slice (some ⟨b0, off, none⟩) 508 cap, .int .i64 0, .bool true] 75)).block _ (rlt_of_heapP HZ2.out)).trans HZ2.out, HB2.out.trans ((one_below _ _).mono HB2.out.size), rlt_of_heapP HZ2.out, hbw⟩)
  generalize bs.take 508 = xs at HS3 HGB HGI HP2 HXL g1 g2 g3 g4
  generalize fld bs 0 1 = k at *
  generalize fld bs 1 1 = lv at *
  generalize fld bs 2 4 = nn at *
  generalize fld bs 6 8 = gg at *
  have G2 := Lib.hid g2
  have G3 := Lib.hid g3
  have G4 := Lib.hid g4
  have H3 := Lib.hid (number_any _ _ _ _ _ _ 1 (by decide) _ HS3.out.rd)
  unfold NumdP at H3
  rw [g1] at H3
  simp only at H3
  have hkw : IntKind.i64.wrap (k : Int) = (k : Int) := wrap_i64_nat k (by omega)
  have hlw : IntKind.i64.wrap (lv : Int) = (lv : Int) := wrap_i64_nat lv (by omega)
  clear g1 g2 g3 g4 HPD h508
  go_wp2_with fail
  generalize w2.heap.size = p at HS3 H3 ⊢
  refine H3.out.mono ?_
  rintro _ w3 ⟨rfl, hA3⟩
  have HS4 := Lib.hid (HS3.out.step hA3)
  have H4 := Lib.hid (number_any _ _ _ _ _ _ 1 (by decide) _ HS4.out.rd)
  unfold NumdP at H4
  rw [G2.out] at H4
  simp only at H4
  clear hA3 H3
  go_wp2_with fail
  refine H4.out.mono ?_
  rintro _ w4 ⟨rfl, hA4⟩
  have HS5 := Lib.hid ((HS4.out.step hA4).below (one_below w4 (.cells #[.int .i64 (k : Int), .int .i64 (lv : Int), .slice none 0 0, .slice none 0 0, .int .i64 0] 27)))
  have HQ5 := Lib.hid (heap_alloc_new w4 (.cells #[.int .i64 (k : Int), .int .i64 (lv : Int), .slice none 0 0, .slice none 0 0, .int .i64 0] 27))
  have hpq := rlt_of_heapP (HS4.out.step hA4).rd.row
  have H5 := Lib.hid (number_any _ _ _ _ _ _ 4 (by decide) _ HS5.out.rd)
  unfold NumdP at H5
  rw [G3.out] at H5
  simp only at H5
  clear hA4 H4 HS4
  go_wp2_with fail
  generalize w4.alloc (.cells #[.int .i64 (k : Int), .int .i64 (lv : Int), .slice none 0 0, .slice none 0 0, .int .i64 0] 27) = w5 at HS5 HQ5 H5 ⊢
  generalize w4.heap.size = q at HQ5 hpq ⊢
  refine H5.out.mono ?_
  rintro _ w6 ⟨rfl, hA6⟩
  have HS6 := Lib.hid (HS5.out.step hA6)
  have HQ6 := Lib.hid ((hA6.2.block q (rlt_of_heapP HQ5.out) (by omega)).trans HQ5.out)
  clear hA6 H5 HS5 HQ5
  by_cases hno : (nn : Int) = (no : Int)
  rotate_left
  · have HE := Lib.hid (show pdecP (no : Int) bs = (25, zeroP, 0) by rw [HP2.out, if_pos hno])
    have hnd : ((nn : Int) != (no : Int)) = true := by rw [bne_iff_ne]; exact hno
    obtain ⟨r0, r1, r2, r3, r4, rf⟩ := cells5f HS6.out.z
    have f0 := rf 0
    have f1 := rf 1
    have f2 := rf 2
    have f3 := rf 3
    have f4 := rf 4
    clear rf
    go_wp2_with fail
    refine bodyPost_ret (v := .tuple #[.agg #[.int .i64 0, .int .i64 0, .slice none 0 0, .slice none 0 0, .int .i64 0], .int .i64 0, .int .i64 25]) (by simp [results, Try.results31, go_sem, r0, r1, r2, r3, r4]) rfl ?_
    rw [HE.out]
    exact decd_no (below_five HS6.out.bel (Nat.le_refl _) _ _ _ _ _)
  have HP3 := Lib.hid (HP2.out.trans (if_neg (by simpa using hno)))
  have hnd : ((nn : Int) != (no : Int)) = false := by simpa using hno
  have H6 := Lib.hid (number_any _ _ _ _ _ _ 8 (by decide) _ HS6.out.rd)
  unfold NumdP at H6
  rw [G4.out] at H6
  simp only at H6
  clear HP2
  go_wp2_with fail
  refine H6.out.mono ?_
  rintro _ w7 ⟨rfl, hA7⟩
  have HS7 := Lib.hid (HS6.out.step hA7)
  have HQ7 := Lib.hid ((hA7.2.block q (rlt_of_heapP HQ6.out) (by omega)).trans HQ6.out)
  clear hA7 H6 HS6 HQ6
  obtain ⟨y0, y1, y2, y3, y4, yf⟩ := cells5f HQ7.out
  by_cases hk3 : k = 3
  · subst hk3
    have HK3 := Lib.hid HGB.out
    obtain ⟨m, r1, e1⟩ : ∃ m r1, pnum xs ⟨14, true⟩ 2 = (m, r1) := ⟨_, _, rfl⟩
    obtain ⟨x, r2, e2⟩ : ∃ x r2, pnum xs r1 4 = (x, r2) := ⟨_, _, rfl⟩
    obtain ⟨d, r3, e3⟩ : ∃ d r3, ptake xs r2 m = (d, r3) := ⟨_, _, rfl⟩
    have HG := Lib.hid (HGB.out rfl m x r1 r2 r3 d e1 e2 e3)
    have hml := pnum_lt xs ⟨14, true⟩ 2
    have hxl := pnum_lt xs r1 4
    have hdl := ptake_len xs r2 m
    rw [e1] at hml
    rw [e2] at hxl
    rw [e3] at hdl
    simp only at hml hxl hdl
    have H8 := Lib.hid (number_any _ _ _ _ _ _ 2 (by decide) _ HS7.out.rd)
    unfold NumdP at H8
    rw [e1] at H8
    simp only at H8
    have E2 := Lib.hid e2
    have E3 := Lib.hid e3
    have hmw : IntKind.i64.wrap (m : Int) = (m : Int) := wrap_i64_nat m (by omega)
    have hxw : IntKind.i64.wrap (x : Int) = (x : Int) := wrap_i64_nat x (by omega)
    clear e1 e2 e3 yf
    go_wp2_with fail
    refine H8.out.mono ?_
    rintro _ w8 ⟨rfl, hA8⟩
    have HS8 := Lib.hid (HS7.out.step hA8)
    have HQ8 := Lib.hid ((hA8.2.block q (rlt_of_heapP HQ7.out) (by omega)).trans HQ7.out)
    have H9 := Lib.hid (number_any _ _ _ _ _ _ 4 (by decide) _ HS8.out.rd)
    unfold NumdP at H9
    rw [E2.out] at H9
    simp only at H9
    clear hA8 H8 y0 y1 y2 y3 y4
    go_wp2_with fail
    refine H9.out.mono ?_
    rintro _ w9 ⟨rfl, hA9⟩
    have HS9 := Lib.hid (HS8.out.step hA9)
    have HQ9 := Lib.hid ((hA9.2.block q (rlt_of_heapP HQ8.out) (by omega)).trans HQ8.out)
    have HSA := Lib.hid (HS9.out.loc (Chg.set w9 ⟨q, 4, none⟩ (.int .i64 (x : Int))) hpq)
    have HQA := Lib.hid (show (w9.setCell ⟨q, 4, none⟩ (.int .i64 (x : Int))).heap[q]? = some (.cells #[.int .i64 3, .int .i64 (lv : Int), .slice none 0 0, .slice none 0 0, .int .i64 (x : Int)] 27) by rw [set_rowP HQ9.out]; rfl)
    have H10 := Lib.hid (fresh_any _ _ _ _ _ _ m (by omega) _ HSA.out.rd)
    unfold FrshP at H10
    rw [E3.out] at H10
    simp only at H10
    clear hA9 H9
    obtain ⟨-, -, -, -, q4, qf⟩ := cells5f HQ9.out
    have qf4 := qf 4
    clear qf
    go_wp2_with fail
    refine H10.out.mono ?_
    rintro _ w10 ⟨oa, oc, rfl, hO, hof, hA10⟩
    have HSB := Lib.hid (HSA.out.step hA10)
    have HQB := Lib.hid ((hA10.2.block q (rlt_of_heapP HQA.out) (by omega)).trans HQA.out)
    have hql := rlt_of_heapP HQA.out
    have hlo : w.heap.size + 1 ≤ (w9.setCell ⟨q, 4, none⟩ (.int .i64 (x : Int))).heap.size := Nat.lt_of_lt_of_le HSA.out.pz (Nat.le_of_lt (rlt_of_heapP HSA.out.rd.row))
    have HNB := Lib.hid (newPg_blob (kind := 3) (level := (lv : Int)) (next := (x : Int)) hA10.2.size hO hof)
    have HSW := Lib.hid (HSB.out.loc (Chg.set w10 ⟨q, 3, none⟩ (.slice oa d.length oc)) hpq)
    have HQW := Lib.hid (show (w10.setCell ⟨q, 3, none⟩ (.slice oa d.length oc)).heap[q]? = some (.cells #[.int .i64 3, .int .i64 (lv : Int), .slice none 0 0, .slice oa d.length oc, .int .i64 (x : Int)] 27) by rw [set_rowP HQB.out]; rfl)
    have HNP := Lib.hid ((HNB.out.chg (Chg.set w10 ⟨q, 3, none⟩ (.slice oa d.length oc)) (fun k e => by rw [e]; exact hql)).low hlo)
    have HPA := Lib.hid fun W' (h : Below (w10.setCell ⟨q, 3, none⟩ (.slice oa d.length oc)).heap.size (w10.setCell ⟨q, 3, none⟩ (.slice oa d.length oc)) W') => (HNP.out.below h).pgAt (fun x hx => (by cases hx)) (Nat.le_trans hdl (by omega)) (Nat.zero_le _) (i64_small hk8 (by decide)) (i64_small hl8 (by decide)) (i64_small hxl (by decide))
    have hzq : w.heap.size ≠ q := by have := HSA.out.pz; omega
    have hzq2 : q ≠ w.heap.size := fun e => hzq e.symm
    clear hO hof hA10 H10 HNB HS3 HS7 HQ7 q4 qf4
    obtain ⟨-, -, -, q3, -, qf⟩ := cells5f HQB.out
    have qf3 := qf 3
    clear qf
    have HZC := Lib.hid (zeros_any p b0 off cap xs r3 (w10.setCell ⟨q, 3, none⟩ (.slice oa d.length oc)) HSW.out.rd)
    unfold ZerdP at HZC
    have HCC := Lib.hid fun W' (h : Below (w10.setCell ⟨q, 3, none⟩ (.slice oa d.length oc)).heap.size (w10.setCell ⟨q, 3, none⟩ (.slice oa d.length oc)) W') => pCheck_any ⟨3, (lv : Int), [], d, (x : Int)⟩ none 0 oa oc W' (HPA.out W' h)
    unfold Checked at HCC
    simp only [pgv] at HCC
    by_cases hgm : gg ≤ 1099511627776
    rotate_left
    · have HE := Lib.hid (show pdecP (no : Int) bs = (5, zeroP, 0) by rw [HP3.out, if_pos (.inl (by omega))])
      have hgd : ¬ (gg : Int) ≤ 1099511627776 := by omega
      have hgd2 : (1099511627776 : Int) < (gg : Int) := by omega
      clear HZC HCC
      obtain ⟨r0, r1, r2, r3, r4, rf⟩ := cells5f HSB.out.z
      have f0 := rf 0
      have f1 := rf 1
      have f2 := rf 2
      have f3 := rf 3
      have f4 := rf 4
      clear rf
      go_wp2_with fail
      refine bodyPost_ret (v := .tuple #[.agg #[.int .i64 0, .int .i64 0, .slice none 0 0, .slice none 0 0, .int .i64 0], .int .i64 0, .int .i64 5]) (by simp [results, Try.results31, go_sem, r0, r1, r2, r3, r4]) rfl ?_
      rw [HE.out]
      exact decd_no (below_five HSW.out.bel (Nat.le_refl _) _ _ _ _ _)
    have hgd : ¬ (1099511627776 : Int) < (gg : Int) := by omega
    by_cases hzz : pzeros xs r3 = true
    rotate_left
    · have hzf : pzeros xs r3 = false := by simpa using hzz
      have HE := Lib.hid (show pdecP (no : Int) bs = (5, zeroP, 0) by rw [HP3.out, if_pos (.inr (.inl (by rw [HG.out]; exact hzf)))])
      rw [hzf] at HZC
      clear HCC hzz hzf
      go_wp2_with fail
      refine HZC.out.mono ?_
      rintro _ w12 ⟨rfl, hB12⟩
      have HS12 := Lib.hid (HSW.out.below hB12)
      clear hB12 HZC
      obtain ⟨r0, r1, r2, r3, r4, rf⟩ := cells5f HS12.out.z
      have f0 := rf 0
      have f1 := rf 1
      have f2 := rf 2
      have f3 := rf 3
      have f4 := rf 4
      clear rf
      go_wp2_with fail
      refine bodyPost_ret (v := .tuple #[.agg #[.int .i64 0, .int .i64 0, .slice none 0 0, .slice none 0 0, .int .i64 0], .int .i64 0, .int .i64 5]) (by simp [results, Try.results31, go_sem, r0, r1, r2, r3, r4]) rfl ?_
      rw [HE.out]
      exact decd_no (below_five HS12.out.bel (Nat.le_refl _) _ _ _ _ _)
    rw [hzz] at HZC
    by_cases hck : pcheck ⟨3, (lv : Int), [], d, (x : Int)⟩ = 0
    rotate_left
    · have HE := Lib.hid (show pdecP (no : Int) bs = (5, zeroP, 0) by rw [HP3.out, if_pos (.inr (.inr (by rw [HG.out]; exact hck)))])
      generalize pcheck ⟨3, (lv : Int), [], d, (x : Int)⟩ = ec at HCC hck
      have hce : (ec != 0) = true := by rw [bne_iff_ne]; exact hck
      clear hzz
      obtain ⟨y0, y1, y2, y3, y4⟩ := cells5 HQW.out
      go_wp2_with fail
      refine HZC.out.mono ?_
      rintro _ w12 ⟨rfl, hB12⟩
      have HS12 := Lib.hid (HSW.out.below hB12)
      have HQ12 := Lib.hid ((hB12.block q (rlt_of_heapP HQW.out)).trans HQW.out)
      have HC12 := Lib.hid (HCC.out _ hB12)
      clear y0 y1 y2 y3 y4 hB12 HZC
      obtain ⟨y0, y1, y2, y3, y4⟩ := cells5 HQ12.out
      go_wp2_with fail
      refine HC12.out.mono ?_
      rintro _ w13 ⟨rfl, hB9⟩
      have HS9 := Lib.hid (HS12.out.below hB9)
      clear hB9 HC12 y0 y1 y2 y3 y4
      obtain ⟨r0, r1, r2, r3, r4, rf⟩ := cells5f HS9.out.z
      have f0 := rf 0
      have f1 := rf 1
      have f2 := rf 2
      have f3 := rf 3
      have f4 := rf 4
      clear rf
      go_wp2_with fail
      refine bodyPost_ret (v := .tuple #[.agg #[.int .i64 0, .int .i64 0, .slice none 0 0, .slice none 0 0, .int .i64 0], .int .i64 0, .int .i64 5]) (by simp [results, Try.results31, go_sem, r0, r1, r2, r3, r4]) rfl ?_
      rw [HE.out]
      exact decd_no (below_five HS9.out.bel (Nat.le_refl _) _ _ _ _ _)
    have HE := Lib.hid (show pdecP (no : Int) bs = (0, ⟨3, (lv : Int), [], d, (x : Int)⟩, gg) by
      rw [HP3.out, HG.out, if_neg (by
        intro h
        rcases h with h | h | h
        · omega
        · simp only at h; rw [hzz] at h; cases h
        · exact h hck)])
    rw [hck] at HCC
    clear hzz hck
    obtain ⟨y0, y1, y2, y3, y4⟩ := cells5 HQW.out
    go_wp2_with fail
    refine HZC.out.mono ?_
    rintro _ w12 ⟨rfl, hB12⟩
    have HS12 := Lib.hid (HSW.out.below hB12)
    have HQ12 := Lib.hid ((hB12.block q (rlt_of_heapP HQW.out)).trans HQW.out)
    have HN12 := Lib.hid (HNP.out.below hB12)
    have HC12 := Lib.hid (HCC.out _ hB12)
    clear y0 y1 y2 y3 y4 hB12 HZC
    obtain ⟨y0, y1, y2, y3, y4⟩ := cells5 HQ12.out
    go_wp2_with fail
    refine HC12.out.mono ?_
    rintro _ w13 ⟨rfl, hB9⟩
    have HS9 := Lib.hid (HS12.out.below hB9)
    have HQ9 := Lib.hid ((hB9.block q (rlt_of_heapP HQ12.out)).trans HQ12.out)
    have HN9 := Lib.hid (HN12.out.below hB9)
    clear hB9 HC12 y0 y1 y2 y3 y4
    obtain ⟨y0, y1, y2, y3, y4⟩ := cells5 HQ9.out
    obtain ⟨r0, r1, r2, r3, r4, rf⟩ := cells5f HS9.out.z
    have f0 := rf 0
    have f1 := rf 1
    have f2 := rf 2
    have f3 := rf 3
    have f4 := rf 4
    clear rf
    have hzq : w.heap.size ≠ q := by have := HS9.out.pz; omega
    have hzq2 : q ≠ w.heap.size := fun e => hzq e.symm
    have hgw : IntKind.i64.wrap (gg : Int) = (gg : Int) := wrap_i64_nat gg (by omega)
    go_wp2_with fail
    refine bodyPost_ret (v := .tuple #[.agg #[.int .i64 3, .int .i64 (lv : Int), .slice none 0 0, .slice oa d.length oc, .int .i64 (x : Int)], .int .i64 (gg : Int), .int .i64 0]) (by simp [results, Try.results31, go_sem, r0, r1, r2, r3, r4]) rfl ?_
    rw [HE.out]
    exact decd_yes HN9.out HS9.out.bel _ _ _ _ _
  · have hkd : ((k : Int) == 3) = false := by rw [beq_eq_false_iff_ne]; omega
    have HIT := Lib.hid (items_any (k : Int) p b0 off cap xs ⟨14, true⟩ w7 HS7.out.rd (Nat.lt_of_lt_of_le HS7.out.bz HS7.out.bel.size))
    have hcn := pnum_lt xs ⟨14, true⟩ 1
    have hps := pst_small (kind := (k : Int)) (bs := xs) (r := (pnum xs ⟨14, true⟩ 1).2) (pnum xs ⟨14, true⟩ 1).1
    have hpl := pst_length (k : Int) xs (pnum xs ⟨14, true⟩ 1).2 (pnum xs ⟨14, true⟩ 1).1
    have HG := Lib.hid (HGI.out hk3)
    unfold ItemsP at HIT
    generalize (pnum xs ⟨14, true⟩ 1).1 = c at *
    generalize (pnum xs ⟨14, true⟩ 1).2 = rc at *
    generalize pst (k : Int) xs rc c = st at *
    obtain ⟨r8, its⟩ := st
    simp only at HIT hps hpl HG
    subst hpl
    clear yf
    go_wp2_with fail
    refine HIT.out.mono ?_
    rintro _ w8 ⟨la, lc, zs, rfl, hzs, hI, hA8⟩
    have HS8 := Lib.hid (HS7.out.step hA8)
    have HQ8 := Lib.hid ((hA8.2.block q (rlt_of_heapP HQ7.out) (by omega)).trans HQ7.out)
    have HN8 := Lib.hid (show NewPg w7.heap.size w8 ⟨(k : Int), (lv : Int), its, [], 0⟩ la lc none 0 from ⟨zs, hzs, hI, OB.nil _, fun k e => (by cases e), .inl rfl⟩)
    have hql := rlt_of_heapP HQ7.out
    have HSW := Lib.hid (HS8.out.loc (Chg.set w8 ⟨q, 2, none⟩ (.slice la its.length lc)) hpq)
    have HQW := Lib.hid (show (w8.setCell ⟨q, 2, none⟩ (.slice la its.length lc)).heap[q]? = some (.cells #[.int .i64 (k : Int), .int .i64 (lv : Int), .slice la its.length lc, .slice none 0 0, .int .i64 0] 27) by rw [set_rowP HQ8.out]; rfl)
    have hlo : w.heap.size + 1 ≤ w7.heap.size := Nat.lt_of_lt_of_le HS7.out.pz (Nat.le_of_lt (rlt_of_heapP HS7.out.rd.row))
    have HNP := Lib.hid ((HN8.out.chg (Chg.set w8 ⟨q, 2, none⟩ (.slice la its.length lc)) (fun k e => by rw [e]; exact hql)).low hlo)
    have HPA := Lib.hid fun W' (h : Below (w8.setCell ⟨q, 2, none⟩ (.slice la its.length lc)).heap.size (w8.setCell ⟨q, 2, none⟩ (.slice la its.length lc)) W') => (HNP.out.below h).pgAt (fun x hx => hps x hx) (Nat.zero_le _) (Nat.le_of_lt_succ hcn) (i64_small hk8 (by decide)) (i64_small hl8 (by decide)) i64_zero
    have hzq : w.heap.size ≠ q := by have := HS7.out.pz; omega
    have hzq2 : q ≠ w.heap.size := fun e => hzq e.symm
    clear hzs hI hA8 HIT hps HN8 y0 y1 y2 y3 y4
    clear HS3 HS7 HQ7
    obtain ⟨-, -, q2, -, -, qf⟩ := cells5f HQ8.out
    have qf2 := qf 2
    clear qf
    have HZC := Lib.hid (zeros_any p b0 off cap xs r8 (w8.setCell ⟨q, 2, none⟩ (.slice la its.length lc)) HSW.out.rd)
    unfold ZerdP at HZC
    have HCC := Lib.hid fun W' (h : Below (w8.setCell ⟨q, 2, none⟩ (.slice la its.length lc)).heap.size (w8.setCell ⟨q, 2, none⟩ (.slice la its.length lc)) W') => pCheck_any ⟨(k : Int), (lv : Int), its, [], 0⟩ la lc none 0 W' (HPA.out W' h)
    unfold Checked at HCC
    simp only [pgv] at HCC
    by_cases hgm : gg ≤ 1099511627776
    rotate_left
    · have HE := Lib.hid (show pdecP (no : Int) bs = (5, zeroP, 0) by rw [HP3.out, if_pos (.inl (by omega))])
      have hgd : ¬ (gg : Int) ≤ 1099511627776 := by omega
      have hgd2 : (1099511627776 : Int) < (gg : Int) := by omega
      clear HZC HCC
      obtain ⟨r0, r1, r2, r3, r4, rf⟩ := cells5f HS8.out.z
      have f0 := rf 0
      have f1 := rf 1
      have f2 := rf 2
      have f3 := rf 3
      have f4 := rf 4
      clear rf
      go_wp2_with fail
      refine bodyPost_ret (v := .tuple #[.agg #[.int .i64 0, .int .i64 0, .slice none 0 0, .slice none 0 0, .int .i64 0], .int .i64 0, .int .i64 5]) (by simp [results, Try.results31, go_sem, r0, r1, r2, r3, r4]) rfl ?_
      rw [HE.out]
      exact decd_no (below_five HSW.out.bel (Nat.le_refl _) _ _ _ _ _)
    have hgd : ¬ (1099511627776 : Int) < (gg : Int) := by omega
    by_cases hzz : pzeros xs r8 = true
    rotate_left
    · have hzf : pzeros xs r8 = false := by simpa using hzz
      have HE := Lib.hid (show pdecP (no : Int) bs = (5, zeroP, 0) by rw [HP3.out, if_pos (.inr (.inl (by rw [HG.out]; exact hzf)))])
      rw [hzf] at HZC
      clear HCC hzz hzf
      go_wp2_with fail
      refine HZC.out.mono ?_
      rintro _ w10 ⟨rfl, hB10⟩
      have HS10 := Lib.hid (HSW.out.below hB10)
      clear hB10 HZC
      obtain ⟨r0, r1, r2, r3, r4, rf⟩ := cells5f HS10.out.z
      have f0 := rf 0
      have f1 := rf 1
      have f2 := rf 2
      have f3 := rf 3
      have f4 := rf 4
      clear rf
      go_wp2_with fail
      refine bodyPost_ret (v := .tuple #[.agg #[.int .i64 0, .int .i64 0, .slice none 0 0, .slice none 0 0, .int .i64 0], .int .i64 0, .int .i64 5]) (by simp [results, Try.results31, go_sem, r0, r1, r2, r3, r4]) rfl ?_
      rw [HE.out]
      exact decd_no (below_five HS10.out.bel (Nat.le_refl _) _ _ _ _ _)
    rw [hzz] at HZC
    by_cases hck : pcheck ⟨(k : Int), (lv : Int), its, [], 0⟩ = 0
    rotate_left
    · have HE := Lib.hid (show pdecP (no : Int) bs = (5, zeroP, 0) by rw [HP3.out, if_pos (.inr (.inr (by rw [HG.out]; exact hck)))])
      generalize pcheck ⟨(k : Int), (lv : Int), its, [], 0⟩ = ec at HCC hck
      have hce : (ec != 0) = true := by rw [bne_iff_ne]; exact hck
      clear hzz
      obtain ⟨y0, y1, y2, y3, y4⟩ := cells5 HQW.out
      go_wp2_with fail
      refine HZC.out.mono ?_
      rintro _ w10 ⟨rfl, hB10⟩
      have HS10 := Lib.hid (HSW.out.below hB10)
      have HQ10 := Lib.hid ((hB10.block q (rlt_of_heapP HQW.out)).trans HQW.out)
      have HC10 := Lib.hid (HCC.out _ hB10)
      clear y0 y1 y2 y3 y4 hB10 HZC
      obtain ⟨y0, y1, y2, y3, y4⟩ := cells5 HQ10.out
      go_wp2_with fail
      refine HC10.out.mono ?_
      rintro _ w11 ⟨rfl, hB9⟩
      have HS9 := Lib.hid (HS10.out.below hB9)
      clear hB9 HC10 y0 y1 y2 y3 y4
      obtain ⟨r0, r1, r2, r3, r4, rf⟩ := cells5f HS9.out.z
      have f0 := rf 0
      have f1 := rf 1
      have f2 := rf 2
      have f3 := rf 3
      have f4 := rf 4
      clear rf
      go_wp2_with fail
      refine bodyPost_ret (v := .tuple #[.agg #[.int .i64 0, .int .i64 0, .slice none 0 0, .slice none 0 0, .int .i64 0], .int .i64 0, .int .i64 5]) (by simp [results, Try.results31, go_sem, r0, r1, r2, r3, r4]) rfl ?_
      rw [HE.out]
      exact decd_no (below_five HS9.out.bel (Nat.le_refl _) _ _ _ _ _)
    have HE := Lib.hid (show pdecP (no : Int) bs = (0, ⟨(k : Int), (lv : Int), its, [], 0⟩, gg) by
      rw [HP3.out, HG.out, if_neg (by
        intro h
        rcases h with h | h | h
        · omega
        · simp only at h; rw [hzz] at h; cases h
        · exact h hck)])
    rw [hck] at HCC
    clear hzz hck
    obtain ⟨y0, y1, y2, y3, y4⟩ := cells5 HQW.out
    go_wp2_with fail
    refine HZC.out.mono ?_
    rintro _ w10 ⟨rfl, hB10⟩
    have HS10 := Lib.hid (HSW.out.below hB10)
    have HQ10 := Lib.hid ((hB10.block q (rlt_of_heapP HQW.out)).trans HQW.out)
    have HN10 := Lib.hid (HNP.out.below hB10)
    have HC10 := Lib.hid (HCC.out _ hB10)
    clear y0 y1 y2 y3 y4 hB10 HZC
    obtain ⟨y0, y1, y2, y3, y4⟩ := cells5 HQ10.out
    go_wp2_with fail
    refine HC10.out.mono ?_
    rintro _ w11 ⟨rfl, hB9⟩
    have HS9 := Lib.hid (HS10.out.below hB9)
    have HQ9 := Lib.hid ((hB9.block q (rlt_of_heapP HQ10.out)).trans HQ10.out)
    have HN9 := Lib.hid (HN10.out.below hB9)
    clear hB9 HC10 y0 y1 y2 y3 y4
    obtain ⟨y0, y1, y2, y3, y4⟩ := cells5 HQ9.out
    obtain ⟨r0, r1, r2, r3, r4, rf⟩ := cells5f HS9.out.z
    have f0 := rf 0
    have f1 := rf 1
    have f2 := rf 2
    have f3 := rf 3
    have f4 := rf 4
    clear rf
    have hzq : w.heap.size ≠ q := by have := HS9.out.pz; omega
    have hzq2 : q ≠ w.heap.size := fun e => hzq e.symm
    have hgw : IntKind.i64.wrap (gg : Int) = (gg : Int) := wrap_i64_nat gg (by omega)
    go_wp2_with fail
    refine bodyPost_ret (v := .tuple #[.agg #[.int .i64 (k : Int), .int .i64 (lv : Int), .slice la its.length lc, .slice none 0 0, .int .i64 0], .int .i64 (gg : Int), .int .i64 0]) (by simp [results, Try.results31, go_sem, r0, r1, r2, r3, r4]) rfl ?_
    rw [HE.out]
    exact decd_yes HN9.out HS9.out.bel _ _ _ _ _
end Go.Proofs.Ytkjgncmbhkhbnaa
