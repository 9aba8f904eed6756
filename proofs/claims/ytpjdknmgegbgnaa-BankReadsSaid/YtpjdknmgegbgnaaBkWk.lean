/- There and back, and works. -/
import Derived.Test.YtpjdknmgegbgnaaBkDec
import Derived.Test.YtpjdknmgegbgnaaBkEnc
namespace Go.Proofs.Ytpjdknmgegbgnaa
open Go.RowKit
set_option linter.unusedVariables false
set_option maxRecDepth 100000

theorem cat_part (xs : List Nat) : ∀ k, (List.range k).flatMap (part xs) = xs.take (240 * k)
  | 0 => by simp
  | k + 1 => by
    rw [List.range_succ, List.flatMap_append, cat_part xs k, show 240 * (k + 1) = 240 * k + 240 by omega, List.take_add]
    simp [part, Nat.mul_comm]
theorem rowsB_get {gen : Nat} {cs : List Int} {k j : Nat} (h : j < k) : (rowsB gen cs k).getD j [] = blk1 gen j cs.length (part (cs.map Int.toNat) j) := by
  unfold rowsB
  rw [List.getD_eq_getElem?_getD, List.getElem?_map, List.getElem?_range h]; rfl
theorem nblocks_le {n : Nat} (h : n ≤ 65536) : nblocks n ≤ 274 := by unfold nblocks; omega
theorem part_mem {xs : List Nat} {i v : Nat} (h : v ∈ part xs i) : v ∈ xs := List.mem_of_mem_drop (List.mem_of_mem_take h)
/-- what is laid is read -/
theorem fB_laid {gen : Nat} (hg : gen ≤ 1099511627776) {cs : List Int} (hn : cs.length ≤ 65536) (hx : ∀ v ∈ cs.map Int.toNat, v < 65536) {j : Nat} (hj : j < nblocks cs.length) : fB gen cs.length (rowsB gen cs (nblocks cs.length)) j = (0, part (cs.map Int.toNat) j) := by
  have h1 := nblocks_le hn
  unfold fB bblock
  rw [if_pos ⟨by omega, by omega, by omega, by rw [Int.toNat_natCast]; omega⟩, rowsB_get hj, Int.toNat_natCast, Int.toNat_natCast, Int.toNat_natCast]
  exact bread_laid (by omega) (by omega) (by omega) (by rw [part_length, List.length_map]) (fun v hv => hx v (part_mem hv))
theorem bdec_laid {gen : Nat} (hg : gen ≤ 1099511627776) {cs : List Int} (hn : cs.length ≤ 65536) (hx : ∀ v ∈ cs.map Int.toNat, v < 65536) : bdec gen cs.length (rowsB gen cs (nblocks cs.length)) = (0, cs.map Int.toNat) := by
  have h1 := nblocks_le hn
  have h2 : berr (fE gen cs.length (rowsB gen cs (nblocks cs.length))) (rowsB gen cs (nblocks cs.length)).length = 0 := by
    rw [rowsB_length]
    refine berr_zero fun i hi => ?_
    unfold fE; rw [fB_laid hg hn hx hi]
  have h3 : bcat gen cs.length (rowsB gen cs (nblocks cs.length)) (rowsB gen cs (nblocks cs.length)).length = cs.map Int.toNat := by
    rw [rowsB_length]
    unfold bcat
    have e : (List.range (nblocks cs.length)).flatMap (fun j => (fB gen cs.length (rowsB gen cs (nblocks cs.length)) j).2) = (List.range (nblocks cs.length)).flatMap (part (cs.map Int.toNat)) := by
      rw [List.flatMap_def, List.flatMap_def]
      congr 1
      apply List.map_congr_left
      intro j hj
      rw [fB_laid hg hn hx (List.mem_range.1 hj)]
    rw [e, cat_part, List.take_of_length_le (by rw [List.length_map]; unfold nblocks; omega)]
  unfold bdec
  rw [if_neg (fun g => g ⟨⟨by omega, by omega⟩, by rw [rowsB_length, Int.toNat_natCast]⟩), if_neg (by simp [h2]), h3]
def B3 : List UInt8 := blk1 7 0 3 [1, 0, 258]
theorem B3_length : B3.length = 512 := blk1_length (by decide)
theorem B3_at {k : Nat} (h : k < 23) : B3.getD k 0 = (bhead 7 0 3 ++ cntB [1, 0, 258]).getD k 0 := by
  unfold B3 blk1 summed fullB
  rw [List.append_assoc, List.getD_eq_getElem?_getD, List.getElem?_append_left (by rw [List.length_append, bhead_length, cntB_length]; exact h), ← List.getD_eq_getElem?_getD]
theorem B3_rows : rowsB 7 [1, 0, 258] 1 = [B3] := rfl
theorem benc3 : benc 7 [1, 0, 258] = (0, [B3]) := by
  unfold benc
  rw [if_neg (by decide), if_neg (by decide), if_neg (by decide)]; rfl
theorem bdec3 : bdec 7 3 [B3] = (0, [1, 0, 258]) := by
  have := bdec_laid (gen := 7) (by decide) (cs := [1, 0, 258]) (by decide) (by decide)
  exact this
theorem three_nts (w : World) (x y z : Int) : Nts (w.alloc (.cells #[.int .i64 x, .int .i64 y, .int .i64 z] 3)) (some ⟨w.heap.size, 0, none⟩) [x, y, z] := by
  refine .inr ⟨_, _, rfl, by simp, fun i hi => ?_⟩
  rw [Nat.zero_add, cell_of_row _ _ i _ _ (0, 0) (heap_alloc_new w _)]
  match i, hi with
  | 0, _ => rfl
  | 1, _ => rfl
  | 2, _ => rfl
set_option maxHeartbeats 1000000 in
theorem works_any (w : World) : Calls Try.prog 7 #[] w fun e w' => e = .returned (.bool true) ∧ Below w.heap.size w w' := by
  have HE := Lib.hid (encodeB_any 7 [1, 0, 258] (some ⟨w.heap.size, 0, none⟩) 3 (w.alloc (.cells #[.int .i64 1, .int .i64 0, .int .i64 258] 3)) (by decide) (three_nts w 1 0 258))
  rw [benc3] at HE
  unfold EncB at HE
  have HB1 := Lib.hid (one_below w (.cells #[.int .i64 1, .int .i64 0, .int .i64 258] 3))
  go_enter Try.func7, Try.ntmps7
  go_wp2_with fail
  refine HE.out.mono ?_
  rintro _ w2 ⟨la, lc, rs, rfl, hrs, hR, hb2⟩
  have HB2 := Lib.hid (HB1.out.trans (hb2.mono HB1.out.size))
  obtain ⟨⟨b, oa, oc⟩, rfl⟩ : ∃ r : Row, rs = [r] := List.length_eq_one_iff.1 (by have := congrArg List.length hrs; rw [List.length_map] at this; exact this)
  simp only [List.map_cons, List.map_nil, List.cons.injEq, and_true] at hrs
  subst hrs
  obtain ⟨g, rfl, hc0⟩ := hR.at (i := 0) (r := (B3, oa, oc)) rfl
  have hO := hR.obs (B3, oa, oc) (by simp)
  simp only at hc0 hO
  rw [B3_length] at hc0
  obtain ⟨g2, rfl⟩ := OB.pos hO (by rw [B3_length]; decide)
  obtain ⟨d0, -⟩ := hO.cell (i := 0) (by rw [B3_length]; decide)
  obtain ⟨d1, -⟩ := hO.cell (i := 21) (by rw [B3_length]; decide)
  obtain ⟨d2, -⟩ := hO.cell (i := 22) (by rw [B3_length]; decide)
  rw [B3_at (by decide), show ((bhead 7 0 3 ++ cntB [1, 0, 258]).getD 0 0).toNat = 66 by decide] at d0
  rw [B3_at (by decide), show ((bhead 7 0 3 ++ cntB [1, 0, 258]).getD 21 0).toNat = 2 by decide] at d1
  rw [B3_at (by decide), show ((bhead 7 0 3 ++ cntB [1, 0, 258]).getD 22 0).toNat = 1 by decide] at d2
  have HD := Lib.hid (decodeB_any 7 3 (some ⟨g, 0, none⟩) lc [(B3, some ⟨g2, 0, none⟩, oc)] [B3] rfl w2 (by decide) (by decide) (hR.rd (fun r hr => by simp at hr; subst hr; rw [B3_length]; decide)))
  rw [bdec3] at HD
  unfold BlkP at HD
  clear hR hO hb2 HE
  go_wp2_with fail
  refine HD.out.mono ?_
  rintro _ w3 ⟨na, nc, rfl, hN, -, hb3⟩
  have HB3 := Lib.hid (HB2.out.trans (hb3.mono HB2.out.size))
  have hb4 := one_below w3 (.cells #[.int .i64 1, .int .i64 0, .int .i64 258] 3)
  have HB4 := Lib.hid (HB3.out.trans (hb4.mono HB3.out.size))
  have H5 := Lib.hid (eqInts_any [1, 0, 258] [1, 0, 258] na (some ⟨w3.heap.size, 0, none⟩) nc 3 _ (hN.nts.below hb4) (three_nts w3 1 0 258) (by decide) (by decide))
  unfold EqA at H5
  simp only [decide_true] at H5
  have HBL := Lib.hid fun w1 => blocks_any 241 (by decide) w1
  rw [show nblocks (241 : Int).toNat = 2 from rfl] at HBL
  clear hN hb3 hb4 HD
  go_wp2_with fail
  refine H5.out.mono ?_
  rintro _ w5 ⟨rfl, hb5⟩
  have HB5 := Lib.hid (HB4.out.trans (hb5.mono HB4.out.size))
  clear hb5 H5
  go_wp2_with fail
  refine (HBL.out _).mono ?_
  rintro _ wx ⟨rfl, e0⟩
  rw [e0]
  clear e0 wx
  go_wp2_with fail
  go_ret
  exact ⟨rfl, HB5.out⟩
end Go.Proofs.Ytpjdknmgegbgnaa
