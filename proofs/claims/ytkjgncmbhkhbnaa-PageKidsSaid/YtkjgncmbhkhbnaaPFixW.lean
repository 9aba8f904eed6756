/- The law's fixed: true. -/
import Derived.Test.YtkjgncmbhkhbnaaPFix
import Derived.Deep.RegionHeld3
namespace Go.Proofs.Ytkjgncmbhkhbnaa
open Go.RowKit
set_option linter.unusedVariables false
set_option maxRecDepth 100000

def kidsPg : PP := ⟨2, 1, [⟨[], [], 2, 0⟩, ⟨[109], [], 3, 0⟩], [], 0⟩
theorem leaf_check : pcheck leafP = 0 := by decide
theorem zero_check : pcheck zeroP = 22 := by decide
theorem kids_two : pkids kidsPg = [2, 3] := by decide
theorem leaf_enc : penc 5 258 leafP = (0, pblock 5 258 leafP) := by
  unfold penc
  rw [if_neg (by decide), if_neg (by decide), if_neg (by rw [leaf_check]; decide)]; rfl
theorem leaf_dec : pdec 5 (pblock 5 258 leafP) = (0, leafP, 258) := pdec_laid leaf_check (no := 5) (by decide) (by decide)
theorem leaf_len : (pblock 5 258 leafP).length = 512 := pblock_length (pcheck_right leaf_check) 5 258
set_option maxRecDepth 1000000 in
theorem leaf_bytes : (pblock 5 258 leafP).getD 0 0 = 1 ∧ (pblock 5 258 leafP).getD 2 0 = 5 ∧ (pblock 5 258 leafP).getD 6 0 = 2 ∧ (pblock 5 258 leafP).getD 7 0 = 1 ∧ (pblock 5 258 leafP).getD 14 0 = 1 ∧ (pblock 5 258 leafP).getD 19 0 = 120 ∧ (pblock 5 258 leafP).getD 508 0 = 170 ∧ (pblock 5 258 leafP).getD 511 0 = 161 := by decide +kernel
theorem kids_at {w : World} {g1 g2 : Nat} {fr : Nat × Nat} (h1 : w.heap[g1]? = some (.cells #[.int .u8 109] 5 fr)) (h2 : w.heap[g2]? = some (.cells #[.slice none 0 0, .slice none 0 0, .int .i64 2, .int .i64 0, .slice (some ⟨g1, 0, none⟩) 1 1, .slice none 0 0, .int .i64 3, .int .i64 0] 64)) :
    PgAt w.heap.size w kidsPg (some ⟨g2, 0, none⟩) 2 none 0 := by
  have hc : ∀ k v, (#[Value.slice none 0 0, .slice none 0 0, .int .i64 2, .int .i64 0, .slice (some ⟨g1, 0, none⟩) 1 1, .slice none 0 0, .int .i64 3, .int .i64 0] : Array Value)[k]? = some v → w.cell? ⟨g2, k, none⟩ = some v := fun k v hk => by
    rw [cell_of_row _ _ _ _ _ _ h2]; exact hk
  refine ⟨.inr ⟨g2, 0, rfl, rlt_of_heapP h2, fun i x hi => ?_⟩, by decide, fun e => (by cases e), nil_sl, ⟨by decide, by decide⟩, ⟨by decide, by decide⟩, ⟨by decide, by decide⟩⟩
  have hl := (List.getElem?_eq_some_iff.1 hi).1
  have : i = 0 ∨ i = 1 := by simp [kidsPg] at hl; omega
  rcases this with rfl | rfl
  · simp [kidsPg] at hi
    subst hi
    exact ⟨none, 0, none, 0, hc 0 _ rfl, hc 1 _ rfl, hc 2 _ rfl, hc 3 _ rfl, nil_sl, nil_sl, ⟨by decide, by decide⟩, ⟨by decide, by decide⟩⟩
  · simp [kidsPg] at hi
    subst hi
    exact ⟨some ⟨g1, 0, none⟩, 1, none, 0, hc 4 _ rfl, hc 5 _ rfl, hc 6 _ rfl, hc 7 _ rfl, one_sl (b := 109) h1 (rlt_of_heapP h1), nil_sl, ⟨by decide, by decide⟩, ⟨by decide, by decide⟩⟩

theorem below_nextP {a b c : World} (h : Below a.heap.size a b) (hb : Below b.heap.size b c) : Below a.heap.size a c := h.trans (hb.mono h.size)
theorem zero_at {w : World} : PgAt w.heap.size w zeroP none 0 none 0 := ⟨.inl rfl, by decide, fun _ => rfl, nil_sl, ⟨by decide, by decide⟩, ⟨by decide, by decide⟩, ⟨by decide, by decide⟩⟩
theorem two_nts (w : World) (x y : Int) : Nts (w.alloc (.cells #[.int .i64 x, .int .i64 y] 3)) (some ⟨w.heap.size, 0, none⟩) [x, y] := by
  refine .inr ⟨w.heap.size, 0, rfl, by simp, fun i hi => ?_⟩
  rw [cell_of_row _ _ _ _ _ _ (heap_alloc_new w _)]
  have : i = 0 ∨ i = 1 := by simp at hi; omega
  rcases this with rfl | rfl <;> rfl
set_option maxHeartbeats 1000000 in
theorem fixed_any (w : World) : Calls Try.prog 11 #[] w fun e w' => e = .returned (.bool true) ∧ Below w.heap.size w w' := by
  have HE := Lib.hid fun (w' : World) ia (h : PgAt w'.heap.size w' leafP ia 1 none 0) => pEncode_any 5 258 leafP ia 1 none 0 w' h
  rw [leaf_enc] at HE
  unfold Encd at HE
  have hl := leaf_len
  have HD := Lib.hid fun w' a cap (hb : Bts w' a (pblock 5 258 leafP)) (hc : (pblock 5 258 leafP).length ≤ cap) => pDecode_any 5 a cap (pblock 5 258 leafP) w' hb hc
  rw [leaf_dec] at HD
  unfold DecdP at HD
  obtain ⟨p0, p2, p6, p7, p14, p19, p508, p511⟩ := leaf_bytes
  rw [hl] at HD
  simp only [hl] at HE
  generalize pblock 5 258 leafP = L at *
  go_enter Try.func11, Try.ntmps11
  go_wp2_with fail
  refine (leaf_any _).mono ?_
  rintro _ w1 ⟨lg, rfl, hp1, hb1⟩
  have H := Lib.hid (HE.out w1 _ hp1)
  have HB1 := Lib.hid hb1
  clear hp1 hb1 HE
  unfold pgv leafP at H
  simp only [List.length_cons, List.length_nil] at H
  go_wp2_with fail
  refine H.out.mono ?_
  clear H
  rintro _ w2 ⟨oa, oc, rfl, hO, -, hb2⟩
  have HB2 := Lib.hid (HB1.out.trans (hb2.mono HB1.out.size))
  obtain ⟨g, rfl⟩ : ∃ g, oa = some ⟨g, 0, none⟩ := by
    rcases (OR.form hO).2 with ⟨_, _, h0, _⟩ | ⟨g, h1, _⟩
    · rw [hl] at h0; cases h0
    · exact ⟨g, h1⟩
  have hcell : ∀ (i : Nat) (b : UInt8), i < 512 → L.getD i 0 = b → w2.cell? ⟨g, i, none⟩ = some (.int .u8 (b.toNat : Int)) := fun i b hi e => by
    have := (hO.cell (i := i) (by rw [hl]; exact hi)).1
    rw [e] at this; exact this
  have c0 := hcell 0 _ (by decide) p0
  have c2 := hcell 2 _ (by decide) p2
  have c6 := hcell 6 _ (by decide) p6
  have c7 := hcell 7 _ (by decide) p7
  have c14 := hcell 14 _ (by decide) p14
  have c19 := hcell 19 _ (by decide) p19
  have c508 := hcell 508 _ (by decide) p508
  have c511 := hcell 511 _ (by decide) p511
  have n0 : ((1 : UInt8).toNat : Int) = 1 := rfl
  have n2 : ((5 : UInt8).toNat : Int) = 5 := rfl
  have n6 : ((2 : UInt8).toNat : Int) = 2 := rfl
  have n19 : ((120 : UInt8).toNat : Int) = 120 := rfl
  have n508 : ((170 : UInt8).toNat : Int) = 170 := rfl
  have n511 : ((161 : UInt8).toNat : Int) = 161 := rfl
  rw [n0] at c0 c7 c14
  rw [n2] at c2
  rw [n6] at c6
  rw [n19] at c19
  rw [n508] at c508
  rw [n511] at c511
  have hcp := hO.cap
  rw [hl] at hcp
  have H := Lib.hid (HD.out w2 (some ⟨g, 0, none⟩) oc hO.bts hcp.1)
  have hc1 : (512 : Int) ≤ (oc : Int) := by omega
  clear n0 n2 n6 n19 n508 n511 p0 p2 p6 p7 p14 p19 p508 p511 hcell HD hO hcp hb2
  go_wp2_with fail
  refine H.out.mono ?_
  clear H c0 c2 c6 c7 c14 c19 c508 c511
  rintro _ w3 ⟨ja, jc, ea, ec, rfl, hN, hb3⟩
  have hsv : pgv leafP ja jc ea ec = .agg #[.int .i64 1, .int .i64 0, .slice ja 1 jc, .slice ea 0 ec, .int .i64 0] := rfl
  rw [hsv]
  have hp3 := hN.pgAt (by decide) (by decide) (by decide) ⟨by decide, by decide⟩ ⟨by decide, by decide⟩ ⟨by decide, by decide⟩
  have HB3 := Lib.hid (HB2.out.trans (hb3.mono HB2.out.size))
  have hB4 := one_below w3 (.cells #[.int .i64 1, .int .i64 0, .slice ja 1 jc, .slice ea 0 ec, .int .i64 0] 27)
  have HG4 := Lib.hid (heap_alloc_new w3 (.cells #[.int .i64 1, .int .i64 0, .slice ja 1 jc, .slice ea 0 ec, .int .i64 0] 27))
  have HP4 := Lib.hid ((hp3.below hB4).mono hB4.size)
  have HB4 := Lib.hid (HB3.out.trans (hB4.mono HB3.out.size))
  generalize hw4 : w3.alloc (.cells #[.int .i64 1, .int .i64 0, .slice ja 1 jc, .slice ea 0 ec, .int .i64 0] 27) = w4 at HG4 HP4 HB4
  have Hw4 := Lib.hid hw4
  have hs4 : w3.heap.size + 1 = w4.heap.size := by rw [← hw4]; simp
  have hcv := conv_one w4 (.int .u8 109)
  have t4 := rlt_of_heapP HG4.out
  have hB5 := two_below w4 (.cells #[.int .u8 109] 5 (1, 2)) (.cells #[.slice none 0 0, .slice none 0 0, .int .i64 2, .int .i64 0, .slice (some ⟨w4.heap.size, 0, none⟩) 1 1, .slice none 0 0, .int .i64 3, .int .i64 0] 64)
  have hs5 : (w4.alloc (.cells #[.int .u8 109] 5 (1, 2))).heap.size = w4.heap.size + 1 := by simp
  have k1 : ((w4.alloc (.cells #[.int .u8 109] 5 (1, 2))).alloc (.cells #[.slice none 0 0, .slice none 0 0, .int .i64 2, .int .i64 0, .slice (some ⟨w4.heap.size, 0, none⟩) 1 1, .slice none 0 0, .int .i64 3, .int .i64 0] 64)).heap[w4.heap.size]? = some (.cells #[.int .u8 109] 5 (1, 2)) := by
    rw [(one_below (w4.alloc (.cells #[.int .u8 109] 5 (1, 2))) _).block _ (by omega)]; exact heap_alloc_new _ _
  have k2 : ((w4.alloc (.cells #[.int .u8 109] 5 (1, 2))).alloc (.cells #[.slice none 0 0, .slice none 0 0, .int .i64 2, .int .i64 0, .slice (some ⟨w4.heap.size, 0, none⟩) 1 1, .slice none 0 0, .int .i64 3, .int .i64 0] 64)).heap[w4.heap.size + 1]? = some (.cells #[.slice none 0 0, .slice none 0 0, .int .i64 2, .int .i64 0, .slice (some ⟨w4.heap.size, 0, none⟩) 1 1, .slice none 0 0, .int .i64 3, .int .i64 0] 64) := by rw [← hs5]; exact heap_alloc_new _ _
  have HK := Lib.hid (pKids_any kidsPg _ 2 none 0 _ (kids_at k1 k2) (by decide))
  unfold KidsP at HK
  rw [kids_two] at HK
  unfold pgv kidsPg at HK
  simp only [List.length_cons, List.length_nil, Nat.zero_add, Nat.reduceAdd] at HK
  have HB5 := Lib.hid (HB4.out.trans (hB5.mono HB4.out.size))
  have HG5 := Lib.hid ((hB5.block _ t4).trans HG4.out)
  have HP5 := Lib.hid ((HP4.out.below hB5).mono hB5.size)
  clear hN hb3 hp3 hB4 hB5 k1 k2 hs5 hw4
  go_wp2_with fail
  rw [Hw4.out, hcv]
  simp only [Result.andThen]
  rw [Oper.upon_value]
  go_wp2_with fail
  refine HK.out.mono ?_
  clear HK hcv
  rintro _ w6 ⟨ka, kc, rfl, hO6, -, hb6⟩
  generalize (w4.alloc (.cells #[.int .u8 109] 5 (1, 2))).alloc (.cells #[.slice none 0 0, .slice none 0 0, .int .i64 2, .int .i64 0, .slice (some ⟨w4.heap.size, 0, none⟩) 1 1, .slice none 0 0, .int .i64 3, .int .i64 0] 64) = w5 at HB5 HG5 HP5 hb6
  have HB6 := Lib.hid (HB5.out.trans (hb6.mono HB5.out.size))
  have HG6 := (hb6.block _ (rlt_of_heapP HG5.out)).trans HG5.out
  have HP6 := Lib.hid ((HP5.out.below hb6).mono hb6.size)
  have hz6 := rlt_of_heapP HG6
  have HK6 := Lib.hid hO6
  clear hb6 hO6
  generalize w3.heap.size = q at HG6 hz6 ⊢
  have Hk := Lib.hid fun (w' : World) (h : Below w6.heap.size w6 w') => show w'.cell? ⟨q, 0, none⟩ = some (.int .i64 1) ∧ w'.cell? ⟨q, 1, none⟩ = some (.int .i64 0) ∧ w'.cell? ⟨q, 2, none⟩ = some (.slice ja 1 jc) ∧ w'.cell? ⟨q, 3, none⟩ = some (.slice ea 0 ec) ∧ w'.cell? ⟨q, 4, none⟩ = some (.int .i64 0) ∧ Below w6.heap.size w6 w' from by
    obtain ⟨y0, y1, y2, y3, y4⟩ := cells5 ((h.block q hz6).trans HG6)
    exact ⟨y0, y1, y2, y3, y4, h⟩
  have HEP := Lib.hid fun (w7 : World) (h : Below w6.heap.size w6 w7) lg2 (h7 : PgAt w7.heap.size w7 leafP (some ⟨lg2, 0, none⟩) 1 none 0) => show Calls Try.prog 33 #[.agg #[.int .i64 1, .int .i64 0, .slice ja 1 jc, .slice ea 0 ec, .int .i64 0], .agg #[.int .i64 1, .int .i64 0, .slice (some ⟨lg2, 0, none⟩) 1 1, .slice none 0 0, .int .i64 0]] w7 fun e w' => e = .returned (.bool true) ∧ Below w7.heap.size w7 w' from
    (eqPage_any leafP leafP ja jc ea ec (some ⟨lg2, 0, none⟩) 1 none 0 w7 ((HP6.out.below h).mono h.size) h7).mono fun e w' g => ⟨g.1.trans (by simp), g.2⟩
  have HCL := Lib.hid fun (w7 : World) lg2 (h7 : PgAt w7.heap.size w7 leafP (some ⟨lg2, 0, none⟩) 1 none 0) => show Calls Try.prog 26 #[.agg #[.int .i64 1, .int .i64 0, .slice (some ⟨lg2, 0, none⟩) 1 1, .slice none 0 0, .int .i64 0]] w7 fun e w' => e = .returned (.int .i64 0) ∧ Below w7.heap.size w7 w' from
    (pCheck_any leafP (some ⟨lg2, 0, none⟩) 1 none 0 w7 h7).mono fun e w' g => ⟨g.1.trans (by rw [leaf_check]), g.2⟩
  have HCZ := Lib.hid fun (w7 : World) => show Calls Try.prog 26 #[.agg #[.int .i64 0, .int .i64 0, .slice none 0 0, .slice none 0 0, .int .i64 0]] w7 fun e w' => e = .returned (.int .i64 22) ∧ Below w7.heap.size w7 w' from
    (pCheck_any zeroP none 0 none 0 w7 zero_at).mono fun e w' g => ⟨g.1.trans (by rw [zero_check]), g.2⟩
  have HEI := Lib.hid fun (w7 : World) (h : Below w6.heap.size w6 w7) => show Calls Try.prog 35 #[.slice ka 2 kc, .slice (some ⟨w7.heap.size, 0, none⟩) 2 2] (w7.alloc (.cells #[.int .i64 2, .int .i64 3] 3)) fun e w' => e = .returned (.bool true) ∧ Below w7.heap.size w7 w' from
    (eqInts_any [2, 3] [2, 3] ka (some ⟨w7.heap.size, 0, none⟩) kc 2 _ ((HK6.out.nts.below h).below (one_below _ _)) (two_nts w7 2 3) (by decide) (by decide)).mono fun e w' g => ⟨g.1.trans (by simp), (one_below w7 (.cells #[.int .i64 2, .int .i64 3] 3)).trans (g.2.mono (one_below w7 (.cells #[.int .i64 2, .int .i64 3] 3)).size)⟩
  clear HG6 hz6 HB1 HB2 HB3 HB4 HB5 HG4 HG5 HP4 HP5 Hw4 hs4 t4
  go_wp2_with fail
  go_region_held3 (fun w' => w'.cell? ⟨q, 0, none⟩ = some (.int .i64 1) ∧ w'.cell? ⟨q, 1, none⟩ = some (.int .i64 0) ∧ w'.cell? ⟨q, 2, none⟩ = some (.slice ja 1 jc) ∧ w'.cell? ⟨q, 3, none⟩ = some (.slice ea 0 ec) ∧ w'.cell? ⟨q, 4, none⟩ = some (.int .i64 0) ∧ Below w6.heap.size w6 w')
    (first
      | exact Hk.out _ (Below.drew (Below.refl _ _))
      | (refine Hk.out _ ?_; with_reducible assumption)
      | (refine Hk.out _ (below_nextP ?_ (one_below _ _)); with_reducible assumption))
    (first
      | (go_at_call 37; go_split_ands; ((with_reducible refine (leaf_any _).mono ?_); rintro e w7 ⟨lg2, rfl, hl2, hb7⟩)
         have hbn : Below w6.heap.size w6 w7 := below_nextP (by with_reducible assumption) hb7)
      | (go_at_call 33; go_split_ands; ((with_reducible refine (HEP.out _ (by with_reducible assumption) _ (by with_reducible assumption)).mono ?_); rintro e w8 ⟨rfl, hb8⟩)
         have hbn2 : Below w6.heap.size w6 w8 := below_nextP (by with_reducible assumption) hb8)
      | (go_at_call 26; go_split_ands; ((first | (with_reducible refine (HCL.out _ _ (by with_reducible assumption)).mono ?_) | (with_reducible refine (HCZ.out _).mono ?_)); rintro e w9 ⟨rfl, hb9⟩)
         have hbn3 : Below w6.heap.size w6 w9 := below_nextP (by with_reducible assumption) hb9)
      | (go_at_call 35; go_split_ands; ((with_reducible refine (HEI.out _ (by with_reducible assumption)).mono ?_); rintro e w10 ⟨rfl, hb10⟩)
         have hbn4 : Below w6.heap.size w6 w10 := below_nextP (by with_reducible assumption) hb10))
  have HBZ := Lib.hid (HB6.out.trans (hbn4.mono HB6.out.size))
  clear hbn hbn2 hbn3 hbn4 hb7 hb8 hb9 hb10
  go_wp2_with fail
  go_ret
  exact ⟨rfl, HBZ.out⟩
end Go.Proofs.Ytkjgncmbhkhbnaa
