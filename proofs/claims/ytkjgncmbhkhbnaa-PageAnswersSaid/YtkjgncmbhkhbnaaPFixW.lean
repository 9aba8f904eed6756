/- The program's Encode, joined. The program's Decode, joined. The law's leaf and fixed. The law's fixed: true. -/
import Derived.Test.YtkjgncmbhkhbnaaPEncL
import Derived.Test.YtkjgncmbhkhbnaaPEncI
import Derived.Test.YtkjgncmbhkhbnaaPEncB
import Derived.Test.YtkjgncmbhkhbnaaPDec
import Derived.Test.YtkjgncmbhkhbnaaPEqP
import Derived.Lib.SlBytesConst
import Derived.Deep.RegionHeld3
namespace Go.Proofs.Ytkjgncmbhkhbnaa
open Go.RowKit
set_option linter.unusedVariables false
set_option maxRecDepth 100000

set_option maxHeartbeats 800000 in
theorem pEncode_any (no gen : Int) (p : PP) (ia : Option Addr) (ic : Nat) (da : Option Addr) (dc : Nat) (w : World) (hp : PgAt w.heap.size w p ia ic da dc) :
    Calls Try.prog 28 #[.int .i64 no, .int .i64 gen, pgv p ia ic da dc] w (Encd (penc no gen p) w) := by
  by_cases h1 : isPg no = false
  · have HE := Lib.hid (show penc no gen p = (15, []) by unfold penc; rw [if_pos h1])
    have HPG := Lib.hid fun w1 => pIsPage_any no w1
    rw [h1] at HPG
    have HB := Lib.hid (one_below w)
    clear hp h1
    rw [HE.out]
    unfold pgv
    generalize p.items.length = n
    generalize p.data.length = m
    go_enter Try.func28, Try.ntmps28
    go_wp2_with (first
      | (go_at_call 42; refine (HPG.out _).mono ?_; rintro _ _ ⟨rfl, rfl⟩))
    refine bodyPost_ret (v := .tuple #[.slice none 0 0, .int .i64 15]) (by simp [results, Try.results28, go_sem]) rfl ?_
    exact encd_no (HB.out _)
  have h1' : isPg no = true := by simpa using h1
  by_cases h2 : gen < 0 ∨ 1099511627776 < gen
  · have HE := Lib.hid (show penc no gen p = (1, []) by unfold penc; rw [if_neg h1, if_pos h2])
    have HPG := Lib.hid fun w1 => pIsPage_any no w1
    rw [h1'] at HPG
    have HB := Lib.hid (one_below w)
    clear hp h1 h1'
    rw [HE.out]
    unfold pgv
    generalize p.items.length = n
    generalize p.data.length = m
    rcases h2 with h2 | h2
    · go_enter Try.func28, Try.ntmps28
      go_wp2_with (first
        | (go_at_call 42; refine (HPG.out _).mono ?_; rintro _ _ ⟨rfl, rfl⟩))
      refine bodyPost_ret (v := .tuple #[.slice none 0 0, .int .i64 1]) (by simp [results, Try.results28, go_sem]) rfl ?_
      exact encd_no (HB.out _)
    · have h3 : ¬ gen < 0 := by omega
      go_enter Try.func28, Try.ntmps28
      go_wp2_with (first
        | (go_at_call 42; refine (HPG.out _).mono ?_; rintro _ _ ⟨rfl, rfl⟩))
      refine bodyPost_ret (v := .tuple #[.slice none 0 0, .int .i64 1]) (by simp [results, Try.results28, go_sem]) rfl ?_
      exact encd_no (HB.out _)
  have hg : 0 ≤ gen ∧ gen ≤ 1099511627776 := by omega
  by_cases h3 : pcheck p = 0
  · have hpn : 1 ≤ no ∧ no ≤ 65536 := by simpa [isPg] using h1'
    have HE : penc no gen p = (0, pblock no.toNat gen.toNat p) := by unfold penc; rw [if_neg h1, if_neg h2, if_neg (by simpa using h3)]
    rw [HE]
    have hr := pcheck_right h3
    obtain ⟨no, rfl⟩ := Int.eq_ofNat_of_zero_le (show 0 ≤ no by omega)
    obtain ⟨gen, rfl⟩ := Int.eq_ofNat_of_zero_le hg.1
    rw [Int.toNat_natCast, Int.toNat_natCast]
    obtain ⟨kind, level, items, data, next⟩ := p
    have hk := hr.kind
    simp only at hk
    obtain rfl | rfl | rfl : kind = 1 ∨ kind = 2 ∨ kind = 3 := by omega
    · exact pEnc_leaf no gen (by omega) (by omega) level items data next ia ic da dc w hp hr h3
    · exact pEnc_index no gen (by omega) (by omega) level items data next ia ic da dc w hp hr h3
    · exact pEnc_blob no gen (by omega) (by omega) level items data next ia ic da dc w hp hr h3
  · have HE := Lib.hid (show penc no gen p = (pcheck p, []) by unfold penc; rw [if_neg h1, if_neg h2, if_pos h3])
    have HPG := Lib.hid fun w1 => pIsPage_any no w1
    rw [h1'] at HPG
    have HD := Lib.hid (DB.start w p ia ic da dc)
    have HCK := Lib.hid fun w1 (h : Below w.heap.size w w1) => show Calls Try.prog 26 #[pgv p ia ic da dc] w1 fun e w' => e = .returned (.int .i64 (pcheck p)) ∧ Below w1.heap.size w1 w' from pCheck_any p ia ic da dc w1 ((hp.below h).mono h.size)
    rw [HE.out]
    generalize pcheck p = ec at HCK h3 ⊢
    clear hp h1 h1' HE h2
    obtain ⟨hg1, hg2⟩ := hg
    have hg3 : ¬ gen < 0 := by omega
    have hg4 : ¬ 1099511627776 < gen := by omega
    have hec : (ec != 0) = true := by rw [bne_iff_ne]; exact h3
    obtain ⟨kind, level, items, data, next⟩ := p
    unfold pgv at *
    simp only at *
    obtain ⟨n, hn⟩ : ∃ n, items.length = n := ⟨_, rfl⟩
    obtain ⟨m, hm⟩ : ∃ m, data.length = m := ⟨_, rfl⟩
    rw [hn, hm] at HD HCK ⊢
    have HN := Lib.hid hn
    have HM := Lib.hid hm
    clear hn hm
    go_enter Try.func28, Try.ntmps28
    have hD := HD.out
    obtain ⟨c0, c1, c2, c3, c4⟩ := cells5 hD.box
    simp only [] at c0 c1 c2 c3 c4
    rw [HN.out] at c2
    rw [HM.out] at c3
    go_wp2_with (first
      | (go_at_call 42; refine (HPG.out _).mono ?_; rintro _ _ ⟨rfl, rfl⟩))
    refine (HCK.out _ hD.bel).mono ?_
    rintro _ w2 ⟨rfl, hB2⟩
    replace hD := hD.below hB2
    clear c0 c1 c2 c3 c4 hB2
    go_wp2_with fail
    refine bodyPost_ret (v := .tuple #[.slice none 0 0, .int .i64 ec]) (by simp [results, Try.results28, go_sem]) rfl ?_
    exact encd_no hD.bel
end Go.Proofs.Ytkjgncmbhkhbnaa
namespace Go.Proofs.Ytkjgncmbhkhbnaa
open Go.RowKit

theorem pDecode_any (no : Int) (a : Option Addr) (cap : Nat) (bs : List UInt8) (w : World) (hb : Bts w a bs) (hc : bs.length ≤ cap) :
    Calls Try.prog 31 #[.int .i64 no, .slice a bs.length cap] w (DecdP (pdec no bs) w) := by
  rw [← pdecP_eq]
  by_cases h1 : isPg no = false
  · exact pDecode_early no a cap bs w (.inl h1)
  have h1 : isPg no = true := by simpa using h1
  by_cases h2 : bs.length = 512
  · exact pDecode_late no a cap bs w h1 h2 hb hc
  · exact pDecode_early no a cap bs w (.inr ⟨h1, h2⟩)
end Go.Proofs.Ytkjgncmbhkhbnaa
namespace Go.Proofs.Ytkjgncmbhkhbnaa
open Go.RowKit
set_option linter.unusedVariables false
set_option maxRecDepth 100000

def leafP : PP := ⟨1, 0, [⟨[97], [120], 0, 1⟩], [], 0⟩
theorem one_sl {w : World} {B g : Nat} {b : UInt8} {fr : Nat × Nat} (h : w.heap[g]? = some (.cells #[.int .u8 (b.toNat : Int)] 5 fr)) (hg : g < B) : Sl B w (some ⟨g, 0, none⟩) 1 [b] := by
  refine ⟨.inr ⟨g, 0, rfl, (Array.getElem?_eq_some_iff.1 h).1, fun i hi => ?_⟩, .inr fun k e => (by cases e; exact hg), by simp, fun e => by cases e⟩
  have : i = 0 := by simp at hi; omega
  subst this
  rw [cell_of_row _ _ _ _ _ _ h]; rfl
theorem nil_sl {w : World} {B : Nat} : Sl B w none 0 [] := ⟨.inl rfl, .inl rfl, by simp, fun _ => rfl⟩
/-- what leaf leaves -/
def LeafP (w : World) (x : Ending) (w' : World) : Prop := ∃ g, x = .returned (.agg #[.int .i64 1, .int .i64 0, .slice (some ⟨g, 0, none⟩) 1 1, .slice none 0 0, .int .i64 0]) ∧ PgAt w'.heap.size w' leafP (some ⟨g, 0, none⟩) 1 none 0 ∧ Below w.heap.size w w'
theorem leaf_at {w : World} {g1 g2 g3 : Nat} {fr : Nat × Nat} (h1 : w.heap[g1]? = some (.cells #[.int .u8 97] 5 fr)) (h2 : w.heap[g2]? = some (.cells #[.int .u8 120] 5 fr)) (h3 : w.heap[g3]? = some (.cells #[.slice (some ⟨g1, 0, none⟩) 1 1, .slice (some ⟨g2, 0, none⟩) 1 1, .int .i64 0, .int .i64 1] 64)) :
    PgAt w.heap.size w leafP (some ⟨g3, 0, none⟩) 1 none 0 := by
  obtain ⟨c0, c1, c2, c3⟩ := cells4P h3
  refine ⟨.inr ⟨g3, 0, rfl, rlt_of_heapP h3, fun i x hi => ?_⟩, by decide, fun e => (by cases e), nil_sl, ⟨by decide, by decide⟩, ⟨by decide, by decide⟩, ⟨by decide, by decide⟩⟩
  have hl := (List.getElem?_eq_some_iff.1 hi).1
  have : i = 0 := by simp [leafP] at hl; omega
  subst this
  simp [leafP] at hi
  subst hi
  refine ⟨some ⟨g1, 0, none⟩, 1, some ⟨g2, 0, none⟩, 1, ?_, ?_, ?_, ?_, one_sl (b := 97) h1 (rlt_of_heapP h1), one_sl (b := 120) h2 (rlt_of_heapP h2), ⟨by decide, by decide⟩, ⟨by decide, by decide⟩⟩
  · simpa using c0
  · simpa using c1
  · simpa using c2
  · simpa using c3

theorem conv_one (w : World) (x : Value) : Sem.run Try.prog (convert 25 25 (.slice (some ⟨w.heap.size, 0, none⟩) 1 1)) (w.alloc (.cells #[x] 5)) = .ok (.slice (some ⟨w.heap.size, 0, none⟩) 1 1) (w.alloc (.cells #[x] 5 (1, 2))) :=
  Lib.run_convert_bytes_const (P := Try.prog) w 25 5 #[x] 1 1 Try.underlying25 Try.underlying5
/-- four new blocks -/
theorem four_new (w : World) (o0 o1 o2 o3 : Obj) : ((((w.alloc o0).alloc o1).alloc o2).alloc o3).heap[w.heap.size]? = some o0 ∧ ((((w.alloc o0).alloc o1).alloc o2).alloc o3).heap[w.heap.size + 1]? = some o1 ∧ ((((w.alloc o0).alloc o1).alloc o2).alloc o3).heap[w.heap.size + 1 + 1]? = some o2 ∧ ((((w.alloc o0).alloc o1).alloc o2).alloc o3).heap[w.heap.size + 1 + 1 + 1]? = some o3 ∧ Below w.heap.size w ((((w.alloc o0).alloc o1).alloc o2).alloc o3) := by
  have s1 : (w.alloc o0).heap.size = w.heap.size + 1 := by simp
  generalize hw1 : w.alloc o0 = w1 at s1 ⊢
  have a0 : w1.heap[w.heap.size]? = some o0 := by rw [← hw1]; exact heap_alloc_new _ _
  have b0 : Below w.heap.size w w1 := by rw [← hw1]; exact one_below _ _
  have t := two_below w1 o1 o2
  have s2 : (w1.alloc o1).heap.size = w.heap.size + 1 + 1 := by rw [← s1]; simp
  generalize hw2 : w1.alloc o1 = w2 at s2 t ⊢
  have a1 : w2.heap[w.heap.size + 1]? = some o1 := by rw [← hw2, ← s1]; exact heap_alloc_new _ _
  have c0 : w2.heap[w.heap.size]? = some o0 := by rw [← hw2, (one_below w1 o1).block _ (by omega)]; exact a0
  have s3 : (w2.alloc o2).heap.size = w.heap.size + 1 + 1 + 1 := by rw [← s2]; simp
  have q2 := one_below w2 o2
  generalize hw3 : w2.alloc o2 = w3 at s3 q2 t ⊢
  have a2 : w3.heap[w.heap.size + 1 + 1]? = some o2 := by rw [← hw3, ← s2]; exact heap_alloc_new _ _
  have d0 := (q2.block _ (by omega)).trans c0
  have d1 := (q2.block _ (by omega)).trans a1
  have q3 := one_below w3 o3
  refine ⟨(q3.block _ (by omega)).trans d0, (q3.block _ (by omega)).trans d1, (q3.block _ (by omega)).trans a2, ?_, (b0.trans (t.mono (by omega))).trans (q3.mono (by omega))⟩
  rw [← s3]; exact heap_alloc_new _ _

set_option maxHeartbeats 1000000 in
theorem leaf_any (w : World) : Calls Try.prog 37 #[] w (LeafP w) := by
  have hcv1 := conv_one (w.alloc (.cells #[.int .i64 0, .int .i64 0, .slice none 0 0, .slice none 0 0, .int .i64 0] 27)) (.int .u8 97)
  have hcv2 := conv_one ((w.alloc (.cells #[.int .i64 0, .int .i64 0, .slice none 0 0, .slice none 0 0, .int .i64 0] 27)).alloc (.cells #[.int .u8 97] 5 (1, 2))) (.int .u8 120)
  have hs1 : (w.alloc (.cells #[.int .i64 0, .int .i64 0, .slice none 0 0, .slice none 0 0, .int .i64 0] 27)).heap.size = w.heap.size + 1 := by simp
  have hs2 : ((w.alloc (.cells #[.int .i64 0, .int .i64 0, .slice none 0 0, .slice none 0 0, .int .i64 0] 27)).alloc (.cells #[.int .u8 97] 5 (1, 2))).heap.size = w.heap.size + 1 + 1 := by simp
  rw [hs1] at hcv1
  rw [hs2] at hcv2
  clear hs1 hs2
  go_enter Try.func37, Try.ntmps37
  go_wp2_with fail
  obtain ⟨f0, f1, f2, f3, fb⟩ := four_new w (.cells #[.int .i64 1, .int .i64 0, .slice (some ⟨w.heap.size + 1 + 1 + 1, 0, none⟩) 1 1, .slice none 0 0, .int .i64 0] 27) (.cells #[.int .u8 97] 5 (1, 2)) (.cells #[.int .u8 120] 5 (1, 2)) (.cells #[.slice (some ⟨w.heap.size + 1, 0, none⟩) 1 1, .slice (some ⟨w.heap.size + 1 + 1, 0, none⟩) 1 1, .int .i64 0, .int .i64 1] 64)
  generalize ((((w.alloc (.cells #[.int .i64 1, .int .i64 0, .slice (some ⟨w.heap.size + 1 + 1 + 1, 0, none⟩) 1 1, .slice none 0 0, .int .i64 0] 27)).alloc (.cells #[.int .u8 97] 5 (1, 2))).alloc (.cells #[.int .u8 120] 5 (1, 2))).alloc (.cells #[.slice (some ⟨w.heap.size + 1, 0, none⟩) 1 1, .slice (some ⟨w.heap.size + 1 + 1, 0, none⟩) 1 1, .int .i64 0, .int .i64 1] 64)) = W at f0 f1 f2 f3 fb ⊢
  obtain ⟨r0, r1, r2, r3, r4⟩ := cells5 f0
  refine bodyPost_ret (v := .agg #[.int .i64 1, .int .i64 0, .slice (some ⟨w.heap.size + 1 + 1 + 1, 0, none⟩) 1 1, .slice none 0 0, .int .i64 0]) (by simp [results, Try.results37, go_sem, r0, r1, r2, r3, r4]) rfl ?_
  exact ⟨_, rfl, leaf_at f1 f2 f3, fb⟩
end Go.Proofs.Ytkjgncmbhkhbnaa
namespace Go.Proofs.Ytkjgncmbhkhbnaa
open Go.RowKit
set_option linter.unusedVariables false
set_option maxRecDepth 100000

def kidsPg : PP := ⟨2, 1, [⟨[], [], 2, 0⟩, ⟨[109], [], 3, 0⟩], [], 0⟩
theorem leaf_check : pcheck leafP = 0 := by decide
theorem zero_check : pcheck zeroP = 22 := by decide
theorem kids_two : pkids kidsPg = [2, 3] := by decide
theorem leaf_enc : penc 5 258 leafP = (0, pblock 5 258 leafP) := by
  unfold penc
  rw [if_neg (by decide), if_neg (by decide), if_neg (by rw [leaf_check]; decide)]; rfl
theorem leaf_dec : pdec 5 (pblock 5 258 leafP) = (0, leafP, 258) := pdec_laid leaf_check (no := 5) (by decide) (by decide)
theorem leaf_len : (pblock 5 258 leafP).length = 512 := pblock_length (pcheck_right leaf_check) 5 258
set_option maxRecDepth 1000000 in
theorem leaf_bytes : (pblock 5 258 leafP).getD 0 0 = 1 ∧ (pblock 5 258 leafP).getD 2 0 = 5 ∧ (pblock 5 258 leafP).getD 6 0 = 2 ∧ (pblock 5 258 leafP).getD 7 0 = 1 ∧ (pblock 5 258 leafP).getD 14 0 = 1 ∧ (pblock 5 258 leafP).getD 19 0 = 120 ∧ (pblock 5 258 leafP).getD 508 0 = 170 ∧ (pblock 5 258 leafP).getD 511 0 = 161 := by decide +kernel
theorem kids_at {w : World} {g1 g2 : Nat} {fr : Nat × Nat} (h1 : w.heap[g1]? = some (.cells #[.int .u8 109] 5 fr)) (h2 : w.heap[g2]? = some (.cells #[.slice none 0 0, .slice none 0 0, .int .i64 2, .int .i64 0, .slice (some ⟨g1, 0, none⟩) 1 1, .slice none 0 0, .int .i64 3, .int .i64 0] 64)) :
    PgAt w.heap.size w kidsPg (some ⟨g2, 0, none⟩) 2 none 0 := by
  have hc : ∀ k v, (#[Value.slice none 0 0, .slice none 0 0, .int .i64 2, .int .i64 0, .slice (some ⟨g1, 0, none⟩) 1 1, .slice none 0 0, .int .i64 3, .int .i64 0] : Array Value)[k]? = some v → w.cell? ⟨g2, k, none⟩ = some v := fun k v hk => by
    rw [cell_of_row _ _ _ _ _ _ h2]; exact hk
  refine ⟨.inr ⟨g2, 0, rfl, rlt_of_heapP h2, fun i x hi => ?_⟩, by decide, fun e => (by cases e), nil_sl, ⟨by decide, by decide⟩, ⟨by decide, by decide⟩, ⟨by decide, by decide⟩⟩
  have hl := (List.getElem?_eq_some_iff.1 hi).1
  have : i = 0 ∨ i = 1 := by simp [kidsPg] at hl; omega
  rcases this with rfl | rfl
  · simp [kidsPg] at hi
    subst hi
    exact ⟨none, 0, none, 0, hc 0 _ rfl, hc 1 _ rfl, hc 2 _ rfl, hc 3 _ rfl, nil_sl, nil_sl, ⟨by decide, by decide⟩, ⟨by decide, by decide⟩⟩
  · simp [kidsPg] at hi
    subst hi
    exact ⟨some ⟨g1, 0, none⟩, 1, none, 0, hc 4 _ rfl, hc 5 _ rfl, hc 6 _ rfl, hc 7 _ rfl, one_sl (b := 109) h1 (rlt_of_heapP h1), nil_sl, ⟨by decide, by decide⟩, ⟨by decide, by decide⟩⟩

theorem below_nextP {a b c : World} (h : Below a.heap.size a b) (hb : Below b.heap.size b c) : Below a.heap.size a c := h.trans (hb.mono h.size)
theorem zero_at {w : World} : PgAt w.heap.size w zeroP none 0 none 0 := ⟨.inl rfl, by decide, fun _ => rfl, nil_sl, ⟨by decide, by decide⟩, ⟨by decide, by decide⟩, ⟨by decide, by decide⟩⟩
theorem two_nts (w : World) (x y : Int) : Nts (w.alloc (.cells #[.int .i64 x, .int .i64 y] 3)) (some ⟨w.heap.size, 0, none⟩) [x, y] := by
  refine .inr ⟨w.heap.size, 0, rfl, by simp, fun i hi => ?_⟩
  rw [cell_of_row _ _ _ _ _ _ (heap_alloc_new w _)]
  have : i = 0 ∨ i = 1 := by simp at hi; omega
  rcases this with rfl | rfl <;> rfl
set_option maxHeartbeats 1000000 in
theorem fixed_any (w : World) : Calls Try.prog 11 #[] w fun e w' => e = .returned (.bool true) ∧ Below w.heap.size w w' := by
  have HE := Lib.hid fun (w' : World) ia (h : PgAt w'.heap.size w' leafP ia 1 none 0) => pEncode_any 5 258 leafP ia 1 none 0 w' h
  rw [leaf_enc] at HE
  unfold Encd at HE
  have hl := leaf_len
  have HD := Lib.hid fun w' a cap (hb : Bts w' a (pblock 5 258 leafP)) (hc : (pblock 5 258 leafP).length ≤ cap) => pDecode_any 5 a cap (pblock 5 258 leafP) w' hb hc
  rw [leaf_dec] at HD
  unfold DecdP at HD
  obtain ⟨p0, p2, p6, p7, p14, p19, p508, p511⟩ := leaf_bytes
  rw [hl] at HD
  simp only [hl] at HE
  generalize pblock 5 258 leafP = L at *
  go_enter Try.func11, Try.ntmps11
  go_wp2_with fail
  refine (leaf_any _).mono ?_
  rintro _ w1 ⟨lg, rfl, hp1, hb1⟩
  have H := Lib.hid (HE.out w1 _ hp1)
  have HB1 := Lib.hid hb1
  clear hp1 hb1 HE
  unfold pgv leafP at H
  simp only [List.length_cons, List.length_nil] at H
  go_wp2_with fail
  refine H.out.mono ?_
  clear H
  rintro _ w2 ⟨oa, oc, rfl, hO, -, hb2⟩
  have HB2 := Lib.hid (HB1.out.trans (hb2.mono HB1.out.size))
  obtain ⟨g, rfl⟩ : ∃ g, oa = some ⟨g, 0, none⟩ := by
    rcases (OR.form hO).2 with ⟨_, _, h0, _⟩ | ⟨g, h1, _⟩
    · rw [hl] at h0; cases h0
    · exact ⟨g, h1⟩
  have hcell : ∀ (i : Nat) (b : UInt8), i < 512 → L.getD i 0 = b → w2.cell? ⟨g, i, none⟩ = some (.int .u8 (b.toNat : Int)) := fun i b hi e => by
    have := (hO.cell (i := i) (by rw [hl]; exact hi)).1
    rw [e] at this; exact this
  have c0 := hcell 0 _ (by decide) p0
  have c2 := hcell 2 _ (by decide) p2
  have c6 := hcell 6 _ (by decide) p6
  have c7 := hcell 7 _ (by decide) p7
  have c14 := hcell 14 _ (by decide) p14
  have c19 := hcell 19 _ (by decide) p19
  have c508 := hcell 508 _ (by decide) p508
  have c511 := hcell 511 _ (by decide) p511
  have n0 : ((1 : UInt8).toNat : Int) = 1 := rfl
  have n2 : ((5 : UInt8).toNat : Int) = 5 := rfl
  have n6 : ((2 : UInt8).toNat : Int) = 2 := rfl
  have n19 : ((120 : UInt8).toNat : Int) = 120 := rfl
  have n508 : ((170 : UInt8).toNat : Int) = 170 := rfl
  have n511 : ((161 : UInt8).toNat : Int) = 161 := rfl
  rw [n0] at c0 c7 c14
  rw [n2] at c2
  rw [n6] at c6
  rw [n19] at c19
  rw [n508] at c508
  rw [n511] at c511
  have hcp := hO.cap
  rw [hl] at hcp
  have H := Lib.hid (HD.out w2 (some ⟨g, 0, none⟩) oc hO.bts hcp.1)
  have hc1 : (512 : Int) ≤ (oc : Int) := by omega
  clear n0 n2 n6 n19 n508 n511 p0 p2 p6 p7 p14 p19 p508 p511 hcell HD hO hcp hb2
  go_wp2_with fail
  refine H.out.mono ?_
  clear H c0 c2 c6 c7 c14 c19 c508 c511
  rintro _ w3 ⟨ja, jc, ea, ec, rfl, hN, hb3⟩
  have hsv : pgv leafP ja jc ea ec = .agg #[.int .i64 1, .int .i64 0, .slice ja 1 jc, .slice ea 0 ec, .int .i64 0] := rfl
  rw [hsv]
  have hp3 := hN.pgAt (by decide) (by decide) (by decide) ⟨by decide, by decide⟩ ⟨by decide, by decide⟩ ⟨by decide, by decide⟩
  have HB3 := Lib.hid (HB2.out.trans (hb3.mono HB2.out.size))
  have hB4 := one_below w3 (.cells #[.int .i64 1, .int .i64 0, .slice ja 1 jc, .slice ea 0 ec, .int .i64 0] 27)
  have HG4 := Lib.hid (heap_alloc_new w3 (.cells #[.int .i64 1, .int .i64 0, .slice ja 1 jc, .slice ea 0 ec, .int .i64 0] 27))
  have HP4 := Lib.hid ((hp3.below hB4).mono hB4.size)
  have HB4 := Lib.hid (HB3.out.trans (hB4.mono HB3.out.size))
  generalize hw4 : w3.alloc (.cells #[.int .i64 1, .int .i64 0, .slice ja 1 jc, .slice ea 0 ec, .int .i64 0] 27) = w4 at HG4 HP4 HB4
  have Hw4 := Lib.hid hw4
  have hs4 : w3.heap.size + 1 = w4.heap.size := by rw [← hw4]; simp
  have hcv := conv_one w4 (.int .u8 109)
  have t4 := rlt_of_heapP HG4.out
  have hB5 := two_below w4 (.cells #[.int .u8 109] 5 (1, 2)) (.cells #[.slice none 0 0, .slice none 0 0, .int .i64 2, .int .i64 0, .slice (some ⟨w4.heap.size, 0, none⟩) 1 1, .slice none 0 0, .int .i64 3, .int .i64 0] 64)
  have hs5 : (w4.alloc (.cells #[.int .u8 109] 5 (1, 2))).heap.size = w4.heap.size + 1 := by simp
  have k1 : ((w4.alloc (.cells #[.int .u8 109] 5 (1, 2))).alloc (.cells #[.slice none 0 0, .slice none 0 0, .int .i64 2, .int .i64 0, .slice (some ⟨w4.heap.size, 0, none⟩) 1 1, .slice none 0 0, .int .i64 3, .int .i64 0] 64)).heap[w4.heap.size]? = some (.cells #[.int .u8 109] 5 (1, 2)) := by
    rw [(one_below (w4.alloc (.cells #[.int .u8 109] 5 (1, 2))) _).block _ (by omega)]; exact heap_alloc_new _ _
  have k2 : ((w4.alloc (.cells #[.int .u8 109] 5 (1, 2))).alloc (.cells #[.slice none 0 0, .slice none 0 0, .int .i64 2, .int .i64 0, .slice (some ⟨w4.heap.size, 0, none⟩) 1 1, .slice none 0 0, .int .i64 3, .int .i64 0] 64)).heap[w4.heap.size + 1]? = some (.cells #[.slice none 0 0, .slice none 0 0, .int .i64 2, .int .i64 0, .slice (some ⟨w4.heap.size, 0, none⟩) 1 1, .slice none 0 0, .int .i64 3, .int .i64 0] 64) := by rw [← hs5]; exact heap_alloc_new _ _
  have HK := Lib.hid (pKids_any kidsPg _ 2 none 0 _ (kids_at k1 k2) (by decide))
  unfold KidsP at HK
  rw [kids_two] at HK
  unfold pgv kidsPg at HK
  simp only [List.length_cons, List.length_nil, Nat.zero_add, Nat.reduceAdd] at HK
  have HB5 := Lib.hid (HB4.out.trans (hB5.mono HB4.out.size))
  have HG5 := Lib.hid ((hB5.block _ t4).trans HG4.out)
  have HP5 := Lib.hid ((HP4.out.below hB5).mono hB5.size)
  clear hN hb3 hp3 hB4 hB5 k1 k2 hs5 hw4
  go_wp2_with fail
  rw [Hw4.out, hcv]
  simp only [Result.andThen]
  rw [Oper.upon_value]
  go_wp2_with fail
  refine HK.out.mono ?_
  clear HK hcv
  rintro _ w6 ⟨ka, kc, rfl, hO6, -, hb6⟩
  generalize (w4.alloc (.cells #[.int .u8 109] 5 (1, 2))).alloc (.cells #[.slice none 0 0, .slice none 0 0, .int .i64 2, .int .i64 0, .slice (some ⟨w4.heap.size, 0, none⟩) 1 1, .slice none 0 0, .int .i64 3, .int .i64 0] 64) = w5 at HB5 HG5 HP5 hb6
  have HB6 := Lib.hid (HB5.out.trans (hb6.mono HB5.out.size))
  have HG6 := (hb6.block _ (rlt_of_heapP HG5.out)).trans HG5.out
  have HP6 := Lib.hid ((HP5.out.below hb6).mono hb6.size)
  have hz6 := rlt_of_heapP HG6
  have HK6 := Lib.hid hO6
  clear hb6 hO6
  generalize w3.heap.size = q at HG6 hz6 ⊢
  have Hk := Lib.hid fun (w' : World) (h : Below w6.heap.size w6 w') => show w'.cell? ⟨q, 0, none⟩ = some (.int .i64 1) ∧ w'.cell? ⟨q, 1, none⟩ = some (.int .i64 0) ∧ w'.cell? ⟨q, 2, none⟩ = some (.slice ja 1 jc) ∧ w'.cell? ⟨q, 3, none⟩ = some (.slice ea 0 ec) ∧ w'.cell? ⟨q, 4, none⟩ = some (.int .i64 0) ∧ Below w6.heap.size w6 w' from by
    obtain ⟨y0, y1, y2, y3, y4⟩ := cells5 ((h.block q hz6).trans HG6)
    exact ⟨y0, y1, y2, y3, y4, h⟩
  have HEP := Lib.hid fun (w7 : World) (h : Below w6.heap.size w6 w7) lg2 (h7 : PgAt w7.heap.size w7 leafP (some ⟨lg2, 0, none⟩) 1 none 0) => show Calls Try.prog 33 #[.agg #[.int .i64 1, .int .i64 0, .slice ja 1 jc, .slice ea 0 ec, .int .i64 0], .agg #[.int .i64 1, .int .i64 0, .slice (some ⟨lg2, 0, none⟩) 1 1, .slice none 0 0, .int .i64 0]] w7 fun e w' => e = .returned (.bool true) ∧ Below w7.heap.size w7 w' from
    (eqPage_any leafP leafP ja jc ea ec (some ⟨lg2, 0, none⟩) 1 none 0 w7 ((HP6.out.below h).mono h.size) h7).mono fun e w' g => ⟨g.1.trans (by simp), g.2⟩
  have HCL := Lib.hid fun (w7 : World) lg2 (h7 : PgAt w7.heap.size w7 leafP (some ⟨lg2, 0, none⟩) 1 none 0) => show Calls Try.prog 26 #[.agg #[.int .i64 1, .int .i64 0, .slice (some ⟨lg2, 0, none⟩) 1 1, .slice none 0 0, .int .i64 0]] w7 fun e w' => e = .returned (.int .i64 0) ∧ Below w7.heap.size w7 w' from
    (pCheck_any leafP (some ⟨lg2, 0, none⟩) 1 none 0 w7 h7).mono fun e w' g => ⟨g.1.trans (by rw [leaf_check]), g.2⟩
  have HCZ := Lib.hid fun (w7 : World) => show Calls Try.prog 26 #[.agg #[.int .i64 0, .int .i64 0, .slice none 0 0, .slice none 0 0, .int .i64 0]] w7 fun e w' => e = .returned (.int .i64 22) ∧ Below w7.heap.size w7 w' from
    (pCheck_any zeroP none 0 none 0 w7 zero_at).mono fun e w' g => ⟨g.1.trans (by rw [zero_check]), g.2⟩
  have HEI := Lib.hid fun (w7 : World) (h : Below w6.heap.size w6 w7) => show Calls Try.prog 35 #[.slice ka 2 kc, .slice (some ⟨w7.heap.size, 0, none⟩) 2 2] (w7.alloc (.cells #[.int .i64 2, .int .i64 3] 3)) fun e w' => e = .returned (.bool true) ∧ Below w7.heap.size w7 w' from
    (eqInts_any [2, 3] [2, 3] ka (some ⟨w7.heap.size, 0, none⟩) kc 2 _ ((HK6.out.nts.below h).below (one_below _ _)) (two_nts w7 2 3) (by decide) (by decide)).mono fun e w' g => ⟨g.1.trans (by simp), (one_below w7 (.cells #[.int .i64 2, .int .i64 3] 3)).trans (g.2.mono (one_below w7 (.cells #[.int .i64 2, .int .i64 3] 3)).size)⟩
  clear HG6 hz6 HB1 HB2 HB3 HB4 HB5 HG4 HG5 HP4 HP5 Hw4 hs4 t4
  go_wp2_with fail
  go_region_held3 (fun w' => w'.cell? ⟨q, 0, none⟩ = some (.int .i64 1) ∧ w'.cell? ⟨q, 1, none⟩ = some (.int .i64 0) ∧ w'.cell? ⟨q, 2, none⟩ = some (.slice ja 1 jc) ∧ w'.cell? ⟨q, 3, none⟩ = some (.slice ea 0 ec) ∧ w'.cell? ⟨q, 4, none⟩ = some (.int .i64 0) ∧ Below w6.heap.size w6 w')
    (first
      | exact Hk.out _ (Below.drew (Below.refl _ _))
      | (refine Hk.out _ ?_; with_reducible assumption)
      | (refine Hk.out _ (below_nextP ?_ (one_below _ _)); with_reducible assumption))
    (first
      | (go_at_call 37; go_split_ands; ((with_reducible refine (leaf_any _).mono ?_); rintro e w7 ⟨lg2, rfl, hl2, hb7⟩)
         have hbn : Below w6.heap.size w6 w7 := below_nextP (by with_reducible assumption) hb7)
      | (go_at_call 33; go_split_ands; ((with_reducible refine (HEP.out _ (by with_reducible assumption) _ (by with_reducible assumption)).mono ?_); rintro e w8 ⟨rfl, hb8⟩)
         have hbn2 : Below w6.heap.size w6 w8 := below_nextP (by with_reducible assumption) hb8)
      | (go_at_call 26; go_split_ands; ((first | (with_reducible refine (HCL.out _ _ (by with_reducible assumption)).mono ?_) | (with_reducible refine (HCZ.out _).mono ?_)); rintro e w9 ⟨rfl, hb9⟩)
         have hbn3 : Below w6.heap.size w6 w9 := below_nextP (by with_reducible assumption) hb9)
      | (go_at_call 35; go_split_ands; ((with_reducible refine (HEI.out _ (by with_reducible assumption)).mono ?_); rintro e w10 ⟨rfl, hb10⟩)
         have hbn4 : Below w6.heap.size w6 w10 := below_nextP (by with_reducible assumption) hb10))
  have HBZ := Lib.hid (HB6.out.trans (hbn4.mono HB6.out.size))
  clear hbn hbn2 hbn3 hbn4 hb7 hb8 hb9 hb10
  go_wp2_with fail
  go_ret
  exact ⟨rfl, HBZ.out⟩
end Go.Proofs.Ytkjgncmbhkhbnaa
