/- The document's Encode. -/
import Derived.Test.YtkjgncmbhkhbnaaDBodyL
import Derived.Test.YtkjgncmbhkhbnaaDBodyI
import Derived.Test.YtkjgncmbhkhbnaaDChkM
namespace Go.Proofs.Ytkjgncmbhkhbnaa
open Go.RowKit
set_option linter.unusedVariables false
set_option maxRecDepth 100000

theorem dBody_any (no gen : Nat) (hno : no ≤ 65536) (hgen : gen ≤ 1099511627776) (p : PP) (ia : Option Addr) (ic : Nat) (da : Option Addr) (dc : Nat) (w : World) (hp : PgAt w.heap.size w p ia ic da dc) (hr : RightP p) :
    Calls Try.prog 52 #[.int .i64 (no : Int), .int .i64 (gen : Int), pgv p ia ic da dc] w (LowB w.heap.size (pbody no gen p).length (pbody no gen p) w) := by
  obtain ⟨kind, level, items, data, next⟩ := p
  have hk := hr.kind
  simp only at hk
  obtain rfl | rfl | rfl : kind = 1 ∨ kind = 2 ∨ kind = 3 := by omega
  · exact dBody_leaf no gen hno hgen level items data next ia ic da dc w hp hr
  · exact dBody_index no gen hno hgen level items data next ia ic da dc w hp hr
  · exact dBody_blob no gen hno hgen level items data next ia ic da dc w hp hr
theorem encd_own {w w' : World} {bs : List UInt8} {oa : Option Addr} {cap m : Nat} (hm : bs.length = m) (hO : OB w' oa cap bs) (hn : ∀ k, blk oa = some k → w.heap.size ≤ k) (hb : Below w.heap.size w w') : Encd (0, bs) w (.returned (.tuple #[.slice oa m cap, .int .i64 0])) w' := by
  subst hm
  exact ⟨oa, cap, rfl, hO, hn, hb⟩

set_option maxHeartbeats 1000000 in
theorem dEncode_any (no gen : Int) (p : PP) (ia : Option Addr) (ic : Nat) (da : Option Addr) (dc : Nat) (w : World) (hp : PgAt w.heap.size w p ia ic da dc) :
    Calls Try.prog 29 #[.int .i64 no, .int .i64 gen, pgv p ia ic da dc] w (Encd (penc no gen p) w) := by
  have HPG := Lib.hid fun w1 => dIsPage_any no w1
  by_cases h1 : isPg no = false
  · have HE := Lib.hid (show penc no gen p = (15, []) by unfold penc; rw [if_pos h1])
    rw [h1] at HPG
    have HB := Lib.hid (one_below w)
    clear hp h1
    rw [HE.out]
    unfold pgv
    generalize p.items.length = n
    generalize p.data.length = m
    go_enter Try.func29, Try.ntmps29
    go_wp2_with (first
      | (go_at_call 48; refine (HPG.out _).mono ?_; rintro _ _ ⟨rfl, rfl⟩))
    refine bodyPost_ret (v := .tuple #[.slice none 0 0, .int .i64 15]) (by simp [results, Try.results29, go_sem]) rfl ?_
    exact encd_no (HB.out _)
  have h1' : isPg no = true := by simpa using h1
  rw [h1'] at HPG
  by_cases h2 : gen < 0 ∨ 1099511627776 < gen
  · have HE := Lib.hid (show penc no gen p = (1, []) by unfold penc; rw [if_neg h1, if_pos h2])
    have HB := Lib.hid (one_below w)
    clear hp h1 h1'
    rw [HE.out]
    unfold pgv
    generalize p.items.length = n
    generalize p.data.length = m
    rcases h2 with h2 | h2
    · go_enter Try.func29, Try.ntmps29
      go_wp2_with (first
        | (go_at_call 48; refine (HPG.out _).mono ?_; rintro _ _ ⟨rfl, rfl⟩))
      refine bodyPost_ret (v := .tuple #[.slice none 0 0, .int .i64 1]) (by simp [results, Try.results29, go_sem]) rfl ?_
      exact encd_no (HB.out _)
    · have h3 : ¬ gen < 0 := by omega
      go_enter Try.func29, Try.ntmps29
      go_wp2_with (first
        | (go_at_call 48; refine (HPG.out _).mono ?_; rintro _ _ ⟨rfl, rfl⟩))
      refine bodyPost_ret (v := .tuple #[.slice none 0 0, .int .i64 1]) (by simp [results, Try.results29, go_sem]) rfl ?_
      exact encd_no (HB.out _)
  have hg : 0 ≤ gen ∧ gen ≤ 1099511627776 := by omega
  have HD := Lib.hid (DB.start w p ia ic da dc)
  have HCK := Lib.hid fun w1 (h : Below w.heap.size w w1) => show Calls Try.prog 27 #[pgv p ia ic da dc] w1 fun e w' => e = .returned (.int .i64 (pcheck p)) ∧ Below w1.heap.size w1 w' from dCheck_any p ia ic da dc w1 ((hp.below h).mono h.size)
  by_cases h3 : pcheck p = 0
  · have hpn : 1 ≤ no ∧ no ≤ 65536 := by simpa [isPg] using h1'
    have HE := Lib.hid (show penc no gen p = (0, pblock no.toNat gen.toNat p) by unfold penc; rw [if_neg h1, if_neg h2, if_neg (by simpa using h3)])
    have hr := pcheck_right h3
    obtain ⟨no, rfl⟩ := Int.eq_ofNat_of_zero_le (show 0 ≤ no by omega)
    obtain ⟨gen, rfl⟩ := Int.eq_ofNat_of_zero_le hg.1
    rw [Int.toNat_natCast, Int.toNat_natCast] at HE
    have HBY := Lib.hid fun w1 (h : Below w.heap.size w w1) => dBody_any no gen (by omega) (by omega) p ia ic da dc w1 ((hp.below h).mono h.size) hr
    have HLE := Lib.hid (hr.body no gen)
    have HBL := Lib.hid (pblock_length hr no gen)
    have HSM := Lib.hid fun oa cap w1 hb => dSummed_any oa cap (pbody no gen p) HLE.out w1 hb
    have HPB := Lib.hid (show summed (fullB (pbody no gen p)) = pblock no gen p from rfl)
    rw [HPB.out] at HSM
    rw [HE.out]
    rw [h3] at HCK
    unfold LowB at HBY HSM
    generalize pbody no gen p = bd at *
    generalize pblock no gen p = pb at *
    obtain ⟨l, hl⟩ : ∃ l, bd.length = l := ⟨_, rfl⟩
    simp only [hl] at HBY HSM
    clear hp h1 h1' HE h2 hpn hr h3 HPB HLE hl
    obtain ⟨hg1, hg2⟩ := hg
    have hg3 : ¬ (gen : Int) < 0 := by omega
    have hg4 : ¬ 1099511627776 < (gen : Int) := by omega
    obtain ⟨kind, level, items, data, next⟩ := p
    unfold pgv at *
    simp only at *
    obtain ⟨n, hn⟩ : ∃ n, items.length = n := ⟨_, rfl⟩
    obtain ⟨m, hm⟩ : ∃ m, data.length = m := ⟨_, rfl⟩
    rw [hn, hm] at HD HCK HBY ⊢
    have HN := Lib.hid hn
    have HM := Lib.hid hm
    clear hn hm
    go_enter Try.func29, Try.ntmps29
    have hD := HD.out
    obtain ⟨c0, c1, c2, c3, c4⟩ := cells5 hD.box
    simp only [] at c0 c1 c2 c3 c4
    rw [HN.out] at c2
    rw [HM.out] at c3
    go_wp2_with (first
      | (go_at_call 48; refine (HPG.out _).mono ?_; rintro _ _ ⟨rfl, rfl⟩))
    refine (HCK.out _ hD.bel).mono ?_
    rintro _ w2 ⟨rfl, hB2⟩
    replace hD := hD.below hB2
    clear c0 c1 c2 c3 c4 hB2
    obtain ⟨c0, c1, c2, c3, c4⟩ := cells5 hD.box
    simp only [] at c0 c1 c2 c3 c4
    rw [HN.out] at c2
    rw [HM.out] at c3
    go_wp2_with fail
    refine (HBY.out _ hD.bel).mono ?_
    rintro _ w3 ⟨oa3, oc3, rfl, hO3, hB3⟩
    have HB3 := Lib.hid (hD.bel.trans (hB3.mono hD.bel.size))
    have HO3 := Lib.hid hO3
    clear c0 c1 c2 c3 c4 hD hB3 hO3
    go_wp2_with fail
    refine (HSM.out oa3 oc3 w3 HO3.out.1.bts).mono ?_
    rintro _ w4 ⟨oa4, oc4, rfl, hO4, hB4⟩
    have HF := Lib.hid (encd_own HBL.out hO4.1 (fun k hk => Nat.le_trans HB3.out.size (hO4.2.2 k hk)) (HB3.out.trans (hB4.mono HB3.out.size)))
    clear hO4 hB4
    go_wp2_with fail
    refine bodyPost_ret (v := .tuple #[.slice oa4 512 oc4, .int .i64 0]) (by simp [results, Try.results29, go_sem]) rfl ?_
    exact HF.out
  · have HE := Lib.hid (show penc no gen p = (pcheck p, []) by unfold penc; rw [if_neg h1, if_neg h2, if_pos h3])
    rw [HE.out]
    generalize pcheck p = ec at HCK h3 ⊢
    clear hp h1 h1' HE h2
    obtain ⟨hg1, hg2⟩ := hg
    have hg3 : ¬ gen < 0 := by omega
    have hg4 : ¬ 1099511627776 < gen := by omega
    have hec : (ec != 0) = true := by rw [bne_iff_ne]; exact h3
    obtain ⟨kind, level, items, data, next⟩ := p
    unfold pgv at *
    simp only at *
    obtain ⟨n, hn⟩ : ∃ n, items.length = n := ⟨_, rfl⟩
    obtain ⟨m, hm⟩ : ∃ m, data.length = m := ⟨_, rfl⟩
    rw [hn, hm] at HD HCK ⊢
    have HN := Lib.hid hn
    have HM := Lib.hid hm
    clear hn hm
    go_enter Try.func29, Try.ntmps29
    have hD := HD.out
    obtain ⟨c0, c1, c2, c3, c4⟩ := cells5 hD.box
    simp only [] at c0 c1 c2 c3 c4
    rw [HN.out] at c2
    rw [HM.out] at c3
    go_wp2_with (first
      | (go_at_call 48; refine (HPG.out _).mono ?_; rintro _ _ ⟨rfl, rfl⟩))
    refine (HCK.out _ hD.bel).mono ?_
    rintro _ w2 ⟨rfl, hB2⟩
    replace hD := hD.below hB2
    clear c0 c1 c2 c3 c4 hB2
    go_wp2_with fail
    refine bodyPost_ret (v := .tuple #[.slice none 0 0, .int .i64 ec]) (by simp [results, Try.results29, go_sem]) rfl ?_
    exact encd_no hD.bel
end Go.Proofs.Ytkjgncmbhkhbnaa
