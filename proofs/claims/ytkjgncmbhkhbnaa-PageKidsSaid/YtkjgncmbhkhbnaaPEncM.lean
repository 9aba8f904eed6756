/- The program's Encode, joined. -/
import Derived.Test.YtkjgncmbhkhbnaaPEncL
import Derived.Test.YtkjgncmbhkhbnaaPEncI
import Derived.Test.YtkjgncmbhkhbnaaPEncB
namespace Go.Proofs.Ytkjgncmbhkhbnaa
open Go.RowKit
set_option linter.unusedVariables false
set_option maxRecDepth 100000

set_option maxHeartbeats 800000 in
theorem pEncode_any (no gen : Int) (p : PP) (ia : Option Addr) (ic : Nat) (da : Option Addr) (dc : Nat) (w : World) (hp : PgAt w.heap.size w p ia ic da dc) :
    Calls Try.prog 28 #[.int .i64 no, .int .i64 gen, pgv p ia ic da dc] w (Encd (penc no gen p) w) := by
  by_cases h1 : isPg no = false
  · have HE := Lib.hid (show penc no gen p = (15, []) by unfold penc; rw [if_pos h1])
    have HPG := Lib.hid fun w1 => pIsPage_any no w1
    rw [h1] at HPG
    have HB := Lib.hid (one_below w)
    clear hp h1
    rw [HE.out]
    unfold pgv
    generalize p.items.length = n
    generalize p.data.length = m
    go_enter Try.func28, Try.ntmps28
    go_wp2_with (first
      | (go_at_call 42; refine (HPG.out _).mono ?_; rintro _ _ ⟨rfl, rfl⟩))
    refine bodyPost_ret (v := .tuple #[.slice none 0 0, .int .i64 15]) (by simp [results, Try.results28, go_sem]) rfl ?_
    exact encd_no (HB.out _)
  have h1' : isPg no = true := by simpa using h1
  by_cases h2 : gen < 0 ∨ 1099511627776 < gen
  · have HE := Lib.hid (show penc no gen p = (1, []) by unfold penc; rw [if_neg h1, if_pos h2])
    have HPG := Lib.hid fun w1 => pIsPage_any no w1
    rw [h1'] at HPG
    have HB := Lib.hid (one_below w)
    clear hp h1 h1'
    rw [HE.out]
    unfold pgv
    generalize p.items.length = n
    generalize p.data.length = m
    rcases h2 with h2 | h2
    · go_enter Try.func28, Try.ntmps28
      go_wp2_with (first
        | (go_at_call 42; refine (HPG.out _).mono ?_; rintro _ _ ⟨rfl, rfl⟩))
      refine bodyPost_ret (v := .tuple #[.slice none 0 0, .int .i64 1]) (by simp [results, Try.results28, go_sem]) rfl ?_
      exact encd_no (HB.out _)
    · have h3 : ¬ gen < 0 := by omega
      go_enter Try.func28, Try.ntmps28
      go_wp2_with (first
        | (go_at_call 42; refine (HPG.out _).mono ?_; rintro _ _ ⟨rfl, rfl⟩))
      refine bodyPost_ret (v := .tuple #[.slice none 0 0, .int .i64 1]) (by simp [results, Try.results28, go_sem]) rfl ?_
      exact encd_no (HB.out _)
  have hg : 0 ≤ gen ∧ gen ≤ 1099511627776 := by omega
  by_cases h3 : pcheck p = 0
  · have hpn : 1 ≤ no ∧ no ≤ 65536 := by simpa [isPg] using h1'
    have HE : penc no gen p = (0, pblock no.toNat gen.toNat p) := by unfold penc; rw [if_neg h1, if_neg h2, if_neg (by simpa using h3)]
    rw [HE]
    have hr := pcheck_right h3
    obtain ⟨no, rfl⟩ := Int.eq_ofNat_of_zero_le (show 0 ≤ no by omega)
    obtain ⟨gen, rfl⟩ := Int.eq_ofNat_of_zero_le hg.1
    rw [Int.toNat_natCast, Int.toNat_natCast]
    obtain ⟨kind, level, items, data, next⟩ := p
    have hk := hr.kind
    simp only at hk
    obtain rfl | rfl | rfl : kind = 1 ∨ kind = 2 ∨ kind = 3 := by omega
    · exact pEnc_leaf no gen (by omega) (by omega) level items data next ia ic da dc w hp hr h3
    · exact pEnc_index no gen (by omega) (by omega) level items data next ia ic da dc w hp hr h3
    · exact pEnc_blob no gen (by omega) (by omega) level items data next ia ic da dc w hp hr h3
  · have HE := Lib.hid (show penc no gen p = (pcheck p, []) by unfold penc; rw [if_neg h1, if_neg h2, if_pos h3])
    have HPG := Lib.hid fun w1 => pIsPage_any no w1
    rw [h1'] at HPG
    have HD := Lib.hid (DB.start w p ia ic da dc)
    have HCK := Lib.hid fun w1 (h : Below w.heap.size w w1) => show Calls Try.prog 26 #[pgv p ia ic da dc] w1 fun e w' => e = .returned (.int .i64 (pcheck p)) ∧ Below w1.heap.size w1 w' from pCheck_any p ia ic da dc w1 ((hp.below h).mono h.size)
    rw [HE.out]
    generalize pcheck p = ec at HCK h3 ⊢
    clear hp h1 h1' HE h2
    obtain ⟨hg1, hg2⟩ := hg
    have hg3 : ¬ gen < 0 := by omega
    have hg4 : ¬ 1099511627776 < gen := by omega
    have hec : (ec != 0) = true := by rw [bne_iff_ne]; exact h3
    obtain ⟨kind, level, items, data, next⟩ := p
    unfold pgv at *
    simp only at *
    obtain ⟨n, hn⟩ : ∃ n, items.length = n := ⟨_, rfl⟩
    obtain ⟨m, hm⟩ : ∃ m, data.length = m := ⟨_, rfl⟩
    rw [hn, hm] at HD HCK ⊢
    have HN := Lib.hid hn
    have HM := Lib.hid hm
    clear hn hm
    go_enter Try.func28, Try.ntmps28
    have hD := HD.out
    obtain ⟨c0, c1, c2, c3, c4⟩ := cells5 hD.box
    simp only [] at c0 c1 c2 c3 c4
    rw [HN.out] at c2
    rw [HM.out] at c3
    go_wp2_with (first
      | (go_at_call 42; refine (HPG.out _).mono ?_; rintro _ _ ⟨rfl, rfl⟩))
    refine (HCK.out _ hD.bel).mono ?_
    rintro _ w2 ⟨rfl, hB2⟩
    replace hD := hD.below hB2
    clear c0 c1 c2 c3 c4 hB2
    go_wp2_with fail
    refine bodyPost_ret (v := .tuple #[.slice none 0 0, .int .i64 ec]) (by simp [results, Try.results28, go_sem]) rfl ?_
    exact encd_no hD.bel
end Go.Proofs.Ytkjgncmbhkhbnaa
