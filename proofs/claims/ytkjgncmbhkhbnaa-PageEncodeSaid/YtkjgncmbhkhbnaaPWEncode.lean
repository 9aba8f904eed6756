/- The walk of PageEncode. -/
import Derived.Test.YtkjgncmbhkhbnaaDEncM
import Derived.Test.YtkjgncmbhkhbnaaPFixW
namespace Go.Proofs.Ytkjgncmbhkhbnaa
open Go.RowKit
set_option linter.unusedVariables false
set_option maxRecDepth 100000

theorem penc_small {no gen : Int} {p : PP} : (penc no gen p).2.length ≤ 512 := by
  unfold penc
  split
  · exact Nat.zero_le _
  · split
    · exact Nat.zero_le _
    · split
      · exact Nat.zero_le _
      · rename_i h
        exact Nat.le_of_eq (pblock_length (pcheck_right (Decidable.not_not.1 h)) _ _)
set_option maxHeartbeats 1000000 in
theorem pageEncode_walk (no gen : Int) (p : PP) (ia : Option Addr) (ic : Nat) (da : Option Addr) (dc : Nat) (W : World) (h0 : (Lit.int .i64 no).wf = true) (h1 : (Lit.int .i64 gen).wf = true) (hp : PgAt W.heap.size W p ia ic da dc) :
    Calls Try.prog 5 #[.int .i64 no, .int .i64 gen, pgv p ia ic da dc] W fun e W' => e = .returned (.bool true) ∧ Below W.heap.size W W' := by
  have HE := Lib.hid fun w1 (h : Below W.heap.size W w1) => pEncode_any no gen p ia ic da dc w1 ((hp.below h).mono h.size)
  have HF := Lib.hid fun w1 (h : Below W.heap.size W w1) => dEncode_any no gen p ia ic da dc w1 ((hp.below h).mono h.size)
  have HS := Lib.hid (penc_small (no := no) (gen := gen) (p := p))
  have HD := Lib.hid (DB.start W p ia ic da dc)
  unfold Encd at HE HF
  generalize penc no gen p = r at *
  obtain ⟨e, bs⟩ := r
  simp only at HE HF HS
  obtain ⟨l, hl⟩ : ∃ l, bs.length = l := ⟨_, rfl⟩
  simp only [hl] at HE HF
  have HL := Lib.hid hl
  clear hp hl
  obtain ⟨kind, level, items, data, next⟩ := p
  unfold pgv at *
  simp only at *
  obtain ⟨n, hn⟩ : ∃ n, items.length = n := ⟨_, rfl⟩
  obtain ⟨m, hm⟩ : ∃ m, data.length = m := ⟨_, rfl⟩
  rw [hn, hm] at HD HE HF ⊢
  have HN := Lib.hid hn
  have HM := Lib.hid hm
  clear hn hm
  go_enter Try.func5, Try.ntmps5
  have hD := HD.out
  obtain ⟨c0, c1, c2, c3, c4⟩ := cells5 hD.box
  simp only [] at c0 c1 c2 c3 c4
  rw [HN.out] at c2
  rw [HM.out] at c3
  go_wp2_with fail
  refine (HE.out _ hD.bel).mono ?_
  rintro _ w2 ⟨oa, oc, rfl, hO, -, hB2⟩
  replace hD := hD.below hB2
  have HO := Lib.hid hO
  clear c0 c1 c2 c3 c4 hB2 hO HE
  obtain ⟨c0, c1, c2, c3, c4⟩ := cells5 hD.box
  simp only [] at c0 c1 c2 c3 c4
  rw [HN.out] at c2
  rw [HM.out] at c3
  go_wp2_with fail
  refine (HF.out _ hD.bel).mono ?_
  rintro _ w3 ⟨oa2, oc2, rfl, hO2, -, hB3⟩
  have HO1 := Lib.hid (HO.out.below hB3)
  have HO2 := Lib.hid hO2
  have HD3 := Lib.hid (hD.below hB3)
  clear c0 c1 c2 c3 c4 hB3 hO2 HF HO hD
  go_wp2_with fail
  refine (fixed_any _).mono ?_
  rintro _ w4 ⟨rfl, hB4⟩
  have H5 := Lib.hid (eqBytes_any bs bs oa oa2 oc oc2 (Nat.le_trans HS.out (by decide)) (Nat.le_trans HS.out (by decide)) w4 ((HO1.out.below hB4).bts) ((HO2.out.below hB4).bts))
  rw [HL.out] at H5
  unfold Same at H5
  have HB4 := Lib.hid (HD3.out.below hB4).bel
  clear hB4 HO1 HO2 HD3
  go_wp2_with fail
  refine H5.out.mono ?_
  rintro _ w5 ⟨rfl, hb5⟩
  have HB5 := Lib.hid (HB4.out.trans (hb5.mono HB4.out.size))
  clear hb5 H5
  go_wp2_with fail
  all_goals
    go_ret
    exact ⟨by simp, HB5.out⟩
end Go.Proofs.Ytkjgncmbhkhbnaa
