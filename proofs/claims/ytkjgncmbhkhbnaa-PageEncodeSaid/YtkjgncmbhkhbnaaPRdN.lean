/- The program's reader: number, fresh, zeros. -/
import Derived.Test.YtkjgncmbhkhbnaaPRd
namespace Go.Proofs.Ytkjgncmbhkhbnaa
open Go.RowKit
set_option linter.unusedVariables false
set_option maxRecDepth 100000

/-- what number leaves -/
def NumdP (p b off cap : Nat) (bs : List UInt8) (r : PR) (n : Nat) (w : World) (x : Ending) (w' : World) : Prop :=
  x = .returned (.int .u64 ((pnum bs r n).1 : Nat)) ∧ RdAft p b off cap bs (pnum bs r n).2 w w'
def RelNum (l : List UInt8) (x i : Value) : Prop := ∃ j : Nat, j ≤ l.length ∧ i = .int .i64 j ∧ x = .int .u64 ((unle (l.take j) : Nat) : Int)
theorem ptake_len (bs : List UInt8) (r : PR) (n : Nat) : (ptake bs r n).1.length ≤ n := by
  unfold ptake; split
  · simp
  · unfold piece; simp; omega
set_option maxHeartbeats 1000000 in
theorem number_any (p b off cap : Nat) (bs : List UInt8) (r : PR) (n : Nat) (hn : n ≤ 8) (w : World) (h : IsRd w p b off cap bs r) :
    Calls Try.prog 53 #[.pointer (some ⟨p, 0, none⟩), .int .i64 (n : Int)] w (NumdP p b off cap bs r n w) := by
  have H := Lib.hid (take_any p b off cap bs r n (by omega) w h)
  have HQ := Lib.hid fun w1 (h : RdAft p b off cap bs (ptake bs r n).2 w w1) => (show NumdP p b off cap bs r n w (.returned (.int .u64 (unle (ptake bs r n).1 : Nat))) w1 from ⟨rfl, h⟩)
  have hl := ptake_len bs r n
  unfold TookP at H
  generalize (ptake bs r n).1 = l at H HQ hl
  generalize (ptake bs r n).2 = r2 at H HQ
  clear h
  obtain ⟨m, hm⟩ : ∃ m, l.length = m := ⟨_, rfl⟩
  rw [hm] at H hl
  have HM := Lib.hid hm
  clear hm
  go_enter Try.func53, Try.ntmps53
  go_wp2_with fail
  refine H.out.mono ?_
  rintro _ w2 ⟨a', c', rfl, hB, -, hA⟩
  have HA := Lib.hid hA
  clear hA H
  go_wp2_with fail
  go_loop [5, 12] (RelNum l) (fun _ i => m - (intOf i).toNat)
  case atStart => exact ⟨0, Nat.zero_le _, rfl, rfl⟩
  case round =>
    obtain ⟨j, hj, rfl, rfl⟩ := hrel
    rw [HM.out] at hj
    by_cases hlt : j < m
    · obtain ⟨b2, o2, rfl, -, hc⟩ := hB.at (k := j) (by rw [HM.out]; exact hlt)
      have hw8 : wrap64 (8 * (j : Int)) = 8 * (j : Int) := IntWalk.wrap64_in _ ⟨by omega, by omega⟩
      have hu := unle_take l j (by rw [HM.out]; exact hlt) (by omega)
      have Hu := Lib.hid hu
      clear hu
      go_wp2_with fail
      rw [Hu.out]
      go_round
      case rel => exact ⟨j + 1, by rw [HM.out]; omega, by go_num, rfl⟩
      case measure => simp [intOf]; omega
    · go_wp2_with fail
      rw [List.take_of_length_le (i := j) (l := l) (by rw [HM.out]; omega)]
      go_ret
      exact HQ.out _ HA.out

/-- what fresh leaves -/
def FrshP (p b off cap : Nat) (bs : List UInt8) (r : PR) (n : Nat) (w : World) (x : Ending) (w' : World) : Prop :=
  ∃ oa c', x = .returned (.slice oa (ptake bs r n).1.length c') ∧ OB w' oa c' (ptake bs r n).1 ∧ (∀ k, blk oa = some k → w.heap.size ≤ k) ∧ RdAft p b off cap bs (ptake bs r n).2 w w'
set_option maxHeartbeats 1000000 in
theorem fresh_any (p b off cap : Nat) (bs : List UInt8) (r : PR) (n : Nat) (hn : n ≤ 70000) (w : World) (h : IsRd w p b off cap bs r) :
    Calls Try.prog 54 #[.pointer (some ⟨p, 0, none⟩), .int .i64 (n : Int)] w (FrshP p b off cap bs r n w) := by
  have H := Lib.hid (take_any p b off cap bs r n (by omega) w h)
  have hl := ptake_len bs r n
  unfold TookP at H
  have HQ := Lib.hid fun w1 oa c' (h1 : OB w1 oa c' (ptake bs r n).1) (h2 : ∀ k, blk oa = some k → w.heap.size ≤ k) (h : RdAft p b off cap bs (ptake bs r n).2 w w1) => (show FrshP p b off cap bs r n w (.returned (.slice oa (ptake bs r n).1.length c')) w1 from ⟨oa, c', rfl, h1, h2, h⟩)
  generalize (ptake bs r n).1 = l at H HQ hl
  generalize (ptake bs r n).2 = r2 at H HQ
  clear h
  obtain ⟨m, hm⟩ : ∃ m, l.length = m := ⟨_, rfl⟩
  rw [hm] at H HQ hl
  have HM := Lib.hid hm
  clear hm
  go_enter Try.func54, Try.ntmps54
  go_wp2_with fail
  refine H.out.mono ?_
  rintro _ w2 ⟨a', c', rfl, hB, hn0, hA⟩
  have HA := Lib.hid hA
  have HNW := Lib.hid (hB.news hn0)
  rw [HM.out] at HNW
  clear hA H hB
  go_wp2_with (at_builtin; refine wpList_append_or eB rfl (.const (.slice none 0 0)) (.tmp 7) rfl rfl (OB.nil _) rfl (m := m) (news := cellsB l) (by rw [cellsB_length, HM.out]; exact (Nat.mul_one _).symm) HNW.out (cellsB_one _) (by show (0 + m) * 1 ≤ _; omega) (by omega) ?_
               intro oa2 cap2 w3 hO3 hC3 hb3 _)
  go_ret
  have hO : OB w3 oa2 cap2 l := by unfold OB; rw [HM.out]; simpa [cellsB] using hO3
  have hsz : w.heap.size ≤ w2.heap.size := HA.out.2.size
  have hres := HQ.out w3 oa2 cap2 hO (fun k hk => by
    rcases hb3 with h | h
    · rw [h] at hk; cases hk
    · rw [h] at hk; cases hk; exact hsz) (HA.out.below ⟨hC3.os, hC3.tape, hC3.output, hC3.size, fun k hk => hC3.block k hk (fun e => by cases e)⟩)
  simpa using hres

def RelZe (l : List UInt8) (i : Value) : Prop := ∃ j : Nat, j ≤ l.length ∧ i = .int .i64 j ∧ (l.take j).all (· == 0) = true
/-- what zeros answers -/
def ZerdP (bs : List UInt8) (r : PR) (w : World) (x : Ending) (w' : World) : Prop := x = .returned (.bool (pzeros bs r)) ∧ Below w.heap.size w w'
theorem all_stop {l : List UInt8} {j : Nat} (hj : j < l.length) (h : l.getD j 0 ≠ 0) : l.all (· == 0) = false := by
  rw [List.all_eq_false]
  refine ⟨l.getD j 0, ?_, by simpa using h⟩
  rw [List.getD_eq_getElem?_getD, List.getElem?_eq_getElem hj]
  exact List.getElem_mem hj
theorem Bts.rest {w : World} {b off : Nat} {bs : List UInt8} (h : Bts w (some ⟨b, off, none⟩) bs) (o : Nat) (ho : o ≤ bs.length) : Bts w (some ⟨b, off + o, none⟩) (bs.drop o) := by
  have := h.piece o (bs.length - o) (by omega)
  unfold Go.Proofs.Ytkjgncmbhkhbnaa.piece at this
  rwa [List.take_of_length_le (by rw [List.length_drop]; exact Nat.le_refl _)] at this
set_option maxHeartbeats 1000000 in
theorem zeros_any (p b off cap : Nat) (bs : List UInt8) (r : PR) (w : World) (h : IsRd w p b off cap bs r) :
    Calls Try.prog 56 #[.pointer (some ⟨p, 0, none⟩)] w (ZerdP bs r w) := by
  have H := Lib.hid h
  obtain ⟨x0, x1, x2, xf⟩ := cells3r h.row
  have hle := h.le
  have hlen := h.len
  have hcp := h.cp
  clear h xf
  obtain ⟨at_, ok⟩ := r
  simp only at x1 x2 hle
  obtain ⟨m, hm⟩ : ∃ m, bs.length = m := ⟨_, rfl⟩
  rw [hm] at hle hlen hcp x0
  have Hm := Lib.hid hm
  clear hm
  have hsub : wrap64 ((m : Int) - (at_ : Int)) = ((m - at_ : Nat) : Int) := by rw [IntWalk.wrap64_in _ ⟨by omega, by omega⟩]; omega
  obtain ⟨l, el⟩ : ∃ l, bs.drop at_ = l := ⟨_, rfl⟩
  have HL := Lib.hid (show l.length = m - at_ by rw [← el, List.length_drop, Hm.out])
  have HZ := Lib.hid (show pzeros bs ⟨at_, ok⟩ = (l.all (· == 0) && ok) by unfold pzeros; rw [el])
  have HB := Lib.hid (show Bts w (some ⟨b, off + at_, none⟩) l by rw [← el]; exact H.out.bts.rest at_ (by rw [Hm.out]; exact hle))
  clear el
  have hac : (at_ : Int) ≤ (m : Int) := by omega
  obtain ⟨q, hq⟩ : ∃ q, m - at_ = q := ⟨_, rfl⟩
  rw [hq] at hsub HL
  go_enter Try.func56, Try.ntmps56
  go_wp2_with fail
  go_quiet (fail)
  go_wp2_with fail
  all_goals
    try rw [hq]
    go_loop [15] (RelZe l) (fun i => q - (intOf i).toNat)
    case atStart => exact ⟨0, Nat.zero_le _, rfl, rfl⟩
    case round =>
      obtain ⟨j, hj, rfl, ha⟩ := hrel
      rw [HL.out] at hj
      by_cases hlt : j < q
      · by_cases hc0 : cap = at_
        · exfalso; omega
        obtain ⟨b2, o2, e2, -, hc⟩ := HB.out.at (k := j) (by rw [HL.out]; exact hlt)
        cases e2
        have HT := Lib.hid (take_snoc (bs := l) (k := j) (by rw [HL.out]; exact hlt))
        have HS := Lib.hid fun h => all_stop (l := l) (j := j) (by rw [HL.out]; exact hlt) h
        have HA := Lib.hid ha
        clear ha
        generalize l.getD j 0 = c at hc HT HS
        by_cases hcz : c = 0
        · subst hcz
          have HN := Lib.hid (show (l.take (j + 1)).all (· == 0) = true by rw [HT.out, List.all_append, HA.out]; rfl)
          clear HT HS
          go_wp2_with fail
          all_goals
            go_round
            case rel => exact ⟨j + 1, by rw [HL.out]; omega, by go_num, HN.out⟩
            case measure => simp [intOf] <;> omega
        · have hcn : (c.toNat : Int) ≠ 0 := fun e => hcz (UInt8.toNat_inj.1 (by simpa using e))
          have hcd : ((c.toNat : Int) != 0) = true := by rw [bne_iff_ne]; exact hcn
          have HF := Lib.hid (show pzeros bs ⟨at_, ok⟩ = false by rw [HZ.out, HS.out hcz]; rfl)
          go_wp2_with fail
          all_goals
            go_ret
            exact ⟨by rw [HF.out]; rfl, below_drewN (Below.refl _ _) _⟩
      · have HF := Lib.hid (show pzeros bs ⟨at_, ok⟩ = ok by rw [HZ.out]; rw [List.take_of_length_le (by rw [HL.out]; omega)] at ha; rw [ha]; rfl)
        clear ha
        go_wp2_with fail
        go_ret
        exact ⟨by rw [HF.out]; rfl, below_drewN (Below.refl _ _) _⟩
end Go.Proofs.Ytkjgncmbhkhbnaa
