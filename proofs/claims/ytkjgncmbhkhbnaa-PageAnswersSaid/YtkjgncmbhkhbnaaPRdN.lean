/- The program's reader: take. The program's reader: number, fresh, zeros. -/
import Derived.Test.YtkjgncmbhkhbnaaEB
import Derived.Test.YtkjgncmbhkhbnaaPChk
import Derived.BigQuiet
import Derived.Deep.QuietTactic
namespace Go.Proofs.Ytkjgncmbhkhbnaa
open Go.RowKit
set_option linter.unusedVariables false
set_option maxRecDepth 100000

/-- a reader in memory -/
structure IsRd (w : World) (p b off cap : Nat) (bs : List UInt8) (r : PR) : Prop where
  row : w.heap[p]? = some (.cells #[.slice (some ⟨b, off, none⟩) bs.length cap, .int .i64 r.at_, .bool r.ok] 75)
  bts : Bts w (some ⟨b, off, none⟩) bs
  ne : b ≠ p
  le : r.at_ ≤ bs.length
  len : bs.length ≤ 512
  cp : bs.length ≤ cap
theorem IsRd.chg {F : Nat → Prop} {w w' : World} {p b off cap : Nat} {bs : List UInt8} {r : PR} (h : IsRd w p b off cap bs r) (hc : Chg F w w') (hp : ¬ F p) (hb : ¬ F b) : IsRd w' p b off cap bs r :=
  ⟨(hc.block p (Array.getElem?_eq_some_iff.1 h.row).1 hp).trans h.row, h.bts.chg hc (fun k e => by cases e; exact hb), h.ne, h.le, h.len, h.cp⟩
theorem IsRd.below {w w' : World} {p b off cap : Nat} {bs : List UInt8} {r : PR} (h : IsRd w p b off cap bs r) (hb : Below w.heap.size w w') : IsRd w' p b off cap bs r := h.chg (F := fun _ => False) (Chg.of_below hb) (fun f => f) (fun f => f)
theorem cells3r {w : World} {g : Nat} {v0 v1 v2 : Value} {T : TypeId} (h : w.heap[g]? = some (.cells #[v0, v1, v2] T)) :
    w.cell? ⟨g, 0, none⟩ = some v0 ∧ w.cell? ⟨g, 1, none⟩ = some v1 ∧ w.cell? ⟨g, 2, none⟩ = some v2 ∧ (∀ k, w.frozen? ⟨g, k, none⟩ = false) := by
  simp [World.cell?, World.frozen?, h]
theorem set_rowP {w : World} {g : Nat} {cs : Array Value} {T : TypeId} (h : w.heap[g]? = some (.cells cs T)) (k : Nat) (u : Value) : (w.setCell ⟨g, k, none⟩ u).heap[g]? = some (.cells (cs.set! k u) T) := by
  rw [setCell_eq_setRow w g k _ T (0, 0) u h, setRow_heap w g _ _ T (0, 0) h]; rfl
/-- what a reading leaves of the reader -/
def RdAft (p b off cap : Nat) (bs : List UInt8) (r : PR) (w w' : World) : Prop := IsRd w' p b off cap bs r ∧ Chg (fun k => k = p) w w'
/-- what take leaves -/
def TookP (p b off cap : Nat) (bs : List UInt8) (r : PR) (n : Nat) (w : World) (x : Ending) (w' : World) : Prop :=
  ∃ a' c', x = .returned (.slice a' (ptake bs r n).1.length c') ∧ Bts w' a' (ptake bs r n).1 ∧ (a' = none → c' = 0) ∧ RdAft p b off cap bs (ptake bs r n).2 w w'
theorem RdAft.below {p b off cap : Nat} {bs : List UInt8} {r : PR} {w w1 w2 : World} (h : RdAft p b off cap bs r w w1) (hb : Below w1.heap.size w1 w2) : RdAft p b off cap bs r w w2 :=
  ⟨h.1.below hb, h.2.trans (Chg.of_below hb) (fun i _ f => f)⟩
theorem TookP.drewN {p b off cap : Nat} {bs : List UInt8} {r : PR} {n : Nat} {w w1 : World} {x : Ending} (h : TookP p b off cap bs r n w x w1) (k : Nat) : TookP p b off cap bs r n w x (w1.drewN k) := by
  obtain ⟨a', c', h1, h2, h3, h4⟩ := h
  have hb : Below w1.heap.size w1 (w1.drewN k) := below_drewN (Below.refl _ _) k
  exact ⟨a', c', h1, h2.below hb, h3, h4.below hb⟩
theorem IsRd.fail {w w1 : World} {p b off cap : Nat} {bs : List UInt8} {r : PR} (h : IsRd w p b off cap bs r) (n : Nat) (hc : Chg (fun _ => False) w w1) : RdAft p b off cap bs ⟨r.at_, false⟩ w (w1.setCell ⟨p, 2, none⟩ (.bool false)) := by
  have h1 := h.chg hc (fun f => f) (fun f => f)
  refine ⟨⟨by rw [set_rowP h1.row]; rfl, h1.bts.chg (Chg.set w1 ⟨p, 2, none⟩ _) (fun k e f => by cases e; exact h.ne f), h.ne, h.le, h.len, h.cp⟩, ?_⟩
  exact (hc.mono fun i _ f => f.elim).trans (Chg.set w1 ⟨p, 2, none⟩ _) (fun i _ f => f)
theorem IsRd.go {w w1 : World} {p b off cap : Nat} {bs : List UInt8} {r : PR} (h : IsRd w p b off cap bs r) {n : Nat} (hn : r.at_ + n ≤ bs.length) (hk : r.ok = true) (hc : Chg (fun _ => False) w w1) : RdAft p b off cap bs ⟨r.at_ + n, true⟩ w (w1.setCell ⟨p, 1, none⟩ (.int .i64 ((r.at_ : Int) + n))) := by
  have h1 := h.chg hc (fun f => f) (fun f => f)
  refine ⟨⟨by rw [set_rowP h1.row, hk]; rfl, h1.bts.chg (Chg.set w1 ⟨p, 1, none⟩ _) (fun k e f => by cases e; exact h.ne f), h.ne, hn, h.len, h.cp⟩, ?_⟩
  exact (hc.mono fun i _ f => f.elim).trans (Chg.set w1 ⟨p, 1, none⟩ _) (fun i _ f => f)
theorem Bts.piece {w : World} {b off : Nat} {bs : List UInt8} (h : Bts w (some ⟨b, off, none⟩) bs) (o n : Nat) (ho : o + n ≤ bs.length) : Bts w (some ⟨b, off + o, none⟩) (piece bs o n) := by
  rcases h with rfl | ⟨b2, off2, e, hb, hc⟩
  · left; simp [Go.Proofs.Ytkjgncmbhkhbnaa.piece]
  · cases e
    refine .inr ⟨b, off + o, rfl, hb, fun i hi => ?_⟩
    rw [piece_length ho] at hi
    rw [Nat.add_assoc, hc (o + i) (by omega)]
    congr 3
    unfold Go.Proofs.Ytkjgncmbhkhbnaa.piece
    rw [List.getD_eq_getElem?_getD, List.getD_eq_getElem?_getD, List.getElem?_take_of_lt hi, List.getElem?_drop]

theorem take_zero {w w1 : World} {p b off cap at_ : Nat} {bs : List UInt8} (h : IsRd w p b off cap bs ⟨at_, true⟩) (hc : Chg (fun _ => False) w w1) :
    TookP p b off cap bs ⟨at_, true⟩ 0 w (.returned (.slice (some ⟨b, off, none⟩) 0 0)) (w1.setCell ⟨p, 1, none⟩ (.int .i64 (at_ : Int))) := by
  have hle := h.le
  have h1 := h.go (n := 0) (by simpa using hle) rfl hc
  have ht : ptake bs ⟨at_, true⟩ 0 = ([], ⟨at_, true⟩) := by
    rw [ptake_go (by simpa using hle)]; simp [Go.Proofs.Ytkjgncmbhkhbnaa.piece]
  unfold TookP
  rw [ht]
  refine ⟨_, 0, rfl, .inl rfl, (fun e => by cases e), ?_⟩
  simpa using h1
set_option maxHeartbeats 1000000 in
theorem take_any (p b off cap : Nat) (bs : List UInt8) (r : PR) (n : Nat) (hn : n ≤ 70000) (w : World) (h : IsRd w p b off cap bs r) :
    Calls Try.prog 65 #[.pointer (some ⟨p, 0, none⟩), .int .i64 (n : Int)] w (TookP p b off cap bs r n w) := by
  have H := Lib.hid h
  obtain ⟨x0, x1, x2, xf⟩ := cells3r h.row
  have hf1 := xf 1
  have hf2 := xf 2
  have hle := h.le
  have hlen := h.len
  have hcp := h.cp
  have hpl := rlt_of_heapP h.row
  clear h xf
  obtain ⟨at_, ok⟩ := r
  simp only at x1 x2 hle
  obtain ⟨m, hm⟩ : ∃ m, bs.length = m := ⟨_, rfl⟩
  rw [hm] at hle hlen hcp x0
  have Hm := Lib.hid hm
  clear hm
  have hsub : wrap64 ((m : Int) - (at_ : Int)) = ((m - at_ : Nat) : Int) := by rw [IntWalk.wrap64_in _ ⟨by omega, by omega⟩]; omega
  by_cases hok : ok = true
  · subst hok
    by_cases hlt : m < at_ + n
    · have hgt : ((m - at_ : Nat) : Int) < (n : Int) := by omega
      have HF := Lib.hid fun w1 (hc : Chg (fun _ => False) w w1) => H.out.fail n hc
      have HT := Lib.hid (show ptake bs ⟨at_, true⟩ n = ([], ⟨at_, false⟩) by unfold ptake; rw [if_pos (.inr (by rw [Hm.out]; exact hlt))])
      have HQ := Lib.hid fun w1 (h : RdAft p b off cap bs ⟨at_, false⟩ w w1) => (show TookP p b off cap bs ⟨at_, true⟩ n w (.returned (.slice none 0 0)) w1 by
        unfold TookP; rw [HT.out]; exact ⟨none, 0, rfl, .inl rfl, fun _ => rfl, h⟩)
      clear HT
      go_enter Try.func65, Try.ntmps65
      go_wp2_with fail
      go_quiet (fail)
      go_wp2_with fail
      go_ret
      exact HQ.out _ (HF.out _ ((Chg.refl _ _).drewN _))
    · have hgt : ¬ ((m - at_ : Nat) : Int) < (n : Int) := by omega
      have hgt2 : ¬ ((m : Int) - (at_ : Int)) < (n : Int) := by omega
      have HF := Lib.hid fun w1 (hc : Chg (fun _ => False) w w1) => H.out.go (n := n) (by simp only; rw [Hm.out]; omega) rfl hc
      have HT := Lib.hid (show ptake bs ⟨at_, true⟩ n = (piece bs at_ n, ⟨at_ + n, true⟩) from ptake_go (by rw [Hm.out]; omega))
      have HQ := Lib.hid fun w1 (h : RdAft p b off cap bs ⟨at_ + n, true⟩ w w1) => (show TookP p b off cap bs ⟨at_, true⟩ n w (.returned (.slice (some ⟨b, off + at_, none⟩) n n)) w1 by
        unfold TookP; rw [HT.out]
        refine ⟨_, n, ?_, h.1.bts.piece at_ n (by rw [Hm.out]; omega), (fun e => by cases e), h⟩
        rw [piece_length (by rw [Hm.out]; omega)])
      have HQ0 := Lib.hid fun w1 (hc : Chg (fun _ => False) w w1) => take_zero H.out hc
      have hw1 : wrap64 ((at_ : Int) + (n : Int)) = (at_ : Int) + (n : Int) := IntWalk.wrap64_in _ ⟨by omega, by omega⟩
      have hw2 : wrap64 ((at_ : Int) + (n : Int) - (n : Int)) = (at_ : Int) := by rw [Int.add_sub_cancel]; exact IntWalk.wrap64_in _ ⟨by omega, by omega⟩
      have hb1 : (at_ : Int) + (n : Int) ≤ (cap : Int) := by omega
      have hb2 : (at_ : Int) ≤ (at_ : Int) + (n : Int) := by omega
      have hb3 : (0 : Int) ≤ (at_ : Int) + (n : Int) := by omega
      have hb4 : ((at_ : Int) + (n : Int)).toNat = at_ + n := by omega
      clear HT
      go_enter Try.func65, Try.ntmps65
      go_wp2_with fail
      go_quiet (fail)
      go_wp2_with fail
      go_quiet (fail)
      go_wp2_with fail
      all_goals
        go_ret
        first
          | exact (HQ.out _ (HF.out _ ((Chg.refl _ _).drewN _))).drewN _
          | exact (HQ0.out _ ((Chg.refl _ _).drewN _)).drewN _
  · have hok : ok = false := by simpa using hok
    subst hok
    have HF := Lib.hid fun w1 (hc : Chg (fun _ => False) w w1) => H.out.fail n hc
    have HT := Lib.hid (show ptake bs ⟨at_, false⟩ n = ([], ⟨at_, false⟩) by unfold ptake; rw [if_pos (.inl rfl)])
    have HQ := Lib.hid fun w1 (h : RdAft p b off cap bs ⟨at_, false⟩ w w1) => (show TookP p b off cap bs ⟨at_, false⟩ n w (.returned (.slice none 0 0)) w1 by
      unfold TookP; rw [HT.out]; exact ⟨none, 0, rfl, .inl rfl, fun _ => rfl, h⟩)
    clear HT
    go_enter Try.func65, Try.ntmps65
    go_wp2_with fail
    go_quiet (fail)
    go_wp2_with fail
    go_ret
    exact HQ.out _ (HF.out _ ((Chg.refl _ _).drewN _))
end Go.Proofs.Ytkjgncmbhkhbnaa
namespace Go.Proofs.Ytkjgncmbhkhbnaa
open Go.RowKit
set_option linter.unusedVariables false
set_option maxRecDepth 100000

/-- what number leaves -/
def NumdP (p b off cap : Nat) (bs : List UInt8) (r : PR) (n : Nat) (w : World) (x : Ending) (w' : World) : Prop :=
  x = .returned (.int .u64 ((pnum bs r n).1 : Nat)) ∧ RdAft p b off cap bs (pnum bs r n).2 w w'
def RelNum (l : List UInt8) (x i : Value) : Prop := ∃ j : Nat, j ≤ l.length ∧ i = .int .i64 j ∧ x = .int .u64 ((unle (l.take j) : Nat) : Int)
theorem ptake_len (bs : List UInt8) (r : PR) (n : Nat) : (ptake bs r n).1.length ≤ n := by
  unfold ptake; split
  · simp
  · unfold piece; simp; omega
set_option maxHeartbeats 1000000 in
theorem number_any (p b off cap : Nat) (bs : List UInt8) (r : PR) (n : Nat) (hn : n ≤ 8) (w : World) (h : IsRd w p b off cap bs r) :
    Calls Try.prog 53 #[.pointer (some ⟨p, 0, none⟩), .int .i64 (n : Int)] w (NumdP p b off cap bs r n w) := by
  have H := Lib.hid (take_any p b off cap bs r n (by omega) w h)
  have HQ := Lib.hid fun w1 (h : RdAft p b off cap bs (ptake bs r n).2 w w1) => (show NumdP p b off cap bs r n w (.returned (.int .u64 (unle (ptake bs r n).1 : Nat))) w1 from ⟨rfl, h⟩)
  have hl := ptake_len bs r n
  unfold TookP at H
  generalize (ptake bs r n).1 = l at H HQ hl
  generalize (ptake bs r n).2 = r2 at H HQ
  clear h
  obtain ⟨m, hm⟩ : ∃ m, l.length = m := ⟨_, rfl⟩
  rw [hm] at H hl
  have HM := Lib.hid hm
  clear hm
  go_enter Try.func53, Try.ntmps53
  go_wp2_with fail
  refine H.out.mono ?_
  rintro _ w2 ⟨a', c', rfl, hB, -, hA⟩
  have HA := Lib.hid hA
  clear hA H
  go_wp2_with fail
  go_loop [5, 12] (RelNum l) (fun _ i => m - (intOf i).toNat)
  case atStart => exact ⟨0, Nat.zero_le _, rfl, rfl⟩
  case round =>
    obtain ⟨j, hj, rfl, rfl⟩ := hrel
    rw [HM.out] at hj
    by_cases hlt : j < m
    · obtain ⟨b2, o2, rfl, -, hc⟩ := hB.at (k := j) (by rw [HM.out]; exact hlt)
      have hw8 : wrap64 (8 * (j : Int)) = 8 * (j : Int) := IntWalk.wrap64_in _ ⟨by omega, by omega⟩
      have hu := unle_take l j (by rw [HM.out]; exact hlt) (by omega)
      have Hu := Lib.hid hu
      clear hu
      go_wp2_with fail
      rw [Hu.out]
      go_round
      case rel => exact ⟨j + 1, by rw [HM.out]; omega, by go_num, rfl⟩
      case measure => simp [intOf]; omega
    · go_wp2_with fail
      rw [List.take_of_length_le (i := j) (l := l) (by rw [HM.out]; omega)]
      go_ret
      exact HQ.out _ HA.out

/-- what fresh leaves -/
def FrshP (p b off cap : Nat) (bs : List UInt8) (r : PR) (n : Nat) (w : World) (x : Ending) (w' : World) : Prop :=
  ∃ oa c', x = .returned (.slice oa (ptake bs r n).1.length c') ∧ OB w' oa c' (ptake bs r n).1 ∧ (∀ k, blk oa = some k → w.heap.size ≤ k) ∧ RdAft p b off cap bs (ptake bs r n).2 w w'
set_option maxHeartbeats 1000000 in
theorem fresh_any (p b off cap : Nat) (bs : List UInt8) (r : PR) (n : Nat) (hn : n ≤ 70000) (w : World) (h : IsRd w p b off cap bs r) :
    Calls Try.prog 54 #[.pointer (some ⟨p, 0, none⟩), .int .i64 (n : Int)] w (FrshP p b off cap bs r n w) := by
  have H := Lib.hid (take_any p b off cap bs r n (by omega) w h)
  have hl := ptake_len bs r n
  unfold TookP at H
  have HQ := Lib.hid fun w1 oa c' (h1 : OB w1 oa c' (ptake bs r n).1) (h2 : ∀ k, blk oa = some k → w.heap.size ≤ k) (h : RdAft p b off cap bs (ptake bs r n).2 w w1) => (show FrshP p b off cap bs r n w (.returned (.slice oa (ptake bs r n).1.length c')) w1 from ⟨oa, c', rfl, h1, h2, h⟩)
  generalize (ptake bs r n).1 = l at H HQ hl
  generalize (ptake bs r n).2 = r2 at H HQ
  clear h
  obtain ⟨m, hm⟩ : ∃ m, l.length = m := ⟨_, rfl⟩
  rw [hm] at H HQ hl
  have HM := Lib.hid hm
  clear hm
  go_enter Try.func54, Try.ntmps54
  go_wp2_with fail
  refine H.out.mono ?_
  rintro _ w2 ⟨a', c', rfl, hB, hn0, hA⟩
  have HA := Lib.hid hA
  have HNW := Lib.hid (hB.news hn0)
  rw [HM.out] at HNW
  clear hA H hB
  go_wp2_with (at_builtin; refine wpList_append_or eB rfl (.const (.slice none 0 0)) (.tmp 7) rfl rfl (OB.nil _) rfl (m := m) (news := cellsB l) (by rw [cellsB_length, HM.out]; exact (Nat.mul_one _).symm) HNW.out (cellsB_one _) (by show (0 + m) * 1 ≤ _; omega) (by omega) ?_
               intro oa2 cap2 w3 hO3 hC3 hb3 _)
  go_ret
  have hO : OB w3 oa2 cap2 l := by unfold OB; rw [HM.out]; simpa [cellsB] using hO3
  have hsz : w.heap.size ≤ w2.heap.size := HA.out.2.size
  have hres := HQ.out w3 oa2 cap2 hO (fun k hk => by
    rcases hb3 with h | h
    · rw [h] at hk; cases hk
    · rw [h] at hk; cases hk; exact hsz) (HA.out.below ⟨hC3.os, hC3.tape, hC3.output, hC3.size, fun k hk => hC3.block k hk (fun e => by cases e)⟩)
  simpa using hres

def RelZe (l : List UInt8) (i : Value) : Prop := ∃ j : Nat, j ≤ l.length ∧ i = .int .i64 j ∧ (l.take j).all (· == 0) = true
/-- what zeros answers -/
def ZerdP (bs : List UInt8) (r : PR) (w : World) (x : Ending) (w' : World) : Prop := x = .returned (.bool (pzeros bs r)) ∧ Below w.heap.size w w'
theorem all_stop {l : List UInt8} {j : Nat} (hj : j < l.length) (h : l.getD j 0 ≠ 0) : l.all (· == 0) = false := by
  rw [List.all_eq_false]
  refine ⟨l.getD j 0, ?_, by simpa using h⟩
  rw [List.getD_eq_getElem?_getD, List.getElem?_eq_getElem hj]
  exact List.getElem_mem hj
theorem Bts.rest {w : World} {b off : Nat} {bs : List UInt8} (h : Bts w (some ⟨b, off, none⟩) bs) (o : Nat) (ho : o ≤ bs.length) : Bts w (some ⟨b, off + o, none⟩) (bs.drop o) := by
  have := h.piece o (bs.length - o) (by omega)
  unfold Go.Proofs.Ytkjgncmbhkhbnaa.piece at this
  rwa [List.take_of_length_le (by rw [List.length_drop]; exact Nat.le_refl _)] at this
set_option maxHeartbeats 1000000 in
theorem zeros_any (p b off cap : Nat) (bs : List UInt8) (r : PR) (w : World) (h : IsRd w p b off cap bs r) :
    Calls Try.prog 56 #[.pointer (some ⟨p, 0, none⟩)] w (ZerdP bs r w) := by
  have H := Lib.hid h
  obtain ⟨x0, x1, x2, xf⟩ := cells3r h.row
  have hle := h.le
  have hlen := h.len
  have hcp := h.cp
  clear h xf
  obtain ⟨at_, ok⟩ := r
  simp only at x1 x2 hle
  obtain ⟨m, hm⟩ : ∃ m, bs.length = m := ⟨_, rfl⟩
  rw [hm] at hle hlen hcp x0
  have Hm := Lib.hid hm
  clear hm
  have hsub : wrap64 ((m : Int) - (at_ : Int)) = ((m - at_ : Nat) : Int) := by rw [IntWalk.wrap64_in _ ⟨by omega, by omega⟩]; omega
  obtain ⟨l, el⟩ : ∃ l, bs.drop at_ = l := ⟨_, rfl⟩
  have HL := Lib.hid (show l.length = m - at_ by rw [← el, List.length_drop, Hm.out])
  have HZ := Lib.hid (show pzeros bs ⟨at_, ok⟩ = (l.all (· == 0) && ok) by unfold pzeros; rw [el])
  have HB := Lib.hid (show Bts w (some ⟨b, off + at_, none⟩) l by rw [← el]; exact H.out.bts.rest at_ (by rw [Hm.out]; exact hle))
  clear el
  have hac : (at_ : Int) ≤ (m : Int) := by omega
  obtain ⟨q, hq⟩ : ∃ q, m - at_ = q := ⟨_, rfl⟩
  rw [hq] at hsub HL
  go_enter Try.func56, Try.ntmps56
  go_wp2_with fail
  go_quiet (fail)
  go_wp2_with fail
  all_goals
    try rw [hq]
    go_loop [15] (RelZe l) (fun i => q - (intOf i).toNat)
    case atStart => exact ⟨0, Nat.zero_le _, rfl, rfl⟩
    case round =>
      obtain ⟨j, hj, rfl, ha⟩ := hrel
      rw [HL.out] at hj
      by_cases hlt : j < q
      · by_cases hc0 : cap = at_
        · exfalso; omega
        obtain ⟨b2, o2, e2, -, hc⟩ := HB.out.at (k := j) (by rw [HL.out]; exact hlt)
        cases e2
        have HT := Lib.hid (take_snoc (bs := l) (k := j) (by rw [HL.out]; exact hlt))
        have HS := Lib.hid fun h => all_stop (l := l) (j := j) (by rw [HL.out]; exact hlt) h
        have HA := Lib.hid ha
        clear ha
        generalize l.getD j 0 = c at hc HT HS
        by_cases hcz : c = 0
        · subst hcz
          have HN := Lib.hid (show (l.take (j + 1)).all (· == 0) = true by rw [HT.out, List.all_append, HA.out]; rfl)
          clear HT HS
          go_wp2_with fail
          all_goals
            go_round
            case rel => exact ⟨j + 1, by rw [HL.out]; omega, by go_num, HN.out⟩
            case measure => simp [intOf] <;> omega
        · have hcn : (c.toNat : Int) ≠ 0 := fun e => hcz (UInt8.toNat_inj.1 (by simpa using e))
          have hcd : ((c.toNat : Int) != 0) = true := by rw [bne_iff_ne]; exact hcn
          have HF := Lib.hid (show pzeros bs ⟨at_, ok⟩ = false by rw [HZ.out, HS.out hcz]; rfl)
          go_wp2_with fail
          all_goals
            go_ret
            exact ⟨by rw [HF.out]; rfl, below_drewN (Below.refl _ _) _⟩
      · have HF := Lib.hid (show pzeros bs ⟨at_, ok⟩ = ok by rw [HZ.out]; rw [List.take_of_length_le (by rw [HL.out]; omega)] at ha; rw [ha]; rfl)
        clear ha
        go_wp2_with fail
        go_ret
        exact ⟨by rw [HF.out]; rfl, below_drewN (Below.refl _ _) _⟩
end Go.Proofs.Ytkjgncmbhkhbnaa
