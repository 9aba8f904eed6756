/- The program's reader: take. -/
import Derived.Test.YtkjgncmbhkhbnaaEB
import Derived.Test.YtkjgncmbhkhbnaaPChk
import Derived.BigQuiet
import Derived.Deep.QuietTactic
namespace Go.Proofs.Ytkjgncmbhkhbnaa
open Go.RowKit
set_option linter.unusedVariables false
set_option maxRecDepth 100000

/-- a reader in memory -/
structure IsRd (w : World) (p b off cap : Nat) (bs : List UInt8) (r : PR) : Prop where
  row : w.heap[p]? = some (.cells #[.slice (some ⟨b, off, none⟩) bs.length cap, .int .i64 r.at_, .bool r.ok] 75)
  bts : Bts w (some ⟨b, off, none⟩) bs
  ne : b ≠ p
  le : r.at_ ≤ bs.length
  len : bs.length ≤ 512
  cp : bs.length ≤ cap
theorem IsRd.chg {F : Nat → Prop} {w w' : World} {p b off cap : Nat} {bs : List UInt8} {r : PR} (h : IsRd w p b off cap bs r) (hc : Chg F w w') (hp : ¬ F p) (hb : ¬ F b) : IsRd w' p b off cap bs r :=
  ⟨(hc.block p (Array.getElem?_eq_some_iff.1 h.row).1 hp).trans h.row, h.bts.chg hc (fun k e => by cases e; exact hb), h.ne, h.le, h.len, h.cp⟩
theorem IsRd.below {w w' : World} {p b off cap : Nat} {bs : List UInt8} {r : PR} (h : IsRd w p b off cap bs r) (hb : Below w.heap.size w w') : IsRd w' p b off cap bs r := h.chg (F := fun _ => False) (Chg.of_below hb) (fun f => f) (fun f => f)
theorem cells3r {w : World} {g : Nat} {v0 v1 v2 : Value} {T : TypeId} (h : w.heap[g]? = some (.cells #[v0, v1, v2] T)) :
    w.cell? ⟨g, 0, none⟩ = some v0 ∧ w.cell? ⟨g, 1, none⟩ = some v1 ∧ w.cell? ⟨g, 2, none⟩ = some v2 ∧ (∀ k, w.frozen? ⟨g, k, none⟩ = false) := by
  simp [World.cell?, World.frozen?, h]
theorem set_rowP {w : World} {g : Nat} {cs : Array Value} {T : TypeId} (h : w.heap[g]? = some (.cells cs T)) (k : Nat) (u : Value) : (w.setCell ⟨g, k, none⟩ u).heap[g]? = some (.cells (cs.set! k u) T) := by
  rw [setCell_eq_setRow w g k _ T (0, 0) u h, setRow_heap w g _ _ T (0, 0) h]; rfl
/-- what a reading leaves of the reader -/
def RdAft (p b off cap : Nat) (bs : List UInt8) (r : PR) (w w' : World) : Prop := IsRd w' p b off cap bs r ∧ Chg (fun k => k = p) w w'
/-- what take leaves -/
def TookP (p b off cap : Nat) (bs : List UInt8) (r : PR) (n : Nat) (w : World) (x : Ending) (w' : World) : Prop :=
  ∃ a' c', x = .returned (.slice a' (ptake bs r n).1.length c') ∧ Bts w' a' (ptake bs r n).1 ∧ (a' = none → c' = 0) ∧ RdAft p b off cap bs (ptake bs r n).2 w w'
theorem RdAft.below {p b off cap : Nat} {bs : List UInt8} {r : PR} {w w1 w2 : World} (h : RdAft p b off cap bs r w w1) (hb : Below w1.heap.size w1 w2) : RdAft p b off cap bs r w w2 :=
  ⟨h.1.below hb, h.2.trans (Chg.of_below hb) (fun i _ f => f)⟩
theorem TookP.drewN {p b off cap : Nat} {bs : List UInt8} {r : PR} {n : Nat} {w w1 : World} {x : Ending} (h : TookP p b off cap bs r n w x w1) (k : Nat) : TookP p b off cap bs r n w x (w1.drewN k) := by
  obtain ⟨a', c', h1, h2, h3, h4⟩ := h
  have hb : Below w1.heap.size w1 (w1.drewN k) := below_drewN (Below.refl _ _) k
  exact ⟨a', c', h1, h2.below hb, h3, h4.below hb⟩
theorem IsRd.fail {w w1 : World} {p b off cap : Nat} {bs : List UInt8} {r : PR} (h : IsRd w p b off cap bs r) (n : Nat) (hc : Chg (fun _ => False) w w1) : RdAft p b off cap bs ⟨r.at_, false⟩ w (w1.setCell ⟨p, 2, none⟩ (.bool false)) := by
  have h1 := h.chg hc (fun f => f) (fun f => f)
  refine ⟨⟨by rw [set_rowP h1.row]; rfl, h1.bts.chg (Chg.set w1 ⟨p, 2, none⟩ _) (fun k e f => by cases e; exact h.ne f), h.ne, h.le, h.len, h.cp⟩, ?_⟩
  exact (hc.mono fun i _ f => f.elim).trans (Chg.set w1 ⟨p, 2, none⟩ _) (fun i _ f => f)
theorem IsRd.go {w w1 : World} {p b off cap : Nat} {bs : List UInt8} {r : PR} (h : IsRd w p b off cap bs r) {n : Nat} (hn : r.at_ + n ≤ bs.length) (hk : r.ok = true) (hc : Chg (fun _ => False) w w1) : RdAft p b off cap bs ⟨r.at_ + n, true⟩ w (w1.setCell ⟨p, 1, none⟩ (.int .i64 ((r.at_ : Int) + n))) := by
  have h1 := h.chg hc (fun f => f) (fun f => f)
  refine ⟨⟨by rw [set_rowP h1.row, hk]; rfl, h1.bts.chg (Chg.set w1 ⟨p, 1, none⟩ _) (fun k e f => by cases e; exact h.ne f), h.ne, hn, h.len, h.cp⟩, ?_⟩
  exact (hc.mono fun i _ f => f.elim).trans (Chg.set w1 ⟨p, 1, none⟩ _) (fun i _ f => f)
theorem Bts.piece {w : World} {b off : Nat} {bs : List UInt8} (h : Bts w (some ⟨b, off, none⟩) bs) (o n : Nat) (ho : o + n ≤ bs.length) : Bts w (some ⟨b, off + o, none⟩) (piece bs o n) := by
  rcases h with rfl | ⟨b2, off2, e, hb, hc⟩
  · left; simp [Go.Proofs.Ytkjgncmbhkhbnaa.piece]
  · cases e
    refine .inr ⟨b, off + o, rfl, hb, fun i hi => ?_⟩
    rw [piece_length ho] at hi
    rw [Nat.add_assoc, hc (o + i) (by omega)]
    congr 3
    unfold Go.Proofs.Ytkjgncmbhkhbnaa.piece
    rw [List.getD_eq_getElem?_getD, List.getD_eq_getElem?_getD, List.getElem?_take_of_lt hi, List.getElem?_drop]

theorem take_zero {w w1 : World} {p b off cap at_ : Nat} {bs : List UInt8} (h : IsRd w p b off cap bs ⟨at_, true⟩) (hc : Chg (fun _ => False) w w1) :
    TookP p b off cap bs ⟨at_, true⟩ 0 w (.returned (.slice (some ⟨b, off, none⟩) 0 0)) (w1.setCell ⟨p, 1, none⟩ (.int .i64 (at_ : Int))) := by
  have hle := h.le
  have h1 := h.go (n := 0) (by simpa using hle) rfl hc
  have ht : ptake bs ⟨at_, true⟩ 0 = ([], ⟨at_, true⟩) := by
    rw [ptake_go (by simpa using hle)]; simp [Go.Proofs.Ytkjgncmbhkhbnaa.piece]
  unfold TookP
  rw [ht]
  refine ⟨_, 0, rfl, .inl rfl, (fun e => by cases e), ?_⟩
  simpa using h1
set_option maxHeartbeats 1000000 in
theorem take_any (p b off cap : Nat) (bs : List UInt8) (r : PR) (n : Nat) (hn : n ≤ 70000) (w : World) (h : IsRd w p b off cap bs r) :
    Calls Try.prog 65 #[.pointer (some ⟨p, 0, none⟩), .int .i64 (n : Int)] w (TookP p b off cap bs r n w) := by
  have H := Lib.hid h
  obtain ⟨x0, x1, x2, xf⟩ := cells3r h.row
  have hf1 := xf 1
  have hf2 := xf 2
  have hle := h.le
  have hlen := h.len
  have hcp := h.cp
  have hpl := rlt_of_heapP h.row
  clear h xf
  obtain ⟨at_, ok⟩ := r
  simp only at x1 x2 hle
  obtain ⟨m, hm⟩ : ∃ m, bs.length = m := ⟨_, rfl⟩
  rw [hm] at hle hlen hcp x0
  have Hm := Lib.hid hm
  clear hm
  have hsub : wrap64 ((m : Int) - (at_ : Int)) = ((m - at_ : Nat) : Int) := by rw [IntWalk.wrap64_in _ ⟨by omega, by omega⟩]; omega
  by_cases hok : ok = true
  · subst hok
    by_cases hlt : m < at_ + n
    · have hgt : ((m - at_ : Nat) : Int) < (n : Int) := by omega
      have HF := Lib.hid fun w1 (hc : Chg (fun _ => False) w w1) => H.out.fail n hc
      have HT := Lib.hid (show ptake bs ⟨at_, true⟩ n = ([], ⟨at_, false⟩) by unfold ptake; rw [if_pos (.inr (by rw [Hm.out]; exact hlt))])
      have HQ := Lib.hid fun w1 (h : RdAft p b off cap bs ⟨at_, false⟩ w w1) => (show TookP p b off cap bs ⟨at_, true⟩ n w (.returned (.slice none 0 0)) w1 by
        unfold TookP; rw [HT.out]; exact ⟨none, 0, rfl, .inl rfl, fun _ => rfl, h⟩)
      clear HT
      go_enter Try.func65, Try.ntmps65
      go_wp2_with fail
      go_quiet (fail)
      go_wp2_with fail
      go_ret
      exact HQ.out _ (HF.out _ ((Chg.refl _ _).drewN _))
    · have hgt : ¬ ((m - at_ : Nat) : Int) < (n : Int) := by omega
      have hgt2 : ¬ ((m : Int) - (at_ : Int)) < (n : Int) := by omega
      have HF := Lib.hid fun w1 (hc : Chg (fun _ => False) w w1) => H.out.go (n := n) (by simp only; rw [Hm.out]; omega) rfl hc
      have HT := Lib.hid (show ptake bs ⟨at_, true⟩ n = (piece bs at_ n, ⟨at_ + n, true⟩) from ptake_go (by rw [Hm.out]; omega))
      have HQ := Lib.hid fun w1 (h : RdAft p b off cap bs ⟨at_ + n, true⟩ w w1) => (show TookP p b off cap bs ⟨at_, true⟩ n w (.returned (.slice (some ⟨b, off + at_, none⟩) n n)) w1 by
        unfold TookP; rw [HT.out]
        refine ⟨_, n, ?_, h.1.bts.piece at_ n (by rw [Hm.out]; omega), (fun e => by cases e), h⟩
        rw [piece_length (by rw [Hm.out]; omega)])
      have HQ0 := Lib.hid fun w1 (hc : Chg (fun _ => False) w w1) => take_zero H.out hc
      have hw1 : wrap64 ((at_ : Int) + (n : Int)) = (at_ : Int) + (n : Int) := IntWalk.wrap64_in _ ⟨by omega, by omega⟩
      have hw2 : wrap64 ((at_ : Int) + (n : Int) - (n : Int)) = (at_ : Int) := by rw [Int.add_sub_cancel]; exact IntWalk.wrap64_in _ ⟨by omega, by omega⟩
      have hb1 : (at_ : Int) + (n : Int) ≤ (cap : Int) := by omega
      have hb2 : (at_ : Int) ≤ (at_ : Int) + (n : Int) := by omega
      have hb3 : (0 : Int) ≤ (at_ : Int) + (n : Int) := by omega
      have hb4 : ((at_ : Int) + (n : Int)).toNat = at_ + n := by omega
      clear HT
      go_enter Try.func65, Try.ntmps65
      go_wp2_with fail
      go_quiet (fail)
      go_wp2_with fail
      go_quiet (fail)
      go_wp2_with fail
      all_goals
        go_ret
        first
          | exact (HQ.out _ (HF.out _ ((Chg.refl _ _).drewN _))).drewN _
          | exact (HQ0.out _ ((Chg.refl _ _).drewN _)).drewN _
  · have hok : ok = false := by simpa using hok
    subst hok
    have HF := Lib.hid fun w1 (hc : Chg (fun _ => False) w w1) => H.out.fail n hc
    have HT := Lib.hid (show ptake bs ⟨at_, false⟩ n = ([], ⟨at_, false⟩) by unfold ptake; rw [if_pos (.inl rfl)])
    have HQ := Lib.hid fun w1 (h : RdAft p b off cap bs ⟨at_, false⟩ w w1) => (show TookP p b off cap bs ⟨at_, false⟩ n w (.returned (.slice none 0 0)) w1 by
      unfold TookP; rw [HT.out]; exact ⟨none, 0, rfl, .inl rfl, fun _ => rfl, h⟩)
    clear HT
    go_enter Try.func65, Try.ntmps65
    go_wp2_with fail
    go_quiet (fail)
    go_wp2_with fail
    go_ret
    exact HQ.out _ (HF.out _ ((Chg.refl _ _).drewN _))
end Go.Proofs.Ytkjgncmbhkhbnaa
