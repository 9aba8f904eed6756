/- The walk of super's Decode; what it answers, in plain terms. -/
import Derived.Test.YthkopgmkdenebaaSupR
namespace Go.Proofs.Ythkopgmkdenebaa
open Go.RowKit
set_option linter.unusedVariables false
set_option maxRecDepth 100000

theorem get_at {bs : List UInt8} {o k : Nat} (h : o + k ≤ bs.length) : (⟨bs.drop o, 0⟩ : RS).get k = (fld bs o k, ⟨bs.drop (o + k), 0⟩) := by
  unfold RS.get
  rw [if_neg (by simp), if_neg (by simp; omega)]
  simp [fld, List.drop_drop]
theorem getRoot_at {bs : List UInt8} {o : Nat} (h : o + 13 ≤ bs.length) : getRoot ⟨bs.drop o, 0⟩ = (rootOf bs o, ⟨bs.drop (o + 13), 0⟩) := by
  unfold getRoot
  simp only [get_at (show o + 4 ≤ bs.length by omega), get_at (show (o + 4) + 4 ≤ bs.length by omega), get_at (show (o + 4 + 4) + 1 ≤ bs.length by omega), get_at (show (o + 4 + 4 + 1) + 4 ≤ bs.length by omega)]
  rfl
theorem rootsR_at {bs : List UInt8} {o : Nat} (n : Nat) (h : o + 13 * n ≤ bs.length) : rootsR ⟨bs.drop o, 0⟩ n = ((List.range n).map fun i => rootOf bs (o + 13 * i), ⟨bs.drop (o + 13 * n), 0⟩) := by
  induction n with
  | zero => rfl
  | succ n ih =>
    rw [rootsR, ih (by omega), getRoot_at (by omega), List.range_succ]
    simp only [List.map_append, List.map_cons, List.map_nil]
    congr 2
theorem readR_at {bs : List UInt8} (h : bs.length = 512) : (readR bs).roots.length = fld bs 25 1 ∧ (fld bs 25 1 ≤ 16 → readR bs = sread bs) := by
  have h0 : (⟨bs, 0⟩ : RS) = ⟨bs.drop 0, 0⟩ := by simp
  have e1 : rd1 bs = ⟨bs.drop 4, 0⟩ := by rw [rd1, h0, get_at (by omega)]
  have e2 : rd2 bs = ⟨bs.drop 12, 0⟩ := by rw [rd2, e1, get_at (by omega)]
  have e3 : rd3 bs = ⟨bs.drop 16, 0⟩ := by rw [rd3, e2, get_at (by omega)]
  have e4 : rd4 bs = ⟨bs.drop 17, 0⟩ := by rw [rd4, e3, get_at (by omega)]
  have e5 : rd5 bs = ⟨bs.drop 21, 0⟩ := by rw [rd5, e4, get_at (by omega)]
  have e6 : rd6 bs = ⟨bs.drop 25, 0⟩ := by rw [rd6, e5, get_at (by omega)]
  have e7 : rd7 bs = ⟨bs.drop 26, 0⟩ := by rw [rd7, e6, get_at (by omega)]
  have en : nRoots bs = fld bs 25 1 := by rw [nRoots, e6, get_at (by omega)]
  have g1 := get_at (bs := bs) (o := 4) (k := 8) (by omega)
  have g2 := get_at (bs := bs) (o := 12) (k := 4) (by omega)
  have g3 := get_at (bs := bs) (o := 16) (k := 1) (by omega)
  have g4 := get_at (bs := bs) (o := 17) (k := 4) (by omega)
  have g5 := get_at (bs := bs) (o := 21) (k := 4) (by omega)
  refine ⟨?_, fun hn => ?_⟩
  · simp only [readR]
    rw [rootsR_length, en]
  · have g7 := rootsR_at (bs := bs) (o := 26) (fld bs 25 1) (by omega)
    simp only [readR, sread]
    rw [en, e7, g7, e1, g1, e2, g2, e3, g3, e4, g4, e5, g5]
theorem right_few {s : SP} (h : scheck s = 0) : s.roots.length ≤ 16 := (scheck_ok.1 h).len
/-- Decode by what the program reads is Decode -/
theorem sdec_readR {bs : List UInt8} (h : bs.length = 512) : (scheck (readR bs) = 0 ∧ laid (readR bs) = bs) ↔ (scheck (sread bs) = 0 ∧ laid (sread bs) = bs) := by
  obtain ⟨h1, h2⟩ := readR_at h
  constructor
  · rintro ⟨g1, g2⟩
    have := right_few g1
    rw [h2 (by omega)] at g1 g2
    exact ⟨g1, g2⟩
  · rintro ⟨g1, g2⟩
    have := right_few g1
    have hl : (sread bs).roots.length = fld bs 25 1 := by simp [sread]
    rw [h2 (by omega)]
    exact ⟨g1, g2⟩
theorem readR_eq {bs : List UInt8} (h : bs.length = 512) (hc : scheck (readR bs) = 0) : readR bs = sread bs := by
  obtain ⟨h1, h2⟩ := readR_at h
  have := right_few hc
  exact h2 (by omega)
end Go.Proofs.Ythkopgmkdenebaa
