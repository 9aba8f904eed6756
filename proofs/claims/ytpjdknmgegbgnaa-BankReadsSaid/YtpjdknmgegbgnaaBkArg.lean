/- Arguments: a list of numbers; make; the document's Blocks. -/
import Derived.Test.YtpjdknmgegbgnaaBkWk
import Derived.Test.YtpjdknmgegbgnaaArg2
import Derived.Test.YtpjdknmgegbgnaaEq
import Derived.Test.YtpjdknmgegbgnaaSpare
namespace Go.Proofs.Ytpjdknmgegbgnaa
open Go.RowKit
set_option linter.unusedVariables false
set_option maxRecDepth 100000

theorem IsRow.nts {w : World} {a : Option Addr} {len cap : Nat} {zs : List Int} (h : IsRow .i64 w a len cap zs) : ∃ cs, cs.length = len ∧ Nts w a cs := by
  rcases h with ⟨rfl, rfl, rfl, rfl⟩ | ⟨x, rfl, hl, hm, hz, hc, hw⟩
  · exact ⟨[], rfl, .inl rfl⟩
  · refine ⟨zs.take len, by rw [List.length_take]; omega, ?_⟩
    by_cases h0 : len = 0
    · subst h0; exact .inl (by simp)
    · have hc0 := hc 0 (by omega)
      obtain ⟨b, off, vi⟩ := x
      have hspot : vi = none := by simpa [Addr.add] using World.cell?_spot hc0
      subst hspot
      rw [add_none] at hc0
      refine .inr ⟨b, off, rfl, block_lt_of_cell hc0, fun i hi => ?_⟩
      rw [List.length_take] at hi
      have := hc i (by omega)
      rw [add_none] at this
      rw [this, List.getD_eq_getElem?_getD, List.getD_eq_getElem?_getD, List.getElem?_take_of_lt (by omega)]
theorem dBlocks_any (n : Int) (hn : n ≤ 9223372036854775807) (w : World) : Calls Try.prog 9 #[.int .i64 n] w fun e w' => e = .returned (.int .i64 (nblocks n.toNat : Nat)) ∧ w' = w := by
  by_cases h : n < 1
  · have HR := Lib.hid (show nblocks n.toNat = 0 by unfold nblocks; omega)
    rw [HR.out]
    go_enter Try.func9, Try.ntmps9
    go_wp2_with fail
    go_ret
    exact ⟨rfl, rfl⟩
  · obtain ⟨m, rfl⟩ : ∃ m : Nat, n = ((m + 1 : Nat) : Int) := ⟨(n - 1).toNat, by omega⟩
    have HR := Lib.hid (show nblocks ((m + 1 : Nat) : Int).toNat = m / 240 + 1 by unfold nblocks; omega)
    rw [HR.out]
    have h1 : ((m + 1 : Nat) : Int) - 1 = (m : Int) := by omega
    have hm : (m : Int) < 9223372036854775807 := by omega
    generalize ((m + 1 : Nat) : Int) = k at *
    obtain rfl : k = (m : Int) + 1 := by omega
    clear h1
    go_enter Try.func9, Try.ntmps9
    go_wp2_with fail
    go_ret
    exact ⟨by simp, rfl⟩
theorem made_ints (n : Nat) : madeCells #[.int .i64 0] n = (cellsN (List.replicate n 0)).toArray := by
  apply Array.toList_inj.1
  unfold madeCells cellsN
  rw [Array.toList_map, Array.toList_range, List.map_replicate]
  rw [List.eq_replicate_iff]
  refine ⟨by simp, fun b hb => ?_⟩
  obtain ⟨i, _, rfl⟩ := List.mem_map.1 hb
  show (#[Value.int .i64 0])[i % 1]! = _
  rw [Nat.mod_one]; rfl
/-- make([]int, n) -/
theorem make_ints (n : Nat) (hn : n ≤ 20000000000000) (w : World) : ∃ w', (Instr.makeSlice 22 (.int .i64 (n : Int)) (.int .i64 (n : Int))).run Try.prog w = .ok (.slice (some ⟨w.heap.size, 0, none⟩) n n) w' ∧ ON w' (some ⟨w.heap.size, 0, none⟩) n (List.replicate n 0) ∧ Below w.heap.size w w' ∧ w.heap.size < w'.heap.size := by
  obtain ⟨i0, hi, hz0, hz1, hz2⟩ := info_parts eN.hi
  refine ⟨w.alloc (.cells (cellsN (List.replicate n 0)).toArray 3), ?_, ?_, one_below _ _, by simp⟩
  · have h := run_make (P := Try.prog) (w := w) 22 3 i0 (.int .i64 0) eN.hu hi hz0 .i64 .i64 n n (by omega) (by omega) (by rw [hz2]; show (8 : Int) * (n : Int) ≤ _; omega) (by omega)
    rw [h, hz1]
    rw [show (n : Int).toNat * eN.size = n by rw [Int.toNat_natCast]; exact Nat.mul_one n, show (Value.int IntKind.i64 0).cells = #[.int .i64 0] from rfl, made_ints, Int.toNat_natCast]
  · unfold ON
    rw [List.length_replicate]
    exact OR.made eN w (cellsN (List.replicate n 0)) n (by rw [cellsN_length, List.length_replicate]; exact (Nat.mul_one n).symm) (by show n ≤ maxLen; unfold maxLen; omega)
/-- a list of numbers of the program's own: one is written -/
theorem ON.set {w : World} {g cap : Nat} {cs : List Int} (h : ON w (some ⟨g, 0, none⟩) cap cs) (j : Nat) (hj : j < cs.length) (u : Int) : ON (w.setCell ⟨g, j, none⟩ (.int .i64 u)) (some ⟨g, 0, none⟩) cap (cs.set j u) := by
  have := OR.set h j (.int .i64 u) (by rw [cellsN_length]; exact hj)
  unfold ON
  rw [List.length_set]
  rw [show cellsN (cs.set j u) = (cellsN cs).set j (.int .i64 u) by simp [cellsN, List.map_set]]
  exact this
theorem ON.cellF {w : World} {g cap : Nat} {cs : List Int} (h : ON w (some ⟨g, 0, none⟩) cap cs) {j : Nat} (hj : j < cs.length) : w.cell? ⟨g, j, none⟩ = some (.int .i64 (cs.getD j 0)) ∧ w.frozen? ⟨g, j, none⟩ = false := by
  obtain ⟨g', e, h1, h2⟩ := OR.cell h (j := j) (u := .int .i64 (cs.getD j 0)) (by simp [cellsN, List.getD_eq_getElem?_getD, hj])
  cases e; exact ⟨h1, h2⟩
/-- numbers that may be counts -/
def okL (cs : List Int) : Prop := ∀ c ∈ cs, okC c
theorem okL.set {cs : List Int} (h : okL cs) (j : Nat) {u : Int} (hu : okC u) : okL (cs.set j u) := by
  intro c hc
  rcases List.mem_or_eq_of_mem_set hc with hc | rfl
  · exact h c hc
  · exact hu
theorem okL.nat {cs : List Int} (h : okL cs) : ∀ v ∈ cs.map Int.toNat, v < 65536 := by
  intro v hv
  obtain ⟨c, hc, rfl⟩ := List.mem_map.1 hv
  have h1 := (h c hc).1
  have h2 := (h c hc).2
  omega
theorem benc_ok {gen : Nat} (hg : gen ≤ 1099511627776) {cs : List Int} (hn : cs.length ≤ 65536) (h : okL cs) : benc gen cs = (0, rowsB gen cs (nblocks cs.length)) := by
  unfold benc
  rw [if_neg (by omega), if_neg (by omega), if_neg]
  · rw [Int.toNat_natCast]; rfl
  · intro h2
    rw [List.any_eq_true] at h2
    obtain ⟨c, hc, hd⟩ := h2
    have h3 := of_decide_eq_true hd
    have h1 := (h c hc).1
    have h2 := (h c hc).2
    omega
end Go.Proofs.Ytpjdknmgegbgnaa
