/- The walk of PageCheck. -/
import Derived.Test.YtkjgncmbhkhbnaaPFixW
import Derived.Test.YtkjgncmbhkhbnaaDChkM
namespace Go.Proofs.Ytkjgncmbhkhbnaa
open Go.RowKit
set_option linter.unusedVariables false
set_option maxRecDepth 100000

set_option maxHeartbeats 1000000 in
theorem pageCheck_walk (p : PP) (ia : Option Addr) (ic : Nat) (da : Option Addr) (dc : Nat) (W : World) (hp : PgAt W.heap.size W p ia ic da dc) :
    Calls Try.prog 4 #[pgv p ia ic da dc] W fun e W' => e = .returned (.bool true) ∧ Below W.heap.size W W' := by
  have HD := Lib.hid (DB.start W p ia ic da dc)
  have HC := Lib.hid fun w1 (h : Below W.heap.size W w1) => show Calls Try.prog 26 #[pgv p ia ic da dc] w1 fun e w' => e = .returned (.int .i64 (pcheck p)) ∧ Below w1.heap.size w1 w' from pCheck_any p ia ic da dc w1 ((hp.below h).mono h.size)
  have HR := Lib.hid fun w1 (h : Below W.heap.size W w1) => show Calls Try.prog 27 #[pgv p ia ic da dc] w1 fun e w' => e = .returned (.int .i64 (pcheck p)) ∧ Below w1.heap.size w1 w' from dCheck_any p ia ic da dc w1 ((hp.below h).mono h.size)
  generalize pcheck p = ec at HC HR
  obtain ⟨kind, level, items, data, next⟩ := p
  simp only [pgv] at HC HR ⊢
  obtain ⟨n, hn⟩ : ∃ n, items.length = n := ⟨_, rfl⟩
  obtain ⟨m, hm⟩ : ∃ m, data.length = m := ⟨_, rfl⟩
  rw [hn, hm] at HD HC HR ⊢
  have HN := Lib.hid hn
  have HM := Lib.hid hm
  clear hp hn hm
  go_enter Try.func4, Try.ntmps4
  go_wp2_with fail
  generalize W.alloc (.cells #[.int .i64 kind, .int .i64 level, .slice ia n ic, .slice da m dc, .int .i64 next] 27) = W1 at HD ⊢
  have HB1 := Lib.hid HD.out.bel
  have Hk := Lib.hid fun (w' : World) (h : Below W1.heap.size W1 w') => show w'.cell? ⟨W.heap.size, 0, none⟩ = some (.int .i64 kind) ∧ w'.cell? ⟨W.heap.size, 1, none⟩ = some (.int .i64 level) ∧ w'.cell? ⟨W.heap.size, 2, none⟩ = some (.slice ia n ic) ∧ w'.cell? ⟨W.heap.size, 3, none⟩ = some (.slice da m dc) ∧ w'.cell? ⟨W.heap.size, 4, none⟩ = some (.int .i64 next) ∧ Below W1.heap.size W1 w' from by
    obtain ⟨y0, y1, y2, y3, y4⟩ := cells5 (HD.out.below h).box
    simp only [] at y0 y1 y2 y3 y4
    rw [HN.out] at y2
    rw [HM.out] at y3
    exact ⟨y0, y1, y2, y3, y4, h⟩
  have HC1 := Lib.hid fun w1 (h : Below W1.heap.size W1 w1) => HC.out w1 (HB1.out.trans (h.mono HB1.out.size))
  have HR1 := Lib.hid fun w1 (h : Below W1.heap.size W1 w1) => HR.out w1 (HB1.out.trans (h.mono HB1.out.size))
  clear HC HR HD
  go_region_held3 (fun w' => w'.cell? ⟨W.heap.size, 0, none⟩ = some (.int .i64 kind) ∧ w'.cell? ⟨W.heap.size, 1, none⟩ = some (.int .i64 level) ∧ w'.cell? ⟨W.heap.size, 2, none⟩ = some (.slice ia n ic) ∧ w'.cell? ⟨W.heap.size, 3, none⟩ = some (.slice da m dc) ∧ w'.cell? ⟨W.heap.size, 4, none⟩ = some (.int .i64 next) ∧ Below W1.heap.size W1 w')
    (first
      | exact Hk.out _ (Below.drew (Below.refl _ _))
      | (refine Hk.out _ ?_; with_reducible assumption))
    (first
      | (go_at_call 11; go_split_ands; ((with_reducible refine (fixed_any _).mono ?_); rintro e v1 ⟨rfl, hc1⟩)
         have hbn : Below W1.heap.size W1 v1 := below_nextP (by with_reducible assumption) hc1)
      | (go_at_call 26; go_split_ands; ((with_reducible refine (HC1.out _ (by with_reducible assumption)).mono ?_); rintro e v2 ⟨rfl, hc2⟩)
         have hbn2 : Below W1.heap.size W1 v2 := below_nextP (by with_reducible assumption) hc2)
      | (go_at_call 27; go_split_ands; ((with_reducible refine (HR1.out _ (by with_reducible assumption)).mono ?_); rintro e v3 ⟨rfl, hc3⟩)
         have hbn3 : Below W1.heap.size W1 v3 := below_nextP (by with_reducible assumption) hc3))
  have HBZ := Lib.hid (HB1.out.trans (hbn3.mono HB1.out.size))
  clear hbn hbn2 hbn3 hc1 hc2 hc3
  go_wp2_with fail
  go_ret
  exact ⟨rfl, HBZ.out⟩
end Go.Proofs.Ytkjgncmbhkhbnaa
