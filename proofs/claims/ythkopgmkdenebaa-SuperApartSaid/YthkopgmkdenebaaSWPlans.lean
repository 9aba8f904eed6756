/- The walk of SuperPlans. -/
import Derived.Test.YthkopgmkdenebaaSupW
namespace Go.Proofs.Ythkopgmkdenebaa
open Go.RowKit
set_option linter.unusedVariables false
set_option maxRecDepth 100000

theorem planned_form (c : CF) : ∃ (p b f e : Int), planned c = .returned (.tuple #[.agg #[.int .i64 p, .int .i64 b, .int .i64 f], .int .i64 e]) := by
  unfold planned
  split
  · exact ⟨_, _, _, _, rfl⟩
  · exact ⟨0, 0, 0, 1, rfl⟩

theorem box_later {W w1 : World} {x : Obj} (hb : Below (W.alloc x).heap.size (W.alloc x) w1) (o : Obj) : (w1.alloc o).heap[W.heap.size]? = some x :=
  ((hb.alloc hb.size o).block W.heap.size (by simp)).trans (heap_alloc_new W x)

set_option maxHeartbeats 1000000 in
theorem superPlans_walk (c : CF) (W : World) (h1 : i64ok c.blocks) (h2 : i64ok c.clones) (h3 : i64ok c.refs) :
    Calls Try.prog 4 #[.agg #[.int .i64 c.blocks, .int .i64 c.clones, .int .i64 c.refs]] W fun e w' => e = .returned (.bool true) ∧ Below W.heap.size W w' := by
  have HP := Lib.hid (plan_any c h1 h2 h3)
  have HD := Lib.hid (dPlan_any c)
  obtain ⟨p, b, f, er, hp⟩ := planned_form c
  rw [hp] at HP HD
  obtain ⟨bl, cl, re⟩ := c
  simp only at HP HD ⊢
  clear h1 h2 h3 hp
  go_enter Try.func4, Try.ntmps4
  go_wp2_with fail
  refine (HP.out _).mono ?_
  rintro _ w1 ⟨rfl, hb1⟩
  obtain ⟨z0, z1, z2, -⟩ := cells3 (box_later hb1 (.cells #[.int .i64 p, .int .i64 b, .int .i64 f] 26))
  have HB1 := Lib.hid (((one_below W _).trans (hb1.mono (by simp))).alloc ((one_below W _).trans (hb1.mono (by simp))).size (.cells #[.int .i64 p, .int .i64 b, .int .i64 f] 26))
  have hp1 := heap_alloc_new w1 (.cells #[.int .i64 p, .int .i64 b, .int .i64 f] 26)
  have hz1 : w1.heap.size < (w1.alloc (.cells #[.int .i64 p, .int .i64 b, .int .i64 f] 26)).heap.size := by simp
  have Hp1 := Lib.hid hp1
  have Hz1 := Lib.hid hz1
  clear hb1 hp1 hz1
  go_wp2_with fail
  generalize w1.alloc (.cells #[.int .i64 p, .int .i64 b, .int .i64 f] 26) = W1 at *
  refine (HD.out _).mono ?_
  rintro _ w2 ⟨rfl, hb2⟩
  obtain ⟨p0, p1, p2, -⟩ := cells3 (((hb2.alloc hb2.size (.cells #[.int .i64 p, .int .i64 b, .int .i64 f] 26)).block w1.heap.size Hz1.out).trans Hp1.out)
  have hB2 := HB1.out.trans (hb2.mono HB1.out.size)
  have HB2 := Lib.hid (hB2.alloc hB2.size (.cells #[.int .i64 p, .int .i64 b, .int .i64 f] 26))
  clear hb2 z0 z1 z2 hB2
  go_wp2_with fail
  refine (works_any _).mono ?_
  rintro _ w3 ⟨rfl, hb3⟩
  have HB3 := Lib.hid (HB2.out.trans (hb3.mono HB2.out.size))
  clear hb3
  go_wp2_with fail
  go_ret
  exact ⟨rfl, HB3.out⟩
end Go.Proofs.Ythkopgmkdenebaa
