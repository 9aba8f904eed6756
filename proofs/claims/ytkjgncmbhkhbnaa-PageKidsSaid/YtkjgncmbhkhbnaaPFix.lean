/- The law's leaf and fixed. -/
import Derived.Test.YtkjgncmbhkhbnaaPEqP
import Derived.Test.YtkjgncmbhkhbnaaPEncM
import Derived.Test.YtkjgncmbhkhbnaaPDecM
import Derived.Lib.SlBytesConst
namespace Go.Proofs.Ytkjgncmbhkhbnaa
open Go.RowKit
set_option linter.unusedVariables false
set_option maxRecDepth 100000

def leafP : PP := ⟨1, 0, [⟨[97], [120], 0, 1⟩], [], 0⟩
theorem one_sl {w : World} {B g : Nat} {b : UInt8} {fr : Nat × Nat} (h : w.heap[g]? = some (.cells #[.int .u8 (b.toNat : Int)] 5 fr)) (hg : g < B) : Sl B w (some ⟨g, 0, none⟩) 1 [b] := by
  refine ⟨.inr ⟨g, 0, rfl, (Array.getElem?_eq_some_iff.1 h).1, fun i hi => ?_⟩, .inr fun k e => (by cases e; exact hg), by simp, fun e => by cases e⟩
  have : i = 0 := by simp at hi; omega
  subst this
  rw [cell_of_row _ _ _ _ _ _ h]; rfl
theorem nil_sl {w : World} {B : Nat} : Sl B w none 0 [] := ⟨.inl rfl, .inl rfl, by simp, fun _ => rfl⟩
/-- what leaf leaves -/
def LeafP (w : World) (x : Ending) (w' : World) : Prop := ∃ g, x = .returned (.agg #[.int .i64 1, .int .i64 0, .slice (some ⟨g, 0, none⟩) 1 1, .slice none 0 0, .int .i64 0]) ∧ PgAt w'.heap.size w' leafP (some ⟨g, 0, none⟩) 1 none 0 ∧ Below w.heap.size w w'
theorem leaf_at {w : World} {g1 g2 g3 : Nat} {fr : Nat × Nat} (h1 : w.heap[g1]? = some (.cells #[.int .u8 97] 5 fr)) (h2 : w.heap[g2]? = some (.cells #[.int .u8 120] 5 fr)) (h3 : w.heap[g3]? = some (.cells #[.slice (some ⟨g1, 0, none⟩) 1 1, .slice (some ⟨g2, 0, none⟩) 1 1, .int .i64 0, .int .i64 1] 64)) :
    PgAt w.heap.size w leafP (some ⟨g3, 0, none⟩) 1 none 0 := by
  obtain ⟨c0, c1, c2, c3⟩ := cells4P h3
  refine ⟨.inr ⟨g3, 0, rfl, rlt_of_heapP h3, fun i x hi => ?_⟩, by decide, fun e => (by cases e), nil_sl, ⟨by decide, by decide⟩, ⟨by decide, by decide⟩, ⟨by decide, by decide⟩⟩
  have hl := (List.getElem?_eq_some_iff.1 hi).1
  have : i = 0 := by simp [leafP] at hl; omega
  subst this
  simp [leafP] at hi
  subst hi
  refine ⟨some ⟨g1, 0, none⟩, 1, some ⟨g2, 0, none⟩, 1, ?_, ?_, ?_, ?_, one_sl (b := 97) h1 (rlt_of_heapP h1), one_sl (b := 120) h2 (rlt_of_heapP h2), ⟨by decide, by decide⟩, ⟨by decide, by decide⟩⟩
  · simpa using c0
  · simpa using c1
  · simpa using c2
  · simpa using c3

theorem conv_one (w : World) (x : Value) : Sem.run Try.prog (convert 25 25 (.slice (some ⟨w.heap.size, 0, none⟩) 1 1)) (w.alloc (.cells #[x] 5)) = .ok (.slice (some ⟨w.heap.size, 0, none⟩) 1 1) (w.alloc (.cells #[x] 5 (1, 2))) :=
  Lib.run_convert_bytes_const (P := Try.prog) w 25 5 #[x] 1 1 Try.underlying25 Try.underlying5
/-- four new blocks -/
theorem four_new (w : World) (o0 o1 o2 o3 : Obj) : ((((w.alloc o0).alloc o1).alloc o2).alloc o3).heap[w.heap.size]? = some o0 ∧ ((((w.alloc o0).alloc o1).alloc o2).alloc o3).heap[w.heap.size + 1]? = some o1 ∧ ((((w.alloc o0).alloc o1).alloc o2).alloc o3).heap[w.heap.size + 1 + 1]? = some o2 ∧ ((((w.alloc o0).alloc o1).alloc o2).alloc o3).heap[w.heap.size + 1 + 1 + 1]? = some o3 ∧ Below w.heap.size w ((((w.alloc o0).alloc o1).alloc o2).alloc o3) := by
  have s1 : (w.alloc o0).heap.size = w.heap.size + 1 := by simp
  generalize hw1 : w.alloc o0 = w1 at s1 ⊢
  have a0 : w1.heap[w.heap.size]? = some o0 := by rw [← hw1]; exact heap_alloc_new _ _
  have b0 : Below w.heap.size w w1 := by rw [← hw1]; exact one_below _ _
  have t := two_below w1 o1 o2
  have s2 : (w1.alloc o1).heap.size = w.heap.size + 1 + 1 := by rw [← s1]; simp
  generalize hw2 : w1.alloc o1 = w2 at s2 t ⊢
  have a1 : w2.heap[w.heap.size + 1]? = some o1 := by rw [← hw2, ← s1]; exact heap_alloc_new _ _
  have c0 : w2.heap[w.heap.size]? = some o0 := by rw [← hw2, (one_below w1 o1).block _ (by omega)]; exact a0
  have s3 : (w2.alloc o2).heap.size = w.heap.size + 1 + 1 + 1 := by rw [← s2]; simp
  have q2 := one_below w2 o2
  generalize hw3 : w2.alloc o2 = w3 at s3 q2 t ⊢
  have a2 : w3.heap[w.heap.size + 1 + 1]? = some o2 := by rw [← hw3, ← s2]; exact heap_alloc_new _ _
  have d0 := (q2.block _ (by omega)).trans c0
  have d1 := (q2.block _ (by omega)).trans a1
  have q3 := one_below w3 o3
  refine ⟨(q3.block _ (by omega)).trans d0, (q3.block _ (by omega)).trans d1, (q3.block _ (by omega)).trans a2, ?_, (b0.trans (t.mono (by omega))).trans (q3.mono (by omega))⟩
  rw [← s3]; exact heap_alloc_new _ _

set_option maxHeartbeats 1000000 in
theorem leaf_any (w : World) : Calls Try.prog 37 #[] w (LeafP w) := by
  have hcv1 := conv_one (w.alloc (.cells #[.int .i64 0, .int .i64 0, .slice none 0 0, .slice none 0 0, .int .i64 0] 27)) (.int .u8 97)
  have hcv2 := conv_one ((w.alloc (.cells #[.int .i64 0, .int .i64 0, .slice none 0 0, .slice none 0 0, .int .i64 0] 27)).alloc (.cells #[.int .u8 97] 5 (1, 2))) (.int .u8 120)
  have hs1 : (w.alloc (.cells #[.int .i64 0, .int .i64 0, .slice none 0 0, .slice none 0 0, .int .i64 0] 27)).heap.size = w.heap.size + 1 := by simp
  have hs2 : ((w.alloc (.cells #[.int .i64 0, .int .i64 0, .slice none 0 0, .slice none 0 0, .int .i64 0] 27)).alloc (.cells #[.int .u8 97] 5 (1, 2))).heap.size = w.heap.size + 1 + 1 := by simp
  rw [hs1] at hcv1
  rw [hs2] at hcv2
  clear hs1 hs2
  go_enter Try.func37, Try.ntmps37
  go_wp2_with fail
  obtain ⟨f0, f1, f2, f3, fb⟩ := four_new w (.cells #[.int .i64 1, .int .i64 0, .slice (some ⟨w.heap.size + 1 + 1 + 1, 0, none⟩) 1 1, .slice none 0 0, .int .i64 0] 27) (.cells #[.int .u8 97] 5 (1, 2)) (.cells #[.int .u8 120] 5 (1, 2)) (.cells #[.slice (some ⟨w.heap.size + 1, 0, none⟩) 1 1, .slice (some ⟨w.heap.size + 1 + 1, 0, none⟩) 1 1, .int .i64 0, .int .i64 1] 64)
  generalize ((((w.alloc (.cells #[.int .i64 1, .int .i64 0, .slice (some ⟨w.heap.size + 1 + 1 + 1, 0, none⟩) 1 1, .slice none 0 0, .int .i64 0] 27)).alloc (.cells #[.int .u8 97] 5 (1, 2))).alloc (.cells #[.int .u8 120] 5 (1, 2))).alloc (.cells #[.slice (some ⟨w.heap.size + 1, 0, none⟩) 1 1, .slice (some ⟨w.heap.size + 1 + 1, 0, none⟩) 1 1, .int .i64 0, .int .i64 1] 64)) = W at f0 f1 f2 f3 fb ⊢
  obtain ⟨r0, r1, r2, r3, r4⟩ := cells5 f0
  refine bodyPost_ret (v := .agg #[.int .i64 1, .int .i64 0, .slice (some ⟨w.heap.size + 1 + 1 + 1, 0, none⟩) 1 1, .slice none 0 0, .int .i64 0]) (by simp [results, Try.results37, go_sem, r0, r1, r2, r3, r4]) rfl ?_
  exact ⟨_, rfl, leaf_at f1 f2 f3, fb⟩
end Go.Proofs.Ytkjgncmbhkhbnaa
