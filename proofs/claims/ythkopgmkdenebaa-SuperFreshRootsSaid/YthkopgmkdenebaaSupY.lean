/- The walk of CopySuper. -/
import Derived.Test.YthkopgmkdenebaaSupT
import Derived.Test.YthkopgmkdenebaaHeldE
import Derived.Test.YthkopgmkdenebaaSupO
namespace Go.Proofs.Ythkopgmkdenebaa
open Go.RowKit
set_option linter.unusedVariables false
set_option maxRecDepth 100000

def Copied (s : SP) (w : World) (e : Ending) (w' : World) : Prop := ∃ oa oc, e = .returned (spv s oa oc) ∧ ORt w' oa oc s.roots ∧ (∀ k, blk oa = some k → w.heap.size ≤ k) ∧ Below w.heap.size w w'
def RelY (W : World) (B g : Nat) (s : SP) (i : Value) (wr : World) : Prop :=
  ∃ k : Nat, k ≤ s.roots.length ∧ i = .int .i64 k ∧ ∃ oa oc, wr.heap[g]? = some (sBox s.gen s.cf.blocks s.cf.clones s.cf.refs s.next oa k oc) ∧ OR eRt wr oa oc k (cellsR (s.roots.take k)) ∧ (∀ j, blk oa = some j → g < j) ∧ Chg (fun j => g ≤ j) W wr

set_option maxHeartbeats 4000000 in
theorem copySuper_any (s : SP) (a : Option Addr) (cap : Nat) (w : World) (B : Nat) (hB : B ≤ w.heap.size) (hs : SpAt B w s a cap) (hl : s.roots.length ≤ 4398046511000) :
    Calls Try.prog 30 #[spv s a cap] w (Copied s w) := by
  have Hs := Lib.hid hs
  obtain ⟨gen, ⟨bl, cl, re⟩, nx, rs⟩ := s
  simp only [spv] at hl ⊢
  obtain ⟨n, hn⟩ : ∃ n, rs.length = n := ⟨_, rfl⟩
  have Hn := Lib.hid hn
  rw [hn] at hl ⊢
  clear hs hn
  go_enter Try.func30, Try.ntmps30
  go_wp2_with fail
  obtain ⟨lo, hlo⟩ : ∃ lo, w.heap.size = lo := ⟨_, rfl⟩
  rw [hlo]
  have h2 := two_below w (sBox gen bl cl re nx a n cap) (sBox 0 0 0 0 0 none 0 0)
  have hz2 : ((w.alloc (sBox gen bl cl re nx a n cap)).alloc (sBox 0 0 0 0 0 none 0 0)).heap.size = lo + 2 := by simp [hlo]
  have hx0 : ((w.alloc (sBox gen bl cl re nx a n cap)).alloc (sBox 0 0 0 0 0 none 0 0)).heap[lo]? = some (sBox gen bl cl re nx a n cap) := by
    rw [← hlo]; exact (heap_alloc_old _ _ (by simp)).trans (heap_alloc_new w _)
  have hx1 : ((w.alloc (sBox gen bl cl re nx a n cap)).alloc (sBox 0 0 0 0 0 none 0 0)).heap[lo + 1]? = some (sBox 0 0 0 0 0 none 0 0) := by
    have h1 := heap_alloc_new (w.alloc (sBox gen bl cl re nx a n cap)) (sBox 0 0 0 0 0 none 0 0)
    have h3 : (w.alloc (sBox gen bl cl re nx a n cap)).heap.size = lo + 1 := by simp [hlo]
    rw [h3] at h1; exact h1
  unfold sBox at h2 hz2 hx0 hx1
  generalize (w.alloc (.cells #[.int .i64 gen, .int .i64 bl, .int .i64 cl, .int .i64 re, .int .i64 nx, .slice a n cap] 33)).alloc (.cells #[.int .i64 0, .int .i64 0, .int .i64 0, .int .i64 0, .int .i64 0, .slice none 0 0] 33) = W2 at *
  have hb3 := (Below.refl W2.heap.size W2).alloc (Nat.le_refl _) (sBox gen bl cl re nx none 0 0)
  have hx3 := heap_alloc_new W2 (sBox gen bl cl re nx none 0 0)
  have h02 : lo < W2.heap.size := by omega
  have h12 : lo + 1 < W2.heap.size := by omega
  have hy0 := (hb3.block _ h02).trans hx0
  have hy1 := (hb3.block _ h12).trans hx1
  have hBB := h2.trans (hb3.mono (by omega))
  rw [hz2] at hx3
  unfold sBox at hb3 hx3 hy0 hy1 hBB
  have hz3 : (W2.alloc (.cells #[.int .i64 gen, .int .i64 bl, .int .i64 cl, .int .i64 re, .int .i64 nx, .slice none 0 0] 33)).heap.size = lo + 3 := by simp [hz2]
  generalize W2.alloc (.cells #[.int .i64 gen, .int .i64 bl, .int .i64 cl, .int .i64 re, .int .i64 nx, .slice none 0 0] 33) = W3 at *
  have Hx3 := Lib.hid hx3
  have Hy0 := Lib.hid hy0
  have Hy1 := Lib.hid hy1
  have HBB := Lib.hid hBB
  have Hlo := Lib.hid hlo
  have Hz3 := Lib.hid hz3
  clear h2 hz2 hx0 hx1 hb3 hx3 hy0 hy1 hBB h02 h12 hz3 hlo
  go_loopw [4] (fun i wr => RelY W3 B (lo + 2) ⟨gen, ⟨bl, cl, re⟩, nx, rs⟩ i wr) (fun i _ => n - (intOf i).toNat)
  case atStart => exact ⟨0, Nat.zero_le _, rfl, none, 0, Hx3.out, by simpa [cellsR] using OR.nil _ _, (fun j hj => by cases hj), Chg.refl _ _⟩
  case round =>
    obtain ⟨k, hk, rfl, oa, oc, hS, hO, hof, hC⟩ := hrel
    simp only [Hn.out] at hk hS hO
    have hzr := hC.size
    have hz3 := Hz3.out
    have hlo := Hlo.out
    have hb0 := hC.below (B := lo + 2) (by omega) (fun j hj => hj)
    have hA := (hb0.block lo (by omega)).trans Hy0.out
    have hBr : Below B w wr := (HBB.out.trans (hb0.mono (by omega))).mono hB
    obtain ⟨a0, a1, a2, a3, a4, a5, -⟩ := cells6 hA
    obtain ⟨y0, y1, y2, y3, y4, y5, -⟩ := cells6 hS
    have HS := Lib.hid hS
    have HO := Lib.hid hO
    have Hof := Lib.hid hof
    have HC := Lib.hid hC
    have HA := Lib.hid hA
    have Hb0 := Lib.hid hb0
    clear hS hO hof hC hA hb0
    by_cases hlt : k < n
    · obtain ⟨x, hxk⟩ : ∃ x, rs[k]? = some x := ⟨_, List.getElem?_eq_getElem (by rw [Hn.out]; exact hlt)⟩
      obtain ⟨b, off, rfl, hb, hcc⟩ := (Hs.out.rts.below hBr).at hxk
      obtain ⟨c0, c1, c2, c3⟩ := hcc
      have hbr : b < wr.heap.size := by omega
      have Hxk := Lib.hid hxk
      have hb6 : Below wr.heap.size wr (wr.alloc (.cells #[.int .i64 x.id, .int .i64 x.root, .int .i64 x.height, .int .i64 x.items] 50)).drew := ((Below.refl _ _).alloc (Nat.le_refl _) _).drew
      clear hxk
      go_wp2_with fail
      have HSe := Lib.hid (show (fun w' : World => w'.cell? ⟨lo + 2, 5, none⟩ = some (.slice oa k oc) ∧ (w'.cell? ⟨lo, 5, none⟩ = some (.slice (some ⟨b, off, none⟩) n cap) ∧ (w'.cell? ⟨b, off + k * 4, none⟩ = some (.int .i64 x.id) ∧ w'.cell? ⟨b, off + k * 4 + 1, none⟩ = some (.int .i64 x.root) ∧ w'.cell? ⟨b, off + k * 4 + 2, none⟩ = some (.int .i64 x.height) ∧ w'.cell? ⟨b, off + k * 4 + 3, none⟩ = some (.int .i64 x.items)))) wr.drew from ⟨y5, a5, c0, c1, c2, c3⟩)
      have e1 : ∀ q, (wr.alloc (.cells #[.int .i64 x.id, .int .i64 x.root, .int .i64 x.height, .int .i64 x.items] 50)).drew.cell? ⟨b, q, none⟩ = wr.cell? ⟨b, q, none⟩ := fun q => hb6.cell (p := ⟨b, q, none⟩) hbr
      have e2 : ∀ q, (wr.alloc (.cells #[.int .i64 x.id, .int .i64 x.root, .int .i64 x.height, .int .i64 x.items] 50)).drew.cell? ⟨lo, q, none⟩ = wr.cell? ⟨lo, q, none⟩ := fun q => hb6.cell (p := ⟨lo, q, none⟩) (by show lo < _; omega)
      have e3 : ∀ q, (wr.alloc (.cells #[.int .i64 x.id, .int .i64 x.root, .int .i64 x.height, .int .i64 x.items] 50)).drew.cell? ⟨lo + 2, q, none⟩ = wr.cell? ⟨lo + 2, q, none⟩ := fun q => hb6.cell (p := ⟨lo + 2, q, none⟩) (by show lo + 2 < _; omega)
      have HSf := Lib.hid (show (fun w' : World => w'.cell? ⟨lo + 2, 5, none⟩ = some (.slice oa k oc) ∧ (w'.cell? ⟨lo, 5, none⟩ = some (.slice (some ⟨b, off, none⟩) n cap) ∧ (w'.cell? ⟨b, off + k * 4, none⟩ = some (.int .i64 x.id) ∧ w'.cell? ⟨b, off + k * 4 + 1, none⟩ = some (.int .i64 x.root) ∧ w'.cell? ⟨b, off + k * 4 + 2, none⟩ = some (.int .i64 x.height) ∧ w'.cell? ⟨b, off + k * 4 + 3, none⟩ = some (.int .i64 x.items)))) (wr.alloc (.cells #[.int .i64 x.id, .int .i64 x.root, .int .i64 x.height, .int .i64 x.items] 50)).drew from ⟨(e3 _).trans y5, (e2 _).trans a5, (e1 _).trans c0, (e1 _).trans c1, (e1 _).trans c2, (e1 _).trans c3⟩)
      obtain ⟨n0, n1, n2, n3, -⟩ := cells4 (show (wr.alloc (.cells #[.int .i64 x.id, .int .i64 x.root, .int .i64 x.height, .int .i64 x.items] 50)).drew.heap[wr.heap.size]? = _ from heap_alloc_new wr (.cells #[.int .i64 x.id, .int .i64 x.root, .int .i64 x.height, .int .i64 x.items] 50))
      have HNW := Lib.hid (news4 n0 n1 n2 n3)
      have HO6 := Lib.hid (OR.chg (F := fun _ => False) HO.out (Chg.of_below hb6) (fun _ _ f => f))
      have HC6 := Lib.hid (HC.out.trans (Chg.of_below (F := fun j => lo + 2 ≤ j) hb6) (fun i _ e => e))
      have HS6 := Lib.hid ((hb6.block _ (lt_of_heap HS.out)).trans HS.out)
      have hz6 : wr.heap.size < (wr.alloc (.cells #[.int .i64 x.id, .int .i64 x.root, .int .i64 x.height, .int .i64 x.items] 50)).drew.heap.size := lt_of_heap (show (wr.alloc (.cells #[.int .i64 x.id, .int .i64 x.root, .int .i64 x.height, .int .i64 x.items] 50)).drew.heap[wr.heap.size]? = _ from heap_alloc_new wr (.cells #[.int .i64 x.id, .int .i64 x.root, .int .i64 x.height, .int .i64 x.items] 50))
      clear hb6 e1 e2 e3 n0 n1 n2 n3
      refine wp_region_E (fun w' : World => w'.cell? ⟨lo + 2, 5, none⟩ = some (.slice oa k oc) ∧ (w'.cell? ⟨lo, 5, none⟩ = some (.slice (some ⟨b, off, none⟩) n cap) ∧ (w'.cell? ⟨b, off + k * 4, none⟩ = some (.int .i64 x.id) ∧ w'.cell? ⟨b, off + k * 4 + 1, none⟩ = some (.int .i64 x.root) ∧ w'.cell? ⟨b, off + k * 4 + 2, none⟩ = some (.int .i64 x.height) ∧ w'.cell? ⟨b, off + k * 4 + 3, none⟩ = some (.int .i64 x.items)))) 8 (by kernel_rfl) (by kernel_rfl) ?_
      change At _ _ _ _ _ _ 11 #[false, false, false, false, false, false, false, false, false, false, false] _ _
      refine at_take 0 (v := ?_) rfl (by decide) (by kernel_rfl) (by kernel_rfl) (fun _ _ _ h => h) (Or.inl ⟨by rfl, ?_⟩) HSe.out ?_
      rotate_left
      · intro w' hSw; (try dsimp only at hSw); go_simp; (try with_reducible rfl)
      simp only [Act.put, List.setIfInBounds_toArray, List.set_cons_zero, List.set_cons_succ]
      refine at_take 1 (v := ?_) rfl (by decide) (by kernel_rfl) (by kernel_rfl) (fun _ _ _ h => h) (Or.inl ⟨by rfl, ?_⟩) HSe.out ?_
      rotate_left
      · intro w' hSw; (try dsimp only at hSw); go_simp; (try with_reducible rfl)
      simp only [Act.put, List.setIfInBounds_toArray, List.set_cons_zero, List.set_cons_succ]
      refine at_take 2 (v := ?_) rfl (by decide) (by kernel_rfl) (by kernel_rfl) (fun _ _ _ h => h) (Or.inl ⟨by rfl, ?_⟩) HSe.out ?_
      rotate_left
      · intro w' hSw; (try dsimp only at hSw); go_simp; (try with_reducible rfl)
      simp only [Act.put, List.setIfInBounds_toArray, List.set_cons_zero, List.set_cons_succ]
      refine at_take 3 (v := ?_) rfl (by decide) (by kernel_rfl) (by kernel_rfl) (fun _ _ _ h => h) (Or.inl ⟨by rfl, ?_⟩) HSe.out ?_
      rotate_left
      · intro w' hSw; (try dsimp only at hSw); go_simp; (try with_reducible rfl)
      simp only [Act.put, List.setIfInBounds_toArray, List.set_cons_zero, List.set_cons_succ]
      refine at_take 4 (v := ?_) rfl (by decide) (by kernel_rfl) (by kernel_rfl) (fun _ _ _ h => h) (Or.inl ⟨by rfl, ?_⟩) HSe.out ?_
      rotate_left
      · intro w' hSw; (try dsimp only at hSw); go_simp; (try with_reducible rfl)
      simp only [Act.put, List.setIfInBounds_toArray, List.set_cons_zero, List.set_cons_succ]
      refine at_take 5 (v := ?_) rfl (by decide) (by kernel_rfl) (by kernel_rfl) (fun _ _ _ h => h) (Or.inl ⟨by rfl, ?_⟩) HSe.out ?_
      rotate_left
      · intro w' hSw; (try dsimp only at hSw); go_simp; (try with_reducible rfl)
      simp only [Act.put, List.setIfInBounds_toArray, List.set_cons_zero, List.set_cons_succ]
      refine at_take 6 (v := ?_) rfl (by decide) (by kernel_rfl) (by kernel_rfl) (fun _ _ _ h => h) (Or.inl ⟨by rfl, ?_⟩) HSe.out ?_
      rotate_left
      · intro w' hSw; (try dsimp only at hSw); go_simp; (try with_reducible rfl)
      simp only [Act.put, List.setIfInBounds_toArray, List.set_cons_zero, List.set_cons_succ]
      refine at_only 7 rfl (by decide) (by kernel_rfl) (by rfl) ?_
      intro K hK
      go_simp
      refine hK _ _ HSf.out ?_
      clear hK K
      simp only [List.setIfInBounds_toArray, List.set_cons_zero, List.set_cons_succ]
      refine at_tail rfl (by kernel_rfl) ?_
      simp only [List.drop_succ_cons, List.drop_zero]
      go_wp2_with (at_builtin; go_must (refine wpList_append_or eRt rfl (.tmp 20) (.tmp 26) rfl (n := k) (cs := cellsR (rs.take k)) rfl HO6.out rfl (m := 1) (news := [.int .i64 x.id, .int .i64 x.root, .int .i64 x.height, .int .i64 x.items]) rfl (.inr ⟨_, rfl, HNW.out⟩) (by simp [Value.oneCell']) (by show (k + 1) * 32 ≤ _; omega) (by omega) ?_)
                   intro oa7 oc7 w7 hO7 hC7 hb7 _
                   have hS7 := (hC7.block (lo + 2) (by omega) (fun e => by have := Hof.out _ e; omega)).trans HS6.out
                   have HS7 := Lib.hid (set_row hS7 5 (.slice oa7 (k + 1) oc7))
                   have HO7 := Lib.hid hO7
                   have HC7 := Lib.hid hC7
                   have Hb7 := Lib.hid hb7
                   obtain ⟨s0, s1', s2', s3', s4', s5', sf⟩ := cells6 hS7
                   have sf5 := sf 5
                   clear hS7 hO7 hC7 hb7 sf)
      have e2 : cellsR (rs.take (k + 1)) = cellsR (rs.take k) ++ [.int .i64 x.id, .int .i64 x.root, .int .i64 x.height, .int .i64 x.items] := by
        rw [List.take_add_one, Hxk.out]; simp [cellsR]
      have hof5 : ∀ j, blk oa7 = some j → lo + 2 < j := fun j hj => by
        rcases Hb7.out with e | e
        · exact Hof.out j (e ▸ hj)
        · rw [e] at hj; cases hj; omega
      refine ⟨⟨k + 1, by simp only [Hn.out]; omega, by go_num, oa7, oc7, HS7.out.trans rfl, by simp only; rw [e2]; exact HO7.out.chg (Chg.set w7 ⟨lo + 2, 5, none⟩ _) (fun j hj (e : j = _) => by have := hof5 j hj; subst e; exact absurd this (Nat.lt_irrefl _)), hof5, ?_⟩, by simp [intOf]; omega⟩
      exact (HC6.out.trans HC7.out (fun j _ e => by have := Hof.out j e; omega)).setCell ⟨lo + 2, 5, none⟩ _ (fun _ => Nat.le_refl _)
    · obtain rfl : k = n := by omega
      have Hg1 := Lib.hid ((Hb0.out.block (lo + 1) (by omega)).trans Hy1.out)
      obtain ⟨r0, r1, r2, r3, r4, r5, rf⟩ := cells6 Hg1.out
      have f0 := rf 0
      have f1 := rf 1
      have f2 := rf 2
      have f3 := rf 3
      have f4 := rf 4
      have f5 := rf 5
      clear rf
      have HBr := Lib.hid (HBB.out.trans (Hb0.out.mono (by omega)))
      have hlw : w.heap.size ≤ lo + 1 := by omega
      go_wp2_with fail
      refine bodyPost_ret (v := .agg #[.int .i64 gen, .int .i64 bl, .int .i64 cl, .int .i64 re, .int .i64 nx, .slice oa k oc]) (by simp [results, Try.results30, go_sem, r0, r1, r2, r3, r4, r5]) rfl ?_
      refine ⟨oa, oc, (by simp only [spv]; rw [Hn.out]), ?_, (fun j hj => by have := Hof.out j hj; omega), ?_⟩
      · have hO := HO.out
        unfold ORt
        simp only
        rw [Hn.out]
        rw [List.take_of_length_le (by rw [Hn.out]; exact Nat.le_refl _)] at hO
        refine OR.chg (F := fun j => j = lo + 1) hO ?_ (fun j hj e => by have := Hof.out j hj; omega)
        exact (((((((Chg.refl (fun j => j = lo + 1) _).setCell ⟨lo + 1, 0, none⟩ _ (fun _ => rfl)).setCell ⟨lo + 1, 1, none⟩ _ (fun _ => rfl)).setCell ⟨lo + 1, 2, none⟩ _ (fun _ => rfl)).setCell ⟨lo + 1, 3, none⟩ _ (fun _ => rfl)).setCell ⟨lo + 1, 4, none⟩ _ (fun _ => rfl)).setCell ⟨lo + 1, 5, none⟩ _ (fun _ => rfl))
      · exact (((((HBr.out.setCell hlw _).setCell hlw _).setCell hlw _).setCell hlw _).setCell hlw _).setCell hlw _
end Go.Proofs.Ythkopgmkdenebaa
