/- The walks of both Finds of chapter 9. -/
import Derived.Test.YthkopgmkdenebaaSupC
import Derived.Test.YthkopgmkdenebaaSupR
namespace Go.Proofs.Ythkopgmkdenebaa
open Go.RowKit
set_option linter.unusedVariables false
set_option maxRecDepth 100000

def foundV (rs : List RT) (id : Int) : Ending := match rs.find? (fun r => r.id == id) with
  | some r => .returned (.tuple #[.agg #[.int .i64 r.root, .int .i64 r.height, .int .i64 r.items], .bool true])
  | none => .returned (.tuple #[.agg #[.int .i64 0, .int .i64 0, .int .i64 0], .bool false])
theorem found_at {rs : List RT} {id : Int} {k : Nat} {x : RT} (h : ∀ (j : Nat) (y : RT), j < k → rs[j]? = some y → y.id ≠ id) (hk : rs[k]? = some x) (hx : x.id = id) : foundV rs id = .returned (.tuple #[.agg #[.int .i64 x.root, .int .i64 x.height, .int .i64 x.items], .bool true]) := by
  have hl := (List.getElem?_eq_some_iff.1 hk).1
  have : rs.find? (fun r => r.id == id) = some x := by
    rw [List.find?_eq_some_iff_getElem]
    refine ⟨by simpa using hx, k, hl, (List.getElem?_eq_some_iff.1 hk).2, fun j hj => ?_⟩
    have := h j _ hj (List.getElem?_eq_getElem (by omega))
    simpa using this
  rw [foundV, this]
theorem found_none {rs : List RT} {id : Int} (h : ∀ (j : Nat) (y : RT), rs[j]? = some y → y.id ≠ id) : foundV rs id = .returned (.tuple #[.agg #[.int .i64 0, .int .i64 0, .int .i64 0], .bool false]) := by
  have : rs.find? (fun r => r.id == id) = none := by
    rw [List.find?_eq_none]
    intro x hx
    obtain ⟨i, hi⟩ := List.getElem?_of_mem hx
    have := h i x hi
    simpa using this
  rw [foundV, this]
def RelF (W : World) (rs : List RT) (id : Int) (i : Value) (wr : World) : Prop := ∃ k : Nat, k ≤ rs.length ∧ i = .int .i64 k ∧ (∀ (j : Nat) (y : RT), j < k → rs[j]? = some y → y.id ≠ id) ∧ Below W.heap.size W wr
def FoundS (rs : List RT) (id : Int) (w : World) (e : Ending) (w' : World) : Prop := e = foundV rs id ∧ Below w.heap.size w w'

set_option maxHeartbeats 2000000 in
theorem find_any (s : SP) (id : Int) (a : Option Addr) (cap : Nat) (w : World) (B : Nat) (hB : B ≤ w.heap.size) (hs : SpAt B w s a cap) :
    Calls Try.prog 33 #[spv s a cap, .int .i64 id] w (FoundS s.roots id w) := by
  have Hs := Lib.hid hs
  obtain ⟨n, hn⟩ : ∃ n, s.roots.length = n := ⟨_, rfl⟩
  have Hn := Lib.hid hn
  have hlen := hs.len
  unfold spv
  rw [hn] at hlen ⊢
  have hb1 := two_below w (sBox s.gen s.cf.blocks s.cf.clones s.cf.refs s.next a n cap) (.cells #[.int .i64 0, .int .i64 0, .int .i64 0] 48)
  have hx1 := heap_alloc_new (w.alloc (sBox s.gen s.cf.blocks s.cf.clones s.cf.refs s.next a n cap)) (.cells #[.int .i64 0, .int .i64 0, .int .i64 0] 48)
  rw [show (w.alloc (sBox s.gen s.cf.blocks s.cf.clones s.cf.refs s.next a n cap)).heap.size = w.heap.size + 1 by simp] at hx1
  have hy1 : ((w.alloc (sBox s.gen s.cf.blocks s.cf.clones s.cf.refs s.next a n cap)).alloc (.cells #[.int .i64 0, .int .i64 0, .int .i64 0] 48)).heap[w.heap.size]? = some (sBox s.gen s.cf.blocks s.cf.clones s.cf.refs s.next a n cap) := (heap_alloc_old _ _ (by simp)).trans (heap_alloc_new w _)
  have hz1 : w.heap.size + 1 < ((w.alloc (sBox s.gen s.cf.blocks s.cf.clones s.cf.refs s.next a n cap)).alloc (.cells #[.int .i64 0, .int .i64 0, .int .i64 0] 48)).heap.size := by simp
  unfold sBox at hb1 hx1 hy1 hz1
  have HB1 := Lib.hid hb1
  have HX1 := Lib.hid hx1
  have HY1 := Lib.hid hy1
  have Hz1 := Lib.hid hz1
  clear hs hn hb1 hx1 hy1 hz1
  go_enter Try.func33, Try.ntmps33
  go_wp2_with fail
  generalize ((w.alloc (.cells #[.int .i64 s.gen, .int .i64 s.cf.blocks, .int .i64 s.cf.clones, .int .i64 s.cf.refs, .int .i64 s.next, .slice a n cap] 33)).alloc (.cells #[.int .i64 0, .int .i64 0, .int .i64 0] 48)) = W1 at *
  go_loopw [11] (fun i wr => RelF W1 s.roots id i wr) (fun i _ => n - (intOf i).toNat)
  case atStart => exact ⟨0, Nat.zero_le _, rfl, fun j y hj => by omega, Below.refl _ _⟩
  case round =>
    obtain ⟨k, hk, rfl, hE, hBw⟩ := hrel
    rw [Hn.out] at hk
    have hzw := hBw.size
    obtain ⟨y0, y1, y2, y3, y4, y5, -⟩ := cells6 ((hBw.block _ (Nat.lt_of_succ_lt Hz1.out)).trans HY1.out)
    by_cases hlt : k < n
    · obtain ⟨x, hxk⟩ : ∃ x, s.roots[k]? = some x := ⟨_, List.getElem?_eq_getElem (by rw [Hn.out]; exact hlt)⟩
      have hBr : Below B w wr := (HB1.out.trans (hBw.mono HB1.out.size)).mono hB
      obtain ⟨b, off, rfl, -, ⟨c0, c1, c2, c3⟩⟩ := (Hs.out.rts.below hBr).at hxk
      obtain ⟨id', ro, he, it⟩ := x
      simp only at c0 c1 c2 c3
      by_cases hid : id' = id
      · have HF := Lib.hid (found_at hE hxk hid)
        subst hid
        have hbx := hBw.alloc hBw.size (.cells #[.int .i64 id', .int .i64 ro, .int .i64 he, .int .i64 it] 50)
        obtain ⟨r0, r1, r2, rf⟩ := cells3 ((hbx.block _ Hz1.out).trans HX1.out)
        have HBx := Lib.hid hbx
        clear hbx
        have f0 := rf 0
        have f1 := rf 1
        have f2 := rf 2
        clear rf hE hBw hxk hBr
        go_wp2_with fail
        refine bodyPost_ret (v := .tuple #[.agg #[.int .i64 ro, .int .i64 he, .int .i64 it], .bool true]) (by simp [results, Try.results33, go_sem, r0, r1, r2]) rfl ?_
        refine ⟨by rw [HF.out], ?_⟩
        exact (((HB1.out.trans (HBx.out.mono HB1.out.size)).setCell (Nat.le_succ _) _).setCell (Nat.le_succ _) _).setCell (Nat.le_succ _) _
      · have HE := Lib.hid (show ∀ (j : Nat) (y : RT), j < k + 1 → s.roots[j]? = some y → y.id ≠ id from fun j y hj hy => by
          rcases Nat.lt_succ_iff_lt_or_eq.1 hj with h | rfl
          · exact hE j y h hy
          · rw [hxk] at hy; cases hy; exact hid)
        have hii : (id' == id) = false := by simpa using hid
        have HBx := Lib.hid (hBw.alloc hBw.size (.cells #[.int .i64 id', .int .i64 ro, .int .i64 he, .int .i64 it] 50))
        clear hE hBw hxk hBr
        go_wp2_with fail
        go_roundw
        case rel => exact ⟨k + 1, by rw [Hn.out]; omega, by go_num, HE.out, HBx.out⟩
        case measure => simp [intOf]; omega
    · have HF := Lib.hid (found_none (rs := s.roots) (id := id) fun j y hy => hE j y (by have := (List.getElem?_eq_some_iff.1 hy).1; rw [Hn.out] at this; omega) hy)
      obtain ⟨r0, r1, r2, rf⟩ := cells3 ((hBw.block _ Hz1.out).trans HX1.out)
      have HBx := Lib.hid hBw
      have f0 := rf 0
      have f1 := rf 1
      have f2 := rf 2
      clear rf hE hBw
      go_wp2_with fail
      refine bodyPost_ret (v := .tuple #[.agg #[.int .i64 0, .int .i64 0, .int .i64 0], .bool false]) (by simp [results, Try.results33, go_sem, r0, r1, r2]) rfl ?_
      refine ⟨by rw [HF.out], ?_⟩
      exact (((HB1.out.trans (HBx.out.mono HB1.out.size)).setCell (Nat.le_succ _) _).setCell (Nat.le_succ _) _).setCell (Nat.le_succ _) _
set_option maxHeartbeats 2000000 in
theorem dFind_any (s : SP) (id : Int) (a : Option Addr) (cap : Nat) (w : World) (B : Nat) (hB : B ≤ w.heap.size) (hs : SpAt B w s a cap) :
    Calls Try.prog 34 #[spv s a cap, .int .i64 id] w (FoundS s.roots id w) := by
  have Hs := Lib.hid hs
  obtain ⟨n, hn⟩ : ∃ n, s.roots.length = n := ⟨_, rfl⟩
  have Hn := Lib.hid hn
  have hlen := hs.len
  unfold spv
  rw [hn] at hlen ⊢
  have hb1 := two_below w (sBox s.gen s.cf.blocks s.cf.clones s.cf.refs s.next a n cap) (.cells #[.int .i64 0, .int .i64 0, .int .i64 0] 48)
  have hx1 := heap_alloc_new (w.alloc (sBox s.gen s.cf.blocks s.cf.clones s.cf.refs s.next a n cap)) (.cells #[.int .i64 0, .int .i64 0, .int .i64 0] 48)
  rw [show (w.alloc (sBox s.gen s.cf.blocks s.cf.clones s.cf.refs s.next a n cap)).heap.size = w.heap.size + 1 by simp] at hx1
  have hy1 : ((w.alloc (sBox s.gen s.cf.blocks s.cf.clones s.cf.refs s.next a n cap)).alloc (.cells #[.int .i64 0, .int .i64 0, .int .i64 0] 48)).heap[w.heap.size]? = some (sBox s.gen s.cf.blocks s.cf.clones s.cf.refs s.next a n cap) := (heap_alloc_old _ _ (by simp)).trans (heap_alloc_new w _)
  have hz1 : w.heap.size + 1 < ((w.alloc (sBox s.gen s.cf.blocks s.cf.clones s.cf.refs s.next a n cap)).alloc (.cells #[.int .i64 0, .int .i64 0, .int .i64 0] 48)).heap.size := by simp
  unfold sBox at hb1 hx1 hy1 hz1
  have HB1 := Lib.hid hb1
  have HX1 := Lib.hid hx1
  have HY1 := Lib.hid hy1
  have Hz1 := Lib.hid hz1
  clear hs hn hb1 hx1 hy1 hz1
  go_enter Try.func34, Try.ntmps34
  go_wp2_with fail
  generalize ((w.alloc (.cells #[.int .i64 s.gen, .int .i64 s.cf.blocks, .int .i64 s.cf.clones, .int .i64 s.cf.refs, .int .i64 s.next, .slice a n cap] 33)).alloc (.cells #[.int .i64 0, .int .i64 0, .int .i64 0] 48)) = W1 at *
  go_loopw [6] (fun i wr => RelF W1 s.roots id i wr) (fun i _ => n - (intOf i).toNat)
  case atStart => exact ⟨0, Nat.zero_le _, rfl, fun j y hj => by omega, Below.refl _ _⟩
  case round =>
    obtain ⟨k, hk, rfl, hE, hBw⟩ := hrel
    rw [Hn.out] at hk
    have hzw := hBw.size
    obtain ⟨y0, y1, y2, y3, y4, y5, -⟩ := cells6 ((hBw.block _ (Nat.lt_of_succ_lt Hz1.out)).trans HY1.out)
    by_cases hlt : k < n
    · obtain ⟨x, hxk⟩ : ∃ x, s.roots[k]? = some x := ⟨_, List.getElem?_eq_getElem (by rw [Hn.out]; exact hlt)⟩
      have hBr : Below B w wr := (HB1.out.trans (hBw.mono HB1.out.size)).mono hB
      obtain ⟨b, off, rfl, -, ⟨c0, c1, c2, c3⟩⟩ := (Hs.out.rts.below hBr).at hxk
      obtain ⟨id', ro, he, it⟩ := x
      simp only at c0 c1 c2 c3
      by_cases hid : id' = id
      · have HF := Lib.hid (found_at hE hxk hid)
        subst hid
        obtain ⟨r0, r1, r2, rf⟩ := cells3 ((hBw.block _ Hz1.out).trans HX1.out)
        have HBx := Lib.hid hBw
        have f0 := rf 0
        have f1 := rf 1
        have f2 := rf 2
        clear rf hE hBw hxk hBr
        go_wp2_with fail
        refine bodyPost_ret (v := .tuple #[.agg #[.int .i64 ro, .int .i64 he, .int .i64 it], .bool true]) (by simp [results, Try.results34, go_sem, r0, r1, r2]) rfl ?_
        refine ⟨by rw [HF.out], ?_⟩
        exact (((HB1.out.trans (HBx.out.mono HB1.out.size)).setCell (Nat.le_succ _) _).setCell (Nat.le_succ _) _).setCell (Nat.le_succ _) _
      · have HE := Lib.hid (show ∀ (j : Nat) (y : RT), j < k + 1 → s.roots[j]? = some y → y.id ≠ id from fun j y hj hy => by
          rcases Nat.lt_succ_iff_lt_or_eq.1 hj with h | rfl
          · exact hE j y h hy
          · rw [hxk] at hy; cases hy; exact hid)
        have hii : (id' == id) = false := by simpa using hid
        have HBx := Lib.hid hBw
        clear hE hBw hxk hBr
        go_wp2_with fail
        go_roundw
        case rel => exact ⟨k + 1, by rw [Hn.out]; omega, by go_num, HE.out, HBx.out⟩
        case measure => simp [intOf]; omega
    · have HF := Lib.hid (found_none (rs := s.roots) (id := id) fun j y hy => hE j y (by have := (List.getElem?_eq_some_iff.1 hy).1; rw [Hn.out] at this; omega) hy)
      obtain ⟨r0, r1, r2, rf⟩ := cells3 ((hBw.block _ Hz1.out).trans HX1.out)
      have HBx := Lib.hid hBw
      have f0 := rf 0
      have f1 := rf 1
      have f2 := rf 2
      clear rf hE hBw
      go_wp2_with fail
      refine bodyPost_ret (v := .tuple #[.agg #[.int .i64 0, .int .i64 0, .int .i64 0], .bool false]) (by simp [results, Try.results34, go_sem, r0, r1, r2]) rfl ?_
      refine ⟨by rw [HF.out], ?_⟩
      exact (((HB1.out.trans (HBx.out.mono HB1.out.size)).setCell (Nat.le_succ _) _).setCell (Nat.le_succ _) _).setCell (Nat.le_succ _) _
end Go.Proofs.Ythkopgmkdenebaa
