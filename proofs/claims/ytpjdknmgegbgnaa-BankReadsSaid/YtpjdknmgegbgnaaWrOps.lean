/- The walks of the writer's methods Raw, Short, Fill, Len, Done, and of NewWriter. -/
import Derived.Test.YtpjdknmgegbgnaaWrPut
namespace Go.Proofs.Ytpjdknmgegbgnaa
open Go.RowKit

def WS.short (s : WS) (xs : List UInt8) : WS := if 255 < xs.length then s.fail 3 else s.add (UInt8.ofNat xs.length :: xs)
def WS.fill (s : WS) (n : Int) : WS := if n < s.bs.length then s.fail 3 else if s.most < n then s.fail 4 else s.add (List.replicate (n.toNat - s.bs.length) 0)
def WS.new (most : Int) : WS := ⟨(min (max most 0) 16777216).toNat, [], 0⟩

theorem IsW.below {w w' : World} {p : Nat} {oa : Option Addr} {cap : Nat} {s : WS} (h : IsW w p oa cap s) (hb : Below w.heap.size w w') : IsW w' p oa cap s := h.chg (F := fun _ => False) (Chg.of_below hb) (fun f => f) (fun _ _ f => f)

theorem make_bytes (w : World) (m : Nat) (hm : m ≤ 16777216) : ∃ w', (Instr.makeSlice 32 (.int .i64 (m : Int)) (.int .i64 (m : Int))).run Try.prog w = .ok (.slice (some ⟨w.heap.size, 0, none⟩) m m) w' ∧ OB w' (some ⟨w.heap.size, 0, none⟩) m (List.replicate m 0) ∧ Below w.heap.size w w' ∧ w.heap.size < w'.heap.size := by
  obtain ⟨i0, hi, hz0, hz1, hz2⟩ := info_parts eB.hi
  obtain ⟨w', hr, ho, hg⟩ := run_make_full (P := Try.prog) (w := w) 0 32 5 i0 (.int .u8 0) 1 eB.hu hi hz0 hz1 .i64 .i64 m (by rw [hz2]; show 1 * m ≤ _; omega) (by unfold maxLen; omega) (Nat.zero_le _)
  have hO : OB w' (some ⟨w.heap.size, 0, none⟩) m (List.replicate m 0) := by
    have e : (madeCells (Value.int .u8 0).cells (m * 1)).toList = cellsB (List.replicate m 0) := by
      apply List.ext_getElem?
      intro i
      have h01 : ∀ i : Nat, #[Value.int .u8 0][i % 1]! = Value.int .u8 0 := fun i => by rw [Nat.mod_one]; rfl
      simp only [madeCells, cellsB, Value.cells, Nat.mul_one, h01, List.size_toArray, List.length_cons, List.length_nil, List.map_replicate, Array.toList_map, List.getElem?_map, List.getElem?_replicate]
      by_cases h : i < m
      · simp [h]
      · simp [h]
    rw [e] at ho
    show w'.ownsRow 0 _ _ _ _ _
    rw [List.length_replicate]; exact ho
  exact ⟨w', hr, hO, (Below.refl _ _).grown hg (Nat.le_refl _) (fun k hk => by cases hk), hO.lt _ rfl⟩

set_option maxHeartbeats 1000000 in
theorem fill_any (p : Nat) (oa : Option Addr) (cap : Nat) (s : WS) (n : Int) (hn : -9223372036854775808 ≤ n ∧ n ≤ 9223372036854775807) (w : World) (h : IsW w p oa cap s) :
    Calls Try.prog 51 #[.pointer (some ⟨p, 0, none⟩), .int .i64 n] w fun r w' => r = .returned (.tuple #[]) ∧ Wrote w p oa (s.fill n) w' := by
  have hs := h
  obtain ⟨⟨T, h3⟩, h4, h5, h6, h7, h8⟩ := h
  obtain ⟨c0, c1, c2, f⟩ := cells3 h3
  have hp := hs.lt
  have hblk := h4.lt
  clear h3 h4 h5 f
  have hnb : s.bs.length ≤ 16777216 := by omega
  have hbsi : (0 : Int) ≤ (s.bs.length : Int) := by omega
  by_cases t1 : n < s.bs.length
  · have HF := Lib.hid (show s.fill n = s.fail 3 by simp [WS.fill, t1])
    have H := Lib.hid (fail_any p oa cap s 3 (by decide) w hs)
    clear hs hn
    go_enter Try.func51, Try.ntmps51
    go_wp2_with fail
    refine H.out.mono ?_
    rintro _ w3 ⟨rfl, h3⟩
    go_wp2_with fail
    go_returns
    exact ⟨rfl, by rw [HF.out]; exact h3⟩
  by_cases t2 : (s.most : Int) < n
  · have HF := Lib.hid (show s.fill n = s.fail 4 by simp [WS.fill, t1, t2])
    have H := Lib.hid (fail_any p oa cap s 4 (by decide) w hs)
    clear hs hn
    go_enter Try.func51, Try.ntmps51
    go_wp2_with fail
    refine H.out.mono ?_
    rintro _ w3 ⟨rfl, h3⟩
    go_wp2_with fail
    go_returns
    exact ⟨rfl, by rw [HF.out]; exact h3⟩
  have HF := Lib.hid (show s.fill n = s.add (List.replicate (n.toNat - s.bs.length) 0) by simp [WS.fill, t1, t2])
  have hm : n - (s.bs.length : Int) = ((n.toNat - s.bs.length : Nat) : Int) := by omega
  have hml : n.toNat - s.bs.length ≤ 16777216 := by omega
  generalize n.toNat - s.bs.length = m at hm hml HF
  obtain ⟨w1, hmk, hO, hB, hz⟩ := make_bytes w m hml
  have hB2 := hB.alloc hB.size (.cells #[.slice (some ⟨w.heap.size, 0, none⟩) m m] 32)
  have hg := heap_alloc_new w1 (.cells #[.slice (some ⟨w.heap.size, 0, none⟩) m m] 32)
  have hO2 := hO.below ((Below.refl _ _).alloc (Nat.le_refl _) (.cells #[.slice (some ⟨w.heap.size, 0, none⟩) m m] 32))
  have H := Lib.hid (add_any p w1.heap.size 1 oa cap s [⟨some ⟨w.heap.size, 0, none⟩, m, List.replicate m 0⟩] (by simp [joinP]; omega) (by show 1 ≤ _; omega) _ (hs.below hB2)
    (fun j x hj => by
      cases j with
      | zero => cases hj; exact ⟨by rw [cell_of_row _ _ 0 _ _ _ hg]; simp, hO2.bts, fun e => by cases e⟩
      | succ j => simp at hj)
    (lt_of_heap hg) ⟨⟨by omega, fun e => by have := hblk _ e; omega⟩, fun x hx => .inr fun k hk => by
      simp at hx; subst hx
      simp [blk] at hk; subst hk
      exact ⟨by omega, fun e => by have := hblk _ e; omega⟩⟩)
  rw [show joinP [⟨some ⟨w.heap.size, 0, none⟩, m, List.replicate m 0⟩] = List.replicate m 0 by simp [joinP]] at H
  clear hs hO hO2 hg hblk hn
  go_enter Try.func51, Try.ntmps51
  go_wp2_with fail
  refine H.out.mono ?_
  rintro _ w3 ⟨rfl, h3⟩
  go_wp2_with fail
  go_returns
  exact ⟨rfl, by rw [HF.out]; exact Wrote.below hB2 h3⟩

theorem done_err (p : Nat) (oa : Option Addr) (cap : Nat) (s : WS) (he : s.err ≠ 0) (w : World) (h : IsW w p oa cap s) :
    Calls Try.prog 52 #[.pointer (some ⟨p, 0, none⟩)] w fun r w' => r = .returned (.tuple #[.slice none 0 0, .int .i64 (s.err : Nat)]) ∧ Below w.heap.size w w' := by
  obtain ⟨⟨T, h3⟩, _⟩ := h
  obtain ⟨c0, c1, c2, f⟩ := cells3 h3
  have e1 : ((s.err : Int) != 0) = true := by rw [bne_iff_ne]; omega
  clear h3 f he
  go_enter Try.func52, Try.ntmps52
  go_wp2_with fail
  go_quiet (fail)
  go_wp2_with fail
  go_ret2
  exact ⟨rfl, below_drewN (Below.refl _ _) _⟩

/-- what Done tells: bytes in new memory -/
def Told (w : World) (bs : List UInt8) (r : Ending) (w' : World) : Prop :=
  ∃ oa cap, r = .returned (.tuple #[.slice oa bs.length cap, .int .i64 0]) ∧ OB w' oa cap bs ∧ (blk oa = none ∨ blk oa = some w.heap.size) ∧ Below w.heap.size w w'

set_option maxHeartbeats 400000 in
theorem done_ok (p : Nat) (oa : Option Addr) (cap : Nat) (s : WS) (he : s.err = 0) (w : World) (h : IsW w p oa cap s) :
    Calls Try.prog 52 #[.pointer (some ⟨p, 0, none⟩)] w (Told w s.bs) := by
  obtain ⟨⟨T, h3⟩, h4, h5, h6, h7, h8⟩ := h
  obtain ⟨c0, c1, c2, f⟩ := cells3 h3
  have e1 : ((s.err : Int) != 0) = false := by rw [bne_eq_false_iff_eq]; omega
  have hb := h4.bts
  have hn : oa = none → cap = 0 := fun e => (h4.none_cap e).1
  have hl : s.bs.length ≤ 16777216 := by omega
  generalize hcl : s.bs.length = n at c1 hl
  have Hcl := Lib.hid hcl
  clear h3 f he h4 h5 h6 h7 h8 hcl
  go_enter Try.func52, Try.ntmps52
  go_wp2_with (at_builtin; go_must (refine wpList_append_bytes rfl (.const (.slice none 0 0)) (.tmp 16) rfl (n := 0) (bs := []) rfl rfl (OB.nil _) Hcl.out.symm rfl hb hn (by omega) ?_)
               intro oa2 cap2 w2 hO2 hC2 hb2 _)
  go_ret2
  have hB : Below w.heap.size w w2 := hC2.below (Nat.le_refl _) (fun k e => by cases e)
  exact ⟨oa2, cap2, by rw [Hcl.out]; rfl, by simpa using hO2, hb2, hB⟩

set_option maxHeartbeats 400000 in
theorem newWriter_any (most : Int) (w : World) :
    Calls Try.prog 46 #[.int .i64 most] w fun r w' => r = .returned (.pointer (some ⟨w.heap.size, 0, none⟩)) ∧ IsW w' w.heap.size none 0 (WS.new most) ∧ Below w.heap.size w w' := by
  go_enter Try.func46, Try.ntmps46
  go_wp2_with fail
  all_goals
    go_ret
    refine ⟨rfl, ⟨⟨101, (heap_alloc_new w _).trans ?_⟩, OB.nil _, by simp [blk], Nat.zero_le _, ?_, Nat.zero_le _⟩, (Below.refl _ _).alloc (Nat.le_refl _) _⟩
    · congr 2
      simp only [WS.new]
      congr 3
      omega
    · simp only [WS.new]; omega
end Go.Proofs.Ytpjdknmgegbgnaa
