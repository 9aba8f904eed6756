/- Kids: the program's and the document's; lists of numbers. -/
import Derived.Test.YtkjgncmbhkhbnaaDChk
import Derived.Test.YtkjgncmbhkhbnaaApp
namespace Go.Proofs.Ytkjgncmbhkhbnaa
open Go.RowKit
set_option linter.unusedVariables false
set_option maxRecDepth 100000

def eN : Elt := { t := 33, e := 3, size := 1, bytes := 8, z := .int .i64 0, hu := Try.underlying33, hi := by kernel_rfl, hz := rfl, h0 := by decide }
def cellsN (l : List Int) : List Value := l.map fun x => Value.int .i64 x
/-- a list of numbers that the program made -/
def ON (w : World) (oa : Option Addr) (cap : Nat) (l : List Int) : Prop := OR eN w oa cap l.length (cellsN l)
def kidOf (kind : Int) (x : PI) : List Int := if kind = 2 ∨ (kind = 1 ∧ x.child ≠ 0) then [x.child] else []
def kidsN (kind : Int) (xs : List PI) : List Int := xs.flatMap (kidOf kind)
/-- what Kids answers -/
def pkids (p : PP) : List Int := kidsN p.kind p.items ++ if p.kind = 3 ∧ p.next ≠ 0 then [p.next] else []
theorem kidsN_snoc {kind : Int} {xs : List PI} {j : Nat} {x : PI} (h : xs[j]? = some x) : kidsN kind (xs.take (j + 1)) = kidsN kind (xs.take j) ++ kidOf kind x := by
  rw [List.take_add_one, h]; simp [kidsN]
theorem kidsN_len (kind : Int) (xs : List PI) : (kidsN kind xs).length ≤ xs.length := by
  induction xs with
  | nil => simp [kidsN]
  | cons x xs ih =>
    have e : kidsN kind (x :: xs) = kidOf kind x ++ kidsN kind xs := rfl
    rw [e, List.length_append, List.length_cons]
    unfold kidOf; split <;> simp <;> omega
/-- what a call of Kids leaves -/
def KidsP (l : List Int) (w : World) (x : Ending) (w' : World) : Prop :=
  ∃ oa cap, x = .returned (.slice oa l.length cap) ∧ ON w' oa cap l ∧ (∀ k, blk oa = some k → w.heap.size ≤ k) ∧ Below w.heap.size w w'
def RelKd (w0 : World) (p : PP) (ia : Option Addr) (ic : Nat) (da : Option Addr) (dc : Nat) (o i : Value) (wr : World) : Prop :=
  ∃ (j : Nat) (oa : Option Addr) (cap : Nat), j ≤ p.items.length ∧ i = .int .i64 j ∧ o = .slice oa (kidsN p.kind (p.items.take j)).length cap ∧ ON wr oa cap (kidsN p.kind (p.items.take j)) ∧ (∀ k, blk oa = some k → w0.heap.size < k) ∧ DB w0 p ia ic da dc wr
theorem DB.chgF {w0 : World} {p : PP} {ia : Option Addr} {ic : Nat} {da : Option Addr} {dc : Nat} {w w' : World} (h : DB w0 p ia ic da dc w) {F : Nat → Prop} (hc : Chg F w w') (hF : ∀ k, F k → w0.heap.size < k) : DB w0 p ia ic da dc w' := by
  refine ⟨?_, h.bel.trans (hc.below h.bel.size (fun k e => by have := hF k e; omega))⟩
  rw [hc.block _ (rlt_of_heapP h.box) (fun f => by have := hF _ f; omega)]; exact h.box
theorem relKd_same {w0 : World} {p : PP} {ia : Option Addr} {ic : Nat} {da : Option Addr} {dc : Nat} {j : Nat} {x : PI} (hx : p.items[j]? = some x) (hk : kidOf p.kind x = []) {oa : Option Addr} {cap : Nat} {wr : World} (hO : ON wr oa cap (kidsN p.kind (p.items.take j))) (ho : ∀ k, blk oa = some k → w0.heap.size < k) (hD : DB w0 p ia ic da dc wr) {i : Value} (hi : i = .int .i64 ((j + 1 : Nat) : Int)) :
    RelKd w0 p ia ic da dc (.slice oa (kidsN p.kind (p.items.take j)).length cap) i wr := by
  have e : kidsN p.kind (p.items.take (j + 1)) = kidsN p.kind (p.items.take j) := by rw [kidsN_snoc hx, hk, List.append_nil]
  exact ⟨j + 1, oa, cap, (List.getElem?_eq_some_iff.1 hx).1, hi, by rw [e], by rw [e]; exact hO, ho, hD⟩
theorem relKd_more {w0 : World} {p : PP} {ia : Option Addr} {ic : Nat} {da : Option Addr} {dc : Nat} {j : Nat} {x : PI} (hx : p.items[j]? = some x) (hk : kidOf p.kind x = [x.child]) {oa oa' : Option Addr} {cap' : Nat} {w w' : World} (ho : ∀ k, blk oa = some k → w0.heap.size < k) (hD : DB w0 p ia ic da dc w)
    (hO : OR eN w' oa' cap' ((kidsN p.kind (p.items.take j)).length + 1) (cellsN (kidsN p.kind (p.items.take j)) ++ [.int .i64 x.child])) (hC : Chg (fun k => blk oa = some k) w w') (hb : blk oa' = blk oa ∨ blk oa' = some w.heap.size) {i : Value} (hi : i = .int .i64 ((j + 1 : Nat) : Int)) :
    RelKd w0 p ia ic da dc (.slice oa' ((kidsN p.kind (p.items.take j)).length + 1) cap') i w' := by
  have e : kidsN p.kind (p.items.take (j + 1)) = kidsN p.kind (p.items.take j) ++ [x.child] := by rw [kidsN_snoc hx, hk]
  refine ⟨j + 1, oa', cap', (List.getElem?_eq_some_iff.1 hx).1, hi, by rw [e, List.length_append]; rfl, ?_, fun k hk => ?_, hD.chgF hC ho⟩
  · unfold ON
    rw [e, List.length_append, show cellsN (kidsN p.kind (p.items.take j) ++ [x.child]) = cellsN (kidsN p.kind (p.items.take j)) ++ [.int .i64 x.child] by simp [cellsN]]
    exact hO
  · rcases hb with hb | hb
    · exact ho k (hb ▸ hk)
    · rw [hb] at hk; cases hk; exact rlt_of_heapP hD.box
theorem kids_end {w0 : World} {p : PP} {ia : Option Addr} {ic : Nat} {da : Option Addr} {dc : Nat} {oa : Option Addr} {cap : Nat} {w : World} (hk : ¬ (p.kind = 3 ∧ p.next ≠ 0)) (hO : ON w oa cap (kidsN p.kind p.items)) (ho : ∀ k, blk oa = some k → w0.heap.size < k) (hD : DB w0 p ia ic da dc w) :
    KidsP (pkids p) w0 (.returned (.slice oa (kidsN p.kind p.items).length cap)) w := by
  have e : pkids p = kidsN p.kind p.items := by unfold pkids; rw [if_neg hk, List.append_nil]
  rw [e]
  exact ⟨oa, cap, rfl, hO, fun k h => Nat.le_of_lt (ho k h), hD.bel⟩
theorem kids_more {w0 : World} {p : PP} {ia : Option Addr} {ic : Nat} {da : Option Addr} {dc : Nat} {oa oa' : Option Addr} {cap' : Nat} {w w' : World} (hk : p.kind = 3 ∧ p.next ≠ 0) (ho : ∀ k, blk oa = some k → w0.heap.size < k) (hD : DB w0 p ia ic da dc w)
    (hO : OR eN w' oa' cap' ((kidsN p.kind p.items).length + 1) (cellsN (kidsN p.kind p.items) ++ [.int .i64 p.next])) (hC : Chg (fun k => blk oa = some k) w w') (hb : blk oa' = blk oa ∨ blk oa' = some w.heap.size) :
    KidsP (pkids p) w0 (.returned (.slice oa' ((kidsN p.kind p.items).length + 1) cap')) w' := by
  have e : pkids p = kidsN p.kind p.items ++ [p.next] := by unfold pkids; rw [if_pos hk]
  rw [e]
  refine ⟨oa', cap', by rw [List.length_append]; rfl, ?_, fun k hk => ?_, (hD.chgF hC ho).bel⟩
  · unfold ON
    rw [List.length_append, show cellsN (kidsN p.kind p.items ++ [p.next]) = cellsN (kidsN p.kind p.items) ++ [.int .i64 p.next] by simp [cellsN]]
    exact hO
  · rcases hb with hb | hb
    · exact Nat.le_of_lt (ho k (hb ▸ hk))
    · rw [hb] at hk; cases hk; exact Nat.le_of_lt (rlt_of_heapP hD.box)
theorem DB.two {w0 : World} {p : PP} {ia : Option Addr} {ic : Nat} {da : Option Addr} {dc : Nat} {w : World} (h : DB w0 p ia ic da dc w) (o1 o2 : Obj) : DB w0 p ia ic da dc ((w.alloc o1).alloc o2) := h.below (two_below _ _ _)
theorem ON.two {w : World} {oa : Option Addr} {cap : Nat} {l : List Int} (h : ON w oa cap l) (o1 o2 : Obj) : ON ((w.alloc o1).alloc o2) oa cap l := OR.chg h (F := fun _ => False) (Chg.of_below (two_below _ _ _)) (fun _ _ f => f)
theorem DB.one {w0 : World} {p : PP} {ia : Option Addr} {ic : Nat} {da : Option Addr} {dc : Nat} {w : World} (h : DB w0 p ia ic da dc w) (o1 : Obj) : DB w0 p ia ic da dc (w.alloc o1) := h.below (one_below _ _)
theorem ON.one {w : World} {oa : Option Addr} {cap : Nat} {l : List Int} (h : ON w oa cap l) (o1 : Obj) : ON (w.alloc o1) oa cap l := OR.chg h (F := fun _ => False) (Chg.of_below (one_below _ _)) (fun _ _ f => f)
theorem meas_succ' {n j : Nat} (h : j < n) : n - (intOf (.int .i64 ((j : Int) + 1))).toNat < n - (intOf (.int .i64 (j : Int))).toNat := by simp only [intOf]; omega
theorem kid_yes {kind : Int} {x : PI} (h : kind = 2 ∨ (kind = 1 ∧ x.child ≠ 0)) : kidOf kind x = [x.child] := by unfold kidOf; rw [if_pos h]
theorem kid_no {kind : Int} {x : PI} (h : ¬ (kind = 2 ∨ (kind = 1 ∧ x.child ≠ 0))) : kidOf kind x = [] := by unfold kidOf; rw [if_neg h]

set_option maxHeartbeats 1000000 in
theorem pKids_any (p : PP) (ia : Option Addr) (ic : Nat) (da : Option Addr) (dc : Nat) (w : World) (hp : PgAt w.heap.size w p ia ic da dc) (hlen : p.items.length ≤ 4000000000000) :
    Calls Try.prog 34 #[pgv p ia ic da dc] w (KidsP (pkids p) w) := by
  have HP := Lib.hid hp
  have HD := Lib.hid (DB.start w p ia ic da dc)
  obtain ⟨kind, level, items, data, next⟩ := p
  simp only [pgv] at *
  obtain ⟨n, hn⟩ : ∃ n, items.length = n := ⟨_, rfl⟩
  obtain ⟨m, hm⟩ : ∃ m, data.length = m := ⟨_, rfl⟩
  rw [hn, hm] at HD ⊢
  rw [hn] at hlen
  have HN := Lib.hid hn
  have HM := Lib.hid hm
  clear hp hn hm
  go_enter Try.func34, Try.ntmps34
  have hD := HD.out
  obtain ⟨c0, c1, c2, c3, c4⟩ := cells5 hD.box
  simp only [] at c0 c1 c2 c3 c4
  rw [HN.out] at c2
  rw [HM.out] at c3
  go_wp2_with fail
  clear c0 c1 c2 c3 c4 hD
  go_loopw [3, 9] (fun o i wr => RelKd w ⟨kind, level, items, data, next⟩ ia ic da dc o i wr) (fun _ i _ => n - (intOf i).toNat)
  case atStart => exact ⟨0, none, 0, Nat.zero_le _, rfl, rfl, OR.nil eN _, fun k e => (by cases e), HD.out⟩
  case round =>
    clear HD
    obtain ⟨j, oa, cap, hj, rfl, rfl, hO, ho, hD⟩ := hrel
    simp only [] at hj hO
    rw [HN.out] at hj
    have hlc : (kidsN kind (items.take j)).length ≤ n := Nat.le_trans (kidsN_len _ _) (by rw [List.length_take, HN.out]; exact Nat.min_le_right _ _)
    by_cases hjn : j < n
    · obtain ⟨x, hx⟩ : ∃ x, items[j]? = some x := ⟨_, List.getElem?_eq_getElem (by rw [HN.out]; exact hjn)⟩
      obtain ⟨b, off, ka, kc, va, vc, rfl, hb, hit⟩ := HP.out.its.at hx
      have hd1 := hit.below hb hD.bel
      have i0 := hd1.c0
      have i1 := hd1.c1
      have i2 := hd1.c2
      have i3 := hd1.c3
      obtain ⟨key, value, child, size⟩ := x
      simp only [] at i0 i1 i2 i3
      have HDa := Lib.hid (hD.one (.cells #[.slice ka key.length kc, .slice va value.length vc, .int .i64 child, .int .i64 size] 64))
      have HOa := Lib.hid (hO.one (.cells #[.slice ka key.length kc, .slice va value.length vc, .int .i64 child, .int .i64 size] 64))
      have HSM := Lib.hid fun hk i hi => relKd_same (p := ⟨kind, level, items, data, next⟩) hx hk HOa.out ho HDa.out (i := i) hi
      have HMO := Lib.hid fun hk w1 (hD1 : DB w ⟨kind, level, items, data, next⟩ (some ⟨b, off, none⟩) ic da dc w1) w' oa' cap' hO' hC hb' i hi => relKd_more (p := ⟨kind, level, items, data, next⟩) hx hk (w := w1) (w' := w') (oa' := oa') (cap' := cap') ho hD1 hO' hC hb' (i := i) hi
      have HR := Lib.hid (heap_alloc_new wr (.cells #[.slice ka key.length kc, .slice va value.length vc, .int .i64 child, .int .i64 size] 64))
      have HJ := Lib.hid hjn
      simp only [] at HSM HMO
      generalize kidsN kind (items.take j) = ks at HOa HSM HMO hlc ⊢
      have hnw := cell_new (wr.alloc (.cells #[.slice ka key.length kc, .slice va value.length vc, .int .i64 child, .int .i64 size] 64)) (.int .i64 child) 3
      rw [show (wr.alloc (.cells #[.slice ka key.length kc, .slice va value.length vc, .int .i64 child, .int .i64 size] 64)).heap.size = wr.heap.size + 1 by simp] at hnw
      have HNW := Lib.hid hnw
      clear hD hO hx hit hd1 hnw
      obtain ⟨c0, c1, c2, c3, c4⟩ := cells5 HDa.out.box
      simp only [] at c0 c1 c2 c3 c4
      rw [HN.out] at c2
      rw [HM.out] at c3
      by_cases h2 : kind = 2
      · subst h2
        have HDb := Lib.hid (HDa.out.one (.cells #[.int .i64 child] 3))
        have HOb := Lib.hid (HOa.out.one (.cells #[.int .i64 child] 3))
        go_wp2_with (at_builtin; go_must (refine wpList_append_or eN rfl (.tmp 26) (.tmp 29) rfl rfl HOb.out rfl (m := 1) (news := [.int .i64 child]) rfl (.inr ⟨_, rfl, HNW.out⟩) (by simp [Value.oneCell']) (by show (ks.length + 1) * 8 ≤ _; omega) (by omega) ?_)
                     intro oa2 cap2 w10 hO10 hC10 hb10 _)
        go_roundw
        case rel => exact HMO.out (kid_yes (.inl rfl)) _ HDb.out _ _ _ hO10 hC10 hb10 _ (by go_num)
        case measure => exact meas_succ' HJ.out
      · have h2d : (kind == 2) = false := by rw [beq_eq_false_iff_ne]; exact h2
        by_cases h1 : kind = 1
        · subst h1
          by_cases hc0 : child = 0
          · subst hc0
            go_wp2_with fail
            go_roundw
            case rel => exact HSM.out (kid_no (by simp)) _ (by go_num)
            case measure => exact meas_succ' HJ.out
          · have hcd : (child != 0) = true := by rw [bne_iff_ne]; exact hc0
            have HDb := Lib.hid (HDa.out.one (.cells #[.int .i64 child] 3))
            have HOb := Lib.hid (HOa.out.one (.cells #[.int .i64 child] 3))
            go_wp2_with (at_builtin; go_must (refine wpList_append_or eN rfl (.tmp 26) (.tmp 29) rfl rfl HOb.out rfl (m := 1) (news := [.int .i64 child]) rfl (.inr ⟨_, rfl, HNW.out⟩) (by simp [Value.oneCell']) (by show (ks.length + 1) * 8 ≤ _; omega) (by omega) ?_)
                         intro oa2 cap2 w10 hO10 hC10 hb10 _)
            go_roundw
            case rel => exact HMO.out (kid_yes (.inr ⟨rfl, hc0⟩)) _ HDb.out _ _ _ hO10 hC10 hb10 _ (by go_num)
            case measure => exact meas_succ' HJ.out
        · have h1d : (kind == 1) = false := by rw [beq_eq_false_iff_ne]; exact h1
          go_wp2_with fail
          go_roundw
          case rel => exact HSM.out (kid_no (by intro g; rcases g with g | g; exact h2 g; exact h1 g.1)) _ (by go_num)
          case measure => exact meas_succ' HJ.out
    · obtain rfl : j = n := by omega
      rw [List.take_of_length_le (by rw [HN.out]; exact Nat.le_refl _)] at hO hlc ⊢
      have HEN := Lib.hid fun hk => kids_end (p := ⟨kind, level, items, data, next⟩) hk hO ho hD
      have HEM := Lib.hid fun hk w1 (hD1 : DB w ⟨kind, level, items, data, next⟩ ia ic da dc w1) w' oa' cap' hO' hC hb' => kids_more (p := ⟨kind, level, items, data, next⟩) hk (w := w1) (w' := w') (oa' := oa') (cap' := cap') ho hD1 hO' hC hb'
      have HDb := Lib.hid (hD.one (.cells #[.int .i64 next] 3))
      have HOb := Lib.hid (ON.one hO (.cells #[.int .i64 next] 3))
      obtain ⟨c0, c1, c2, c3, c4⟩ := cells5 hD.box
      simp only [] at c0 c1 c2 c3 c4 HEN HEM
      rw [HN.out] at c2
      rw [HM.out] at c3
      generalize kidsN kind items = ks at HOb HEN HEM hlc ⊢
      clear hD hO
      by_cases h3 : kind = 3
      · subst h3
        by_cases hn0 : next = 0
        · subst hn0
          go_wp2_with fail
          go_ret
          exact HEN.out (by simp)
        · have hnd : (next != 0) = true := by rw [bne_iff_ne]; exact hn0
          have d4 := (cells5 HDb.out.box).2.2.2.2
          go_wp2_with (at_builtin; refine wpList_append_or eN rfl (.tmp 40) (.tmp 43) rfl rfl HOb.out rfl (m := 1) (news := [.int .i64 next]) rfl (.inr ⟨_, rfl, cell_new _ _ _⟩) (by simp [Value.oneCell']) (by show (ks.length + 1) * 8 ≤ _; omega) (by omega) ?_
                       intro oa2 cap2 w10 hO10 hC10 hb10 _)
          go_ret
          exact HEM.out (by simp [hn0]) _ HDb.out _ _ _ hO10 hC10 hb10
      · have h3d : (kind == 3) = false := by rw [beq_eq_false_iff_ne]; exact h3
        go_wp2_with fail
        go_ret
        exact HEN.out (fun g => h3 g.1)
end Go.Proofs.Ytkjgncmbhkhbnaa
