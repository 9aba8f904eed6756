/- The document's Kids. -/
import Derived.Test.YtkjgncmbhkhbnaaPKid
namespace Go.Proofs.Ytkjgncmbhkhbnaa
open Go.RowKit
set_option linter.unusedVariables false
set_option maxRecDepth 100000

set_option maxHeartbeats 1000000 in
theorem dKids_any (p : PP) (ia : Option Addr) (ic : Nat) (da : Option Addr) (dc : Nat) (w : World) (hp : PgAt w.heap.size w p ia ic da dc) (hlen : p.items.length ≤ 4000000000000) :
    Calls Try.prog 36 #[pgv p ia ic da dc] w (KidsP (pkids p) w) := by
  have HP := Lib.hid hp
  have HD := Lib.hid (DB.start w p ia ic da dc)
  obtain ⟨kind, level, items, data, next⟩ := p
  simp only [pgv] at *
  obtain ⟨n, hn⟩ : ∃ n, items.length = n := ⟨_, rfl⟩
  obtain ⟨m, hm⟩ : ∃ m, data.length = m := ⟨_, rfl⟩
  rw [hn, hm] at HD ⊢
  rw [hn] at hlen
  have HN := Lib.hid hn
  have HM := Lib.hid hm
  clear hp hn hm
  go_enter Try.func36, Try.ntmps36
  have hD := HD.out
  obtain ⟨c0, c1, c2, c3, c4⟩ := cells5 hD.box
  simp only [] at c0 c1 c2 c3 c4
  rw [HN.out] at c2
  rw [HM.out] at c3
  have HD1 := Lib.hid (hD.one (.cells #[] 3))
  have HO1 := Lib.hid (show ON ((w.alloc (.cells #[.int .i64 kind, .int .i64 level, .slice ia n ic, .slice da m dc, .int .i64 next] 27)).alloc (.cells #[] 3)) (some ⟨w.heap.size + 1, 0, none⟩) 0 [] by
    have h := OR.made eN (w.alloc (.cells #[.int .i64 kind, .int .i64 level, .slice ia n ic, .slice da m dc, .int .i64 next] 27)) [] 0 rfl (Nat.zero_le _)
    rw [show (w.alloc (.cells #[.int .i64 kind, .int .i64 level, .slice ia n ic, .slice da m dc, .int .i64 next] 27)).heap.size = w.heap.size + 1 by simp] at h
    exact h)
  go_wp2_with fail
  clear c0 c1 c2 c3 c4 hD
  go_loopw [3, 4] (fun o i wr => RelKd w ⟨kind, level, items, data, next⟩ ia ic da dc o i wr) (fun _ i _ => n - (intOf i).toNat)
  case atStart => exact ⟨0, some ⟨w.heap.size + 1, 0, none⟩, 0, Nat.zero_le _, rfl, rfl, HO1.out, fun k e => (by rw [blk_some] at e; cases e; exact Nat.lt_succ_self _), HD1.out⟩
  case round =>
    clear HD HD1 HO1
    obtain ⟨j, oa, cap, hj, rfl, rfl, hO, ho, hD⟩ := hrel
    simp only [] at hj hO
    rw [HN.out] at hj
    have hlc : (kidsN kind (items.take j)).length ≤ n := Nat.le_trans (kidsN_len _ _) (by rw [List.length_take, HN.out]; exact Nat.min_le_right _ _)
    by_cases hjn : j < n
    · obtain ⟨x, hx⟩ : ∃ x, items[j]? = some x := ⟨_, List.getElem?_eq_getElem (by rw [HN.out]; exact hjn)⟩
      obtain ⟨b, off, ka, kc, va, vc, rfl, hb, hit⟩ := HP.out.its.at hx
      have hd1 := hit.below hb hD.bel
      have i0 := hd1.c0
      have i1 := hd1.c1
      have i2 := hd1.c2
      have i3 := hd1.c3
      obtain ⟨key, value, child, size⟩ := x
      simp only [] at i0 i1 i2 i3
      have HDa := Lib.hid hD
      have HOa := Lib.hid hO
      have HSM := Lib.hid fun hk i hi => relKd_same (p := ⟨kind, level, items, data, next⟩) hx hk HOa.out ho HDa.out (i := i) hi
      have HMO := Lib.hid fun hk w1 (hD1 : DB w ⟨kind, level, items, data, next⟩ (some ⟨b, off, none⟩) ic da dc w1) w' oa' cap' hO' hC hb' i hi => relKd_more (p := ⟨kind, level, items, data, next⟩) hx hk (w := w1) (w' := w') (oa' := oa') (cap' := cap') ho hD1 hO' hC hb' (i := i) hi
      have HJ := Lib.hid hjn
      simp only [] at HSM HMO
      generalize kidsN kind (items.take j) = ks at HOa HSM HMO hlc ⊢
      have HNW := Lib.hid (cell_new wr (.int .i64 child) 3)
      have hj1 : (j : Int) < (n : Int) := by omega
      clear hD hO hx hit hd1
      obtain ⟨c0, c1, c2, c3, c4⟩ := cells5 HDa.out.box
      simp only [] at c0 c1 c2 c3 c4
      rw [HN.out] at c2
      rw [HM.out] at c3
      by_cases h2 : kind = 2
      · subst h2
        have HDb := Lib.hid (HDa.out.one (.cells #[.int .i64 child] 3))
        have HOb := Lib.hid (HOa.out.one (.cells #[.int .i64 child] 3))
        go_wp2_with (at_builtin; go_must (refine wpList_append_or eN rfl (.tmp 30) (.tmp 37) rfl rfl HOb.out rfl (m := 1) (news := [.int .i64 child]) rfl (.inr ⟨_, rfl, HNW.out⟩) (by simp [Value.oneCell']) (by show (ks.length + 1) * 8 ≤ _; omega) (by omega) ?_)
                     intro oa2 cap2 w10 hO10 hC10 hb10 _)
        go_roundw
        case rel => exact HMO.out (kid_yes (.inl rfl)) _ HDb.out _ _ _ hO10 hC10 hb10 _ (by go_num)
        case measure => exact meas_succ' HJ.out
      · have h2d : (kind == 2) = false := by rw [beq_eq_false_iff_ne]; exact h2
        by_cases h1 : kind = 1
        · subst h1
          by_cases hc0 : child = 0
          · subst hc0
            go_wp2_with fail
            go_roundw
            case rel => exact HSM.out (kid_no (by simp)) _ (by go_num)
            case measure => exact meas_succ' HJ.out
          · have hcd : (child != 0) = true := by rw [bne_iff_ne]; exact hc0
            have HDb := Lib.hid (HDa.out.one (.cells #[.int .i64 child] 3))
            have HOb := Lib.hid (HOa.out.one (.cells #[.int .i64 child] 3))
            go_wp2_with (at_builtin; go_must (refine wpList_append_or eN rfl (.tmp 30) (.tmp 37) rfl rfl HOb.out rfl (m := 1) (news := [.int .i64 child]) rfl (.inr ⟨_, rfl, HNW.out⟩) (by simp [Value.oneCell']) (by show (ks.length + 1) * 8 ≤ _; omega) (by omega) ?_)
                         intro oa2 cap2 w10 hO10 hC10 hb10 _)
            go_roundw
            case rel => exact HMO.out (kid_yes (.inr ⟨rfl, hc0⟩)) _ HDb.out _ _ _ hO10 hC10 hb10 _ (by go_num)
            case measure => exact meas_succ' HJ.out
        · have h1d : (kind == 1) = false := by rw [beq_eq_false_iff_ne]; exact h1
          go_wp2_with fail
          go_roundw
          case rel => exact HSM.out (kid_no (by intro g; rcases g with g | g; exact h2 g; exact h1 g.1)) _ (by go_num)
          case measure => exact meas_succ' HJ.out
    · obtain rfl : j = n := by omega
      rw [List.take_of_length_le (by rw [HN.out]; exact Nat.le_refl _)] at hO hlc ⊢
      have HEN := Lib.hid fun hk => kids_end (p := ⟨kind, level, items, data, next⟩) hk hO ho hD
      have HEM := Lib.hid fun hk w1 (hD1 : DB w ⟨kind, level, items, data, next⟩ ia ic da dc w1) w' oa' cap' hO' hC hb' => kids_more (p := ⟨kind, level, items, data, next⟩) hk (w := w1) (w' := w') (oa' := oa') (cap' := cap') ho hD1 hO' hC hb'
      have HDb := Lib.hid (hD.one (.cells #[.int .i64 next] 3))
      have HOb := Lib.hid (ON.one hO (.cells #[.int .i64 next] 3))
      obtain ⟨c0, c1, c2, c3, c4⟩ := cells5 hD.box
      simp only [] at c0 c1 c2 c3 c4 HEN HEM
      rw [HN.out] at c2
      rw [HM.out] at c3
      generalize kidsN kind items = ks at HOb HEN HEM hlc ⊢
      clear hD hO
      by_cases h3 : kind = 3
      · subst h3
        by_cases hn0 : next = 0
        · subst hn0
          go_wp2_with fail
          go_ret
          exact HEN.out (by simp)
        · have hnd : (next != 0) = true := by rw [bne_iff_ne]; exact hn0
          have d4 := (cells5 HDb.out.box).2.2.2.2
          go_wp2_with (at_builtin; refine wpList_append_or eN rfl (.tmp 47) (.tmp 50) rfl rfl HOb.out rfl (m := 1) (news := [.int .i64 next]) rfl (.inr ⟨_, rfl, cell_new _ _ _⟩) (by simp [Value.oneCell']) (by show (ks.length + 1) * 8 ≤ _; omega) (by omega) ?_
                       intro oa2 cap2 w10 hO10 hC10 hb10 _)
          go_ret
          exact HEM.out (by simp [hn0]) _ HDb.out _ _ _ hO10 hC10 hb10
      · have h3d : (kind == 3) = false := by rw [beq_eq_false_iff_ne]; exact h3
        go_wp2_with fail
        go_ret
        exact HEN.out (fun g => h3 g.1)
end Go.Proofs.Ytkjgncmbhkhbnaa
