/- The document's Kids. A drawn region: two operations may come first. ListsOfPage. CopyItem, CopyItems, CopyPage. What a call answers; asked, told. -/
import Derived.Test.YtkjgncmbhkhbnaaPKid
import Derived.Test.YtkjgncmbhkhbnaaHeldE
import Derived.Test.YtkjgncmbhkhbnaaPItm
import Derived.Test.YtkjgncmbhkhbnaaApart
import Derived.Test.YtkjgncmbhkhbnaaPDec0
import Derived.Test.YtkjgncmbhkhbnaaPFixW
import Derived.Test.YtkjgncmbhkhbnaaDDec
namespace Go.Proofs.Ytkjgncmbhkhbnaa
open Go.RowKit
set_option linter.unusedVariables false
set_option maxRecDepth 100000

set_option maxHeartbeats 1000000 in
theorem dKids_any (p : PP) (ia : Option Addr) (ic : Nat) (da : Option Addr) (dc : Nat) (w : World) (hp : PgAt w.heap.size w p ia ic da dc) (hlen : p.items.length ≤ 4000000000000) :
    Calls Try.prog 36 #[pgv p ia ic da dc] w (KidsP (pkids p) w) := by
  have HP := Lib.hid hp
  have HD := Lib.hid (DB.start w p ia ic da dc)
  obtain ⟨kind, level, items, data, next⟩ := p
  simp only [pgv] at *
  obtain ⟨n, hn⟩ : ∃ n, items.length = n := ⟨_, rfl⟩
  obtain ⟨m, hm⟩ : ∃ m, data.length = m := ⟨_, rfl⟩
  rw [hn, hm] at HD ⊢
  rw [hn] at hlen
  have HN := Lib.hid hn
  have HM := Lib.hid hm
  clear hp hn hm
  go_enter Try.func36, Try.ntmps36
  have hD := HD.out
  obtain ⟨c0, c1, c2, c3, c4⟩ := cells5 hD.box
  simp only [] at c0 c1 c2 c3 c4
  rw [HN.out] at c2
  rw [HM.out] at c3
  have HD1 := Lib.hid (hD.one (.cells #[] 3))
  have HO1 := Lib.hid (show ON ((w.alloc (.cells #[.int .i64 kind, .int .i64 level, .slice ia n ic, .slice da m dc, .int .i64 next] 27)).alloc (.cells #[] 3)) (some ⟨w.heap.size + 1, 0, none⟩) 0 [] by
    have h := OR.made eN (w.alloc (.cells #[.int .i64 kind, .int .i64 level, .slice ia n ic, .slice da m dc, .int .i64 next] 27)) [] 0 rfl (Nat.zero_le _)
    rw [show (w.alloc (.cells #[.int .i64 kind, .int .i64 level, .slice ia n ic, .slice da m dc, .int .i64 next] 27)).heap.size = w.heap.size + 1 by simp] at h
    exact h)
  go_wp2_with fail
  clear c0 c1 c2 c3 c4 hD
  go_loopw [3, 4] (fun o i wr => RelKd w ⟨kind, level, items, data, next⟩ ia ic da dc o i wr) (fun _ i _ => n - (intOf i).toNat)
  case atStart => exact ⟨0, some ⟨w.heap.size + 1, 0, none⟩, 0, Nat.zero_le _, rfl, rfl, HO1.out, fun k e => (by rw [blk_some] at e; cases e; exact Nat.lt_succ_self _), HD1.out⟩
  case round =>
    clear HD HD1 HO1
    obtain ⟨j, oa, cap, hj, rfl, rfl, hO, ho, hD⟩ := hrel
    simp only [] at hj hO
    rw [HN.out] at hj
    have hlc : (kidsN kind (items.take j)).length ≤ n := Nat.le_trans (kidsN_len _ _) (by rw [List.length_take, HN.out]; exact Nat.min_le_right _ _)
    by_cases hjn : j < n
    · obtain ⟨x, hx⟩ : ∃ x, items[j]? = some x := ⟨_, List.getElem?_eq_getElem (by rw [HN.out]; exact hjn)⟩
      obtain ⟨b, off, ka, kc, va, vc, rfl, hb, hit⟩ := HP.out.its.at hx
      have hd1 := hit.below hb hD.bel
      have i0 := hd1.c0
      have i1 := hd1.c1
      have i2 := hd1.c2
      have i3 := hd1.c3
      obtain ⟨key, value, child, size⟩ := x
      simp only [] at i0 i1 i2 i3
      have HDa := Lib.hid hD
      have HOa := Lib.hid hO
      have HSM := Lib.hid fun hk i hi => relKd_same (p := ⟨kind, level, items, data, next⟩) hx hk HOa.out ho HDa.out (i := i) hi
      have HMO := Lib.hid fun hk w1 (hD1 : DB w ⟨kind, level, items, data, next⟩ (some ⟨b, off, none⟩) ic da dc w1) w' oa' cap' hO' hC hb' i hi => relKd_more (p := ⟨kind, level, items, data, next⟩) hx hk (w := w1) (w' := w') (oa' := oa') (cap' := cap') ho hD1 hO' hC hb' (i := i) hi
      have HJ := Lib.hid hjn
      simp only [] at HSM HMO
      generalize kidsN kind (items.take j) = ks at HOa HSM HMO hlc ⊢
      have HNW := Lib.hid (cell_new wr (.int .i64 child) 3)
      have hj1 : (j : Int) < (n : Int) := by omega
      clear hD hO hx hit hd1
      obtain ⟨c0, c1, c2, c3, c4⟩ := cells5 HDa.out.box
      simp only [] at c0 c1 c2 c3 c4
      rw [HN.out] at c2
      rw [HM.out] at c3
      by_cases h2 : kind = 2
      · subst h2
        have HDb := Lib.hid (HDa.out.one (.cells #[.int .i64 child] 3))
        have HOb := Lib.hid (HOa.out.one (.cells #[.int .i64 child] 3))
        go_wp2_with (at_builtin; go_must (refine wpList_append_or eN rfl (.tmp 30) (.tmp 37) rfl rfl HOb.out rfl (m := 1) (news := [.int .i64 child]) rfl (.inr ⟨_, rfl, HNW.out⟩) (by simp [Value.oneCell']) (by show (ks.length + 1) * 8 ≤ _; omega) (by omega) ?_)
                     intro oa2 cap2 w10 hO10 hC10 hb10 _)
        go_roundw
        case rel => exact HMO.out (kid_yes (.inl rfl)) _ HDb.out _ _ _ hO10 hC10 hb10 _ (by go_num)
        case measure => exact meas_succ' HJ.out
      · have h2d : (kind == 2) = false := by rw [beq_eq_false_iff_ne]; exact h2
        by_cases h1 : kind = 1
        · subst h1
          by_cases hc0 : child = 0
          · subst hc0
            go_wp2_with fail
            go_roundw
            case rel => exact HSM.out (kid_no (by simp)) _ (by go_num)
            case measure => exact meas_succ' HJ.out
          · have hcd : (child != 0) = true := by rw [bne_iff_ne]; exact hc0
            have HDb := Lib.hid (HDa.out.one (.cells #[.int .i64 child] 3))
            have HOb := Lib.hid (HOa.out.one (.cells #[.int .i64 child] 3))
            go_wp2_with (at_builtin; go_must (refine wpList_append_or eN rfl (.tmp 30) (.tmp 37) rfl rfl HOb.out rfl (m := 1) (news := [.int .i64 child]) rfl (.inr ⟨_, rfl, HNW.out⟩) (by simp [Value.oneCell']) (by show (ks.length + 1) * 8 ≤ _; omega) (by omega) ?_)
                         intro oa2 cap2 w10 hO10 hC10 hb10 _)
            go_roundw
            case rel => exact HMO.out (kid_yes (.inr ⟨rfl, hc0⟩)) _ HDb.out _ _ _ hO10 hC10 hb10 _ (by go_num)
            case measure => exact meas_succ' HJ.out
        · have h1d : (kind == 1) = false := by rw [beq_eq_false_iff_ne]; exact h1
          go_wp2_with fail
          go_roundw
          case rel => exact HSM.out (kid_no (by intro g; rcases g with g | g; exact h2 g; exact h1 g.1)) _ (by go_num)
          case measure => exact meas_succ' HJ.out
    · obtain rfl : j = n := by omega
      rw [List.take_of_length_le (by rw [HN.out]; exact Nat.le_refl _)] at hO hlc ⊢
      have HEN := Lib.hid fun hk => kids_end (p := ⟨kind, level, items, data, next⟩) hk hO ho hD
      have HEM := Lib.hid fun hk w1 (hD1 : DB w ⟨kind, level, items, data, next⟩ ia ic da dc w1) w' oa' cap' hO' hC hb' => kids_more (p := ⟨kind, level, items, data, next⟩) hk (w := w1) (w' := w') (oa' := oa') (cap' := cap') ho hD1 hO' hC hb'
      have HDb := Lib.hid (hD.one (.cells #[.int .i64 next] 3))
      have HOb := Lib.hid (ON.one hO (.cells #[.int .i64 next] 3))
      obtain ⟨c0, c1, c2, c3, c4⟩ := cells5 hD.box
      simp only [] at c0 c1 c2 c3 c4 HEN HEM
      rw [HN.out] at c2
      rw [HM.out] at c3
      generalize kidsN kind items = ks at HOb HEN HEM hlc ⊢
      clear hD hO
      by_cases h3 : kind = 3
      · subst h3
        by_cases hn0 : next = 0
        · subst hn0
          go_wp2_with fail
          go_ret
          exact HEN.out (by simp)
        · have hnd : (next != 0) = true := by rw [bne_iff_ne]; exact hn0
          have d4 := (cells5 HDb.out.box).2.2.2.2
          go_wp2_with (at_builtin; refine wpList_append_or eN rfl (.tmp 47) (.tmp 50) rfl rfl HOb.out rfl (m := 1) (news := [.int .i64 next]) rfl (.inr ⟨_, rfl, cell_new _ _ _⟩) (by simp [Value.oneCell']) (by show (ks.length + 1) * 8 ≤ _; omega) (by omega) ?_
                       intro oa2 cap2 w10 hO10 hC10 hb10 _)
          go_ret
          exact HEM.out (by simp [hn0]) _ HDb.out _ _ _ hO10 hC10 hb10
      · have h3d : (kind == 3) = false := by rw [beq_eq_false_iff_ne]; exact h3
        go_wp2_with fail
        go_ret
        exact HEN.out (fun g => h3 g.1)
end Go.Proofs.Ytkjgncmbhkhbnaa
namespace Go.Proofs.Ytkjgncmbhkhbnaa
open Go
set_option linter.unusedVariables false
section
variable {P : Program} {ops : Array Oper} {Q : Exit → Act → World → Prop} {md : Region.Mode} {S : World → Prop} {n : Nat}
theorem at_two (i j : Nat) {l : List Oper} {oi oj : Oper} {fuel : Nat} {listed : Array Bool} {a : Act} {w : World} (hi : l[i]? = some oi) (hj : l[j]? = some oj) (hin : i < n) (hjn : j < n)
    (hr : Region.ready md l.toArray listed = [i, j]) (hw1 : Region.wanted oi (yielded l.toArray a.tmps) = true) (hw2 : Region.wanted oj (yielded l.toArray a.tmps) = true)
    (h1 : ∀ K : Act → World → Prop, RowKit.Hid (∀ a' w', S w' → At P md l.toArray Q S n fuel (listed.setIfInBounds i true) a' w' → K a' w') → oi.wp P a w K Q)
    (h2 : ∀ K : Act → World → Prop, RowKit.Hid (∀ a' w', S w' → At P md l.toArray Q S n fuel (listed.setIfInBounds j true) a' w' → K a' w') → oj.wp P a w K Q) :
    At P md l.toArray Q S n (fuel + 1) listed a w := by
  refine ⟨fun hB inv => ⟨fun h0 => (by rw [hr] at h0; cases h0), fun k hk => ?_⟩⟩
  have hri : i ∈ Region.ready md l.toArray listed := by rw [hr]; simp
  have hrj : j ∈ Region.ready md l.toArray listed := by rw [hr]; simp
  rw [hr] at hk
  have hi' : l.toArray[i]? = some oi := by simpa using hi
  have hj' : l.toArray[j]? = some oj := by simpa using hj
  rcases List.mem_cons.1 hk with rfl | hk
  · unfold wpOp
    simp only [hi', hw1, if_true]
    exact .inl (h1 _ (Go.Lib.hid fun a' w' hS hA => ⟨fun _ => hS, hA.go hB (inv.set hri hin)⟩))
  · obtain rfl : k = j := by simpa using hk
    unfold wpOp
    simp only [hj', hw2, if_true]
    exact .inl (h2 _ (Go.Lib.hid fun a' w' hS hA => ⟨fun _ => hS, hA.go hB (inv.set hrj hjn)⟩))
end
end Go.Proofs.Ytkjgncmbhkhbnaa
namespace Go.Proofs.Ytkjgncmbhkhbnaa
open Go.RowKit
set_option linter.unusedVariables false
set_option maxRecDepth 100000

def lsZ (zs : List (PI × TA)) : List Lst := zs.flatMap fun z => [⟨z.2.ka, z.2.kc, z.1.key.length⟩, ⟨z.2.va, z.2.vc, z.1.value.length⟩]
theorem lsZ_length (zs : List (PI × TA)) : (lsZ zs).length = 2 * zs.length := by
  induction zs with
  | nil => rfl
  | cons z zs ih =>
    have e : lsZ (z :: zs) = [⟨z.2.ka, z.2.kc, z.1.key.length⟩, ⟨z.2.va, z.2.vc, z.1.value.length⟩] ++ lsZ zs := rfl
    rw [e, List.length_append, ih, List.length_cons]; simp only [List.length_cons, List.length_nil]; omega
theorem lsZ_snoc {zs : List (PI × TA)} {k : Nat} {z : PI × TA} (h : zs[k]? = some z) : lsZ (zs.take (k + 1)) = lsZ (zs.take k) ++ [⟨z.2.ka, z.2.kc, z.1.key.length⟩, ⟨z.2.va, z.2.vc, z.1.value.length⟩] := by
  rw [List.take_add_one, h]; simp [lsZ]
/-- items that are read, with their lists' addresses -/
def ItZ (w : World) (ia : Option Addr) (zs : List (PI × TA)) : Prop :=
  zs = [] ∨ ∃ b off, ia = some ⟨b, off, none⟩ ∧ b < w.heap.size ∧ ∀ i z, zs[i]? = some z → ∀ j u, (cellsI z)[j]? = some u → w.cell? ⟨b, off + i * 4 + j, none⟩ = some u
theorem ItZ.below {w w' : World} {ia : Option Addr} {zs : List (PI × TA)} (h : ItZ w ia zs) (hb : Below w.heap.size w w') : ItZ w' ia zs := by
  rcases h with h | ⟨b, off, h1, h2, h3⟩
  · exact .inl h
  · exact .inr ⟨b, off, h1, Nat.lt_of_lt_of_le h2 hb.size, fun i z hz j u hj => (hb.cell (p := ⟨b, off + i * 4 + j, none⟩) h2).trans (h3 i z hz j u hj)⟩
theorem ItZ.at {w : World} {ia : Option Addr} {zs : List (PI × TA)} (h : ItZ w ia zs) {i : Nat} {z : PI × TA} (hi : zs[i]? = some z) : ∃ b off, ia = some ⟨b, off, none⟩ ∧ b < w.heap.size ∧ w.cell? ⟨b, off + i * 4, none⟩ = some (.slice z.2.ka z.1.key.length z.2.kc) ∧ w.cell? ⟨b, off + i * 4 + 1, none⟩ = some (.slice z.2.va z.1.value.length z.2.vc) ∧ w.cell? ⟨b, off + i * 4 + 2, none⟩ = some (.int .i64 z.1.child) ∧ w.cell? ⟨b, off + i * 4 + 3, none⟩ = some (.int .i64 z.1.size) := by
  rcases h with rfl | ⟨b, off, h1, h2, h3⟩
  · simp at hi
  · exact ⟨b, off, h1, h2, h3 i z hi 0 _ rfl, h3 i z hi 1 _ rfl, h3 i z hi 2 _ rfl, h3 i z hi 3 _ rfl⟩
theorem news_row {w : World} {g : Nat} {cs : List Value} {T : TypeId} (h : w.heap[g]? = some (.cells cs.toArray T)) : ∀ j u, cs[j]? = some u → w.cell? ((⟨g, 0, none⟩ : Addr).add j) = some u := by
  intro j u hj
  rw [add_none, Nat.zero_add, cell_of_row _ _ j _ T (0, 0) h]
  simpa using hj
theorem meas_upL {n j : Nat} (h : j < n) : n - (intOf (.int .i64 ((j : Int) + 1))).toNat < n - (intOf (.int .i64 (j : Int))).toNat := by simp only [intOf]; omega
def LsP (es : List Lst) (w : World) (x : Ending) (w' : World) : Prop :=
  ∃ la lc, x = .returned (.slice la es.length lc) ∧ OR ApB.eLB w' la lc es.length (es.map Lst.val) ∧ (∀ k, blk la = some k → w.heap.size ≤ k) ∧ Below w.heap.size w w'
def RelLo (W : World) (g : Nat) (row : List Value) (h0 : Lst) (zs : List (PI × TA)) (n : Nat) (o v : Value) (wr : World) : Prop :=
  ∃ (k m : Nat) (la : Option Addr) (lc : Nat), k ≤ n ∧ m = 1 + 2 * k ∧ v = .int .i64 k ∧ o = .slice la m lc ∧ OR ApB.eLB wr la lc m ((h0 :: lsZ (zs.take k)).map Lst.val) ∧ (∀ j, blk la = some j → g < j) ∧ wr.heap[g]? = some (.cells row.toArray 27) ∧ g < wr.heap.size ∧ Below W.heap.size W wr
theorem relLo_next {W wr w1 w2 : World} {g : Nat} {row : List Value} {h0 : Lst} {zs : List (PI × TA)} {n k m : Nat} {la la2 : Option Addr} {lc2 : Nat} {z : PI × TA} {kl vl : Nat} (hkl : z.1.key.length = kl) (hvl : z.1.value.length = vl) (hW : W.heap.size ≤ g) (hk : k < n) (hm : m = 1 + 2 * k) (hz : zs[k]? = some z) (ho : ∀ j, blk la = some j → g < j) (hrow : wr.heap[g]? = some (.cells row.toArray 27)) (hg : g < wr.heap.size) (hB : Below W.heap.size W wr)
    (h1 : Below wr.heap.size wr w1) (hO : OR ApB.eLB w2 la2 lc2 (m + 2) ((h0 :: lsZ (zs.take k)).map Lst.val ++ [.slice z.2.ka kl z.2.kc, .slice z.2.va vl z.2.vc])) (hC : Chg (fun j => blk la = some j) w1 w2) (hb2 : blk la2 = blk la ∨ blk la2 = some w1.heap.size) {i : Value} (hi : i = .int .i64 ((k + 1 : Nat) : Int)) :
    RelLo W g row h0 zs n (.slice la2 (m + 2) lc2) i w2 := by
  subst hi hkl hvl
  have hB1 := hB.trans (h1.mono hB.size)
  have hg1 := Nat.lt_of_lt_of_le hg h1.size
  refine ⟨k + 1, m + 2, la2, lc2, hk, by omega, rfl, rfl, ?_, fun j e => ?_, ?_, Nat.lt_of_lt_of_le hg1 hC.size, hB1.trans (hC.below hB1.size (fun j e => by have := ho j e; omega))⟩
  · rw [lsZ_snoc hz]
    simp only [List.map_cons, List.map_append, List.cons_append, List.map_nil] at hO ⊢
    exact hO
  · rcases hb2 with hb2 | hb2
    · exact ho j (hb2 ▸ e)
    · rw [hb2] at e; cases e; exact hg1
  · rw [hC.block g hg1 (fun e => by have := ho g e; omega), h1.block g hg]; exact hrow
set_option maxHeartbeats 4000000 in
theorem listsOf_any (p : PP) (ia : Option Addr) (ic : Nat) (da : Option Addr) (dc : Nat) (zs : List (PI × TA)) (w : World) (hz : zs.map (·.1) = p.items) (hn : p.items.length ≤ 70000) (hi : ItZ w ia zs) :
    Calls Try.prog 20 #[pgv p ia ic da dc] w (LsP (⟨da, dc, p.data.length⟩ :: lsZ zs) w) := by
  have HI := Lib.hid hi
  have hzl : zs.length = p.items.length := by rw [← hz, List.length_map]
  unfold pgv LsP
  obtain ⟨kd, lv, items, data, nx⟩ := p
  simp only at hzl hn hz ⊢
  obtain ⟨n, hnn⟩ : ∃ n, items.length = n := ⟨_, rfl⟩
  obtain ⟨dl, hdl⟩ : ∃ dl, data.length = dl := ⟨_, rfl⟩
  rw [hnn] at hzl hn ⊢
  rw [hdl]
  have HZL := Lib.hid hzl
  have hB1 := one_below w (.cells #[.int .i64 kd, .int .i64 lv, .slice ia n ic, .slice da dl dc, .int .i64 nx] 27)
  have hP1 := heap_alloc_new w (.cells #[.int .i64 kd, .int .i64 lv, .slice ia n ic, .slice da dl dc, .int .i64 nx] 27)
  have hs1 : (w.alloc (.cells #[.int .i64 kd, .int .i64 lv, .slice ia n ic, .slice da dl dc, .int .i64 nx] 27)).heap.size = w.heap.size + 1 := by simp
  have hz1 : w.heap.size < (w.alloc (.cells #[.int .i64 kd, .int .i64 lv, .slice ia n ic, .slice da dl dc, .int .i64 nx] 27)).heap.size := by simp
  obtain ⟨c0, c1, c2, c3, c4⟩ := cells5 hP1
  clear hi hz hnn hdl hzl
  go_enter Try.func20, Try.ntmps20
  go_wp2_with fail
  generalize w.alloc (.cells #[.int .i64 kd, .int .i64 lv, .slice ia n ic, .slice da dl dc, .int .i64 nx] 27) = W1 at *
  have hW : w.heap.size ≤ w.heap.size := Nat.le_refl _
  generalize hgg : w.heap.size = g at hP1 hz1 hs1 c0 c1 c2 c3 c4 hW ⊢
  have HB1 := Lib.hid hB1
  have hb2 := one_below W1 (.cells #[.slice da dl dc] 25)
  have HR0 := Lib.hid (show RelLo w g [.int .i64 kd, .int .i64 lv, .slice ia n ic, .slice da dl dc, .int .i64 nx] ⟨da, dc, dl⟩ zs n (.slice (some ⟨g + 1, 0, none⟩) 1 1) (.int .i64 0) (W1.alloc (.cells #[.slice da dl dc] 25)) from
    ⟨0, 1, _, _, Nat.zero_le _, rfl, rfl, rfl, by rw [← hs1]; exact OR.made ApB.eLB W1 [.slice da dl dc] 1 rfl (by decide), fun j e => by cases e; exact Nat.lt_succ_self _, (hb2.block _ hz1).trans hP1, Nat.lt_of_lt_of_le hz1 hb2.size, hB1.trans (hb2.mono hB1.size)⟩)
  have HGG := Lib.hid hgg
  clear hb2 hgg hP1 hB1
  go_loopw [3, 4] (fun o v wr => RelLo w g [.int .i64 kd, .int .i64 lv, .slice ia n ic, .slice da dl dc, .int .i64 nx] ⟨da, dc, dl⟩ zs n o v wr) (fun _ v _ => n - (intOf v).toNat)
  case atStart => exact HR0.out
  case round =>
    clear HR0 c0 c1 c2 c3 c4
    obtain ⟨k, m, la, lc, hk, hm, rfl, rfl, hO, ho, hrow, hg, hB⟩ := hrel
    obtain ⟨c0, c1, c2, c3, c4⟩ := cells5 hrow
    by_cases hkn : k < n
    · obtain ⟨z, hzk⟩ : ∃ z, zs[k]? = some z := ⟨_, List.getElem?_eq_getElem (by rw [HZL.out]; exact hkn)⟩
      obtain ⟨b, off, rfl, hbl, hx0, hx1, -, -⟩ := ((HI.out.below (show Below w.heap.size w wr from hB)).at hzk)
      obtain ⟨kl, hkl⟩ : ∃ kl, z.1.key.length = kl := ⟨_, rfl⟩
      obtain ⟨vl, hvl⟩ : ∃ vl, z.1.value.length = vl := ⟨_, rfl⟩
      rw [hkl] at hx0
      rw [hvl] at hx1
      have Hnx := Lib.hid fun (w1 w2 : World) (la2 : Option Addr) (lc2 : Nat) (i : Value) => relLo_next (W := w) (wr := wr) (w1 := w1) (w2 := w2) (g := g) (row := [.int .i64 kd, .int .i64 lv, .slice (some ⟨b, off, none⟩) n ic, .slice da dl dc, .int .i64 nx]) (h0 := ⟨da, dc, dl⟩) (zs := zs) (n := n) (k := k) (m := m) (la := la) (la2 := la2) (lc2 := lc2) (z := z) (i := i) hkl hvl (by rw [HGG.out]; exact Nat.le_refl _) hkn hm hzk ho hrow hg hB
      have hd : Below wr.heap.size wr wr.drew := (Below.refl wr.heap.size wr).drew
      have HD2 := Lib.hid (show Below wr.heap.size wr (wr.alloc (.cells #[.slice z.2.ka kl z.2.kc, .slice z.2.va vl z.2.vc] 25)).drew from ((Below.refl _ _).alloc (Nat.le_refl _) _).drew)
      have HO2 := Lib.hid (hO.chg (F := fun _ => False) (Chg.of_below HD2.out) (fun _ _ f => f))
      have HNW := Lib.hid (show (wr.alloc (.cells #[.slice z.2.ka kl z.2.kc, .slice z.2.va vl z.2.vc] 25)).drew.heap[wr.heap.size]? = some (.cells [.slice z.2.ka kl z.2.kc, .slice z.2.va vl z.2.vc].toArray 25) from heap_alloc_new wr _)
      have HSe := Lib.hid (show (fun w' : World => w'.cell? ⟨g, 2, none⟩ = some (.slice (some ⟨b, off, none⟩) n ic) ∧ w'.cell? ⟨b, off + k * 4, none⟩ = some (.slice z.2.ka kl z.2.kc) ∧ w'.cell? ⟨b, off + k * 4 + 1, none⟩ = some (.slice z.2.va vl z.2.vc)) wr.drew from ⟨(hd.cell (p := ⟨g, 2, none⟩) hg).trans c2, (hd.cell (p := ⟨b, off + k * 4, none⟩) hbl).trans hx0, (hd.cell (p := ⟨b, off + k * 4 + 1, none⟩) hbl).trans hx1⟩)
      have HSf := Lib.hid (show (fun w' : World => w'.cell? ⟨g, 2, none⟩ = some (.slice (some ⟨b, off, none⟩) n ic) ∧ w'.cell? ⟨b, off + k * 4, none⟩ = some (.slice z.2.ka kl z.2.kc) ∧ w'.cell? ⟨b, off + k * 4 + 1, none⟩ = some (.slice z.2.va vl z.2.vc)) (wr.alloc (.cells #[.slice z.2.ka kl z.2.kc, .slice z.2.va vl z.2.vc] 25)).drew from ⟨(HD2.out.cell (p := ⟨g, 2, none⟩) hg).trans c2, (HD2.out.cell (p := ⟨b, off + k * 4, none⟩) hbl).trans hx0, (HD2.out.cell (p := ⟨b, off + k * 4 + 1, none⟩) hbl).trans hx1⟩)
      have HJ := Lib.hid hkn
      have hm2 : m ≤ 200000 := by omega
      clear hO ho hrow hB hzk hd hkl hvl hm
      go_wp2_with fail
      refine wp_region_E (fun w' : World => w'.cell? ⟨g, 2, none⟩ = some (.slice (some ⟨b, off, none⟩) n ic) ∧ w'.cell? ⟨b, off + k * 4, none⟩ = some (.slice z.2.ka kl z.2.kc) ∧ w'.cell? ⟨b, off + k * 4 + 1, none⟩ = some (.slice z.2.va vl z.2.vc)) 14 (by kernel_rfl) (by kernel_rfl) ?_
      change At _ _ _ _ _ _ 16 #[false, false, false, false, false, false, false, false, false, false, false, false, false, false, false, false] _ _
      refine at_take 0 (v := ?_) rfl (by decide) (by kernel_rfl) (by kernel_rfl) (fun _ _ _ h => h) (Or.inl ⟨by rfl, ?_⟩) HSe.out ?_
      rotate_left
      · intro w' hSw; (try dsimp only at hSw); go_simp; (try with_reducible rfl)
      simp only [Act.put, List.setIfInBounds_toArray, List.set_cons_zero, List.set_cons_succ]
      refine at_take 1 (v := ?_) rfl (by decide) (by kernel_rfl) (by kernel_rfl) (fun _ _ _ h => h) (Or.inl ⟨by rfl, ?_⟩) HSe.out ?_
      rotate_left
      · intro w' hSw; (try dsimp only at hSw); go_simp; (try with_reducible rfl)
      simp only [Act.put, List.setIfInBounds_toArray, List.set_cons_zero, List.set_cons_succ]
      refine at_take 2 (v := ?_) rfl (by decide) (by kernel_rfl) (by kernel_rfl) (fun _ _ _ h => h) (Or.inl ⟨by rfl, ?_⟩) HSe.out ?_
      rotate_left
      · intro w' hSw; (try dsimp only at hSw); go_simp; (try with_reducible rfl)
      simp only [Act.put, List.setIfInBounds_toArray, List.set_cons_zero, List.set_cons_succ]
      refine at_take 3 (v := ?_) rfl (by decide) (by kernel_rfl) (by kernel_rfl) (fun _ _ _ h => h) (Or.inl ⟨by rfl, ?_⟩) HSe.out ?_
      rotate_left
      · intro w' hSw; (try dsimp only at hSw); go_simp; (try with_reducible rfl)
      simp only [Act.put, List.setIfInBounds_toArray, List.set_cons_zero, List.set_cons_succ]
      refine at_take 4 (v := ?_) rfl (by decide) (by kernel_rfl) (by kernel_rfl) (fun _ _ _ h => h) (Or.inl ⟨by rfl, ?_⟩) HSe.out ?_
      rotate_left
      · intro w' hSw; (try dsimp only at hSw); go_simp; (try with_reducible rfl)
      simp only [Act.put, List.setIfInBounds_toArray, List.set_cons_zero, List.set_cons_succ]
      refine at_take 5 (v := ?_) rfl (by decide) (by kernel_rfl) (by kernel_rfl) (fun _ _ _ h => h) (Or.inl ⟨by rfl, ?_⟩) HSe.out ?_
      rotate_left
      · intro w' hSw; (try dsimp only at hSw); go_simp; (try with_reducible rfl)
      simp only [Act.put, List.setIfInBounds_toArray, List.set_cons_zero, List.set_cons_succ]
      refine at_take 6 (v := ?_) rfl (by decide) (by kernel_rfl) (by kernel_rfl) (fun _ _ _ h => h) (Or.inl ⟨by rfl, ?_⟩) HSe.out ?_
      rotate_left
      · intro w' hSw; (try dsimp only at hSw); go_simp; (try with_reducible rfl)
      simp only [Act.put, List.setIfInBounds_toArray, List.set_cons_zero, List.set_cons_succ]
      refine at_take 7 (v := ?_) rfl (by decide) (by kernel_rfl) (by kernel_rfl) (fun _ _ _ h => h) (Or.inl ⟨by rfl, ?_⟩) HSe.out ?_
      rotate_left
      · intro w' hSw; (try dsimp only at hSw); go_simp; (try with_reducible rfl)
      simp only [Act.put, List.setIfInBounds_toArray, List.set_cons_zero, List.set_cons_succ]
      refine at_take 8 (v := ?_) rfl (by decide) (by kernel_rfl) (by kernel_rfl) (fun _ _ _ h => h) (Or.inl ⟨by rfl, ?_⟩) HSe.out ?_
      rotate_left
      · intro w' hSw; (try dsimp only at hSw); go_simp; (try with_reducible rfl)
      simp only [Act.put, List.setIfInBounds_toArray, List.set_cons_zero, List.set_cons_succ]
      refine at_take 9 (v := ?_) rfl (by decide) (by kernel_rfl) (by kernel_rfl) (fun _ _ _ h => h) (Or.inl ⟨by rfl, ?_⟩) HSe.out ?_
      rotate_left
      · intro w' hSw; (try dsimp only at hSw); go_simp; (try with_reducible rfl)
      simp only [Act.put, List.setIfInBounds_toArray, List.set_cons_zero, List.set_cons_succ]
      refine at_take 10 (v := ?_) rfl (by decide) (by kernel_rfl) (by kernel_rfl) (fun _ _ _ h => h) (Or.inl ⟨by rfl, ?_⟩) HSe.out ?_
      rotate_left
      · intro w' hSw; (try dsimp only at hSw); go_simp; (try with_reducible rfl)
      simp only [Act.put, List.setIfInBounds_toArray, List.set_cons_zero, List.set_cons_succ]
      refine at_take 11 (v := ?_) rfl (by decide) (by kernel_rfl) (by kernel_rfl) (fun _ _ _ h => h) (Or.inl ⟨by rfl, ?_⟩) HSe.out ?_
      rotate_left
      · intro w' hSw; (try dsimp only at hSw); go_simp; (try with_reducible rfl)
      simp only [Act.put, List.setIfInBounds_toArray, List.set_cons_zero, List.set_cons_succ]
      refine at_take 12 (v := ?_) rfl (by decide) (by kernel_rfl) (by kernel_rfl) (fun _ _ _ h => h) (Or.inl ⟨by rfl, ?_⟩) HSe.out ?_
      rotate_left
      · intro w' hSw; (try dsimp only at hSw); go_simp; (try with_reducible rfl)
      simp only [Act.put, List.setIfInBounds_toArray, List.set_cons_zero, List.set_cons_succ]
      refine at_only 13 rfl (by decide) (by kernel_rfl) (by rfl) ?_
      intro K hK
      go_simp
      refine hK _ _ HSf.out ?_
      clear hK K
      simp only [Act.put, List.setIfInBounds_toArray, List.set_cons_zero, List.set_cons_succ]
      refine at_tail rfl (by kernel_rfl) ?_
      simp only [List.drop_succ_cons, List.drop_zero]

      go_wp2_with (at_builtin; go_must (refine wpList_append_or ApB.eLB rfl (.tmp 15) (.tmp 28) rfl rfl HO2.out rfl (m := 2) (news := [.slice z.2.ka kl z.2.kc, .slice z.2.va vl z.2.vc]) rfl (.inr ⟨_, rfl, news_row HNW.out⟩) (by simp [Value.oneCell']) (by show (m + 2) * 24 ≤ _; omega) (by omega) ?_)
                   intro la2 lc2 w7 hO7 hC7 hb7 _)
      refine ⟨Hnx.out _ _ _ _ _ HD2.out hO7 hC7 hb7 (by go_num), meas_upL HJ.out⟩
    · obtain rfl : k = n := by omega
      rw [List.take_of_length_le (by rw [HZL.out]; exact Nat.le_refl _)] at hO
      have HF := Lib.hid (show ∃ la' lc', Ending.returned (.slice la m lc) = .returned (.slice la' (⟨da, dc, dl⟩ :: lsZ zs : List Lst).length lc') ∧ OR ApB.eLB wr la' lc' (⟨da, dc, dl⟩ :: lsZ zs : List Lst).length ((⟨da, dc, dl⟩ :: lsZ zs : List Lst).map Lst.val) ∧ (∀ j, blk la' = some j → w.heap.size ≤ j) ∧ Below w.heap.size w wr from by
        have e : (⟨da, dc, dl⟩ :: lsZ zs : List Lst).length = m := by rw [List.length_cons, lsZ_length, HZL.out]; omega
        rw [e]
        exact ⟨la, lc, rfl, hO, fun j e => by have := ho j e; have := HGG.out; omega, hB⟩)
      clear hO ho hrow hB hkn
      go_wp2_with fail
      go_ret
      exact HF.out
end Go.Proofs.Ytkjgncmbhkhbnaa
namespace Go.Proofs.Ytkjgncmbhkhbnaa
open Go.RowKit
set_option linter.unusedVariables false
set_option maxRecDepth 100000

theorem cells4C {w : World} {g : Nat} {v0 v1 v2 v3 : Value} {T : TypeId} (h : w.heap[g]? = some (.cells #[v0, v1, v2, v3] T)) :
    w.cell? ⟨g, 0, none⟩ = some v0 ∧ w.cell? ⟨g, 1, none⟩ = some v1 ∧ w.cell? ⟨g, 2, none⟩ = some v2 ∧ w.cell? ⟨g, 3, none⟩ = some v3 ∧ (∀ k, w.frozen? ⟨g, k, none⟩ = false) := by
  simp [World.cell?, World.frozen?, h]
theorem below_four {lo g : Nat} {a w : World} (h : Below lo a w) (hg : lo ≤ g) (v0 v1 v2 v3 : Value) : Below lo a ((((w.setCell ⟨g, 0, none⟩ v0).setCell ⟨g, 1, none⟩ v1).setCell ⟨g, 2, none⟩ v2).setCell ⟨g, 3, none⟩ v3) :=
  (((h.setCell hg _).setCell hg _).setCell hg _).setCell hg _
theorem chg_four (w : World) (g : Nat) (v0 v1 v2 v3 : Value) : Chg (fun k => k = g) w ((((w.setCell ⟨g, 0, none⟩ v0).setCell ⟨g, 1, none⟩ v1).setCell ⟨g, 2, none⟩ v2).setCell ⟨g, 3, none⟩ v3) :=
  ((((Chg.refl (fun j => j = g) _).setCell ⟨g, 0, none⟩ _ (fun _ => rfl)).setCell ⟨g, 1, none⟩ _ (fun _ => rfl)).setCell ⟨g, 2, none⟩ _ (fun _ => rfl)).setCell ⟨g, 3, none⟩ _ (fun _ => rfl)
def CpI (x : PI) (w : World) (e : Ending) (w' : World) : Prop :=
  ∃ t : TA, e = .returned (.agg (itc x t.ka t.kc t.va t.vc)) ∧ OB w' t.ka t.kc x.key ∧ OB w' t.va t.vc x.value ∧ Up w.heap.size w'.heap.size [t.ka, t.va] ∧ Below w.heap.size w w'
set_option maxHeartbeats 2000000 in
theorem copyItem_any (x : PI) (ka : Option Addr) (kc : Nat) (va : Option Addr) (vc : Nat) (w : World) (h1 : Bts w ka x.key) (h2 : Bts w va x.value) (h3 : x.key.length ≤ 140737488355328) (h4 : x.value.length ≤ 140737488355328) :
    Calls Try.prog 61 #[.agg (itc x ka kc va vc)] w (CpI x w) := by
  have HK := Lib.hid fun w1 (h : Below w.heap.size w w1) => copyBytes_any ka kc x.key h3 w1 (h1.below h)
  have HV := Lib.hid fun w1 (h : Below w.heap.size w w1) => copyBytes_any va vc x.value h4 w1 (h2.below h)
  unfold NewB at HK HV
  obtain ⟨key, value, ch, sz⟩ := x
  unfold CpI
  simp only [itc] at HK HV ⊢
  obtain ⟨kl, hkl⟩ : ∃ kl, key.length = kl := ⟨_, rfl⟩
  obtain ⟨vl, hvl⟩ : ∃ vl, value.length = vl := ⟨_, rfl⟩
  simp only [hkl] at HK
  simp only [hvl] at HV
  rw [hkl, hvl]
  clear h1 h2 h3 h4 hkl hvl
  have hg1 := heap_alloc_new w (.cells #[.slice ka kl kc, .slice va vl vc, .int .i64 ch, .int .i64 sz] 64)
  have hb1 := one_below w (.cells #[.slice ka kl kc, .slice va vl vc, .int .i64 ch, .int .i64 sz] 64)
  have hs1 : (w.alloc (.cells #[.slice ka kl kc, .slice va vl vc, .int .i64 ch, .int .i64 sz] 64)).heap.size = w.heap.size + 1 := by simp
  go_enter Try.func61, Try.ntmps61
  go_wp2_with fail
  generalize w.alloc (.cells #[.slice ka kl kc, .slice va vl vc, .int .i64 ch, .int .i64 sz] 64) = W0 at *
  have hg2 := heap_alloc_new W0 (.cells #[.slice none 0 0, .slice none 0 0, .int .i64 0, .int .i64 0] 64)
  have hb2 := one_below W0 (.cells #[.slice none 0 0, .slice none 0 0, .int .i64 0, .int .i64 0] 64)
  have hs2 : (W0.alloc (.cells #[.slice none 0 0, .slice none 0 0, .int .i64 0, .int .i64 0] 64)).heap.size = W0.heap.size + 1 := by simp
  generalize W0.alloc (.cells #[.slice none 0 0, .slice none 0 0, .int .i64 0, .int .i64 0] 64) = W1 at *
  rw [hs1] at hg2 hb2 hs2
  have hg1' := (hb2.block w.heap.size (Nat.lt_succ_self _)).trans hg1
  have hb12 := hb1.trans (hb2.mono (Nat.le_succ _))
  have HB1 := Lib.hid hb12
  obtain ⟨g, hgg⟩ : ∃ g, w.heap.size = g := ⟨_, rfl⟩
  have HGG := Lib.hid hgg
  simp only [hgg] at hg1' hg2 hs2 ⊢
  have HG1 := Lib.hid hg1'
  have HG2 := Lib.hid hg2
  have HZ := Lib.hid hs2
  have HS := Lib.hid fun w1 (h : Below W1.heap.size W1 w1) => (show (fun w' : World => w'.cell? ⟨g, 0, none⟩ = some (.slice ka kl kc) ∧ w'.cell? ⟨g, 1, none⟩ = some (.slice va vl vc) ∧ w'.cell? ⟨g, 2, none⟩ = some (.int .i64 ch) ∧ w'.cell? ⟨g, 3, none⟩ = some (.int .i64 sz)) w1 from by
    obtain ⟨c0, c1, c2, c3, -⟩ := cells4C ((h.block g (by rw [HZ.out]; omega)).trans HG1.out)
    exact ⟨c0, c1, c2, c3⟩)
  have hsz : W1.heap.size = w.heap.size + 2 := by rw [hgg]; exact hs2
  have HK := Lib.hid fun w1 (h : Below W1.heap.size W1 w1) => HK.out w1 (HB1.out.trans (h.mono (by omega)))
  have HV := Lib.hid fun w1 (h : Below W1.heap.size W1 w1) => HV.out w1 (HB1.out.trans (h.mono (by omega)))
  have HSZ := Lib.hid hsz
  clear hg1 hg2 hg1' hb1 hb2 hb12 hs1 hs2 hgg hsz W0
  have HBd := Lib.hid (show Below W1.heap.size W1 W1.drew from (Below.refl W1.heap.size W1).drew)
  have HSe := Lib.hid (HS.out _ HBd.out)
  refine wp_region_E (fun w' : World => w'.cell? ⟨g, 0, none⟩ = some (.slice ka kl kc) ∧ w'.cell? ⟨g, 1, none⟩ = some (.slice va vl vc) ∧ w'.cell? ⟨g, 2, none⟩ = some (.int .i64 ch) ∧ w'.cell? ⟨g, 3, none⟩ = some (.int .i64 sz)) 10 (by kernel_rfl) (by kernel_rfl) ?_
  change At _ _ _ _ _ _ 12 #[false, false, false, false, false, false, false, false, false, false, false, false] _ _
  refine at_take 0 (v := ?_) rfl (by decide) (by kernel_rfl) (by kernel_rfl) (fun _ _ _ h => h) (Or.inl ⟨by rfl, ?_⟩) HSe.out ?_
  rotate_left
  · intro w' hSw; (try dsimp only at hSw); go_simp; (try with_reducible rfl)
  simp only [Act.put, List.setIfInBounds_toArray, List.set_cons_zero, List.set_cons_succ]
  refine at_take 1 (v := ?_) rfl (by decide) (by kernel_rfl) (by kernel_rfl) (fun _ _ _ h => h) (Or.inl ⟨by rfl, ?_⟩) HSe.out ?_
  rotate_left
  · intro w' hSw; (try dsimp only at hSw); go_simp; (try with_reducible rfl)
  simp only [Act.put, List.setIfInBounds_toArray, List.set_cons_zero, List.set_cons_succ]
  refine at_take 3 (v := ?_) rfl (by decide) (by kernel_rfl) (by kernel_rfl) (fun _ _ _ h => h) (Or.inl ⟨by rfl, ?_⟩) HSe.out ?_
  rotate_left
  · intro w' hSw; (try dsimp only at hSw); go_simp; (try with_reducible rfl)
  simp only [Act.put, List.setIfInBounds_toArray, List.set_cons_zero, List.set_cons_succ]
  refine at_take 4 (v := ?_) rfl (by decide) (by kernel_rfl) (by kernel_rfl) (fun _ _ _ h => h) (Or.inl ⟨by rfl, ?_⟩) HSe.out ?_
  rotate_left
  · intro w' hSw; (try dsimp only at hSw); go_simp; (try with_reducible rfl)
  simp only [Act.put, List.setIfInBounds_toArray, List.set_cons_zero, List.set_cons_succ]
  refine at_take 6 (v := ?_) rfl (by decide) (by kernel_rfl) (by kernel_rfl) (fun _ _ _ h => h) (Or.inl ⟨by rfl, ?_⟩) HSe.out ?_
  rotate_left
  · intro w' hSw; (try dsimp only at hSw); go_simp; (try with_reducible rfl)
  simp only [Act.put, List.setIfInBounds_toArray, List.set_cons_zero, List.set_cons_succ]
  refine at_take 7 (v := ?_) rfl (by decide) (by kernel_rfl) (by kernel_rfl) (fun _ _ _ h => h) (Or.inl ⟨by rfl, ?_⟩) HSe.out ?_
  rotate_left
  · intro w' hSw; (try dsimp only at hSw); go_simp; (try with_reducible rfl)
  simp only [Act.put, List.setIfInBounds_toArray, List.set_cons_zero, List.set_cons_succ]
  refine at_take 8 (v := ?_) rfl (by decide) (by kernel_rfl) (by kernel_rfl) (fun _ _ _ h => h) (Or.inl ⟨by rfl, ?_⟩) HSe.out ?_
  rotate_left
  · intro w' hSw; (try dsimp only at hSw); go_simp; (try with_reducible rfl)
  simp only [Act.put, List.setIfInBounds_toArray, List.set_cons_zero, List.set_cons_succ]
  refine at_take 9 (v := ?_) rfl (by decide) (by kernel_rfl) (by kernel_rfl) (fun _ _ _ h => h) (Or.inl ⟨by rfl, ?_⟩) HSe.out ?_
  rotate_left
  · intro w' hSw; (try dsimp only at hSw); go_simp; (try with_reducible rfl)
  simp only [Act.put, List.setIfInBounds_toArray, List.set_cons_zero, List.set_cons_succ]
  refine at_only 2 rfl (by decide) (by kernel_rfl) (by rfl) ?_
  intro K hK
  go_simp
  refine (HK.out _ HBd.out).mono ?_
  rintro _ w2 ⟨oa, oc, rfl, hO2, ho2, hb2⟩
  have HB2 := Lib.hid (HBd.out.trans (hb2.mono HBd.out.size))
  have HO2 := Lib.hid hO2
  have HU2 := Lib.hid ho2
  have HS2 := Lib.hid (HS.out w2 HB2.out)
  clear hO2 ho2 hb2
  go_simp
  refine hK _ _ HS2.out ?_
  clear hK K
  simp only [Act.put, List.setIfInBounds_toArray, List.set_cons_zero, List.set_cons_succ]
  refine at_only 5 rfl (by decide) (by kernel_rfl) (by rfl) ?_
  intro K hK
  go_simp
  refine (HV.out _ HB2.out).mono ?_
  rintro _ w3 ⟨pa, pc, rfl, hO3, ho3, hb3⟩
  have HB3 := Lib.hid (HB2.out.trans (hb3.mono HB2.out.size))
  have HO3 := Lib.hid hO3
  have HU3 := Lib.hid ho3
  have HO2b := Lib.hid (HO2.out.below hb3)
  have HS3 := Lib.hid (HS.out w3 HB3.out)
  have hz23 := hb3.size
  clear hO3 ho3 hb3
  go_simp
  refine hK _ _ HS3.out ?_
  clear hK K
  simp only [Act.put, List.setIfInBounds_toArray, List.set_cons_zero, List.set_cons_succ]
  refine at_tail rfl (by kernel_rfl) ?_
  simp only [List.drop_succ_cons, List.drop_zero]

  have hr := (HB3.out.block (g + 1) (by rw [HZ.out]; omega)).trans HG2.out
  obtain ⟨r0, r1, r2, r3, rf⟩ := cells4C hr
  have f0 := rf 0
  have f1 := rf 1
  have f2 := rf 2
  have f3 := rf 3
  clear rf hr
  go_wp2_with fail
  refine bodyPost_ret (v := .agg #[.slice oa kl oc, .slice pa vl pc, .int .i64 ch, .int .i64 sz]) (by simp [results, Try.results61, go_sem, r0, r1, r2, r3]) rfl ?_
  have hC := chg_four w3 (g + 1) (.slice oa kl oc) (.slice pa vl pc) (.int .i64 ch) (.int .i64 sz)
  have hz2 := HB2.out.size
  have hgs := HGG.out
  have hZ := HZ.out
  refine ⟨⟨oa, oc, pa, pc⟩, rfl, HO2b.out.chg hC (fun j e f => by have := HU2.out j e; have hd : W1.drew.heap.size = W1.heap.size := rfl; omega), HO3.out.chg hC (fun j e f => by have := HU3.out j e; omega), ?_, below_four (HB1.out.trans (HB3.out.mono (by omega))) (by omega) _ _ _ _⟩
  refine Up.two (m := w2.heap.size) (by omega) (Nat.le_trans hz23 hC.size) (fun j e => ⟨?_, HO2.out.lt j e⟩) (fun j e => ⟨HU3.out j e, Nat.lt_of_lt_of_le (HO3.out.lt j e) hC.size⟩)
  have := HU2.out j e
  have hd : W1.drew.heap.size = W1.heap.size := rfl
  omega
def CpIs (xs : List PI) (w : World) (e : Ending) (w' : World) : Prop :=
  ∃ la lc zs, e = .returned (.slice la xs.length lc) ∧ zs.map (·.1) = xs ∧ Its w.heap.size w'.heap.size w' la lc zs ∧ Below w.heap.size w w'
def RelCi (W : World) (xs : List PI) (n : Nat) (o v : Value) (wr : World) : Prop :=
  ∃ (k : Nat) (la : Option Addr) (lc : Nat) (zs : List (PI × TA)), k ≤ n ∧ v = .int .i64 k ∧ o = .slice la k lc ∧ zs.length = k ∧ zs.map (·.1) = xs.take k ∧ Its W.heap.size wr.heap.size wr la lc zs ∧ Below W.heap.size W wr
theorem relCi_next {W wr w1 w2 w3 : World} {xs : List PI} {n k : Nat} {la la2 : Option Addr} {lc lc2 : Nat} {zs : List (PI × TA)} {x : PI} {t : TA} (hk : k < n) (hx : xs[k]? = some x) (hzl : zs.length = k) (hz : zs.map (·.1) = xs.take k) (hI : Its W.heap.size wr.heap.size wr la lc zs) (hB : Below W.heap.size W wr) (hc : i64ok x.child) (hs : i64ok x.size)
    (h1 : Below wr.heap.size wr w1) (hK : OB w1 t.ka t.kc x.key) (hV : OB w1 t.va t.vc x.value) (hu : Up wr.heap.size w1.heap.size [t.ka, t.va]) (h2 : Below w1.heap.size w1 w2) (hO : OR eIt w3 la2 lc2 (k + 1) (cellsZ zs ++ cellsI (x, t))) (hC : Chg (fun j => blk la = some j) w2 w3) (hb2 : blk la2 = blk la ∨ blk la2 = some w2.heap.size) {i : Value} (hi : i = .int .i64 ((k + 1 : Nat) : Int)) :
    RelCi W xs n (.slice la2 (k + 1) lc2) i w3 := by
  subst hi
  have h12 := h1.trans (h2.mono h1.size)
  have hB2 := hB.trans (h12.mono hB.size)
  have hI2 := (hI.below h12).snoc (x := x) (t := t) (hK.below h2) (hV.below h2) (hu.mono h2.size) (Nat.le_refl _) (fun j e => hI.own.lt j e) hc hs (by rw [hzl]; exact hO) hC hb2
  refine ⟨k + 1, la2, lc2, _, hk, rfl, rfl, by rw [List.length_append, hzl]; rfl, by rw [List.take_add_one, hx, List.map_append, hz]; rfl, hI2.hi hC.size (Nat.le_refl _), hB2.trans (hC.below hB2.size hI.lob)⟩
set_option maxHeartbeats 2000000 in
theorem copyItems_any (xs : List PI) (ia : Option Addr) (ic : Nat) (w : World) (hn : xs.length ≤ 70000) (hi : ItsAt w.heap.size w ia xs) :
    Calls Try.prog 38 #[.slice ia xs.length ic] w (CpIs xs w) := by
  have HI := Lib.hid hi
  unfold CpIs
  obtain ⟨n, hnn⟩ : ∃ n, xs.length = n := ⟨_, rfl⟩
  have HN := Lib.hid hnn
  rw [hnn] at hn ⊢
  clear hi hnn
  go_enter Try.func38, Try.ntmps38
  go_wp2_with fail
  go_loopw [3, 4] (fun o v wr => RelCi w xs n o v wr) (fun _ v _ => n - (intOf v).toNat)
  case atStart => exact ⟨0, none, 0, [], Nat.zero_le _, rfl, rfl, rfl, rfl, Its.nil w, Below.refl _ _⟩
  case round =>
    obtain ⟨k, la, lc, zs, hk, rfl, rfl, hzl, hz, hI, hB⟩ := hrel
    by_cases hkn : k < n
    · obtain ⟨x, hx⟩ : ∃ x, xs[k]? = some x := ⟨_, List.getElem?_eq_getElem (by rw [HN.out]; exact hkn)⟩
      obtain ⟨b, off, ka, kc, va, vc, rfl, hbl, hit⟩ := (HI.out.below hB).at hx
      obtain ⟨c0, c1, c2, c3, ⟨hkb, -, hkl, -⟩, ⟨hvb, -, hvl, -⟩, hch, hsz⟩ := hit
      have H := Lib.hid (copyItem_any x ka kc va vc wr hkb hvb (Nat.le_trans hkl (by decide)) (Nat.le_trans hvl (by decide)))
      have Hnx := Lib.hid fun (w1 w2 w3 : World) (t : TA) (la2 : Option Addr) (lc2 : Nat) (i : Value) h1 hK hV hu h2 => relCi_next (W := w) (wr := wr) (w1 := w1) (w2 := w2) (w3 := w3) (t := t) (la2 := la2) (lc2 := lc2) (i := i) hkn hx hzl hz hI hB hch hsz h1 hK hV hu h2
      have HOW := Lib.hid (show OR eIt wr la lc k (cellsZ zs) by have := hI.own; rwa [hzl] at this)
      have HJ := Lib.hid hkn
      obtain ⟨key, value, ch, sz⟩ := x
      unfold CpI at H
      simp only [itc] at H c0 c1 c2 c3
      simp only [cellsI] at Hnx
      generalize key.length = kl at *
      generalize value.length = vl at *
      clear hx hzl hz hI hB hkb hkl hvb hvl hch hsz
      go_wp2_with fail
      refine H.out.mono ?_
      clear H
      rintro _ w1 ⟨⟨ka2, kc2, va2, vc2⟩, rfl, hK, hV, hu, hb1⟩
      simp only at hK hV hu
      have ha := one_below w1 (.cells #[.slice ka2 kl kc2, .slice va2 vl vc2, .int .i64 ch, .int .i64 sz] 64)
      have HN2 := Lib.hid fun w3 la2 lc2 i => Hnx.out w1 (w1.alloc (.cells #[.slice ka2 kl kc2, .slice va2 vl vc2, .int .i64 ch, .int .i64 sz] 64)) w3 ⟨ka2, kc2, va2, vc2⟩ la2 lc2 i hb1 hK hV hu ha
      have HO2 := Lib.hid ((HOW.out.chg (F := fun _ => False) (Chg.of_below hb1) (fun _ _ f => f)).chg (F := fun _ => False) (Chg.of_below ha) (fun _ _ f => f))
      have HNW := Lib.hid (heap_alloc_new w1 (.cells [.slice ka2 kl kc2, .slice va2 vl vc2, .int .i64 ch, .int .i64 sz].toArray 64))
      clear hK hV hu hb1 ha c0 c1 c2 c3 Hnx HOW
      go_wp2_with (at_builtin; go_must (refine wpList_append_or eIt rfl (.tmp 11) (.tmp 17) rfl rfl HO2.out rfl (m := 1) (news := [.slice ka2 kl kc2, .slice va2 vl vc2, .int .i64 ch, .int .i64 sz]) rfl (.inr ⟨_, rfl, news_row HNW.out⟩) (by simp [Value.oneCell']) (by show (k + 1) * 64 ≤ _; omega) (by omega) ?_)
                   intro la2 lc2 w3 hO3 hC3 hb3 _)
      go_roundw
      case rel => exact HN2.out _ _ _ _ hO3 hC3 hb3 (by go_num)
      case measure => exact meas_upL HJ.out
    · obtain rfl : k = n := by omega
      rw [List.take_of_length_le (by rw [HN.out]; exact Nat.le_refl _)] at hz
      have HF := Lib.hid (show ∃ la' lc' zs', Ending.returned (.slice la k lc) = .returned (.slice la' k lc') ∧ zs'.map (·.1) = xs ∧ Its w.heap.size wr.heap.size wr la' lc' zs' ∧ Below w.heap.size w wr from ⟨la, lc, zs, rfl, hz, hI, hB⟩)
      clear hzl hz hI hB hkn
      go_wp2_with fail
      go_ret
      exact HF.out
/-- a page copied: new lists -/
structure Cpd (lo : Nat) (w : World) (p : PP) (ia : Option Addr) (ic : Nat) (da : Option Addr) (dc : Nat) : Prop where
  its : ∃ zs hi, zs.map (·.1) = p.items ∧ Its lo hi w ia ic zs
  data : OB w da dc p.data
  dal : ∀ k, blk da = some k → lo ≤ k
theorem Cpd.below {lo : Nat} {w w' : World} {p : PP} {ia : Option Addr} {ic : Nat} {da : Option Addr} {dc : Nat} (h : Cpd lo w p ia ic da dc) (hb : Below w.heap.size w w') : Cpd lo w' p ia ic da dc := by
  obtain ⟨⟨zs, hi, h1, h2⟩, h3, h4⟩ := h
  exact ⟨⟨zs, hi, h1, h2.below hb⟩, h3.below hb, h4⟩
theorem Cpd.pgAt {lo : Nat} {w : World} {p : PP} {ia : Option Addr} {ic : Nat} {da : Option Addr} {dc : Nat} (h : Cpd lo w p ia ic da dc) (hs : ∀ x ∈ p.items, x.key.length ≤ 140737488351232 ∧ x.value.length ≤ 140737488351232) (hd : p.data.length ≤ 140737488351232) (hn : p.items.length ≤ 70000) (hk : i64ok p.kind) (hl : i64ok p.level) (hx : i64ok p.next) :
    PgAt w.heap.size w p ia ic da dc := by
  obtain ⟨⟨zs, hi, hz, hI⟩, hO, -⟩ := h
  obtain ⟨h1, h2⟩ := hI.at (fun z hzm => hs z.1 (by rw [← hz]; exact List.mem_map_of_mem hzm)) hz
  exact ⟨h1, by omega, h2, hO.sl hd hO.lt, hk, hl, hx⟩
theorem Cpd.chg {F : Nat → Prop} {lo : Nat} {w w' : World} {p : PP} {ia : Option Addr} {ic : Nat} {da : Option Addr} {dc : Nat} (h : Cpd lo w p ia ic da dc) (hc : Chg F w w') (hF : ∀ k, F k → k < lo ∨ w.heap.size ≤ k) : Cpd lo w' p ia ic da dc := by
  obtain ⟨⟨zs, hi, h1, h2⟩, h3, h4⟩ := h
  refine ⟨⟨zs, hi, h1, h2.chg hc (fun k e f => ?_) (fun a ha k e f => ?_)⟩, h3.chg hc (fun k e f => ?_), h4⟩
  · have := h2.lob k e; have := h2.own.lt k e; have := hF k f; omega
  · have := h2.up.mem a ha k e; have := h2.top; have := hF k f; omega
  · have := h4 k e; have := h3.lt k e; have := hF k f; omega
def CpP (p : PP) (w : World) (e : Ending) (w' : World) : Prop :=
  ∃ ia ic da dc, e = .returned (pgv p ia ic da dc) ∧ Cpd w.heap.size w' p ia ic da dc ∧ Below w.heap.size w w'
set_option maxHeartbeats 2000000 in
theorem copyPage_any (p : PP) (ia : Option Addr) (ic : Nat) (da : Option Addr) (dc : Nat) (w : World) (hp : PgAt w.heap.size w p ia ic da dc) (hn : p.items.length ≤ 70000) :
    Calls Try.prog 21 #[pgv p ia ic da dc] w (CpP p w) := by
  have HI := Lib.hid fun w1 (h : Below w.heap.size w w1) => copyItems_any p.items ia ic w1 hn ((hp.its.below h).mono h.size)
  have HD := Lib.hid fun w1 (h : Below w.heap.size w w1) => copyBytes_any da dc p.data (Nat.le_trans hp.data.2.2.1 (by decide)) w1 (hp.data.below h).1
  unfold NewB at HD
  unfold CpIs at HI
  unfold CpP pgv
  obtain ⟨kd, lv, items, data, nx⟩ := p
  simp only at HI HD ⊢
  obtain ⟨n, hnn⟩ : ∃ n, items.length = n := ⟨_, rfl⟩
  obtain ⟨dl, hdl⟩ : ∃ dl, data.length = dl := ⟨_, rfl⟩
  simp only [hnn] at HI
  simp only [hdl] at HD
  rw [hnn, hdl]
  clear hp hn hnn hdl
  have hg1 := heap_alloc_new w (.cells #[.int .i64 kd, .int .i64 lv, .slice ia n ic, .slice da dl dc, .int .i64 nx] 27)
  have hb1 := one_below w (.cells #[.int .i64 kd, .int .i64 lv, .slice ia n ic, .slice da dl dc, .int .i64 nx] 27)
  have hs1 : (w.alloc (.cells #[.int .i64 kd, .int .i64 lv, .slice ia n ic, .slice da dl dc, .int .i64 nx] 27)).heap.size = w.heap.size + 1 := by simp
  go_enter Try.func21, Try.ntmps21
  go_wp2_with fail
  generalize w.alloc (.cells #[.int .i64 kd, .int .i64 lv, .slice ia n ic, .slice da dl dc, .int .i64 nx] 27) = W0 at *
  have hg2 := heap_alloc_new W0 (.cells #[.int .i64 0, .int .i64 0, .slice none 0 0, .slice none 0 0, .int .i64 0] 27)
  have hb2 := one_below W0 (.cells #[.int .i64 0, .int .i64 0, .slice none 0 0, .slice none 0 0, .int .i64 0] 27)
  have hs2 : (W0.alloc (.cells #[.int .i64 0, .int .i64 0, .slice none 0 0, .slice none 0 0, .int .i64 0] 27)).heap.size = W0.heap.size + 1 := by simp
  generalize W0.alloc (.cells #[.int .i64 0, .int .i64 0, .slice none 0 0, .slice none 0 0, .int .i64 0] 27) = W1 at *
  rw [hs1] at hg2 hb2 hs2
  have hg1' := (hb2.block w.heap.size (Nat.lt_succ_self _)).trans hg1
  have hb12 := hb1.trans (hb2.mono (Nat.le_succ _))
  have HB1 := Lib.hid hb12
  obtain ⟨g, hgg⟩ : ∃ g, w.heap.size = g := ⟨_, rfl⟩
  have HGG := Lib.hid hgg
  simp only [hgg] at hg1' hg2 hs2 ⊢
  have HG1 := Lib.hid hg1'
  have HG2 := Lib.hid hg2
  have HZ := Lib.hid hs2
  have HS := Lib.hid fun w1 (h : Below W1.heap.size W1 w1) => (show (fun w' : World => w'.cell? ⟨g, 0, none⟩ = some (.int .i64 kd) ∧ w'.cell? ⟨g, 1, none⟩ = some (.int .i64 lv) ∧ w'.cell? ⟨g, 2, none⟩ = some (.slice ia n ic) ∧ w'.cell? ⟨g, 3, none⟩ = some (.slice da dl dc) ∧ w'.cell? ⟨g, 4, none⟩ = some (.int .i64 nx)) w1 from by
    obtain ⟨c0, c1, c2, c3, c4⟩ := cells5 ((h.block g (by rw [HZ.out]; omega)).trans HG1.out)
    exact ⟨c0, c1, c2, c3, c4⟩)
  have hsz : W1.heap.size = w.heap.size + 2 := by rw [hgg]; exact hs2
  have HI := Lib.hid fun w1 (h : Below W1.heap.size W1 w1) => HI.out w1 (HB1.out.trans (h.mono (by omega)))
  have HD := Lib.hid fun w1 (h : Below W1.heap.size W1 w1) => HD.out w1 (HB1.out.trans (h.mono (by omega)))
  clear hg1 hg2 hg1' hb1 hb2 hb12 hs1 hs2 hgg hsz W0
  have HBd := Lib.hid (show Below W1.heap.size W1 W1.drew from (Below.refl W1.heap.size W1).drew)
  have HSe := Lib.hid (HS.out _ HBd.out)
  refine wp_region_E (fun w' : World => w'.cell? ⟨g, 0, none⟩ = some (.int .i64 kd) ∧ w'.cell? ⟨g, 1, none⟩ = some (.int .i64 lv) ∧ w'.cell? ⟨g, 2, none⟩ = some (.slice ia n ic) ∧ w'.cell? ⟨g, 3, none⟩ = some (.slice da dl dc) ∧ w'.cell? ⟨g, 4, none⟩ = some (.int .i64 nx)) 12 (by kernel_rfl) (by kernel_rfl) ?_
  change At _ _ _ _ _ _ 14 #[false, false, false, false, false, false, false, false, false, false, false, false, false, false] _ _
  refine at_take 0 (v := ?_) rfl (by decide) (by kernel_rfl) (by kernel_rfl) (fun _ _ _ h => h) (Or.inl ⟨by rfl, ?_⟩) HSe.out ?_
  rotate_left
  · intro w' hSw; (try dsimp only at hSw); go_simp; (try with_reducible rfl)
  simp only [Act.put, List.setIfInBounds_toArray, List.set_cons_zero, List.set_cons_succ]
  refine at_take 1 (v := ?_) rfl (by decide) (by kernel_rfl) (by kernel_rfl) (fun _ _ _ h => h) (Or.inl ⟨by rfl, ?_⟩) HSe.out ?_
  rotate_left
  · intro w' hSw; (try dsimp only at hSw); go_simp; (try with_reducible rfl)
  simp only [Act.put, List.setIfInBounds_toArray, List.set_cons_zero, List.set_cons_succ]
  refine at_take 2 (v := ?_) rfl (by decide) (by kernel_rfl) (by kernel_rfl) (fun _ _ _ h => h) (Or.inl ⟨by rfl, ?_⟩) HSe.out ?_
  rotate_left
  · intro w' hSw; (try dsimp only at hSw); go_simp; (try with_reducible rfl)
  simp only [Act.put, List.setIfInBounds_toArray, List.set_cons_zero, List.set_cons_succ]
  refine at_take 3 (v := ?_) rfl (by decide) (by kernel_rfl) (by kernel_rfl) (fun _ _ _ h => h) (Or.inl ⟨by rfl, ?_⟩) HSe.out ?_
  rotate_left
  · intro w' hSw; (try dsimp only at hSw); go_simp; (try with_reducible rfl)
  simp only [Act.put, List.setIfInBounds_toArray, List.set_cons_zero, List.set_cons_succ]
  refine at_take 4 (v := ?_) rfl (by decide) (by kernel_rfl) (by kernel_rfl) (fun _ _ _ h => h) (Or.inl ⟨by rfl, ?_⟩) HSe.out ?_
  rotate_left
  · intro w' hSw; (try dsimp only at hSw); go_simp; (try with_reducible rfl)
  simp only [Act.put, List.setIfInBounds_toArray, List.set_cons_zero, List.set_cons_succ]
  refine at_take 5 (v := ?_) rfl (by decide) (by kernel_rfl) (by kernel_rfl) (fun _ _ _ h => h) (Or.inl ⟨by rfl, ?_⟩) HSe.out ?_
  rotate_left
  · intro w' hSw; (try dsimp only at hSw); go_simp; (try with_reducible rfl)
  simp only [Act.put, List.setIfInBounds_toArray, List.set_cons_zero, List.set_cons_succ]
  refine at_take 7 (v := ?_) rfl (by decide) (by kernel_rfl) (by kernel_rfl) (fun _ _ _ h => h) (Or.inl ⟨by rfl, ?_⟩) HSe.out ?_
  rotate_left
  · intro w' hSw; (try dsimp only at hSw); go_simp; (try with_reducible rfl)
  simp only [Act.put, List.setIfInBounds_toArray, List.set_cons_zero, List.set_cons_succ]
  refine at_take 8 (v := ?_) rfl (by decide) (by kernel_rfl) (by kernel_rfl) (fun _ _ _ h => h) (Or.inl ⟨by rfl, ?_⟩) HSe.out ?_
  rotate_left
  · intro w' hSw; (try dsimp only at hSw); go_simp; (try with_reducible rfl)
  simp only [Act.put, List.setIfInBounds_toArray, List.set_cons_zero, List.set_cons_succ]
  refine at_take 10 (v := ?_) rfl (by decide) (by kernel_rfl) (by kernel_rfl) (fun _ _ _ h => h) (Or.inl ⟨by rfl, ?_⟩) HSe.out ?_
  rotate_left
  · intro w' hSw; (try dsimp only at hSw); go_simp; (try with_reducible rfl)
  simp only [Act.put, List.setIfInBounds_toArray, List.set_cons_zero, List.set_cons_succ]
  refine at_take 11 (v := ?_) rfl (by decide) (by kernel_rfl) (by kernel_rfl) (fun _ _ _ h => h) (Or.inl ⟨by rfl, ?_⟩) HSe.out ?_
  rotate_left
  · intro w' hSw; (try dsimp only at hSw); go_simp; (try with_reducible rfl)
  simp only [Act.put, List.setIfInBounds_toArray, List.set_cons_zero, List.set_cons_succ]
  refine at_only 6 rfl (by decide) (by kernel_rfl) (by rfl) ?_
  intro K hK
  go_simp
  refine (HI.out _ HBd.out).mono ?_
  rintro _ w2 ⟨la, lc, zs, rfl, hz2, hI2, hb2⟩
  have HB2 := Lib.hid (HBd.out.trans (hb2.mono HBd.out.size))
  have HI2 := Lib.hid hI2
  have HZ2 := Lib.hid hz2
  have HS2 := Lib.hid (HS.out w2 HB2.out)
  clear hI2 hz2 hb2
  go_simp
  refine hK _ _ HS2.out ?_
  clear hK K
  simp only [Act.put, List.setIfInBounds_toArray, List.set_cons_zero, List.set_cons_succ]
  refine at_only 9 rfl (by decide) (by kernel_rfl) (by rfl) ?_
  intro K hK
  go_simp
  refine (HD.out _ HB2.out).mono ?_
  rintro _ w3 ⟨pa, pc, rfl, hO3, ho3, hb3⟩
  have HB3 := Lib.hid (HB2.out.trans (hb3.mono HB2.out.size))
  have HO3 := Lib.hid hO3
  have HU3 := Lib.hid ho3
  have HI3 := Lib.hid (HI2.out.below hb3)
  have HS3 := Lib.hid (HS.out w3 HB3.out)
  have hz23 := hb3.size
  clear hO3 ho3 hb3
  go_simp
  refine hK _ _ HS3.out ?_
  clear hK K
  simp only [Act.put, List.setIfInBounds_toArray, List.set_cons_zero, List.set_cons_succ]
  refine at_tail rfl (by kernel_rfl) ?_
  simp only [List.drop_succ_cons, List.drop_zero]

  have hr := (HB3.out.block (g + 1) (by rw [HZ.out]; omega)).trans HG2.out
  obtain ⟨r0, r1, r2, r3, r4, rf⟩ := cells5f hr
  have f0 := rf 0
  have f1 := rf 1
  have f2 := rf 2
  have f3 := rf 3
  have f4 := rf 4
  clear rf hr
  go_wp2_with fail
  refine bodyPost_ret (v := .agg #[.int .i64 kd, .int .i64 lv, .slice la n lc, .slice pa dl pc, .int .i64 nx]) (by simp [results, Try.results21, go_sem, r0, r1, r2, r3, r4]) rfl ?_
  have hC := chg_five w3 (g + 1) (.int .i64 kd) (.int .i64 lv) (.slice la n lc) (.slice pa dl pc) (.int .i64 nx)
  have hz2 := HB2.out.size
  have hgs := HGG.out
  have hZ := HZ.out
  have hd : W1.drew.heap.size = W1.heap.size := rfl
  refine ⟨la, lc, pa, pc, rfl, ⟨⟨zs, _, HZ2.out, (HI3.out.chg hC (fun j e f => by have := HI3.out.lob j e; omega) (fun q hq j e f => by have := (HI3.out.up.mem q hq j e).1; omega)).low (by omega)⟩, HO3.out.chg hC (fun j e f => by have := HU3.out j e; omega), fun j e => by have := HU3.out j e; omega⟩, below_five (HB1.out.trans (HB3.out.mono (by omega))) (by omega) _ _ _ _ _⟩
end Go.Proofs.Ytkjgncmbhkhbnaa
namespace Go.Proofs.Ytkjgncmbhkhbnaa
open Go.RowKit
set_option linter.unusedVariables false
set_option maxRecDepth 100000

structure AN where
  (p : PP) (n : Nat) (b : List UInt8) (l : List Int) (e : Int)
  deriving DecidableEq
structure AD where
  (ia : Option Addr) (ic : Nat) (da : Option Addr) (dc : Nat) (ba : Option Addr) (bc : Nat) (la : Option Addr) (lc : Nat)
def ans (kind no gen : Int) (p : PP) (bs : List UInt8) : AN :=
  if kind = 0 then ⟨zeroP, 0, [], [], pcheck p⟩ else if kind = 1 then ⟨zeroP, 0, (penc no gen p).2, [], (penc no gen p).1⟩
  else if kind = 2 then ⟨(pdec no bs).2.1, (pdec no bs).2.2, [], [], (pdec no bs).1⟩ else ⟨zeroP, 0, [], pkids p, 0⟩
def anv (A : AN) (d : AD) : Value := .agg #[.int .i64 A.p.kind, .int .i64 A.p.level, .slice d.ia A.p.items.length d.ic, .slice d.da A.p.data.length d.dc, .int .i64 A.p.next, .int .i64 (A.n : Int), .slice d.ba A.b.length d.bc, .slice d.la A.l.length d.lc, .int .i64 A.e]
def opv (kind no gen : Int) (p : PP) (ia : Option Addr) (ic : Nat) (da : Option Addr) (dc : Nat) (bs : List UInt8) (ba : Option Addr) (bc : Nat) : Value :=
  .agg #[.int .i64 kind, .int .i64 no, .int .i64 gen, .int .i64 p.kind, .int .i64 p.level, .slice ia p.items.length ic, .slice da p.data.length dc, .int .i64 p.next, .slice ba bs.length bc]
structure AnAt (lo : Nat) (w : World) (A : AN) (d : AD) : Prop where
  p : NewPg lo w A.p d.ia d.ic d.da d.dc
  b : OB w d.ba d.bc A.b
  bl : ∀ k, blk d.ba = some k → lo ≤ k
  l : ON w d.la d.lc A.l
  ll : ∀ k, blk d.la = some k → lo ≤ k
  one : d.ba = none ∨ (d.da = none ∧ A.p.items = [])
theorem AnAt.chg {F : Nat → Prop} {lo : Nat} {w w' : World} {A : AN} {d : AD} (h : AnAt lo w A d) (hc : Chg F w w') (hF : ∀ k, F k → k < lo) : AnAt lo w' A d :=
  ⟨h.p.chg hc hF, h.b.chg hc (fun k e f => by have := h.bl k e; have := hF k f; omega), h.bl, OR.chg h.l hc (fun k e f => by have := h.ll k e; have := hF k f; omega), h.ll, h.one⟩
theorem AnAt.below {lo : Nat} {w w' : World} {A : AN} {d : AD} (h : AnAt lo w A d) (hb : Below w.heap.size w w') : AnAt lo w' A d := h.chg (F := fun _ => False) (Chg.of_below hb) (fun _ f => f.elim)
theorem AnAt.low {lo l2 : Nat} {w : World} {A : AN} {d : AD} (h : AnAt lo w A d) (hl : l2 ≤ lo) : AnAt l2 w A d :=
  ⟨h.p.low hl, h.b, fun k e => Nat.le_trans hl (h.bl k e), h.l, fun k e => Nat.le_trans hl (h.ll k e), h.one⟩
def AnsP (A : AN) (w : World) (x : Ending) (w' : World) : Prop := ∃ d, x = .returned (anv A d) ∧ AnAt w.heap.size w' A d ∧ Below w.heap.size w w'
theorem cells9 {w : World} {g : Nat} {v0 v1 v2 v3 v4 v5 v6 v7 v8 : Value} {T : TypeId} (h : w.heap[g]? = some (.cells #[v0, v1, v2, v3, v4, v5, v6, v7, v8] T)) :
    w.cell? ⟨g, 0, none⟩ = some v0 ∧ w.cell? ⟨g, 1, none⟩ = some v1 ∧ w.cell? ⟨g, 2, none⟩ = some v2 ∧ w.cell? ⟨g, 3, none⟩ = some v3 ∧ w.cell? ⟨g, 4, none⟩ = some v4 ∧ w.cell? ⟨g, 5, none⟩ = some v5 ∧ w.cell? ⟨g, 6, none⟩ = some v6 ∧ w.cell? ⟨g, 7, none⟩ = some v7 ∧ w.cell? ⟨g, 8, none⟩ = some v8 ∧ (∀ k, w.frozen? ⟨g, k, none⟩ = false) := by
  simp [World.cell?, World.frozen?, h]
theorem chg_nine (w : World) (g : Nat) (v0 v1 v2 v3 v4 v5 v6 v7 v8 : Value) : Chg (fun k => k = g) w (((((((((w.setCell ⟨g, 0, none⟩ v0).setCell ⟨g, 1, none⟩ v1).setCell ⟨g, 2, none⟩ v2).setCell ⟨g, 3, none⟩ v3).setCell ⟨g, 4, none⟩ v4).setCell ⟨g, 5, none⟩ v5).setCell ⟨g, 6, none⟩ v6).setCell ⟨g, 7, none⟩ v7).setCell ⟨g, 8, none⟩ v8) :=
  (((((((((Chg.refl (fun j => j = g) _).setCell ⟨g, 0, none⟩ _ (fun _ => rfl)).setCell ⟨g, 1, none⟩ _ (fun _ => rfl)).setCell ⟨g, 2, none⟩ _ (fun _ => rfl)).setCell ⟨g, 3, none⟩ _ (fun _ => rfl)).setCell ⟨g, 4, none⟩ _ (fun _ => rfl)).setCell ⟨g, 5, none⟩ _ (fun _ => rfl)).setCell ⟨g, 6, none⟩ _ (fun _ => rfl)).setCell ⟨g, 7, none⟩ _ (fun _ => rfl)).setCell ⟨g, 8, none⟩ _ (fun _ => rfl)
/-- an answer stored in its box -/
theorem ans_done {W w3 : World} {A : AN} {d : AD} (h : AnAt (W.heap.size + 2) w3 A d) (hb : Below W.heap.size W w3) (v0 v1 v2 v3 v4 v5 v6 v7 v8 : Value) :
    AnsP A W (.returned (anv A d)) (((((((((w3.setCell ⟨W.heap.size + 1, 0, none⟩ v0).setCell ⟨W.heap.size + 1, 1, none⟩ v1).setCell ⟨W.heap.size + 1, 2, none⟩ v2).setCell ⟨W.heap.size + 1, 3, none⟩ v3).setCell ⟨W.heap.size + 1, 4, none⟩ v4).setCell ⟨W.heap.size + 1, 5, none⟩ v5).setCell ⟨W.heap.size + 1, 6, none⟩ v6).setCell ⟨W.heap.size + 1, 7, none⟩ v7).setCell ⟨W.heap.size + 1, 8, none⟩ v8) := by
  have hC := chg_nine w3 (W.heap.size + 1) v0 v1 v2 v3 v4 v5 v6 v7 v8
  exact ⟨d, rfl, (h.chg hC (fun k e => by omega)).low (by omega), hb.trans (hC.below hb.size (fun k e => by omega))⟩
/-- the boxes: the call's, the answer's -/
structure AZ (W : World) (vs : Array Value) (w : World) : Prop where
  op : w.heap[W.heap.size]? = some (.cells vs 29)
  an : w.heap[W.heap.size + 1]? = some (.cells #[.int .i64 0, .int .i64 0, .slice none 0 0, .slice none 0 0, .int .i64 0, .int .i64 0, .slice none 0 0, .slice none 0 0, .int .i64 0] 36)
  bel : Below W.heap.size W w
  siz : W.heap.size + 2 ≤ w.heap.size
theorem AZ.below {W w w2 : World} {vs : Array Value} (h : AZ W vs w) (hb : Below w.heap.size w w2) : AZ W vs w2 :=
  ⟨(hb.block _ (by have := h.siz; omega)).trans h.op, (hb.block _ (by have := h.siz; omega)).trans h.an, h.bel.trans (hb.mono h.bel.size), Nat.le_trans h.siz hb.size⟩
theorem AZ.start (W : World) (vs : Array Value) : AZ W vs ((W.alloc (.cells vs 29)).alloc (.cells #[.int .i64 0, .int .i64 0, .slice none 0 0, .slice none 0 0, .int .i64 0, .int .i64 0, .slice none 0 0, .slice none 0 0, .int .i64 0] 36)) := by
  have h1 := one_below W (.cells vs 29)
  have h2 := one_below (W.alloc (.cells vs 29)) (.cells #[.int .i64 0, .int .i64 0, .slice none 0 0, .slice none 0 0, .int .i64 0, .int .i64 0, .slice none 0 0, .slice none 0 0, .int .i64 0] 36)
  have hs : (W.alloc (.cells vs 29)).heap.size = W.heap.size + 1 := by simp
  refine ⟨(h2.block _ (by omega)).trans (heap_alloc_new W _), ?_, h1.trans (h2.mono h1.size), by simp⟩
  rw [← hs]; exact heap_alloc_new _ _
set_option maxHeartbeats 4000000 in
theorem asked_any (kind no gen : Int) (p : PP) (ia : Option Addr) (ic : Nat) (da : Option Addr) (dc : Nat) (bs : List UInt8) (ba : Option Addr) (bc : Nat) (w : World) (hp : PgAt w.heap.size w p ia ic da dc) (hlen : p.items.length ≤ 4000000000000) (hb : Bts w ba bs) (hbc : bs.length ≤ bc) :
    Calls Try.prog 16 #[opv kind no gen p ia ic da dc bs ba bc] w (AnsP (ans kind no gen p bs) w) := by
  have HCH := Lib.hid fun w1 (h : Below w.heap.size w w1) => pCheck_any p ia ic da dc w1 ((hp.below h).mono h.size)
  have HEN := Lib.hid fun w1 (h : Below w.heap.size w w1) => pEncode_any no gen p ia ic da dc w1 ((hp.below h).mono h.size)
  have HDE := Lib.hid fun w1 (h : Below w.heap.size w w1) => pDecode_any no ba bc bs w1 (hb.below h) hbc
  have HKI := Lib.hid fun w1 (h : Below w.heap.size w w1) => pKids_any p ia ic da dc w1 ((hp.below h).mono h.size) hlen
  obtain ⟨A, hA⟩ : ∃ A, ans kind no gen p bs = A := ⟨_, rfl⟩
  rw [hA]
  unfold ans at hA
  have HA := Lib.hid hA.symm
  clear hA
  unfold Checked pgv at HCH
  unfold Encd pgv at HEN
  unfold DecdP at HDE
  unfold KidsP pgv at HKI
  generalize pcheck p = chk at *
  generalize pkids p = kl at *
  obtain ⟨⟨ee, eb⟩, hen⟩ : ∃ r, penc no gen p = r := ⟨_, rfl⟩
  obtain ⟨⟨de, dp, dn⟩, hde⟩ : ∃ r, pdec no bs = r := ⟨_, rfl⟩
  rw [hen] at HA HEN
  rw [hde] at HA HDE
  simp only at HA HEN HDE
  unfold opv
  obtain ⟨kd, lv, items, data, nx⟩ := p
  simp only at HCH HEN HKI ⊢
  generalize items.length = n at *
  generalize data.length = dl at *
  generalize bs.length = bl at *
  have HZ := Lib.hid (AZ.start w #[.int .i64 kind, .int .i64 no, .int .i64 gen, .int .i64 kd, .int .i64 lv, .slice ia n ic, .slice da dl dc, .int .i64 nx, .slice ba bl bc])
  clear hp hb hen hde hlen hbc
  by_cases hk0 : kind = 0
  · subst hk0
    rw [if_pos rfl] at HA
    go_enter Try.func16, Try.ntmps16
    go_wp2_with fail
    generalize (w.alloc _).alloc _ = W2 at HZ ⊢
    obtain ⟨c0, c1, c2, c3, c4, c5, c6, c7, c8, -⟩ := cells9 HZ.out.op
    go_wp2_with fail
    refine (HCH.out _ HZ.out.bel).mono ?_
    rintro _ w3 ⟨rfl, hb3⟩
    have HZ3 := Lib.hid (HZ.out.below hb3)
    clear hb3 c0 c1 c2 c3 c4 c5 c6 c7 c8
    obtain ⟨r0, r1, r2, r3, r4, r5, r6, r7, r8, rf⟩ := cells9 HZ3.out.an
    have f0 := rf 0
    have f1 := rf 1
    have f2 := rf 2
    have f3 := rf 3
    have f4 := rf 4
    have f5 := rf 5
    have f6 := rf 6
    have f7 := rf 7
    have f8 := rf 8
    clear rf
    go_wp2_with fail
    refine bodyPost_ret (v := .agg #[.int .i64 0, .int .i64 0, .slice none 0 0, .slice none 0 0, .int .i64 0, .int .i64 0, .slice none 0 0, .slice none 0 0, .int .i64 chk]) (by simp [results, Try.results16, go_sem, r0, r1, r2, r3, r4, r5, r6, r7, r8]) rfl ?_
    rw [HA.out]
    exact ans_done (A := ⟨zeroP, 0, [], [], chk⟩) (d := ⟨none, 0, none, 0, none, 0, none, 0⟩) ⟨newPg_zero HZ3.out.siz, OB.nil _, fun k e => (by cases e), OR.nil eN _, fun k e => (by cases e), .inl rfl⟩ HZ3.out.bel _ _ _ _ _ _ _ _ _
  rw [if_neg hk0] at HA
  have hd0 : (kind == 0) = false := by rw [beq_eq_false_iff_ne]; exact hk0
  by_cases hk1 : kind = 1
  · subst hk1
    rw [if_pos rfl] at HA
    obtain ⟨el, hel⟩ : ∃ el, eb.length = el := ⟨_, rfl⟩
    have HEL := Lib.hid hel
    rw [hel] at HEN
    clear hel
    go_enter Try.func16, Try.ntmps16
    go_wp2_with fail
    generalize (w.alloc _).alloc _ = W2 at HZ ⊢
    obtain ⟨c0, c1, c2, c3, c4, c5, c6, c7, c8, -⟩ := cells9 HZ.out.op
    go_wp2_with fail
    refine (HEN.out _ HZ.out.bel).mono ?_
    rintro _ w3 ⟨oa, oc, rfl, hO, ho, hb3⟩
    have HZ3 := Lib.hid (HZ.out.below hb3)
    have HAT := Lib.hid (show AnAt (w.heap.size + 2) w3 ⟨zeroP, 0, eb, [], ee⟩ ⟨none, 0, none, 0, oa, oc, none, 0⟩ from
      ⟨newPg_zero HZ3.out.siz, hO, fun k e => Nat.le_trans HZ.out.siz (ho k e), OR.nil eN _, fun k e => (by cases e), .inr ⟨rfl, rfl⟩⟩)
    clear hO ho hb3 c0 c1 c2 c3 c4 c5 c6 c7 c8
    obtain ⟨r0, r1, r2, r3, r4, r5, r6, r7, r8, rf⟩ := cells9 HZ3.out.an
    have f0 := rf 0
    have f1 := rf 1
    have f2 := rf 2
    have f3 := rf 3
    have f4 := rf 4
    have f5 := rf 5
    have f6 := rf 6
    have f7 := rf 7
    have f8 := rf 8
    clear rf
    go_wp2_with fail
    refine bodyPost_ret (v := .agg #[.int .i64 0, .int .i64 0, .slice none 0 0, .slice none 0 0, .int .i64 0, .int .i64 0, .slice oa el oc, .slice none 0 0, .int .i64 ee]) (by simp [results, Try.results16, go_sem, r0, r1, r2, r3, r4, r5, r6, r7, r8]) rfl ?_
    rw [HA.out]
    have hf := fun v0 v1 v2 v3 v4 v5 v6 v7 v8 => ans_done HAT.out HZ3.out.bel v0 v1 v2 v3 v4 v5 v6 v7 v8
    unfold anv at hf
    simp only [HEL.out] at hf
    exact hf _ _ _ _ _ _ _ _ _
  rw [if_neg hk1] at HA
  have hd1 : (kind == 1) = false := by rw [beq_eq_false_iff_ne]; exact hk1
  by_cases hk2 : kind = 2
  · subst hk2
    rw [if_pos rfl] at HA
    unfold pgv at HDE
    obtain ⟨il, hil⟩ : ∃ il, dp.items.length = il := ⟨_, rfl⟩
    obtain ⟨pl, hpl⟩ : ∃ pl, dp.data.length = pl := ⟨_, rfl⟩
    have HIL := Lib.hid hil
    have HPL := Lib.hid hpl
    rw [hil, hpl] at HDE
    clear hil hpl
    obtain ⟨dk, hdk⟩ : ∃ x, dp.kind = x := ⟨_, rfl⟩
    obtain ⟨dl2, hdl⟩ : ∃ x, dp.level = x := ⟨_, rfl⟩
    obtain ⟨dx, hdx⟩ : ∃ x, dp.next = x := ⟨_, rfl⟩
    have HDK := Lib.hid (And.intro hdk (And.intro hdl hdx))
    rw [hdk, hdl, hdx] at HDE
    clear hdk hdl hdx
    go_enter Try.func16, Try.ntmps16
    go_wp2_with fail
    generalize (w.alloc _).alloc _ = W2 at HZ ⊢
    obtain ⟨c0, c1, c2, c3, c4, c5, c6, c7, c8, -⟩ := cells9 HZ.out.op
    go_wp2_with fail
    refine (HDE.out _ HZ.out.bel).mono ?_
    rintro _ w3 ⟨ja, jc, ea, ec, rfl, hP, hb3⟩
    have HZ3 := Lib.hid (HZ.out.below hb3)
    have ha4 := one_below w3 (.cells #[.int .i64 dk, .int .i64 dl2, .slice ja il jc, .slice ea pl ec, .int .i64 dx] 27)
    have hp4 := heap_alloc_new w3 (.cells #[.int .i64 dk, .int .i64 dl2, .slice ja il jc, .slice ea pl ec, .int .i64 dx] 27)
    have HZ4 := Lib.hid (HZ3.out.below ha4)
    have HAT := Lib.hid (show AnAt (w.heap.size + 2) (w3.alloc (.cells #[.int .i64 dk, .int .i64 dl2, .slice ja il jc, .slice ea pl ec, .int .i64 dx] 27)) ⟨dp, dn, [], [], de⟩ ⟨ja, jc, ea, ec, none, 0, none, 0⟩ from
      ⟨(hP.low HZ.out.siz).below ha4, OB.nil _, fun k e => (by cases e), OR.nil eN _, fun k e => (by cases e), .inl rfl⟩)
    obtain ⟨x0, x1, x2, x3, x4⟩ := cells5 hp4
    have hs3 := HZ3.out.siz
    have hne : ¬ w3.heap.size = w.heap.size + 1 := by omega
    have hne2 : ¬ w.heap.size + 1 = w3.heap.size := by omega
    clear hP hb3 c0 c1 c2 c3 c4 c5 c6 c7 c8 ha4 hp4
    obtain ⟨r0, r1, r2, r3, r4, r5, r6, r7, r8, rf⟩ := cells9 HZ4.out.an
    have f0 := rf 0
    have f1 := rf 1
    have f2 := rf 2
    have f3 := rf 3
    have f4 := rf 4
    have f5 := rf 5
    have f6 := rf 6
    have f7 := rf 7
    have f8 := rf 8
    clear rf
    go_wp2_with fail
    refine bodyPost_ret (v := .agg #[.int .i64 dk, .int .i64 dl2, .slice ja il jc, .slice ea pl ec, .int .i64 dx, .int .i64 (dn : Int), .slice none 0 0, .slice none 0 0, .int .i64 de]) (by simp [results, Try.results16, go_sem, r0, r1, r2, r3, r4, r5, r6, r7, r8]) rfl ?_
    rw [HA.out]
    have hf := fun v0 v1 v2 v3 v4 v5 v6 v7 v8 => ans_done HAT.out HZ4.out.bel v0 v1 v2 v3 v4 v5 v6 v7 v8
    unfold anv at hf
    simp only [HIL.out, HPL.out, HDK.out.1, HDK.out.2.1, HDK.out.2.2] at hf
    exact hf _ _ _ _ _ _ _ _ _
  rw [if_neg hk2] at HA
  have hd2 : (kind == 2) = false := by rw [beq_eq_false_iff_ne]; exact hk2
  obtain ⟨ll, hll⟩ : ∃ ll, kl.length = ll := ⟨_, rfl⟩
  have HLL := Lib.hid hll
  rw [hll] at HKI
  clear hll hk0 hk1 hk2
  go_enter Try.func16, Try.ntmps16
  go_wp2_with fail
  generalize (w.alloc _).alloc _ = W2 at HZ ⊢
  obtain ⟨c0, c1, c2, c3, c4, c5, c6, c7, c8, -⟩ := cells9 HZ.out.op
  go_wp2_with fail
  refine (HKI.out _ HZ.out.bel).mono ?_
  rintro _ w3 ⟨oa, oc, rfl, hO, ho, hb3⟩
  have HZ3 := Lib.hid (HZ.out.below hb3)
  have HAT := Lib.hid (show AnAt (w.heap.size + 2) w3 ⟨zeroP, 0, [], kl, 0⟩ ⟨none, 0, none, 0, none, 0, oa, oc⟩ from
    ⟨newPg_zero HZ3.out.siz, OB.nil _, fun k e => (by cases e), hO, fun k e => Nat.le_trans HZ.out.siz (ho k e), .inl rfl⟩)
  clear hO ho hb3 c0 c1 c2 c3 c4 c5 c6 c7 c8
  obtain ⟨r0, r1, r2, r3, r4, r5, r6, r7, r8, rf⟩ := cells9 HZ3.out.an
  have f0 := rf 0
  have f1 := rf 1
  have f2 := rf 2
  have f3 := rf 3
  have f4 := rf 4
  have f5 := rf 5
  have f6 := rf 6
  have f7 := rf 7
  have f8 := rf 8
  clear rf
  go_wp2_with fail
  refine bodyPost_ret (v := .agg #[.int .i64 0, .int .i64 0, .slice none 0 0, .slice none 0 0, .int .i64 0, .int .i64 0, .slice none 0 0, .slice oa ll oc, .int .i64 0]) (by simp [results, Try.results16, go_sem, r0, r1, r2, r3, r4, r5, r6, r7, r8]) rfl ?_
  rw [HA.out]
  have hf := fun v0 v1 v2 v3 v4 v5 v6 v7 v8 => ans_done HAT.out HZ3.out.bel v0 v1 v2 v3 v4 v5 v6 v7 v8
  unfold anv at hf
  simp only [HLL.out] at hf
  exact hf _ _ _ _ _ _ _ _ _
end Go.Proofs.Ytkjgncmbhkhbnaa
