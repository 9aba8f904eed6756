/- The document's Check of a page. -/
import Derived.Test.YtkjgncmbhkhbnaaPChk
import Derived.Test.YtkjgncmbhkhbnaaCmpQ
import Derived.StillTailTactics
namespace Go.Proofs.Ytkjgncmbhkhbnaa
open Go.RowKit
set_option linter.unusedVariables false

/-- while the document's Check runs: the page's box, and what was there before -/
structure DB (w0 : World) (p : PP) (ia : Option Addr) (ic : Nat) (da : Option Addr) (dc : Nat) (w : World) : Prop where
  box : w.heap[w0.heap.size]? = some (.cells #[.int .i64 p.kind, .int .i64 p.level, .slice ia p.items.length ic, .slice da p.data.length dc, .int .i64 p.next] 27)
  bel : Below w0.heap.size w0 w
section
variable {w0 : World} {p : PP} {ia : Option Addr} {ic : Nat} {da : Option Addr} {dc : Nat} {w w' : World}
theorem DB.below (h : DB w0 p ia ic da dc w) (hb : Below w.heap.size w w') : DB w0 p ia ic da dc w' :=
  ⟨by rw [hb.block _ (rlt_of_heapP h.box)]; exact h.box, h.bel.trans (hb.mono h.bel.size)⟩
theorem DB.drN (h : DB w0 p ia ic da dc w) (n : Nat) : DB w0 p ia ic da dc (w.drewN n) := h.below (below_drewN (Below.refl _ _) n)
theorem DB.start (w0 : World) (p : PP) (ia : Option Addr) (ic : Nat) (da : Option Addr) (dc : Nat) : DB w0 p ia ic da dc (w0.alloc (.cells #[.int .i64 p.kind, .int .i64 p.level, .slice ia p.items.length ic, .slice da p.data.length dc, .int .i64 p.next] 27)) :=
  ⟨heap_alloc_new _ _, one_below _ _⟩
/-- j items are right -/
def RelDC (w0 : World) (p : PP) (ia : Option Addr) (ic : Nat) (da : Option Addr) (dc : Nat) (i : Value) (wr : World) : Prop :=
  ∃ j : Nat, j ≤ p.items.length ∧ i = .int .i64 j ∧ DB w0 p ia ic da dc wr ∧ firstBad (itErr p.kind p.items) j = 0
theorem pcheck_stop {p : PP} (h1 : 1 ≤ p.kind) (h3 : p.kind ≤ 3) (hf : okForm p.kind p.level p.items.length p.data.length p.next = true) {j : Nat} (hj : j < p.items.length) (h0 : firstBad (itErr p.kind p.items) j = 0) {e : Int} (he : itErr p.kind p.items j = e) (hn : e ≠ 0) : pcheck p = e := by
  subst he
  have h := firstBad_stop hn h0 _ hj
  unfold pcheck
  rw [if_neg (by omega), if_neg (by rw [hf]; decide), h, if_pos hn]
theorem meas_nextS {n q : Nat} (h : q + 1 < n) (hn : n ≤ 9223372036854775807) : n - (intOf (.int .i64 ((q : Int) + 1 + 1))).toNat < n - (intOf (.int .i64 ((q + 1 : Nat) : Int))).toNat := by simp only [intOf]; omega
theorem itErr_at {kind : Int} {xs : List PI} {j : Nat} {x : PI} (hx : xs[j]? = some x) : itErr kind xs j = itemErr kind j (aboveAt xs j) x := by unfold itErr; rw [hx]
theorem aboveAt_at {xs : List PI} {j : Nat} {y : PI} (hy : xs[j]? = some y) : aboveAt xs (j + 1) = y.key := by unfold aboveAt; rw [Nat.add_sub_cancel, hy]
theorem ie_key {kind : Int} {j : Nat} {ks : List UInt8} {x : PI} (h1 : okKey kind j x = false) : itemErr kind j ks x = 7 := by unfold itemErr; rw [if_pos h1]
theorem ie_cmp {kind : Int} {j : Nat} {ks : List UInt8} {x : PI} (h1 : okKey kind j x = true) (h2 : 0 < j ∧ Lib.compareBytes x.key ks ≤ 0) : itemErr kind j ks x = 11 := by unfold itemErr; rw [if_neg (by simp [h1]), if_pos h2]
theorem ie_val {kind : Int} {j : Nat} {ks : List UInt8} {x : PI} (h1 : okKey kind j x = true) (h2 : ¬ (0 < j ∧ Lib.compareBytes x.key ks ≤ 0)) (h3 : okValue kind x = false) : itemErr kind j ks x = 8 := by unfold itemErr; rw [if_neg (by simp [h1]), if_neg h2, if_pos h3]
theorem ie_chi {kind : Int} {j : Nat} {ks : List UInt8} {x : PI} (h1 : okKey kind j x = true) (h2 : ¬ (0 < j ∧ Lib.compareBytes x.key ks ≤ 0)) (h3 : okValue kind x = true) (h4 : okChild kind x = false) : itemErr kind j ks x = 15 := by unfold itemErr; rw [if_neg (by simp [h1]), if_neg h2, if_neg (by simp [h3]), if_pos h4]
theorem ie_ok {kind : Int} {j : Nat} {ks : List UInt8} {x : PI} (h1 : okKey kind j x = true) (h2 : ¬ (0 < j ∧ Lib.compareBytes x.key ks ≤ 0)) (h3 : okValue kind x = true) (h4 : okChild kind x = true) : itemErr kind j ks x = 0 := by unfold itemErr; rw [if_neg (by simp [h1]), if_neg h2, if_neg (by simp [h3]), if_neg (by simp [h4])]
end

set_option maxHeartbeats 4000000 in
set_option maxRecDepth 20000 in
theorem dCheck_kind (kind : Int) (level : Int) (items : List PI) (data : List UInt8) (next : Int) (ia : Option Addr) (ic : Nat) (da : Option Addr) (dc : Nat) (w : World) (hp : PgAt w.heap.size w ⟨kind, level, items, data, next⟩ ia ic da dc) (hk : kind < 1 ∨ 3 < kind) :
    Calls Try.prog 27 #[.agg #[.int .i64 kind, .int .i64 level, .slice ia items.length ic, .slice da data.length dc, .int .i64 next]] w (Checked ⟨kind, level, items, data, next⟩ w) := by
  have HP := Lib.hid hp
  have HD := Lib.hid (DB.start w ⟨kind, level, items, data, next⟩ ia ic da dc)
  have HF := Lib.hid fun w => dForm_any ⟨kind, level, items, data, next⟩ ia ic da dc w
  have HR := Lib.hid (show pcheck ⟨kind, level, items, data, next⟩ = 22 by unfold pcheck; rw [if_pos hk])
  have k1 : (kind != 1) = true := by rw [bne_iff_ne]; omega
  have k2 : (kind != 2) = true := by rw [bne_iff_ne]; omega
  have k3 : (kind != 3) = true := by rw [bne_iff_ne]; omega
  simp only [pgv] at *
  obtain ⟨n, hn⟩ : ∃ n, items.length = n := ⟨_, rfl⟩
  obtain ⟨m, hm⟩ : ∃ m, data.length = m := ⟨_, rfl⟩
  rw [hn, hm] at HD HF ⊢
  have HN := Lib.hid hn
  have HM := Lib.hid hm
  clear hp hn hm hk
  go_enter Try.func27, Try.ntmps27
  have hD := HD.out
  obtain ⟨c0, c1, c2, c3, c4⟩ := cells5 hD.box
  simp only [] at c0 c1 c2 c3 c4
  rw [HN.out] at c2
  rw [HM.out] at c3
  go_wp2_with fail
  go_ret
  exact ⟨ret_i64 HR.out.symm, hD.bel⟩

set_option maxHeartbeats 4000000 in
set_option maxRecDepth 20000 in
theorem dCheck_form1 (level : Int) (items : List PI) (data : List UInt8) (next : Int) (ia : Option Addr) (ic : Nat) (da : Option Addr) (dc : Nat) (w : World) (hp : PgAt w.heap.size w ⟨1, level, items, data, next⟩ ia ic da dc) (hf : okForm 1 level items.length data.length next = false) :
    Calls Try.prog 27 #[.agg #[.int .i64 1, .int .i64 level, .slice ia items.length ic, .slice da data.length dc, .int .i64 next]] w (Checked ⟨1, level, items, data, next⟩ w) := by
  have HP := Lib.hid hp
  have HD := Lib.hid (DB.start w ⟨1, level, items, data, next⟩ ia ic da dc)
  have HF := Lib.hid fun w => dForm_any ⟨1, level, items, data, next⟩ ia ic da dc w
  have HR := Lib.hid (show pcheck ⟨1, level, items, data, next⟩ = 5 by
    unfold pcheck; rw [if_neg (by show ¬ ((1 : Int) < 1 ∨ 3 < (1 : Int)); decide)]
    show (if okForm 1 level items.length data.length next = false then (5 : Int) else _) = 5
    rw [if_pos hf])
  simp only [hf] at HF
  simp only [pgv] at *
  obtain ⟨n, hn⟩ : ∃ n, items.length = n := ⟨_, rfl⟩
  obtain ⟨m, hm⟩ : ∃ m, data.length = m := ⟨_, rfl⟩
  rw [hn, hm] at HD HF ⊢
  have HN := Lib.hid hn
  have HM := Lib.hid hm
  clear hp hn hm hf
  go_enter Try.func27, Try.ntmps27
  have hD := HD.out
  obtain ⟨c0, c1, c2, c3, c4⟩ := cells5 hD.box
  simp only [] at c0 c1 c2 c3 c4
  rw [HN.out] at c2
  rw [HM.out] at c3
  go_wp2_with fail
  refine (HF.out _).mono ?_
  rintro _ w2 ⟨rfl, hB2⟩
  replace hD := hD.below hB2
  clear c0 c1 c2 c3 c4 hB2
  obtain ⟨c0, c1, c2, c3, c4⟩ := cells5 hD.box
  simp only [] at c0 c1 c2 c3 c4
  rw [HN.out] at c2
  rw [HM.out] at c3
  go_wp2_with fail
  go_ret
  exact ⟨ret_i64 HR.out.symm, hD.bel⟩

set_option maxHeartbeats 4000000 in
set_option maxRecDepth 20000 in
theorem dCheck_form2 (level : Int) (items : List PI) (data : List UInt8) (next : Int) (ia : Option Addr) (ic : Nat) (da : Option Addr) (dc : Nat) (w : World) (hp : PgAt w.heap.size w ⟨2, level, items, data, next⟩ ia ic da dc) (hf : okForm 2 level items.length data.length next = false) :
    Calls Try.prog 27 #[.agg #[.int .i64 2, .int .i64 level, .slice ia items.length ic, .slice da data.length dc, .int .i64 next]] w (Checked ⟨2, level, items, data, next⟩ w) := by
  have HP := Lib.hid hp
  have HD := Lib.hid (DB.start w ⟨2, level, items, data, next⟩ ia ic da dc)
  have HF := Lib.hid fun w => dForm_any ⟨2, level, items, data, next⟩ ia ic da dc w
  have HR := Lib.hid (show pcheck ⟨2, level, items, data, next⟩ = 5 by
    unfold pcheck; rw [if_neg (by show ¬ ((2 : Int) < 1 ∨ 3 < (2 : Int)); decide)]
    show (if okForm 2 level items.length data.length next = false then (5 : Int) else _) = 5
    rw [if_pos hf])
  simp only [hf] at HF
  simp only [pgv] at *
  obtain ⟨n, hn⟩ : ∃ n, items.length = n := ⟨_, rfl⟩
  obtain ⟨m, hm⟩ : ∃ m, data.length = m := ⟨_, rfl⟩
  rw [hn, hm] at HD HF ⊢
  have HN := Lib.hid hn
  have HM := Lib.hid hm
  clear hp hn hm hf
  go_enter Try.func27, Try.ntmps27
  have hD := HD.out
  obtain ⟨c0, c1, c2, c3, c4⟩ := cells5 hD.box
  simp only [] at c0 c1 c2 c3 c4
  rw [HN.out] at c2
  rw [HM.out] at c3
  go_wp2_with fail
  refine (HF.out _).mono ?_
  rintro _ w2 ⟨rfl, hB2⟩
  replace hD := hD.below hB2
  clear c0 c1 c2 c3 c4 hB2
  obtain ⟨c0, c1, c2, c3, c4⟩ := cells5 hD.box
  simp only [] at c0 c1 c2 c3 c4
  rw [HN.out] at c2
  rw [HM.out] at c3
  go_wp2_with fail
  go_ret
  exact ⟨ret_i64 HR.out.symm, hD.bel⟩

set_option maxHeartbeats 4000000 in
set_option maxRecDepth 20000 in
theorem dCheck_form3 (level : Int) (items : List PI) (data : List UInt8) (next : Int) (ia : Option Addr) (ic : Nat) (da : Option Addr) (dc : Nat) (w : World) (hp : PgAt w.heap.size w ⟨3, level, items, data, next⟩ ia ic da dc) (hf : okForm 3 level items.length data.length next = false) :
    Calls Try.prog 27 #[.agg #[.int .i64 3, .int .i64 level, .slice ia items.length ic, .slice da data.length dc, .int .i64 next]] w (Checked ⟨3, level, items, data, next⟩ w) := by
  have HP := Lib.hid hp
  have HD := Lib.hid (DB.start w ⟨3, level, items, data, next⟩ ia ic da dc)
  have HF := Lib.hid fun w => dForm_any ⟨3, level, items, data, next⟩ ia ic da dc w
  have HR := Lib.hid (show pcheck ⟨3, level, items, data, next⟩ = 5 by
    unfold pcheck; rw [if_neg (by show ¬ ((3 : Int) < 1 ∨ 3 < (3 : Int)); decide)]
    show (if okForm 3 level items.length data.length next = false then (5 : Int) else _) = 5
    rw [if_pos hf])
  simp only [hf] at HF
  simp only [pgv] at *
  obtain ⟨n, hn⟩ : ∃ n, items.length = n := ⟨_, rfl⟩
  obtain ⟨m, hm⟩ : ∃ m, data.length = m := ⟨_, rfl⟩
  rw [hn, hm] at HD HF ⊢
  have HN := Lib.hid hn
  have HM := Lib.hid hm
  clear hp hn hm hf
  go_enter Try.func27, Try.ntmps27
  have hD := HD.out
  obtain ⟨c0, c1, c2, c3, c4⟩ := cells5 hD.box
  simp only [] at c0 c1 c2 c3 c4
  rw [HN.out] at c2
  rw [HM.out] at c3
  go_wp2_with fail
  refine (HF.out _).mono ?_
  rintro _ w2 ⟨rfl, hB2⟩
  replace hD := hD.below hB2
  clear c0 c1 c2 c3 c4 hB2
  obtain ⟨c0, c1, c2, c3, c4⟩ := cells5 hD.box
  simp only [] at c0 c1 c2 c3 c4
  rw [HN.out] at c2
  rw [HM.out] at c3
  go_wp2_with fail
  go_ret
  exact ⟨ret_i64 HR.out.symm, hD.bel⟩

set_option maxHeartbeats 4000000 in
set_option maxRecDepth 20000 in
theorem dCheck_go3 (level : Int) (items : List PI) (data : List UInt8) (next : Int) (ia : Option Addr) (ic : Nat) (da : Option Addr) (dc : Nat) (w : World) (hp : PgAt w.heap.size w ⟨3, level, items, data, next⟩ ia ic da dc) (hf : okForm 3 level items.length data.length next = true) :
    Calls Try.prog 27 #[.agg #[.int .i64 3, .int .i64 level, .slice ia items.length ic, .slice da data.length dc, .int .i64 next]] w (Checked ⟨3, level, items, data, next⟩ w) := by
  have HP := Lib.hid hp
  have HD := Lib.hid (DB.start w ⟨3, level, items, data, next⟩ ia ic da dc)
  have HF := Lib.hid fun w => dForm_any ⟨3, level, items, data, next⟩ ia ic da dc w
  have HEND := Lib.hid (pcheck_end ⟨3, level, items, data, next⟩ (by show 1 ≤ (3 : Int); decide) (by show (3 : Int) ≤ 3; decide) hf)
  simp only [hf] at HF
  simp only [pgv] at *
  obtain ⟨n, hn⟩ : ∃ n, items.length = n := ⟨_, rfl⟩
  obtain ⟨m, hm⟩ : ∃ m, data.length = m := ⟨_, rfl⟩
  rw [hn, hm] at HD HF hf ⊢
  have HN := Lib.hid hn
  have HM := Lib.hid hm
  have Hf := Lib.hid hf
  clear hp hn hm hf
  go_enter Try.func27, Try.ntmps27
  have hD := HD.out
  obtain ⟨c0, c1, c2, c3, c4⟩ := cells5 hD.box
  simp only [] at c0 c1 c2 c3 c4
  rw [HN.out] at c2
  rw [HM.out] at c3
  go_wp2_with fail
  refine (HF.out _).mono ?_
  rintro _ w2 ⟨rfl, hB2⟩
  replace hD := hD.below hB2
  clear c0 c1 c2 c3 c4 hB2
  obtain ⟨c0, c1, c2, c3, c4⟩ := cells5 hD.box
  simp only [] at c0 c1 c2 c3 c4
  rw [HN.out] at c2
  rw [HM.out] at c3
  go_wp2_with fail
  have HDD := Lib.hid hD
  clear hD c0 c1 c2 c3 c4
  go_loopw [3] (fun i wr => RelDC w ⟨3, level, items, data, next⟩ ia ic da dc i wr) (fun i _ => n - (intOf i).toNat)
  case atStart => exact ⟨0, Nat.zero_le _, rfl, HDD.out, rfl⟩
  case round =>
    clear HDD
    obtain ⟨j, hj, rfl, hD, hfb⟩ := hrel
    have hj : j ≤ n := by rw [← HN.out]; exact hj
    have HFB := Lib.hid hfb
    clear hfb
    by_cases hjn : j < n
    · exact absurd hjn (by have h := Hf.out; simp [okForm] at h; omega)
    · obtain rfl : j = n := by omega
      have HR := Lib.hid HEND.out
      rw [HN.out] at HR
      have HR2 := Lib.hid (show pcheck ⟨3, level, items, data, next⟩ = latch 0 (next == 0 || isPg next) 15 by rw [HR.out]; exact congrArg (fun r => latch r (next == 0 || isPg next) 15) HFB.out)
      clear HR
      have HC := Lib.hid (dIsPage_any next)
      by_cases hn0 : next = 0
      · subst hn0
        have HR := Lib.hid (show pcheck ⟨3, level, items, data, 0⟩ = 0 by rw [HR2.out]; simp [latch])
        obtain ⟨c0, c1, c2, c3, c4⟩ := cells5 hD.box
        simp only [] at c0 c1 c2 c3 c4
        rw [HN.out] at c2
        rw [HM.out] at c3
        clear hj hjn
        go_wp2_with fail
        go_ret
        exact ⟨ret_i64 HR.out.symm, hD.bel⟩
      · have hd : (next != 0) = true := by rw [bne_iff_ne]; exact hn0
        have hd0 : (next == 0) = false := by rw [beq_eq_false_iff_ne]; exact hn0
        by_cases hpg : isPg next = true
        · have HR := Lib.hid (show pcheck ⟨3, level, items, data, next⟩ = 0 by rw [HR2.out]; simp [latch, hpg])
          simp only [hpg] at HC
          obtain ⟨c0, c1, c2, c3, c4⟩ := cells5 hD.box
          simp only [] at c0 c1 c2 c3 c4
          rw [HN.out] at c2
          rw [HM.out] at c3
          clear hj hjn hpg hd0
          go_wp2_with (go_at_call 48; refine (HC.out _).mono ?_; rintro _ _ ⟨rfl, rfl⟩)
          go_ret
          exact ⟨ret_i64 HR.out.symm, hD.bel⟩
        · have hpg : isPg next = false := by simpa using hpg
          have HR := Lib.hid (show pcheck ⟨3, level, items, data, next⟩ = 15 by rw [HR2.out]; simp [latch, hpg, hn0])
          simp only [hpg] at HC
          obtain ⟨c0, c1, c2, c3, c4⟩ := cells5 hD.box
          simp only [] at c0 c1 c2 c3 c4
          rw [HN.out] at c2
          rw [HM.out] at c3
          clear hj hjn hpg hd0
          go_wp2_with (go_at_call 48; refine (HC.out _).mono ?_; rintro _ _ ⟨rfl, rfl⟩)
          go_ret
          exact ⟨ret_i64 HR.out.symm, hD.bel⟩

end Go.Proofs.Ytkjgncmbhkhbnaa
