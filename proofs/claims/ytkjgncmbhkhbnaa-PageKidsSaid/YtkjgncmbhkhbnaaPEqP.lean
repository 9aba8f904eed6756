/- EqPage. -/
import Derived.Test.YtkjgncmbhkhbnaaPEq
import Derived.StillTailTactics
namespace Go.Proofs.Ytkjgncmbhkhbnaa
open Go.RowKit
set_option linter.unusedVariables false
set_option maxRecDepth 100000

def bxP (p : PP) (ia : Option Addr) (ic : Nat) (da : Option Addr) (dc : Nat) : Obj := .cells #[.int .i64 p.kind, .int .i64 p.level, .slice ia p.items.length ic, .slice da p.data.length dc, .int .i64 p.next] 27
def RelEP (w0 : World) (o1 o2 : Obj) (xs ys : List PI) (i : Value) (wr : World) : Prop := ∃ j : Nat, j ≤ xs.length ∧ i = .int .i64 j ∧ (∀ q, q < j → xs[q]? = ys[q]?) ∧ TwoB w0 o1 o2 wr

set_option maxHeartbeats 1000000 in
theorem eqPage_any (p q : PP) (ia : Option Addr) (ic : Nat) (da : Option Addr) (dc : Nat) (ja : Option Addr) (jc : Nat) (ea : Option Addr) (ec : Nat) (w : World) (hp : PgAt w.heap.size w p ia ic da dc) (hq : PgAt w.heap.size w q ja jc ea ec) :
    Calls Try.prog 33 #[pgv p ia ic da dc, pgv q ja jc ea ec] w (EqA p q w) := by
  have HP := Lib.hid hp
  have HQ := Lib.hid hq
  have HDT := Lib.hid fun w1 (h : Below w.heap.size w w1) => show Calls Try.prog 30 #[.slice da p.data.length dc, .slice ea q.data.length ec] w1 fun e w' => e = .returned (.bool (decide (p.data = q.data))) ∧ Below w1.heap.size w1 w' from
    eqBytes_any p.data q.data da ea dc ec (Nat.le_trans hp.data.2.2.1 (by decide)) (Nat.le_trans hq.data.2.2.1 (by decide)) w1 (hp.data.below h).1 (hq.data.below h).1
  have HT := Lib.hid (TwoB.start w (bxP p ia ic da dc) (bxP q ja jc ea ec))
  clear hp hq
  unfold EqA
  obtain ⟨k1, l1, xs, d1s, n1⟩ := p
  obtain ⟨k2, l2, ys, d2s, n2⟩ := q
  simp only [pgv, bxP] at HDT HT ⊢
  obtain ⟨n, hn⟩ : ∃ n, xs.length = n := ⟨_, rfl⟩
  obtain ⟨m, hm⟩ : ∃ m, ys.length = m := ⟨_, rfl⟩
  rw [hn, hm] at HT ⊢
  have Hn := Lib.hid hn
  have Hm := Lib.hid hm
  clear hn hm
  by_cases e1 : k1 = k2
  rotate_left
  · have HF := Lib.hid (show decide ((⟨k1, l1, xs, d1s, n1⟩ : PP) = ⟨k2, l2, ys, d2s, n2⟩) = false by simp [e1])
    have d1 : (k1 != k2) = true := by rw [bne_iff_ne]; exact e1
    go_enter Try.func33, Try.ntmps33
    have hT := HT.out
    obtain ⟨a0, a1, a2, a3, a4⟩ := cells5 hT.b1
    obtain ⟨b0, b1, b2, b3, b4⟩ := cells5 hT.b2
    go_wp2_with fail
    go_ret
    exact ⟨by rw [HF.out]; rfl, hT.bel⟩
  subst e1
  by_cases e2 : l1 = l2
  rotate_left
  · have HF := Lib.hid (show decide ((⟨k1, l1, xs, d1s, n1⟩ : PP) = ⟨k1, l2, ys, d2s, n2⟩) = false by simp [e2])
    have d1 : (l1 != l2) = true := by rw [bne_iff_ne]; exact e2
    go_enter Try.func33, Try.ntmps33
    have hT := HT.out
    obtain ⟨a0, a1, a2, a3, a4⟩ := cells5 hT.b1
    obtain ⟨b0, b1, b2, b3, b4⟩ := cells5 hT.b2
    go_wp2_with fail
    go_ret
    exact ⟨by rw [HF.out]; rfl, hT.bel⟩
  subst e2
  by_cases e3 : n1 = n2
  rotate_left
  · have HF := Lib.hid (show decide ((⟨k1, l1, xs, d1s, n1⟩ : PP) = ⟨k1, l1, ys, d2s, n2⟩) = false by simp [e3])
    have d1 : (n1 != n2) = true := by rw [bne_iff_ne]; exact e3
    go_enter Try.func33, Try.ntmps33
    have hT := HT.out
    obtain ⟨a0, a1, a2, a3, a4⟩ := cells5 hT.b1
    obtain ⟨b0, b1, b2, b3, b4⟩ := cells5 hT.b2
    go_wp2_with fail
    go_ret
    exact ⟨by rw [HF.out]; rfl, hT.bel⟩
  subst e3
  by_cases e4 : n = m
  rotate_left
  · have HF := Lib.hid (show decide ((⟨k1, l1, xs, d1s, n1⟩ : PP) = ⟨k1, l1, ys, d2s, n1⟩) = false by
      rw [decide_eq_false_iff_not]; intro h; injection h with _ _ h; exact e4 (by rw [← Hn.out, ← Hm.out, h]))
    have d1 : ((n : Int) != (m : Int)) = true := by rw [bne_iff_ne]; omega
    go_enter Try.func33, Try.ntmps33
    have hT := HT.out
    obtain ⟨a0, a1, a2, a3, a4⟩ := cells5 hT.b1
    obtain ⟨b0, b1, b2, b3, b4⟩ := cells5 hT.b2
    go_wp2_with fail
    go_ret
    exact ⟨by rw [HF.out]; rfl, hT.bel⟩
  subst e4
  by_cases e5 : d1s = d2s
  rotate_left
  · have HF := Lib.hid (show decide ((⟨k1, l1, xs, d1s, n1⟩ : PP) = ⟨k1, l1, ys, d2s, n1⟩) = false by simp [e5])
    rw [decide_eq_false e5] at HDT
    clear e5
    go_enter Try.func33, Try.ntmps33
    have hT := HT.out
    obtain ⟨a0, a1, a2, a3, a4⟩ := cells5 hT.b1
    obtain ⟨b0, b1, b2, b3, b4⟩ := cells5 hT.b2
    go_wp2_with fail
    refine (HDT.out _ hT.bel).mono ?_
    rintro _ w1 ⟨rfl, hB1⟩
    have HT1 := Lib.hid (hT.below hB1)
    clear hB1 a0 a1 a2 a3 a4 b0 b1 b2 b3 b4
    go_wp2_with fail
    go_ret
    exact ⟨by rw [HF.out]; rfl, HT1.out.bel⟩
  have HF := Lib.hid (show decide ((⟨k1, l1, xs, d1s, n1⟩ : PP) = ⟨k1, l1, ys, d2s, n1⟩) = decide (xs = ys) by rw [e5]; simp)
  rw [decide_eq_true e5] at HDT
  clear e5
  go_enter Try.func33, Try.ntmps33
  have hT := HT.out
  obtain ⟨a0, a1, a2, a3, a4⟩ := cells5 hT.b1
  obtain ⟨b0, b1, b2, b3, b4⟩ := cells5 hT.b2
  go_wp2_with fail
  refine (HDT.out _ hT.bel).mono ?_
  rintro _ w1 ⟨rfl, hB1⟩
  have HT1 := Lib.hid (hT.below hB1)
  clear hB1 a0 a1 a2 a3 a4 b0 b1 b2 b3 b4 hT
  go_wp2_with fail
  go_loopw [5] (fun i wr => RelEP w (.cells #[.int .i64 k1, .int .i64 l1, .slice ia n ic, .slice da d1s.length dc, .int .i64 n1] 27) (.cells #[.int .i64 k1, .int .i64 l1, .slice ja n jc, .slice ea d2s.length ec, .int .i64 n1] 27) xs ys i wr) (fun i _ => n - (intOf i).toNat)
  case atStart => exact ⟨0, Nat.zero_le _, rfl, fun q hq => by omega, HT1.out⟩
  case round =>
    clear HT1
    obtain ⟨j, hj, rfl, hE, hT⟩ := hrel
    rw [Hn.out] at hj
    obtain ⟨a0, a1, a2, a3, a4⟩ := cells5 hT.b1
    obtain ⟨b0, b1, b2, b3, b4⟩ := cells5 hT.b2
    by_cases hjn : j < n
    · obtain ⟨x, hx⟩ : ∃ x, xs[j]? = some x := ⟨_, List.getElem?_eq_getElem (by rw [Hn.out]; exact hjn)⟩
      obtain ⟨y, hy⟩ : ∃ y, ys[j]? = some y := ⟨_, List.getElem?_eq_getElem (by rw [Hm.out]; exact hjn)⟩
      obtain ⟨b, off, ka, kc, va, vc, rfl, hb, hit⟩ := HP.out.its.at hx
      obtain ⟨c, og, la, lc, ua, uc, rfl, hc, hiu⟩ := HQ.out.its.at hy
      have HEI := Lib.hid fun w1 (h : Below w.heap.size w w1) => show Calls Try.prog 60 #[.agg (itc x ka kc va vc), .agg (itc y la lc ua uc)] w1 fun e w' => e = .returned (.bool (decide (x = y))) ∧ Below w1.heap.size w1 w' from
        eqItem_any x y ka kc va vc la lc ua uc w.heap.size w1 h.size (hit.k.below h) (hit.v.below h) (hiu.k.below h) (hiu.v.below h)
      have h1 := hit.below hb hT.bel
      have h2 := hiu.below hc hT.bel
      have i0 := h1.c0
      have i1 := h1.c1
      have i2 := h1.c2
      have i3 := h1.c3
      have u0 := h2.c0
      have u1 := h2.c1
      have u2 := h2.c2
      have u3 := h2.c3
      have hnb : n ≤ 9223372036854775807 := by rw [← Hn.out]; exact HP.out.len
      have hj1 : (j : Int) < (n : Int) := by omega
      have HE := Lib.hid hE
      have Hx := Lib.hid hx
      have Hy := Lib.hid hy
      have HT2 := Lib.hid hT
      have HJ := Lib.hid hjn
      clear h1 h2 hit hiu hE hx hy hT
      by_cases hxy : x = y
      · rw [decide_eq_true hxy] at HEI
        have HXY := Lib.hid hxy
        clear hxy
        obtain ⟨xk, xv, xc, xz⟩ := x
        obtain ⟨yk, yv, yc, yz⟩ := y
        simp only [itc] at HEI i0 i1 i2 i3 u0 u1 u2 u3
        go_wp2_with fail
        go_still_tail 10, (by kernel_rfl)
        change wpList _ _ _ _ _ (World.drew _)
        go_wp2_with fail
        refine (HEI.out _ (HT2.out.drN 1).bel).mono ?_
        rintro _ w2 ⟨rfl, hB2⟩
        have HT3 := Lib.hid ((HT2.out.drN 1).below hB2)
        clear hB2
        go_wp2_with fail
        go_roundw
        case rel =>
          refine ⟨j + 1, by rw [Hn.out]; exact HJ.out, by go_num, fun q hq => ?_, HT3.out⟩
          rcases Nat.lt_succ_iff_lt_or_eq.1 hq with h | rfl
          · exact HE.out q h
          · rw [Hx.out, Hy.out, HXY.out]
        case measure => exact meas_succ' HJ.out
      · rw [decide_eq_false hxy] at HEI
        have HN := Lib.hid (show decide (xs = ys) = false by
          rw [decide_eq_false_iff_not]; rintro rfl
          have := Hx.out; rw [Hy.out] at this; exact hxy (Option.some.inj this).symm)
        clear hxy
        obtain ⟨xk, xv, xc, xz⟩ := x
        obtain ⟨yk, yv, yc, yz⟩ := y
        simp only [itc] at HEI i0 i1 i2 i3 u0 u1 u2 u3
        go_wp2_with fail
        go_still_tail 10, (by kernel_rfl)
        change wpList _ _ _ _ _ (World.drew _)
        go_wp2_with fail
        refine (HEI.out _ (HT2.out.drN 1).bel).mono ?_
        rintro _ w2 ⟨rfl, hB2⟩
        have HT3 := Lib.hid ((HT2.out.drN 1).below hB2)
        clear hB2
        go_wp2_with fail
        go_ret
        exact ⟨by rw [HF.out, HN.out]; rfl, HT3.out.bel⟩
    · have hqe : xs = ys := by
        apply List.ext_getElem?
        intro q
        by_cases hq : q < j
        · exact hE q hq
        · rw [List.getElem?_eq_none (by rw [Hn.out]; omega), List.getElem?_eq_none (by rw [Hm.out]; omega)]
      have HQE := Lib.hid hqe
      have HT2 := Lib.hid hT
      clear hqe hE hT
      go_wp2_with fail
      go_ret
      exact ⟨by rw [HF.out, decide_eq_true HQE.out]; rfl, HT2.out.bel⟩
end Go.Proofs.Ytkjgncmbhkhbnaa
