/- EqItem, EqPage, EqInts. EqPage. -/
import Derived.Test.YtkjgncmbhkhbnaaPKid
import Derived.StillTailTactics
namespace Go.Proofs.Ytkjgncmbhkhbnaa
open Go.RowKit
set_option linter.unusedVariables false
set_option maxRecDepth 100000

/-- two boxes, one behind the other -/
structure TwoB (w0 : World) (o1 o2 : Obj) (w : World) : Prop where
  b1 : w.heap[w0.heap.size]? = some o1
  b2 : w.heap[w0.heap.size + 1]? = some o2
  bel : Below w0.heap.size w0 w
theorem TwoB.start (w0 : World) (o1 o2 : Obj) : TwoB w0 o1 o2 ((w0.alloc o1).alloc o2) := by
  have hs : (w0.alloc o1).heap.size = w0.heap.size + 1 := by simp
  refine ⟨?_, ?_, two_below _ _ _⟩
  · rw [(one_below (w0.alloc o1) o2).block _ (by omega)]; exact heap_alloc_new _ _
  · rw [← hs]; exact heap_alloc_new _ _
theorem TwoB.below {w0 : World} {o1 o2 : Obj} {w w' : World} (h : TwoB w0 o1 o2 w) (hb : Below w.heap.size w w') : TwoB w0 o1 o2 w' :=
  ⟨(hb.block _ (rlt_of_heapP h.b1)).trans h.b1, (hb.block _ (rlt_of_heapP h.b2)).trans h.b2, h.bel.trans (hb.mono h.bel.size)⟩
theorem TwoB.drN {w0 : World} {o1 o2 : Obj} {w : World} (h : TwoB w0 o1 o2 w) (n : Nat) : TwoB w0 o1 o2 (w.drewN n) := h.below (below_drewN (Below.refl _ _) n)
/-- what an Eq.. answers -/
def EqA {α : Type} [DecidableEq α] (x y : α) (w : World) (e : Ending) (w' : World) : Prop := e = .returned (.bool (decide (x = y))) ∧ Below w.heap.size w w'

set_option maxHeartbeats 1000000 in
theorem eqItem_any (x y : PI) (ka : Option Addr) (kc : Nat) (va : Option Addr) (vc : Nat) (la : Option Addr) (lc : Nat) (ua : Option Addr) (uc : Nat) (B : Nat) (w : World) (hB : B ≤ w.heap.size) (h1 : Sl B w ka kc x.key) (h2 : Sl B w va vc x.value) (h3 : Sl B w la lc y.key) (h4 : Sl B w ua uc y.value) :
    Calls Try.prog 60 #[.agg (itc x ka kc va vc), .agg (itc y la lc ua uc)] w (EqA x y w) := by
  have HK := Lib.hid fun w1 (h : Below w.heap.size w w1) => show Calls Try.prog 30 #[.slice ka x.key.length kc, .slice la y.key.length lc] w1 fun e w' => e = .returned (.bool (decide (x.key = y.key))) ∧ Below w1.heap.size w1 w' from
    eqBytes_any x.key y.key ka la kc lc (Nat.le_trans h1.2.2.1 (by decide)) (Nat.le_trans h3.2.2.1 (by decide)) w1 (h1.below (h.mono hB)).1 (h3.below (h.mono hB)).1
  have HV := Lib.hid fun w1 (h : Below w.heap.size w w1) => show Calls Try.prog 30 #[.slice va x.value.length vc, .slice ua y.value.length uc] w1 fun e w' => e = .returned (.bool (decide (x.value = y.value))) ∧ Below w1.heap.size w1 w' from
    eqBytes_any x.value y.value va ua vc uc (Nat.le_trans h2.2.2.1 (by decide)) (Nat.le_trans h4.2.2.1 (by decide)) w1 (h2.below (h.mono hB)).1 (h4.below (h.mono hB)).1
  clear h1 h2 h3 h4
  obtain ⟨xk, xv, xc, xs⟩ := x
  obtain ⟨yk, yv, yc, ys⟩ := y
  simp only [itc] at HK HV ⊢
  have HT := Lib.hid (TwoB.start w (.cells #[.slice ka xk.length kc, .slice va xv.length vc, .int .i64 xc, .int .i64 xs] 64) (.cells #[.slice la yk.length lc, .slice ua yv.length uc, .int .i64 yc, .int .i64 ys] 64))
  unfold EqA
  by_cases e1 : xc = yc
  rotate_left
  · have HF := Lib.hid (show decide ((⟨xk, xv, xc, xs⟩ : PI) = ⟨yk, yv, yc, ys⟩) = false by simp [e1])
    have d1 : (xc == yc) = false := by rw [beq_eq_false_iff_ne]; exact e1
    go_enter Try.func60, Try.ntmps60
    go_wp2_with fail
    go_ret
    exact ⟨by rw [HF.out]; rfl, HT.out.bel⟩
  subst e1
  by_cases e2 : xs = ys
  rotate_left
  · have HF := Lib.hid (show decide ((⟨xk, xv, xc, xs⟩ : PI) = ⟨yk, yv, xc, ys⟩) = false by simp [e2])
    have d2 : (xs == ys) = false := by rw [beq_eq_false_iff_ne]; exact e2
    go_enter Try.func60, Try.ntmps60
    go_wp2_with fail
    go_ret
    exact ⟨by rw [HF.out]; rfl, HT.out.bel⟩
  subst e2
  by_cases e3 : xk = yk
  rotate_left
  · have HF := Lib.hid (show decide ((⟨xk, xv, xc, xs⟩ : PI) = ⟨yk, yv, xc, xs⟩) = false by simp [e3])
    rw [decide_eq_false e3] at HK
    clear e3
    go_enter Try.func60, Try.ntmps60
    go_wp2_with fail
    refine (HK.out _ HT.out.bel).mono ?_
    rintro _ w1 ⟨rfl, hB1⟩
    have HT1 := Lib.hid (HT.out.below hB1)
    clear hB1
    go_wp2_with fail
    go_ret
    exact ⟨by rw [HF.out]; rfl, HT1.out.bel⟩
  have HF := Lib.hid (show decide ((⟨xk, xv, xc, xs⟩ : PI) = ⟨yk, yv, xc, xs⟩) = decide (xv = yv) by rw [e3]; simp)
  rw [decide_eq_true e3] at HK
  clear e3
  generalize decide (xv = yv) = q at HV HF
  go_enter Try.func60, Try.ntmps60
  go_wp2_with fail
  refine (HK.out _ HT.out.bel).mono ?_
  rintro _ w1 ⟨rfl, hB1⟩
  have HT1 := Lib.hid (HT.out.below hB1)
  obtain ⟨a0, a1, a2, a3⟩ := cells4P HT1.out.b1
  obtain ⟨b0, b1, b2, b3⟩ := cells4P HT1.out.b2
  clear hB1
  go_wp2_with fail
  refine (HV.out _ HT1.out.bel).mono ?_
  rintro _ w2 ⟨rfl, hB2⟩
  have HT2 := Lib.hid (HT1.out.below hB2)
  clear hB2 a0 a1 a2 a3 b0 b1 b2 b3
  go_wp2_with fail
  all_goals
    go_ret
    exact ⟨by rw [HF.out]; rfl, HT2.out.bel⟩

/-- a list of numbers that is read -/
def Nts (w : World) (a : Option Addr) (l : List Int) : Prop := l = [] ∨ ∃ b off, a = some ⟨b, off, none⟩ ∧ b < w.heap.size ∧ ∀ i, i < l.length → w.cell? ⟨b, off + i, none⟩ = some (.int .i64 (l.getD i 0))
theorem Nts.below {w w' : World} {a : Option Addr} {l : List Int} (h : Nts w a l) (hb : Below w.heap.size w w') : Nts w' a l := by
  rcases h with h | ⟨b, off, h1, h2, h3⟩
  · exact .inl h
  · exact .inr ⟨b, off, h1, Nat.lt_of_lt_of_le h2 hb.size, fun i hi => (hb.cell (p := ⟨b, off + i, none⟩) h2).trans (h3 i hi)⟩
theorem Nts.at {w : World} {a : Option Addr} {l : List Int} (h : Nts w a l) {k : Nat} (hk : k < l.length) : ∃ b off, a = some ⟨b, off, none⟩ ∧ b < w.heap.size ∧ w.cell? ⟨b, off + k, none⟩ = some (.int .i64 (l.getD k 0)) := by
  rcases h with rfl | ⟨b, off, h1, h2, h3⟩
  · simp at hk
  · exact ⟨b, off, h1, h2, h3 k hk⟩
theorem ON.nts {w : World} {oa : Option Addr} {cap : Nat} {l : List Int} (h : ON w oa cap l) : Nts w oa l := by
  rcases (OR.form h).2 with ⟨_, _, h0, _⟩ | ⟨g, rfl, hg, _⟩
  · exact .inl (List.length_eq_zero_iff.1 h0)
  · refine .inr ⟨g, 0, rfl, hg, fun i hi => ?_⟩
    have hc : (cellsN l)[i]? = some (.int .i64 (l.getD i 0)) := by
      simp [cellsN, List.getElem?_map, List.getElem?_eq_getElem hi, List.getD_eq_getElem?_getD]
    obtain ⟨g', he, hcell, _⟩ := OR.cell h hc
    cases he
    rw [Nat.zero_add]; exact hcell
def RelN (w0 : World) (xs ys : List Int) (i : Value) (wr : World) : Prop := ∃ k d : Nat, k ≤ xs.length ∧ i = .int .i64 k ∧ (∀ j, j < k → xs[j]? = ys[j]?) ∧ wr = w0.drewN d
set_option maxHeartbeats 1000000 in
theorem eqInts_any (xs ys : List Int) (a b : Option Addr) (ca cb : Nat) (w : World) (hx : Nts w a xs) (hy : Nts w b ys) (hl : xs.length ≤ 4611686018427387904) (hm : ys.length ≤ 4611686018427387904) :
    Calls Try.prog 35 #[.slice a xs.length ca, .slice b ys.length cb] w (EqA xs ys w) := by
  unfold EqA
  obtain ⟨n, hn⟩ : ∃ n, xs.length = n := ⟨_, rfl⟩
  obtain ⟨m, hmm⟩ : ∃ m, ys.length = m := ⟨_, rfl⟩
  have Hn := Lib.hid hn
  have Hm := Lib.hid hmm
  rw [hn] at hl ⊢
  rw [hmm] at hm ⊢
  by_cases hnm : n = m
  · subst hnm
    have Hx := Lib.hid hx
    have Hy := Lib.hid hy
    clear hn hmm hx hy
    go_enter Try.func35, Try.ntmps35
    go_wp2_with fail
    go_loopw [5] (fun i wr => RelN w xs ys i wr) (fun i _ => n - (intOf i).toNat)
    case atStart => exact ⟨0, 0, Nat.zero_le _, rfl, fun j hj => by omega, (World.drewN_zero _).symm⟩
    case round =>
      obtain ⟨k, d, hk, rfl, hE, hw⟩ := hrel
      rw [Hn.out] at hk
      by_cases hlt : k < n
      · obtain ⟨bx, ox, rfl, -, c0⟩ := (Hx.out.below (w' := wr) (by rw [hw]; exact below_drewN (Below.refl _ _) _)).at (k := k) (by rw [Hn.out]; exact hlt)
        obtain ⟨b2, oy, rfl, -, d0⟩ := (Hy.out.below (w' := wr) (by rw [hw]; exact below_drewN (Below.refl _ _) _)).at (k := k) (by rw [Hm.out]; exact hlt)
        have HE := Lib.hid hE
        have Hw := Lib.hid hw
        have HX := Lib.hid (show xs[k]? = some (xs.getD k 0) by rw [List.getD_eq_getElem?_getD, List.getElem?_eq_getElem (by rw [Hn.out]; exact hlt)]; rfl)
        have HY := Lib.hid (show ys[k]? = some (ys.getD k 0) by rw [List.getD_eq_getElem?_getD, List.getElem?_eq_getElem (by rw [Hm.out]; exact hlt)]; rfl)
        clear hE hw
        generalize xs.getD k 0 = u at c0 HX
        generalize ys.getD k 0 = v at d0 HY
        by_cases hq : u = v
        · subst hq
          go_wp2_with fail
          go_quiet (fail)
          go_wp2_with fail
          go_roundw
          case rel =>
            refine ⟨k + 1, d + nq, by rw [Hn.out]; omega, by go_num, fun j hj => ?_, by rw [Hw.out, World.drewN_drewN]⟩
            rcases Nat.lt_succ_iff_lt_or_eq.1 hj with h | rfl
            · exact HE.out j h
            · rw [HX.out, HY.out]
          case measure => simp [intOf]; omega
        · have hqd : (u != v) = true := by rw [bne_iff_ne]; exact hq
          have HN := Lib.hid (show decide (xs = ys) = false by
            rw [decide_eq_false_iff_not]; rintro rfl
            have := HX.out; rw [HY.out] at this; exact hq (Option.some.inj this).symm)
          go_wp2_with fail
          go_quiet (fail)
          go_wp2_with fail
          go_ret
          exact ⟨by rw [HN.out]; rfl, by rw [Hw.out]; exact below_drewN (below_drewN (Below.refl _ _) _) _⟩
      · have hqe : xs = ys := by
          apply List.ext_getElem?
          intro j
          by_cases hj : j < k
          · exact hE j hj
          · rw [List.getElem?_eq_none (by rw [Hn.out]; omega), List.getElem?_eq_none (by rw [Hm.out]; omega)]
        have HQ := Lib.hid hqe
        have Hw := Lib.hid hw
        clear hqe hE hw
        go_wp2_with fail
        go_ret
        exact ⟨by rw [decide_eq_true HQ.out]; rfl, by rw [Hw.out]; exact below_drewN (Below.refl _ _) _⟩
  · have hne : decide (xs = ys) = false := by
      rw [decide_eq_false_iff_not]; rintro rfl; exact hnm (hn.symm.trans hmm)
    have HN := Lib.hid hne
    have hd : ((n : Int) != (m : Int)) = true := by rw [bne_iff_ne]; omega
    clear hne hn hmm hx hy
    go_enter Try.func35, Try.ntmps35
    go_wp2_with fail
    go_ret
    exact ⟨by rw [HN.out]; rfl, Below.refl _ _⟩
end Go.Proofs.Ytkjgncmbhkhbnaa
namespace Go.Proofs.Ytkjgncmbhkhbnaa
open Go.RowKit
set_option linter.unusedVariables false
set_option maxRecDepth 100000

def bxP (p : PP) (ia : Option Addr) (ic : Nat) (da : Option Addr) (dc : Nat) : Obj := .cells #[.int .i64 p.kind, .int .i64 p.level, .slice ia p.items.length ic, .slice da p.data.length dc, .int .i64 p.next] 27
def RelEP (w0 : World) (o1 o2 : Obj) (xs ys : List PI) (i : Value) (wr : World) : Prop := ∃ j : Nat, j ≤ xs.length ∧ i = .int .i64 j ∧ (∀ q, q < j → xs[q]? = ys[q]?) ∧ TwoB w0 o1 o2 wr

set_option maxHeartbeats 1000000 in
theorem eqPage_any (p q : PP) (ia : Option Addr) (ic : Nat) (da : Option Addr) (dc : Nat) (ja : Option Addr) (jc : Nat) (ea : Option Addr) (ec : Nat) (w : World) (hp : PgAt w.heap.size w p ia ic da dc) (hq : PgAt w.heap.size w q ja jc ea ec) :
    Calls Try.prog 33 #[pgv p ia ic da dc, pgv q ja jc ea ec] w (EqA p q w) := by
  have HP := Lib.hid hp
  have HQ := Lib.hid hq
  have HDT := Lib.hid fun w1 (h : Below w.heap.size w w1) => show Calls Try.prog 30 #[.slice da p.data.length dc, .slice ea q.data.length ec] w1 fun e w' => e = .returned (.bool (decide (p.data = q.data))) ∧ Below w1.heap.size w1 w' from
    eqBytes_any p.data q.data da ea dc ec (Nat.le_trans hp.data.2.2.1 (by decide)) (Nat.le_trans hq.data.2.2.1 (by decide)) w1 (hp.data.below h).1 (hq.data.below h).1
  have HT := Lib.hid (TwoB.start w (bxP p ia ic da dc) (bxP q ja jc ea ec))
  clear hp hq
  unfold EqA
  obtain ⟨k1, l1, xs, d1s, n1⟩ := p
  obtain ⟨k2, l2, ys, d2s, n2⟩ := q
  simp only [pgv, bxP] at HDT HT ⊢
  obtain ⟨n, hn⟩ : ∃ n, xs.length = n := ⟨_, rfl⟩
  obtain ⟨m, hm⟩ : ∃ m, ys.length = m := ⟨_, rfl⟩
  rw [hn, hm] at HT ⊢
  have Hn := Lib.hid hn
  have Hm := Lib.hid hm
  clear hn hm
  by_cases e1 : k1 = k2
  rotate_left
  · have HF := Lib.hid (show decide ((⟨k1, l1, xs, d1s, n1⟩ : PP) = ⟨k2, l2, ys, d2s, n2⟩) = false by simp [e1])
    have d1 : (k1 != k2) = true := by rw [bne_iff_ne]; exact e1
    go_enter Try.func33, Try.ntmps33
    have hT := HT.out
    obtain ⟨a0, a1, a2, a3, a4⟩ := cells5 hT.b1
    obtain ⟨b0, b1, b2, b3, b4⟩ := cells5 hT.b2
    go_wp2_with fail
    go_ret
    exact ⟨by rw [HF.out]; rfl, hT.bel⟩
  subst e1
  by_cases e2 : l1 = l2
  rotate_left
  · have HF := Lib.hid (show decide ((⟨k1, l1, xs, d1s, n1⟩ : PP) = ⟨k1, l2, ys, d2s, n2⟩) = false by simp [e2])
    have d1 : (l1 != l2) = true := by rw [bne_iff_ne]; exact e2
    go_enter Try.func33, Try.ntmps33
    have hT := HT.out
    obtain ⟨a0, a1, a2, a3, a4⟩ := cells5 hT.b1
    obtain ⟨b0, b1, b2, b3, b4⟩ := cells5 hT.b2
    go_wp2_with fail
    go_ret
    exact ⟨by rw [HF.out]; rfl, hT.bel⟩
  subst e2
  by_cases e3 : n1 = n2
  rotate_left
  · have HF := Lib.hid (show decide ((⟨k1, l1, xs, d1s, n1⟩ : PP) = ⟨k1, l1, ys, d2s, n2⟩) = false by simp [e3])
    have d1 : (n1 != n2) = true := by rw [bne_iff_ne]; exact e3
    go_enter Try.func33, Try.ntmps33
    have hT := HT.out
    obtain ⟨a0, a1, a2, a3, a4⟩ := cells5 hT.b1
    obtain ⟨b0, b1, b2, b3, b4⟩ := cells5 hT.b2
    go_wp2_with fail
    go_ret
    exact ⟨by rw [HF.out]; rfl, hT.bel⟩
  subst e3
  by_cases e4 : n = m
  rotate_left
  · have HF := Lib.hid (show decide ((⟨k1, l1, xs, d1s, n1⟩ : PP) = ⟨k1, l1, ys, d2s, n1⟩) = false by
      rw [decide_eq_false_iff_not]; intro h; injection h with _ _ h; exact e4 (by rw [← Hn.out, ← Hm.out, h]))
    have d1 : ((n : Int) != (m : Int)) = true := by rw [bne_iff_ne]; omega
    go_enter Try.func33, Try.ntmps33
    have hT := HT.out
    obtain ⟨a0, a1, a2, a3, a4⟩ := cells5 hT.b1
    obtain ⟨b0, b1, b2, b3, b4⟩ := cells5 hT.b2
    go_wp2_with fail
    go_ret
    exact ⟨by rw [HF.out]; rfl, hT.bel⟩
  subst e4
  by_cases e5 : d1s = d2s
  rotate_left
  · have HF := Lib.hid (show decide ((⟨k1, l1, xs, d1s, n1⟩ : PP) = ⟨k1, l1, ys, d2s, n1⟩) = false by simp [e5])
    rw [decide_eq_false e5] at HDT
    clear e5
    go_enter Try.func33, Try.ntmps33
    have hT := HT.out
    obtain ⟨a0, a1, a2, a3, a4⟩ := cells5 hT.b1
    obtain ⟨b0, b1, b2, b3, b4⟩ := cells5 hT.b2
    go_wp2_with fail
    refine (HDT.out _ hT.bel).mono ?_
    rintro _ w1 ⟨rfl, hB1⟩
    have HT1 := Lib.hid (hT.below hB1)
    clear hB1 a0 a1 a2 a3 a4 b0 b1 b2 b3 b4
    go_wp2_with fail
    go_ret
    exact ⟨by rw [HF.out]; rfl, HT1.out.bel⟩
  have HF := Lib.hid (show decide ((⟨k1, l1, xs, d1s, n1⟩ : PP) = ⟨k1, l1, ys, d2s, n1⟩) = decide (xs = ys) by rw [e5]; simp)
  rw [decide_eq_true e5] at HDT
  clear e5
  go_enter Try.func33, Try.ntmps33
  have hT := HT.out
  obtain ⟨a0, a1, a2, a3, a4⟩ := cells5 hT.b1
  obtain ⟨b0, b1, b2, b3, b4⟩ := cells5 hT.b2
  go_wp2_with fail
  refine (HDT.out _ hT.bel).mono ?_
  rintro _ w1 ⟨rfl, hB1⟩
  have HT1 := Lib.hid (hT.below hB1)
  clear hB1 a0 a1 a2 a3 a4 b0 b1 b2 b3 b4 hT
  go_wp2_with fail
  go_loopw [5] (fun i wr => RelEP w (.cells #[.int .i64 k1, .int .i64 l1, .slice ia n ic, .slice da d1s.length dc, .int .i64 n1] 27) (.cells #[.int .i64 k1, .int .i64 l1, .slice ja n jc, .slice ea d2s.length ec, .int .i64 n1] 27) xs ys i wr) (fun i _ => n - (intOf i).toNat)
  case atStart => exact ⟨0, Nat.zero_le _, rfl, fun q hq => by omega, HT1.out⟩
  case round =>
    clear HT1
    obtain ⟨j, hj, rfl, hE, hT⟩ := hrel
    rw [Hn.out] at hj
    obtain ⟨a0, a1, a2, a3, a4⟩ := cells5 hT.b1
    obtain ⟨b0, b1, b2, b3, b4⟩ := cells5 hT.b2
    by_cases hjn : j < n
    · obtain ⟨x, hx⟩ : ∃ x, xs[j]? = some x := ⟨_, List.getElem?_eq_getElem (by rw [Hn.out]; exact hjn)⟩
      obtain ⟨y, hy⟩ : ∃ y, ys[j]? = some y := ⟨_, List.getElem?_eq_getElem (by rw [Hm.out]; exact hjn)⟩
      obtain ⟨b, off, ka, kc, va, vc, rfl, hb, hit⟩ := HP.out.its.at hx
      obtain ⟨c, og, la, lc, ua, uc, rfl, hc, hiu⟩ := HQ.out.its.at hy
      have HEI := Lib.hid fun w1 (h : Below w.heap.size w w1) => show Calls Try.prog 60 #[.agg (itc x ka kc va vc), .agg (itc y la lc ua uc)] w1 fun e w' => e = .returned (.bool (decide (x = y))) ∧ Below w1.heap.size w1 w' from
        eqItem_any x y ka kc va vc la lc ua uc w.heap.size w1 h.size (hit.k.below h) (hit.v.below h) (hiu.k.below h) (hiu.v.below h)
      have h1 := hit.below hb hT.bel
      have h2 := hiu.below hc hT.bel
      have i0 := h1.c0
      have i1 := h1.c1
      have i2 := h1.c2
      have i3 := h1.c3
      have u0 := h2.c0
      have u1 := h2.c1
      have u2 := h2.c2
      have u3 := h2.c3
      have hnb : n ≤ 9223372036854775807 := by rw [← Hn.out]; exact HP.out.len
      have hj1 : (j : Int) < (n : Int) := by omega
      have HE := Lib.hid hE
      have Hx := Lib.hid hx
      have Hy := Lib.hid hy
      have HT2 := Lib.hid hT
      have HJ := Lib.hid hjn
      clear h1 h2 hit hiu hE hx hy hT
      by_cases hxy : x = y
      · rw [decide_eq_true hxy] at HEI
        have HXY := Lib.hid hxy
        clear hxy
        obtain ⟨xk, xv, xc, xz⟩ := x
        obtain ⟨yk, yv, yc, yz⟩ := y
        simp only [itc] at HEI i0 i1 i2 i3 u0 u1 u2 u3
        go_wp2_with fail
        go_still_tail 10, (by kernel_rfl)
        change wpList _ _ _ _ _ (World.drew _)
        go_wp2_with fail
        refine (HEI.out _ (HT2.out.drN 1).bel).mono ?_
        rintro _ w2 ⟨rfl, hB2⟩
        have HT3 := Lib.hid ((HT2.out.drN 1).below hB2)
        clear hB2
        go_wp2_with fail
        go_roundw
        case rel =>
          refine ⟨j + 1, by rw [Hn.out]; exact HJ.out, by go_num, fun q hq => ?_, HT3.out⟩
          rcases Nat.lt_succ_iff_lt_or_eq.1 hq with h | rfl
          · exact HE.out q h
          · rw [Hx.out, Hy.out, HXY.out]
        case measure => exact meas_succ' HJ.out
      · rw [decide_eq_false hxy] at HEI
        have HN := Lib.hid (show decide (xs = ys) = false by
          rw [decide_eq_false_iff_not]; rintro rfl
          have := Hx.out; rw [Hy.out] at this; exact hxy (Option.some.inj this).symm)
        clear hxy
        obtain ⟨xk, xv, xc, xz⟩ := x
        obtain ⟨yk, yv, yc, yz⟩ := y
        simp only [itc] at HEI i0 i1 i2 i3 u0 u1 u2 u3
        go_wp2_with fail
        go_still_tail 10, (by kernel_rfl)
        change wpList _ _ _ _ _ (World.drew _)
        go_wp2_with fail
        refine (HEI.out _ (HT2.out.drN 1).bel).mono ?_
        rintro _ w2 ⟨rfl, hB2⟩
        have HT3 := Lib.hid ((HT2.out.drN 1).below hB2)
        clear hB2
        go_wp2_with fail
        go_ret
        exact ⟨by rw [HF.out, HN.out]; rfl, HT3.out.bel⟩
    · have hqe : xs = ys := by
        apply List.ext_getElem?
        intro q
        by_cases hq : q < j
        · exact hE q hq
        · rw [List.getElem?_eq_none (by rw [Hn.out]; omega), List.getElem?_eq_none (by rw [Hm.out]; omega)]
      have HQE := Lib.hid hqe
      have HT2 := Lib.hid hT
      clear hqe hE hT
      go_wp2_with fail
      go_ret
      exact ⟨by rw [HF.out, decide_eq_true HQE.out]; rfl, HT2.out.bel⟩
end Go.Proofs.Ytkjgncmbhkhbnaa
