/- The walk of PageKids; how many items there can be. -/
import Derived.Test.YtkjgncmbhkhbnaaDKid
import Derived.Test.YtkjgncmbhkhbnaaPFixW
namespace Go.Proofs.Ytkjgncmbhkhbnaa
open Go.ChangeShapes Go.WideShapes Go.ChangeAt Go.RowKit
set_option linter.unusedVariables false
set_option maxRecDepth 100000

theorem bytesIt : Try.prog.bytesOf 64 = 64 := by kernel_rfl
section
variable {H : Type} {enc : TypeId × Value → H}
theorem page_few {W : World} {p : PP} {ia : Option Addr} {ic : Nat} {da : Option Addr} {dc : Nat} {d : DataW H} {q : List MemPlace}
    (h : DataW.Trod enc Try.prog W 0 (fun _ => true) true 27 (pgv p ia ic da dc) d q) (hz : ∀ n ∈ DataW.weights Try.prog 27 d, n ≤ reachBytes) : p.items.length ≤ 4000000000000 := by
  obtain ⟨fuel, hf⟩ := h
  have hf' : Rd enc Try.prog W fuel 27 [.int .i64 p.kind, .int .i64 p.level, .slice ia p.items.length ic, .slice da p.data.length dc, .int .i64 p.next] = some (d, q) := hf
  obtain ⟨m2, _, hfl⟩ := rd_fields Try.underlying27 hf'
  obtain ⟨y2, r2, w2⟩ := hfl 2 _ rfl
  have r2' : Rd enc Try.prog W m2 24 [.slice ia p.items.length ic] = some y2 := r2
  rcases rd_elems Try.underlying24 r2' with h0 | ⟨ad, len, cap, m, hc, hl, hm, ⟨el, sp, hx, hes⟩, hel⟩
  · injection h0 with _ h0 _; omega
  · injection hc with _ hc _
    have h1 := hz ((el.length + sp.length) * Try.prog.bytesOf 64) (w2 _ (by rw [hx]; simp [DataW.weights, Try.underlying24]))
    rw [hes, bytesIt] at h1
    simp only [reachBytes] at h1
    omega
end

theorem kids_right {p : PP} (h : RightP p) : (∀ x ∈ pkids p, 1 ≤ x ∧ x ≤ 65536) ∧ (p.kind = 1 → (pkids p).length ≤ 8) ∧ (p.kind = 2 → (pkids p).length = p.items.length ∧ p.items.length ≤ 8) ∧ (p.kind = 3 → (pkids p).length ≤ 1) := by
  have hk := h.kind
  have hi := h.items
  have hn := kidsN_len p.kind p.items
  have e3 : p.kind ≠ 3 → pkids p = kidsN p.kind p.items := fun g => by unfold pkids; rw [if_neg (fun x => g x.1), List.append_nil]
  refine ⟨fun x hx => ?_, fun g => ?_, fun g => ?_, fun g => ?_⟩
  · unfold pkids kidsN at hx
    rcases List.mem_append.1 hx with hx | hx
    · obtain ⟨y, hy, hxy⟩ := List.mem_flatMap.1 hx
      obtain ⟨i, hiy⟩ := List.mem_iff_getElem?.1 hy
      have hr := h.all i y hiy
      unfold kidOf at hxy
      split at hxy
      · rename_i hc
        simp at hxy
        subst hxy
        refine hr.child fun g => ?_
        rcases hc with hc | hc
        · omega
        · exact hc.2 (hr.small g.1 g.2).2
      · cases hxy
    · split at hx
      · rename_i hc
        simp at hx
        subst hx
        have := h.next
        omega
      · cases hx
  · rw [e3 (by omega)]; omega
  · rw [e3 (by omega)]
    refine ⟨?_, hi⟩
    have : ∀ xs : List PI, (kidsN p.kind xs).length = xs.length := fun xs => by
      induction xs with
      | nil => rfl
      | cons x xs ih =>
        have e : kidsN p.kind (x :: xs) = kidOf p.kind x ++ kidsN p.kind xs := rfl
        rw [e, List.length_append, ih, List.length_cons, kid_yes (.inl g)]; simp; omega
    exact this _
  · unfold pkids
    rw [(h.blob g).1]
    show (kidsN p.kind [] ++ _).length ≤ 1
    simp only [kidsN, List.flatMap_nil, List.nil_append]
    split <;> simp
def RelLk (W : World) (p : PP) (ia : Option Addr) (ic : Nat) (da : Option Addr) (dc : Nat) (oa : Option Addr) (oc : Nat) (l : List Int) (i : Value) (wr : World) : Prop := ∃ j : Nat, j ≤ l.length ∧ i = .int .i64 j ∧ DB W p ia ic da dc wr ∧ ON wr oa oc l

set_option maxHeartbeats 1000000 in
theorem pageKids_walk (p : PP) (ia : Option Addr) (ic : Nat) (da : Option Addr) (dc : Nat) (W : World) (hp : PgAt W.heap.size W p ia ic da dc) (hfew : p.items.length ≤ 4000000000000) :
    Calls Try.prog 10 #[pgv p ia ic da dc] W fun e W' => e = .returned (.bool true) ∧ Below W.heap.size W W' := by
  have HD := Lib.hid (DB.start W p ia ic da dc)
  have HC := Lib.hid fun w1 (h : Below W.heap.size W w1) => show Calls Try.prog 26 #[pgv p ia ic da dc] w1 fun e w' => e = .returned (.int .i64 (pcheck p)) ∧ Below w1.heap.size w1 w' from pCheck_any p ia ic da dc w1 ((hp.below h).mono h.size)
  have HK := Lib.hid fun w1 (h : Below W.heap.size W w1) => pKids_any p ia ic da dc w1 ((hp.below h).mono h.size) hfew
  have HJ := Lib.hid fun w1 (h : Below W.heap.size W w1) => dKids_any p ia ic da dc w1 ((hp.below h).mono h.size) hfew
  unfold KidsP at HK HJ
  have hkr : pcheck p = 0 → RightP p := pcheck_right
  have hkk := fun h => kids_right (p := p) h
  have hll : (pkids p).length ≤ 4611686018427387904 := by
    have := kidsN_len p.kind p.items
    unfold pkids; rw [List.length_append]; split <;> simp <;> omega
  generalize pkids p = l at HK HJ hkk hll
  obtain ⟨kd, lv, its, ds, nx⟩ := p
  simp only [pgv] at HD HC HK HJ ⊢
  obtain ⟨il, hil⟩ : ∃ il, its.length = il := ⟨_, rfl⟩
  obtain ⟨dl, hdl⟩ : ∃ dl, ds.length = dl := ⟨_, rfl⟩
  rw [hil, hdl] at HD HC HK HJ ⊢
  have HIL := Lib.hid hil
  have HDL := Lib.hid hdl
  have hkr' := fun h => hkk (hkr h)
  have hkd : pcheck ⟨kd, lv, its, ds, nx⟩ = 0 → 1 ≤ kd ∧ kd ≤ 3 := fun h => (hkr h).kind
  have hk2 : pcheck ⟨kd, lv, its, ds, nx⟩ = 0 → kd = 2 → 2 ≤ its.length := fun h g => by
    unfold pcheck at h
    by_cases hf : okForm kd lv its.length ds.length nx = false
    · rw [if_neg (by show ¬ (kd < 1 ∨ 3 < kd); omega), if_pos hf] at h; cases h
    · subst g
      simp [okForm] at hf
      omega
  clear hp hil hdl hkr hkk hfew
  obtain ⟨m, hm⟩ : ∃ m, l.length = m := ⟨_, rfl⟩
  rw [hm] at HK HJ
  have hmb : m ≤ 4611686018427387904 := hm ▸ hll
  have HM := Lib.hid hm
  go_enter Try.func10, Try.ntmps10
  go_wp2_with fail
  generalize W.alloc (.cells #[.int .i64 kd, .int .i64 lv, .slice ia il ic, .slice da dl dc, .int .i64 nx] 27) = w0 at HD ⊢
  refine (fixed_any _).mono ?_
  rintro _ w1 ⟨rfl, hb1⟩
  have hD := HD.out.below hb1
  clear hb1 HD
  obtain ⟨c0, c1, c2, c3, c4⟩ := cells5 hD.box
  simp only [] at c0 c1 c2 c3 c4
  rw [HIL.out] at c2
  rw [HDL.out] at c3
  have HKw := Lib.hid (HK.out w1 hD.bel)
  have HDx := Lib.hid hD
  clear hD HK
  go_wp2_with fail
  refine HKw.out.mono ?_
  rintro _ w2 ⟨oa, oc, rfl, hO, -, hb2⟩
  have HD2 := Lib.hid (HDx.out.below hb2)
  have HJw := Lib.hid (HJ.out w2 HD2.out.bel)
  have HO2 := Lib.hid hO
  clear hb2 hO c0 c1 c2 c3 c4 HKw HDx HJ
  obtain ⟨c0, c1, c2, c3, c4⟩ := cells5 HD2.out.box
  simp only [] at c0 c1 c2 c3 c4
  rw [HIL.out] at c2
  rw [HDL.out] at c3
  go_wp2_with fail
  refine HJw.out.mono ?_
  rintro _ w3 ⟨ob, od, rfl, hO3, -, hb3⟩
  have HD3 := Lib.hid (HD2.out.below hb3)
  have hO2 : ON w3 oa oc l := OR.chg HO2.out (F := fun _ => False) (Chg.of_below hb3) (fun _ _ f => f)
  have HE := Lib.hid (eqInts_any l l oa ob oc od w3 hO2.nts (ON.nts hO3) hll hll)
  unfold EqA at HE
  rw [HM.out] at HE
  simp only [decide_true] at HE
  have HO3 := Lib.hid hO2
  clear hb3 hO3 hO2 c0 c1 c2 c3 c4 HJw HD2 HO2
  go_wp2_with fail
  refine HE.out.mono ?_
  rintro _ w4 ⟨rfl, hb4⟩
  have HD4 := Lib.hid (HD3.out.below hb4)
  have HO4 := Lib.hid (show ON w4 oa oc l from OR.chg HO3.out (F := fun _ => False) (Chg.of_below hb4) (fun _ _ f => f))
  have HCw := Lib.hid (HC.out w4 HD4.out.bel)
  clear hb4 HE HD3 HO3 HC
  obtain ⟨c0, c1, c2, c3, c4⟩ := cells5 HD4.out.box
  simp only [] at c0 c1 c2 c3 c4
  rw [HIL.out] at c2
  rw [HDL.out] at c3
  by_cases hck : pcheck ⟨kd, lv, its, ds, nx⟩ = 0
  · obtain ⟨r1, r2, r3, r4⟩ := hkr' hck
    obtain ⟨d1, d2⟩ := hkd hck
    have r5 := hk2 hck
    rw [hck] at HCw
    rw [HIL.out] at r5
    simp only [HIL.out, HM.out] at r2 r3 r4
    have HR1 := Lib.hid r1
    have HR2 := Lib.hid r2
    have HR3 := Lib.hid r3
    have HR4 := Lib.hid r4
    have HR5 := Lib.hid r5
    clear hkr' hkd hk2 hck r1 r2 r3 r4 r5 hm
    go_wp2_with fail
    refine HCw.out.mono ?_
    rintro _ w5 ⟨rfl, hb5⟩
    have HD5 := Lib.hid (HD4.out.below hb5)
    have HO5 := Lib.hid (show ON w5 oa oc l from OR.chg HO4.out (F := fun _ => False) (Chg.of_below hb5) (fun _ _ f => f))
    clear hb5 HCw HD4 HO4 c0 c1 c2 c3 c4
    go_wp2_with fail
    go_loopw [4] (fun i wr => RelLk W ⟨kd, lv, its, ds, nx⟩ ia ic da dc oa oc l i wr) (fun i _ => m - (intOf i).toNat)
    case atStart => exact ⟨0, Nat.zero_le _, rfl, HD5.out, HO5.out⟩
    case round =>
      clear HD5 HO5
      obtain ⟨j, hj, rfl, hD, hO⟩ := hrel
      rw [HM.out] at hj
      have HDy := Lib.hid hD
      have HOy := Lib.hid hO
      clear hD hO
      by_cases hjm : j < m
      · obtain ⟨b, off, rfl, -, hc⟩ := HOy.out.nts.at (k := j) (by rw [HM.out]; exact hjm)
        have hx := HR1.out (l.getD j 0) (by rw [List.getD_eq_getElem?_getD, List.getElem?_eq_getElem (by rw [HM.out]; exact hjm)]; exact List.getElem_mem _)
        generalize l.getD j 0 = x at hc hx
        obtain ⟨hx1, hx2⟩ := hx
        have hx3 : ¬ x < 1 := by omega
        have hx4 : ¬ 65536 < x := by omega
        have hj1 : (j : Int) < (m : Int) := by omega
        have HJm := Lib.hid hjm
        go_wp2_with fail
        go_roundw
        case rel => exact ⟨j + 1, by rw [HM.out]; exact HJm.out, by go_num, HDy.out, HOy.out⟩
        case measure => exact meas_succ' HJm.out
      · obtain ⟨c0, c1, c2, c3, c4⟩ := cells5 HDy.out.box
        simp only [] at c0 c1 c2 c3 c4
        rw [HIL.out] at c2
        rw [HDL.out] at c3
        have hkc : kd = 1 ∨ kd = 2 ∨ kd = 3 := by omega
        rcases hkc with rfl | rfl | rfl
        · have h8 := HR2.out rfl
          have h8I : (m : Int) ≤ 8 := by omega
          go_wp2_with fail
          go_ret
          exact ⟨rfl, HDy.out.bel⟩
        · obtain ⟨h7, h8⟩ := HR3.out rfl
          have h9 := HR5.out rfl
          have h8I : (m : Int) ≤ 8 := by omega
          have h9I : (2 : Int) ≤ (m : Int) := by omega
          clear h7 h8 h9
          go_wp2_with fail
          go_ret
          exact ⟨rfl, HDy.out.bel⟩
        · have h8 := HR4.out rfl
          have h8I : (m : Int) ≤ 1 := by omega
          go_wp2_with fail
          go_ret
          exact ⟨rfl, HDy.out.bel⟩
  · generalize pcheck ⟨kd, lv, its, ds, nx⟩ = ec at HCw hck
    have hce : (ec != 0) = true := by rw [bne_iff_ne]; exact hck
    clear hkr' hkd hk2 hck hm
    go_wp2_with fail
    refine HCw.out.mono ?_
    rintro _ w5 ⟨rfl, hb5⟩
    have HD5 := Lib.hid (HD4.out.below hb5)
    clear hb5 HCw HD4 HO4 c0 c1 c2 c3 c4
    go_wp2_with fail
    go_ret
    exact ⟨rfl, HD5.out.bel⟩
end Go.Proofs.Ytkjgncmbhkhbnaa
