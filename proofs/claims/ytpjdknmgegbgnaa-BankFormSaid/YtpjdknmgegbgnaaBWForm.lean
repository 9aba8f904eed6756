/- The walk of BankForm. -/
import Derived.Test.YtpjdknmgegbgnaaBkArg
namespace Go.Proofs.Ytpjdknmgegbgnaa
open Go.RowKit
set_option linter.unusedVariables false
set_option maxRecDepth 100000

theorem bblock_may {gen pages i : Int} {bs : List UInt8} {l : List Nat} (h : bblock gen pages i bs = (0, l)) : mayB gen pages i ∧ bread gen.toNat pages.toNat i.toNat bs = (0, l) := by
  unfold bblock at h
  split at h
  · rename_i h1; exact ⟨h1, h⟩
  · cases h
def RelF1 (W : World) (g n : Nat) (v : Value) (wr : World) : Prop := ∃ (k : Nat) (cs : List Int), k ≤ n ∧ v = .int .i64 k ∧ cs.length = n ∧ ON wr (some ⟨g, 0, none⟩) n cs ∧ okL cs ∧ Below W.heap.size W wr
def RelF2 (W : World) (g n fr m : Nat) (l : List Nat) (v : Value) (wr : World) : Prop := ∃ (k : Nat) (cs : List Int), k ≤ m ∧ v = .int .i64 k ∧ cs.length = n ∧ ON wr (some ⟨g, 0, none⟩) n cs ∧ okL cs ∧ (∀ j, j < k → cs[fr + j]? = (ints l)[j]?) ∧ Below W.heap.size W wr
theorem part_of {cs : List Int} {i n : Nat} {l : List Nat} (hn : cs.length = n) (hl : l.length = inBlk n i) (h : ∀ j, j < l.length → cs[i * 240 + j]? = (ints l)[j]?) : part (cs.map Int.toNat) i = l := by
  apply List.ext_getElem?
  intro j
  by_cases hj : j < l.length
  · have h1 := h j hj
    unfold part
    have h240 := inBlk_le n i
    rw [List.getElem?_take_of_lt (by omega), List.getElem?_drop, List.getElem?_map, h1]
    simp [ints, List.getElem?_eq_getElem hj]
  · rw [List.getElem?_eq_none (by rw [part_length, List.length_map, hn, ← hl]; omega), List.getElem?_eq_none (by omega)]
theorem okC_mod (k : Nat) : okC ((k : Int) % 7) := by unfold okC; omega
set_option maxHeartbeats 2000000 in
theorem bankForm_bts (gen pages i : Int) (a : Option Addr) (cap : Nat) (bs : List UInt8) (W : World) (hp : pages ≤ 9223372036854775807) (hcap : bs.length ≤ cap) (hll : bs.length ≤ 140737488355328) (hb : Bts W a bs) :
    Calls Try.prog 6 #[.int .i64 gen, .int .i64 pages, .int .i64 i, .slice a bs.length cap] W fun e w' => e = .returned (.bool true) ∧ Below W.heap.size W w' := by
  have HBK := Lib.hid fun w1 (h : Below W.heap.size W w1) => blockB_any gen pages i a cap bs w1 hp hcap hll (hb.below h)
  unfold BlkP at HBK
  obtain ⟨⟨e, l⟩, hr⟩ : ∃ r, bblock gen pages i bs = r := ⟨_, rfl⟩
  rw [hr] at HBK
  simp only at HBK
  by_cases he : e = 0
  rotate_left
  · have hed : (e != 0) = true := by rw [bne_iff_ne]; exact he
    generalize bs.length = bl at *
    generalize l.length = ln at *
    clear hr he hb
    go_enter Try.func6, Try.ntmps6
    go_wp2_with fail
    refine (works_any _).mono ?_
    rintro _ w1 ⟨rfl, hb1⟩
    go_wp2_with fail
    refine (HBK.out _ hb1).mono ?_
    rintro _ w2 ⟨oa, oc, rfl, -, -, hb2⟩
    have HB2 := Lib.hid (hb1.trans (hb2.mono hb1.size))
    clear hb1 hb2
    go_wp2_with fail
    go_ret
    exact ⟨rfl, HB2.out⟩
  subst he
  obtain ⟨⟨hg, hpp, hi0, hi1⟩, hrd⟩ := bblock_may hr
  obtain ⟨g, rfl⟩ := Int.eq_ofNat_of_zero_le hg.1
  obtain ⟨n, rfl⟩ := Int.eq_ofNat_of_zero_le hpp.1
  obtain ⟨i, rfl⟩ := Int.eq_ofNat_of_zero_le hi0
  rw [Int.toNat_natCast] at hi1
  rw [Int.toNat_natCast, Int.toNat_natCast, Int.toNat_natCast] at hrd
  obtain ⟨hbs, hln, hlx, h512, -⟩ := bread_one hrd
  have hin : i < nblocks n := by omega
  have hi240 : i * 240 < n := by unfold nblocks at hin; omega
  have hn65 : n ≤ 65536 := by omega
  have HDB := Lib.hid fun w1 => dBlocks_any (n : Int) (by omega) w1
  rw [Int.toNat_natCast] at HDB
  have HBS := Lib.hid hbs
  have HLX := Lib.hid hlx
  have HLN := Lib.hid hln
  have HIN := Lib.hid hin
  have HBT := Lib.hid hb
  have H512 := Lib.hid h512
  have HG := Lib.hid (show g ≤ 1099511627776 by omega)
  obtain ⟨m, hm⟩ : ∃ m, l.length = m := ⟨_, rfl⟩
  simp only [hm] at HBK
  have HM := Lib.hid hm
  rw [hm] at hln
  have hmI : (m : Int) = min ((n : Int) - (i : Int) * 240) 240 := by rw [hln]; unfold inBlk; omega
  have hm240 : m ≤ 240 := by rw [hln]; exact inBlk_le _ _
  have hmn : i * 240 + m ≤ n := by rw [hln]; unfold inBlk; omega
  rw [h512]
  rw [h512] at HBK
  generalize hnb : nblocks n = nb at *
  have HNB := Lib.hid hnb
  have hiI : ¬ (nb : Int) ≤ (i : Int) := by omega
  have hnI : ¬ (n : Int) < 1 := by omega
  clear hr hrd hbs hlx hb h512 hm hln hnb hi1 hpp hg hi0 hll hcap hp
  go_enter Try.func6, Try.ntmps6
  go_wp2_with fail
  refine (works_any _).mono ?_
  rintro _ w1 ⟨rfl, hb1⟩
  go_wp2_with fail
  refine (HBK.out _ hb1).mono ?_
  rintro _ w2 ⟨na, nc, rfl, hN, -, hb2⟩
  have HB2 := Lib.hid (hb1.trans (hb2.mono hb1.size))
  have HNL := Lib.hid hN.nts
  clear hb1 hb2 hN HBK
  go_wp2_with fail
  refine (HDB.out _).mono ?_
  rintro _ wx ⟨rfl, e0⟩
  rw [e0]
  clear e0 wx HDB
  obtain ⟨w3, hmk, hON, hB3, hz3⟩ := make_ints n hn65 w2
  have HON := Lib.hid hON
  have HB3 := Lib.hid hB3
  clear hON hB3 hz3
  go_wp2_with fail
  have hgz : w2.heap.size ≤ w2.heap.size := Nat.le_refl _
  generalize hgg : w2.heap.size = gg at HON HB3 hgz ⊢
  have HGG := Lib.hid hgg
  clear hgg hmk
  go_loopw [12] (fun v wr => RelF1 w2 gg n v wr) (fun v _ => n - (intOf v).toNat)
  case atStart => exact ⟨0, List.replicate n 0, Nat.zero_le _, rfl, List.length_replicate, HON.out, fun c hc => (by rw [List.eq_of_mem_replicate hc]; exact ⟨by decide, by decide⟩), by rw [HGG.out]; exact HB3.out⟩
  case round =>
    clear HON HB3
    obtain ⟨k, cs, hk, rfl, hcl, hO, hok, hBl⟩ := hrel
    by_cases hkn : k < n
    · obtain ⟨hc, hf⟩ := hO.cellF (j := k) (by rw [hcl]; exact hkn)
      have HN1 := Lib.hid (show RelF1 w2 gg n (.int .i64 ((k + 1 : Nat) : Int)) (wr.setCell ⟨gg, k, none⟩ (.int .i64 ((k : Int) % 7))) from
        ⟨k + 1, cs.set k ((k : Int) % 7), hkn, rfl, by rw [List.length_set]; exact hcl, hO.set k (by rw [hcl]; exact hkn) _, hok.set k (okC_mod k), hBl.setCell (by rw [HGG.out]; exact Nat.le_refl _) _⟩)
      have HJ := Lib.hid hkn
      clear hO hok hBl hcl
      go_wp2_with fail
      go_roundw
      case rel => exact HN1.out
      case measure => exact meas_up HJ.out
    · have HO := Lib.hid hO
      have HOK := Lib.hid hok
      have HBl := Lib.hid hBl
      have HCL := Lib.hid hcl
      clear hO hok hBl hcl
      have hcase : ((n : Int) - (i : Int) * 240 < 240 ∧ ((m : Int) != (n : Int) - (i : Int) * 240) = false) ∨ (¬ (n : Int) - (i : Int) * 240 < 240 ∧ ((m : Int) != 240) = false) := by
        by_cases h : (n : Int) - (i : Int) * 240 < 240
        · exact .inl ⟨h, by rw [bne_eq_false_iff_eq]; omega⟩
        · exact .inr ⟨h, by rw [bne_eq_false_iff_eq]; omega⟩
      clear hmI
      rcases hcase with ⟨hq, hmd⟩ | ⟨hq, hmd⟩
      all_goals
        go_wp2_with fail
        go_loopw [14] (fun v wr => RelF2 w2 gg n (i * 240) m l v wr) (fun v _ => m - (intOf v).toNat)
        case atStart => exact ⟨0, cs, Nat.zero_le _, rfl, HCL.out, HO.out, HOK.out, fun j hj => absurd hj (Nat.not_lt_zero j), HBl.out⟩
        case round =>
          clear HO HOK HBl HCL
          obtain ⟨k2, cs, hk2, rfl, hcl, hO, hok, heq, hBl⟩ := hrel
          by_cases hkm : k2 < m
          · obtain ⟨q, hqq⟩ : ∃ q, i * 240 + k2 = q := ⟨_, rfl⟩
            have hqn : q < n := by omega
            have hqI : (i : Int) * 240 + (k2 : Int) = (q : Int) := by omega
            obtain ⟨nb2, noff, rfl, -, hnc⟩ := (HNL.out.below hBl).at (k := k2) (by rw [ints_length, HM.out]; exact hkm)
            obtain ⟨hc, hf⟩ := hO.cellF (j := q) (by rw [hcl]; exact hqn)
            obtain ⟨x, hx⟩ : ∃ x, l[k2]? = some x := ⟨_, List.getElem?_eq_getElem (by rw [HM.out]; exact hkm)⟩
            have hxi : (ints l).getD k2 0 = (x : Int) := by rw [List.getD_eq_getElem?_getD]; simp [ints, hx]
            rw [hxi] at hnc
            have HN1 := Lib.hid (show RelF2 w2 gg n (i * 240) m l (.int .i64 ((k2 + 1 : Nat) : Int)) (wr.setCell ⟨gg, q, none⟩ (.int .i64 (x : Int))) from by
              have hx6 := HLX.out x (List.mem_of_getElem? hx)
              refine ⟨k2 + 1, cs.set q (x : Int), hkm, rfl, by rw [List.length_set]; exact hcl, hO.set q (by rw [hcl]; exact hqn) _, hok.set q ⟨by omega, by omega⟩, fun j hj => ?_, hBl.setCell (by rw [HGG.out]; exact Nat.le_refl _) _⟩
              by_cases hjk : j = k2
              · subst hjk
                rw [hqq, List.getElem?_set_self (by rw [hcl]; exact hqn)]
                simp [ints, hx]
              · rw [List.getElem?_set_ne (by omega)]
                exact heq j (by omega))
            have HJ := Lib.hid hkm
            clear hO hok hBl hcl heq hx hxi hqq
            go_wp2_with fail
            go_roundw
            case rel => exact HN1.out
            case measure => exact meas_up HJ.out
          · obtain rfl : k2 = m := by omega
            have hpart := part_of hcl HLN.out (fun j hj => heq j (by rw [← HM.out]; exact hj))
            have HE := Lib.hid (encodeB_any (g : Int) cs (some ⟨gg, 0, none⟩) n wr (by rw [hcl]; omega) hO.nts)
            rw [benc_ok HG.out (by rw [hcl]; exact hn65) hok, hcl, HNB.out] at HE
            unfold EncB at HE
            simp only [rowsB_length] at HE
            have HRW := Lib.hid (show (rowsB g cs nb).getD i [] = bs by rw [rowsB_get HIN.out, hcl, hpart]; exact HBS.out.symm)
            have HRL := Lib.hid (rowsB_length g cs nb)
            generalize rowsB g cs nb = rws at HE HRW HRL
            have HBl := Lib.hid hBl
            clear hO hok hBl hcl heq hpart hkm
            go_wp2_with fail
            refine HE.out.mono ?_
            rintro _ w5 ⟨la, lc, rs, rfl, hrs, hR, hb5⟩
            obtain ⟨r, hr⟩ : ∃ r, rs[i]? = some r := ⟨_, List.getElem?_eq_getElem (by have := congrArg List.length hrs; rw [List.length_map, HRL.out] at this; rw [this]; exact HIN.out)⟩
            have hrb : r.1 = bs := by rw [← HRW.out, ← hrs, List.getD_eq_getElem?_getD, List.getElem?_map, hr]; rfl
            obtain ⟨g5, rfl, hcell⟩ := hR.at hr
            have hO5 := (hR.obs r (List.mem_of_getElem? hr)).bts
            obtain ⟨rb, ra, rc⟩ := r
            simp only at hrb hcell hO5
            subst hrb
            rw [H512.out] at hcell
            have HB5 := Lib.hid (HB2.out.trans ((HBl.out.trans (hb5.mono HBl.out.size)).mono HB2.out.size))
            have H6 := Lib.hid (eqBytes_any rb rb ra a rc cap (by rw [H512.out]; decide) (by rw [H512.out]; decide) w5 hO5 (HBT.out.below HB5.out))
            rw [H512.out] at H6
            unfold Same at H6
            simp only [decide_true] at H6
            have hni : (i : Int) < (nb : Int) := by have := HIN.out; omega
            clear hR hb5 hO5 hrs hr HE
            go_wp2_with fail
            refine H6.out.mono ?_
            rintro _ w7 ⟨rfl, hb7⟩
            have HB7 := Lib.hid (HB5.out.trans (hb7.mono HB5.out.size))
            clear hb7 H6
            go_wp2_with fail
            go_ret
            exact ⟨rfl, HB7.out⟩
theorem bankForm_walk (gen pages i : Int) (a : Option Addr) (len cap : Nat) (zs : List Int) (W : World) (h0 : (Lit.int .i64 gen).wf = true) (h1 : (Lit.int .i64 pages).wf = true) (h2 : (Lit.int .i64 i).wf = true) (hr : IsRow .u8 W a len cap zs) (hc : cap ≤ 140737488351232) :
    Calls Try.prog 6 #[.int .i64 gen, .int .i64 pages, .int .i64 i, .slice a len cap] W fun e w' => e = .returned (.bool true) ∧ Below W.heap.size W w' := by
  have hlc := hr.len_cap
  obtain ⟨bs, rfl, hb⟩ := hr.bts
  exact bankForm_bts gen pages i a cap bs W (i64_le h1).2 hlc (by omega) hb
end Go.Proofs.Ytpjdknmgegbgnaa
