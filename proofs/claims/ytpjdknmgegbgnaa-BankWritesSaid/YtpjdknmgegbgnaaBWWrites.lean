/- The walk of BankWrites. -/
import Derived.Test.YtpjdknmgegbgnaaBkAll
namespace Go.Proofs.Ytpjdknmgegbgnaa
open Go.RowKit
set_option linter.unusedVariables false
set_option maxRecDepth 100000

theorem meas_two {m k : Nat} (h : k < m) : m - (intOf (.int .i64 ((k : Int) + 1))).toNat < m - (intOf (.int .i64 (k : Int))).toNat := meas_up h
set_option maxHeartbeats 4000000 in
theorem bankWrites_nts (gen pages : Int) (cs : List Int) (a : Option Addr) (cap : Nat) (W : World) (hp : pages ≤ 9223372036854775807) (hl : cs.length ≤ 17592186043904) (hb : Nts W a cs) :
    Calls Try.prog 3 #[.int .i64 gen, .slice a cs.length cap, .int .i64 pages] W fun e w' => e = .returned (.bool true) ∧ Below W.heap.size W w' := by
  have HNT := Lib.hid hb
  have HSP := Lib.hid fun w1 (h : Below W.heap.size W w1) => spareInts_any a cap cs hl w1 (hb.below h)
  have HKE := Lib.hid fun (g : Nat) w1 (h : Below W.heap.size W w1) (hg : SparedI w1 g cs) => keptInts_any g a cap cs hl w1 hg (hb.below h)
  have HEN := Lib.hid fun (ds : List Int) (hd : ds.length = cs.length) (b : Option Addr) (c : Nat) w1 (h : Nts w1 b ds) => encodeB_any gen ds b c w1 (by omega) h
  have HDE := Lib.hid fun (ds : List Int) (hd : ds.length = cs.length) (b : Option Addr) (c : Nat) w1 (h : Nts w1 b ds) => dEncode8_any gen ds b c w1 (by omega) h
  unfold NewSpI at HSP
  unfold EncB at HEN HDE
  obtain ⟨n, hnl⟩ : ∃ n, cs.length = n := ⟨_, rfl⟩
  have HL := Lib.hid hnl
  have HB1 := Lib.hid fun w1 => blocks_any pages hp w1
  have HB2 := Lib.hid fun w1 => dBlocks_any pages hp w1
  have HB3 := Lib.hid fun w1 => blocks_any (n : Int) (by omega) w1
  have HB4 := Lib.hid fun w1 => dBlocks_any (n : Int) (by omega) w1
  generalize nblocks pages.toNat = nb1 at *
  generalize nblocks (n : Int).toNat = nb2 at *
  have hd1 : ((nb1 : Int) != (nb1 : Int)) = false := by simp
  have hd2 : ((nb2 : Int) != (nb2 : Int)) = false := by simp
  obtain ⟨⟨e1, rows1⟩, hr1⟩ : ∃ r, benc gen cs = r := ⟨_, rfl⟩
  have hsm1 := benc_small gen cs
  rw [hr1] at hsm1
  simp only at hsm1
  obtain ⟨m1, hm1⟩ : ∃ m1, rows1.length = m1 := ⟨_, rfl⟩
  have HM1 := Lib.hid hm1
  have h274 : m1 ≤ 274 := by rw [← hm1]; exact hsm1.1
  have HR512 := Lib.hid hsm1.2
  have HE1 := Lib.hid (fun b c w1 (h : Nts w1 b cs) => HEN.out cs rfl b c w1 h)
  have HD1 := Lib.hid (fun b c w1 (h : Nts w1 b cs) => HDE.out cs rfl b c w1 h)
  rw [hr1] at HE1 HD1
  simp only [hm1] at HE1 HD1
  rw [hnl] at HSP HKE hl HE1 HD1 ⊢
  simp only [hnl] at HEN HDE
  have hed1 : (e1 != e1) = false := by simp
  clear hb hnl hr1 hsm1 hm1
  go_enter Try.func3, Try.ntmps3
  go_wp2_with fail
  refine (works_any _).mono ?_
  rintro _ w1 ⟨rfl, hb1⟩
  have HBL := Lib.hid hb1
  clear hb1
  go_wp2_with fail
  refine (HB1.out _).mono ?_
  rintro _ wx ⟨rfl, e0⟩
  rw [e0]
  clear e0 wx
  go_wp2_with fail
  refine (HB2.out _).mono ?_
  rintro _ wx ⟨rfl, e0⟩
  rw [e0]
  clear e0 wx
  go_wp2_with fail
  refine (HB3.out _).mono ?_
  rintro _ wx ⟨rfl, e0⟩
  rw [e0]
  clear e0 wx
  go_wp2_with fail
  refine (HB4.out _).mono ?_
  rintro _ wx ⟨rfl, e0⟩
  rw [e0]
  clear e0 wx HB1 HB2 HB3 HB4
  go_wp2_with fail
  refine (HSP.out w1 HBL.out).mono ?_
  rintro _ w2 ⟨rfl, hS2, hb2⟩
  have HS2 := Lib.hid hS2
  have HBL2 := Lib.hid (HBL.out.trans (hb2.mono HBL.out.size))
  have hgl : w1.heap.size < w2.heap.size := OR.lt hS2 _ rfl
  have hgW : W.heap.size ≤ w1.heap.size := HBL.out.size
  generalize w1.heap.size = g at *
  clear hS2 hb2 HSP HBL
  go_wp2_with fail
  refine (HE1.out _ _ w2 HS2.out.nts).mono ?_
  rintro _ w3 ⟨la, lc, rs, rfl, hrs, hR, hb3⟩
  have HRS := Lib.hid hrs
  have HR3 := Lib.hid hR
  have HBL3 := Lib.hid (HBL2.out.trans (hb3.mono HBL2.out.size))
  have HS3 := Lib.hid (ON.below HS2.out hb3)
  have hz3 := hb3.size
  clear hrs hR hb3 HE1 HS2
  go_wp2_with fail
  refine (HD1.out _ _ w3 (HNT.out.below HBL3.out)).mono ?_
  rintro _ w4 ⟨lb, lbc, rsb, rfl, hrs, hR, hb4⟩
  have HRSB := Lib.hid hrs
  have HRB4 := Lib.hid hR
  have HR4 := Lib.hid (HR3.out.below hb4)
  have HBL4 := Lib.hid (HBL3.out.trans (hb4.mono HBL3.out.size))
  have HS4 := Lib.hid (ON.below HS3.out hb4)
  have hz4 := hb4.size
  clear hrs hR hb4 HD1 HR3 HS3
  have H512 : ∀ (xs : List Row), xs.map (·.1) = rows1 → ∀ r ∈ xs, r.1.length = 512 := fun xs hx r hr => HR512.out _ (by rw [← hx]; exact List.mem_map.2 ⟨r, hr, rfl⟩)
  have HA := Lib.hid (fun r hr => H512 rs HRS.out r hr)
  have HAB := Lib.hid (fun r hr => H512 rsb HRSB.out r hr)
  clear H512
  have HEQ := Lib.hid fun w5 (h1 : Rws w2.heap.size w3.heap.size w5 la lc rs) (h2 : Rws w3.heap.size w4.heap.size w5 lb lbc rsb) => eqRows_same rs rsb la lb lc lbc rows1 HRS.out HRSB.out (by rw [HM1.out]; omega) w5 (h1.rd (fun r hr => by rw [HA.out r hr]; decide)) (h2.rd (fun r hr => by rw [HAB.out r hr]; decide))
  rw [HM1.out] at HEQ
  go_wp2_with fail
  refine (HEQ.out w4 HR4.out HRB4.out).mono ?_
  rintro _ w5 ⟨rfl, hb5⟩
  have HR5 := Lib.hid (HR4.out.below hb5)
  have HRB5 := Lib.hid (HRB4.out.below hb5)
  have HBL5 := Lib.hid (HBL4.out.trans (hb5.mono HBL4.out.size))
  have HS5 := Lib.hid (ON.below HS4.out hb5)
  clear hb5 HR4 HRB4 HS4
  go_wp2_with fail
  refine (HKE.out g w5 HBL5.out HS5.out).mono ?_
  rintro _ w6 ⟨rfl, hb6⟩
  have HR6 := Lib.hid (HR5.out.below hb6)
  have HRB6 := Lib.hid (HRB5.out.below hb6)
  have HBL6 := Lib.hid (HBL5.out.trans (hb6.mono HBL5.out.size))
  have HS6 := Lib.hid (ON.below HS5.out hb6)
  clear hb6 HR5 HRB5 HS5 HKE
  go_wp2_with fail
  go_loopw [12] (fun v wr => RelOv w6 g n v wr) (fun v _ => n - (intOf v).toNat)
  case atStart => exact ⟨0, _, Nat.zero_le _, rfl, by have := HS6.out; unfold SparedI at this; rw [HL.out] at this; exact this, by rw [fullI_length, HL.out], Chg.refl _ _⟩
  case round =>
    clear HS6
    obtain ⟨k, cur, hk, rfl, hO, hcl, hC⟩ := hrel
    by_cases hkn : k < n
    · obtain ⟨hc, hf⟩ := hO.cellF (j := k) (by omega)
      have HN1 := Lib.hid (show RelOv w6 g n (.int .i64 ((k + 1 : Nat) : Int)) (wr.setCell ⟨g, k, none⟩ (.int .i64 1)) from
        ⟨k + 1, cur.set k 1, hkn, rfl, hO.set k (by omega) 1, by rw [List.length_set]; exact hcl, hC.setCell ⟨g, k, none⟩ _ (fun _ => rfl)⟩)
      have HJ := Lib.hid hkn
      clear hO hcl hC
      go_wp2_with fail
      go_roundw
      case rel => exact HN1.out
      case measure => exact meas_up HJ.out
    · obtain rfl : k = n := by omega
      obtain ⟨ds, hds⟩ : ∃ ds, cur.take k = ds := ⟨_, rfl⟩
      have hdl : ds.length = k := by rw [← hds, List.length_take]; omega
      have hNT := ON.low hO k
      rw [hds] at hNT
      have HD := Lib.hid hNT
      have HR7 := Lib.hid (HR6.out.chg hC (fun j e f => by have := HR6.out.lob j e; omega) (fun q hq j e f => by have := (HR6.out.up.mem q hq j e).1; omega))
      have HRB7 := Lib.hid (HRB6.out.chg hC (fun j e f => by have := HRB6.out.lob j e; omega) (fun q hq j e f => by have := (HRB6.out.up.mem q hq j e).1; omega))
      have HBL7 := Lib.hid (HBL6.out.trans (hC.below HBL6.out.size (fun j e => by omega)))
      have HE2 := Lib.hid (HEN.out ds hdl (some ⟨g, 0, none⟩) (k + 64))
      have HD2 := Lib.hid (HDE.out ds hdl (some ⟨g, 0, none⟩) (k + 64))
      obtain ⟨⟨e2, rows2⟩, hr2⟩ : ∃ r, benc gen ds = r := ⟨_, rfl⟩
      have hsm2 := benc_small gen ds
      rw [hr2] at hsm2 HE2 HD2
      simp only at hsm2
      obtain ⟨m2, hm2⟩ : ∃ m2, rows2.length = m2 := ⟨_, rfl⟩
      have HM2 := Lib.hid hm2
      have h274b : m2 ≤ 274 := by rw [← hm2]; exact hsm2.1
      have HR512b := Lib.hid hsm2.2
      simp only [hm2, hdl] at HE2 HD2
      have hed2 : (e2 != e2) = false := by simp
      have hzz : w4.heap.size ≤ wr.heap.size := Nat.le_trans HRB6.out.top hC.size
      clear hds hdl hNT hO hcl hC hr2 hsm2 hm2 HR6 HRB6 HEN HDE hkn
      go_wp2_with fail
      refine (HE2.out wr HD.out).mono ?_
      rintro _ w8 ⟨lx, lxc, rsx, rfl, hrs, hR, hb8⟩
      have HRSX := Lib.hid hrs
      have HRX8 := Lib.hid hR
      have HR8 := Lib.hid (HR7.out.below hb8)
      have HRB8 := Lib.hid (HRB7.out.below hb8)
      have HBL8 := Lib.hid (HBL7.out.trans (hb8.mono HBL7.out.size))
      have HD8 := Lib.hid (HD.out.below hb8)
      have hz8 := hb8.size
      clear hrs hR hb8 HE2 HR7 HRB7 HD
      go_wp2_with fail
      refine (HD2.out w8 HD8.out).mono ?_
      rintro _ w9 ⟨ly, lyc, rsy, rfl, hrs, hR, hb9⟩
      have HRSY := Lib.hid hrs
      have HRY9 := Lib.hid hR
      have HR9 := Lib.hid (HR8.out.below hb9)
      have HRB9 := Lib.hid (HRB8.out.below hb9)
      have HRX9 := Lib.hid (HRX8.out.below hb9)
      have HBL9 := Lib.hid (HBL8.out.trans (hb9.mono HBL8.out.size))
      have hz9 := hb9.size
      clear hrs hR hb9 HD2 HR8 HRB8 HD8 HRX8
      have H512 : ∀ (xs : List Row), xs.map (·.1) = rows2 → ∀ r ∈ xs, r.1.length = 512 := fun xs hx r hr => HR512b.out _ (by rw [← hx]; exact List.mem_map.2 ⟨r, hr, rfl⟩)
      have HAX := Lib.hid (fun r hr => H512 rsx HRSX.out r hr)
      have HAY := Lib.hid (fun r hr => H512 rsy HRSY.out r hr)
      clear H512
      have HEQ2 := Lib.hid (eqRows_same rsx rsy lx ly lxc lyc rows2 HRSX.out HRSY.out (by rw [HM2.out]; omega) w9 (HRX9.out.rd (fun r hr => by rw [HAX.out r hr]; decide)) (HRY9.out.rd (fun r hr => by rw [HAY.out r hr]; decide)))
      rw [HM2.out] at HEQ2
      go_wp2_with fail
      refine HEQ2.out.mono ?_
      rintro _ w10 ⟨rfl, hb10⟩
      have HR10 := Lib.hid (HR9.out.below hb10)
      have HRB10 := Lib.hid (HRB9.out.below hb10)
      have HRX10 := Lib.hid (HRX9.out.below hb10)
      have HBL10 := Lib.hid (HBL9.out.trans (hb10.mono HBL9.out.size))
      clear hb10 HR9 HRB9 HRX9 HEQ2 HRY9
      go_wp2_with fail
      refine (HEQ.out w10 HR10.out HRB10.out).mono ?_
      rintro _ w11 ⟨rfl, hb11⟩
      have HR11 := Lib.hid (HR10.out.below hb11)
      have HRX11 := Lib.hid (HRX10.out.below hb11)
      have HBL11 := Lib.hid (HBL10.out.trans (hb11.mono HBL10.out.size))
      clear hb11 HR10 HRB10 HRX10 HEQ
      have HRL := Lib.hid (show rs.length = m1 by rw [← HM1.out, ← HRS.out, List.length_map])
      have HRLX := Lib.hid (show rsx.length = m2 by rw [← HM2.out, ← HRSX.out, List.length_map])
      obtain ⟨m0, hm0⟩ : ∃ m0 : Nat, m0 = 0 := ⟨_, rfl⟩
      have HM0 := Lib.hid hm0
      have hm0l : m0 ≤ 0 := Nat.le_of_eq hm0
      clear hm0
      go_wp2_with fail
      go_loopw [17, 18] (fun o v w' => RelAll w11 [] rs m0 m1 o v w') (fun _ v _ => m1 - (intOf v).toNat)
      case atStart => exact ⟨0, none, 0, Nat.zero_le _, rfl, by rw [HM0.out], by rw [HM0.out]; exact OR.nil eSl _, fun j e => (by cases e), Below.refl _ _⟩
      case round =>
        obtain ⟨k2, al, ac, hk2, rfl, rfl, hO, hof, hB⟩ := hrel
        by_cases hkm : k2 < m1
        · obtain ⟨r, hr⟩ : ∃ r, rs[k2]? = some r := ⟨_, List.getElem?_eq_getElem (by rw [HRL.out]; exact hkm)⟩
          obtain ⟨gl, rfl, hcell⟩ := (HR11.out.below hB).at hr
          rw [HA.out r (List.mem_of_getElem? hr)] at hcell
          have Hnx := Lib.hid fun (w1 w2 : World) (al2 : Option Addr) (ac2 : Nat) (i : Value) => relAll_next (W := w11) (wr := wr) (w1 := w1) (w2 := w2) (pre := []) (rs := rs) (m := m0) (n := m1) (k := k2) (al := al) (al2 := al2) (ac2 := ac2) (r := r) (i := i) hkm hr hof hB
          have ha := one_below wr (.cells #[.slice r.2.1 512 r.2.2] 32)
          have HA1 := Lib.hid ha
          have HO1 := Lib.hid (hO.chg (F := fun _ => False) (Chg.of_below ha) (fun _ _ f => f))
          have HNW := Lib.hid (cell_new wr (.slice r.2.1 512 r.2.2) 32)
          have HRV := Lib.hid (show [Value.slice r.2.1 512 r.2.2] = [cellR r] by unfold cellR; rw [HA.out r (List.mem_of_getElem? hr)])
          have HJ := Lib.hid hkm
          generalize r.2.1 = ra at *
          generalize r.2.2 = rc at *
          clear hO hof hB hr ha
          go_wp2_with (at_builtin; go_must (refine wpList_append_or eSl rfl (.tmp 109) (.tmp 114) rfl rfl HO1.out rfl (m := 1) (news := [.slice ra 512 rc]) rfl (.inr ⟨_, rfl, HNW.out⟩) (by simp [Value.oneCell']) (by show (m0 + k2 + 1) * 24 ≤ _; omega) (by omega) ?_)
                       intro la2 lc2 w7 hO7 hC7 hb7 _)
          rw [HRV.out] at hO7
          go_roundw
          case rel => exact Hnx.out _ _ _ _ _ HA1.out hO7 hC7 hb7 (by go_num)
          case measure => exact meas_up HJ.out
        · obtain rfl : k2 = m1 := by omega
          have hO2 : OR eSl wr al ac (m0 + k2) (cellsRw rs) := by rwa [List.take_of_length_le (by rw [HRL.out]; exact Nat.le_refl _), List.nil_append] at hO
          obtain ⟨q0, hq0⟩ : ∃ q0, m0 + k2 = q0 := ⟨_, rfl⟩
          have hq0l : q0 ≤ 274 := by omega
          rw [hq0] at hO2 ⊢
          have HQ0 := Lib.hid (show q0 = k2 by omega)
          have HO2 := Lib.hid hO2
          have HOF := Lib.hid hof
          have HB := Lib.hid hB
          clear hO hO2 hof hB hq0 hkm
          go_wp2_with fail
          go_loopw [17, 19] (fun o v w' => RelAll w11 rs rsx q0 m2 o v w') (fun _ v _ => m2 - (intOf v).toNat)
          case atStart => exact ⟨0, al, ac, Nat.zero_le _, rfl, rfl, by rw [List.take_zero, List.append_nil]; exact HO2.out, HOF.out, HB.out⟩
          case round =>
            clear HO2 HOF HB
            obtain ⟨k3, al, ac, hk3, rfl, rfl, hO, hof, hB⟩ := hrel
            by_cases hkm : k3 < m2
            · obtain ⟨r, hr⟩ : ∃ r, rsx[k3]? = some r := ⟨_, List.getElem?_eq_getElem (by rw [HRLX.out]; exact hkm)⟩
              obtain ⟨gl, rfl, hcell⟩ := (HRX11.out.below hB).at hr
              rw [HAX.out r (List.mem_of_getElem? hr)] at hcell
              have Hnx := Lib.hid fun (w1 w2 : World) (al2 : Option Addr) (ac2 : Nat) (i : Value) => relAll_next (W := w11) (wr := wr) (w1 := w1) (w2 := w2) (pre := rs) (rs := rsx) (m := q0) (n := m2) (k := k3) (al := al) (al2 := al2) (ac2 := ac2) (r := r) (i := i) hkm hr hof hB
              have ha := one_below wr (.cells #[.slice r.2.1 512 r.2.2] 32)
              have HA1 := Lib.hid ha
              have HO1 := Lib.hid (hO.chg (F := fun _ => False) (Chg.of_below ha) (fun _ _ f => f))
              have HNW := Lib.hid (cell_new wr (.slice r.2.1 512 r.2.2) 32)
              have HRV := Lib.hid (show [Value.slice r.2.1 512 r.2.2] = [cellR r] by unfold cellR; rw [HAX.out r (List.mem_of_getElem? hr)])
              have HJ := Lib.hid hkm
              generalize r.2.1 = ra at *
              generalize r.2.2 = rc at *
              clear hO hof hB hr ha
              go_wp2_with (at_builtin; go_must (refine wpList_append_or eSl rfl (.tmp 122) (.tmp 127) rfl rfl HO1.out rfl (m := 1) (news := [.slice ra 512 rc]) rfl (.inr ⟨_, rfl, HNW.out⟩) (by simp [Value.oneCell']) (by show (q0 + k3 + 1) * 24 ≤ _; omega) (by omega) ?_)
                           intro la2 lc2 w7 hO7 hC7 hb7 _)
              rw [HRV.out] at hO7
              go_roundw
              case rel => exact Hnx.out _ _ _ _ _ HA1.out hO7 hC7 hb7 (by go_num)
              case measure => exact meas_up HJ.out
            · obtain rfl : k3 = m2 := by omega
              have hO2 : OR eSl wr al ac (q0 + k3) (cellsRw (rs ++ rsx)) := by rwa [List.take_of_length_le (by rw [HRLX.out]; exact Nat.le_refl _)] at hO
              have hup : Up w2.heap.size w8.heap.size (adrR (rs ++ rsx)) := by
                have h1 := (HR11.out.up.mono (Nat.le_trans hz4 hzz)).append HRX11.out.up
                simpa [adrR] using h1
              have hz11 : w8.heap.size ≤ w11.heap.size := HRX11.out.top
              have HAP := Lib.hid (apart_rows (rs := rs ++ rsx) (n := q0 + k3) (lo := w2.heap.size) (hi := w8.heap.size) (B := W.heap.size) (by rw [List.length_append, HRL.out, HRLX.out, HQ0.out]) (by omega) (fun r hr => by
                rcases List.mem_append.1 hr with hr | hr
                · exact Nat.le_of_eq (HA.out r hr)
                · exact Nat.le_of_eq (HAX.out r hr)) hO2 (fun j e => Nat.le_trans hz11 (hof j e)) hup (fun r hr => by
                rcases List.mem_append.1 hr with hr | hr
                · exact (HR11.out.below hB).obs r hr
                · exact (HRX11.out.below hB).obs r hr) (Nat.le_trans HBL11.out.size hB.size) (by have := HBL2.out.size; omega))
              have HBE := Lib.hid (HBL11.out.trans (hB.mono HBL11.out.size))
              clear hO hO2 hof hB hup hkm
              go_wp2_with fail
              refine HAP.out.mono ?_
              rintro _ w12 ⟨rfl, hb12⟩
              have HBF := Lib.hid (HBE.out.trans hb12)
              clear hb12 HAP
              go_wp2_with fail
              go_ret
              exact ⟨rfl, HBF.out⟩
theorem bankWrites_walk (gen : Int) (a : Option Addr) (len cap : Nat) (zs : List Int) (pages : Int) (W : World) (h0 : (Lit.int .i64 gen).wf = true) (hr : IsRow .i64 W a len cap zs) (hc : cap ≤ 17592186043904) (h2 : (Lit.int .i64 pages).wf = true) :
    Calls Try.prog 3 #[.int .i64 gen, .slice a len cap, .int .i64 pages] W fun e w' => e = .returned (.bool true) ∧ Below W.heap.size W w' := by
  have hlen : len ≤ cap := by
    rcases hr with ⟨rfl, rfl, rfl, rfl⟩ | ⟨x, rfl, hl, _⟩
    · exact Nat.le_refl _
    · exact hl
  obtain ⟨cs, rfl, hb⟩ := hr.nts
  exact bankWrites_nts gen pages cs a cap W (i64_le h2).2 (by omega) hb
end Go.Proofs.Ytpjdknmgegbgnaa
