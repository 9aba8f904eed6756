/- The program's Encode: a blob. -/
import Derived.Test.YtkjgncmbhkhbnaaPEnc
namespace Go.Proofs.Ytkjgncmbhkhbnaa
open Go.RowKit
set_option linter.unusedVariables false
set_option maxRecDepth 100000

set_option maxHeartbeats 4000000 in
theorem pEnc_blob (no gen : Nat) (hno : 1 ≤ no ∧ no ≤ 65536) (hgen : gen ≤ 1099511627776) (level : Int) (items : List PI) (data : List UInt8) (next : Int) (ia : Option Addr) (ic : Nat) (da : Option Addr) (dc : Nat) (w : World) (hp : PgAt w.heap.size w ⟨3, level, items, data, next⟩ ia ic da dc) (hr : RightP ⟨3, level, items, data, next⟩) (h0 : pcheck ⟨3, level, items, data, next⟩ = 0) :
    Calls Try.prog 28 #[.int .i64 (no : Int), .int .i64 (gen : Int), .agg #[.int .i64 3, .int .i64 level, .slice ia items.length ic, .slice da data.length dc, .int .i64 next]] w (Encd (0, pblock no gen ⟨3, level, items, data, next⟩) w) := by
  have HP := Lib.hid hp
  have HRi := Lib.hid hr
  have HD := Lib.hid (DB.start w ⟨3, level, items, data, next⟩ ia ic da dc)
  have HCK := Lib.hid fun w1 (h : Below w.heap.size w w1) => show Calls Try.prog 26 #[pgv ⟨3, level, items, data, next⟩ ia ic da dc] w1 fun e w' => e = .returned (.int .i64 0) ∧ Below w1.heap.size w1 w' from h0 ▸ pCheck_any ⟨3, level, items, data, next⟩ ia ic da dc w1 ((hp.below h).mono h.size)
  have HPG := Lib.hid fun w1 => pIsPage_any (no : Int) w1
  rw [show isPg (no : Int) = true by simp [isPg]; omega] at HPG
  simp only [pgv] at *
  obtain ⟨hitems, hd1, hd2⟩ := hr.blob rfl
  have hlv := hr.level
  have hnx := hr.next
  simp only at hitems hd1 hd2 hlv hnx
  obtain ⟨m, hm⟩ : ∃ m, data.length = m := ⟨_, rfl⟩
  rw [hm] at HD HCK hd1 hd2 ⊢
  subst hitems
  simp only [List.length_nil] at HD HCK ⊢
  have HM := Lib.hid hm
  obtain ⟨lv, rfl⟩ := Int.eq_ofNat_of_zero_le hlv.1
  obtain ⟨nx, rfl⟩ := Int.eq_ofNat_of_zero_le hnx.1
  have hb1 : IntKind.u8.wrap 3 = (((UInt8.ofNat (3 % 256)).toNat : Nat) : Int) := by decide
  have hb2 : IntKind.u8.wrap (lv : Int) = (((UInt8.ofNat (lv % 256)).toNat : Nat) : Int) := by rw [u8_mod]; rfl
  have hnl : nx < 18446744073709551616 := by omega
  clear hp hr h0 hm hlv hnx
  go_enter Try.func28, Try.ntmps28
  have hD := HD.out
  obtain ⟨c0, c1, c2, c3, c4⟩ := cells5 hD.box
  simp only [] at c0 c1 c2 c3 c4
  rw [HM.out] at c3
  go_wp2_with (first
    | (go_at_call 42; refine (HPG.out _).mono ?_; rintro _ _ ⟨rfl, rfl⟩))
  refine (HCK.out _ hD.bel).mono ?_
  rintro _ w2 ⟨rfl, hB2⟩
  replace hD := hD.below hB2
  clear c0 c1 c2 c3 c4 hB2
  obtain ⟨c0, c1, c2, c3, c4⟩ := cells5 hD.box
  simp only [] at c0 c1 c2 c3 c4
  rw [HM.out] at c3
  obtain ⟨w3, hmk, hE, hB3, hz3⟩ := make_eb w2
  have hgs : w.heap.size < w2.heap.size := rlt_of_heapP hD.box
  replace hD := hD.below hB3
  clear c0 c1 c2 c3 c4 hB3 hz3
  obtain ⟨c0, c1, c2, c3, c4⟩ := cells5 hD.box
  simp only [] at c0 c1 c2 c3 c4
  rw [HM.out] at c3
  have hE2 := hE.below (one_below w3 (.cells #[.int .u8 ((UInt8.ofNat (3 % 256)).toNat : Int), .int .u8 ((UInt8.ofNat (lv % 256)).toNat : Int)] 5))
  have hx2 := two_news w3 (UInt8.ofNat (3 % 256)) (UInt8.ofNat (lv % 256))
  replace hD := hD.below (one_below w3 (.cells #[.int .u8 ((UInt8.ofNat (3 % 256)).toNat : Int), .int .u8 ((UInt8.ofNat (lv % 256)).toNat : Int)] 5))
  have HPH := Lib.hid (show pheadB no gen ⟨3, lv, [], data, nx⟩ = UInt8.ofNat (3 % 256) :: UInt8.ofNat (lv % 256) :: (leb 4 no ++ leb 8 gen) from rfl)
  generalize UInt8.ofNat (3 % 256) = k1 at *
  generalize UInt8.ofNat (lv % 256) = l1 at *
  generalize w2.heap.size = g at *
  go_wp2_with (at_builtin; refine wpList_append_eb rfl (.tmp 27) (.tmp 34) rfl rfl hE2 rfl rfl (xs := [k1, l1]) rfl hx2 (by decide) ?_; intro w4 hE4 hC4 hz4)
  replace hD := hD.chg hC4 hgs
  clear c0 c1 c2 c3 c4 hE hE2 hx2 hC4 hz4 hmk
  refine (pLow_any g 2 _ no 4 (by omega) (by decide) rfl (by decide) w4 hE4).mono ?_
  rintro _ w5 ⟨rfl, hE5, hC5⟩
  replace hD := hD.chg hC5 hgs
  clear hE4 hC5
  go_wp2_with fail
  refine (pLow_any g 6 _ gen 8 (by omega) (by decide) (by simp [leb_length]) (by decide) w5 hE5).mono ?_
  rintro _ w6 ⟨rfl, hE6, hC6⟩
  replace hD := hD.chg hC6 hgs
  rw [show ([] ++ [k1, l1] ++ leb 4 no ++ leb 8 gen) = pheadB no gen ⟨3, lv, [], data, nx⟩ by rw [HPH.out]; simp] at hE6
  clear hE5 hC6
  obtain ⟨c0, c1, c2, c3, c4⟩ := cells5 hD.box
  simp only [] at c0 c1 c2 c3 c4
  rw [HM.out] at c3
  have HPL := Lib.hid (pheadB_length no gen ⟨3, lv, [], data, nx⟩)
  go_wp2_with fail
  refine (pLow_any g 14 _ m 2 (by omega) (by decide) HPL.out.symm (by decide) w6 hE6).mono ?_
  rintro _ w7 ⟨rfl, hE7, hC7⟩
  replace hD := hD.chg hC7 hgs
  clear hE6 hC7 c0 c1 c2 c3 c4
  obtain ⟨c0, c1, c2, c3, c4⟩ := cells5 hD.box
  simp only [] at c0 c1 c2 c3 c4
  rw [HM.out] at c3
  go_wp2_with fail
  refine (pLow_any g 16 _ nx 4 hnl (by decide) (by rw [List.length_append, HPL.out, leb_length]) (by decide) w7 hE7).mono ?_
  rintro _ w8 ⟨rfl, hE8, hC8⟩
  replace hD := hD.chg hC8 hgs
  clear hE7 hC8 c0 c1 c2 c3 c4
  obtain ⟨c0, c1, c2, c3, c4⟩ := cells5 hD.box
  simp only [] at c0 c1 c2 c3 c4
  rw [HM.out] at c3
  have hnw := (HP.out.data.below hD.bel).news
  simp only [] at hnw
  rw [HM.out] at hnw
  have HL8 := Lib.hid (show (pheadB no gen ⟨3, lv, [], data, nx⟩ ++ leb 2 m ++ leb 4 nx).length = 20 by rw [List.length_append, List.length_append, HPL.out, leb_length, leb_length])
  have hroom : 20 + m ≤ 512 := by omega
  have HBD := Lib.hid (show pbody no gen ⟨3, lv, [], data, nx⟩ = pheadB no gen ⟨3, lv, [], data, nx⟩ ++ leb 2 m ++ leb 4 nx ++ data by
    unfold pbody ptailB
    rw [if_pos rfl]
    simp only
    rw [HM.out, Int.toNat_natCast]; simp)
  have HLE := Lib.hid (HRi.out.body no gen)
  have HFL := Lib.hid (fullB_length HLE.out)
  have HSM := Lib.hid fun w => sumOf_any (fullB (pbody no gen ⟨3, lv, [], data, nx⟩)) (some ⟨g, 0, none⟩) 512 (by rw [HFL.out]; decide) w
  have HBL := Lib.hid (pblock_length HRi.out no gen)
  have HPB := Lib.hid (show pblock no gen ⟨3, lv, [], data, nx⟩ = fullB (pbody no gen ⟨3, lv, [], data, nx⟩) ++ leb 4 (Crc.ofs (fullB (pbody no gen ⟨3, lv, [], data, nx⟩))) from rfl)
  have hof := Crc.ofs_lt (fullB (pbody no gen ⟨3, lv, [], data, nx⟩))
  rw [HFL.out] at HSM
  have HEF := Lib.hid fun (w9 : World) (h : EB w9 g (pheadB no gen ⟨3, lv, [], data, nx⟩ ++ leb 2 m ++ leb 4 nx ++ data)) => (show EB w9 g (fullB (pbody no gen ⟨3, lv, [], data, nx⟩)) from EB.full (HBD.out ▸ h) HLE.out)
  generalize fullB (pbody no gen ⟨3, lv, [], data, nx⟩) = fb at HEF HFL HSM HPB hof
  go_wp2_with (at_builtin; refine wpList_append_eb rfl (.tmp 58) (.tmp 60) rfl rfl hE8 HL8.out.symm rfl (xs := data) HM.out.symm hnw hroom ?_; intro w9 hE9 hC9 hz9)
  have hE9' := HEF.out w9 hE9
  replace hD := hD.chg hC9 hgs
  clear hE8 hE9 hC9 hz9 c0 c1 c2 c3 c4
  refine (HSM.out _ hE9'.ob.bts).mono ?_
  rintro _ w10 ⟨rfl, hB10⟩
  have HE10 := Lib.hid (hE9'.below hB10)
  replace hD := hD.below hB10
  clear hB10 hE9'
  generalize Crc.ofs fb = cs at *
  go_wp2_with fail
  refine (pLow_any g 508 fb cs 4 (by omega) (by decide) HFL.out.symm (by decide) _ HE10.out).mono ?_
  rintro _ w11 ⟨rfl, hE11, hC11⟩
  rw [← HPB.out] at hE11
  have HE11 := Lib.hid hE11
  have HD11 := Lib.hid (hD.chg hC11 hgs)
  clear hE11 hC11 hD
  go_wp2_with fail
  refine bodyPost_ret (v := .tuple #[.slice (some ⟨g, 0, none⟩) 512 512, .int .i64 0]) (by simp [results, Try.results28, go_sem]) rfl ?_
  exact encd_ok HBL.out HE11.out HD11.out.bel (Nat.le_of_lt hgs)
end Go.Proofs.Ytkjgncmbhkhbnaa
