/- The program's Encode: an index. -/
import Derived.Test.YtkjgncmbhkhbnaaPEnc
namespace Go.Proofs.Ytkjgncmbhkhbnaa
open Go.RowKit
set_option linter.unusedVariables false
set_option maxRecDepth 100000

set_option maxHeartbeats 4000000 in
theorem pEnc_index (no gen : Nat) (hno : 1 ≤ no ∧ no ≤ 65536) (hgen : gen ≤ 1099511627776) (level : Int) (items : List PI) (data : List UInt8) (next : Int) (ia : Option Addr) (ic : Nat) (da : Option Addr) (dc : Nat) (w : World) (hp : PgAt w.heap.size w ⟨2, level, items, data, next⟩ ia ic da dc) (hr : RightP ⟨2, level, items, data, next⟩) (h0 : pcheck ⟨2, level, items, data, next⟩ = 0) :
    Calls Try.prog 28 #[.int .i64 (no : Int), .int .i64 (gen : Int), .agg #[.int .i64 2, .int .i64 level, .slice ia items.length ic, .slice da data.length dc, .int .i64 next]] w (Encd (0, pblock no gen ⟨2, level, items, data, next⟩) w) := by
  have HP := Lib.hid hp
  have HRi := Lib.hid hr
  have HD := Lib.hid (DB.start w ⟨2, level, items, data, next⟩ ia ic da dc)
  have HCK := Lib.hid fun w1 (h : Below w.heap.size w w1) => show Calls Try.prog 26 #[pgv ⟨2, level, items, data, next⟩ ia ic da dc] w1 fun e w' => e = .returned (.int .i64 0) ∧ Below w1.heap.size w1 w' from h0 ▸ pCheck_any ⟨2, level, items, data, next⟩ ia ic da dc w1 ((hp.below h).mono h.size)
  have HPG := Lib.hid fun w1 => pIsPage_any (no : Int) w1
  rw [show isPg (no : Int) = true by simp [isPg]; omega] at HPG
  simp only [pgv] at *
  have hni := hr.items
  obtain ⟨hdata, hnx⟩ := hr.data (by show (2 : Int) ≠ 3; decide)
  have hlv := hr.level
  simp only at hni hdata hnx hlv
  obtain ⟨n, hn⟩ : ∃ n, items.length = n := ⟨_, rfl⟩
  rw [hn] at HD HCK hni ⊢
  subst hdata hnx
  simp only [List.length_nil] at HD HCK ⊢
  have HN := Lib.hid hn
  obtain ⟨lv, rfl⟩ := Int.eq_ofNat_of_zero_le hlv.1
  have hb1 : IntKind.u8.wrap 2 = (((UInt8.ofNat (2 % 256)).toNat : Nat) : Int) := by decide
  have hb2 : IntKind.u8.wrap (lv : Int) = (((UInt8.ofNat (lv % 256)).toNat : Nat) : Int) := by rw [u8_mod]; rfl
  have hb3 : IntKind.u8.wrap (n : Int) = (((UInt8.ofNat (n % 256)).toNat : Nat) : Int) := by rw [u8_mod]; rfl
  clear hp hr h0 hn
  go_enter Try.func28, Try.ntmps28
  have hD := HD.out
  obtain ⟨c0, c1, c2, c3, c4⟩ := cells5 hD.box
  simp only [] at c0 c1 c2 c3 c4
  rw [HN.out] at c2
  go_wp2_with (first
    | (go_at_call 42; refine (HPG.out _).mono ?_; rintro _ _ ⟨rfl, rfl⟩))
  refine (HCK.out _ hD.bel).mono ?_
  rintro _ w2 ⟨rfl, hB2⟩
  replace hD := hD.below hB2
  clear c0 c1 c2 c3 c4 hB2
  obtain ⟨c0, c1, c2, c3, c4⟩ := cells5 hD.box
  simp only [] at c0 c1 c2 c3 c4
  rw [HN.out] at c2
  obtain ⟨w3, hmk, hE, hB3, hz3⟩ := make_eb w2
  have hgs : w.heap.size < w2.heap.size := rlt_of_heapP hD.box
  replace hD := hD.below hB3
  clear c0 c1 c2 c3 c4 hB3 hz3
  obtain ⟨c0, c1, c2, c3, c4⟩ := cells5 hD.box
  simp only [] at c0 c1 c2 c3 c4
  rw [HN.out] at c2
  have hE2 := hE.below (one_below w3 (.cells #[.int .u8 ((UInt8.ofNat (2 % 256)).toNat : Int), .int .u8 ((UInt8.ofNat (lv % 256)).toNat : Int)] 5))
  have hx2 := two_news w3 (UInt8.ofNat (2 % 256)) (UInt8.ofNat (lv % 256))
  replace hD := hD.below (one_below w3 (.cells #[.int .u8 ((UInt8.ofNat (2 % 256)).toNat : Int), .int .u8 ((UInt8.ofNat (lv % 256)).toNat : Int)] 5))
  have HPH := Lib.hid (show pheadB no gen ⟨2, lv, items, [], 0⟩ = UInt8.ofNat (2 % 256) :: UInt8.ofNat (lv % 256) :: (leb 4 no ++ leb 8 gen) from rfl)
  generalize UInt8.ofNat (2 % 256) = k1 at *
  generalize UInt8.ofNat (lv % 256) = l1 at *
  generalize w2.heap.size = g at *
  go_wp2_with (at_builtin; refine wpList_append_eb rfl (.tmp 27) (.tmp 34) rfl rfl hE2 rfl rfl (xs := [k1, l1]) rfl hx2 (by decide) ?_; intro w4 hE4 hC4 hz4)
  replace hD := hD.chg hC4 hgs
  clear c0 c1 c2 c3 c4 hE hE2 hx2 hC4 hz4 hmk
  refine (pLow_any g 2 _ no 4 (by omega) (by decide) rfl (by decide) w4 hE4).mono ?_
  rintro _ w5 ⟨rfl, hE5, hC5⟩
  replace hD := hD.chg hC5 hgs
  clear hE4 hC5
  go_wp2_with fail
  refine (pLow_any g 6 _ gen 8 (by omega) (by decide) (by simp [leb_length]) (by decide) w5 hE5).mono ?_
  rintro _ w6 ⟨rfl, hE6, hC6⟩
  replace hD := hD.chg hC6 hgs
  rw [show ([] ++ [k1, l1] ++ leb 4 no ++ leb 8 gen) = pheadB no gen ⟨2, lv, items, [], 0⟩ by rw [HPH.out]; simp] at hE6
  clear hE5 hC6
  obtain ⟨c0, c1, c2, c3, c4⟩ := cells5 hD.box
  simp only [] at c0 c1 c2 c3 c4
  rw [HN.out] at c2
  generalize hkn : UInt8.ofNat (n % 256) = nb at *
  have HTB := Lib.hid (show leb 1 n = [nb] by rw [← hkn]; rfl)
  clear hkn
  have hE7 := hE6.below (one_below w6 (.cells #[.int .u8 (nb.toNat : Int)] 5))
  have hx7 := one_news w6 nb
  have hD7 := hD.below (one_below w6 (.cells #[.int .u8 (nb.toNat : Int)] 5))
  have HPL := Lib.hid (pheadB_length no gen ⟨2, lv, items, [], 0⟩)
  obtain ⟨d0, d1, d2, d3, d4⟩ := cells5 hD7.box
  simp only [] at d0 d1 d2 d3 d4
  rw [HN.out] at d2
  go_wp2_with (at_builtin; refine wpList_append_eb rfl (.tmp 62) (.tmp 67) rfl rfl hE7 HPL.out.symm rfl (xs := [nb]) rfl hx7 (by decide) ?_; intro w8 hE8 hC8 hz8; have hD8 := hD7.chg hC8 hgs; obtain ⟨f0, f1, f2, f3, f4⟩ := cells5 hD8.box; simp only [] at f0 f1 f2 f3 f4; rw [HN.out] at f2)
  clear c0 c1 c2 c3 c4 d0 d1 d2 d3 d4 f0 f1 f2 f3 f4 hD hD7 hE6 hE7 hx7 hC8 hz8 hb1 hb2 hb3
  have HDD := Lib.hid hD8
  have HEE := Lib.hid hE8
  clear hD8 hE8
  go_loopw [9, 72] (fun o i wr => RelEn w ⟨2, lv, items, [], 0⟩ ia ic da dc g (pheadB no gen ⟨2, lv, items, [], 0⟩ ++ [nb]) o i wr) (fun _ i _ => n - (intOf i).toNat)
  case atStart => exact ⟨0, Nat.zero_le _, rfl, rfl, by simpa [itemsB] using HEE.out, HDD.out⟩
  case round =>
    clear HDD HEE
    obtain ⟨j, hj, rfl, rfl, hE, hD⟩ := hrel
    have hj : j ≤ n := by rw [← HN.out]; exact hj
    obtain ⟨m, hm⟩ : ∃ m, 15 + (itemsB 2 (items.take j)).length = m := ⟨_, rfl⟩
    simp only [] at hE
    rw [hm]
    by_cases hjn : j < n
    · obtain ⟨x, hx⟩ : ∃ x, items[j]? = some x := ⟨_, List.getElem?_eq_getElem (by rw [HN.out]; exact hjn)⟩
      obtain ⟨b, off, ka, kc, va, vc, rfl, hb, hit⟩ := HP.out.its.at hx
      have hxr := HRi.out.all j x hx
      have hmb : m ≤ 428 := by have := take_right HRi.out.all j; simp only at this; omega
      have Hnx := Lib.hid fun (wr : World) hD bs hE hb m hm i hi => relEn_next (w0 := w) (p := ⟨2, lv, items, [], 0⟩) (ia := some ⟨b, off, none⟩) (ic := ic) (da := da) (dc := dc) (g := g) (hd := pheadB no gen ⟨2, lv, items, [], 0⟩ ++ [nb]) hx (wr := wr) hD (bs := bs) hE hb (m := m) hm (i := i) hi
      have hkl := hxr.key
      have hch := hxr.child (fun g => absurd g.1 (show ¬ (2 : Int) = 1 by decide))
      have HIT := Lib.hid hit
      have HB := Lib.hid hb
      have HJ := Lib.hid hjn
      have HL := Lib.hid (show ((pheadB no gen ⟨2, lv, items, [], 0⟩ ++ [nb]) ++ itemsB 2 (items.take j)).length = m by rw [List.length_append, List.length_append, pheadB_length, ← hm]; rfl)
      have Hmm := Lib.hid hm
      have hd1 := hit.below hb hD.bel
      have i0 := hd1.c0
      have i1 := hd1.c1
      have i2 := hd1.c2
      have i3 := hd1.c3
      clear hd1 hit hx hj hm
      obtain ⟨key, value, child, size⟩ := x
      simp only [] at i0 i1 i2 i3 hkl hch
      obtain ⟨cn, rfl⟩ := Int.eq_ofNat_of_zero_le (show 0 ≤ child by omega)
      obtain ⟨kl, hkl2⟩ : ∃ kl, key.length = kl := ⟨_, rfl⟩
      rw [hkl2] at i0 hkl
      have HKL := Lib.hid hkl2
      have HD1 := Lib.hid (hD.below (one_below wr (.cells #[.slice ka kl kc, .slice va value.length vc, .int .i64 cn, .int .i64 size] 64)))
      have HE1 := Lib.hid (hE.below (one_below wr (.cells #[.slice ka kl kc, .slice va value.length vc, .int .i64 cn, .int .i64 size] 64)))
      have HR1 := Lib.hid (heap_alloc_new wr (.cells #[.slice ka kl kc, .slice va value.length vc, .int .i64 cn, .int .i64 size] 64))
      generalize hkb : UInt8.ofNat (kl % 256) = kb at *
      have hbk : IntKind.u8.wrap (kl : Int) = (kb.toNat : Int) := by rw [← hkb, u8_mod]; rfl
      have HKB := Lib.hid (show leb 1 kl = [kb] by rw [← hkb]; rfl)
      have HGT := hE.lt
      have HWT := rlt_of_heapP hD.box
      clear hkb hkl2 hD hE
      have hgt : g < wr.heap.size := HGT
      have hwt : w.heap.size < wr.heap.size := HWT
      go_wp2_with fail
      generalize wr.alloc (.cells #[.slice ka kl kc, .slice va value.length vc, .int .i64 cn, .int .i64 size] 64) = W1 at HD1 HE1 HR1 ⊢
      generalize wr.heap.size = t at HR1 hgt hwt ⊢
      have ht : t < W1.heap.size := rlt_of_heapP HR1.out
      obtain ⟨x0, x1, x2, x3⟩ := cells4P HR1.out
      clear i0 i1 i2 i3
      have HEB := Lib.hid fun W' (h : Below W1.heap.size W1 W') => HE1.out.below h
      have HRB := Lib.hid fun W' (h : Below W1.heap.size W1 W') => (h.block t ht).trans HR1.out
      have HNW := Lib.hid fun (W' w5 : World) (h : Below W1.heap.size W1 W') (hc : Chg (fun k => k = g) W' w5) => (((HIT.out.k.below HD1.out.bel).below (h.mono HD1.out.bel.size)).below ((hc.below (B := w.heap.size) (Nat.le_trans HD1.out.bel.size h.size) (fun k e => by omega)))).news
      simp only [] at HNW
      rw [HKL.out] at HNW
      go_region_law (first
        | (refine step_append_eb rfl (.tmp 82) (.tmp 84) rfl rfl hE5 (by rw [List.length_append, HL.out]; rfl) rfl HKL.out.symm (HNW.out _ _ ?_ hC5) (by omega) ?_; exact (Below.refl W1.heap.size W1).drew.alloc (Nat.le_refl _) _; intro w6 hE6 hC6 hz6; have hD6 := ((HD1.out.below ((Below.refl W1.heap.size W1).drew.alloc (Nat.le_refl _) _)).chg hC5 hgs).chg hC6 hgs; have row6 := (hC6.block t (rlt_of_heapP row5) (by omega)).trans row5; obtain ⟨z0, z1, z2, z3⟩ := cells4P row6)
        | (refine step_append_eb rfl (.tmp 76) (.tmp 81) rfl rfl (HEB.out _ ?_) HL.out.symm rfl (xs := [kb]) rfl ?_ (by omega) ?_; exact (Below.refl W1.heap.size W1).drew.alloc (Nat.le_refl _) _; exact one_news _ _; intro w5 hE5 hC5 hz5; have row5 := (hC5.block t (Nat.lt_of_lt_of_le ht (by simp)) (by omega)).trans (HRB.out _ ((Below.refl W1.heap.size W1).drew.alloc (Nat.le_refl _) _)); obtain ⟨y0, y1, y2, y3⟩ := cells4P row5))
      all_goals
        clear y0 y1 y2 y3 x0 x1 x2 x3 hE5 hC5 hz5 hC6 hz6 HNW HEB HRB HD1 HE1 HR1 row5
        have hcl : cn < 18446744073709551616 := by omega
        have hvl : m + 1 + kl + 4 ≤ 512 := by omega
        have HEQ := Lib.hid (item_index (key := key) (value := value) (cn := cn) (sz := size) (cur := pheadB no gen ⟨2, lv, items, [], 0⟩ ++ [nb] ++ itemsB 2 (items.take j)) (by rw [HKL.out]; exact HKB.out))
        have HLN := Lib.hid (len_of HEQ.out Hmm.out HL.out (k := m + 1 + kl + 4) (by rw [List.length_append, List.length_append, List.length_append, HL.out, HKL.out, leb_length]; rfl))
        clear hch
        obtain ⟨c0, c1, c2, c3, c4⟩ := cells5 hD6.box
        simp only [] at c0 c1 c2 c3 c4
        rw [HN.out] at c2
        go_wp2_with fail
        refine (pLow_any g (m + 1 + kl) _ cn 4 hcl (by decide) (by rw [List.length_append, List.length_append, HL.out, HKL.out]; rfl) hvl w6 hE6).mono ?_
        rintro _ w7 ⟨rfl, hE7, hC7⟩
        go_wp2_with fail
        go_roundw
        case rel => exact Hnx.out _ (hD6.chg hC7 hgs) _ hE7 HEQ.out _ HLN.out _ (by go_num)
        case measure => exact meas_succ HJ.out
    · obtain rfl : j = n := by omega
      have HBD := Lib.hid (show pbody no gen ⟨2, lv, items, [], 0⟩ = (pheadB no gen ⟨2, lv, items, [], 0⟩ ++ [nb]) ++ itemsB 2 (items.take j) by
        unfold pbody ptailB
        rw [if_neg (by show ¬ (2 : Int) = 3; decide)]
        simp only
        rw [HN.out, HTB.out, List.take_of_length_le (by rw [HN.out]; exact Nat.le_refl _), List.append_assoc])
      have HLE := Lib.hid (HRi.out.body no gen)
      rw [← HBD.out] at hE
      have HEF := Lib.hid (hE.full HLE.out)
      have HFL := Lib.hid (fullB_length HLE.out)
      have HSM := Lib.hid fun w => sumOf_any (fullB (pbody no gen ⟨2, lv, items, [], 0⟩)) (some ⟨g, 0, none⟩) 512 (by rw [HFL.out]; decide) w
      have HBL := Lib.hid (pblock_length HRi.out no gen)
      have HPB := Lib.hid (show pblock no gen ⟨2, lv, items, [], 0⟩ = fullB (pbody no gen ⟨2, lv, items, [], 0⟩) ++ leb 4 (Crc.ofs (fullB (pbody no gen ⟨2, lv, items, [], 0⟩))) from rfl)
      have hof := Crc.ofs_lt (fullB (pbody no gen ⟨2, lv, items, [], 0⟩))
      rw [HFL.out] at HSM
      generalize fullB (pbody no gen ⟨2, lv, items, [], 0⟩) = fb at HEF HFL HSM HPB hof
      clear hE hm hj hjn
      go_wp2_with fail
      refine (HSM.out _ HEF.out.ob.bts).mono ?_
      rintro _ w10 ⟨rfl, hB10⟩
      have HE10 := Lib.hid (HEF.out.below hB10)
      replace hD := hD.below hB10
      clear hB10
      generalize Crc.ofs fb = cs at *
      go_wp2_with fail
      refine (pLow_any g 508 fb cs 4 (by omega) (by decide) HFL.out.symm (by decide) _ HE10.out).mono ?_
      rintro _ w9 ⟨rfl, hE9, hC9⟩
      rw [← HPB.out] at hE9
      have HE9 := Lib.hid hE9
      have HD9 := Lib.hid (hD.chg hC9 hgs)
      clear hE9 hC9 hD
      go_wp2_with fail
      refine bodyPost_ret (v := .tuple #[.slice (some ⟨g, 0, none⟩) 512 512, .int .i64 0]) (by simp [results, Try.results28, go_sem]) rfl ?_
      exact encd_ok HBL.out HE9.out HD9.out.bel (Nat.le_of_lt hgs)
end Go.Proofs.Ytkjgncmbhkhbnaa
