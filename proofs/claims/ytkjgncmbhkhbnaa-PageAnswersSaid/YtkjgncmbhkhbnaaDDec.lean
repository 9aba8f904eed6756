/- The document's Check of a page, joined. The document's body of a page: an index. The document's Encode. The document's Decode. -/
import Derived.Test.YtkjgncmbhkhbnaaDChkL
import Derived.Test.YtkjgncmbhkhbnaaDChkI
import Derived.Test.YtkjgncmbhkhbnaaDBody
import Derived.Test.YtkjgncmbhkhbnaaDBodyL
import Derived.Test.YtkjgncmbhkhbnaaDGuesI
namespace Go.Proofs.Ytkjgncmbhkhbnaa
open Go.RowKit

theorem dCheck_any (p : PP) (ia : Option Addr) (ic : Nat) (da : Option Addr) (dc : Nat) (w : World) (hp : PgAt w.heap.size w p ia ic da dc) :
    Calls Try.prog 27 #[pgv p ia ic da dc] w (Checked p w) := by
  obtain ⟨kind, level, items, data, next⟩ := p
  by_cases hk : kind < 1 ∨ 3 < kind
  · exact dCheck_kind kind level items data next ia ic da dc w hp hk
  obtain rfl | rfl | rfl : kind = 1 ∨ kind = 2 ∨ kind = 3 := by omega
  all_goals
    first
      | (by_cases hf : okForm 1 level items.length data.length next = false
         · exact dCheck_form1 level items data next ia ic da dc w hp hf
         · exact dCheck_go1 level items data next ia ic da dc w hp (by simpa using hf))
      | (by_cases hf : okForm 2 level items.length data.length next = false
         · exact dCheck_form2 level items data next ia ic da dc w hp hf
         · exact dCheck_go2 level items data next ia ic da dc w hp (by simpa using hf))
      | (by_cases hf : okForm 3 level items.length data.length next = false
         · exact dCheck_form3 level items data next ia ic da dc w hp hf
         · exact dCheck_go3 level items data next ia ic da dc w hp (by simpa using hf))
end Go.Proofs.Ytkjgncmbhkhbnaa
namespace Go.Proofs.Ytkjgncmbhkhbnaa
open Go.RowKit
set_option linter.unusedVariables false
set_option maxRecDepth 100000

set_option maxHeartbeats 4000000 in
theorem dBody_index (no gen : Nat) (hno : no ≤ 65536) (hgen : gen ≤ 1099511627776) (level : Int) (items : List PI) (data : List UInt8) (next : Int) (ia : Option Addr) (ic : Nat) (da : Option Addr) (dc : Nat) (w : World) (hp : PgAt w.heap.size w ⟨2, level, items, data, next⟩ ia ic da dc) (hr : RightP ⟨2, level, items, data, next⟩) :
    Calls Try.prog 52 #[.int .i64 (no : Int), .int .i64 (gen : Int), .agg #[.int .i64 2, .int .i64 level, .slice ia items.length ic, .slice da data.length dc, .int .i64 next]] w (LowB w.heap.size (pbody no gen ⟨2, level, items, data, next⟩).length (pbody no gen ⟨2, level, items, data, next⟩) w) := by
  have HP := Lib.hid hp
  have HRi := Lib.hid hr
  have hni := hr.items
  obtain ⟨hdata, hnx⟩ := hr.data (by show (2 : Int) ≠ 3; decide)
  have hlv := hr.level
  simp only at hni hdata hnx hlv
  obtain ⟨n, hn⟩ : ∃ n, items.length = n := ⟨_, rfl⟩
  subst hdata hnx
  obtain ⟨lv, rfl⟩ := Int.eq_ofNat_of_zero_le hlv.1
  have HD := Lib.hid (bg_start w ⟨2, lv, items, [], 0⟩ ia ic da dc (UInt8.ofNat (2 % 256)) (UInt8.ofNat (lv % 256)))
  simp only [] at HD
  rw [hn] at HD hni ⊢
  simp only [List.length_nil] at HD ⊢
  have HN := Lib.hid hn
  have hb1 : IntKind.u8.wrap 2 = (((UInt8.ofNat (2 % 256)).toNat : Nat) : Int) := by decide
  have hb2 : IntKind.u8.wrap (lv : Int) = (((UInt8.ofNat (lv % 256)).toNat : Nat) : Int) := by rw [u8_mod]; rfl
  have HPH := Lib.hid (show pheadB no gen ⟨2, lv, items, [], 0⟩ = UInt8.ofNat (2 % 256) :: UInt8.ofNat (lv % 256) :: (leb 4 no ++ leb 8 gen) from rfl)
  generalize UInt8.ofNat (2 % 256) = k1 at *
  generalize UInt8.ofNat (lv % 256) = l1 at *
  obtain ⟨nb, hnb⟩ : ∃ nb, leb 1 n = [nb] := ⟨_, rfl⟩
  have HTB := Lib.hid hnb
  have HBD := Lib.hid (show pbody no gen ⟨2, lv, items, [], 0⟩ = (pheadB no gen ⟨2, lv, items, [], 0⟩ ++ [nb]) ++ itemsB 2 items by
    unfold pbody ptailB
    rw [if_neg (by show ¬ (2 : Int) = 3; decide)]
    simp only
    rw [HN.out, HTB.out, List.append_assoc])
  have HH := Lib.hid (show [k1, l1] ++ leb 4 no ++ leb 8 gen ++ leb 1 n = pheadB no gen ⟨2, lv, items, [], 0⟩ ++ [nb] by rw [HPH.out, HTB.out]; simp)
  clear hp hr hn hlv hnb
  have c := cells5 (DB.start w ⟨2, lv, items, [], 0⟩ ia ic da dc).box
  obtain ⟨c0, c1, c2, c3, c4⟩ := c
  simp only [] at c0 c1 c2 c3 c4
  rw [HN.out] at c0 c1 c2 c3 c4
  simp only [List.length_nil] at c0 c1 c2 c3 c4
  go_enter Try.func52, Try.ntmps52
  go_wp2_with fail
  have hD := HD.out
  clear HD
  generalize World.alloc (World.alloc w _) _ = w1 at hD ⊢
  refine (lowG _ _ 2 _ no 4 (by omega) (by decide) (by decide) w1 rfl hD.ob).mono ?_
  rintro _ w2 ⟨oa2, oc2, rfl, hO2, hn2, hC2⟩
  replace hD := hD.step hO2 hn2 hC2
  clear c0 c1 c2 c3 c4 hO2 hn2 hC2
  go_wp2_with fail
  refine (lowG _ _ 6 _ gen 8 (by omega) (by decide) (by decide) w2 (by simp [leb_length]) hD.ob).mono ?_
  rintro _ w3 ⟨oa3, oc3, rfl, hO3, hn3, hC3⟩
  replace hD := hD.step hO3 hn3 hC3
  clear hO3 hn3 hC3
  obtain ⟨c0, c1, c2, c3, c4⟩ := cells5 hD.db.box
  simp only [] at c0 c1 c2 c3 c4
  rw [HN.out] at c2
  go_wp2_with fail
  refine (lowG _ _ 14 _ n 1 (by omega) (by decide) (by decide) w3 (by simp [leb_length]) hD.ob).mono ?_
  rintro _ w4 ⟨oa4, oc4, rfl, hO4, hn4, hC4⟩
  replace hD := hD.step hO4 hn4 hC4
  rw [HH.out] at hD
  have HDD := Lib.hid hD
  clear hO4 hn4 hC4 c0 c1 c2 c3 c4 hD hb1 hb2
  go_wp2_with fail
  go_loopw [7, 8] (fun o i wr => RelBd w ⟨2, lv, items, [], 0⟩ ia ic da dc (pheadB no gen ⟨2, lv, items, [], 0⟩ ++ [nb]) o i wr) (fun _ i _ => n - (intOf i).toNat)
  case atStart => exact ⟨0, oa4, oc4, Nat.zero_le _, rfl, by simp [itemsB], by simpa [itemsB, HN.out] using HDD.out⟩
  case round =>
    clear HDD
    obtain ⟨j, oa, oc, hj, rfl, rfl, hD⟩ := hrel
    have hj : j ≤ n := by rw [← HN.out]; exact hj
    simp only [] at hD ⊢
    rw [HN.out] at hD
    obtain ⟨m, hm⟩ : ∃ m, 15 + (itemsB 2 (items.take j)).length = m := ⟨_, rfl⟩
    rw [hm]
    have HL := Lib.hid (show ((pheadB no gen ⟨2, lv, items, [], 0⟩ ++ [nb]) ++ itemsB 2 (items.take j)).length = m by rw [List.length_append, List.length_append, pheadB_length, ← hm]; rfl)
    have Hmm := Lib.hid hm
    obtain ⟨c0, c1, c2, c3, c4⟩ := cells5 hD.db.box
    simp only [] at c0 c1 c2 c3 c4
    rw [HN.out] at c2
    by_cases hjn : j < n
    · obtain ⟨x, hx⟩ : ∃ x, items[j]? = some x := ⟨_, List.getElem?_eq_getElem (by rw [HN.out]; exact hjn)⟩
      obtain ⟨b, off, ka, kc, va, vc, rfl, hb, hit⟩ := HP.out.its.at hx
      have hxr := HRi.out.all j x hx
      have hmb : m ≤ 428 := by have := take_right HRi.out.all j; simp only at this; omega
      have Hnx := Lib.hid fun (wr : World) oa oc t o bs hD hb m hm i hi => relBd_next (w0 := w) (p := ⟨2, lv, items, [], 0⟩) (ia := some ⟨b, off, none⟩) (ic := ic) (da := da) (dc := dc) (hd := pheadB no gen ⟨2, lv, items, [], 0⟩ ++ [nb]) hx (wr := wr) (oa := oa) (oc := oc) (t := t) (o := o) (bs := bs) hD hb (m := m) hm (i := i) hi
      have hkl := hxr.key
      have hch := hxr.child (fun g => absurd (show (2 : Int) = 1 from g.1) (by decide))
      have HIT := Lib.hid hit
      have HB := Lib.hid hb
      have HJ := Lib.hid hjn
      have hd1 := hit.below hb hD.db.bel
      have i0 := hd1.c0
      have i1 := hd1.c1
      have i2 := hd1.c2
      have i3 := hd1.c3
      clear hd1 hit hx hj hm
      obtain ⟨key, value, child, size⟩ := x
      simp only [] at i0 i1 i2 i3 hkl hch 
      obtain ⟨cn, rfl⟩ := Int.eq_ofNat_of_zero_le (show 0 ≤ child by omega)
      have hcl : cn < 9223372036854775808 := by omega
      obtain ⟨kl, hkl2⟩ : ∃ kl, key.length = kl := ⟨_, rfl⟩
      rw [hkl2] at i0 hkl
      have HKL := Lib.hid hkl2
      obtain ⟨kb, hkb⟩ : ∃ kb, leb 1 kl = [kb] := ⟨_, rfl⟩
      have HKB := Lib.hid hkb
      have HD1 := Lib.hid ((hD.below (one_below wr (.cells #[.slice ka kl kc, .slice va value.length vc, .int .i64 cn, .int .i64 size] 64))).box (heap_alloc_new wr (.cells #[.slice ka kl kc, .slice va value.length vc, .int .i64 cn, .int .i64 size] 64)) (fun k hk e => absurd (hD.ob.lt k hk) (by omega)))
      clear hkl2 hkb hD
      go_wp2_with fail
      generalize wr.alloc (.cells #[.slice ka kl kc, .slice va value.length vc, .int .i64 cn, .int .i64 size] 64) = W1 at HD1 ⊢
      generalize wr.heap.size = t at HD1 ⊢
      clear i0 i1 i2 i3 c0 c1 c2 c3 c4
      obtain ⟨x0, x1, x2, x3⟩ := cells4P HD1.out.row
      go_wp2_with fail
      refine (lowG _ _ m _ kl 1 (by omega) (by decide) (by omega) W1 HL.out HD1.out.ob).mono ?_
      rintro _ w5 ⟨oa5, oc5, rfl, hO5, hn5, hC5⟩
      have hD5 := HD1.out.step hO5 hn5 hC5
      have HD5 := Lib.hid hD5
      clear x0 x1 x2 x3 hO5 hn5 hC5 HD1 hD5
      obtain ⟨x0, x1, x2, x3⟩ := cells4P HD5.out.row
      obtain ⟨c0, c1, c2, c3, c4⟩ := cells5 HD5.out.db.box
      simp only [] at c0 c1 c2 c3 c4
      rw [HN.out] at c2
      have HNW := Lib.hid ((HIT.out.below HB.out HD5.out.db.bel).k)
      have HL5 := Lib.hid (show (pheadB no gen ⟨2, lv, items, [], 0⟩ ++ [nb] ++ itemsB 2 (items.take j) ++ leb 1 kl).length = m + 1 by rw [List.length_append, HL.out, leb_length])
      have hr5 : m + 1 + kl ≤ 140737488355328 := by omega
      go_wp2_with (at_builtin; refine wpList_append_bytes rfl (.tmp 61) (.tmp 63) rfl (n := m + 1) (m := kl) (xs := key) HL5.out.symm rfl HD5.out.ob HKL.out.symm rfl HNW.out.1 HNW.out.2.2.2 hr5 ?_; intro oa6 oc6 w6 hO6 hC6 hb6 _; have hD6 := HD5.out.step hO6 (hb6.imp id (fun h => ⟨_, h, Nat.le_refl _⟩)) hC6; clear c0 c1 c2 c3 c4 x0 x1 x2 x3; obtain ⟨c0, c1, c2, c3, c4⟩ := cells5 hD6.db.box; simp only [] at c0 c1 c2 c3 c4; rw [HN.out] at c2; obtain ⟨x0, x1, x2, x3⟩ := cells4P hD6.row)
      clear hO6 hC6 hb6
      have HL6 := Lib.hid (show (pheadB no gen ⟨2, lv, items, [], 0⟩ ++ [nb] ++ itemsB 2 (items.take j) ++ leb 1 kl ++ key).length = m + 1 + kl by rw [List.length_append, HL5.out, HKL.out])
      have HD6 := Lib.hid hD6
      have HEQ := Lib.hid (item_index (key := key) (value := value) (cn := cn) (sz := size) (cur := pheadB no gen ⟨2, lv, items, [], 0⟩ ++ [nb] ++ itemsB 2 (items.take j)) (by rw [HKL.out]; exact HKB.out))
      rw [← HKB.out] at HEQ
      have HLN := Lib.hid (len_of HEQ.out Hmm.out HL.out (by rw [List.length_append, HL6.out, leb_length]))
      clear hch hD6 HD5
      try go_wp2_with fail
      refine (lowG _ _ (m + 1 + kl) _ cn 4 hcl (by decide) (by omega) w6 HL6.out HD6.out.ob).mono ?_
      rintro _ w8 ⟨oa8, oc8, rfl, hO8, hn8, hC8⟩
      go_wp2_with fail
      go_roundw
      case rel => exact Hnx.out _ _ _ _ _ _ (HD6.out.step hO8 hn8 hC8) HEQ.out _ HLN.out _ (by go_num)
      case measure => exact meas_succ HJ.out
    · obtain rfl : j = n := by omega
      have HTK := Lib.hid (show items.take j = items from List.take_of_length_le (by rw [HN.out]; exact Nat.le_refl _))
      have HLP := Lib.hid (show (pbody no gen ⟨2, lv, items, [], 0⟩).length = m by have h1 := HL.out; rw [HTK.out] at h1; rw [HBD.out, h1])
      rw [HTK.out] at hD
      have HDF := Lib.hid (show LowB w.heap.size (pbody no gen ⟨2, lv, items, [], 0⟩).length (pbody no gen ⟨2, lv, items, [], 0⟩) w (.returned (.slice oa m oc)) wr from by rw [HLP.out]; exact hD.fin HBD.out.symm HLP.out)
      clear hD hm hj hjn
      go_wp2_with fail
      go_ret
      exact HDF.out
end Go.Proofs.Ytkjgncmbhkhbnaa
namespace Go.Proofs.Ytkjgncmbhkhbnaa
open Go.RowKit
set_option linter.unusedVariables false
set_option maxRecDepth 100000

theorem dBody_any (no gen : Nat) (hno : no ≤ 65536) (hgen : gen ≤ 1099511627776) (p : PP) (ia : Option Addr) (ic : Nat) (da : Option Addr) (dc : Nat) (w : World) (hp : PgAt w.heap.size w p ia ic da dc) (hr : RightP p) :
    Calls Try.prog 52 #[.int .i64 (no : Int), .int .i64 (gen : Int), pgv p ia ic da dc] w (LowB w.heap.size (pbody no gen p).length (pbody no gen p) w) := by
  obtain ⟨kind, level, items, data, next⟩ := p
  have hk := hr.kind
  simp only at hk
  obtain rfl | rfl | rfl : kind = 1 ∨ kind = 2 ∨ kind = 3 := by omega
  · exact dBody_leaf no gen hno hgen level items data next ia ic da dc w hp hr
  · exact dBody_index no gen hno hgen level items data next ia ic da dc w hp hr
  · exact dBody_blob no gen hno hgen level items data next ia ic da dc w hp hr
theorem encd_own {w w' : World} {bs : List UInt8} {oa : Option Addr} {cap m : Nat} (hm : bs.length = m) (hO : OB w' oa cap bs) (hn : ∀ k, blk oa = some k → w.heap.size ≤ k) (hb : Below w.heap.size w w') : Encd (0, bs) w (.returned (.tuple #[.slice oa m cap, .int .i64 0])) w' := by
  subst hm
  exact ⟨oa, cap, rfl, hO, hn, hb⟩

set_option maxHeartbeats 1000000 in
theorem dEncode_any (no gen : Int) (p : PP) (ia : Option Addr) (ic : Nat) (da : Option Addr) (dc : Nat) (w : World) (hp : PgAt w.heap.size w p ia ic da dc) :
    Calls Try.prog 29 #[.int .i64 no, .int .i64 gen, pgv p ia ic da dc] w (Encd (penc no gen p) w) := by
  have HPG := Lib.hid fun w1 => dIsPage_any no w1
  by_cases h1 : isPg no = false
  · have HE := Lib.hid (show penc no gen p = (15, []) by unfold penc; rw [if_pos h1])
    rw [h1] at HPG
    have HB := Lib.hid (one_below w)
    clear hp h1
    rw [HE.out]
    unfold pgv
    generalize p.items.length = n
    generalize p.data.length = m
    go_enter Try.func29, Try.ntmps29
    go_wp2_with (first
      | (go_at_call 48; refine (HPG.out _).mono ?_; rintro _ _ ⟨rfl, rfl⟩))
    refine bodyPost_ret (v := .tuple #[.slice none 0 0, .int .i64 15]) (by simp [results, Try.results29, go_sem]) rfl ?_
    exact encd_no (HB.out _)
  have h1' : isPg no = true := by simpa using h1
  rw [h1'] at HPG
  by_cases h2 : gen < 0 ∨ 1099511627776 < gen
  · have HE := Lib.hid (show penc no gen p = (1, []) by unfold penc; rw [if_neg h1, if_pos h2])
    have HB := Lib.hid (one_below w)
    clear hp h1 h1'
    rw [HE.out]
    unfold pgv
    generalize p.items.length = n
    generalize p.data.length = m
    rcases h2 with h2 | h2
    · go_enter Try.func29, Try.ntmps29
      go_wp2_with (first
        | (go_at_call 48; refine (HPG.out _).mono ?_; rintro _ _ ⟨rfl, rfl⟩))
      refine bodyPost_ret (v := .tuple #[.slice none 0 0, .int .i64 1]) (by simp [results, Try.results29, go_sem]) rfl ?_
      exact encd_no (HB.out _)
    · have h3 : ¬ gen < 0 := by omega
      go_enter Try.func29, Try.ntmps29
      go_wp2_with (first
        | (go_at_call 48; refine (HPG.out _).mono ?_; rintro _ _ ⟨rfl, rfl⟩))
      refine bodyPost_ret (v := .tuple #[.slice none 0 0, .int .i64 1]) (by simp [results, Try.results29, go_sem]) rfl ?_
      exact encd_no (HB.out _)
  have hg : 0 ≤ gen ∧ gen ≤ 1099511627776 := by omega
  have HD := Lib.hid (DB.start w p ia ic da dc)
  have HCK := Lib.hid fun w1 (h : Below w.heap.size w w1) => show Calls Try.prog 27 #[pgv p ia ic da dc] w1 fun e w' => e = .returned (.int .i64 (pcheck p)) ∧ Below w1.heap.size w1 w' from dCheck_any p ia ic da dc w1 ((hp.below h).mono h.size)
  by_cases h3 : pcheck p = 0
  · have hpn : 1 ≤ no ∧ no ≤ 65536 := by simpa [isPg] using h1'
    have HE := Lib.hid (show penc no gen p = (0, pblock no.toNat gen.toNat p) by unfold penc; rw [if_neg h1, if_neg h2, if_neg (by simpa using h3)])
    have hr := pcheck_right h3
    obtain ⟨no, rfl⟩ := Int.eq_ofNat_of_zero_le (show 0 ≤ no by omega)
    obtain ⟨gen, rfl⟩ := Int.eq_ofNat_of_zero_le hg.1
    rw [Int.toNat_natCast, Int.toNat_natCast] at HE
    have HBY := Lib.hid fun w1 (h : Below w.heap.size w w1) => dBody_any no gen (by omega) (by omega) p ia ic da dc w1 ((hp.below h).mono h.size) hr
    have HLE := Lib.hid (hr.body no gen)
    have HBL := Lib.hid (pblock_length hr no gen)
    have HSM := Lib.hid fun oa cap w1 hb => dSummed_any oa cap (pbody no gen p) HLE.out w1 hb
    have HPB := Lib.hid (show summed (fullB (pbody no gen p)) = pblock no gen p from rfl)
    rw [HPB.out] at HSM
    rw [HE.out]
    rw [h3] at HCK
    unfold LowB at HBY HSM
    generalize pbody no gen p = bd at *
    generalize pblock no gen p = pb at *
    obtain ⟨l, hl⟩ : ∃ l, bd.length = l := ⟨_, rfl⟩
    simp only [hl] at HBY HSM
    clear hp h1 h1' HE h2 hpn hr h3 HPB HLE hl
    obtain ⟨hg1, hg2⟩ := hg
    have hg3 : ¬ (gen : Int) < 0 := by omega
    have hg4 : ¬ 1099511627776 < (gen : Int) := by omega
    obtain ⟨kind, level, items, data, next⟩ := p
    unfold pgv at *
    simp only at *
    obtain ⟨n, hn⟩ : ∃ n, items.length = n := ⟨_, rfl⟩
    obtain ⟨m, hm⟩ : ∃ m, data.length = m := ⟨_, rfl⟩
    rw [hn, hm] at HD HCK HBY ⊢
    have HN := Lib.hid hn
    have HM := Lib.hid hm
    clear hn hm
    go_enter Try.func29, Try.ntmps29
    have hD := HD.out
    obtain ⟨c0, c1, c2, c3, c4⟩ := cells5 hD.box
    simp only [] at c0 c1 c2 c3 c4
    rw [HN.out] at c2
    rw [HM.out] at c3
    go_wp2_with (first
      | (go_at_call 48; refine (HPG.out _).mono ?_; rintro _ _ ⟨rfl, rfl⟩))
    refine (HCK.out _ hD.bel).mono ?_
    rintro _ w2 ⟨rfl, hB2⟩
    replace hD := hD.below hB2
    clear c0 c1 c2 c3 c4 hB2
    obtain ⟨c0, c1, c2, c3, c4⟩ := cells5 hD.box
    simp only [] at c0 c1 c2 c3 c4
    rw [HN.out] at c2
    rw [HM.out] at c3
    go_wp2_with fail
    refine (HBY.out _ hD.bel).mono ?_
    rintro _ w3 ⟨oa3, oc3, rfl, hO3, hB3⟩
    have HB3 := Lib.hid (hD.bel.trans (hB3.mono hD.bel.size))
    have HO3 := Lib.hid hO3
    clear c0 c1 c2 c3 c4 hD hB3 hO3
    go_wp2_with fail
    refine (HSM.out oa3 oc3 w3 HO3.out.1.bts).mono ?_
    rintro _ w4 ⟨oa4, oc4, rfl, hO4, hB4⟩
    have HF := Lib.hid (encd_own HBL.out hO4.1 (fun k hk => Nat.le_trans HB3.out.size (hO4.2.2 k hk)) (HB3.out.trans (hB4.mono HB3.out.size)))
    clear hO4 hB4
    go_wp2_with fail
    refine bodyPost_ret (v := .tuple #[.slice oa4 512 oc4, .int .i64 0]) (by simp [results, Try.results29, go_sem]) rfl ?_
    exact HF.out
  · have HE := Lib.hid (show penc no gen p = (pcheck p, []) by unfold penc; rw [if_neg h1, if_neg h2, if_pos h3])
    rw [HE.out]
    generalize pcheck p = ec at HCK h3 ⊢
    clear hp h1 h1' HE h2
    obtain ⟨hg1, hg2⟩ := hg
    have hg3 : ¬ gen < 0 := by omega
    have hg4 : ¬ 1099511627776 < gen := by omega
    have hec : (ec != 0) = true := by rw [bne_iff_ne]; exact h3
    obtain ⟨kind, level, items, data, next⟩ := p
    unfold pgv at *
    simp only at *
    obtain ⟨n, hn⟩ : ∃ n, items.length = n := ⟨_, rfl⟩
    obtain ⟨m, hm⟩ : ∃ m, data.length = m := ⟨_, rfl⟩
    rw [hn, hm] at HD HCK ⊢
    have HN := Lib.hid hn
    have HM := Lib.hid hm
    clear hn hm
    go_enter Try.func29, Try.ntmps29
    have hD := HD.out
    obtain ⟨c0, c1, c2, c3, c4⟩ := cells5 hD.box
    simp only [] at c0 c1 c2 c3 c4
    rw [HN.out] at c2
    rw [HM.out] at c3
    go_wp2_with (first
      | (go_at_call 48; refine (HPG.out _).mono ?_; rintro _ _ ⟨rfl, rfl⟩))
    refine (HCK.out _ hD.bel).mono ?_
    rintro _ w2 ⟨rfl, hB2⟩
    replace hD := hD.below hB2
    clear c0 c1 c2 c3 c4 hB2
    go_wp2_with fail
    refine bodyPost_ret (v := .tuple #[.slice none 0 0, .int .i64 ec]) (by simp [results, Try.results29, go_sem]) rfl ?_
    exact encd_no hD.bel
end Go.Proofs.Ytkjgncmbhkhbnaa
namespace Go.Proofs.Ytkjgncmbhkhbnaa
open Go.RowKit
set_option linter.unusedVariables false
set_option maxRecDepth 100000

theorem dGuess_any (a : Option Addr) (cap : Nat) (bs : List UInt8) (hl : bs.length = 512) (w : World) (hb : Bts w a bs) :
    Calls Try.prog 59 #[.slice a 512 cap] w (GuesP (dguess bs) w) := by
  by_cases hk : fld bs 0 1 = 3
  · exact dGuess_blob a cap bs hl hk w hb
  · exact dGuess_items a cap bs hl hk w hb
theorem dguess_at {bs : List UInt8} {lo : Nat} {w : World} {ia : Option Addr} {ic : Nat} {da : Option Addr} {dc : Nat} (h : NewPg lo w (dguess bs) ia ic da dc) : PgAt w.heap.size w (dguess bs) ia ic da dc := by
  have h1 := fld_lt bs 0 1
  have h2 := fld_lt bs 1 1
  have h3 := fld_lt bs 14 2
  have h4 := fld_lt bs 16 4
  have h5 := piece_le bs 20 (fld bs 14 2)
  unfold dguess at h ⊢
  split at h
  · rename_i hk
    rw [if_pos hk]
    exact h.pgAt (fun x hx => (by cases hx)) (by simp only; omega) (Nat.zero_le _) ⟨by show (-9223372036854775808 : Int) ≤ 3; decide, by show (3 : Int) ≤ 9223372036854775807; decide⟩ ⟨by simp only; omega, by simp only; omega⟩ ⟨by simp only; omega, by simp only; omega⟩
  · rename_i hk
    rw [if_neg hk]
    exact h.pgAt (fun x hx => dst_small _ bs _ x hx) (Nat.zero_le _) (by simp only [dst_length]; omega) ⟨by simp only; omega, by simp only; omega⟩ ⟨by simp only; omega, by simp only; omega⟩ ⟨by simp only; decide, by simp only; decide⟩
theorem gen_high {bs : List UInt8} (h : 0 < (bs.getD 13 0).toNat) : ¬ fld bs 6 8 ≤ 1099511627776 := by
  simp only [fld_cons, fld_none]
  have h7 : 0 < (bs.getD (6 + 1 + 1 + 1 + 1 + 1 + 1 + 1) 0).toNat := h
  omega
theorem gen_low {bs : List UInt8} (h : ¬ 0 < (bs.getD 13 0).toNat) : fld bs 6 8 < 9223372036854775808 := by
  simp only [fld_cons, fld_none]
  have h0 := (bs.getD 6 0).toNat_lt
  have h1 := (bs.getD (6 + 1) 0).toNat_lt
  have h2 := (bs.getD (6 + 1 + 1) 0).toNat_lt
  have h3 := (bs.getD (6 + 1 + 1 + 1) 0).toNat_lt
  have h4 := (bs.getD (6 + 1 + 1 + 1 + 1) 0).toNat_lt
  have h5 := (bs.getD (6 + 1 + 1 + 1 + 1 + 1) 0).toNat_lt
  have h6 := (bs.getD (6 + 1 + 1 + 1 + 1 + 1 + 1) 0).toNat_lt
  have h7 : (bs.getD (6 + 1 + 1 + 1 + 1 + 1 + 1 + 1) 0).toNat = 0 := by show (bs.getD 13 0).toNat = 0; omega
  omega
theorem pdec_late {no : Int} {bs : List UInt8} (h1 : isPg no = true) (h2 : bs.length = 512) :
    pdec no bs = if fld bs 508 4 ≠ Crc.ofs (bs.take 508) then (6, zeroP, 0) else if (fld bs 2 4 : Int) ≠ no then (25, zeroP, 0)
      else if fld bs 6 8 ≤ 1099511627776 ∧ pcheck (dguess bs) = 0 ∧ pblock no.toNat (fld bs 6 8) (dguess bs) = bs then (0, dguess bs, fld bs 6 8) else (5, zeroP, 0) := by
  have hdr : unle (bs.drop 508) = fld bs 508 4 := by rw [fld, List.take_of_length_le (by rw [List.length_drop]; omega)]
  unfold pdec
  rw [if_neg (by simp [h1]), if_neg (by simp [h2]), hdr]
/-- the last question, by what Encode answers -/
theorem pdec_last {no : Int} {bs : List UInt8} (h1 : isPg no = true) {e : Int} {cs : List UInt8} {g : Nat} {p : PP} (he : penc no g p = (e, cs)) :
    (if g ≤ 1099511627776 ∧ pcheck p = 0 ∧ pblock no.toNat g p = bs then ((0 : Int), p, g) else (5, zeroP, 0)) = if e = 0 ∧ bs = cs then (0, p, g) else (5, zeroP, 0) := by
  have hc : (g ≤ 1099511627776 ∧ pcheck p = 0 ∧ pblock no.toNat g p = bs) ↔ (e = 0 ∧ bs = cs) := by
    unfold penc at he
    rw [if_neg (by simp [h1])] at he
    split at he
    · injection he with e1 e2
      constructor
      · intro h; omega
      · intro h; omega
    · rename_i hg
      split at he
      · rename_i hp
        injection he with e1 e2
        constructor
        · intro h; exact absurd h.2.1 hp
        · intro h; exact absurd (e1.trans h.1) hp
      · rename_i hp
        injection he with e1 e2
        rw [Int.toNat_natCast] at e2
        constructor
        · intro h; exact ⟨e1.symm, h.2.2.symm.trans e2⟩
        · intro h; exact ⟨by omega, Decidable.not_not.1 hp, e2.trans h.2.symm⟩
  simp only [hc]
theorem penc_small' {no gen : Int} {p : PP} {e : Int} {cs : List UInt8} (h : penc no gen p = (e, cs)) : cs.length ≤ 512 := by
  have h2 : cs = (penc no gen p).2 := by rw [h]
  rw [h2]
  unfold penc
  split
  · exact Nat.zero_le _
  · split
    · exact Nat.zero_le _
    · split
      · exact Nat.zero_le _
      · rename_i h
        exact Nat.le_of_eq (pblock_length (pcheck_right (Decidable.not_not.1 h)) _ _)
def zRow : Obj := .cells #[.int .i64 0, .int .i64 0, .slice none 0 0, .slice none 0 0, .int .i64 0] 27
/-- while Decode runs: the result's box -/
structure DZ (w0 : World) (w : World) : Prop where
  z : w.heap[w0.heap.size]? = some (.cells #[.int .i64 0, .int .i64 0, .slice none 0 0, .slice none 0 0, .int .i64 0] 27)
  bel : Below w0.heap.size w0 w
theorem DZ.below {w0 w w2 : World} (h : DZ w0 w) (hb : Below w.heap.size w w2) : DZ w0 w2 := ⟨(hb.block _ (rlt_of_heapP h.z)).trans h.z, h.bel.trans (hb.mono h.bel.size)⟩
theorem DZ.start (w : World) : DZ w (w.alloc (.cells #[.int .i64 0, .int .i64 0, .slice none 0 0, .slice none 0 0, .int .i64 0] 27)) := ⟨heap_alloc_new _ _, one_below _ _⟩
set_option maxHeartbeats 1000000 in
theorem dDecode_early (no : Int) (a : Option Addr) (cap : Nat) (bs : List UInt8) (w : World) (h : isPg no = false ∨ (isPg no = true ∧ bs.length ≠ 512)) :
    Calls Try.prog 32 #[.int .i64 no, .slice a bs.length cap] w (DecdP (pdec no bs) w) := by
  have HZ := Lib.hid (DZ.start w)
  have HPG := Lib.hid fun w1 => dIsPage_any no w1
  rcases h with h | ⟨h, hl⟩
  · have HE := Lib.hid (show pdec no bs = (15, zeroP, 0) by unfold pdec; rw [if_pos h])
    rw [h] at HPG
    rw [HE.out]
    generalize bs.length = n
    go_enter Try.func32, Try.ntmps32
    go_wp2_with fail
    generalize w.alloc (.cells #[.int .i64 0, .int .i64 0, .slice none 0 0, .slice none 0 0, .int .i64 0] 27) = W0 at *
    refine (HPG.out _).mono ?_
    rintro _ wx ⟨rfl, e0⟩
    rw [e0]
    clear e0 wx
    obtain ⟨r0, r1, r2, r3, r4, rf⟩ := cells5f HZ.out.z
    have f0 := rf 0
    have f1 := rf 1
    have f2 := rf 2
    have f3 := rf 3
    have f4 := rf 4
    clear rf
    go_wp2_with fail
    refine bodyPost_ret (v := .tuple #[.agg #[.int .i64 0, .int .i64 0, .slice none 0 0, .slice none 0 0, .int .i64 0], .int .i64 0, .int .i64 15]) (by simp [results, Try.results32, go_sem, r0, r1, r2, r3, r4]) rfl ?_
    exact decd_no (below_five HZ.out.bel (Nat.le_refl _) _ _ _ _ _)
  · have HE := Lib.hid (show pdec no bs = (16, zeroP, 0) by unfold pdec; rw [if_neg (by simp [h]), if_pos hl])
    rw [h] at HPG
    rw [HE.out]
    have hl1 : ((bs.length : Int) != 512) = true := by rw [bne_iff_ne]; omega
    generalize bs.length = n at hl1 hl ⊢
    go_enter Try.func32, Try.ntmps32
    go_wp2_with fail
    generalize w.alloc (.cells #[.int .i64 0, .int .i64 0, .slice none 0 0, .slice none 0 0, .int .i64 0] 27) = W0 at *
    refine (HPG.out _).mono ?_
    rintro _ wx ⟨rfl, e0⟩
    rw [e0]
    clear e0 wx
    obtain ⟨r0, r1, r2, r3, r4, rf⟩ := cells5f HZ.out.z
    have f0 := rf 0
    have f1 := rf 1
    have f2 := rf 2
    have f3 := rf 3
    have f4 := rf 4
    clear rf
    go_wp2_with fail
    refine bodyPost_ret (v := .tuple #[.agg #[.int .i64 0, .int .i64 0, .slice none 0 0, .slice none 0 0, .int .i64 0], .int .i64 0, .int .i64 16]) (by simp [results, Try.results32, go_sem, r0, r1, r2, r3, r4]) rfl ?_
    exact decd_no (below_five HZ.out.bel (Nat.le_refl _) _ _ _ _ _)
set_option maxHeartbeats 2000000 in
theorem dDecode_late (no : Int) (a : Option Addr) (cap : Nat) (bs : List UInt8) (w : World) (hpg : isPg no = true) (hl : bs.length = 512) (hb : Bts w a bs) (hcap : bs.length ≤ cap) :
    Calls Try.prog 32 #[.int .i64 no, .slice a bs.length cap] w (DecdP (pdec no bs) w) := by
  have HZ := Lib.hid (DZ.start w)
  have HPG := Lib.hid fun w1 => dIsPage_any no w1
  rw [hpg] at HPG
  obtain ⟨b, off, rfl, hbw, -⟩ := hb.at (k := 0) (by omega)
  have htl : (bs.take 508).length = 508 := by rw [List.length_take, hl]; rfl
  have HNU := Lib.hid fun (o n : Nat) (ho : o ≤ 1000000) (hn : n ≤ 8) (hf : fld bs o n < 9223372036854775808) (w1 : World) (h : Below w.heap.size w w1) => (dNumber_any (some ⟨b, off, none⟩) cap bs o n ho hn (by omega) w1 (hb.below h) hf).mono fun e w' (g : e = .returned (.int .i64 (fld bs o n : Nat)) ∧ w' = w1) => (show e = .returned (.int .i64 (fld bs o n : Nat)) ∧ w1 = w' from ⟨g.1, g.2.symm⟩)
  have HOF := Lib.hid fun (w1 : World) (h : Below w.heap.size w w1) => refOf_any (bs.take 508) (some ⟨b, off, none⟩) cap (by rw [htl]; decide) w1 ((hb.below h).take508 hl)
  have HGU := Lib.hid fun (w1 : World) (h : Below w.heap.size w w1) => dGuess_any (some ⟨b, off, none⟩) cap bs hl w1 (hb.below h)
  rw [htl] at HOF
  simp only [hl] at HNU
  unfold GuesP at HGU
  have HEN := Lib.hid fun (w1 : World) ia ic da dc (hp : PgAt w1.heap.size w1 (dguess bs) ia ic da dc) => dEncode_any no (fld bs 6 8 : Nat) (dguess bs) ia ic da dc w1 hp
  have HAT := Lib.hid fun (lo : Nat) (w1 : World) ia ic da dc (h : NewPg lo w1 (dguess bs) ia ic da dc) => dguess_at h
  have HC13 := Lib.hid fun (w1 : World) (h : Below w.heap.size w w1) => (show w1.cell? ⟨b, off + 13, none⟩ = some (.int .u8 ((bs.getD 13 0).toNat : Int)) by
    obtain ⟨b2, o2, e, -, h⟩ := (hb.below h).at (k := 13) (by rw [hl]; decide)
    cases e; exact h)
  have HBT := Lib.hid hb
  obtain ⟨e, cs, hpe⟩ : ∃ e cs, penc no (fld bs 6 8 : Nat) (dguess bs) = (e, cs) := ⟨_, _, rfl⟩
  have HCS := Lib.hid (penc_small' hpe)
  have HPD := Lib.hid (pdec_late hpg hl)
  rw [pdec_last hpg hpe] at HPD
  unfold Encd at HEN
  rw [hpe] at HEN
  simp only at HEN
  have HSA := Lib.hid fun (w1 : World) ao co (h : OB w1 ao co cs) (hb1 : Below w.heap.size w w1) => eqBytes_any bs cs (some ⟨b, off, none⟩) ao cap co (by omega) (Nat.le_trans HCS.out (by decide)) w1 (hb.below hb1) h.bts
  unfold Same at HSA
  rw [hl] at HSA
  obtain ⟨cl, hcl⟩ : ∃ cl, cs.length = cl := ⟨_, rfl⟩
  simp only [hcl] at HEN HSA
  have HN5 := Lib.hid (HNU.out 508 4 (by decide) (by decide) (fld_small bs 508 4 (by decide)))
  have HN2 := Lib.hid (HNU.out 2 4 (by decide) (by decide) (fld_small bs 2 4 (by decide)))
  have HN6 := Lib.hid fun h13 => HNU.out 6 8 (by decide) (by decide) (gen_low (bs := bs) h13)
  have HGH := Lib.hid (gen_high (bs := bs))
  have hsl := Crc.ofs_lt (bs.take 508)
  have hf5 := fld_lt bs 508 4
  have hf2 := fld_lt bs 2 4
  have hgl := gen_low (bs := bs)
  have hb13 := (bs.getD 13 0).toNat_lt
  have HX := Lib.hid fun (h : 0 < (bs.getD 13 0).toNat) => show (if e = 0 ∧ bs = cs then ((0 : Int), dguess bs, fld bs 6 8) else (5, zeroP, 0)) = (5, zeroP, 0) by
    rw [← pdec_last hpg hpe, if_neg (fun g => gen_high h g.1)]
  rw [hl] at hcap ⊢
  have hcapp : (508 : Int) ≤ (cap : Int) := by omega
  generalize Crc.ofs (bs.take 508) = sm at HOF HPD hsl
  generalize fld bs 508 4 = sv at HN5 HPD hf5
  generalize fld bs 2 4 = n2 at HN2 HPD hf2
  generalize fld bs 6 8 = gg at HN6 HPD HX HEN hgl
  generalize (bs.getD 13 0).toNat = b13 at HC13 HN6 HX hgl hb13
  clear hb htl hcl hpe HNU HGH hcap
  generalize dguess bs = p at *
  obtain ⟨kd, lv, its, ds, nx⟩ := p
  unfold pgv at HGU HEN
  simp only at HGU HEN
  obtain ⟨il, hil⟩ : ∃ il, its.length = il := ⟨_, rfl⟩
  obtain ⟨dl, hdl⟩ : ∃ dl, ds.length = dl := ⟨_, rfl⟩
  simp only [hil, hdl] at HGU HEN
  have HIL := Lib.hid hil
  have HDL := Lib.hid hdl
  clear hil hdl
  go_enter Try.func32, Try.ntmps32
  go_wp2_with fail
  generalize w.alloc (.cells #[.int .i64 0, .int .i64 0, .slice none 0 0, .slice none 0 0, .int .i64 0] 27) = W0 at *
  refine (HPG.out _).mono ?_
  rintro _ wx ⟨rfl, e0⟩
  rw [e0]
  clear e0 wx
  go_wp2_with fail
  have HNq := Lib.hid fun n => HN5.out _ (below_drewN HZ.out.bel n)
  have HOq := Lib.hid fun n => HOF.out _ (below_drewN HZ.out.bel n)
  go_quiet (first | exact Calls.quiet_of_same ((HNq.out _).mono fun _ _ g => ⟨g.1, g.2.symm⟩) | exact Calls.quiet_of_same ((HOq.out _).mono fun _ _ g => ⟨g.1, g.2.symm⟩))
  have HZ1 := Lib.hid (HZ.out.below (below_drewN (Below.refl _ _) nq))
  generalize W0.drewN nq = W1 at HZ1 ⊢
  clear HNq HOq HN5 HOF HZ HPG
  by_cases hss : sv = sm
  rotate_left
  · have HE := Lib.hid (show pdec no bs = (6, zeroP, 0) by rw [HPD.out, if_pos hss])
    have hsd : ((sv : Int) != (sm : Int)) = true := by rw [bne_iff_ne]; omega
    obtain ⟨r0, r1, r2, r3, r4, rf⟩ := cells5f HZ1.out.z
    have f0 := rf 0
    have f1 := rf 1
    have f2 := rf 2
    have f3 := rf 3
    have f4 := rf 4
    clear rf
    go_wp2_with fail
    refine bodyPost_ret (v := .tuple #[.agg #[.int .i64 0, .int .i64 0, .slice none 0 0, .slice none 0 0, .int .i64 0], .int .i64 0, .int .i64 6]) (by simp [results, Try.results32, go_sem, r0, r1, r2, r3, r4]) rfl ?_
    rw [HE.out]
    exact decd_no (below_five HZ1.out.bel (Nat.le_refl _) _ _ _ _ _)
  rw [if_neg (by simpa using hss)] at HPD
  subst hss
  have hbb : ((sv : Int) != (sv : Int)) = false := by simp
  go_wp2_with fail
  refine (HN2.out _ HZ1.out.bel).mono ?_
  rintro _ _ ⟨rfl, rfl⟩
  clear HN2
  by_cases hno : (n2 : Int) = no
  rotate_left
  · have HE := Lib.hid (show pdec no bs = (25, zeroP, 0) by rw [HPD.out, if_pos hno])
    have hsd : ((n2 : Int) != no) = true := by rw [bne_iff_ne]; exact hno
    obtain ⟨r0, r1, r2, r3, r4, rf⟩ := cells5f HZ1.out.z
    have f0 := rf 0
    have f1 := rf 1
    have f2 := rf 2
    have f3 := rf 3
    have f4 := rf 4
    clear rf
    go_wp2_with fail
    refine bodyPost_ret (v := .tuple #[.agg #[.int .i64 0, .int .i64 0, .slice none 0 0, .slice none 0 0, .int .i64 0], .int .i64 0, .int .i64 25]) (by simp [results, Try.results32, go_sem, r0, r1, r2, r3, r4]) rfl ?_
    rw [HE.out]
    exact decd_no (below_five HZ1.out.bel (Nat.le_refl _) _ _ _ _ _)
  rw [if_neg (by simpa using hno)] at HPD
  have hbn : ((n2 : Int) != no) = false := by rw [bne_eq_false_iff_eq]; exact hno
  clear hno
  have hc13 := HC13.out _ HZ1.out.bel
  by_cases h13 : 0 < b13
  · have HE := Lib.hid (show pdec no bs = (5, zeroP, 0) by rw [HPD.out]; exact HX.out h13)
    have hI : (0 : Int) < (b13 : Int) := by omega
    obtain ⟨r0, r1, r2, r3, r4, rf⟩ := cells5f HZ1.out.z
    have f0 := rf 0
    have f1 := rf 1
    have f2 := rf 2
    have f3 := rf 3
    have f4 := rf 4
    clear rf
    go_wp2_with fail
    refine bodyPost_ret (v := .tuple #[.agg #[.int .i64 0, .int .i64 0, .slice none 0 0, .slice none 0 0, .int .i64 0], .int .i64 0, .int .i64 5]) (by simp [results, Try.results32, go_sem, r0, r1, r2, r3, r4]) rfl ?_
    rw [HE.out]
    exact decd_no (below_five HZ1.out.bel (Nat.le_refl _) _ _ _ _ _)
  have hI : ¬ (0 : Int) < (b13 : Int) := by omega
  have HN6 := Lib.hid (HN6.out h13)
  replace hgl := hgl h13
  clear HX h13
  go_wp2_with fail
  refine (HGU.out _ HZ1.out.bel).mono ?_
  rintro _ w2 ⟨ia, ic, da, dc, rfl, hN, hB2⟩
  have HZ2 := Lib.hid (HZ1.out.below hB2)
  have HNP := Lib.hid (hN.low (rlt_of_heapP HZ1.out.z))
  clear hN hB2 HGU hc13
  go_wp2_with fail
  refine (HN6.out _ HZ2.out.bel).mono ?_
  rintro _ _ ⟨rfl, rfl⟩
  clear HN6
  have HZ3 := Lib.hid (HZ2.out.below (one_below w2 (.cells #[.int .i64 kd, .int .i64 lv, .slice ia il ic, .slice da dl dc, .int .i64 nx] 27)))
  have HP3 := Lib.hid (HNP.out.below (one_below w2 (.cells #[.int .i64 kd, .int .i64 lv, .slice ia il ic, .slice da dl dc, .int .i64 nx] 27)))
  have HR3 := Lib.hid (heap_alloc_new w2 (.cells #[.int .i64 kd, .int .i64 lv, .slice ia il ic, .slice da dl dc, .int .i64 nx] 27))
  have hzq : w.heap.size ≠ w2.heap.size := Nat.ne_of_lt (rlt_of_heapP HZ2.out.z)
  have hzq2 : w2.heap.size ≠ w.heap.size := fun e => hzq e.symm
  obtain ⟨x0, x1, x2, x3, x4⟩ := cells5 HR3.out
  go_wp2_with fail
  clear x0 x1 x2 x3 x4
  generalize w2.alloc (.cells #[.int .i64 kd, .int .i64 lv, .slice ia il ic, .slice da dl dc, .int .i64 nx] 27) = w3 at HZ3 HP3 HR3 ⊢
  generalize w2.heap.size = q at *
  refine (HEN.out w3 ia ic da dc (HAT.out _ _ _ _ _ _ HP3.out)).mono ?_
  rintro _ w4 ⟨oa, oc, rfl, hO, -, hB4⟩
  have HZ4 := Lib.hid (HZ3.out.below hB4)
  have HP4 := Lib.hid (HP3.out.below hB4)
  have HR4 := Lib.hid ((hB4.block _ (rlt_of_heapP HR3.out)).trans HR3.out)
  have HO4 := Lib.hid hO
  clear hO hB4 HEN HZ3 HP3 HR3 HZ2 HNP HZ1
  by_cases he : e = 0
  rotate_left
  · have HE := Lib.hid (show pdec no bs = (5, zeroP, 0) by rw [HPD.out, if_neg (fun g => he g.1)])
    have hed : (e != 0) = true := by rw [bne_iff_ne]; exact he
    clear he
    obtain ⟨r0, r1, r2, r3, r4, rf⟩ := cells5f HZ4.out.z
    have f0 := rf 0
    have f1 := rf 1
    have f2 := rf 2
    have f3 := rf 3
    have f4 := rf 4
    clear rf
    go_wp2_with fail
    refine bodyPost_ret (v := .tuple #[.agg #[.int .i64 0, .int .i64 0, .slice none 0 0, .slice none 0 0, .int .i64 0], .int .i64 0, .int .i64 5]) (by simp [results, Try.results32, go_sem, r0, r1, r2, r3, r4]) rfl ?_
    rw [HE.out]
    exact decd_no (below_five HZ4.out.bel (Nat.le_refl _) _ _ _ _ _)
  subst he
  have H5 := Lib.hid (HSA.out w4 oa oc HO4.out HZ4.out.bel)
  clear HSA
  by_cases hbc : bs = cs
  rotate_left
  · have HE := Lib.hid (show pdec no bs = (5, zeroP, 0) by rw [HPD.out, if_neg (fun g => hbc g.2)])
    rw [decide_eq_false hbc] at H5
    go_wp2_with fail
    refine H5.out.mono ?_
    rintro _ w5 ⟨rfl, hB5⟩
    have HZ5 := Lib.hid (HZ4.out.below hB5)
    clear hB5 H5
    obtain ⟨r0, r1, r2, r3, r4, rf⟩ := cells5f HZ5.out.z
    have f0 := rf 0
    have f1 := rf 1
    have f2 := rf 2
    have f3 := rf 3
    have f4 := rf 4
    clear rf
    go_wp2_with fail
    refine bodyPost_ret (v := .tuple #[.agg #[.int .i64 0, .int .i64 0, .slice none 0 0, .slice none 0 0, .int .i64 0], .int .i64 0, .int .i64 5]) (by simp [results, Try.results32, go_sem, r0, r1, r2, r3, r4]) rfl ?_
    rw [HE.out]
    exact decd_no (below_five HZ5.out.bel (Nat.le_refl _) _ _ _ _ _)
  have HE := Lib.hid (show pdec no bs = (0, ⟨kd, lv, its, ds, nx⟩, gg) by rw [HPD.out, if_pos ⟨rfl, hbc⟩])
  rw [decide_eq_true hbc] at H5
  clear hbc
  go_wp2_with fail
  refine H5.out.mono ?_
  rintro _ w5 ⟨rfl, hB5⟩
  have HZ5 := Lib.hid (HZ4.out.below hB5)
  have HP5 := Lib.hid (HP4.out.below hB5)
  have HR5 := Lib.hid ((hB5.block _ (rlt_of_heapP HR4.out)).trans HR4.out)
  clear hB5 H5
  obtain ⟨x0, x1, x2, x3, x4⟩ := cells5 HR5.out
  obtain ⟨r0, r1, r2, r3, r4, rf⟩ := cells5f HZ5.out.z
  have f0 := rf 0
  have f1 := rf 1
  have f2 := rf 2
  have f3 := rf 3
  have f4 := rf 4
  clear rf
  go_wp2_with fail
  refine bodyPost_ret (v := .tuple #[.agg #[.int .i64 kd, .int .i64 lv, .slice ia il ic, .slice da dl dc, .int .i64 nx], .int .i64 (gg : Int), .int .i64 0]) (by simp [results, Try.results32, go_sem, r0, r1, r2, r3, r4]) rfl ?_
  rw [HE.out]
  have hf := decd_yes (gen := gg) HP5.out HZ5.out.bel (.int .i64 kd) (.int .i64 lv) (.slice ia il ic) (.slice da dl dc) (.int .i64 nx)
  unfold pgv at hf
  simp only [HIL.out, HDL.out] at hf
  exact hf
theorem dDecode_any (no : Int) (a : Option Addr) (cap : Nat) (bs : List UInt8) (w : World) (hb : Bts w a bs) (hc : bs.length ≤ cap) :
    Calls Try.prog 32 #[.int .i64 no, .slice a bs.length cap] w (DecdP (pdec no bs) w) := by
  by_cases h1 : isPg no = false
  · exact dDecode_early no a cap bs w (.inl h1)
  have h1 : isPg no = true := by simpa using h1
  by_cases h2 : bs.length = 512
  · exact dDecode_late no a cap bs w h1 h2 hb hc
  · exact dDecode_early no a cap bs w (.inr ⟨h1, h2⟩)
end Go.Proofs.Ytkjgncmbhkhbnaa
