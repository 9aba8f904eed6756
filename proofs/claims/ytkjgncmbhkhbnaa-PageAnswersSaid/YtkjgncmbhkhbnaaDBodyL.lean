/- The document's body of a page: a leaf. -/
import Derived.Test.YtkjgncmbhkhbnaaDBody
namespace Go.Proofs.Ytkjgncmbhkhbnaa
open Go.RowKit
set_option linter.unusedVariables false
set_option maxRecDepth 100000

set_option maxHeartbeats 4000000 in
theorem dBody_leaf (no gen : Nat) (hno : no ≤ 65536) (hgen : gen ≤ 1099511627776) (level : Int) (items : List PI) (data : List UInt8) (next : Int) (ia : Option Addr) (ic : Nat) (da : Option Addr) (dc : Nat) (w : World) (hp : PgAt w.heap.size w ⟨1, level, items, data, next⟩ ia ic da dc) (hr : RightP ⟨1, level, items, data, next⟩) :
    Calls Try.prog 52 #[.int .i64 (no : Int), .int .i64 (gen : Int), .agg #[.int .i64 1, .int .i64 level, .slice ia items.length ic, .slice da data.length dc, .int .i64 next]] w (LowB w.heap.size (pbody no gen ⟨1, level, items, data, next⟩).length (pbody no gen ⟨1, level, items, data, next⟩) w) := by
  have HP := Lib.hid hp
  have HRi := Lib.hid hr
  have hni := hr.items
  obtain ⟨hdata, hnx⟩ := hr.data (by show (1 : Int) ≠ 3; decide)
  have hlv := hr.level
  simp only at hni hdata hnx hlv
  obtain ⟨n, hn⟩ : ∃ n, items.length = n := ⟨_, rfl⟩
  subst hdata hnx
  obtain ⟨lv, rfl⟩ := Int.eq_ofNat_of_zero_le hlv.1
  have HD := Lib.hid (bg_start w ⟨1, lv, items, [], 0⟩ ia ic da dc (UInt8.ofNat (1 % 256)) (UInt8.ofNat (lv % 256)))
  simp only [] at HD
  rw [hn] at HD hni ⊢
  simp only [List.length_nil] at HD ⊢
  have HN := Lib.hid hn
  have hb1 : IntKind.u8.wrap 1 = (((UInt8.ofNat (1 % 256)).toNat : Nat) : Int) := by decide
  have hb2 : IntKind.u8.wrap (lv : Int) = (((UInt8.ofNat (lv % 256)).toNat : Nat) : Int) := by rw [u8_mod]; rfl
  have HPH := Lib.hid (show pheadB no gen ⟨1, lv, items, [], 0⟩ = UInt8.ofNat (1 % 256) :: UInt8.ofNat (lv % 256) :: (leb 4 no ++ leb 8 gen) from rfl)
  generalize UInt8.ofNat (1 % 256) = k1 at *
  generalize UInt8.ofNat (lv % 256) = l1 at *
  obtain ⟨nb, hnb⟩ : ∃ nb, leb 1 n = [nb] := ⟨_, rfl⟩
  have HTB := Lib.hid hnb
  have HBD := Lib.hid (show pbody no gen ⟨1, lv, items, [], 0⟩ = (pheadB no gen ⟨1, lv, items, [], 0⟩ ++ [nb]) ++ itemsB 1 items by
    unfold pbody ptailB
    rw [if_neg (by show ¬ (1 : Int) = 3; decide)]
    simp only
    rw [HN.out, HTB.out, List.append_assoc])
  have HH := Lib.hid (show [k1, l1] ++ leb 4 no ++ leb 8 gen ++ leb 1 n = pheadB no gen ⟨1, lv, items, [], 0⟩ ++ [nb] by rw [HPH.out, HTB.out]; simp)
  clear hp hr hn hlv hnb
  have c := cells5 (DB.start w ⟨1, lv, items, [], 0⟩ ia ic da dc).box
  obtain ⟨c0, c1, c2, c3, c4⟩ := c
  simp only [] at c0 c1 c2 c3 c4
  rw [HN.out] at c0 c1 c2 c3 c4
  simp only [List.length_nil] at c0 c1 c2 c3 c4
  go_enter Try.func52, Try.ntmps52
  go_wp2_with fail
  have hD := HD.out
  clear HD
  generalize World.alloc (World.alloc w _) _ = w1 at hD ⊢
  refine (lowG _ _ 2 _ no 4 (by omega) (by decide) (by decide) w1 rfl hD.ob).mono ?_
  rintro _ w2 ⟨oa2, oc2, rfl, hO2, hn2, hC2⟩
  replace hD := hD.step hO2 hn2 hC2
  clear c0 c1 c2 c3 c4 hO2 hn2 hC2
  go_wp2_with fail
  refine (lowG _ _ 6 _ gen 8 (by omega) (by decide) (by decide) w2 (by simp [leb_length]) hD.ob).mono ?_
  rintro _ w3 ⟨oa3, oc3, rfl, hO3, hn3, hC3⟩
  replace hD := hD.step hO3 hn3 hC3
  clear hO3 hn3 hC3
  obtain ⟨c0, c1, c2, c3, c4⟩ := cells5 hD.db.box
  simp only [] at c0 c1 c2 c3 c4
  rw [HN.out] at c2
  go_wp2_with fail
  refine (lowG _ _ 14 _ n 1 (by omega) (by decide) (by decide) w3 (by simp [leb_length]) hD.ob).mono ?_
  rintro _ w4 ⟨oa4, oc4, rfl, hO4, hn4, hC4⟩
  replace hD := hD.step hO4 hn4 hC4
  rw [HH.out] at hD
  have HDD := Lib.hid hD
  clear hO4 hn4 hC4 c0 c1 c2 c3 c4 hD hb1 hb2
  go_wp2_with fail
  go_loopw [7, 8] (fun o i wr => RelBd w ⟨1, lv, items, [], 0⟩ ia ic da dc (pheadB no gen ⟨1, lv, items, [], 0⟩ ++ [nb]) o i wr) (fun _ i _ => n - (intOf i).toNat)
  case atStart => exact ⟨0, oa4, oc4, Nat.zero_le _, rfl, by simp [itemsB], by simpa [itemsB, HN.out] using HDD.out⟩
  case round =>
    clear HDD
    obtain ⟨j, oa, oc, hj, rfl, rfl, hD⟩ := hrel
    have hj : j ≤ n := by rw [← HN.out]; exact hj
    simp only [] at hD ⊢
    rw [HN.out] at hD
    obtain ⟨m, hm⟩ : ∃ m, 15 + (itemsB 1 (items.take j)).length = m := ⟨_, rfl⟩
    rw [hm]
    have HL := Lib.hid (show ((pheadB no gen ⟨1, lv, items, [], 0⟩ ++ [nb]) ++ itemsB 1 (items.take j)).length = m by rw [List.length_append, List.length_append, pheadB_length, ← hm]; rfl)
    have Hmm := Lib.hid hm
    obtain ⟨c0, c1, c2, c3, c4⟩ := cells5 hD.db.box
    simp only [] at c0 c1 c2 c3 c4
    rw [HN.out] at c2
    by_cases hjn : j < n
    · obtain ⟨x, hx⟩ : ∃ x, items[j]? = some x := ⟨_, List.getElem?_eq_getElem (by rw [HN.out]; exact hjn)⟩
      obtain ⟨b, off, ka, kc, va, vc, rfl, hb, hit⟩ := HP.out.its.at hx
      have hxr := HRi.out.all j x hx
      have hmb : m ≤ 428 := by have := take_right HRi.out.all j; simp only at this; omega
      have Hnx := Lib.hid fun (wr : World) oa oc t o bs hD hb m hm i hi => relBd_next (w0 := w) (p := ⟨1, lv, items, [], 0⟩) (ia := some ⟨b, off, none⟩) (ic := ic) (da := da) (dc := dc) (hd := pheadB no gen ⟨1, lv, items, [], 0⟩ ++ [nb]) hx (wr := wr) (oa := oa) (oc := oc) (t := t) (o := o) (bs := bs) hD hb (m := m) hm (i := i) hi
      have hkl := hxr.key
      obtain ⟨hs0, hs1⟩ := hxr.leaf rfl
      have hsm := hxr.small rfl
      have hch := fun (h : 32 < x.size) => hxr.child (fun g => absurd g.2 (Int.not_le.2 h))
      have HIT := Lib.hid hit
      have HB := Lib.hid hb
      have HJ := Lib.hid hjn
      have hd1 := hit.below hb hD.db.bel
      have i0 := hd1.c0
      have i1 := hd1.c1
      have i2 := hd1.c2
      have i3 := hd1.c3
      clear hd1 hit hx hj hm
      obtain ⟨key, value, child, size⟩ := x
      simp only [] at i0 i1 i2 i3 hkl hch hs0 hs1 hsm
      obtain ⟨sz, rfl⟩ := Int.eq_ofNat_of_zero_le hs0
      obtain ⟨kl, hkl2⟩ : ∃ kl, key.length = kl := ⟨_, rfl⟩
      rw [hkl2] at i0 hkl
      have HKL := Lib.hid hkl2
      obtain ⟨kb, hkb⟩ : ∃ kb, leb 1 kl = [kb] := ⟨_, rfl⟩
      have HKB := Lib.hid hkb
      have HD1 := Lib.hid ((hD.below (one_below wr (.cells #[.slice ka kl kc, .slice va value.length vc, .int .i64 child, .int .i64 sz] 64))).box (heap_alloc_new wr (.cells #[.slice ka kl kc, .slice va value.length vc, .int .i64 child, .int .i64 sz] 64)) (fun k hk e => absurd (hD.ob.lt k hk) (by omega)))
      clear hkl2 hkb hD
      go_wp2_with fail
      generalize wr.alloc (.cells #[.slice ka kl kc, .slice va value.length vc, .int .i64 child, .int .i64 sz] 64) = W1 at HD1 ⊢
      generalize wr.heap.size = t at HD1 ⊢
      clear i0 i1 i2 i3 c0 c1 c2 c3 c4
      obtain ⟨x0, x1, x2, x3⟩ := cells4P HD1.out.row
      go_wp2_with fail
      refine (lowG _ _ m _ kl 1 (by omega) (by decide) (by omega) W1 HL.out HD1.out.ob).mono ?_
      rintro _ w5 ⟨oa5, oc5, rfl, hO5, hn5, hC5⟩
      have hD5 := HD1.out.step hO5 hn5 hC5
      have HD5 := Lib.hid hD5
      clear x0 x1 x2 x3 hO5 hn5 hC5 HD1 hD5
      obtain ⟨x0, x1, x2, x3⟩ := cells4P HD5.out.row
      obtain ⟨c0, c1, c2, c3, c4⟩ := cells5 HD5.out.db.box
      simp only [] at c0 c1 c2 c3 c4
      rw [HN.out] at c2
      have HNW := Lib.hid ((HIT.out.below HB.out HD5.out.db.bel).k)
      have HL5 := Lib.hid (show (pheadB no gen ⟨1, lv, items, [], 0⟩ ++ [nb] ++ itemsB 1 (items.take j) ++ leb 1 kl).length = m + 1 by rw [List.length_append, HL.out, leb_length])
      have hr5 : m + 1 + kl ≤ 140737488355328 := by omega
      go_wp2_with (at_builtin; refine wpList_append_bytes rfl (.tmp 61) (.tmp 63) rfl (n := m + 1) (m := kl) (xs := key) HL5.out.symm rfl HD5.out.ob HKL.out.symm rfl HNW.out.1 HNW.out.2.2.2 hr5 ?_; intro oa6 oc6 w6 hO6 hC6 hb6 _; have hD6 := HD5.out.step hO6 (hb6.imp id (fun h => ⟨_, h, Nat.le_refl _⟩)) hC6; clear c0 c1 c2 c3 c4 x0 x1 x2 x3; obtain ⟨c0, c1, c2, c3, c4⟩ := cells5 hD6.db.box; simp only [] at c0 c1 c2 c3 c4; rw [HN.out] at c2; obtain ⟨x0, x1, x2, x3⟩ := cells4P hD6.row)
      clear hO6 hC6 hb6
      have HL6 := Lib.hid (show (pheadB no gen ⟨1, lv, items, [], 0⟩ ++ [nb] ++ itemsB 1 (items.take j) ++ leb 1 kl ++ key).length = m + 1 + kl by rw [List.length_append, HL5.out, HKL.out])
      refine (lowG _ _ (m + 1 + kl) _ sz 2 (by omega) (by decide) (by omega) w6 HL6.out hD6.ob).mono ?_
      rintro _ w7 ⟨oa7, oc7, rfl, hO7, hn7, hC7⟩
      have HD7 := Lib.hid (hD6.step hO7 hn7 hC7)
      clear c0 c1 c2 c3 c4 x0 x1 x2 x3 hO7 hn7 hC7 hD6 HD5
      obtain ⟨x0, x1, x2, x3⟩ := cells4P HD7.out.row
      obtain ⟨c0, c1, c2, c3, c4⟩ := cells5 HD7.out.db.box
      simp only [] at c0 c1 c2 c3 c4
      rw [HN.out] at c2
      have HL7 := Lib.hid (show (pheadB no gen ⟨1, lv, items, [], 0⟩ ++ [nb] ++ itemsB 1 (items.take j) ++ leb 1 kl ++ key ++ leb 2 sz).length = m + 1 + kl + 2 by rw [List.length_append, HL6.out, leb_length])
      by_cases hsz : (sz : Int) ≤ 32
      · obtain ⟨hv, hc⟩ := hsm hsz
        have HNV := Lib.hid (HIT.out.below HB.out HD7.out.db.bel).v
        have hvl : m + 1 + kl + 2 + value.length ≤ 140737488355328 := by omega
        have HEQ := Lib.hid (item_small (key := key) (value := value) (child := child) (sz := sz) (cur := pheadB no gen ⟨1, lv, items, [], 0⟩ ++ [nb] ++ itemsB 1 (items.take j)) (by rw [HKL.out]; exact HKB.out) hsz)
        rw [← HKB.out] at HEQ
        have HLN := Lib.hid (len_of HEQ.out Hmm.out HL.out (by rw [List.length_append, HL7.out]))
        clear hv hc hsm hch
        go_wp2_with (at_builtin; refine wpList_append_bytes rfl (.tmp 80) (.tmp 82) rfl (n := m + 1 + kl + 2) (m := value.length) (xs := value) HL7.out.symm rfl HD7.out.ob rfl rfl HNV.out.1 HNV.out.2.2.2 hvl ?_; intro oa8 oc8 w8 hO8 hC8 hb8 _)
        go_roundw
        case rel => exact Hnx.out _ _ _ _ _ _ (HD7.out.step hO8 (hb8.imp id (fun h => ⟨_, h, Nat.le_refl _⟩)) hC8) HEQ.out _ HLN.out _ (by go_num)
        case measure => exact meas_succ HJ.out
      · have hsz := Int.not_le.1 hsz
        have hc := hch hsz
        obtain ⟨cn, rfl⟩ := Int.eq_ofNat_of_zero_le (show 0 ≤ child by omega)
        have hcl : cn < 9223372036854775808 := by omega
        have HEQ := Lib.hid (item_great (key := key) (value := value) (cn := cn) (sz := sz) (cur := pheadB no gen ⟨1, lv, items, [], 0⟩ ++ [nb] ++ itemsB 1 (items.take j)) (by rw [HKL.out]; exact HKB.out) (Int.not_le.2 hsz))
        rw [← HKB.out] at HEQ
        have HLN := Lib.hid (len_of HEQ.out Hmm.out HL.out (by rw [List.length_append, HL7.out, leb_length]))
        clear hc hsm hch
        go_wp2_with fail
        refine (lowG _ _ (m + 1 + kl + 2) _ cn 4 hcl (by decide) (by omega) w7 HL7.out HD7.out.ob).mono ?_
        rintro _ w8 ⟨oa8, oc8, rfl, hO8, hn8, hC8⟩
        go_wp2_with fail
        go_roundw
        case rel => exact Hnx.out _ _ _ _ _ _ (HD7.out.step hO8 hn8 hC8) HEQ.out _ HLN.out _ (by go_num)
        case measure => exact meas_succ HJ.out
    · obtain rfl : j = n := by omega
      have HTK := Lib.hid (show items.take j = items from List.take_of_length_le (by rw [HN.out]; exact Nat.le_refl _))
      have HLP := Lib.hid (show (pbody no gen ⟨1, lv, items, [], 0⟩).length = m by have h1 := HL.out; rw [HTK.out] at h1; rw [HBD.out, h1])
      rw [HTK.out] at hD
      have HDF := Lib.hid (show LowB w.heap.size (pbody no gen ⟨1, lv, items, [], 0⟩).length (pbody no gen ⟨1, lv, items, [], 0⟩) w (.returned (.slice oa m oc)) wr from by rw [HLP.out]; exact hD.fin HBD.out.symm HLP.out)
      clear hD hm hj hjn
      go_wp2_with fail
      go_ret
      exact HDF.out
end Go.Proofs.Ytkjgncmbhkhbnaa
