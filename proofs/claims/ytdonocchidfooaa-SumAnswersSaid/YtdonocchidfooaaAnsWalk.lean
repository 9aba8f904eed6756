/- The walk of SumAnswers. -/
import Derived.Test.YtdonocchidfooaaOps
import Derived.Test.YtdonocchidfooaaRoomy
import Derived.Deep.RegionHeld3
import Derived.OneCell
namespace Go.Proofs.Ytdonocchidfooaa
open Go.RowKit
set_option linter.unusedVariables false

theorem below_next {W w' w1 : World} (h : Below W.heap.size W w') (h1 : Below w'.heap.size w' w1) : Below W.heap.size W w1 := h.trans (h1.mono h.size)
theorem OwnB.low {w : World} {base g cap : Nat} {xs ys : List UInt8} (h : OwnB w base g cap (xs ++ ys)) : Bts w (some ⟨g, 0, none⟩) xs :=
  .inr ⟨g, 0, rfl, h.lt.2, fun i hi => by rw [Nat.zero_add]; exact own_low h hi⟩
theorem OwnB.set_other {w : World} {base g cap : Nat} {bs : List UInt8} (h : OwnB w base g cap bs) {a : Addr} (ha : a.block ≠ g) (u : Value) : OwnB (w.setCell a u) base g cap bs :=
  ownsRow_setCell_other h (by simp [Value.ownBlock]; omega) u
/-- the second loop: the copy is written over, and the list with it -/
def RelB (w0 : World) (base1 base2 g1 cap1 g2 cap2 B n : Nat) (cs : Array Value) (i : Value) (wr : World) : Prop :=
  ∃ (k : Nat) (ls zs : List UInt8), k ≤ n ∧ i = .int .i64 k ∧ zs.length = n ∧ ls.length = n + 40 ∧ ls.take k = zs.take k ∧ OwnB wr base1 g1 cap1 ls ∧ OwnB wr base2 g2 cap2 zs ∧
    wr.heap[B]? = some (.cells cs 27) ∧ Below w0.heap.size w0 wr ∧ B < wr.heap.size
/-- what is laid over a byte -/
def over (k : Nat) : UInt8 := UInt8.ofNat (k * 37 + 1)
theorem over_nat (k : Nat) : ((over k).toNat : Int) = ((k : Int) * 37 + 1) % 256 := by
  unfold over; rw [UInt8.toNat_ofNat']; omega
theorem take_set_succ {l : List UInt8} {k : Nat} {x : UInt8} (h : k < l.length) : (l.set k x).take (k + 1) = l.take k ++ [x] := by
  apply List.ext_getElem?
  intro i
  by_cases h1 : i < k
  · rw [List.getElem?_take_of_lt (by omega), List.getElem?_set_ne (by omega), List.getElem?_append_left (by rw [List.length_take]; omega), List.getElem?_take_of_lt h1]
  · by_cases h2 : i = k
    · subst h2
      rw [List.getElem?_take_of_lt (by omega), List.getElem?_set_self h, List.getElem?_append_right (by rw [List.length_take]; omega), List.length_take]
      simp [show min i l.length = i by omega]
    · rw [List.getElem?_eq_none (by rw [List.length_take, List.length_set]; omega), List.getElem?_eq_none (by rw [List.length_append, List.length_take]; simp; omega)]
def RelA (w0 : World) (m : Nat) (i : Value) (wr : World) : Prop := ∃ k : Nat, k ≤ m ∧ i = .int .i64 k ∧ Below w0.heap.size w0 wr

set_option maxHeartbeats 2000000 in
theorem answers_all (a : Option Addr) (len m cap : Nat) (w : World) (hr : IsOps w a m) (hm : m ≤ 300) (hmc : m ≤ cap) (hmin : (if (300 : Int) < (len : Int) then (300 : Int) else (len : Int)) = (m : Int)) :
    Calls Try.prog 3 #[.slice a len cap] w fun e w' => e = .returned (.bool true) ∧ Below w.heap.size w w' := by
  go_enter Try.func3, Try.ntmps3
  go_wp2_with fail
  refine (fixed_any w).mono ?_
  rintro _ w1 ⟨rfl, b1⟩
  have Hmin := Lib.hid hmin
  clear hmin
  go_wp2_with fail
  go_loopw [3] (fun i wr => RelA w m i wr) (fun i _ => m - (intOf i).toNat)
  case atStart => exact ⟨0, Nat.zero_le _, rfl, b1⟩
  case round =>
    clear b1
    obtain ⟨k, hk, rfl, hB⟩ := hrel
    by_cases hlt : k < m
    · obtain ⟨b, off, rfl, hbs, o, hf, ⟨l0, l1, l2, l3, l4⟩, hbt⟩ : ∃ b off, a = some ⟨b, off, none⟩ ∧ b < w.heap.size ∧ ∃ o : Op1, o.fits ∧ o.lies w b (off + k * 5) ∧ Bts w o.a o.bs := by
        rcases hr with h0 | ⟨b, off, h1, h2, h3⟩
        · omega
        · exact ⟨b, off, h1, h2, h3 k hlt⟩
      replace l0 := (hB.cell (p := ⟨b, off + k * 5, none⟩) hbs).trans l0
      replace l1 := (hB.cell (p := ⟨b, off + k * 5 + 1, none⟩) hbs).trans l1
      replace l2 := (hB.cell (p := ⟨b, off + k * 5 + 2, none⟩) hbs).trans l2
      replace l3 := (hB.cell (p := ⟨b, off + k * 5 + 3, none⟩) hbs).trans l3
      replace l4 := (hB.cell (p := ⟨b, off + k * 5 + 4, none⟩) hbs).trans l4
      have hbt1 := hbt.below hB
      obtain ⟨kind, n, s, t, a0, cap0, bs⟩ := o
      obtain ⟨hs, ht, ⟨hn0, hn⟩, hlen, ⟨hk0, hk1⟩⟩ := hf
      simp only at l0 l1 l2 l3 l4 hbt hbt1 hlen hs ht hn hn0 hk0 hk1
      clear hbt
      have hB0 : Below w.heap.size w (wr.alloc (.cells #[.int .i64 kind, .int .u32 s, .int .u32 t, .int .i64 n, .slice a0 bs.length cap0] 27)) := hB.alloc hB.size _
      have hbt2 := hbt1.below ((Below.refl wr.heap.size wr).alloc (Nat.le_refl _) (.cells #[.int .i64 kind, .int .u32 s, .int .u32 t, .int .i64 n, .slice a0 bs.length cap0] 27))
      have hg0 := Lib.hid (heap_alloc_new wr (.cells #[.int .i64 kind, .int .u32 s, .int .u32 t, .int .i64 n, .slice a0 bs.length cap0] 27))
      have hz0 : wr.heap.size < (wr.alloc (.cells #[.int .i64 kind, .int .u32 s, .int .u32 t, .int .i64 n, .slice a0 bs.length cap0] 27)).heap.size := by simp
      clear hbt1
      go_wp2_with fail
      clear l0 l1 l2 l3 l4
      have hwB : w.heap.size ≤ wr.heap.size := hB.size
      generalize hBB : wr.heap.size = B at hg0 hz0 hwB
      generalize wr.alloc (.cells #[.int .i64 kind, .int .u32 s, .int .u32 t, .int .i64 n, .slice a0 bs.length cap0] 27) = W0 at hB0 hbt2 hg0 hz0 ⊢
      clear hBB hB
      refine (roomy_any bs a0 cap0 hlen W0 hbt2).mono ?_
      rintro _ W ⟨g, capg, rfl, ow, hc1, hc2, b2⟩
      have hgW := (b2.block B hz0).trans hg0.out
      have zB : B < W.heap.size := Nat.lt_of_lt_of_le hz0 b2.size
      have hbtW := hbt2.below b2
      have hBW : Below w.heap.size w W := hB0.trans (b2.mono hB0.size)
      obtain ⟨hgl1, hgl2⟩ := ow.lt
      have hBg : B < g := Nat.lt_of_lt_of_le hz0 hgl1
      have HgW := Lib.hid hgW
      obtain ⟨x0, x1, x2, x3, x4⟩ := op_cells hgW
      have HA := Lib.hid fun (w' : World) (h : Below W.heap.size W w') => asked_any ⟨kind, n, s, t, a0, cap0, bs⟩ ⟨hs, ht, ⟨hn0, hn⟩, hlen, ⟨hk0, hk1⟩⟩ bs _ capg (by omega) w' ((ow.below h).low)
      have HT := Lib.hid fun (w' : World) (h : Below W.heap.size W w') => told_any ⟨kind, n, s, t, a0, cap0, bs⟩ ⟨hs, ht, ⟨hn0, hn⟩, hlen, ⟨hk0, hk1⟩⟩ bs a0 cap0 (by omega) w' (hbtW.below h)
      have HU := Lib.hid fun (w' : World) (h : Below W.heap.size W w') => untouched_any bs a0 cap0 g capg hlen w' (hbtW.below h) (ow.below h)
      simp only [Op1.val] at HA HT
      generalize Op1.ans ⟨kind, n, s, t, a0, cap0, bs⟩ bs = A1 at HA HT
      clear hgW hg0 hbt2 hz0 b2 hB0
      go_wp2_with fail
      have Hk := Lib.hid fun (w' : World) (h : Below W.heap.size W w') => show w'.cell? ⟨B, 0, none⟩ = some (.int .i64 kind) ∧ w'.cell? ⟨B, 1, none⟩ = some (.int .u32 s) ∧ w'.cell? ⟨B, 2, none⟩ = some (.int .u32 t) ∧ w'.cell? ⟨B, 3, none⟩ = some (.int .i64 n) ∧ w'.cell? ⟨B, 4, none⟩ = some (.slice a0 bs.length cap0) ∧ Below W.heap.size W w' from
        ⟨(h.cell (p := ⟨B, 0, none⟩) (by show B < _; omega)).trans x0, (h.cell (p := ⟨B, 1, none⟩) (by show B < _; omega)).trans x1, (h.cell (p := ⟨B, 2, none⟩) (by show B < _; omega)).trans x2, (h.cell (p := ⟨B, 3, none⟩) (by show B < _; omega)).trans x3, (h.cell (p := ⟨B, 4, none⟩) (by show B < _; omega)).trans x4, h⟩
      clear x0 x1 x2 x3 x4
      go_region_held3 (fun w' => w'.cell? ⟨B, 0, none⟩ = some (.int .i64 kind) ∧ w'.cell? ⟨B, 1, none⟩ = some (.int .u32 s) ∧ w'.cell? ⟨B, 2, none⟩ = some (.int .u32 t) ∧ w'.cell? ⟨B, 3, none⟩ = some (.int .i64 n) ∧ w'.cell? ⟨B, 4, none⟩ = some (.slice a0 bs.length cap0) ∧ Below W.heap.size W w')
        (first
          | exact Hk.out _ (Below.drew (Below.refl _ _))
          | (refine Hk.out _ ?_; with_reducible assumption))
        (first
          | (go_at_call 16; go_split_ands; ((with_reducible refine (HA.out _ (by with_reducible assumption)).mono ?_); rintro e w1 ⟨rfl, hb1⟩)
             have hbn : Below W.heap.size W w1 := below_next (by with_reducible assumption) hb1)
          | (go_at_call 17; go_split_ands; ((with_reducible refine (HT.out _ (by with_reducible assumption)).mono ?_); rintro e w1 ⟨rfl, hb1⟩)
             have hbn : Below W.heap.size W w1 := below_next (by with_reducible assumption) hb1)
          | (go_at_call 18; go_split_ands; ((with_reducible refine (HU.out _ (by with_reducible assumption)).mono ?_); rintro e w1 ⟨rfl, hb1⟩)
             have hbn : Below W.heap.size W w1 := below_next (by with_reducible assumption) hb1))
      go_wp2_with fail
      have hbt5 := hbtW.below hbn
      refine (joined_any bs [] a0 none cap0 0 (by show bs.length + 0 ≤ _; omega) w1 hbt5 (.inl rfl)).mono ?_
      rintro _ w6 ⟨g2, capg2, rfl, ow2, b6⟩
      rw [List.append_nil] at ow2 ⊢
      have hb6 : Below W.heap.size W w6 := below_next hbn b6
      have owl6 := ow.below hb6
      have hg6 := (hb6.block B zB).trans HgW.out
      have hgg : g < g2 := Nat.lt_of_lt_of_le hgl2 (Nat.le_trans hbn.size ow2.lt.1)
      have zB6 : B < w6.heap.size := Nat.lt_of_lt_of_le zB hb6.size
      have hB6 : Below w.heap.size w w6 := hBW.trans (hb6.mono hBW.size)
      have hBw : w.heap.size ≤ B ∧ w.heap.size ≤ g := ⟨hwB, by omega⟩
      generalize hbase : W0.heap.size = base1 at owl6
      generalize hbase2 : w1.heap.size = base2 at ow2
      have HL : Hid (bs.length ≤ 140737488351232) := hlen
      clear hb6 b6 hbt5 hbn HU HA HT Hk hbtW ow hbase hbase2
      obtain ⟨wo, rfl⟩ : ∃ wo : World, wo = wr := ⟨_, rfl⟩
      go_wp2_with fail
      go_loopw [7] (fun i wr => RelB w base1 base2 g capg g2 capg2 B bs.length #[.int .i64 kind, .int .u32 s, .int .u32 t, .int .i64 n, .slice a0 bs.length cap0] i wr) (fun i _ => bs.length - (intOf i).toNat)
      case atStart => exact ⟨0, bs ++ marks 40, bs, Nat.zero_le _, rfl, rfl, by rw [List.length_append, marks_length], rfl, owl6, ow2, hg6, hB6, zB6⟩
      case round =>
        clear owl6 ow2 hg6 hB6 zB6
        obtain ⟨k2, ls, zs, hk2, rfl, hzl, hll, htk, owl, owz, hgB, hB7, zB7⟩ := hrel
        have Hzl := Lib.hid hzl
        have Hll := Lib.hid hll
        have Htk := Lib.hid htk
        have HgB := Lib.hid hgB
        have hzl2 : bs.length ≤ zs.length := by omega
        have hll2 : bs.length + 40 ≤ ls.length := by omega
        clear hzl hll htk hgB
        by_cases hlt2 : k2 < bs.length
        · have hz := owz.cell (i := k2) (by omega)
          have fz := owz.free k2
          have hl := owl.cell (i := k2) (by omega)
          have wo1 := (over_nat k2).symm
          have wb := u8_xor_nat (zs.getD k2 0).toNat (over k2).toNat (by have := (zs.getD k2 0).toNat_lt; omega) (by have := (over k2).toNat_lt; omega)
          rw [← UInt8.toNat_xor] at wb
          generalize zs.getD k2 0 ^^^ over k2 = zx at wb
          have owz8 := owz.set k2 zx
          have owl8 := owl.set_other (a := ⟨g2, k2, none⟩) (by show g2 ≠ g; omega) (.int .u8 (zx.toNat : Int))
          have c8 := owz8.cell (i := k2) (by rw [List.length_set]; omega)
          rw [show (zs.set k2 zx).getD k2 0 = zx by simp [List.getD_eq_getElem?_getD, List.getElem?_set_self (show k2 < zs.length by omega)]] at c8
          have c9 := owl8.cell (i := k2) (by omega)
          have f9 := owl8.free k2
          have Hl9 := Lib.hid (owl8.set k2 zx)
          have Hz9 := Lib.hid (owz8.set_other (a := ⟨g, k2, none⟩) (by show g ≠ g2; omega) (.int .u8 (zx.toNat : Int)))
          have hB9 := (hB7.setCell (p := ⟨g2, k2, none⟩) (by show w.heap.size ≤ g2; omega) (.int .u8 (zx.toNat : Int))).setCell (p := ⟨g, k2, none⟩) (by show w.heap.size ≤ g; omega) (.int .u8 (zx.toNat : Int))
          generalize zs.getD k2 0 = z0 at hz wb
          generalize ls.getD k2 0 = z1 at hl c9
          generalize over k2 = ov at wo1 wb
          clear owz owl owz8 owl8
          go_wp2_with fail
          go_roundw
          case rel =>
            refine ⟨k2 + 1, ls.set k2 zx, zs.set k2 zx, by omega, by go_num, by rw [List.length_set]; exact Hzl.out, by rw [List.length_set]; exact Hll.out, ?_, Hl9.out, Hz9.out, ?_, hB9, by simpa [World.setCell] using zB7⟩
            · rw [take_set_succ (by omega), take_set_succ (by omega), Htk.out]
            · rw [Below.heap_setCell _ _ _ _ (by show B ≠ g; omega), Below.heap_setCell _ _ _ _ (by show B ≠ g2; omega)]; exact HgB.out
          case measure => simp [intOf]; omega
        · have hke : k2 = bs.length := by omega
          have hls : ls = zs ++ ls.drop bs.length := by
            have h1 := Htk.out
            rw [hke] at h1
            rw [List.take_of_length_le (l := zs) (by have := Hzl.out; omega)] at h1
            rw [← h1, List.take_append_drop]
          have owl2 : OwnB wr base1 g capg (zs ++ ls.drop bs.length) := by rw [← hls]; exact owl
          obtain ⟨x0, x1, x2, x3, x4⟩ := op_cells HgB.out
          have HA := Lib.hid fun (w' : World) (h : Below wr.heap.size wr w') => asked_any ⟨kind, n, s, t, a0, cap0, bs⟩ ⟨hs, ht, ⟨hn0, hn⟩, hlen, ⟨hk0, hk1⟩⟩ zs _ capg (by have := Hzl.out; omega) w' ((owl2.below h).low)
          have HT := Lib.hid fun (w' : World) (h : Below wr.heap.size wr w') => told_any ⟨kind, n, s, t, a0, cap0, bs⟩ ⟨hs, ht, ⟨hn0, hn⟩, hlen, ⟨hk0, hk1⟩⟩ zs _ capg2 (by have := Hzl.out; omega) w' ((owz.below h).bts)
          simp only [Op1.val] at HA HT
          rw [Hzl.out] at HA HT
          generalize Op1.ans ⟨kind, n, s, t, a0, cap0, bs⟩ zs = A2 at HA HT
          clear hls owl2 owl owz hke
          go_wp2_with fail
          have Hkb := Lib.hid fun (w' : World) (h : Below wr.heap.size wr w') => show w'.cell? ⟨B, 0, none⟩ = some (.int .i64 kind) ∧ w'.cell? ⟨B, 1, none⟩ = some (.int .u32 s) ∧ w'.cell? ⟨B, 2, none⟩ = some (.int .u32 t) ∧ w'.cell? ⟨B, 3, none⟩ = some (.int .i64 n) ∧ w'.cell? ⟨B, 4, none⟩ = some (.slice a0 bs.length cap0) ∧ Below wr.heap.size wr w' from
            ⟨(h.cell (p := ⟨B, 0, none⟩) (by show B < _; omega)).trans x0, (h.cell (p := ⟨B, 1, none⟩) (by show B < _; omega)).trans x1, (h.cell (p := ⟨B, 2, none⟩) (by show B < _; omega)).trans x2, (h.cell (p := ⟨B, 3, none⟩) (by show B < _; omega)).trans x3, (h.cell (p := ⟨B, 4, none⟩) (by show B < _; omega)).trans x4, h⟩
          clear x0 x1 x2 x3 x4
          go_region_held3 (fun w' => w'.cell? ⟨B, 0, none⟩ = some (.int .i64 kind) ∧ w'.cell? ⟨B, 1, none⟩ = some (.int .u32 s) ∧ w'.cell? ⟨B, 2, none⟩ = some (.int .u32 t) ∧ w'.cell? ⟨B, 3, none⟩ = some (.int .i64 n) ∧ w'.cell? ⟨B, 4, none⟩ = some (.slice a0 bs.length cap0) ∧ Below wr.heap.size wr w')
            (first
              | exact Hkb.out _ (Below.drew (Below.refl _ _))
              | (refine Hkb.out _ ?_; with_reducible assumption))
            (first
              | (go_at_call 16; go_split_ands; ((with_reducible refine (HA.out _ (by with_reducible assumption)).mono ?_); rintro e w9 ⟨rfl, hb1⟩)
                 have hbn : Below wr.heap.size wr w9 := below_next (by with_reducible assumption) hb1)
              | (go_at_call 17; go_split_ands; ((with_reducible refine (HT.out _ (by with_reducible assumption)).mono ?_); rintro e w9 ⟨rfl, hb1⟩)
                 have hbn : Below wr.heap.size wr w9 := below_next (by with_reducible assumption) hb1))
          have hB8 : Below w.heap.size w w9 := hB7.trans (hbn.mono hB7.size)
          clear HA HT Hkb
          go_wp2_with fail
          go_roundw
          case rel => exact ⟨k + 1, by omega, by go_num, hB8⟩
          case measure => simp [intOf]; omega
    · go_wp2_with fail
      go_ret
      exact ⟨rfl, hB⟩

theorem sumAnswers_walk (a : Option Addr) (len cap : Nat) (w : World) (hr : IsOps w a len) (hl : len ≤ cap) (hc : cap ≤ 9223372036854775807) :
    Calls Try.prog 3 #[.slice a len cap] w fun e w' => e = .returned (.bool true) ∧ Below w.heap.size w w' := by
  by_cases h : len ≤ 300
  · exact answers_all a len len cap w hr h hl (by rw [if_neg (by omega)])
  · refine answers_all a len 300 cap w ?_ (Nat.le_refl _) (by omega) (by rw [if_pos (by omega)]; rfl)
    rcases hr with h0 | ⟨b, off, h1, h2, h3⟩
    · omega
    · exact .inr ⟨b, off, h1, h2, fun i hi => h3 i (by omega)⟩
end Go.Proofs.Ytdonocchidfooaa
