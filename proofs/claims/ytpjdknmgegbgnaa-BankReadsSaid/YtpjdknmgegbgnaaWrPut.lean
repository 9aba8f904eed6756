/- The walks of width and Put, at the four kinds of numbers. -/
import Derived.Test.YtpjdknmgegbgnaaWrAdd
namespace Go.Proofs.Ytpjdknmgegbgnaa
open Go.RowKit

/-- the bytes of a number, the lowest first -/
def leb : Nat → Nat → List UInt8
  | 0, _ => []
  | k + 1, n => UInt8.ofNat (n % 256) :: leb k (n / 256)
theorem leb_length (k n : Nat) : (leb k n).length = k := by
  induction k generalizing n with
  | zero => rfl
  | succ k ih => simp [leb, ih]
theorem leb_get (k n j : Nat) (h : j < k) : (leb k n)[j]? = some (UInt8.ofNat (n / 256 ^ j % 256)) := by
  induction k generalizing n j with
  | zero => omega
  | succ k ih =>
    cases j with
    | zero => simp [leb]
    | succ j =>
      rw [leb, List.getElem?_cons_succ, ih _ _ (by omega), Nat.div_div_eq_div_mul, Nat.pow_succ, Nat.mul_comm 256]
theorem u8_mod (n : Nat) : ((UInt8.ofNat (n % 256)).toNat : Int) = (n : Int) % 256 := by
  rw [UInt8.toNat_ofNat']; omega
theorem set_take_succ {l l2 : List UInt8} {j : Nat} {b : UInt8} (h1 : l.take j = l2.take j) (h2 : l2[j]? = some b) (h3 : j < l.length) : (l.set j b).take (j + 1) = l2.take (j + 1) := by
  apply List.ext_getElem?
  intro i
  have hj2 := (List.getElem?_eq_some_iff.1 h2).1
  by_cases hi : i < j
  · rw [List.getElem?_take_of_lt (by omega), List.getElem?_take_of_lt (by omega), List.getElem?_set_ne (by omega)]
    have := congrArg (·[i]?) h1
    simpa [List.getElem?_take_of_lt hi] using this
  · by_cases e : i = j
    · subst e
      rw [List.getElem?_take_of_lt (by omega), List.getElem?_take_of_lt (by omega), List.getElem?_set_self h3, h2]
    · rw [List.getElem?_eq_none (by rw [List.length_take, List.length_set]; omega), List.getElem?_eq_none (by rw [List.length_take]; omega)]
def RelPut (w0 : World) (g k n : Nat) (y i : Value) (wr : World) : Prop :=
  ∃ (j : Nat) (cur : List UInt8), j ≤ k ∧ i = .int .i64 j ∧ y = .int .u64 ((n / 256 ^ j : Nat) : Int) ∧ OB wr (some ⟨g, 0, none⟩) k cur ∧ cur.length = k ∧ cur.take j = (leb k n).take j ∧ Below w0.heap.size w0 wr
theorem Wrote.below {w w1 w2 : World} {p : Nat} {oa : Option Addr} {s : WS} (hc : Below w.heap.size w w1) (h : Wrote w1 p oa s w2) : Wrote w p oa s w2 := Wrote.after (Chg.of_below hc) h

set_option maxHeartbeats 400000 in
theorem width_uint8 (w : World) : Calls Try.prog 63 #[] w fun e w' => e = .returned (.int .i64 1) ∧ w = w' := by
  go_enter Try.func63, Try.ntmps63
  go_wp2
  go_rounds 2
  go_ret
  exact ⟨rfl, rfl⟩

set_option maxHeartbeats 1000000 in
theorem put_uint8 (p : Nat) (oa : Option Addr) (cap : Nat) (s : WS) (n : Nat) (hn : n < 18446744073709551616) (w : World) (h : IsW w p oa cap s) :
    Calls Try.prog 47 #[.pointer (some ⟨p, 0, none⟩), .int .u8 (n : Int)] w fun r w' => r = .returned (.tuple #[]) ∧ Wrote w p oa (s.add (leb 1 n)) w' := by
  have Hs := Lib.hid h
  have hmk : ∀ w, (Instr.makeSlice 32 (.int .i64 1) (.int .i64 1)).run Try.prog w = .ok (.slice (some ⟨w.heap.size, 0, none⟩) 1 1) (w.alloc (.cells #[.int .u8 0] 5)) := fun _ => by kernel_rfl
  have hp := h.lt
  have hblk := h.2.1.lt
  clear h
  go_enter Try.func47, Try.ntmps47
  go_wp2_with fail
  refine (width_uint8 _).mono ?_
  rintro _ _ ⟨rfl, rfl⟩
  go_wp2_with fail
  clear hmk
  go_loopw [5, 13] (fun y i wr => RelPut w w.heap.size 1 n y i wr) (fun _ i _ => 1 - (intOf i).toNat)
  case atStart => exact ⟨0, List.replicate 1 0, Nat.zero_le _, rfl, by simp, OB.made w (List.replicate 1 0) (by decide), rfl, rfl, (Below.refl _ _).alloc (Nat.le_refl _) _⟩
  case round =>
    obtain ⟨j, cur, hj, rfl, rfl, hO, hcl, htk, hB⟩ := hrel
    by_cases hlt : j < 1
    · obtain ⟨hc, hf⟩ := hO.cell (i := j) (by omega)
      have hy := u8_mod (n / 256 ^ j)
      have hyb : n / 256 ^ j < 18446744073709551616 := Nat.lt_of_le_of_lt (Nat.div_le_self _ _) hn
      have HY := Lib.hid (show n / 256 ^ (j + 1) = n / 256 ^ j / 256 by rw [Nat.pow_succ, Nat.div_div_eq_div_mul])
      have HO := Lib.hid (hO.set (i := j) (by omega) (UInt8.ofNat (n / 256 ^ j % 256)))
      have HT := Lib.hid (set_take_succ htk (leb_get 1 n j hlt) (by omega))
      have Hcl := Lib.hid hcl
      generalize UInt8.ofNat (n / 256 ^ j % 256) = b at hy HO HT
      generalize n / 256 ^ j = y at hy hyb HY
      have hy2 := Lib.hid hy.symm
      generalize cur.getD j 0 = old at hc
      clear hO hcl htk hy
      go_wp2_with fail
      go_roundw
      case rel =>
        rw [hy2.out]
        exact ⟨j + 1, cur.set j b, by omega, by go_num, by rw [HY.out]; go_num, HO.out, by rw [List.length_set]; exact Hcl.out, HT.out, hB.setCell (Nat.le_refl _) _⟩
      case measure => simp [intOf]; omega
    · have hcur : cur = leb 1 n := by
        rw [List.take_of_length_le (by omega), List.take_of_length_le (by rw [leb_length]; omega)] at htk; exact htk
      subst hcur
      have hz : wr.heap.size < (wr.alloc (.cells #[.slice (some ⟨w.heap.size, 0, none⟩) 1 1] 32)).heap.size := by simp
      have hB2 : Below w.heap.size w (wr.alloc (.cells #[.slice (some ⟨w.heap.size, 0, none⟩) 1 1] 32)) := hB.alloc hB.size _
      have hg := heap_alloc_new wr (.cells #[.slice (some ⟨w.heap.size, 0, none⟩) 1 1] 32)
      have hO2 := hO.below ((Below.refl _ _).alloc (Nat.le_refl _) (.cells #[.slice (some ⟨w.heap.size, 0, none⟩) 1 1] 32))
      have hsz := hB.size
      have H := Lib.hid fun W' (hW : Below w.heap.size w W') (hg : W'.heap[wr.heap.size]? = some (.cells #[.slice (some ⟨w.heap.size, 0, none⟩) 1 1] 32)) (hO : OB W' (some ⟨w.heap.size, 0, none⟩) 1 (leb 1 n)) =>
        add_any p wr.heap.size 1 oa cap s [⟨some ⟨w.heap.size, 0, none⟩, 1, leb 1 n⟩] (by simp [joinP, leb_length]) (by show 1 ≤ _; omega) W' (Hs.out.chg (F := fun _ => False) (Chg.of_below hW) (fun f => f) (fun _ _ f => f))
          (fun j x hx => by
            cases j with
            | zero => cases hx; exact ⟨by rw [cell_of_row _ _ 0 _ _ _ hg]; simp [leb_length], hO.bts, fun e => by cases e⟩
            | succ j => simp at hx)
          (lt_of_heap hg) ⟨⟨by omega, fun e => by have := hblk _ e; omega⟩, fun x hx => .inr fun k hk => by
            simp at hx; subst hx
            simp [blk] at hk; subst hk
            exact ⟨by omega, fun e => by have := hblk _ e; omega⟩⟩
      have H2 := Lib.hid (H.out _ hB2 hg hO2)
      rw [show joinP [⟨some ⟨w.heap.size, 0, none⟩, 1, leb 1 n⟩] = leb 1 n by simp [joinP]] at H2
      clear H hO hO2 hg hz hcl htk hsz hblk hp
      go_wp2_with fail
      refine H2.out.mono ?_
      rintro _ w3 ⟨rfl, h3⟩
      go_wp2_with fail
      go_end0
      exact ⟨rfl, Wrote.below hB2 h3⟩

set_option maxHeartbeats 400000 in
theorem width_uint16 (w : World) : Calls Try.prog 69 #[] w fun e w' => e = .returned (.int .i64 2) ∧ w = w' := by
  go_enter Try.func69, Try.ntmps69
  go_wp2
  go_rounds 3
  go_ret
  exact ⟨rfl, rfl⟩

set_option maxHeartbeats 1000000 in
theorem put_uint16 (p : Nat) (oa : Option Addr) (cap : Nat) (s : WS) (n : Nat) (hn : n < 18446744073709551616) (w : World) (h : IsW w p oa cap s) :
    Calls Try.prog 50 #[.pointer (some ⟨p, 0, none⟩), .int .u16 (n : Int)] w fun r w' => r = .returned (.tuple #[]) ∧ Wrote w p oa (s.add (leb 2 n)) w' := by
  have Hs := Lib.hid h
  have hmk : ∀ w, (Instr.makeSlice 32 (.int .i64 2) (.int .i64 2)).run Try.prog w = .ok (.slice (some ⟨w.heap.size, 0, none⟩) 2 2) (w.alloc (.cells #[.int .u8 0, .int .u8 0] 5)) := fun _ => by kernel_rfl
  have hp := h.lt
  have hblk := h.2.1.lt
  clear h
  go_enter Try.func50, Try.ntmps50
  go_wp2_with fail
  refine (width_uint16 _).mono ?_
  rintro _ _ ⟨rfl, rfl⟩
  go_wp2_with fail
  clear hmk
  go_loopw [5, 13] (fun y i wr => RelPut w w.heap.size 2 n y i wr) (fun _ i _ => 2 - (intOf i).toNat)
  case atStart => exact ⟨0, List.replicate 2 0, Nat.zero_le _, rfl, by simp, OB.made w (List.replicate 2 0) (by decide), rfl, rfl, (Below.refl _ _).alloc (Nat.le_refl _) _⟩
  case round =>
    obtain ⟨j, cur, hj, rfl, rfl, hO, hcl, htk, hB⟩ := hrel
    by_cases hlt : j < 2
    · obtain ⟨hc, hf⟩ := hO.cell (i := j) (by omega)
      have hy := u8_mod (n / 256 ^ j)
      have hyb : n / 256 ^ j < 18446744073709551616 := Nat.lt_of_le_of_lt (Nat.div_le_self _ _) hn
      have HY := Lib.hid (show n / 256 ^ (j + 1) = n / 256 ^ j / 256 by rw [Nat.pow_succ, Nat.div_div_eq_div_mul])
      have HO := Lib.hid (hO.set (i := j) (by omega) (UInt8.ofNat (n / 256 ^ j % 256)))
      have HT := Lib.hid (set_take_succ htk (leb_get 2 n j hlt) (by omega))
      have Hcl := Lib.hid hcl
      generalize UInt8.ofNat (n / 256 ^ j % 256) = b at hy HO HT
      generalize n / 256 ^ j = y at hy hyb HY
      have hy2 := Lib.hid hy.symm
      generalize cur.getD j 0 = old at hc
      clear hO hcl htk hy
      go_wp2_with fail
      go_roundw
      case rel =>
        rw [hy2.out]
        exact ⟨j + 1, cur.set j b, by omega, by go_num, by rw [HY.out]; go_num, HO.out, by rw [List.length_set]; exact Hcl.out, HT.out, hB.setCell (Nat.le_refl _) _⟩
      case measure => simp [intOf]; omega
    · have hcur : cur = leb 2 n := by
        rw [List.take_of_length_le (by omega), List.take_of_length_le (by rw [leb_length]; omega)] at htk; exact htk
      subst hcur
      have hz : wr.heap.size < (wr.alloc (.cells #[.slice (some ⟨w.heap.size, 0, none⟩) 2 2] 32)).heap.size := by simp
      have hB2 : Below w.heap.size w (wr.alloc (.cells #[.slice (some ⟨w.heap.size, 0, none⟩) 2 2] 32)) := hB.alloc hB.size _
      have hg := heap_alloc_new wr (.cells #[.slice (some ⟨w.heap.size, 0, none⟩) 2 2] 32)
      have hO2 := hO.below ((Below.refl _ _).alloc (Nat.le_refl _) (.cells #[.slice (some ⟨w.heap.size, 0, none⟩) 2 2] 32))
      have hsz := hB.size
      have H := Lib.hid fun W' (hW : Below w.heap.size w W') (hg : W'.heap[wr.heap.size]? = some (.cells #[.slice (some ⟨w.heap.size, 0, none⟩) 2 2] 32)) (hO : OB W' (some ⟨w.heap.size, 0, none⟩) 2 (leb 2 n)) =>
        add_any p wr.heap.size 1 oa cap s [⟨some ⟨w.heap.size, 0, none⟩, 2, leb 2 n⟩] (by simp [joinP, leb_length]) (by show 1 ≤ _; omega) W' (Hs.out.chg (F := fun _ => False) (Chg.of_below hW) (fun f => f) (fun _ _ f => f))
          (fun j x hx => by
            cases j with
            | zero => cases hx; exact ⟨by rw [cell_of_row _ _ 0 _ _ _ hg]; simp [leb_length], hO.bts, fun e => by cases e⟩
            | succ j => simp at hx)
          (lt_of_heap hg) ⟨⟨by omega, fun e => by have := hblk _ e; omega⟩, fun x hx => .inr fun k hk => by
            simp at hx; subst hx
            simp [blk] at hk; subst hk
            exact ⟨by omega, fun e => by have := hblk _ e; omega⟩⟩
      have H2 := Lib.hid (H.out _ hB2 hg hO2)
      rw [show joinP [⟨some ⟨w.heap.size, 0, none⟩, 2, leb 2 n⟩] = leb 2 n by simp [joinP]] at H2
      clear H hO hO2 hg hz hcl htk hsz hblk hp
      go_wp2_with fail
      refine H2.out.mono ?_
      rintro _ w3 ⟨rfl, h3⟩
      go_wp2_with fail
      go_end0
      exact ⟨rfl, Wrote.below hB2 h3⟩

set_option maxHeartbeats 400000 in
theorem width_uint32 (w : World) : Calls Try.prog 59 #[] w fun e w' => e = .returned (.int .i64 4) ∧ w = w' := by
  go_enter Try.func59, Try.ntmps59
  go_wp2
  go_rounds 5
  go_ret
  exact ⟨rfl, rfl⟩

set_option maxHeartbeats 1000000 in
theorem put_uint32 (p : Nat) (oa : Option Addr) (cap : Nat) (s : WS) (n : Nat) (hn : n < 18446744073709551616) (w : World) (h : IsW w p oa cap s) :
    Calls Try.prog 49 #[.pointer (some ⟨p, 0, none⟩), .int .u32 (n : Int)] w fun r w' => r = .returned (.tuple #[]) ∧ Wrote w p oa (s.add (leb 4 n)) w' := by
  have Hs := Lib.hid h
  have hmk : ∀ w, (Instr.makeSlice 32 (.int .i64 4) (.int .i64 4)).run Try.prog w = .ok (.slice (some ⟨w.heap.size, 0, none⟩) 4 4) (w.alloc (.cells #[.int .u8 0, .int .u8 0, .int .u8 0, .int .u8 0] 5)) := fun _ => by kernel_rfl
  have hp := h.lt
  have hblk := h.2.1.lt
  clear h
  go_enter Try.func49, Try.ntmps49
  go_wp2_with fail
  refine (width_uint32 _).mono ?_
  rintro _ _ ⟨rfl, rfl⟩
  go_wp2_with fail
  clear hmk
  go_loopw [5, 13] (fun y i wr => RelPut w w.heap.size 4 n y i wr) (fun _ i _ => 4 - (intOf i).toNat)
  case atStart => exact ⟨0, List.replicate 4 0, Nat.zero_le _, rfl, by simp, OB.made w (List.replicate 4 0) (by decide), rfl, rfl, (Below.refl _ _).alloc (Nat.le_refl _) _⟩
  case round =>
    obtain ⟨j, cur, hj, rfl, rfl, hO, hcl, htk, hB⟩ := hrel
    by_cases hlt : j < 4
    · obtain ⟨hc, hf⟩ := hO.cell (i := j) (by omega)
      have hy := u8_mod (n / 256 ^ j)
      have hyb : n / 256 ^ j < 18446744073709551616 := Nat.lt_of_le_of_lt (Nat.div_le_self _ _) hn
      have HY := Lib.hid (show n / 256 ^ (j + 1) = n / 256 ^ j / 256 by rw [Nat.pow_succ, Nat.div_div_eq_div_mul])
      have HO := Lib.hid (hO.set (i := j) (by omega) (UInt8.ofNat (n / 256 ^ j % 256)))
      have HT := Lib.hid (set_take_succ htk (leb_get 4 n j hlt) (by omega))
      have Hcl := Lib.hid hcl
      generalize UInt8.ofNat (n / 256 ^ j % 256) = b at hy HO HT
      generalize n / 256 ^ j = y at hy hyb HY
      have hy2 := Lib.hid hy.symm
      generalize cur.getD j 0 = old at hc
      clear hO hcl htk hy
      go_wp2_with fail
      go_roundw
      case rel =>
        rw [hy2.out]
        exact ⟨j + 1, cur.set j b, by omega, by go_num, by rw [HY.out]; go_num, HO.out, by rw [List.length_set]; exact Hcl.out, HT.out, hB.setCell (Nat.le_refl _) _⟩
      case measure => simp [intOf]; omega
    · have hcur : cur = leb 4 n := by
        rw [List.take_of_length_le (by omega), List.take_of_length_le (by rw [leb_length]; omega)] at htk; exact htk
      subst hcur
      have hz : wr.heap.size < (wr.alloc (.cells #[.slice (some ⟨w.heap.size, 0, none⟩) 4 4] 32)).heap.size := by simp
      have hB2 : Below w.heap.size w (wr.alloc (.cells #[.slice (some ⟨w.heap.size, 0, none⟩) 4 4] 32)) := hB.alloc hB.size _
      have hg := heap_alloc_new wr (.cells #[.slice (some ⟨w.heap.size, 0, none⟩) 4 4] 32)
      have hO2 := hO.below ((Below.refl _ _).alloc (Nat.le_refl _) (.cells #[.slice (some ⟨w.heap.size, 0, none⟩) 4 4] 32))
      have hsz := hB.size
      have H := Lib.hid fun W' (hW : Below w.heap.size w W') (hg : W'.heap[wr.heap.size]? = some (.cells #[.slice (some ⟨w.heap.size, 0, none⟩) 4 4] 32)) (hO : OB W' (some ⟨w.heap.size, 0, none⟩) 4 (leb 4 n)) =>
        add_any p wr.heap.size 1 oa cap s [⟨some ⟨w.heap.size, 0, none⟩, 4, leb 4 n⟩] (by simp [joinP, leb_length]) (by show 1 ≤ _; omega) W' (Hs.out.chg (F := fun _ => False) (Chg.of_below hW) (fun f => f) (fun _ _ f => f))
          (fun j x hx => by
            cases j with
            | zero => cases hx; exact ⟨by rw [cell_of_row _ _ 0 _ _ _ hg]; simp [leb_length], hO.bts, fun e => by cases e⟩
            | succ j => simp at hx)
          (lt_of_heap hg) ⟨⟨by omega, fun e => by have := hblk _ e; omega⟩, fun x hx => .inr fun k hk => by
            simp at hx; subst hx
            simp [blk] at hk; subst hk
            exact ⟨by omega, fun e => by have := hblk _ e; omega⟩⟩
      have H2 := Lib.hid (H.out _ hB2 hg hO2)
      rw [show joinP [⟨some ⟨w.heap.size, 0, none⟩, 4, leb 4 n⟩] = leb 4 n by simp [joinP]] at H2
      clear H hO hO2 hg hz hcl htk hsz hblk hp
      go_wp2_with fail
      refine H2.out.mono ?_
      rintro _ w3 ⟨rfl, h3⟩
      go_wp2_with fail
      go_end0
      exact ⟨rfl, Wrote.below hB2 h3⟩

set_option maxHeartbeats 400000 in
theorem width_uint64 (w : World) : Calls Try.prog 66 #[] w fun e w' => e = .returned (.int .i64 8) ∧ w = w' := by
  go_enter Try.func66, Try.ntmps66
  go_wp2
  go_rounds 9
  go_ret
  exact ⟨rfl, rfl⟩

set_option maxHeartbeats 1000000 in
theorem put_uint64 (p : Nat) (oa : Option Addr) (cap : Nat) (s : WS) (n : Nat) (hn : n < 18446744073709551616) (w : World) (h : IsW w p oa cap s) :
    Calls Try.prog 48 #[.pointer (some ⟨p, 0, none⟩), .int .u64 (n : Int)] w fun r w' => r = .returned (.tuple #[]) ∧ Wrote w p oa (s.add (leb 8 n)) w' := by
  have Hs := Lib.hid h
  have hmk : ∀ w, (Instr.makeSlice 32 (.int .i64 8) (.int .i64 8)).run Try.prog w = .ok (.slice (some ⟨w.heap.size, 0, none⟩) 8 8) (w.alloc (.cells #[.int .u8 0, .int .u8 0, .int .u8 0, .int .u8 0, .int .u8 0, .int .u8 0, .int .u8 0, .int .u8 0] 5)) := fun _ => by kernel_rfl
  have hp := h.lt
  have hblk := h.2.1.lt
  clear h
  go_enter Try.func48, Try.ntmps48
  go_wp2_with fail
  refine (width_uint64 _).mono ?_
  rintro _ _ ⟨rfl, rfl⟩
  go_wp2_with fail
  clear hmk
  go_loopw [5, 12] (fun y i wr => RelPut w w.heap.size 8 n y i wr) (fun _ i _ => 8 - (intOf i).toNat)
  case atStart => exact ⟨0, List.replicate 8 0, Nat.zero_le _, rfl, by simp, OB.made w (List.replicate 8 0) (by decide), rfl, rfl, (Below.refl _ _).alloc (Nat.le_refl _) _⟩
  case round =>
    obtain ⟨j, cur, hj, rfl, rfl, hO, hcl, htk, hB⟩ := hrel
    by_cases hlt : j < 8
    · obtain ⟨hc, hf⟩ := hO.cell (i := j) (by omega)
      have hy := u8_mod (n / 256 ^ j)
      have hyb : n / 256 ^ j < 18446744073709551616 := Nat.lt_of_le_of_lt (Nat.div_le_self _ _) hn
      have HY := Lib.hid (show n / 256 ^ (j + 1) = n / 256 ^ j / 256 by rw [Nat.pow_succ, Nat.div_div_eq_div_mul])
      have HO := Lib.hid (hO.set (i := j) (by omega) (UInt8.ofNat (n / 256 ^ j % 256)))
      have HT := Lib.hid (set_take_succ htk (leb_get 8 n j hlt) (by omega))
      have Hcl := Lib.hid hcl
      generalize UInt8.ofNat (n / 256 ^ j % 256) = b at hy HO HT
      generalize n / 256 ^ j = y at hy hyb HY
      have hy2 := Lib.hid hy.symm
      generalize cur.getD j 0 = old at hc
      clear hO hcl htk hy
      go_wp2_with fail
      go_roundw
      case rel =>
        rw [hy2.out]
        exact ⟨j + 1, cur.set j b, by omega, by go_num, by rw [HY.out]; go_num, HO.out, by rw [List.length_set]; exact Hcl.out, HT.out, hB.setCell (Nat.le_refl _) _⟩
      case measure => simp [intOf]; omega
    · have hcur : cur = leb 8 n := by
        rw [List.take_of_length_le (by omega), List.take_of_length_le (by rw [leb_length]; omega)] at htk; exact htk
      subst hcur
      have hz : wr.heap.size < (wr.alloc (.cells #[.slice (some ⟨w.heap.size, 0, none⟩) 8 8] 32)).heap.size := by simp
      have hB2 : Below w.heap.size w (wr.alloc (.cells #[.slice (some ⟨w.heap.size, 0, none⟩) 8 8] 32)) := hB.alloc hB.size _
      have hg := heap_alloc_new wr (.cells #[.slice (some ⟨w.heap.size, 0, none⟩) 8 8] 32)
      have hO2 := hO.below ((Below.refl _ _).alloc (Nat.le_refl _) (.cells #[.slice (some ⟨w.heap.size, 0, none⟩) 8 8] 32))
      have hsz := hB.size
      have H := Lib.hid fun W' (hW : Below w.heap.size w W') (hg : W'.heap[wr.heap.size]? = some (.cells #[.slice (some ⟨w.heap.size, 0, none⟩) 8 8] 32)) (hO : OB W' (some ⟨w.heap.size, 0, none⟩) 8 (leb 8 n)) =>
        add_any p wr.heap.size 1 oa cap s [⟨some ⟨w.heap.size, 0, none⟩, 8, leb 8 n⟩] (by simp [joinP, leb_length]) (by show 1 ≤ _; omega) W' (Hs.out.chg (F := fun _ => False) (Chg.of_below hW) (fun f => f) (fun _ _ f => f))
          (fun j x hx => by
            cases j with
            | zero => cases hx; exact ⟨by rw [cell_of_row _ _ 0 _ _ _ hg]; simp [leb_length], hO.bts, fun e => by cases e⟩
            | succ j => simp at hx)
          (lt_of_heap hg) ⟨⟨by omega, fun e => by have := hblk _ e; omega⟩, fun x hx => .inr fun k hk => by
            simp at hx; subst hx
            simp [blk] at hk; subst hk
            exact ⟨by omega, fun e => by have := hblk _ e; omega⟩⟩
      have H2 := Lib.hid (H.out _ hB2 hg hO2)
      rw [show joinP [⟨some ⟨w.heap.size, 0, none⟩, 8, leb 8 n⟩] = leb 8 n by simp [joinP]] at H2
      clear H hO hO2 hg hz hcl htk hsz hblk hp
      go_wp2_with fail
      refine H2.out.mono ?_
      rintro _ w3 ⟨rfl, h3⟩
      go_wp2_with fail
      go_end0
      exact ⟨rfl, Wrote.below hB2 h3⟩
end Go.Proofs.Ytpjdknmgegbgnaa
