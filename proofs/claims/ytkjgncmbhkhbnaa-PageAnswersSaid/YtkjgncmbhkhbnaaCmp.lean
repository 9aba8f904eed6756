/- bytes.Compare, and the document's Compare: the order of two lists of bytes. -/
import Derived.Test.YtkjgncmbhkhbnaaEq
import Derived.Lib.BytesEntry
namespace Go.Proofs.Ytkjgncmbhkhbnaa
open Go.RowKit
set_option linter.unusedVariables false

theorem run_loadB {P : Program} {w : World} {a : Option Addr} {bs : List UInt8} {c : Nat} (h : Bts w a bs) : (Extern.Bytes.bytesOf (.slice a bs.length c)).run P w = .ok ⟨bs.toArray⟩ w := by
  rcases h with rfl | ⟨b, off, rfl, _, hc⟩
  · cases a <;> rfl
  · have h := Lib.run_loadBytesX (P := P) w (bs.map fun b => (b.toNat : Int)) ⟨b, off, none⟩ .empty (fun j x hj => by
      have hjl := (List.getElem?_eq_some_iff.1 hj).1
      rw [List.length_map] at hjl
      rw [add_none, hc j hjl]
      rw [List.getElem?_map, List.getElem?_eq_getElem hjl] at hj
      simp only [Option.map_some, Option.some.injEq] at hj
      rw [← hj, List.getD_eq_getElem?_getD, List.getElem?_eq_getElem hjl]; rfl)
    rw [List.length_map] at h
    show (Extern.Bytes.loadBytes ⟨b, off, none⟩ bs.length .empty).run P w = _
    rw [h]
    congr 1
    apply ByteArray.ext
    show (#[] : Array UInt8) ++ (Lib.bytesOf (bs.map fun b => (b.toNat : Int))).toArray = bs.toArray
    simp [Lib.bytesOf, Function.comp_def]

theorem run_cmpB {P : Program} {w : World} {a b : Option Addr} {xs ys : List UInt8} {c d : Nat} (ha : Bts w a xs) (hb : Bts w b ys) :
    (Extern.BytealgCompare.compare #[.slice a xs.length c, .slice b ys.length d]).run P w = .ok (.int .i64 (Lib.compareBytes xs ys)) w := by
  change Sem.run P (do pure (goInt (Extern.BytealgCompare.cmp (← Extern.Bytes.bytesOf (.slice a xs.length c)) (← Extern.Bytes.bytesOf (.slice b ys.length d))))) w = _
  simp only [Sem.run_bind, Sem.run_pure, Result.andThen, run_loadB ha, run_loadB hb]
  rw [Lib.cmp_eq]
  rfl

set_option maxHeartbeats 400000 in
set_option maxRecDepth 100000 in
theorem bytesCompare_any (xs ys : List UInt8) (a b : Option Addr) (c d : Nat) (w : World) (ha : Bts w a xs) (hb : Bts w b ys) :
    Calls Try.prog 41 #[.slice a xs.length c, .slice b ys.length d] w fun e w' => e = .returned (.int .i64 (Lib.compareBytes xs ys)) ∧ w' = w := by
  have H := Lib.hid (run_cmpB (P := Try.prog) (c := c) (d := d) ha hb)
  generalize Lib.compareBytes xs ys = r at H ⊢
  generalize xs.length = n at H ⊢
  generalize ys.length = m at H ⊢
  clear ha hb
  go_enter Try.func41, Try.ntmps41
  go_wp2_with fail
  rw [run_callFunc_extern Try.func62 (by kernel_rfl) (by kernel_rfl) (by kernel_rfl) (e := Extern.BytealgCompare.compare) (by kernel_rfl), H.out]
  simp only [Result.andThen]
  rw [Oper.upon_value]
  go_wp2_with fail
  go_ret
  exact ⟨rfl, rfl⟩

/-! the order -/
theorem cmp_common : ∀ (p a b : List UInt8), Lib.compareBytes (p ++ a) (p ++ b) = Lib.compareBytes a b
  | [], _, _ => rfl
  | x :: p, a, b => by
    simp only [List.cons_append, Lib.compareBytes, UInt8.lt_irrefl, if_false]
    exact cmp_common p a b
theorem cmp_split {xs ys : List UInt8} {j : Nat} (h : xs.take j = ys.take j) : Lib.compareBytes xs ys = Lib.compareBytes (xs.drop j) (ys.drop j) := by
  conv => lhs; rw [← List.take_append_drop j xs, ← List.take_append_drop j ys, h]
  exact cmp_common _ _ _
theorem drop_at {xs : List UInt8} {j : Nat} (h : j < xs.length) : xs.drop j = xs.getD j 0 :: xs.drop (j + 1) := by
  rw [List.drop_eq_getElem_cons h, List.getD_eq_getElem?_getD, List.getElem?_eq_getElem h]; rfl
theorem cmp_lt {xs ys : List UInt8} {j : Nat} (h : xs.take j = ys.take j) (hx : j < xs.length) (hy : j < ys.length) (hl : (xs.getD j 0).toNat < (ys.getD j 0).toNat) : Lib.compareBytes xs ys = -1 := by
  rw [cmp_split h, drop_at hx, drop_at hy, Lib.compareBytes, if_pos (UInt8.lt_iff_toNat_lt.2 hl)]
theorem cmp_gt {xs ys : List UInt8} {j : Nat} (h : xs.take j = ys.take j) (hx : j < xs.length) (hy : j < ys.length) (hl : (ys.getD j 0).toNat < (xs.getD j 0).toNat) : Lib.compareBytes xs ys = 1 := by
  rw [cmp_split h, drop_at hx, drop_at hy, Lib.compareBytes, if_neg (fun g => by have := UInt8.lt_iff_toNat_lt.1 g; omega), if_pos (UInt8.lt_iff_toNat_lt.2 hl)]
theorem cmp_long {xs ys : List UInt8} {j : Nat} (h : xs.take j = ys.take j) (hx : j < xs.length) (hy : ys.length ≤ j) : Lib.compareBytes xs ys = 1 := by
  rw [cmp_split h, drop_at hx, List.drop_eq_nil_of_le hy]; rfl
theorem cmp_short {xs ys : List UInt8} {j : Nat} (h : xs.take j = ys.take j) (hx : xs.length ≤ j) (hy : j < ys.length) : Lib.compareBytes xs ys = -1 := by
  rw [cmp_split h, drop_at hy, List.drop_eq_nil_of_le hx]; rfl
theorem cmp_self : ∀ (xs : List UInt8), Lib.compareBytes xs xs = 0
  | [] => rfl
  | x :: xs => by simp only [Lib.compareBytes, UInt8.lt_irrefl, if_false]; exact cmp_self xs

/-- what Compare answers -/
def Cmp3 (xs ys : List UInt8) (w : World) (x : Ending) (w' : World) : Prop := x = .returned (.int .i64 (Lib.compareBytes xs ys)) ∧ Below w.heap.size w w'
theorem ret_i64 {a b : Int} (h : a = b) : Ending.returned (.int .i64 a) = .returned (.int .i64 b) := by rw [h]
theorem compare3_any (xs ys : List UInt8) (a b : Option Addr) (c d : Nat) (hx : xs.length ≤ 4611686018427387904) (hy : ys.length ≤ 4611686018427387904) (w : World) (ha : Bts w a xs) (hb : Bts w b ys) :
    Calls Try.prog 45 #[.slice a xs.length c, .slice b ys.length d] w (Cmp3 xs ys w) := by
  obtain ⟨n, en⟩ : ∃ n, xs.length = n := ⟨_, rfl⟩
  obtain ⟨m, em⟩ : ∃ m, ys.length = m := ⟨_, rfl⟩
  rw [en, em]
  have En := Lib.hid en
  have Em := Lib.hid em
  rw [en] at hx
  rw [em] at hy
  clear en em
  go_enter Try.func45, Try.ntmps45
  go_wp2_with fail
  go_loopw [5] (fun i wr => RelCmp xs ys w i wr) (fun i _ => n - (intOf i).toNat)
  case atStart => exact ⟨0, Nat.zero_le _, Nat.zero_le _, rfl, rfl, Below.refl _ _⟩
  case round =>
    obtain ⟨j, hj1, hj2, rfl, ht, hB⟩ := hrel
    rw [En.out] at hj1
    rw [Em.out] at hj2
    have Ht := Lib.hid ht
    have HB := Lib.hid hB
    have ha1 := ha.below hB
    have hb1 := hb.below hB
    clear ht hB ha hb
    by_cases h1 : j < n
    · by_cases h2 : j < m
      · obtain ⟨b1, o1, rfl, -, c1⟩ := ha1.at (k := j) (by rw [En.out]; exact h1)
        obtain ⟨b2, o2, rfl, -, c2⟩ := hb1.at (k := j) (by rw [Em.out]; exact h2)
        have hi1 : (j : Int) < (n : Int) := by omega
        have hi2 : (j : Int) < (m : Int) := by omega
        have HL := Lib.hid (fun h => cmp_lt Ht.out (by rw [En.out]; exact h1) (by rw [Em.out]; exact h2) h)
        have HG := Lib.hid (fun h => cmp_gt Ht.out (by rw [En.out]; exact h1) (by rw [Em.out]; exact h2) h)
        obtain ⟨x, ex⟩ : ∃ x, xs.getD j 0 = x := ⟨_, rfl⟩
        obtain ⟨y, ey⟩ : ∃ y, ys.getD j 0 = y := ⟨_, rfl⟩
        rw [ex] at c1 HL HG
        rw [ey] at c2 HL HG
        by_cases hxy : x = y
        · subst hxy
          have HN := Lib.hid (show xs.take (j + 1) = ys.take (j + 1) by rw [take_snoc (by rw [En.out]; exact h1), take_snoc (by rw [Em.out]; exact h2), Ht.out, ex, ey])
          clear ex ey HL HG
          go_wp2_with fail
          go_quiet (fail)
          go_wp2_with fail
          go_quiet (fail)
          go_wp2_with fail
          go_roundw
          case rel => exact ⟨j + 1, by rw [En.out]; omega, by rw [Em.out]; omega, by go_num, HN.out, below_drewN HB.out _⟩
          case measure => simp [intOf]; omega
        · by_cases hl : x.toNat < y.toNat
          · have HR := Lib.hid (HL.out hl)
            have hl2 : (x.toNat : Int) < (y.toNat : Int) := by omega
            clear ex ey HL HG
            go_wp2_with fail
            go_quiet (fail)
            go_wp2_with fail
            go_ret
            exact ⟨ret_i64 HR.out.symm, below_drewN HB.out _⟩
          · have hne2 : x.toNat ≠ y.toNat := fun e => hxy (UInt8.toNat_inj.1 e)
            have hl2 : (y.toNat : Int) < (x.toNat : Int) := by omega
            have hl3 : ¬ (x.toNat : Int) < (y.toNat : Int) := by omega
            have HR := Lib.hid (HG.out (by omega))
            clear ex ey HL HG
            go_wp2_with fail
            go_quiet (fail)
            go_wp2_with fail
            go_quiet (fail)
            go_wp2_with fail
            go_ret
            exact ⟨ret_i64 HR.out.symm, below_drewN (below_drewN HB.out _) _⟩
      · have HR := Lib.hid (cmp_long Ht.out (by rw [En.out]; exact h1) (by rw [Em.out]; omega))
        have hl2 : (m : Int) < (n : Int) := by omega
        have hl3 : ¬ (n : Int) < (m : Int) := by omega
        go_wp2_with fail
        all_goals
          go_ret
          exact ⟨ret_i64 HR.out.symm, HB.out⟩
    · by_cases h3 : n < m
      · have HR := Lib.hid (cmp_short Ht.out (by rw [En.out]; omega) (by rw [Em.out]; omega))
        have hl2 : (n : Int) < (m : Int) := by omega
        go_wp2_with fail
        all_goals
          go_ret
          exact ⟨ret_i64 HR.out.symm, HB.out⟩
      · have heq : xs = ys := by
          have h := Ht.out
          rwa [List.take_of_length_le (by rw [En.out]; omega), List.take_of_length_le (by rw [Em.out]; omega)] at h
        have HR := Lib.hid (show Lib.compareBytes xs ys = 0 by rw [heq]; exact cmp_self ys)
        go_wp2_with fail
        all_goals
          go_ret
          exact ⟨ret_i64 HR.out.symm, HB.out⟩
end Go.Proofs.Ytkjgncmbhkhbnaa
