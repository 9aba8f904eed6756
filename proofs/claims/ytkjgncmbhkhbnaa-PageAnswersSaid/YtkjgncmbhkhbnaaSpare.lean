/- The walks of CopyBytes, Spare, Kept. -/
import Derived.Test.YtkjgncmbhkhbnaaEq
import Derived.IntWalk
namespace Go.Proofs.Ytkjgncmbhkhbnaa
open Go.RowKit
set_option linter.unusedVariables false

/-- bytes in new memory -/
def NewB (w : World) (bs : List UInt8) (x : Ending) (w' : World) : Prop :=
  ∃ oa cap, x = .returned (.slice oa bs.length cap) ∧ OB w' oa cap bs ∧ (∀ k, blk oa = some k → w.heap.size ≤ k) ∧ Below w.heap.size w w'
theorem one_new (w : World) (b : UInt8) : Bts (w.alloc (.cells #[.int .u8 (b.toNat : Int)] 5)) (some ⟨w.heap.size, 0, none⟩) [b] :=
  .inr ⟨w.heap.size, 0, rfl, by simp, fun i hi => by
    obtain rfl : i = 0 := by simp at hi; omega
    have h := heap_alloc_new w (.cells #[.int .u8 (b.toNat : Int)] 5)
    rw [cell_of_row _ _ _ _ _ _ h]; rfl⟩
theorem make_bytes0 (w : World) (m : Nat) (hm : m ≤ 140737488355328) : ∃ w', (Instr.makeSlice 25 (.int .i64 0) (.int .i64 (m : Int))).run Try.prog w = .ok (.slice (some ⟨w.heap.size, 0, none⟩) 0 m) w' ∧ OB w' (some ⟨w.heap.size, 0, none⟩) m [] ∧ Below w.heap.size w w' ∧ w.heap.size < w'.heap.size := by
  obtain ⟨i0, hi, hz0, hz1, hz2⟩ := info_parts eB.hi
  obtain ⟨w', hr, ho, hg⟩ := run_make_own (P := Try.prog) (w := w) 0 25 5 i0 (.int .u8 0) 1 eB.hu hi hz0 hz1 .i64 .i64 m (by rw [hz2]; show 1 * m ≤ _; omega) (by unfold maxLen; omega) (Nat.zero_le _)
  have hO : OB w' (some ⟨w.heap.size, 0, none⟩) m [] := ho
  exact ⟨w', hr, hO, (Below.refl _ _).grown hg (Nat.le_refl _) (fun k hk => by cases hk), hO.lt _ rfl⟩

def RelCopy (w0 : World) (bs : List UInt8) (o i : Value) (wr : World) : Prop :=
  ∃ (k : Nat) (oa : Option Addr) (cap : Nat), k ≤ bs.length ∧ i = .int .i64 k ∧ o = .slice oa k cap ∧ OB wr oa cap (bs.take k) ∧ (∀ j, blk oa = some j → w0.heap.size ≤ j) ∧ Below w0.heap.size w0 wr
theorem relCopy_next {w0 wr w1 : World} {bs : List UInt8} {k : Nat} {oa oa2 : Option Addr} {cap2 : Nat} {b : UInt8} (hk : k < bs.length) (hb : bs.getD k 0 = b) (hoa : ∀ j, blk oa = some j → w0.heap.size ≤ j) (hB : Below w0.heap.size w0 wr)
    (hO : OB w1 oa2 cap2 (bs.take k ++ [b])) (hC : Chg (fun j => blk oa = some j) (wr.alloc (.cells #[.int .u8 (b.toNat : Int)] 5)) w1) (hb2 : blk oa2 = blk oa ∨ blk oa2 = some (wr.alloc (.cells #[.int .u8 (b.toNat : Int)] 5)).heap.size) {i : Value} (hi : i = .int .i64 ((k + 1 : Nat) : Int)) : RelCopy w0 bs (.slice oa2 (k + 1) cap2) i w1 := by
  subst hi
  have hB2 := hB.alloc hB.size (.cells #[.int .u8 (b.toNat : Int)] 5)
  refine ⟨k + 1, oa2, cap2, hk, rfl, rfl, by rw [take_snoc hk, hb]; exact hO, fun j hj => ?_, hB2.trans (hC.below hB2.size hoa)⟩
  rcases hb2 with h | h
  · exact hoa j (by rw [← h]; exact hj)
  · rw [h] at hj; cases hj; exact hB2.size

set_option maxHeartbeats 1000000 in
theorem copyBytes_any (a : Option Addr) (c : Nat) (bs : List UInt8) (hl : bs.length ≤ 140737488355328) (w : World) (hb : Bts w a bs) :
    Calls Try.prog 22 #[.slice a bs.length c] w (NewB w bs) := by
  obtain ⟨n, hn⟩ : ∃ n, bs.length = n := ⟨_, rfl⟩
  rw [hn] at hl ⊢
  have Hn := Lib.hid hn
  obtain ⟨w1, hmk, hO, hB, hz⟩ := make_bytes0 w n hl
  have HO := Lib.hid hO
  have HB := Lib.hid hB
  clear hn hO hB hz
  go_enter Try.func22, Try.ntmps22
  go_wp2_with fail
  clear hmk
  go_loopw [3, 4] (fun o i wr => RelCopy w bs o i wr) (fun _ i _ => n - (intOf i).toNat)
  case atStart => exact ⟨0, _, n, Nat.zero_le _, rfl, rfl, HO.out, fun j hj => by cases hj; exact Nat.le_refl _, HB.out⟩
  case round =>
    obtain ⟨k, oa, cap, hk, rfl, rfl, hO, hoa, hB⟩ := hrel
    rw [Hn.out] at hk
    by_cases hlt : k < n
    · obtain ⟨b0, o0, rfl, -, hc⟩ := (hb.below hB).at (k := k) (by rw [Hn.out]; exact hlt)
      obtain ⟨b, eb⟩ : ∃ b, bs.getD k 0 = b := ⟨_, rfl⟩
      rw [eb] at hc
      have HN := Lib.hid fun (w1 : World) (oa2 : Option Addr) (cap2 : Nat) (i : Value) => relCopy_next (w1 := w1) (oa2 := oa2) (cap2 := cap2) (i := i) (by rw [Hn.out]; exact hlt) eb hoa hB
      have Hk := Lib.hid (show k = (bs.take k).length by rw [List.length_take, Hn.out]; omega)
      have hO2 := hO.below ((Below.refl _ _).alloc (Nat.le_refl _) (.cells #[.int .u8 (b.toNat : Int)] 5))
      have hx := one_new wr b
      clear hO hoa hB eb
      go_wp2_with (at_builtin; refine wpList_append_bytes rfl (.tmp 14) (.tmp 19) rfl (m := 1) (xs := [b]) Hk.out rfl hO2 rfl rfl hx (fun e => by cases e) (by omega) ?_
                   intro oa2 cap2 w2 hO3 hC2 hb2 _)
      go_roundw
      case rel => exact HN.out _ _ _ _ hO3 hC2 hb2 (by go_num)
      case measure => simp [intOf]; omega
    · have hke : bs.take k = bs := List.take_of_length_le (by rw [Hn.out]; omega)
      rw [hke] at hO
      have hkn : k = n := by omega
      subst hkn
      have HF : NewB w bs (.returned (.slice oa k cap)) wr := ⟨oa, cap, by rw [Hn.out], hO, hoa, hB⟩
      have HF := Lib.hid HF
      clear hO hoa hB hke hb
      go_wp2_with fail
      go_ret
      exact HF.out

/-- what stands behind a list that Spare made -/
def markI (i : Nat) : Int := IntKind.u8.wrap (bits .xor .i64 165 (i : Int))
def mark (i : Nat) : UInt8 := UInt8.ofNat (markI i).toNat
theorem mark_eq (i : Nat) : ((mark i).toNat : Int) = markI i := by
  have h : 0 ≤ markI i ∧ markI i < 256 := by unfold markI; rw [IntKind.wrap]; simp [IntKind.signed, IntKind.bits]; omega
  rw [mark, UInt8.toNat_ofNat']; omega
def full (bs : List UInt8) : List UInt8 := bs ++ (List.range 64).map fun j => mark (bs.length + j)
theorem full_length (bs : List UInt8) : (full bs).length = bs.length + 64 := by simp [full]
theorem full_low {bs : List UInt8} {k : Nat} (h : k < bs.length) : (full bs)[k]? = some (bs.getD k 0) := by
  rw [full, List.getElem?_append_left h, List.getD_eq_getElem?_getD, List.getElem?_eq_getElem h]; rfl
theorem full_high {bs : List UInt8} {k : Nat} (h : bs.length ≤ k) (h2 : k < bs.length + 64) : (full bs)[k]? = some (mark k) := by
  rw [full, List.getElem?_append_right h, List.getElem?_map, List.getElem?_range (by omega)]
  simp [show bs.length + (k - bs.length) = k by omega]
theorem take_set_next {α : Type} {l l2 : List α} {j : Nat} {b : α} (h1 : l.take j = l2.take j) (h2 : l2[j]? = some b) (h3 : j < l.length) : (l.set j b).take (j + 1) = l2.take (j + 1) := by
  apply List.ext_getElem?
  intro i
  have hj2 := (List.getElem?_eq_some_iff.1 h2).1
  by_cases hi : i < j
  · rw [List.getElem?_take_of_lt (by omega), List.getElem?_take_of_lt (by omega), List.getElem?_set_ne (by omega)]
    have := congrArg (·[i]?) h1
    simpa [List.getElem?_take_of_lt hi] using this
  · by_cases e : i = j
    · subst e
      rw [List.getElem?_take_of_lt (by omega), List.getElem?_take_of_lt (by omega), List.getElem?_set_self h3, h2]
    · rw [List.getElem?_eq_none (by rw [List.length_take, List.length_set]; omega), List.getElem?_eq_none (by rw [List.length_take]; omega)]
/-- a list that Spare made, with its marks -/
def Spared (w : World) (g : Nat) (bs : List UInt8) : Prop := OB w (some ⟨g, 0, none⟩) (bs.length + 64) (full bs)
theorem OB.low {w : World} {oa : Option Addr} {cap : Nat} {bs xs : List UInt8} (h : OB w oa cap (bs ++ xs)) : Bts w oa bs := by
  rcases h.bts with h0 | ⟨b, off, h1, h2, h3⟩
  · exact .inl (List.append_eq_nil_iff.1 h0).1
  · refine .inr ⟨b, off, h1, h2, fun i hi => ?_⟩
    rw [h3 i (by rw [List.length_append]; omega)]
    simp [List.getD_eq_getElem?_getD, List.getElem?_append_left hi]
theorem Spared.bts {w : World} {g : Nat} {bs : List UInt8} (h : Spared w g bs) : Bts w (some ⟨g, 0, none⟩) bs := OB.low h
theorem Spared.below {w w' : World} {g : Nat} {bs : List UInt8} (h : Spared w g bs) (hb : Below w.heap.size w w') : Spared w' g bs := OB.below h hb
theorem Spared.chg {F : Nat → Prop} {w w' : World} {g : Nat} {bs : List UInt8} (h : Spared w g bs) (hc : Chg F w w') (hn : ¬ F g) : Spared w' g bs := OB.chg h hc fun k hk => by cases hk; exact hn
def NewSpare (w : World) (bs : List UInt8) (x : Ending) (w' : World) : Prop :=
  x = .returned (.slice (some ⟨w.heap.size, 0, none⟩) bs.length (bs.length + 64)) ∧ Spared w' w.heap.size bs ∧ Below w.heap.size w w'

theorem make_bytesF (w : World) (m : Nat) (hm : m ≤ 140737488355400) : ∃ w', (Instr.makeSlice 25 (.int .i64 (m : Int)) (.int .i64 (m : Int))).run Try.prog w = .ok (.slice (some ⟨w.heap.size, 0, none⟩) m m) w' ∧ OB w' (some ⟨w.heap.size, 0, none⟩) m (List.replicate m 0) ∧ Below w.heap.size w w' ∧ w.heap.size < w'.heap.size := by
  obtain ⟨i0, hi, hz0, hz1, hz2⟩ := info_parts eB.hi
  obtain ⟨w', hr, ho, hg⟩ := run_make_full (P := Try.prog) (w := w) 0 25 5 i0 (.int .u8 0) 1 eB.hu hi hz0 hz1 .i64 .i64 m (by rw [hz2]; show 1 * m ≤ _; omega) (by unfold maxLen; omega) (Nat.zero_le _)
  have hO : OB w' (some ⟨w.heap.size, 0, none⟩) m (List.replicate m 0) := by
    have e : (madeCells (Value.int .u8 0).cells (m * 1)).toList = cellsB (List.replicate m 0) := by
      rw [Nat.mul_one, show (Value.int .u8 0).cells = #[.int .u8 0] from rfl, toList_madeCells_one]
      simp [cellsB]
    rw [e] at ho
    show w'.ownsRow 0 _ _ _ _ _
    rw [List.length_replicate]; exact ho
  exact ⟨w', hr, hO, (Below.refl _ _).grown hg (Nat.le_refl _) (fun k hk => by cases hk), hO.lt _ rfl⟩

def RelSpare (w0 : World) (bs : List UInt8) (i : Value) (wr : World) : Prop :=
  ∃ (k : Nat) (cur : List UInt8), k ≤ bs.length + 64 ∧ i = .int .i64 k ∧ OB wr (some ⟨w0.heap.size, 0, none⟩) (bs.length + 64) cur ∧ cur.length = bs.length + 64 ∧ cur.take k = (full bs).take k ∧ Below w0.heap.size w0 wr
theorem relSpare_next {w0 wr : World} {bs cur : List UInt8} {k : Nat} {b : UInt8} (hO : OB wr (some ⟨w0.heap.size, 0, none⟩) (bs.length + 64) cur) (hl : cur.length = bs.length + 64) (ht : cur.take k = (full bs).take k) (hB : Below w0.heap.size w0 wr) (hk : k < bs.length + 64) (hb : (full bs)[k]? = some b) {i : Value} (hi : i = .int .i64 ((k + 1 : Nat) : Int)) : RelSpare w0 bs i (wr.setCell ⟨w0.heap.size, k, none⟩ (.int .u8 (b.toNat : Int))) := by
  subst hi
  exact ⟨k + 1, cur.set k b, hk, rfl, hO.set (by omega) b, by rw [List.length_set]; exact hl, take_set_next ht hb (by omega), hB.setCell (Nat.le_refl _) _⟩

set_option maxHeartbeats 1000000 in
theorem spare_any (a : Option Addr) (c : Nat) (bs : List UInt8) (hl : bs.length ≤ 140737488355328) (w : World) (hb : Bts w a bs) :
    Calls Try.prog 14 #[.slice a bs.length c] w (NewSpare w bs) := by
  obtain ⟨n, hn⟩ : ∃ n, bs.length = n := ⟨_, rfl⟩
  rw [hn] at hl ⊢
  have Hn := Lib.hid hn
  obtain ⟨w1, hmk, hO, hB, hz⟩ := make_bytesF w (n + 64) (by omega)
  rw [show ((n + 64 : Nat) : Int) = (n : Int) + 64 by omega] at hmk
  have HO := Lib.hid hO
  have HB := Lib.hid hB
  clear hn hO hB hz
  go_enter Try.func14, Try.ntmps14
  go_wp2_with fail
  clear hmk
  go_loopw [4] (fun i wr => RelSpare w bs i wr) (fun i _ => n + 64 - (intOf i).toNat)
  case atStart => exact ⟨0, List.replicate (n + 64) 0, Nat.zero_le _, rfl, by rw [Hn.out]; exact HO.out, by rw [Hn.out, List.length_replicate], rfl, HB.out⟩
  case round =>
    obtain ⟨k, cur, hk, rfl, hO, hcl, ht, hB⟩ := hrel
    have HN := Lib.hid fun (b : UInt8) (i : Value) (hk : k < bs.length + 64) => relSpare_next (b := b) (i := i) hO hcl ht hB hk
    have HB := Lib.hid hB
    rw [Hn.out] at hk hcl
    by_cases hlt : k < n + 64
    · obtain ⟨h1, h2⟩ := hO.cell (i := k) (by omega)
      by_cases hln : k < n
      · obtain ⟨b0, o0, rfl, -, hc⟩ := (hb.below hB).at (k := k) (by rw [Hn.out]; exact hln)
        have HF := Lib.hid (full_low (bs := bs) (k := k) (by rw [Hn.out]; exact hln))
        generalize bs.getD k 0 = b at hc HF
        generalize cur.getD k 0 = old at h1
        clear hO hcl ht hB
        go_wp2_with fail
        go_roundw
        case rel => exact HN.out _ _ (by rw [Hn.out]; exact hlt) HF.out (by go_num)
        case measure => simp [intOf]; omega
      · have HF := Lib.hid (full_high (bs := bs) (k := k) (by rw [Hn.out]; omega) (by rw [Hn.out]; exact hlt))
        generalize cur.getD k 0 = old at h1
        clear hO hcl ht hB
        go_wp2_with fail
        go_roundw
        case rel =>
          have h := HN.out _ (.int .i64 ((k + 1 : Nat) : Int)) (by rw [Hn.out]; exact hlt) HF.out rfl
          rw [mark_eq] at h
          exact h
        case measure => simp [intOf]; omega
    · have hkn : k = n + 64 := by omega
      have e : cur = full bs := by
        rwa [List.take_of_length_le (by omega), List.take_of_length_le (by rw [full_length, Hn.out]; omega)] at ht
      rw [e] at hO
      have HO := Lib.hid hO
      clear hO hcl ht hB hb
      go_wp2_with fail
      go_ret
      exact ⟨by rw [Hn.out]; rfl, HO.out, HB.out⟩

def RelKept (w0 : World) (n : Nat) (i : Value) (wr : World) : Prop := ∃ k : Nat, n ≤ k ∧ k ≤ n + 64 ∧ i = .int .i64 k ∧ Below w0.heap.size w0 wr
set_option maxHeartbeats 1000000 in
theorem kept_any (g : Nat) (b : Option Addr) (c : Nat) (bs : List UInt8) (hl : bs.length ≤ 140737488355328) (w : World) (hg : Spared w g bs) (hb : Bts w b bs) :
    Calls Try.prog 19 #[.slice (some ⟨g, 0, none⟩) bs.length (bs.length + 64), .slice b bs.length c] w fun x w' => x = .returned (.bool true) ∧ Below w.heap.size w w' := by
  have HE := eqBytes_any bs bs (some ⟨g, 0, none⟩) b (bs.length + 64) c (by omega) (by omega) w hg.bts hb
  obtain ⟨n, hn⟩ : ∃ n, bs.length = n := ⟨_, rfl⟩
  rw [hn] at hl HE ⊢
  have Hn := Lib.hid hn
  have HE := Lib.hid HE
  have Hg := Lib.hid hg
  clear hn hg hb
  go_enter Try.func19, Try.ntmps19
  go_wp2_with fail
  refine HE.out.mono ?_
  rintro _ w1 ⟨rfl, hB1⟩
  rw [show decide (bs = bs) = true by simp]
  have HB1 := Lib.hid hB1
  clear hB1
  go_wp2_with fail
  go_loopw [6] (fun i wr => RelKept w n i wr) (fun i _ => n + 64 - (intOf i).toNat)
  case atStart => exact ⟨n, Nat.le_refl _, by omega, rfl, HB1.out⟩
  case round =>
    obtain ⟨k, hk1, hk2, rfl, hB⟩ := hrel
    have HB := Lib.hid hB
    by_cases hlt : k < n + 64
    · obtain ⟨h1, h2⟩ := (Hg.out.below hB).cell (i := k) (by rw [full_length, Hn.out]; exact hlt)
      have e : (full bs).getD k 0 = mark k := by
        rw [List.getD_eq_getElem?_getD, full_high (by rw [Hn.out]; exact hk1) (by rw [Hn.out]; exact hlt)]; rfl
      rw [e, mark_eq, markI] at h1
      clear e hB h2
      go_wp2_with fail
      go_roundw
      case rel => exact ⟨k + 1, by omega, by omega, by go_num, HB.out⟩
      case measure => simp [intOf]; omega
    · clear hB
      go_wp2_with fail
      go_ret
      exact ⟨rfl, HB.out⟩
end Go.Proofs.Ytkjgncmbhkhbnaa
