/- The document's writer: Short, Fill. -/
import Derived.Test.YtpjdknmgegbgnaaRwOps
namespace Go.Proofs.Ytpjdknmgegbgnaa
open Go.RowKit
set_option linter.unusedVariables false

def RelSh (w0 : World) (b0 : UInt8) (xs : List UInt8) (o i : Value) (wr : World) : Prop :=
  ∃ (k : Nat) (oa : Option Addr) (cap : Nat), k ≤ xs.length ∧ i = .int .i64 k ∧ o = .slice oa (k + 1) cap ∧ OB wr oa cap (b0 :: xs.take k) ∧ (∀ j, blk oa = some j → w0.heap.size ≤ j) ∧ Below w0.heap.size w0 wr
theorem relSh_next {w0 wr w1 : World} {xs : List UInt8} {k : Nat} {oa oa2 : Option Addr} {cap2 : Nat} {b0 b : UInt8} (hk : k < xs.length) (hb : xs.getD k 0 = b) (hoa : ∀ j, blk oa = some j → w0.heap.size ≤ j) (hB : Below w0.heap.size w0 wr) {o : Obj}
    (hO : OB w1 oa2 cap2 (b0 :: xs.take k ++ [b])) (hC : Chg (fun j => blk oa = some j) (wr.alloc o) w1) (hb2 : blk oa2 = blk oa ∨ blk oa2 = some (wr.alloc o).heap.size) {i : Value} (hi : i = .int .i64 ((k + 1 : Nat) : Int)) : RelSh w0 b0 xs (.slice oa2 (k + 1 + 1) cap2) i w1 := by
  subst hi
  have hB2 := hB.alloc hB.size o
  refine ⟨k + 1, oa2, cap2, hk, rfl, rfl, by rw [take_snoc hk, hb]; exact hO, fun j hj => ?_, hB2.trans (hC.below hB2.size hoa)⟩
  rcases hb2 with h | h
  · exact hoa j (by rw [← h]; exact hj)
  · rw [h] at hj; cases hj; exact hB2.size
theorem Wrote.from_err {w : World} {p : Nat} {oa : Option Addr} {s s' : WS} {w2 : World} {v : Value} (h : Wrote (w.setCell ⟨p, 2, none⟩ v) p oa s' w2) (hz : p < w.heap.size) : Wrote w p oa s' w2 := by
  obtain ⟨oa', cap', h1, h2, h3⟩ := h
  have e : (w.setCell ⟨p, 2, none⟩ v).heap.size = w.heap.size := by simp [World.setCell]
  refine ⟨oa', cap', h1, ((Chg.refl _ w).setCell _ _ fun _ => .inl rfl).trans h2 fun _ _ g => g, ?_⟩
  rcases h3 with h3 | ⟨k, h3, h4⟩
  · exact .inl h3
  · exact .inr ⟨k, h3, by rw [e] at h4; exact h4⟩

/-- how long a writer's list is -/
def lenAt (w : World) (p : Nat) : Nat := match w.cell? ⟨p, 1, none⟩ with | some (.slice _ l _) => l | _ => 0
def RelFill (w0 : World) (p : Nat) (oa : Option Addr) (s : WS) (n : Int) (wr : World) : Prop :=
  ∃ k : Nat, ((s.bs.length + k : Nat) : Int) ≤ n ∧ Wrote w0 p oa { s with bs := s.bs ++ List.replicate k 0 } wr

set_option maxHeartbeats 2000000 in
theorem rwFill_any (p : Nat) (oa : Option Addr) (cap : Nat) (s : WS) (n : Int) (w : World) (h : IsW w p oa cap s) :
    Calls Try.prog 55 #[.pointer (some ⟨p, 0, none⟩), .int .i64 n] w fun r w' => r = .returned (.tuple #[]) ∧ Wrote w p oa (s.fill n) w' := by
  obtain ⟨⟨T, h3⟩, h4, h5, h6, h7, h8⟩ := h
  have Hh := Lib.hid (show IsW w p oa cap s from ⟨⟨T, h3⟩, h4, h5, h6, h7, h8⟩)
  obtain ⟨c0, c1, c2, f⟩ := cells3 h3
  have f2 := f 2
  have hnb : s.bs.length ≤ 16777216 := by omega
  clear h3 h4 h5 f
  by_cases he : s.err = 0
  · have e1 : ((s.err : Int) != 0) = false := by rw [bne_eq_false_iff_eq]; omega
    by_cases t1 : n < s.bs.length
    · have HF := Lib.hid (show s.fill n = { s with err := 3 } by simp [WS.fill, WS.fail, t1, he])
      clear he h6
      go_enter Try.func55, Try.ntmps55
      go_wp2_with fail
      go_returns
      exact ⟨rfl, by rw [HF.out]; exact Hh.out.set_err 3 (by decide)⟩
    by_cases t2 : (s.most : Int) < n
    · have HF := Lib.hid (show s.fill n = { s with err := 4 } by simp [WS.fill, WS.fail, t1, t2, he])
      clear he h6
      go_enter Try.func55, Try.ntmps55
      go_wp2_with fail
      go_returns
      exact ⟨rfl, by rw [HF.out]; exact Hh.out.set_err 4 (by decide)⟩
    have hn0 : 0 ≤ n := by omega
    obtain ⟨m, rfl⟩ := Int.eq_ofNat_of_zero_le hn0
    have HF := Lib.hid (show ∀ k, s.bs.length + k = m → s.fill (m : Int) = { s with bs := s.bs ++ List.replicate k 0 } from fun k hk => by
      simp only [WS.fill, WS.add]
      rw [if_neg t1, if_neg t2, if_neg (by omega), Int.toNat_natCast, show m - s.bs.length = k by omega, if_neg (by rw [List.length_replicate]; omega)])
    have hmm : m ≤ s.most := by omega
    have h7' := h7
    clear he h6 hn0
    go_enter Try.func55, Try.ntmps55
    go_wp2_with fail
    clear c0 c1 c2 f2
    go_loopw [] (fun wr => RelFill w p oa s (m : Int) wr) (fun wr => m - lenAt wr p)
    case atStart => exact ⟨0, by omega, by simpa using Wrote.same Hh.out⟩
    case round =>
      obtain ⟨k, hk, oa1, cap1, hW, hC, hb⟩ := hrel
      by_cases hlt : s.bs.length + k < m
      · have HS := Lib.hid fun (W1 w2 : World) (oa2 : Option Addr) (cap2 q : Nat) (hq : q = _) => app_store (W1 := W1) (w2 := w2) (oa2 := oa2) (cap2 := cap2) (b := 0) hW (by show (s.bs ++ List.replicate k 0).length + 1 ≤ s.most; rw [List.length_append, List.length_replicate]; omega) hq
        have HC := Lib.hid hC
        have Hb := Lib.hid hb
        obtain ⟨⟨T, h3⟩, h4, h5, h6, h7, h8⟩ := hW
        obtain ⟨d0, d1, d2, f⟩ := cells3 h3
        have hcur : (s.bs ++ List.replicate k 0).length = s.bs.length + k := by rw [List.length_append, List.length_replicate]
        have hla : lenAt wr p = s.bs.length + k := by unfold lenAt; rw [d1]; exact hcur
        simp only [hcur] at d1
        have hB1 := (Below.refl wr.heap.size wr).alloc (Nat.le_refl _) (.cells #[.int .u8 0] 5)
        have HP := Lib.hid ((hB1.block p (lt_of_heap h3)).trans h3)
        have hpl : p < wr.heap.size := lt_of_heap h3
        have hO1 := h4.below hB1
        have Hcur := Lib.hid hcur
        have Hhp := Lib.hid h5
        have Hla := Lib.hid hla
        clear h3 h4 h5 h6 h7 h8 f hla hcur hC hb hB1
        go_wp2_with (at_builtin; refine wpList_append_bytes rfl (.tmp 39) (.tmp 40) rfl (m := 1) (xs := [0]) Hcur.out.symm rfl hO1 rfl rfl (one_new wr 0) (fun e => by cases e) (by omega) ?_
                     intro oa2 cap2 w2 hO2 hC2 hb2 _
                     have g3 := (hC2.block p (Nat.lt_of_lt_of_le hpl (by simp)) Hhp.out).trans HP.out
                     obtain ⟨d0', d1', d2', f'⟩ := cells3 g3
                     have f1' := f' 1
                     have G3 := Lib.hid g3
                     clear f' g3)
        have HN := Lib.hid (show RelFill w p oa s (m : Int) (w2.setCell ⟨p, 1, none⟩ (.slice oa2 (s.bs.length + k + 1) cap2)) from ⟨k + 1, by omega, by
          have h := HS.out _ w2 oa2 cap2 (s.bs.length + k) Hcur.out.symm ((Below.refl wr.heap.size wr).alloc (Nat.le_refl _) _) hO2 hC2 hb2
          rw [show List.replicate (k + 1) (0 : UInt8) = List.replicate k 0 ++ [0] from List.replicate_succ', ← List.append_assoc]
          exact Wrote.chain HC.out Hb.out h⟩)
        have hla2 : lenAt (w2.setCell ⟨p, 1, none⟩ (.slice oa2 (s.bs.length + k + 1) cap2)) p = s.bs.length + k + 1 := by
          unfold lenAt
          rw [(cells3 (set3_1 G3.out _)).2.1]
        have Hla2 := Lib.hid hla2
        clear hla2 hO2 hC2 hb2 hO1
        go_wp2_with fail
        go_roundw
        case rel => exact HN.out
        case measure => rw [Hla.out, Hla2.out]; omega
      · have hkm : s.bs.length + k = m := by omega
        rw [← HF.out k hkm] at hW
        have HFin := Lib.hid (show Wrote w p oa (s.fill (m : Int)) wr from ⟨oa1, cap1, hW, hC, hb⟩)
        rw [HF.out k hkm] at hW
        obtain ⟨⟨T, h3⟩, h4⟩ := hW
        obtain ⟨d0, d1, d2, f⟩ := cells3 h3
        simp only [List.length_append, List.length_replicate, hkm] at d1
        clear h3 h4 f hC hb hkm
        go_wp2_with fail
        go_end0
        exact ⟨rfl, HFin.out⟩
  · have e1 : ((s.err : Int) != 0) = true := by rw [bne_iff_ne]; omega
    have HF := Lib.hid (show s.fill n = s by simp only [WS.fill, WS.fail, WS.add, if_neg he, if_pos he]; split <;> (try split) <;> rfl)
    clear he h6
    go_enter Try.func55, Try.ntmps55
    go_wp2_with fail
    go_returns
    exact ⟨rfl, by rw [HF.out]; exact Wrote.same Hh.out⟩
end Go.Proofs.Ytpjdknmgegbgnaa
