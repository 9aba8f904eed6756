/- The document's writer: put, Number, Put, Raw. It lies in memory as the program's. -/
import Derived.Test.YtpjdknmgegbgnaaWrOps
import Derived.Test.YtpjdknmgegbgnaaSpare
import Derived.Test.YtpjdknmgegbgnaaApp
import Derived.StillTailTactics
namespace Go.Proofs.Ytpjdknmgegbgnaa
open Go.RowKit
set_option linter.unusedVariables false

/-- a byte is appended to a writer's list, and the list stored back -/
theorem app_store {wr W1 w2 : World} {p : Nat} {oa1 oa2 : Option Addr} {cap1 cap2 n : Nat} {c : WS} {b : UInt8} (hW : IsW wr p oa1 cap1 c) (hroom : c.bs.length + 1 ≤ c.most) (hn : n = c.bs.length) (hW1 : Below wr.heap.size wr W1) (hO2 : OB w2 oa2 cap2 (c.bs ++ [b])) (hC2 : Chg (fun k => blk oa1 = some k) W1 w2) (hb2 : blk oa2 = blk oa1 ∨ blk oa2 = some W1.heap.size) :
    Wrote wr p oa1 { c with bs := c.bs ++ [b] } (w2.setCell ⟨p, 1, none⟩ (.slice oa2 (n + 1) cap2)) := by
  subst hn
  have hp := hW.lt
  obtain ⟨⟨T, h3⟩, h4, h5, h6, h7, h8⟩ := hW
  have hC : Chg (fun k => blk oa1 = some k) wr w2 := (Chg.of_below hW1).trans hC2 fun _ _ h => h
  have g3 := (hC.block p hp h5).trans h3
  have hz := hW1.size
  have hp2 : blk oa2 ≠ some p := by
    rcases hb2 with e | e
    · rw [e]; exact h5
    · rw [e]; intro e2; cases e2; omega
  refine ⟨oa2, cap2, ⟨⟨T, ?_⟩, hO2.chg (Chg.set w2 ⟨p, 1, none⟩ _) (fun k hk e => hp2 (by rw [hk]; exact congrArg some e)), hp2, ?_, h7, h8⟩, ?_, ?_⟩
  · simp only [List.length_append, List.length_cons, List.length_nil]; exact set3_1 g3 _
  · show (c.bs ++ [b]).length ≤ c.most
    rw [List.length_append]; exact hroom
  · exact (hC.mono fun k _ h => .inr h).setCell _ _ fun _ => .inl rfl
  · rcases hb2 with e | e
    · exact .inl e
    · exact .inr ⟨_, e, hz⟩

def RelRPut (w0 : World) (p : Nat) (oa : Option Addr) (s : WS) (xs : List UInt8) (i : Value) (wr : World) : Prop :=
  ∃ k : Nat, k ≤ xs.length ∧ i = .int .i64 k ∧ Wrote w0 p oa { s with bs := s.bs ++ xs.take k } wr

set_option maxHeartbeats 2000000 in
theorem rput_any (p : Nat) (oa : Option Addr) (cap : Nat) (s : WS) (a : Option Addr) (c : Nat) (xs : List UInt8) (hl : xs.length ≤ 1000000000000000) (w : World) (h : IsW w p oa cap s) (hx : Bts w a xs) (ha : xs = [] ∨ ∀ k, blk a = some k → k ≠ p ∧ blk oa ≠ some k) :
    Calls Try.prog 80 #[.pointer (some ⟨p, 0, none⟩), .slice a xs.length c] w fun r w' => r = .returned (.tuple #[]) ∧ Wrote w p oa (s.add xs) w' := by
  have hs := Lib.hid h
  obtain ⟨⟨T, h3⟩, h4, h5, h6, h7, h8⟩ := h
  obtain ⟨c0, c1, c2, f⟩ := cells3 h3
  have f2 := f 2
  have hnb : s.bs.length ≤ 16777216 := by omega
  obtain ⟨n, hxn⟩ : ∃ n, xs.length = n := ⟨_, rfl⟩
  rw [hxn] at hl ⊢
  have Hxn := Lib.hid hxn
  clear h3 h4 h5 f hxn
  by_cases he : s.err = 0
  · have e1 : ((s.err : Int) != 0) = false := by rw [bne_eq_false_iff_eq]; omega
    by_cases hroom : s.most < s.bs.length + n
    · have HF := Lib.hid (show s.add xs = { s with err := 4 } by simp [WS.add, he, Hxn.out, hroom])
      have hri : (s.most : Int) < (s.bs.length : Int) + (n : Int) := by omega
      clear he hroom
      go_enter Try.func80, Try.ntmps80
      go_wp2_with fail
      go_quiet (fail)
      go_wp2_with fail
      go_returns
      exact ⟨rfl, by rw [HF.out]; exact Wrote.after ((Chg.refl _ _).drewN nq) ((hs.out.drewN nq).set_err 4 (by decide))⟩
    · have HF := Lib.hid (show s.add xs = { s with bs := s.bs ++ xs } by simp [WS.add, he, Hxn.out, hroom])
      have hri : ¬ (s.most : Int) < (s.bs.length : Int) + (n : Int) := by omega
      have HR := Lib.hid (show s.bs.length + n ≤ s.most by omega)
      have hnl : n ≤ 16777216 := by omega
      clear he hroom
      go_enter Try.func80, Try.ntmps80
      go_wp2_with fail
      go_quiet (fail)
      go_wp2_with fail
      clear c0 c1 c2 f2 hri hl
      go_loopw [4] (fun i wr => RelRPut w p oa s xs i wr) (fun i _ => n - (intOf i).toNat)
      case atStart => exact ⟨0, Nat.zero_le _, rfl, by simpa using Wrote.after ((Chg.refl _ _).drewN nq) (Wrote.same (hs.out.drewN nq))⟩
      case round =>
        obtain ⟨k, hk, rfl, oa1, cap1, hW, hC, hb⟩ := hrel
        rw [Hxn.out] at hk
        by_cases hlt : k < n
        · have HS := Lib.hid fun (W1 w2 : World) (oa2 : Option Addr) (cap2 m : Nat) (b : UInt8) (hm : m = _) => app_store (W1 := W1) (w2 := w2) (oa2 := oa2) (cap2 := cap2) (b := b) hW (by show (s.bs ++ xs.take k).length + 1 ≤ s.most; rw [List.length_append, List.length_take, Hxn.out]; have := HR.out; omega) hm
          have HC := Lib.hid hC
          have Hb := Lib.hid hb
          obtain ⟨⟨T, h3⟩, h4, h5, h6, h7, h8⟩ := hW
          obtain ⟨d0, d1, d2, f⟩ := cells3 h3
          have f1 := f 1
          have hbx : xs = [] ∨ ∀ k, blk a = some k → k ≠ p ∧ blk oa ≠ some k := ha
          have hbt : Bts wr a xs := ha.elim .inl fun ha => hx.chg hC fun k hk e => e.elim (ha k hk).1 (ha k hk).2
          have hbt' := hbt
          obtain ⟨b0, o0, rfl, -, hc⟩ := hbt.at (k := k) (by rw [Hxn.out]; exact hlt)
          obtain ⟨b, eb⟩ : ∃ b, xs.getD k 0 = b := ⟨_, rfl⟩
          rw [eb] at hc
          have hcur : (s.bs ++ xs.take k).length = s.bs.length + k := by rw [List.length_append, List.length_take, Hxn.out]; omega
          simp only [hcur] at d1
          have HO := Lib.hid fun (w' : World) (hw : Below wr.heap.size wr w') => h4.below hw
          have HP := Lib.hid fun (w' : World) (hw : Below wr.heap.size wr w') => (hw.block p (lt_of_heap h3)).trans h3
          have Hcur := Lib.hid hcur
          have Hts := Lib.hid (take_snoc (bs := xs) (k := k) (by rw [Hxn.out]; exact hlt))
          have Heb := Lib.hid eb
          have Hhp := Lib.hid h5
          have hpl : p < wr.heap.size := lt_of_heap h3
          clear h3 h4 h5 h6 h8 f eb hbt hbt' hbx hcur hC hb
          go_wp2_with fail
          go_region_law (refine step_append_byte (b := b) rfl (.tmp 36) (.tmp 41) rfl rfl Hcur.out (HO.out _ ?_) rfl ?_ (by omega) ?_; exact (Below.refl wr.heap.size wr).drew.alloc (Nat.le_refl _) _; exact cell_new wr.drew _ _ 0 _ rfl; intro oa2 cap2 w2 hO2 hC2 hb2; have g3 := (hC2.block p (Nat.lt_of_lt_of_le hpl (by simp)) Hhp.out).trans (HP.out _ ((Below.refl wr.heap.size wr).drew.alloc (Nat.le_refl _) _)); have G3 := Lib.hid g3; obtain ⟨d0', d1', d2', f'⟩ := cells3 g3; have f1' := f' 1; clear f' g3)
          all_goals
            have HN := Lib.hid (show RelRPut w p oa s xs (.int .i64 ((k + 1 : Nat) : Int)) (w2.setCell ⟨p, 1, none⟩ (.slice oa2 (s.bs.length + k + 1) cap2)) from ⟨k + 1, by rw [Hxn.out]; exact hlt, rfl, by
              have h := HS.out _ w2 oa2 cap2 (s.bs.length + k) b Hcur.out.symm ((Below.refl wr.heap.size wr).drew.alloc (Nat.le_refl _) _) hO2 hC2 (hb2.imp id (·.1))
              rw [Hts.out, Heb.out, ← List.append_assoc]
              exact Wrote.chain HC.out Hb.out h⟩)
            clear hO2 hC2 hb2 G3
            go_wp2_with fail
            go_roundw
            case rel => exact HN.out
            case measure => simp [intOf]; omega
        · have hke : xs.take k = xs := List.take_of_length_le (by rw [Hxn.out]; omega)
          rw [hke, ← HF.out] at hW
          have HW := Lib.hid hW
          have HC := Lib.hid hC
          have Hb := Lib.hid hb
          clear hke hW hC hb
          go_wp2_with fail
          go_end0
          exact ⟨rfl, ⟨oa1, cap1, HW.out, HC.out, Hb.out⟩⟩
  · have e1 : ((s.err : Int) != 0) = true := by rw [bne_iff_ne]; omega
    have HF := Lib.hid (show s.add xs = s by simp [WS.add, he])
    clear he
    go_enter Try.func80, Try.ntmps80
    go_wp2_with fail
    go_returns
    exact ⟨rfl, by rw [HF.out]; exact Wrote.same hs.out⟩
end Go.Proofs.Ytpjdknmgegbgnaa
