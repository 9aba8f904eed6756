/- The document's reader: what it holds; NewReader, Left, fail, Raw, End. -/
import Derived.Test.YtpjdknmgegbgnaaRdOps
import Derived.Test.YtpjdknmgegbgnaaSpare
import Derived.StillTailTactics
import Derived.Deep.QuietTactic
import Derived.BigQuiet
namespace Go.Proofs.Ytpjdknmgegbgnaa
open Go.RowKit
set_option linter.unusedVariables false

/-- the document's reader in memory: all its bytes, its place, its error -/
def IsQ (w : World) (p : Nat) (oa : Option Addr) (s : RS) : Prop :=
  ∃ (all : List UInt8) (cap at' : Nat) (T : TypeId), w.heap[p]? = some (.cells #[.slice oa all.length cap, .int .i64 (at' : Int), .int .i64 (s.err : Int)] T) ∧ OB w oa cap all ∧ blk oa ≠ some p ∧ at' ≤ all.length ∧ all.drop at' = s.rest ∧ all.length ≤ 140737488355328 ∧ s.err ≤ 1000
theorem qcells3 {w : World} {p : Nat} {v0 v1 v2 : Value} {T : TypeId} (h : w.heap[p]? = some (.cells #[v0, v1, v2] T)) :
    w.cell? ⟨p, 0, none⟩ = some v0 ∧ w.cell? ⟨p, 1, none⟩ = some v1 ∧ w.cell? ⟨p, 2, none⟩ = some v2 ∧ (∀ k, w.frozen? ⟨p, k, none⟩ = false) := by
  simp [World.cell?, World.frozen?, h]
theorem qset3_1 {w : World} {p : Nat} {v0 v1 v2 : Value} {T : TypeId} (h : w.heap[p]? = some (.cells #[v0, v1, v2] T)) (u : Value) : (w.setCell ⟨p, 1, none⟩ u).heap[p]? = some (.cells #[v0, u, v2] T) := by
  rw [setCell_eq_setRow w p 1 _ T (0, 0) u h, setRow_heap w p _ _ T (0, 0) h]; rfl
theorem qset3_2 {w : World} {p : Nat} {v0 v1 v2 : Value} {T : TypeId} (h : w.heap[p]? = some (.cells #[v0, v1, v2] T)) (u : Value) : (w.setCell ⟨p, 2, none⟩ u).heap[p]? = some (.cells #[v0, v1, u] T) := by
  rw [setCell_eq_setRow w p 2 _ T (0, 0) u h, setRow_heap w p _ _ T (0, 0) h]; rfl
theorem IsQ.lt {w : World} {p : Nat} {oa : Option Addr} {s : RS} (h : IsQ w p oa s) : p < w.heap.size := by
  obtain ⟨_, _, _, _, h, _⟩ := h
  exact rlt_of_heap h
theorem IsQ.lt_list {w : World} {p : Nat} {oa : Option Addr} {s : RS} (h : IsQ w p oa s) : ∀ k, blk oa = some k → k < w.heap.size := by
  obtain ⟨_, _, _, _, _, h, _⟩ := h
  exact h.lt
theorem IsQ.chg {F : Nat → Prop} {w w' : World} {p : Nat} {oa : Option Addr} {s : RS} (h : IsQ w p oa s) (hc : Chg F w w') (h1 : ¬ F p) (h2 : ∀ k, blk oa = some k → ¬ F k) : IsQ w' p oa s := by
  have hlt := h.lt
  obtain ⟨all, cap, at', T, h3, h4, h5⟩ := h
  exact ⟨all, cap, at', T, (hc.block p hlt h1).trans h3, h4.chg hc h2, h5⟩
theorem IsQ.below {w w' : World} {p : Nat} {oa : Option Addr} {s : RS} (h : IsQ w p oa s) (hb : Below w.heap.size w w') : IsQ w' p oa s := h.chg (F := fun _ => False) (Chg.of_below hb) (fun f => f) (fun _ _ f => f)
/-- what a method leaves -/
def AftQ (w : World) (p : Nat) (oa : Option Addr) (s : RS) (w' : World) : Prop := IsQ w' p oa s ∧ Chg (fun k => k = p) w w'
theorem AftQ.same {w : World} {p : Nat} {oa : Option Addr} {s : RS} (h : IsQ w p oa s) : AftQ w p oa s w := ⟨h, Chg.refl _ _⟩
theorem AftQ.pre {w0 w w' : World} {p : Nat} {oa : Option Addr} {s : RS} (h : AftQ w p oa s w') (hb : Chg (fun k => k = p) w0 w) : AftQ w0 p oa s w' := ⟨h.1, hb.trans h.2 fun _ _ h => h⟩
theorem AftQ.below {w0 w w' : World} {p : Nat} {oa : Option Addr} {s : RS} (h : AftQ w p oa s w') (hb : Below w0.heap.size w0 w) : AftQ w0 p oa s w' := h.pre (Chg.of_below hb)
theorem IsQ.set_err {w : World} {p : Nat} {oa : Option Addr} {s : RS} (h : IsQ w p oa s) (e : Nat) (he : e ≤ 1000) : AftQ w p oa { s with err := e } (w.setCell ⟨p, 2, none⟩ (.int .i64 (e : Int))) := by
  obtain ⟨all, cap, at', T, h3, h4, h5, h6, h7, h8, h9⟩ := h
  exact ⟨⟨all, cap, at', T, qset3_2 h3 _, h4.chg (Chg.set w ⟨p, 2, none⟩ _) (fun k hk e => h5 (by rw [hk]; exact congrArg some e)), h5, h6, h7, h8, he⟩, (Chg.set w ⟨p, 2, none⟩ _).mono fun _ _ h => h⟩
theorem IsQ.set_at {w : World} {p : Nat} {oa : Option Addr} {s : RS} {all : List UInt8} {cap at' : Nat} {T : TypeId} (h3 : w.heap[p]? = some (.cells #[.slice oa all.length cap, .int .i64 (at' : Int), .int .i64 (s.err : Int)] T)) (h4 : OB w oa cap all) (h5 : blk oa ≠ some p) (h7 : all.drop at' = s.rest) (h8 : all.length ≤ 140737488355328) (h9 : s.err ≤ 1000) (n : Nat) (hn : at' + n ≤ all.length) :
    AftQ w p oa { s with rest := s.rest.drop n } (w.setCell ⟨p, 1, none⟩ (.int .i64 ((at' + n : Nat) : Int))) :=
  ⟨⟨all, cap, at' + n, T, qset3_1 h3 _, h4.chg (Chg.set w ⟨p, 1, none⟩ _) (fun k hk e => h5 (by rw [hk]; exact congrArg some e)), h5, hn, by rw [← List.drop_drop, h7], h8, h9⟩, (Chg.set w ⟨p, 1, none⟩ _).mono fun _ _ h => h⟩
def RS.fail (e : Nat) (s : RS) : RS := if s.err = 0 then { s with err := e } else s

set_option maxHeartbeats 400000 in
theorem qfail_any (p : Nat) (oa : Option Addr) (s : RS) (e : Nat) (he : e ≤ 1000) (w : World) (h : IsQ w p oa s) :
    Calls Try.prog 76 #[.pointer (some ⟨p, 0, none⟩), .int .i64 (e : Int)] w fun x w' => x = .returned (.tuple #[]) ∧ AftQ w p oa (s.fail e) w' := by
  have Hh := Lib.hid h
  obtain ⟨all, cap, at', T, h3, -⟩ := h
  obtain ⟨c0, c1, c2, f⟩ := qcells3 h3
  have f2 := f 2
  clear h3 f
  by_cases h0 : s.err = 0
  · have e1 : ((s.err : Int) == 0) = true := by rw [beq_iff_eq]; omega
    have HF := Lib.hid (show s.fail e = { s with err := e } by simp [RS.fail, h0])
    clear h0
    go_enter Try.func76, Try.ntmps76
    go_wp2_with fail
    go_end0
    exact ⟨rfl, by rw [HF.out]; exact Hh.out.set_err e he⟩
  · have e1 : ((s.err : Int) == 0) = false := by rw [beq_eq_false_iff_ne]; omega
    have HF := Lib.hid (show s.fail e = s by simp [RS.fail, h0])
    clear h0
    go_enter Try.func76, Try.ntmps76
    go_wp2_with fail
    go_end0
    exact ⟨rfl, by rw [HF.out]; exact AftQ.same Hh.out⟩

theorem qleft_any (p : Nat) (oa : Option Addr) (s : RS) (w : World) (h : IsQ w p oa s) :
    Calls Try.prog 77 #[.pointer (some ⟨p, 0, none⟩)] w fun x w' => x = .returned (.int .i64 (s.rest.length : Nat)) ∧ Below w.heap.size w w' := by
  obtain ⟨all, cap, at', T, h3, h4, h5, h6, h7, h8, h9⟩ := h
  obtain ⟨c0, c1, c2, f⟩ := qcells3 h3
  have HR := Lib.hid (show ((all.length : Int) - (at' : Int)) = ((s.rest.length : Nat) : Int) by rw [← h7, List.length_drop]; omega)
  have hb : (at' : Int) ≤ (all.length : Int) := by omega
  clear h3 h4 h5 h7 h9 f
  go_enter Try.func77, Try.ntmps77
  go_wp2_with fail
  go_quiet (fail)
  go_wp2_with fail
  go_ret
  exact ⟨ret_int HR.out, below_drewN (Below.refl _ _) _⟩

theorem qend_any (p : Nat) (oa : Option Addr) (s : RS) (w : World) (h : IsQ w p oa s) :
    Calls Try.prog 44 #[.pointer (some ⟨p, 0, none⟩)] w fun x w' => x = .returned (.int .i64 (s.ending : Nat)) ∧ Below w.heap.size w w' := by
  have HL := Lib.hid (qleft_any p oa s w h)
  obtain ⟨all, cap, at', T, h3, -⟩ := h
  obtain ⟨c0, c1, c2, f⟩ := qcells3 h3
  clear h3 f
  by_cases he : s.err = 0
  · have e1 : ((s.err : Int) != 0) = false := by rw [bne_eq_false_iff_eq]; omega
    by_cases hl : s.rest = []
    · have HE := Lib.hid (show s.ending = 0 by simp [RS.ending, hl, he])
      have hl2 : (s.rest.length : Int) ≤ 0 := by simp [hl]
      clear he hl
      go_enter Try.func44, Try.ntmps44
      go_wp2_with fail
      refine HL.out.mono ?_
      rintro _ w1 ⟨rfl, hB⟩
      go_wp2_with fail
      go_ret
      exact ⟨by rw [HE.out]; rfl, hB⟩
    · have HE := Lib.hid (show s.ending = 3 by simp [RS.ending, hl, he])
      have hl2 : (0 : Int) < (s.rest.length : Int) := by have := List.length_pos_iff.2 hl; omega
      clear he hl
      go_enter Try.func44, Try.ntmps44
      go_wp2_with fail
      refine HL.out.mono ?_
      rintro _ w1 ⟨rfl, hB⟩
      go_wp2_with fail
      go_ret
      exact ⟨by rw [HE.out]; rfl, hB⟩
  · have e1 : ((s.err : Int) != 0) = true := by rw [bne_iff_ne]; omega
    have HE := Lib.hid (show s.ending = s.err by simp [RS.ending, he])
    clear he
    go_enter Try.func44, Try.ntmps44
    go_wp2_with fail
    go_ret
    exact ⟨by rw [HE.out]; rfl, Below.refl _ _⟩

/-- what NewReader leaves -/
def NewQ (w : World) (bs : List UInt8) (x : Ending) (w' : World) : Prop := ∃ p oa, x = .returned (.pointer (some ⟨p, 0, none⟩)) ∧ IsQ w' p oa ⟨bs, 0⟩ ∧ w.heap.size ≤ p ∧ (∀ k, blk oa = some k → w.heap.size ≤ k) ∧ Below w.heap.size w w'
theorem qnew_any (a : Option Addr) (c : Nat) (bs : List UInt8) (w : World) (hx : Bts w a bs) (hl : bs.length ≤ 140737488355328) :
    Calls Try.prog 41 #[.slice a bs.length c] w (NewQ w bs) := by
  have H := Lib.hid (copyBytes_any a c bs hl w hx)
  clear hx
  go_enter Try.func41, Try.ntmps41
  go_wp2_with fail
  refine H.out.mono ?_
  rintro _ w1 ⟨oa, cap, rfl, hO, hn, hB⟩
  go_wp2_with fail
  go_ret
  refine ⟨w1.heap.size, oa, rfl, ⟨bs, cap, 0, _, heap_alloc_new w1 _, hO.below ((Below.refl _ _).alloc (Nat.le_refl _) _), fun e => by have := hO.lt _ e; omega, Nat.zero_le _, rfl, hl, by show 0 ≤ 1000; decide⟩, hB.size, hn, hB.alloc hB.size _⟩

def RawQ (w : World) (p : Nat) (oa : Option Addr) (bs : List UInt8) (s : RS) (x : Ending) (w' : World) : Prop :=
  ∃ ob cap, x = .returned (.slice ob bs.length cap) ∧ OB w' ob cap bs ∧ (∀ k, blk ob = some k → w.heap.size ≤ k) ∧ AftQ w p oa s w'

set_option maxHeartbeats 1000000 in
set_option maxRecDepth 20000 in
theorem qraw_any (p : Nat) (oa : Option Addr) (s : RS) (n : Int) (w : World) (h : IsQ w p oa s) :
    Calls Try.prog 75 #[.pointer (some ⟨p, 0, none⟩), .int .i64 n] w (RawQ w p oa (s.raw n).1 (s.raw n).2) := by
  have Hh := Lib.hid h
  obtain ⟨all, cap, at', T, h3, h4, h5, h6, h7, h8, h9⟩ := h
  obtain ⟨c0, c1, c2, f⟩ := qcells3 h3
  have H3 := Lib.hid h3
  clear h3 f
  by_cases he : s.err = 0
  · have e1 : ((s.err : Int) != 0) = false := by rw [bne_eq_false_iff_eq]; omega
    by_cases h1 : n < 0
    · have HS := Lib.hid (show s.raw n = ([], { s with err := 1 }) by simp [RS.raw, he, h1])
      have H := qfail_any p oa s 1 (by decide) w Hh.out
      rw [show s.fail 1 = { s with err := 1 } by simp [RS.fail, he]] at H
      have H := Lib.hid H
      clear he h4 h5 h6 h7 h8 h9
      go_enter Try.func75, Try.ntmps75
      go_wp2_with fail
      refine H.out.mono ?_
      rintro _ w1 ⟨rfl, hA⟩
      have HA := Lib.hid hA
      clear hA
      go_wp2_with fail
      go_ret
      rw [HS.out]
      exact ⟨none, 0, rfl, OB.nil _, fun k hk => (by cases hk), HA.out⟩
    · have h1' : ¬ n < 0 := h1
      have HL := Lib.hid (qleft_any p oa s w Hh.out)
      by_cases h2 : (s.rest.length : Int) < n
      · have HS := Lib.hid (show s.raw n = ([], { s with err := 2 }) by simp [RS.raw, he, h1, h2])
        have H := Lib.hid fun (w1 : World) (hB : Below w.heap.size w w1) => qfail_any p oa s 2 (by decide) w1 (Hh.out.below hB)
        rw [show s.fail 2 = { s with err := 2 } by simp [RS.fail, he]] at H
        clear he h4 h5 h6 h7 h8 h9
        go_enter Try.func75, Try.ntmps75
        go_wp2_with fail
        refine HL.out.mono ?_
        rintro _ w1 ⟨rfl, hB⟩
        have HB := Lib.hid hB
        clear hB
        go_wp2_with fail
        refine (H.out w1 HB.out).mono ?_
        rintro _ w2 ⟨rfl, hA⟩
        have HA := Lib.hid (hA.below HB.out)
        clear hA
        go_wp2_with fail
        go_ret
        rw [HS.out]
        exact ⟨none, 0, rfl, OB.nil _, fun k hk => (by cases hk), HA.out⟩
      · obtain ⟨m, rfl⟩ := Int.eq_ofNat_of_zero_le (show 0 ≤ n by omega)
        have HS := Lib.hid (show s.raw (m : Int) = (s.rest.take m, { s with rest := s.rest.drop m }) by simp [RS.raw, he, h2])
        have hrl : s.rest.length = all.length - at' := by rw [← h7, List.length_drop]
        have hml : at' + m ≤ all.length := by omega
        have hcap := h4.cap.1
        have Hbt := Lib.hid fun (w1 : World) (hB : Below w.heap.size w w1) => show Bts w1 (if cap = at' then oa else oa.map (·.add at')) (s.rest.take m) from by
          by_cases hm0 : m = 0
          · exact .inl (by simp [hm0])
          rw [if_neg (by omega)]
          rcases (h4.below hB).bts with h0 | ⟨b, off, rfl, hb1, hb2⟩
          · rw [h0] at hml; simp at hml; omega
          · refine .inr ⟨b, off + at', by simp [add_none], hb1, fun i hi => ?_⟩
            rw [List.length_take, hrl] at hi
            rw [Nat.add_assoc, hb2 (at' + i) (by omega), ← h7]
            simp [List.getD_eq_getElem?_getD, List.getElem?_take_of_lt (show i < m by omega), List.getElem?_drop]
        have Htl : Hid ((s.rest.take m).length = m) := Lib.hid (by rw [List.length_take]; omega)
        have HA := Lib.hid fun (w1 : World) (hB : Below w.heap.size w w1) => IsQ.set_at ((hB.block p (rlt_of_heap H3.out)).trans H3.out) (h4.below hB) h5 h7 h8 h9 m hml
        have HP := Lib.hid fun (w1 : World) (hB : Below w.heap.size w w1) => (hB.block p (rlt_of_heap H3.out)).trans H3.out
        have hat : (at' : Int) ≤ (all.length : Int) := by omega
        have hami : (at' : Int) + (m : Int) ≤ (cap : Int) := by omega
        have haml : (at' : Int) + (m : Int) ≤ 140737488355328 := by omega
        have hw : IntKind.i64.wrap ((at' : Int) + (m : Int)) = (at' : Int) + (m : Int) := IntWalk.i64_in _ (by omega)
        clear he h4 h5 h6 h7 h8 h9 hrl
        go_enter Try.func75, Try.ntmps75
        go_wp2_with fail
        refine HL.out.mono ?_
        rintro _ w1 ⟨rfl, hB⟩
        have HB := Lib.hid hB
        obtain ⟨d0, d1, d2, f⟩ := qcells3 (HP.out w1 hB)
        clear hB f c0 c1 c2
        go_wp2_with fail
        have hle1 : (at' : Int) ≤ (at' : Int) + (m : Int) := by omega
        have htn : ((at' : Int) + (m : Int)).toNat = at' + m := by omega
        have HC := copyBytes_any (if cap = at' then oa else oa.map (·.add at')) (cap - at') (s.rest.take m) (by rw [Htl.out]; omega) w1.drew (Hbt.out _ HB.out.drew)
        rw [Htl.out] at HC
        by_cases hce : cap = at'
        · rw [if_pos hce] at HC
          subst hce
          rw [Nat.sub_self] at HC
          have HC := Lib.hid HC
          go_still_tail 15, (by kernel_rfl)
          change wpList _ _ _ _ _ w1.drew
          clear hle1 htn d0 d1 d2
          go_wp2_with fail
          refine HC.out.mono ?_
          rintro _ w2 ⟨ob, cb, rfl, hO, hn, hB2⟩
          rw [Htl.out]
          have HB2 := Lib.hid (HB.out.drew.trans (hB2.mono HB.out.size))
          obtain ⟨d0, d1, d2, f⟩ := qcells3 (HP.out w2 HB2.out)
          have f1 := f 1
          have HF := Lib.hid (HA.out w2 HB2.out)
          have HO := Lib.hid (And.intro hO hn)
          clear hO hn f hB2
          go_wp2_with fail
          go_ret
          rw [HS.out]
          have hC1 : ¬ blk ob = some p := fun e => by have := HO.out.2 p e; have := Hh.out.lt; have := HB.out.size; have e2 : w1.drew.heap.size = w1.heap.size := rfl; omega
          exact ⟨ob, cb, by rw [Htl.out]; rfl, HO.out.1.chg (Chg.set w2 ⟨p, 1, none⟩ _) (fun k hk e => hC1 (by rw [hk]; exact congrArg some e)), fun k hk => Nat.le_trans HB.out.size (HO.out.2 k hk), HF.out.below HB2.out⟩
        · have hce' : ¬ cap = at' := hce
          rw [if_neg hce] at HC
          have HC := Lib.hid HC
          go_still_tail 15, (by kernel_rfl)
          change wpList _ _ _ _ _ w1.drew
          clear hle1 htn d0 d1 d2
          go_wp2_with fail
          refine HC.out.mono ?_
          rintro _ w2 ⟨ob, cb, rfl, hO, hn, hB2⟩
          rw [Htl.out]
          have HB2 := Lib.hid (HB.out.drew.trans (hB2.mono HB.out.size))
          obtain ⟨d0, d1, d2, f⟩ := qcells3 (HP.out w2 HB2.out)
          have f1 := f 1
          have HF := Lib.hid (HA.out w2 HB2.out)
          have HO := Lib.hid (And.intro hO hn)
          clear hO hn f hB2
          go_wp2_with fail
          go_ret
          rw [HS.out]
          have hC1 : ¬ blk ob = some p := fun e => by have := HO.out.2 p e; have := Hh.out.lt; have := HB.out.size; have e2 : w1.drew.heap.size = w1.heap.size := rfl; omega
          exact ⟨ob, cb, by rw [Htl.out]; rfl, HO.out.1.chg (Chg.set w2 ⟨p, 1, none⟩ _) (fun k hk e => hC1 (by rw [hk]; exact congrArg some e)), fun k hk => Nat.le_trans HB.out.size (HO.out.2 k hk), HF.out.below HB2.out⟩
  · have e1 : ((s.err : Int) != 0) = true := by rw [bne_iff_ne]; omega
    have HS := Lib.hid (show s.raw n = ([], s) by simp [RS.raw, he])
    clear he h4 h5 h6 h7 h8 h9
    go_enter Try.func75, Try.ntmps75
    go_wp2_with fail
    go_ret
    rw [HS.out]
    exact ⟨none, 0, rfl, OB.nil _, fun k hk => (by cases hk), AftQ.same Hh.out⟩
end Go.Proofs.Ytpjdknmgegbgnaa
