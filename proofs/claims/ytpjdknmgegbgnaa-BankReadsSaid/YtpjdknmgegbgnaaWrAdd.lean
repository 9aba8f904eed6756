/- The walk of the writer's method add. -/
import Derived.Test.YtpjdknmgegbgnaaWr
import Derived.Deep.QuietTactic
import Derived.BigQuiet
namespace Go.Proofs.Ytpjdknmgegbgnaa
open Go.RowKit

/-- a part that is handed to add -/
structure Prt where
  (a : Option Addr) (c : Nat) (xs : List UInt8)
def joinP (ps : List Prt) : List UInt8 := ps.flatMap (·.xs)
theorem joinP_snoc {ps : List Prt} {k : Nat} {x : Prt} (h : ps[k]? = some x) : joinP (ps.take (k + 1)) = joinP (ps.take k) ++ x.xs := by
  have hk := (List.getElem?_eq_some_iff.1 h).1
  have e : ps[k] = x := (List.getElem?_eq_some_iff.1 h).2
  rw [List.take_succ_eq_append_getElem hk, e]
  simp [joinP]
theorem joinP_le (ps : List Prt) (k : Nat) : (joinP (ps.take k)).length ≤ (joinP ps).length := by
  have : joinP ps = joinP (ps.take k) ++ joinP (ps.drop k) := by rw [joinP, joinP, joinP, ← List.flatMap_append, List.take_append_drop]
  rw [this, List.length_append]; omega
def PartsAt (w : World) (q : Nat) (ps : List Prt) : Prop := ∀ j x, ps[j]? = some x → w.cell? ⟨q, j, none⟩ = some (.slice x.a x.xs.length x.c) ∧ Bts w x.a x.xs ∧ (x.a = none → x.c = 0)
/-- the parts and their list lie apart from the writer -/
def Aside (p : Nat) (oa : Option Addr) (q : Nat) (ps : List Prt) : Prop := (q ≠ p ∧ blk oa ≠ some q) ∧ ∀ x ∈ ps, x.xs = [] ∨ ∀ k, blk x.a = some k → k ≠ p ∧ blk oa ≠ some k

def RelP1 (ps : List Prt) (n i : Value) : Prop := ∃ k : Nat, k ≤ ps.length ∧ i = .int .i64 k ∧ n = .int .i64 ((joinP (ps.take k)).length : Nat)
def RelP2 (w0 : World) (p : Nat) (oa : Option Addr) (s : WS) (ps : List Prt) (i : Value) (wr : World) : Prop :=
  ∃ (k : Nat) (oa' : Option Addr) (cap' : Nat), k ≤ ps.length ∧ i = .int .i64 k ∧ IsW wr p oa' cap' { s with bs := s.bs ++ joinP (ps.take k) } ∧ Chg (fun k => k = p ∨ blk oa = some k) w0 wr ∧ (blk oa' = blk oa ∨ ∃ k, blk oa' = some k ∧ w0.heap.size ≤ k)

set_option maxHeartbeats 1000000 in
theorem add_any (p q cq : Nat) (oa : Option Addr) (cap : Nat) (s : WS) (ps : List Prt) (hl : (joinP ps).length ≤ 1000000000000000) (hpl : ps.length ≤ 1000000) (w : World) (h : IsW w p oa cap s) (hp : PartsAt w q ps) (hq : q < w.heap.size) (ha : Aside p oa q ps) :
    Calls Try.prog 78 #[.pointer (some ⟨p, 0, none⟩), .slice (some ⟨q, 0, none⟩) ps.length cq] w fun r w' => r = .returned (.tuple #[]) ∧ Wrote w p oa (s.add (joinP ps)) w' := by
  have hs := Lib.hid h
  have Hp := Lib.hid hp
  have Ha := Lib.hid ha
  obtain ⟨⟨T, h3⟩, h4, h5, h6, h7, h8⟩ := h
  obtain ⟨c0, c1, c2, f⟩ := cells3 h3
  have f2 := f 2
  have hnb : s.bs.length ≤ 16777216 := by omega
  clear h3 h4 h5 f hp ha
  go_enter Try.func78, Try.ntmps78
  go_wp2_with fail
  go_loop [4, 11] (fun n i => RelP1 ps n i) (fun _ i => ps.length - (intOf i).toNat)
  case atStart => exact ⟨0, Nat.zero_le _, rfl, rfl⟩
  case round =>
    obtain ⟨k, hk, rfl, rfl⟩ := hrel
    by_cases hlt : k < ps.length
    · obtain ⟨x, hx⟩ : ∃ x, ps[k]? = some x := ⟨_, List.getElem?_eq_getElem hlt⟩
      obtain ⟨hc, hb, hn⟩ := Hp.out k x hx
      have hle := joinP_le ps (k + 1)
      have hj := joinP_snoc hx
      rw [hj, List.length_append] at hle
      have HJ := Lib.hid (show (joinP (ps.take (k + 1))).length = (joinP (ps.take k)).length + x.xs.length by rw [hj, List.length_append])
      generalize (joinP (ps.take k)).length = m at hle HJ
      generalize x.xs.length = xl at hc hle HJ
      clear hj hx hb hn
      go_wp2_with fail
      go_round
      case rel => exact ⟨k + 1, by omega, by go_num, by rw [HJ.out]; go_num⟩
      case measure => simp [intOf]; omega
    · have hke : joinP (ps.take k) = joinP ps := by rw [List.take_of_length_le (by omega)]
      rw [hke]
      clear hke
      by_cases he : s.err = 0
      · have e1 : ((s.err : Int) != 0) = false := by rw [bne_eq_false_iff_eq]; omega
        have e2 : ((s.err : Int) == 0) = true := by rw [beq_iff_eq]; omega
        by_cases hroom : s.most < s.bs.length + (joinP ps).length
        · have HF := Lib.hid (show s.add (joinP ps) = { s with err := 4 } by simp [WS.add, he, hroom])
          have hri : (s.most : Int) - (s.bs.length : Int) < ((joinP ps).length : Int) := by omega
          have H := Lib.hid (hs.out.set_err 4 (by decide))
          generalize (joinP ps).length = jl at hl hroom hri
          clear he
          go_wp2_with fail
          go_quiet (fail)
          go_wp2_with fail
          go_end0
          exact ⟨rfl, by rw [HF.out]; exact Wrote.after ((Chg.refl _ _).drewN nq) ((hs.out.drewN nq).set_err 4 (by decide))⟩
        · have HF := Lib.hid (show s.add (joinP ps) = { s with bs := s.bs ++ joinP ps } by simp [WS.add, he, hroom])
          have hri : ((joinP ps).length : Int) ≤ (s.most : Int) - (s.bs.length : Int) := by omega
          have HM0 := Lib.hid (show s.bs.length + (joinP ps).length ≤ s.most by omega)
          have HR := Lib.hid (show s.bs.length + (joinP ps).length ≤ 16777216 by omega)
          generalize hjl : (joinP ps).length = jl at hl hri
          clear he hjl hroom
          go_wp2_with fail
          go_quiet (fail)
          go_wp2_with fail
          go_loopw [22] (fun i wr => RelP2 w p oa s ps i wr) (fun i _ => ps.length - (intOf i).toNat)
          case atStart => exact ⟨0, oa, cap, Nat.zero_le _, rfl, by simpa [joinP] using hs.out.drewN nq, (Chg.refl _ _).drewN nq, .inl rfl⟩
          case round =>
            clear c0 c1 c2 f2 e1 e2 hri hl
            obtain ⟨k2, oa', cap', hk2, rfl, hW, hC, hbl⟩ := hrel
            by_cases hlt2 : k2 < ps.length
            · obtain ⟨x, hx⟩ : ∃ x, ps[k2]? = some x := ⟨_, List.getElem?_eq_getElem hlt2⟩
              obtain ⟨hc, hb, hn⟩ := Hp.out k2 x hx
              obtain ⟨⟨hq1, hq2⟩, ha⟩ := Ha.out
              have hax := ha x (List.mem_of_getElem? hx)
              have hcw := (hC.cell (p := ⟨q, k2, none⟩) hq (fun e => e.elim hq1 hq2)).trans hc
              have hbw : Bts wr x.a x.xs := hax.elim (fun e => .inl e) fun hax => hb.chg hC (fun k hk e => e.elim (hax k hk).1 (hax k hk).2)
              clear hax
              have HJ := Lib.hid (show s.bs ++ joinP (ps.take (k2 + 1)) = s.bs ++ joinP (ps.take k2) ++ x.xs by rw [joinP_snoc hx, List.append_assoc])
              have hle := joinP_le ps (k2 + 1)
              rw [joinP_snoc hx, List.length_append] at hle
              obtain ⟨⟨T2, g3⟩, g4, g5, g6, g7, g8⟩ := hW
              simp only at g3 g4 g6 g8
              have hnl : (s.bs ++ joinP (ps.take k2)).length + x.xs.length ≤ 16777216 := by rw [List.length_append]; have := HR.out; omega
              generalize s.bs ++ joinP (ps.take k2) = cur at g3 g4 g6 hnl HJ
              generalize hcl : cur.length = n at g3 g6 hnl
              have Hcl := Lib.hid hcl
              generalize hxl : x.xs.length = m at hcw hnl hle
              have Hxl := Lib.hid hxl
              obtain ⟨c0, c1, c2, f⟩ := cells3 g3
              clear f hx hc hb ha hcl hxl hq1 hq2 hle
              go_wp2_with (at_builtin; refine wpList_append_bytes rfl (.tmp 30) (.tmp 31) rfl Hcl.out.symm rfl g4 Hxl.out.symm rfl hbw hn (by omega) ?_
                           intro oa2 cap2 w2 hO2 hC2 hb2 _
                           have g3' := (hC2.block p (lt_of_heap g3) g5).trans g3
                           obtain ⟨d0, d1, d2, f⟩ := cells3 g3'
                           have f1 := f 1
                           clear f)
              clear hcw c0 c1 c2 d0 d1 d2 f1 hnl
              go_roundw
              case rel =>
                have hp2 : blk oa2 ≠ some p := by
                  rcases hb2 with e | e
                  · rw [e]; exact g5
                  · rw [e]; intro e2; have := lt_of_heap g3; cases e2; omega
                have hlen : (cur ++ x.xs).length = n + m := by rw [List.length_append, Hcl.out, Hxl.out]
                refine ⟨k2 + 1, oa2, cap2, by omega, by go_num, ?_, ?_, ?_⟩
                · rw [HJ.out]
                  refine ⟨⟨T2, ?_⟩, hO2.chg (Chg.set w2 ⟨p, 1, none⟩ _) (fun k hk e => hp2 (by rw [hk]; exact congrArg some e)), hp2, ?_, h7, h8⟩
                  · simp only [hlen]; exact set3_1 g3' _
                  · have h1 := joinP_le ps (k2 + 1)
                    have h2 := congrArg List.length HJ.out
                    rw [List.length_append] at h2
                    have h3 := HM0.out
                    show (cur ++ x.xs).length ≤ s.most
                    omega
                · refine (hC.trans hC2 (fun i hi e => ?_)).setCell _ _ (fun _ => .inl rfl)
                  rcases hbl with h | ⟨k, h, h'⟩
                  · exact .inr (by rw [← h]; exact e)
                  · rw [h] at e; cases e; omega
                · rcases hb2 with h | h
                  · rw [h]; exact hbl
                  · exact .inr ⟨_, h, hC.size⟩
              case measure => simp [intOf]; omega
            · have hke2 : joinP (ps.take k2) = joinP ps := by rw [List.take_of_length_le (by omega)]
              rw [hke2] at hW
              clear hke2
              go_wp2_with fail
              go_end0
              exact ⟨rfl, by rw [HF.out]; exact ⟨oa', cap', hW, hC, hbl⟩⟩
      · have e1 : ((s.err : Int) != 0) = true := by rw [bne_iff_ne]; omega
        have HF := Lib.hid (show s.add (joinP ps) = s by simp [WS.add, he])
        generalize (joinP ps).length = jl at hl
        clear he
        go_wp2_with fail
        go_end0
        exact ⟨rfl, by rw [HF.out]; exact Wrote.same hs.out⟩
end Go.Proofs.Ytpjdknmgegbgnaa
