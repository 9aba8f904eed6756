/- The reader's Zeros. -/
import Derived.Test.YtpjdknmgegbgnaaRdRaw2
import Derived.Deep.Cut
import Derived.Deep.CutRange
namespace Go.Proofs.Ytpjdknmgegbgnaa
open Go.RowKit

/-- behind Zeros' take -/
def ZCut (w : World) (p : Nat) (a : Option Addr) (s : RS) (v l i : Value) (wx : World) : Prop :=
  ∃ oa cap2 a' cap', v = .slice oa s.rest.length cap2 ∧ l = .int .i64 (s.rest.length : Int) ∧ i = .int .i64 0 ∧ OB wx oa cap2 s.rest ∧ IsR wx p a' cap' { s with rest := [] } ∧ blk a' = blk a ∧ Chg (fun k => k = p) w wx
def ZDone (w : World) (p : Nat) (a : Option Addr) (s : RS) (x : Ending) (w' : World) : Prop :=
  if s.rest.any (· != 0) then Threw p 5 w x w' else x = .returned (.int .i64 0) ∧ Aft w p a { s with rest := [] } w'

/-- what the round of Zeros keeps -/
def RelZ (l : List UInt8) (i : Value) : Prop := ∃ j : Nat, j ≤ l.length ∧ i = .int .i64 j ∧ (l.take j).any (· != 0) = false
theorem relz_next {l : List UInt8} {j : Nat} (h : (l.take j).any (· != 0) = false) (hj : j < l.length) (hb : l.getD j 0 = 0) : (l.take (j + 1)).any (· != 0) = false := by
  rw [List.take_add_one, List.any_append, h, List.getElem?_eq_getElem hj]
  simp only [List.getD_eq_getElem?_getD, List.getElem?_eq_getElem hj, Option.getD_some] at hb
  simp [hb]
theorem relz_bad {l : List UInt8} {j : Nat} (hj : j < l.length) (hb : ¬ l.getD j 0 = 0) : l.any (· != 0) = true := by
  simp only [List.getD_eq_getElem?_getD, List.getElem?_eq_getElem hj, Option.getD_some] at hb
  rw [List.any_eq_true]
  exact ⟨l[j], List.getElem_mem hj, by simpa using hb⟩
theorem relz_end {l : List UInt8} {j : Nat} (h : (l.take j).any (· != 0) = false) (hj : l.length ≤ j) : l.any (· != 0) = false := by
  rwa [List.take_of_length_le hj] at h

set_option maxHeartbeats 4000000 in
set_option maxRecDepth 100000 in
theorem zerosb (p g : Nat) (a : Option Addr) (cap : Nat) (s : RS) (w : World) (h : IsR w p a cap s) (hg : w.cell? ⟨g, 0, none⟩ = some (.pointer (some ⟨p, 0, none⟩))) :
    Calls Try.prog 71 #[.pointer (some ⟨g, 0, none⟩)] w (ZDone w p a s) := by
  have H := Lib.hid (take_ok p a cap s s.rest.length (Nat.le_refl _) w.drew h.drew)
  have HD := Lib.hid (show s.rest.drop s.rest.length = [] by simp)
  have HTk := Lib.hid (show s.rest.take s.rest.length = s.rest by simp)
  obtain ⟨⟨T, h3⟩, _, _, _, _, hlr, _⟩ := h
  obtain ⟨c0, c1, f⟩ := cells2 h3
  clear h3 f
  go_enter Try.func71, Try.ntmps71
  go_wp2_with fail
  go_cut [10, 11, 12] from 4 to 12 (fun v l i wx => ZCut w p a s v l i wx)
  case first =>
    go_region_with (go_at_call 58; refine H.out.mono ?_; rintro _ w2 ⟨oa, cap2, a', cap', rfl, hO, hoa, hR, hbk, hC⟩)
    all_goals
      go_wp2_with fail
      go_meet
      rw [HTk.out] at hO
      rw [HD.out] at hR
      exact ⟨oa, cap2, a', cap', rfl, rfl, rfl, hO, hR, hbk, (Chg.refl _ w).drew.trans hC (fun _ _ h => h)⟩
  case rest =>
    obtain ⟨oa, cap2, a', cap', rfl, rfl, rfl, hO, hR, hbk, hC⟩ := hcut
    clear H HD HTk c0 c1 hg
    have HA := Lib.hid (show Aft w p a { s with rest := [] } wc from ⟨a', cap', hR, hbk, hC⟩)
    have HX := Lib.hid (show Threw p 5 w (.panicked [thrown 5 false]) wc from ⟨rfl, hC, _, _, _, hR⟩)
    clear hR hbk hC
    obtain ⟨l, el⟩ : ∃ l, s.rest = l := ⟨_, rfl⟩
    have hlm : l.length ≤ 140737488355328 := by rw [← el]; exact hlr
    rw [el] at hO ⊢
    go_wp2_with fail
    go_loop [12] (RelZ l) (fun i => l.length - (intOf i).toNat)
    case atStart => exact ⟨0, Nat.zero_le _, rfl, rfl⟩
    case round =>
      obtain ⟨j, hj, rfl, hz⟩ := hrel
      have HZ := Lib.hid hz
      clear hz
      by_cases hlt : j < l.length
      · obtain ⟨gl, rfl⟩ := hO.pos (by omega)
        obtain ⟨hc, -⟩ := hO.cell (i := j) hlt
        have HL := Lib.hid hlt
        by_cases hb : l.getD j 0 = 0
        · rw [hb] at hc
          have HS := Lib.hid (relz_next HZ.out hlt hb)
          clear hb
          go_wp2_with fail
          refine (must_true 5 wc).mono ?_
          rintro _ _ ⟨rfl, rfl⟩
          go_wp2_with fail
          go_round
          case rel => exact ⟨j + 1, by omega, by go_num, HS.out⟩
          case measure => simp [intOf]; omega
        · have HS := Lib.hid (show l.any (· != 0) = true from relz_bad hlt hb)
          have hd : (((l.getD j 0).toNat : Int) == 0) = false := beq_eq_false_iff_ne.2 (fun e => hb (UInt8.toNat_inj.1 (by show (l.getD j 0).toNat = 0; omega)))
          generalize (l.getD j 0).toNat = x at hc hd
          clear hb
          go_wp2_with fail
          refine (must_false 5 wc).mono ?_
          rintro _ _ ⟨rfl, rfl⟩
          refine ⟨rfl, ?_⟩
          unfold ZDone
          rw [el, HS.out]
          exact HX.out
      · have HS := Lib.hid (show l.any (· != 0) = false from relz_end HZ.out (by omega))
        go_wp2_with fail
        go_ret
        unfold ZDone
        rw [el, HS.out]
        exact ⟨rfl, HA.out⟩
end Go.Proofs.Ytpjdknmgegbgnaa
