/- The walks of coppicelaw01.roomy and untouched. -/
import Derived.Test.YtdonocchidfooaaJoined
import Derived.BigQuiet
import Derived.Deep.QuietTactic
namespace Go.Proofs.Ytdonocchidfooaa
open Go.RowKit

/-- the marks behind a list -/
def mark (k : Nat) : UInt8 := UInt8.ofNat (160 + k)
def marks (n : Nat) : List UInt8 := (List.range n).map mark
theorem marks_succ (n : Nat) : marks (n + 1) = marks n ++ [mark n] := by simp [marks, List.range_succ]
theorem marks_length (n : Nat) : (marks n).length = n := by simp [marks]
theorem mark_nat {k : Nat} (h : k < 40) : ((mark k).toNat : Int) = 160 + (k : Int) := by
  unfold mark; rw [UInt8.toNat_ofNat']; omega

def RelM (w0 : World) (bs : List UInt8) (v i : Value) (wr : World) : Prop :=
  ∃ k g cap : Nat, k ≤ 40 ∧ i = .int .i64 k ∧ v = .slice (some ⟨g, 0, none⟩) (bs.length + k) cap ∧ OwnB wr w0.heap.size g cap (bs ++ marks k) ∧ Below w0.heap.size w0 wr
/-- what roomy leaves: a list whose room behind it bears marks -/
def MadeR (w0 : World) (bs : List UInt8) (e : Ending) (w' : World) : Prop :=
  ∃ g cap : Nat, e = .returned (.slice (some ⟨g, 0, none⟩) bs.length cap) ∧ OwnB w' w0.heap.size g cap (bs ++ marks 40) ∧ bs.length + 40 ≤ cap ∧ cap ≤ maxLen ∧ Below w0.heap.size w0 w'

theorem OwnB.cap {w : World} {base g cap : Nat} {bs : List UInt8} (h : OwnB w base g cap bs) : bs.length ≤ cap ∧ cap ≤ maxLen := by
  obtain ⟨h1, h2⟩ := h
  rcases h2 with ⟨h2, _⟩ | ⟨g', cap', cur, hv, hg, hh, r1, r2, _⟩
  · simp at h2
  · simp only [Value.slice.injEq, Option.some.injEq, Addr.mk.injEq, and_true, true_and] at hv
    obtain ⟨rfl, rfl⟩ := hv
    exact ⟨r1, r2⟩

set_option maxHeartbeats 400000 in
theorem roomy_any (bs : List UInt8) (a : Option Addr) (ca : Nat) (hl : bs.length ≤ 140737488351232) (w : World) (ha : Bts w a bs) :
    Calls Try.prog 15 #[.slice a bs.length ca] w (MadeR w bs) := by
  go_enter Try.func15, Try.ntmps15
  go_wp2_with fail
  refine (joined_any bs [] a none ca 0 (by show bs.length + 0 ≤ _; omega) w ha (.inl rfl)).mono ?_
  rintro _ w1 ⟨g, cap, rfl, ow, b1⟩
  rw [List.append_nil] at ow ⊢
  go_wp2_with fail
  go_loopw [3, 4] (fun v i wr => RelM w bs v i wr) (fun _ i _ => 40 - (intOf i).toNat)
  case atStart => exact ⟨0, g, cap, Nat.zero_le _, rfl, rfl, by simpa [marks] using ow, b1⟩
  case round =>
    clear ow b1
    obtain ⟨k, g, cap, hk, rfl, rfl, ow, hB⟩ := hrel
    by_cases hlt : k < 40
    · have hm := mark_nat hlt
      have HL := Lib.hid (show bs.length + k = (bs ++ marks k).length by rw [List.length_append, marks_length])
      have HT := Lib.hid (show bs ++ marks (k + 1) = bs ++ marks k ++ [mark k] by rw [marks_succ, List.append_assoc])
      have hm2 : (160 + (k : Int)) = ((mark k).toNat : Int) := hm.symm
      have hzl := (mark k).toNat_lt
      generalize mark k = z at hm hm2 HT hzl
      generalize bs ++ marks k = tk at ow HL HT
      clear hm
      go_wp2_with (at_builtin; refine wpList_append_b rfl (.tmp 11) (.tmp 15) rfl z HL.out rfl rfl ow hB (by omega) ?_; intro g' cap' w' ow' hB')
      clear ow hB hm2
      go_roundw
      case rel => exact ⟨k + 1, g', cap', by omega, by go_num, rfl, by rw [HT.out]; exact ow', hB'⟩
      case measure => simp [intOf]; omega
    · have hk40 : k = 40 := by omega
      have ow2 : OwnB wr w.heap.size g cap (bs ++ marks 40) := by rw [hk40] at ow; exact ow
      have hcap := ow2.cap
      rw [List.length_append, marks_length] at hcap
      obtain ⟨hc1, hc2⟩ := hcap
      have hc3 : (bs.length : Int) ≤ (cap : Int) := by omega
      clear ow hk40
      go_wp2_with fail
      go_ret
      exact ⟨g, cap, rfl, ow2, hc1, hc2, hB⟩

/-- a list with its marks: what untouched asks -/
theorem own_low {w : World} {base g cap : Nat} {xs ys : List UInt8} (h : OwnB w base g cap (xs ++ ys)) {i : Nat} (hi : i < xs.length) : w.cell? ⟨g, i, none⟩ = some (.int .u8 ((xs.getD i 0).toNat : Int)) := by
  have e : (xs ++ ys).getD i 0 = xs.getD i 0 := by simp [List.getD_eq_getElem?_getD, List.getElem?_append_left hi]
  rw [h.cell (by rw [List.length_append]; omega), e]
theorem own_high {w : World} {base g cap : Nat} {xs : List UInt8} {n : Nat} (h : OwnB w base g cap (xs ++ marks n)) {i : Nat} (hi : i < n) : w.cell? ⟨g, xs.length + i, none⟩ = some (.int .u8 ((mark i).toNat : Int)) := by
  have e : (xs ++ marks n).getD (xs.length + i) 0 = mark i := by simp [List.getD_eq_getElem?_getD, List.getElem?_append_right, marks, List.getElem?_range hi]
  rw [h.cell (by rw [List.length_append, marks_length]; omega), e]

def RelU (w0 : World) (m : Nat) (i : Value) (wr : World) : Prop := ∃ k n : Nat, k ≤ m ∧ i = .int .i64 k ∧ wr = w0.drewN n

set_option maxHeartbeats 400000 in
theorem untouched_any (bs : List UInt8) (a : Option Addr) (ca g cap : Nat) (hl : bs.length ≤ 140737488351232) (w : World) (ha : Bts w a bs) {base : Nat} (ow : OwnB w base g cap (bs ++ marks 40)) :
    Calls Try.prog 18 #[.slice (some ⟨g, 0, none⟩) bs.length cap, .slice a bs.length ca] w fun e w' => e = .returned (.bool true) ∧ Below w.heap.size w w' := by
  have hcap := ow.cap
  rw [List.length_append, marks_length] at hcap
  obtain ⟨hc1, hc2⟩ := hcap
  have hc3 : (bs.length : Int) + 40 ≤ (cap : Int) := by omega
  have hc4 : (cap : Int) ≤ 9223372036854775807 := by unfold maxLen at hc2; omega
  go_enter Try.func18, Try.ntmps18
  go_wp2_with fail
  go_loopw [6] (fun i wr => RelU w bs.length i wr) (fun i _ => bs.length - (intOf i).toNat)
  case atStart => exact ⟨0, 0, Nat.zero_le _, rfl, rfl⟩
  case round =>
    obtain ⟨k, n, hk, rfl, rfl⟩ := hrel
    by_cases hlt : k < bs.length
    · obtain ⟨b, off, rfl, _, hz⟩ := ha.at hlt
      have hz2 := own_low ow hlt
      generalize bs.getD k 0 = z at hz hz2
      have hki : (k : Int) < (bs.length : Int) := by omega
      have hki2 : (k : Int) < (bs.length : Int) + 40 := by omega
      go_wp2_with fail
      go_quiet (fail)
      go_wp2_with fail
      go_roundw
      case rel => exact ⟨k + 1, _, by omega, by go_num, rfl⟩
      case measure => simp [intOf]; omega
    · go_wp2_with fail
      go_loopw [7] (fun i wr => RelU w 40 i wr) (fun i _ => 40 - (intOf i).toNat)
      case atStart => exact ⟨0, n, Nat.zero_le _, rfl, rfl⟩
      case round =>
        obtain ⟨k2, n2, hk2, rfl, rfl⟩ := hrel
        by_cases hlt2 : k2 < 40
        · have hz2 := own_high ow hlt2
          have hm := mark_nat hlt2
          have hm2 : (160 + (k2 : Int)) = ((mark k2).toNat : Int) := hm.symm
          have hzl := (mark k2).toNat_lt
          generalize mark k2 = z at hz2 hm hm2 hzl
          clear hm
          go_wp2_with fail
          go_roundw
          case rel => exact ⟨k2 + 1, n2, by omega, by go_num, rfl⟩
          case measure => simp [intOf]; omega
        · go_wp2_with fail
          go_ret
          exact ⟨rfl, below_drewN (Below.refl _ _) _⟩
end Go.Proofs.Ytdonocchidfooaa
