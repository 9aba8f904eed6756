/- The walk of coppicelaw01.joined. -/
import Derived.Test.YtdonocchidfooaaBytes
namespace Go.Proofs.Ytdonocchidfooaa
open Go.RowKit

def RelJ1 (w0 : World) (xs : List UInt8) (v i : Value) (wr : World) : Prop :=
  ∃ k g cap : Nat, k ≤ xs.length ∧ i = .int .i64 k ∧ v = .slice (some ⟨g, 0, none⟩) k cap ∧ OwnB wr w0.heap.size g cap (xs.take k) ∧ Below w0.heap.size w0 wr
def RelJ2 (w0 : World) (xs bs : List UInt8) (v i : Value) (wr : World) : Prop :=
  ∃ k g cap : Nat, k ≤ bs.length ∧ i = .int .i64 k ∧ v = .slice (some ⟨g, 0, none⟩) (xs.length + k) cap ∧ OwnB wr w0.heap.size g cap (xs ++ bs.take k) ∧ Below w0.heap.size w0 wr
/-- what joined leaves -/
def MadeB (w0 : World) (bs : List UInt8) (e : Ending) (w' : World) : Prop :=
  ∃ g cap : Nat, e = .returned (.slice (some ⟨g, 0, none⟩) bs.length cap) ∧ OwnB w' w0.heap.size g cap bs ∧ Below w0.heap.size w0 w'

set_option maxHeartbeats 400000 in
theorem joined_any (xs bs : List UInt8) (a b : Option Addr) (ca cb : Nat) (hl : xs.length + bs.length ≤ 140737488355328) (w : World) (ha : Bts w a xs) (hb : Bts w b bs) :
    Calls Try.prog 19 #[.slice a xs.length ca, .slice b bs.length cb] w (MadeB w (xs ++ bs)) := by
  go_enter Try.func19, Try.ntmps19
  go_wp2_with fail
  go_loopw [5, 6] (fun v i wr => RelJ1 w xs v i wr) (fun _ i _ => xs.length - (intOf i).toNat)
  case atStart =>
    exact ⟨0, w.heap.size, 0, Nat.zero_le _, rfl, rfl, OwnB.made w [] (by decide), (Below.refl _ _).alloc (Nat.le_refl _) _⟩
  case round =>
    obtain ⟨k, g, cap, hk, rfl, rfl, hown, hB⟩ := hrel
    by_cases hlt : k < xs.length
    · obtain ⟨ba, off, rfl, hbw, hz⟩ := ha.at hlt
      have hz1 := (hB.cell (p := ⟨ba, off + k, none⟩) hbw).trans hz
      have HT := Lib.hid (take_snoc hlt)
      have HL := Lib.hid (show k = (xs.take k).length by rw [List.length_take]; omega)
      generalize xs.getD k 0 = z at hz1 HT
      generalize xs.take k = tk at hown HT HL
      clear hz
      go_wp2_with (at_builtin; refine wpList_append_b rfl (.tmp 15) (.tmp 20) rfl z HL.out rfl rfl hown hB (by omega) ?_; intro g' cap' w' hown' hB')
      clear hown hB hz1
      go_roundw
      case rel => exact ⟨k + 1, g', cap', by omega, by go_num, rfl, by rw [HT.out]; exact hown', hB'⟩
      case measure => simp [intOf]; omega
    · have hke : k = xs.length := by omega
      have hown2 : OwnB wr w.heap.size g cap xs := by rw [hke, List.take_length] at hown; exact hown
      have Hke := Lib.hid hke
      clear hown hke
      obtain ⟨wo, rfl⟩ : ∃ wo : World, wo = wr := ⟨_, rfl⟩
      go_wp2_with fail
      go_loopw [5, 7] (fun v i wr => RelJ2 w xs bs v i wr) (fun _ i _ => bs.length - (intOf i).toNat)
      case atStart => exact ⟨0, g, cap, Nat.zero_le _, rfl, by rw [Hke.out]; rfl, by rw [List.take_zero, List.append_nil]; exact hown2, hB⟩
      case round =>
        clear hown2 hB
        obtain ⟨k2, g, cap, hk2, rfl, rfl, hown, hB⟩ := hrel
        by_cases hlt2 : k2 < bs.length
        · obtain ⟨ba, off, rfl, hbw, hz⟩ := hb.at hlt2
          have hz1 := (hB.cell (p := ⟨ba, off + k2, none⟩) hbw).trans hz
          have HT := Lib.hid (take_snoc hlt2)
          have HL := Lib.hid (show xs.length + k2 = (xs ++ bs.take k2).length by rw [List.length_append, List.length_take]; omega)
          generalize bs.getD k2 0 = z at hz1 HT
          generalize bs.take k2 = tk at hown HT HL
          clear hz
          go_wp2_with (at_builtin; refine wpList_append_b rfl (.tmp 28) (.tmp 33) rfl z HL.out rfl rfl hown hB (by omega) ?_; intro g' cap' w' hown' hB')
          clear hown hB hz1
          go_roundw
          case rel => exact ⟨k2 + 1, g', cap', by omega, by go_num, rfl, by rw [HT.out, ← List.append_assoc]; exact hown', hB'⟩
          case measure => simp [intOf]; omega
        · have hke2 : bs.take k2 = bs := List.take_of_length_le (by omega)
          rw [hke2] at hown
          have H2 := Lib.hid (show xs.length + k2 = (xs ++ bs).length by rw [List.length_append]; omega)
          clear hke2
          go_wp2_with fail
          go_ret
          exact ⟨g, cap, by rw [← H2.out]; rfl, hown, hB⟩
end Go.Proofs.Ytdonocchidfooaa
