/- The reader's Zeros, whole. -/
import Derived.Test.YtpjdknmgegbgnaaRdZeros
namespace Go.Proofs.Ytpjdknmgegbgnaa
open Go.RowKit

theorem rzerosr (p g : Nat) (a : Option Addr) (cap : Nat) (s : RS) (w : World) (h : IsR w p a cap s) (hg : w.heap[g]? = some (.cells #[.pointer (some ⟨p, 0, none⟩)] 55)) :
    Calls Try.prog 70 #[.pointer (some ⟨p, 0, none⟩), .func (.func 71) #[] #[.pointer (some ⟨g, 0, none⟩)]] w fun x w' => x = .returned (.int .i64 0) ∧ Aft w p a s.zeros w' := by
  have hcf : ∀ w0 : World, (callFunc 71 #[.pointer (some ⟨g, 0, none⟩)]).run Try.prog w0 = .ok (.enter 71 #[.pointer (some ⟨g, 0, none⟩)]) w0 := fun _ => by kernel_rfl
  have hgl := rlt_of_heap hg
  have hgc : ∀ w1, Below w.heap.size w w1 → w1.cell? ⟨g, 0, none⟩ = some (.pointer (some ⟨p, 0, none⟩)) := fun w1 hb => (cell1 ((hb.block g hgl).trans hg)).1
  by_cases he : s.err = 0
  · cases hz : s.rest.any (· != 0) with
    | true =>
      have e : s.zeros = { s with err := 5 } := by simp only [RS.zeros, he, hz]; simp
      rw [e]
      exact (read_gave_int p a cap s _ _ 5 w h he (by decide) hcf fun w1 hb => (zerosb p g a cap s w1 (h.below hb) (hgc w1 hb)).mono fun x w2 hZ => by
        unfold ZDone at hZ; rw [hz] at hZ; exact hZ).mono fun x w' hG => Aft.gave hG
    | false =>
      have e : s.zeros = { s with rest := [] } := by simp only [RS.zeros, he, hz]; simp
      rw [e]
      refine (read_done_int p a cap s _ _ (fun v w1 w2 => v = .int .i64 0 ∧ Aft w1 p a { s with rest := [] } w2) w h he hcf fun w1 hb _ => (zerosb p g a cap s w1 (h.below hb) (hgc w1 hb)).mono ?_).mono ?_
      · intro x w2 hZ
        unfold ZDone at hZ
        rw [hz] at hZ
        obtain ⟨rfl, hA⟩ := hZ
        have hA2 := hA
        obtain ⟨a', cap', _, _, h3⟩ := hA2
        exact ⟨_, rfl, ⟨rfl, hA⟩, h3, _, rfl⟩
      · rintro x w' ⟨v, w1, w2, rfl, hb, hs, ⟨rfl, hA⟩, hc⟩
        exact ⟨rfl, Aft.read h.lt (h.2.2.2.2.2.2.2) hb hs hA hc⟩
  · have e : s.zeros = s := by simp [RS.zeros, he]
    rw [e]
    exact (read_stop_int p a cap s _ w h he).mono fun x w' hx => ⟨hx.1, h.after hx.2⟩

theorem rzeros_any (p : Nat) (a : Option Addr) (cap : Nat) (s : RS) (w : World) (h : IsR w p a cap s) :
    Calls Try.prog 38 #[.pointer (some ⟨p, 0, none⟩)] w fun x w' => x = .returned (.tuple #[]) ∧ Aft w p a s.zeros w' := by
  have hmf : ∀ (fn : Fn) (first cap : Array Value) (w : World), (Instr.makeFunc fn first cap).run Try.prog w = .ok (.func fn first cap) w := fun _ _ _ _ => rfl
  have hB := (Below.refl w.heap.size w).alloc (Nat.le_refl _) (.cells #[.pointer (some ⟨p, 0, none⟩)] 55)
  have hg := heap_alloc_new w (.cells #[.pointer (some ⟨p, 0, none⟩)] 55)
  have h2 := h.below hB
  have HB := Lib.hid hB
  have H := Lib.hid (rzerosr p w.heap.size a cap s _ h2 hg)
  clear hB h h2 hg
  go_enter Try.func38, Try.ntmps38
  go_wp2_with fail
  refine H.out.mono ?_
  rintro _ w3 ⟨rfl, h3⟩
  go_wp2_with fail
  go_end0
  exact ⟨rfl, h3.pre (Chg.of_below HB.out)⟩
end Go.Proofs.Ytpjdknmgegbgnaa
