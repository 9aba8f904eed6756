/- The reader's Raw, Short, NewReader. -/
import Derived.Test.YtofialinjbjcmaaRdRaw
namespace Go.Proofs.Ytofialinjbjcmaa
open Go.RowKit

set_option maxHeartbeats 400000 in
theorem rraw_any (p : Nat) (n : Int) (a : Option Addr) (cap : Nat) (s : RS) (w : World) (h : IsR w p a cap s) :
    Calls Try.prog 50 #[.pointer (some ⟨p, 0, none⟩), .int .i64 n] w (AftB w p a (s.raw n).1 (s.raw n).2) := by
  have hmf : ∀ (fn : Fn) (first cap : Array Value) (w : World), (Instr.makeFunc fn first cap).run Try.prog w = .ok (.func fn first cap) w := fun _ _ _ _ => rfl
  have hp := h.lt
  have hB := ((Below.refl w.heap.size w).alloc (Nat.le_refl _) (.cells #[.pointer (some ⟨p, 0, none⟩)] 40)).alloc (by simp) (.cells #[.int .i64 n] 3)
  have hC : Caps ((w.alloc (.cells #[.pointer (some ⟨p, 0, none⟩)] 40)).alloc (.cells #[.int .i64 n] 3)) p w.heap.size n := caps_new hp n _ _
  have H : Hid (Calls Try.prog 80 #[.pointer (some ⟨p, 0, none⟩), .func (.func 81) #[] #[.pointer (some ⟨w.heap.size, 0, none⟩), .pointer (some ⟨w.heap.size + 1, 0, none⟩)]] ((w.alloc (.cells #[.pointer (some ⟨p, 0, none⟩)] 40)).alloc (.cells #[.int .i64 n] 3)) (AftB ((w.alloc (.cells #[.pointer (some ⟨p, 0, none⟩)] 40)).alloc (.cells #[.int .i64 n] 3)) p a (s.raw n).1 (s.raw n).2)) :=
    Lib.hid (readb_any p a cap s _ _ _ _ _ (h.below hB) (fun _ => by kernel_rfl) (fun he => by simp [RS.raw, he]) (fun he => by
      by_cases h1 : n < 0
      · exact .inl ⟨1, by decide, by simp [RS.raw, he, h1], by simp [RS.raw, he, h1], fun w1 hb => rawb_threw p w.heap.size 1 n w1 (hC.below hb).cells.1 (hC.below hb).cells.2 ((h.below hB).below hb) (take_neg p n h1 w1)⟩
      · by_cases h2 : (s.rest.length : Int) < n
        · exact .inl ⟨2, by decide, by simp [RS.raw, he, h1, h2], by simp [RS.raw, he, h1, h2], fun w1 hb => rawb_threw p w.heap.size 2 n w1 (hC.below hb).cells.1 (hC.below hb).cells.2 ((h.below hB).below hb) (take_short p a cap s n (by omega) h2 w1 ((h.below hB).below hb))⟩
        · obtain ⟨k, rfl⟩ := Int.eq_ofNat_of_zero_le (show 0 ≤ n by omega)
          refine .inr fun w1 hb => ?_
          have e : s.raw (k : Int) = (s.rest.take k, { s with rest := s.rest.drop k }) := by simp [RS.raw, he, h2]
          rw [e]
          exact (rawb_ok p w.heap.size k w1 (hC.below hb).cells.1 (hC.below hb).cells.2 ((h.below hB).below hb) (by omega)).mono fun x w2 hT => Took.aftB (by omega) hT))
  have HB := Lib.hid hB
  clear hB h hC
  go_enter Try.func50, Try.ntmps50
  go_wp2_with fail
  refine H.out.mono ?_
  intro x w3 h3
  have H3 := Lib.hid (h3.pre (Chg.of_below HB.out))
  obtain ⟨oa, cap2, rfl, -⟩ := h3
  go_wp2_with fail
  go_ret
  exact H3.out

set_option maxHeartbeats 400000 in
theorem rshort_any (p : Nat) (n : Int) (a : Option Addr) (cap : Nat) (s : RS) (w : World) (h : IsR w p a cap s) :
    Calls Try.prog 53 #[.pointer (some ⟨p, 0, none⟩), .int .i64 n] w (AftB w p a (s.short n).1 (s.short n).2) := by
  have hmf : ∀ (fn : Fn) (first cap : Array Value) (w : World), (Instr.makeFunc fn first cap).run Try.prog w = .ok (.func fn first cap) w := fun _ _ _ _ => rfl
  have hp := h.lt
  have hB := ((Below.refl w.heap.size w).alloc (Nat.le_refl _) (.cells #[.pointer (some ⟨p, 0, none⟩)] 40)).alloc (by simp) (.cells #[.int .i64 n] 3)
  have hC : Caps ((w.alloc (.cells #[.pointer (some ⟨p, 0, none⟩)] 40)).alloc (.cells #[.int .i64 n] 3)) p w.heap.size n := caps_new hp n _ _
  have H : Hid (Calls Try.prog 80 #[.pointer (some ⟨p, 0, none⟩), .func (.func 83) #[] #[.pointer (some ⟨w.heap.size, 0, none⟩), .pointer (some ⟨w.heap.size + 1, 0, none⟩)]] ((w.alloc (.cells #[.pointer (some ⟨p, 0, none⟩)] 40)).alloc (.cells #[.int .i64 n] 3)) (AftB ((w.alloc (.cells #[.pointer (some ⟨p, 0, none⟩)] 40)).alloc (.cells #[.int .i64 n] 3)) p a (s.short n).1 (s.short n).2)) :=
    Lib.hid (readb_any p a cap s _ _ _ _ _ (h.below hB) (fun _ => by kernel_rfl) (fun he => by simp [RS.short, he]) (fun he => by
      rcases hr : s.rest with _ | ⟨b, t⟩
      · exact .inl ⟨2, by decide, by simp [RS.short, he, hr], by simp [RS.short, he, hr], fun w1 hb => shortb_empty p w.heap.size n a cap s w1 ((h.below hB).below hb) (hC.below hb) hr⟩
      · by_cases h1 : n < b.toNat
        · exact .inl ⟨4, by decide, by simp [RS.short, he, hr, h1], by simp [RS.short, he, hr, h1], fun w1 hb => shortb_many p w.heap.size n a cap s b t w1 ((h.below hB).below hb) (hC.below hb) hr h1⟩
        · by_cases h2 : t.length < b.toNat
          · exact .inl ⟨2, by decide, by simp [RS.short, he, hr, h1, h2], by simp [RS.short, he, hr, h1, h2], fun w1 hb => shortb_short p w.heap.size n a cap s b t w1 ((h.below hB).below hb) (hC.below hb) hr (by omega) h2⟩
          · refine .inr fun w1 hb => ?_
            have e : s.short n = (t.take b.toNat, { s with rest := t.drop b.toNat }) := by simp [RS.short, he, hr, h1, h2]
            rw [e]
            exact shortb_ok p w.heap.size n a cap s b t w1 ((h.below hB).below hb) (hC.below hb) hr (by omega) (by omega)))
  have HB := Lib.hid hB
  clear hB h hC
  go_enter Try.func53, Try.ntmps53
  go_wp2_with fail
  refine H.out.mono ?_
  intro x w3 h3
  have H3 := Lib.hid (h3.pre (Chg.of_below HB.out))
  obtain ⟨oa, cap2, rfl, -⟩ := h3
  go_wp2_with fail
  go_ret
  exact H3.out

/-- what NewReader leaves -/
def NewR (w : World) (bs : List UInt8) (x : Ending) (w' : World) : Prop := ∃ p a' cap', x = .returned (.pointer (some ⟨p, 0, none⟩)) ∧ IsR w' p a' cap' ⟨bs, 0⟩ ∧ w.heap.size ≤ p ∧ (∀ k, blk a' = some k → w.heap.size ≤ k) ∧ Below w.heap.size w w'
theorem newReader_any (a : Option Addr) (c : Nat) (bs : List UInt8) (w : World) (hx : Bts w a bs) (hc : a = none → c = 0) (hl : bs.length ≤ 140737488355328) :
    Calls Try.prog 13 #[.slice a bs.length c] w (NewR w bs) := by
  obtain ⟨n, hn⟩ : ∃ n, bs.length = n := ⟨_, rfl⟩
  rw [hn]
  have Hn := Lib.hid hn
  have hl2 : n ≤ 140737488355328 := by omega
  have Hl := Lib.hid hl
  clear hn hl
  go_enter Try.func13, Try.ntmps13
  go_wp2_with (at_builtin; go_must (refine wpList_append_bytes rfl (.const (.slice none 0 0)) (.tmp 3) rfl (n := 0) (bs := []) rfl rfl (OB.nil _) Hn.out.symm rfl hx hc (by omega) ?_)
               intro oa2 cap2 w2 hO2 hC2 hb2 _)
  have hO3 : OB w2 oa2 cap2 bs := by simpa using hO2
  have hB : Below w.heap.size w w2 := hC2.below (Nat.le_refl _) (fun k e => by cases e)
  have hB2 := (Below.refl w2.heap.size w2).alloc (Nat.le_refl _) (.cells #[.slice oa2 n cap2, .int .i64 0] 78)
  have hO4 := hO3.below hB2
  have hlt := hO3.lt
  have hz := hB.size
  go_ret
  refine ⟨w2.heap.size, oa2, cap2, rfl, ⟨⟨78, by rw [heap_alloc_new, Hn.out]; rfl⟩, hO4.bts, fun e => (hO4.none_cap e).1, fun e => absurd (hlt _ e) (by omega), hO4.cap.1, Hl.out, Nat.zero_le _, hO4.lt⟩, hz, fun k hk => ?_, hB.alloc hz _⟩
  · rcases hb2 with e | e <;> rw [e] at hk <;> cases hk
    exact Nat.le_refl _

end Go.Proofs.Ytofialinjbjcmaa
