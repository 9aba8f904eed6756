/- The walk of WireBack's nothing, and back and nothing of every kind of field. -/
import Derived.Test.YtofialinjbjcmaaFldBack
namespace Go.Proofs.Ytofialinjbjcmaa
open Go.RowKit
set_option linter.unusedVariables false

/-- of the next field a byte is lacking; or one was lacking before -/
def RS.lacks (s : RS) (l : List UInt8) : Prop := s.err = 2 ∨ (s.err = 0 ∧ s.rest <+: l ∧ s.rest.length < l.length)
theorem rs_two {s : RS} (h : s.err = 2) : s = { s with err := 2 } := by rw [← h]
theorem get_lack {s : RS} {l : List UInt8} (h : s.lacks l) {k : Nat} (hl : l.length = k) : s.get k = (0, { s with err := 2 }) := by
  rcases h with h | ⟨h1, h2, h3⟩
  · rw [RS.get, if_pos (by omega), ← rs_two h]
  · rw [RS.get, if_neg (by simp [h1]), if_pos (by omega)]
theorem raw_lack {s : RS} {l : List UInt8} (h : s.lacks l) : s.raw (l.length : Int) = ([], { s with err := 2 }) := by
  rcases h with h | ⟨h1, h2, h3⟩
  · rw [RS.raw, if_pos (by omega), ← rs_two h]
  · rw [RS.raw, if_neg (by simp [h1]), if_neg (by omega), if_pos (by omega)]
theorem short_lack {s : RS} {bs : List UInt8} (h : s.lacks (UInt8.ofNat bs.length :: bs)) (hb : bs.length ≤ 255) : s.short 255 = ([], { s with err := 2 }) := by
  rcases h with h | ⟨h1, h2, h3⟩
  · rw [RS.short, if_pos (by omega), ← rs_two h]
  · rw [RS.short, if_neg (by simp [h1])]
    rcases hr : s.rest with _ | ⟨b, t⟩
    · rfl
    · rw [hr] at h2 h3
      have e : b = UInt8.ofNat bs.length := by obtain ⟨u, hu⟩ := h2; simp at hu; exact hu.1
      have e2 : b.toNat = bs.length := by rw [e, UInt8.toNat_ofNat']; omega
      simp only [List.length_cons] at h3
      simp only
      rw [if_neg (by omega), if_pos (by omega)]

set_option maxHeartbeats 1000000 in
theorem nothing_uint8 (p : Nat) (a : Option Addr) (cap : Nat) (s : RS) (o : Op2) (hk : o.kind = 1) (w : World) (h : IsR w p a cap s) (hl : s.lacks (leb 1 o.n)) :
    Calls Try.prog 64 #[.pointer (some ⟨p, 0, none⟩), o.val] w (BackQ w p a { s with err := 2 }) := by
  have HC := Lib.hid fun w' => BackQ.mk (w := w) (p := p) (a := a) (s := { s with err := 2 }) (w1 := w') o
  have H := get_uint8 p a cap s (w.alloc o.box) (h.below (o.box_below w))
  rw [get_lack hl (leb_length 1 _)] at H
  have H := Lib.hid H
  obtain ⟨kind, ko, n, ao, co, bs⟩ := o
  simp only at hk
  subst hk
  simp only [Op2.val, Op2.box] at *
  clear h hl
  go_enter Try.func64, Try.ntmps64
  go_wp2_with fail
  refine H.out.mono ?_
  rintro e w1 ⟨rfl, hA⟩
  go_wp2_with fail
  go_ret
  exact HC.out _ hA

set_option maxHeartbeats 1000000 in
theorem nothing_uint16 (p : Nat) (a : Option Addr) (cap : Nat) (s : RS) (o : Op2) (hk : o.kind = 2) (w : World) (h : IsR w p a cap s) (hl : s.lacks (leb 2 o.n)) :
    Calls Try.prog 64 #[.pointer (some ⟨p, 0, none⟩), o.val] w (BackQ w p a { s with err := 2 }) := by
  have HC := Lib.hid fun w' => BackQ.mk (w := w) (p := p) (a := a) (s := { s with err := 2 }) (w1 := w') o
  have H := get_uint16 p a cap s (w.alloc o.box) (h.below (o.box_below w))
  rw [get_lack hl (leb_length 2 _)] at H
  have H := Lib.hid H
  obtain ⟨kind, ko, n, ao, co, bs⟩ := o
  simp only at hk
  subst hk
  simp only [Op2.val, Op2.box] at *
  clear h hl
  go_enter Try.func64, Try.ntmps64
  go_wp2_with fail
  refine H.out.mono ?_
  rintro e w1 ⟨rfl, hA⟩
  go_wp2_with fail
  go_ret
  exact HC.out _ hA

set_option maxHeartbeats 1000000 in
theorem nothing_uint32 (p : Nat) (a : Option Addr) (cap : Nat) (s : RS) (o : Op2) (hk : o.kind = 4) (w : World) (h : IsR w p a cap s) (hl : s.lacks (leb 4 o.n)) :
    Calls Try.prog 64 #[.pointer (some ⟨p, 0, none⟩), o.val] w (BackQ w p a { s with err := 2 }) := by
  have HC := Lib.hid fun w' => BackQ.mk (w := w) (p := p) (a := a) (s := { s with err := 2 }) (w1 := w') o
  have H := get_uint32 p a cap s (w.alloc o.box) (h.below (o.box_below w))
  rw [get_lack hl (leb_length 4 _)] at H
  have H := Lib.hid H
  obtain ⟨kind, ko, n, ao, co, bs⟩ := o
  simp only at hk
  subst hk
  simp only [Op2.val, Op2.box] at *
  clear h hl
  go_enter Try.func64, Try.ntmps64
  go_wp2_with fail
  refine H.out.mono ?_
  rintro e w1 ⟨rfl, hA⟩
  go_wp2_with fail
  go_ret
  exact HC.out _ hA

set_option maxHeartbeats 1000000 in
theorem nothing_uint64 (p : Nat) (a : Option Addr) (cap : Nat) (s : RS) (o : Op2) (hk : o.kind = 8) (w : World) (h : IsR w p a cap s) (hl : s.lacks (leb 8 o.n)) :
    Calls Try.prog 64 #[.pointer (some ⟨p, 0, none⟩), o.val] w (BackQ w p a { s with err := 2 }) := by
  have HC := Lib.hid fun w' => BackQ.mk (w := w) (p := p) (a := a) (s := { s with err := 2 }) (w1 := w') o
  have H := get_uint64 p a cap s (w.alloc o.box) (h.below (o.box_below w))
  rw [get_lack hl (leb_length 8 _)] at H
  have H := Lib.hid H
  obtain ⟨kind, ko, n, ao, co, bs⟩ := o
  simp only at hk
  subst hk
  simp only [Op2.val, Op2.box] at *
  clear h hl
  go_enter Try.func64, Try.ntmps64
  go_wp2_with fail
  refine H.out.mono ?_
  rintro e w1 ⟨rfl, hA⟩
  go_wp2_with fail
  go_ret
  exact HC.out _ hA

set_option maxHeartbeats 1000000 in
theorem nothing_raw (p : Nat) (a : Option Addr) (cap : Nat) (s : RS) (o : Op2) (hk : o.kind = 0) (w : World) (h : IsR w p a cap s) (hl : s.lacks o.bs) :
    Calls Try.prog 64 #[.pointer (some ⟨p, 0, none⟩), o.val] w (BackQ w p a { s with err := 2 }) := by
  have HC := Lib.hid fun w' => BackQ.mk (w := w) (p := p) (a := a) (s := { s with err := 2 }) (w1 := w') o
  have H := rraw_any p (o.bs.length : Int) a cap s (w.alloc o.box) (h.below (o.box_below w))
  rw [raw_lack hl] at H
  have H := Lib.hid H
  obtain ⟨kind, ko, n, ao, co, bs⟩ := o
  simp only at hk
  subst hk
  simp only [Op2.val, Op2.box] at *
  clear h hl
  go_enter Try.func64, Try.ntmps64
  go_wp2_with fail
  refine H.out.mono ?_
  rintro e w1 ⟨oa, cap2, rfl, hO, hnew, hA⟩
  go_wp2_with fail
  go_ret
  exact HC.out _ hA

set_option maxHeartbeats 1000000 in
theorem nothing_short (p : Nat) (a : Option Addr) (cap : Nat) (s : RS) (o : Op2) (hk : o.sh = true) (h255 : o.bs.length ≤ 255) (w : World) (h : IsR w p a cap s) (hl : s.lacks (UInt8.ofNat o.bs.length :: o.bs)) :
    Calls Try.prog 64 #[.pointer (some ⟨p, 0, none⟩), o.val] w (BackQ w p a { s with err := 2 }) := by
  have HC := Lib.hid fun w' => BackQ.mk (w := w) (p := p) (a := a) (s := { s with err := 2 }) (w1 := w') o
  have H := rshort_any p 255 a cap s (w.alloc o.box) (h.below (o.box_below w))
  rw [short_lack hl h255] at H
  have H := Lib.hid H
  obtain ⟨kind, ko, n, ao, co, bs⟩ := o
  simp only [Op2.sh, Bool.not_eq_true', Bool.or_eq_false_iff] at hk
  obtain ⟨⟨⟨⟨e0, e1⟩, e2⟩, e4⟩, e8⟩ := hk
  simp only [Op2.val, Op2.box] at *
  clear h hl
  go_enter Try.func64, Try.ntmps64
  go_wp2_with fail
  refine H.out.mono ?_
  rintro e w1 ⟨oa, cap2, rfl, hO, hnew, hA⟩
  go_wp2_with fail
  go_ret
  exact HC.out _ hA

theorem sh_of {o : Op2} (k1 : o.kind ≠ 1) (k2 : o.kind ≠ 2) (k4 : o.kind ≠ 4) (k8 : o.kind ≠ 8) (k0 : o.kind ≠ 0) : o.sh = true := by
  simp [Op2.sh, k0, k1, k2, k4, k8]
theorem nothing_any (p : Nat) (a : Option Addr) (cap : Nat) (s : RS) (o : Op2) (hsh : o.sh = true → o.bs.length ≤ 255) (w : World) (h : IsR w p a cap s) (hl : s.lacks o.enc) :
    Calls Try.prog 64 #[.pointer (some ⟨p, 0, none⟩), o.val] w (BackQ w p a { s with err := 2 }) := by
  unfold Op2.enc at hl
  by_cases k1 : o.kind = 1
  · rw [if_pos k1] at hl; exact nothing_uint8 p a cap s o k1 w h hl
  rw [if_neg k1] at hl
  by_cases k2 : o.kind = 2
  · rw [if_pos k2] at hl; exact nothing_uint16 p a cap s o k2 w h hl
  rw [if_neg k2] at hl
  by_cases k4 : o.kind = 4
  · rw [if_pos k4] at hl; exact nothing_uint32 p a cap s o k4 w h hl
  rw [if_neg k4] at hl
  by_cases k8 : o.kind = 8
  · rw [if_pos k8] at hl; exact nothing_uint64 p a cap s o k8 w h hl
  rw [if_neg k8] at hl
  by_cases k0 : o.kind = 0
  · rw [if_pos k0] at hl; exact nothing_raw p a cap s o k0 w h hl
  rw [if_neg k0] at hl
  have hs := sh_of k1 k2 k4 k8 k0
  exact nothing_short p a cap s o hs (hsh hs) w h hl
theorem back_any (p : Nat) (a : Option Addr) (cap : Nat) (s : RS) (o : Op2) (t : List UInt8) (hsh : o.sh = true → o.bs.length ≤ 255) (w : World) (h : IsR w p a cap s) (he : s.err = 0) (hr : s.rest = o.enc ++ t) (ho : o.fits) (hb : Bts w o.a o.bs) (hba : o.bs = [] ∨ ∀ k, blk o.a = some k → k ≠ p) :
    Calls Try.prog 27 #[.pointer (some ⟨p, 0, none⟩), o.val] w (BackQ w p a ⟨t, 0⟩) := by
  unfold Op2.enc at hr
  by_cases k1 : o.kind = 1
  · rw [if_pos k1] at hr; exact back_uint8 p a cap s o k1 t w h he hr ho.1
  rw [if_neg k1] at hr
  by_cases k2 : o.kind = 2
  · rw [if_pos k2] at hr; exact back_uint16 p a cap s o k2 t w h he hr ho.1
  rw [if_neg k2] at hr
  by_cases k4 : o.kind = 4
  · rw [if_pos k4] at hr; exact back_uint32 p a cap s o k4 t w h he hr ho.1
  rw [if_neg k4] at hr
  by_cases k8 : o.kind = 8
  · rw [if_pos k8] at hr; exact back_uint64 p a cap s o k8 t w h he hr ho.1
  rw [if_neg k8] at hr
  by_cases k0 : o.kind = 0
  · rw [if_pos k0] at hr; exact back_raw p a cap s o k0 t w h he hr ho hb hba
  rw [if_neg k0] at hr
  have hs := sh_of k1 k2 k4 k8 k0
  exact back_short p a cap s o hs t w h he hr (hsh hs) hb hba
end Go.Proofs.Ytofialinjbjcmaa
