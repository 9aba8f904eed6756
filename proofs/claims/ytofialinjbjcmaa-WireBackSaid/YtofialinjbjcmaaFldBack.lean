/- The walks of WireBack's back and nothing: a field is read again; a field that lacks a byte. -/
import Derived.Test.YtofialinjbjcmaaFld
import Derived.Test.YtofialinjbjcmaaEq
import Derived.Deep.RegionHeld3
namespace Go.Proofs.Ytofialinjbjcmaa
open Go.RowKit
set_option linter.unusedVariables false

theorem unle_leb (k n : Nat) : unle (leb k n) = n % 256 ^ k := by
  induction k generalizing n with
  | zero => simp [leb, unle, Nat.mod_one]
  | succ k ih =>
    have e : (UInt8.ofNat (n % 256)).toNat = n % 256 := by rw [UInt8.toNat_ofNat']; omega
    rw [leb, unle, ih, e, Nat.pow_succ', Nat.mod_mul]
theorem eqBytes_same (xs : List UInt8) (a b : Option Addr) (c d : Nat) (hx : xs.length ≤ 4611686018427387904) (w : World) (ha : Bts w a xs) (hb : Bts w b xs) :
    Calls Try.prog 44 #[.slice a xs.length c, .slice b xs.length d] w fun x w' => x = .returned (.bool true) ∧ Below w.heap.size w w' :=
  (eqBytes_any xs xs a b c d hx hx w ha hb).mono fun x w' ⟨h1, h2⟩ => ⟨by rw [h1]; simp, h2⟩
theorem Bts.drew {w : World} {a : Option Addr} {bs : List UInt8} (h : Bts w a bs) : Bts w.drew a bs := h
theorem get_back (k n : Nat) (s : RS) (t : List UInt8) (he : s.err = 0) (hr : s.rest = leb k n ++ t) : s.get k = (n % 256 ^ k, ⟨t, 0⟩) := by
  have hl := leb_length k n
  simp only [RS.get, he, hr]
  rw [if_neg (by simp), if_neg (by rw [List.length_append]; omega), List.take_left' hl, List.drop_left' hl, unle_leb]
theorem raw_back (s : RS) (bs t : List UInt8) (he : s.err = 0) (hr : s.rest = bs ++ t) : s.raw (bs.length : Int) = (bs, ⟨t, 0⟩) := by
  simp only [RS.raw, he, hr]
  rw [if_neg (by simp), if_neg (by omega), if_neg (by rw [List.length_append]; omega), Int.toNat_natCast, List.take_left' rfl, List.drop_left' rfl]
theorem short_back (s : RS) (bs t : List UInt8) (he : s.err = 0) (hr : s.rest = UInt8.ofNat bs.length :: (bs ++ t)) (hl : bs.length ≤ 255) : s.short 255 = (bs, ⟨t, 0⟩) := by
  have e : (UInt8.ofNat bs.length).toNat = bs.length := by rw [UInt8.toNat_ofNat']; omega
  simp only [RS.short, he, hr, e]
  rw [if_neg (by simp), if_neg (by omega), if_neg (by rw [List.length_append]; omega), List.take_left' rfl, List.drop_left' rfl]
/-- what stays of a field's box, whatever the reader does -/
theorem box_stays {w w' : World} {p : Nat} {o : Op2} (hp : p < w.heap.size) (h : Chg (fun k => k = p) (w.alloc o.box) w') : w'.cell? ⟨w.heap.size, 1, none⟩ = some (.int .u64 o.n) ∧ w'.cell? ⟨w.heap.size, 2, none⟩ = some (.slice o.a o.bs.length o.cap) := by
  obtain ⟨b0, b1, b2, b3⟩ := o.boxed w
  exact ⟨(h.cell (p := ⟨w.heap.size, 1, none⟩) (by simp) (by show ¬ w.heap.size = p; omega)).trans b1, (h.cell (p := ⟨w.heap.size, 2, none⟩) (by simp) (by show ¬ w.heap.size = p; omega)).trans b2⟩
theorem Aft.chg {w w' : World} {p : Nat} {a : Option Addr} {s : RS} (h : Aft w p a s w') : Chg (fun k => k = p) w w' := by
  obtain ⟨_, _, _, _, h⟩ := h
  exact h
def BackQ (w : World) (p : Nat) (a : Option Addr) (s : RS) (x : Ending) (w' : World) : Prop := x = .returned (.bool true) ∧ Aft w p a s w'
theorem BackQ.mk {w : World} {p : Nat} {a : Option Addr} {s : RS} {w1 : World} (o : Op2) (h : Aft (w.alloc o.box) p a s w1) : BackQ w p a s (.returned (.bool true)) w1 :=
  ⟨rfl, h.pre (Chg.of_below (o.box_below w))⟩

set_option maxHeartbeats 1000000 in
theorem back_uint8 (p : Nat) (a : Option Addr) (cap : Nat) (s : RS) (o : Op2) (hk : o.kind = 1) (t : List UInt8) (w : World) (h : IsR w p a cap s) (he : s.err = 0) (hr : s.rest = leb 1 o.n ++ t) (hn : o.n < 18446744073709551616) :
    Calls Try.prog 27 #[.pointer (some ⟨p, 0, none⟩), o.val] w (BackQ w p a ⟨t, 0⟩) := by
  have hp := h.lt
  have HB := Lib.hid fun w' => box_stays (w' := w') (o := o) hp
  have HC := Lib.hid fun w' => BackQ.mk (w := w) (p := p) (a := a) (s := ⟨t, 0⟩) (w1 := w') o
  have H := get_uint8 p a cap s (w.alloc o.box).drew ((h.below (o.box_below w)).drew)
  rw [get_back 1 o.n s t he hr, show ((o.n % 256 ^ 1 : Nat) : Int) = (o.n : Int) % 256 by omega] at H
  have H := Lib.hid H
  obtain ⟨kind, ko, n, ao, co, bs⟩ := o
  simp only at hk hn
  subst hk
  simp only [Op2.val, Op2.box] at *
  clear h he hr
  go_enter Try.func27, Try.ntmps27
  go_wp2_with fail
  go_region_held3 (fun w' => w'.cell? ⟨w.heap.size, 1, none⟩ = some (.int .u64 n) ∧ w'.cell? ⟨w.heap.size, 2, none⟩ = some (.slice ao bs.length co))
    (first
      | exact HB.out _ (Chg.refl _ _).drew
      | with_reducible exact hbn)
    (first
      | (go_at_call 45; go_split_ands; ((with_reducible refine H.out.mono ?_); rintro e w1 ⟨rfl, hA⟩)
         have hA2 := hA.pre (Chg.refl _ _).drew
         have hbn := HB.out w1 hA2.chg))
  go_wp2_with fail
  go_ret
  rw [show ((n : Int) % 256 == IntKind.u8.wrap (n : Int)) = true by rw [beq_iff_eq]; simp [IntKind.wrap, IntKind.signed, IntKind.bits]]
  exact HC.out _ hA2

set_option maxHeartbeats 1000000 in
theorem back_uint16 (p : Nat) (a : Option Addr) (cap : Nat) (s : RS) (o : Op2) (hk : o.kind = 2) (t : List UInt8) (w : World) (h : IsR w p a cap s) (he : s.err = 0) (hr : s.rest = leb 2 o.n ++ t) (hn : o.n < 18446744073709551616) :
    Calls Try.prog 27 #[.pointer (some ⟨p, 0, none⟩), o.val] w (BackQ w p a ⟨t, 0⟩) := by
  have hp := h.lt
  have HB := Lib.hid fun w' => box_stays (w' := w') (o := o) hp
  have HC := Lib.hid fun w' => BackQ.mk (w := w) (p := p) (a := a) (s := ⟨t, 0⟩) (w1 := w') o
  have H := get_uint16 p a cap s (w.alloc o.box).drew ((h.below (o.box_below w)).drew)
  rw [get_back 2 o.n s t he hr, show ((o.n % 256 ^ 2 : Nat) : Int) = (o.n : Int) % 65536 by omega] at H
  have H := Lib.hid H
  obtain ⟨kind, ko, n, ao, co, bs⟩ := o
  simp only at hk hn
  subst hk
  simp only [Op2.val, Op2.box] at *
  clear h he hr
  go_enter Try.func27, Try.ntmps27
  go_wp2_with fail
  go_region_held3 (fun w' => w'.cell? ⟨w.heap.size, 1, none⟩ = some (.int .u64 n) ∧ w'.cell? ⟨w.heap.size, 2, none⟩ = some (.slice ao bs.length co))
    (first
      | exact HB.out _ (Chg.refl _ _).drew
      | with_reducible exact hbn)
    (first
      | (go_at_call 47; go_split_ands; ((with_reducible refine H.out.mono ?_); rintro e w1 ⟨rfl, hA⟩)
         have hA2 := hA.pre (Chg.refl _ _).drew
         have hbn := HB.out w1 hA2.chg))
  go_wp2_with fail
  go_ret
  rw [show ((n : Int) % 65536 == IntKind.u16.wrap (n : Int)) = true by rw [beq_iff_eq]; simp [IntKind.wrap, IntKind.signed, IntKind.bits]]
  exact HC.out _ hA2

set_option maxHeartbeats 1000000 in
theorem back_uint32 (p : Nat) (a : Option Addr) (cap : Nat) (s : RS) (o : Op2) (hk : o.kind = 4) (t : List UInt8) (w : World) (h : IsR w p a cap s) (he : s.err = 0) (hr : s.rest = leb 4 o.n ++ t) (hn : o.n < 18446744073709551616) :
    Calls Try.prog 27 #[.pointer (some ⟨p, 0, none⟩), o.val] w (BackQ w p a ⟨t, 0⟩) := by
  have hp := h.lt
  have HB := Lib.hid fun w' => box_stays (w' := w') (o := o) hp
  have HC := Lib.hid fun w' => BackQ.mk (w := w) (p := p) (a := a) (s := ⟨t, 0⟩) (w1 := w') o
  have H := get_uint32 p a cap s (w.alloc o.box).drew ((h.below (o.box_below w)).drew)
  rw [get_back 4 o.n s t he hr, show ((o.n % 256 ^ 4 : Nat) : Int) = (o.n : Int) % 4294967296 by omega] at H
  have H := Lib.hid H
  obtain ⟨kind, ko, n, ao, co, bs⟩ := o
  simp only at hk hn
  subst hk
  simp only [Op2.val, Op2.box] at *
  clear h he hr
  go_enter Try.func27, Try.ntmps27
  go_wp2_with fail
  go_region_held3 (fun w' => w'.cell? ⟨w.heap.size, 1, none⟩ = some (.int .u64 n) ∧ w'.cell? ⟨w.heap.size, 2, none⟩ = some (.slice ao bs.length co))
    (first
      | exact HB.out _ (Chg.refl _ _).drew
      | with_reducible exact hbn)
    (first
      | (go_at_call 48; go_split_ands; ((with_reducible refine H.out.mono ?_); rintro e w1 ⟨rfl, hA⟩)
         have hA2 := hA.pre (Chg.refl _ _).drew
         have hbn := HB.out w1 hA2.chg))
  go_wp2_with fail
  go_ret
  rw [show ((n : Int) % 4294967296 == IntKind.u32.wrap (n : Int)) = true by rw [beq_iff_eq]; simp [IntKind.wrap, IntKind.signed, IntKind.bits]]
  exact HC.out _ hA2

set_option maxHeartbeats 1000000 in
theorem back_uint64 (p : Nat) (a : Option Addr) (cap : Nat) (s : RS) (o : Op2) (hk : o.kind = 8) (t : List UInt8) (w : World) (h : IsR w p a cap s) (he : s.err = 0) (hr : s.rest = leb 8 o.n ++ t) (hn : o.n < 18446744073709551616) :
    Calls Try.prog 27 #[.pointer (some ⟨p, 0, none⟩), o.val] w (BackQ w p a ⟨t, 0⟩) := by
  have hp := h.lt
  have HB := Lib.hid fun w' => box_stays (w' := w') (o := o) hp
  have HC := Lib.hid fun w' => BackQ.mk (w := w) (p := p) (a := a) (s := ⟨t, 0⟩) (w1 := w') o
  have H := get_uint64 p a cap s (w.alloc o.box).drew ((h.below (o.box_below w)).drew)
  rw [get_back 8 o.n s t he hr, show o.n % 256 ^ 8 = o.n from Nat.mod_eq_of_lt hn] at H
  have H := Lib.hid H
  obtain ⟨kind, ko, n, ao, co, bs⟩ := o
  simp only at hk hn
  subst hk
  simp only [Op2.val, Op2.box] at *
  clear h he hr
  go_enter Try.func27, Try.ntmps27
  go_wp2_with fail
  go_region_held3 (fun w' => w'.cell? ⟨w.heap.size, 1, none⟩ = some (.int .u64 n) ∧ w'.cell? ⟨w.heap.size, 2, none⟩ = some (.slice ao bs.length co))
    (first
      | exact HB.out _ (Chg.refl _ _).drew
      | with_reducible exact hbn)
    (first
      | (go_at_call 49; go_split_ands; ((with_reducible refine H.out.mono ?_); rintro e w1 ⟨rfl, hA⟩)
         have hA2 := hA.pre (Chg.refl _ _).drew
         have hbn := HB.out w1 hA2.chg))
  go_wp2_with fail
  go_ret
  exact HC.out _ hA2

set_option maxHeartbeats 1000000 in
theorem back_raw (p : Nat) (a : Option Addr) (cap : Nat) (s : RS) (o : Op2) (hk : o.kind = 0) (t : List UInt8) (w : World) (h : IsR w p a cap s) (he : s.err = 0) (hr : s.rest = o.bs ++ t) (ho : o.fits) (hb : Bts w o.a o.bs) (hba : o.bs = [] ∨ ∀ k, blk o.a = some k → k ≠ p) :
    Calls Try.prog 27 #[.pointer (some ⟨p, 0, none⟩), o.val] w (BackQ w p a ⟨t, 0⟩) := by
  have hp := h.lt
  have hl := ho.2.2.1
  have HB := Lib.hid fun w' => box_stays (w' := w') (o := o) hp
  have HC := Lib.hid fun w' => BackQ.mk (w := w) (p := p) (a := a) (s := ⟨t, 0⟩) (w1 := w') o
  have H := rraw_any p (o.bs.length : Int) a cap s (w.alloc o.box).drew ((h.below (o.box_below w)).drew)
  rw [raw_back s o.bs t he hr] at H
  have H := Lib.hid H
  have HK := Lib.hid fun (w1 : World) (hc : Chg (fun k => k = p) (w.alloc o.box) w1) => show Bts w1 o.a o.bs from hba.elim .inl fun g => (hb.below (o.box_below w)).chg hc (fun k hk e => g k hk e)
  have HE := Lib.hid fun (oa : Option Addr) (c2 : Nat) (w1 : World) (h1 : Bts w1 oa o.bs) (h2 : Bts w1 o.a o.bs) => eqBytes_same o.bs oa o.a c2 o.cap (by omega) w1 h1 h2
  obtain ⟨kind, ko, n, ao, co, bs⟩ := o
  simp only at hk hl
  subst hk
  simp only [Op2.val, Op2.box] at *
  clear h he hr ho hb hba
  go_enter Try.func27, Try.ntmps27
  go_wp2_with fail
  go_region_held3 (fun w' => w'.cell? ⟨w.heap.size, 1, none⟩ = some (.int .u64 n) ∧ w'.cell? ⟨w.heap.size, 2, none⟩ = some (.slice ao bs.length co))
    (first
      | exact HB.out _ (Chg.refl _ _).drew
      | with_reducible exact hbn
      | with_reducible exact hbn2)
    (first
      | (go_at_call 50; go_split_ands; ((with_reducible refine H.out.mono ?_); rintro e w1 ⟨oa, cap2, rfl, hO, hnew, hA⟩)
         have hA2 := hA.pre (Chg.refl _ _).drew
         have hbn := HB.out w1 hA2.chg)
      | (go_at_call 44; go_split_ands; ((with_reducible refine (HE.out _ _ w1 hO.bts (HK.out w1 hA2.chg)).mono ?_); rintro e w2 ⟨rfl, hB2⟩)
         have hA3 := hA2.post hB2
         have hbn2 := HB.out w2 hA3.chg))
  go_wp2_with fail
  go_ret
  exact HC.out _ hA3

set_option maxHeartbeats 1000000 in
theorem back_short (p : Nat) (a : Option Addr) (cap : Nat) (s : RS) (o : Op2) (hk : o.sh = true) (t : List UInt8) (w : World) (h : IsR w p a cap s) (he : s.err = 0) (hr : s.rest = UInt8.ofNat o.bs.length :: (o.bs ++ t)) (h255 : o.bs.length ≤ 255) (hb : Bts w o.a o.bs) (hba : o.bs = [] ∨ ∀ k, blk o.a = some k → k ≠ p) :
    Calls Try.prog 27 #[.pointer (some ⟨p, 0, none⟩), o.val] w (BackQ w p a ⟨t, 0⟩) := by
  have hp := h.lt
  have HB := Lib.hid fun w' => box_stays (w' := w') (o := o) hp
  have HC := Lib.hid fun w' => BackQ.mk (w := w) (p := p) (a := a) (s := ⟨t, 0⟩) (w1 := w') o
  have H := rshort_any p 255 a cap s (w.alloc o.box).drew ((h.below (o.box_below w)).drew)
  rw [short_back s o.bs t he hr h255] at H
  have H := Lib.hid H
  have HK := Lib.hid fun (w1 : World) (hc : Chg (fun k => k = p) (w.alloc o.box) w1) => show Bts w1 o.a o.bs from hba.elim .inl fun g => (hb.below (o.box_below w)).chg hc (fun k hk e => g k hk e)
  have HE := Lib.hid fun (oa : Option Addr) (c2 : Nat) (w1 : World) (h1 : Bts w1 oa o.bs) (h2 : Bts w1 o.a o.bs) => eqBytes_same o.bs oa o.a c2 o.cap (by omega) w1 h1 h2
  obtain ⟨kind, ko, n, ao, co, bs⟩ := o
  simp only [Op2.sh, Bool.not_eq_true', Bool.or_eq_false_iff] at hk
  obtain ⟨⟨⟨⟨e0, e1⟩, e2⟩, e4⟩, e8⟩ := hk
  simp only [Op2.val, Op2.box] at *
  clear h he hr hb hba
  go_enter Try.func27, Try.ntmps27
  go_wp2_with fail
  go_region_held3 (fun w' => w'.cell? ⟨w.heap.size, 1, none⟩ = some (.int .u64 n) ∧ w'.cell? ⟨w.heap.size, 2, none⟩ = some (.slice ao bs.length co))
    (first
      | exact HB.out _ (Chg.refl _ _).drew
      | with_reducible exact hbn
      | with_reducible exact hbn2)
    (first
      | (go_at_call 53; go_split_ands; ((with_reducible refine H.out.mono ?_); rintro e w1 ⟨oa, cap2, rfl, hO, hnew, hA⟩)
         have hA2 := hA.pre (Chg.refl _ _).drew
         have hbn := HB.out w1 hA2.chg)
      | (go_at_call 44; go_split_ands; ((with_reducible refine (HE.out _ _ w1 hO.bts (HK.out w1 hA2.chg)).mono ?_); rintro e w2 ⟨rfl, hB2⟩)
         have hA3 := hA2.post hB2
         have hbn2 := HB.out w2 hA3.chg))
  go_wp2_with fail
  go_ret
  exact HC.out _ hA3

end Go.Proofs.Ytofialinjbjcmaa
