/- Get[K] at the four kinds of numbers. -/
import Derived.Test.YtpjdknmgegbgnaaRdRead
import Derived.Test.YtpjdknmgegbgnaaWrPut
import Derived.StillTailTactics
import Derived.Laws.Bits64b
import Derived.Laws.BitsAllLaws
namespace Go.Proofs.Ytpjdknmgegbgnaa
open Go.RowKit

/-- the number that bytes are, the lowest first -/
def unle : List UInt8 → Nat
  | [] => 0
  | b :: t => b.toNat + 256 * unle t
theorem unle_snoc (l : List UInt8) (b : UInt8) : unle (l ++ [b]) = unle l + b.toNat * 256 ^ l.length := by
  induction l with
  | nil => simp [unle]
  | cons c l ih => simp only [List.cons_append, unle, ih, List.length_cons, Nat.pow_succ]; rw [Nat.mul_add, Nat.add_assoc]; congr 2; rw [Nat.mul_left_comm, Nat.mul_comm 256]
theorem unle_lt (l : List UInt8) : unle l < 256 ^ l.length := by
  induction l with
  | nil => simp [unle]
  | cons c l ih => simp only [unle, List.length_cons, Nat.pow_succ]; have := c.toNat_lt; omega
theorem or_shift (x b i : Nat) (hx : x < 256 ^ i) : x ||| (b * 256 ^ i) = x + b * 256 ^ i := by
  rw [show 256 = 2 ^ 8 by rfl, ← Nat.pow_mul] at *
  rw [Nat.mul_comm b, Nat.or_comm, ← Nat.two_pow_add_eq_or_of_lt hx, Nat.add_comm]
theorem or_step (x b j : Nat) (hj : j < 8) (hx : x < 256 ^ j) (hb : b < 256) : bits .or .u64 (x : Int) (IntKind.u64.wrap (IntKind.u64.wrap (b : Int) * 2 ^ (8 * j))) = ((x + b * 256 ^ j : Nat) : Int) := by
  have hp : (256 : Nat) ^ j * 256 ≤ 18446744073709551616 := by
    rw [← Nat.pow_succ, show 18446744073709551616 = 256 ^ 8 by rfl]
    exact Nat.pow_le_pow_right (by decide) (by omega)
  have h1 : b * 256 ^ j < 18446744073709551616 := by
    have h2 : (b + 1) * 256 ^ j ≤ 256 * 256 ^ j := Nat.mul_le_mul_right _ (by omega)
    have h3 : 0 < 256 ^ j := Nat.pow_pos (by decide)
    rw [Nat.add_mul] at h2
    omega
  have e0 : (2 : Int) ^ (8 * j) = ((256 ^ j : Nat) : Int) := by
    rw [show (256 : Nat) = 2 ^ 8 by rfl, ← Nat.pow_mul]; simp
  have e1 : IntKind.u64.wrap (IntKind.u64.wrap (b : Int) * 2 ^ (8 * j)) = ((b * 256 ^ j : Nat) : Int) := by
    have e2 : IntKind.u64.wrap (b : Int) = (b : Int) := by rw [IntKind.wrap_u64]; exact Int.emod_eq_of_lt (by omega) (by omega)
    rw [e2, e0, ← Int.natCast_mul, IntKind.wrap_u64]
    exact Int.emod_eq_of_lt (by omega) (by omega)
  rw [e1, bits_or_u64_nat _ _ (by omega) h1, or_shift _ _ _ hx]
theorem unle_take (l : List UInt8) (j : Nat) (hj : j < l.length) (h8 : j < 8) : bits .or .u64 ((unle (l.take j) : Nat) : Int) (IntKind.u64.wrap (IntKind.u64.wrap ((l[j]?.getD 0).toNat : Int) * 2 ^ (8 * j))) = ((unle (l.take (j + 1)) : Nat) : Int) := by
  have hl : (l.take j).length = j := by rw [List.length_take]; omega
  have h := unle_lt (l.take j)
  rw [hl] at h
  rw [or_step _ _ j h8 h (UInt8.toNat_lt _), List.take_add_one, List.getElem?_eq_getElem hj]
  simp only [Option.toList_some, Option.getD_some, unle_snoc, hl]

theorem IsR.drew {w : World} {p : Nat} {a : Option Addr} {cap : Nat} {s : RS} (h : IsR w p a cap s) : IsR w.drew p a cap s := h.chg (F := fun _ => False) (Chg.refl _ w).drew (fun f => f) (fun _ _ f => f)
theorem OB.pos {w : World} {oa : Option Addr} {cap : Nat} {bs : List UInt8} (h : OB w oa cap bs) (hb : 0 < bs.length) : ∃ g, oa = some ⟨g, 0, none⟩ := by
  rcases (OR.form h).2 with ⟨_, _, h0, _⟩ | ⟨g, h1, _⟩
  · omega
  · exact ⟨g, h1⟩
/-- what the round of Get keeps -/
def RelGet (l : List UInt8) (x i : Value) : Prop := ∃ j : Nat, j ≤ l.length ∧ i = .int .i64 j ∧ x = .int .u64 ((unle (l.take j) : Nat) : Int)

/-- what a read leaves of the reader -/
def Aft (w : World) (p : Nat) (a : Option Addr) (s : RS) (w' : World) : Prop := ∃ a' cap', IsR w' p a' cap' s ∧ blk a' = blk a ∧ Chg (fun k => k = p) w w'
theorem Aft.pre {w0 w w' : World} {p : Nat} {a : Option Addr} {s : RS} (h : Aft w p a s w') (hb : Chg (fun k => k = p) w0 w) : Aft w0 p a s w' := by
  obtain ⟨a', cap', h1, h2, h3⟩ := h
  exact ⟨a', cap', h1, h2, hb.trans h3 (fun _ _ f => f)⟩
theorem Aft.post {w w1 w' : World} {p : Nat} {a : Option Addr} {s : RS} (h : Aft w p a s w1) (hb : Below w1.heap.size w1 w') : Aft w p a s w' := by
  obtain ⟨a', cap', h1, h2, h3⟩ := h
  exact ⟨a', cap', h1.below hb, h2, h3.trans (Chg.of_below hb (F := fun _ => False)) (fun _ _ f => f.elim)⟩
theorem Aft.gave {w w' : World} {p e : Nat} {a : Option Addr} {cap : Nat} {s : RS} {z : Value} {x : Ending} (h : Gave p a cap s e z w x w') : x = .returned z ∧ Aft w p a { s with err := e } w' := ⟨h.1, a, cap, h.2.1, rfl, h.2.2⟩
theorem Aft.read {w w1 w2 w' : World} {p : Nat} {a : Option Addr} {s : RS} (hp : p < w.heap.size) (ha : ∀ k, blk a = some k → k < w.heap.size) (hb : Below w.heap.size w w1) (hs : w.heap.size + 3 = w1.heap.size) (h : Aft w1 p a s w2) (hc : Chg (fun k => k = w.heap.size + 1) w2 w') : Aft w p a s w' := by
  obtain ⟨a', cap', h1, h2, h3⟩ := h
  refine ⟨a', cap', h1.chg hc (by omega) (fun k hk => ?_), h2, ?_⟩
  · have := ha k (by rw [← h2]; exact hk); omega
  · exact ((Chg.of_below hb (F := fun k => k = p)).trans h3 (fun _ _ f => f)).trans hc (fun i hi e => by omega)
theorem IsR.after {w w' : World} {p : Nat} {a : Option Addr} {cap : Nat} {s : RS} (h : IsR w p a cap s) (hb : Below w.heap.size w w') : Aft w p a s w' := ⟨a, cap, h.below hb, rfl, Chg.of_below hb⟩

/-- a number of k bytes -/
def RS.get (k : Nat) (s : RS) : Nat × RS := if s.err ≠ 0 then (0, s) else if s.rest.length < k then (0, { s with err := 2 }) else (unle (s.rest.take k), { s with rest := s.rest.drop k })


theorem width_still_uint8 (w : World) : Calls Try.prog 63 #[] w fun e w' => e = .returned (.int .i64 1) ∧ w' = w := (width_uint8 w).mono fun _ _ h => ⟨h.1, h.2.symm⟩

set_option maxRecDepth 100000 in
theorem getb_uint8 (p g : Nat) (a : Option Addr) (cap : Nat) (s : RS) (w : World) (h : IsR w p a cap s) (hg : w.cell? ⟨g, 0, none⟩ = some (.pointer (some ⟨p, 0, none⟩))) (hl : 1 ≤ s.rest.length) :
    Calls Try.prog 62 #[.pointer (some ⟨g, 0, none⟩)] w fun x w' => x = .returned (.int .u8 (unle (s.rest.take 1) : Nat)) ∧ Aft w p a { s with rest := s.rest.drop 1 } w' := by
  have H := Lib.hid (take_ok p a cap s 1 hl w.drew h.drew)
  obtain ⟨l, el⟩ : ∃ l, s.rest.take 1 = l := ⟨_, rfl⟩
  have HT := Lib.hid (show l.length = 1 by rw [← el, List.length_take]; omega)
  rw [el]
  have El := Lib.hid el
  obtain ⟨s', es⟩ : ∃ s', { s with rest := s.rest.drop 1 } = s' := ⟨_, rfl⟩
  rw [es]
  have Es := Lib.hid es
  clear h el es
  go_enter Try.func62, Try.ntmps62
  go_wp2_with fail
  refine wp_region_still_tail 2 (by kernel_rfl) (by kernel_rfl) ?_
  simp only [List.take_succ_cons, List.take_zero, List.drop_succ_cons, List.drop_zero]
  still_step
  still_call (width_still_uint8 _)
  refine wpStill_nil ?_
  change wpList _ _ _ _ _ w.drew
  go_wp2_with fail
  refine H.out.mono ?_
  rintro _ w2 ⟨oa, cap2, a', cap', rfl, hO, hoa, hR, hbk, hC⟩
  rw [El.out] at hO
  rw [Es.out] at hR
  have HR := Lib.hid hR
  have HC := Lib.hid hC
  clear hR hC hoa H
  obtain ⟨gl, rfl⟩ := hO.pos (by rw [HT.out]; decide)
  go_wp2_with fail
  go_loop [3, 10] (RelGet l) (fun _ i => 1 - (intOf i).toNat)
  case atStart => exact ⟨0, Nat.zero_le _, rfl, rfl⟩
  case round =>
    obtain ⟨j, hj, rfl, rfl⟩ := hrel
    rw [HT.out] at hj
    by_cases hlt : j < 1
    · obtain ⟨hc, hf⟩ := hO.cell (i := j) (by rw [HT.out]; exact hlt)
      go_wp2_with fail
      rw [unle_take l j (by rw [HT.out]; exact hlt) (by omega)]
      go_round
      case rel => exact ⟨j + 1, by rw [HT.out]; omega, by go_num, rfl⟩
      case measure => simp [intOf]; omega
    · go_wp2_with fail
      have hu := unle_lt l
      rw [HT.out] at hu
      rw [List.take_of_length_le (i := j) (l := l) (by rw [HT.out]; omega), Int.emod_eq_of_lt (by omega) (by omega)]
      go_ret
      exact ⟨rfl, a', cap', HR.out, hbk, (Chg.refl _ w).drew.trans HC.out (fun _ _ h => h)⟩

set_option maxRecDepth 100000 in
theorem getn_uint8 (p g : Nat) (a : Option Addr) (cap : Nat) (s : RS) (w : World) (h : IsR w p a cap s) (hg : w.cell? ⟨g, 0, none⟩ = some (.pointer (some ⟨p, 0, none⟩))) (hl : s.rest.length < 1) :
    Calls Try.prog 62 #[.pointer (some ⟨g, 0, none⟩)] w (Threw p 2 w) := by
  have H := Lib.hid (take_short p a cap s 1 (by decide) (by omega) w.drew h.drew)
  have HR := Lib.hid h
  clear h
  go_enter Try.func62, Try.ntmps62
  go_wp2_with fail
  refine wp_region_still_tail 2 (by kernel_rfl) (by kernel_rfl) ?_
  simp only [List.take_succ_cons, List.take_zero, List.drop_succ_cons, List.drop_zero]
  still_step
  still_call (width_still_uint8 _)
  refine wpStill_nil ?_
  change wpList _ _ _ _ _ w.drew
  go_wp2_with fail
  refine H.out.mono ?_
  rintro _ _ ⟨rfl, rfl⟩
  refine ⟨rfl, rfl, ?_⟩
  exact ⟨(Chg.refl _ w).drew, a, cap, s, HR.out.drew⟩

theorem getr_uint8 (p g : Nat) (a : Option Addr) (cap : Nat) (s : RS) (w : World) (h : IsR w p a cap s) (hg : w.heap[g]? = some (.cells #[.pointer (some ⟨p, 0, none⟩)] 55)) :
    Calls Try.prog 61 #[.pointer (some ⟨p, 0, none⟩), .func (.func 62) #[] #[.pointer (some ⟨g, 0, none⟩)]] w fun x w' => x = .returned (.int .u8 ((s.get 1).1 : Nat)) ∧ Aft w p a (s.get 1).2 w' := by
  have hcf : ∀ w0 : World, (callFunc 62 #[.pointer (some ⟨g, 0, none⟩)]).run Try.prog w0 = .ok (.enter 62 #[.pointer (some ⟨g, 0, none⟩)]) w0 := fun _ => by kernel_rfl
  have hgl := rlt_of_heap hg
  have hgc : ∀ w1, Below w.heap.size w w1 → w1.cell? ⟨g, 0, none⟩ = some (.pointer (some ⟨p, 0, none⟩)) := fun w1 hb => (cell1 ((hb.block g hgl).trans hg)).1
  by_cases he : s.err = 0
  · by_cases hl : s.rest.length < 1
    · have e : s.get 1 = (0, { s with err := 2 }) := by simp [RS.get, he, hl]
      rw [e]
      exact (read_gave_uint8 p a cap s _ _ 2 w h he (by decide) hcf fun w1 hb => getn_uint8 p g a cap s w1 (h.below hb) (hgc w1 hb) hl).mono fun x w' hG => Aft.gave hG
    · have e : s.get 1 = (unle (s.rest.take 1), { s with rest := s.rest.drop 1 }) := by simp [RS.get, he, hl]
      rw [e]
      refine (read_done_uint8 p a cap s _ _ (fun v w1 w2 => v = .int .u8 (unle (s.rest.take 1) : Nat) ∧ Aft w1 p a { s with rest := s.rest.drop 1 } w2) w h he hcf fun w1 hb _ => (getb_uint8 p g a cap s w1 (h.below hb) (hgc w1 hb) (by omega)).mono ?_).mono ?_
      · rintro x w2 ⟨rfl, hA⟩
        have hA2 := hA
        obtain ⟨a', cap', _, _, h3⟩ := hA2
        exact ⟨_, rfl, ⟨rfl, hA⟩, h3, _, rfl⟩
      · rintro x w' ⟨v, w1, w2, rfl, hb, hs, ⟨rfl, hA⟩, hc⟩
        exact ⟨rfl, Aft.read h.lt (h.2.2.2.2.2.2.2) hb hs hA hc⟩
  · have e : s.get 1 = (0, s) := by simp [RS.get, he]
    rw [e]
    exact (read_stop_uint8 p a cap s _ w h he).mono fun x w' hx => ⟨hx.1, h.after hx.2⟩

set_option maxHeartbeats 400000 in
theorem get_uint8 (p : Nat) (a : Option Addr) (cap : Nat) (s : RS) (w : World) (h : IsR w p a cap s) :
    Calls Try.prog 35 #[.pointer (some ⟨p, 0, none⟩)] w fun x w' => x = .returned (.int .u8 ((s.get 1).1 : Nat)) ∧ Aft w p a (s.get 1).2 w' := by
  have hmf : ∀ (fn : Fn) (first cap : Array Value) (w : World), (Instr.makeFunc fn first cap).run Try.prog w = .ok (.func fn first cap) w := fun _ _ _ _ => rfl
  have hB := (Below.refl w.heap.size w).alloc (Nat.le_refl _) (.cells #[.pointer (some ⟨p, 0, none⟩)] 55)
  have hg := heap_alloc_new w (.cells #[.pointer (some ⟨p, 0, none⟩)] 55)
  have h2 := h.below hB
  have HB := Lib.hid hB
  have H := Lib.hid (getr_uint8 p w.heap.size a cap s _ h2 hg)
  clear hB h h2 hg
  go_enter Try.func35, Try.ntmps35
  go_wp2_with fail
  refine H.out.mono ?_
  rintro _ w3 ⟨rfl, h3⟩
  go_wp2_with fail
  go_ret
  exact ⟨rfl, h3.pre (Chg.of_below HB.out)⟩


theorem width_still_uint16 (w : World) : Calls Try.prog 69 #[] w fun e w' => e = .returned (.int .i64 2) ∧ w' = w := (width_uint16 w).mono fun _ _ h => ⟨h.1, h.2.symm⟩

set_option maxRecDepth 100000 in
theorem getb_uint16 (p g : Nat) (a : Option Addr) (cap : Nat) (s : RS) (w : World) (h : IsR w p a cap s) (hg : w.cell? ⟨g, 0, none⟩ = some (.pointer (some ⟨p, 0, none⟩))) (hl : 2 ≤ s.rest.length) :
    Calls Try.prog 68 #[.pointer (some ⟨g, 0, none⟩)] w fun x w' => x = .returned (.int .u16 (unle (s.rest.take 2) : Nat)) ∧ Aft w p a { s with rest := s.rest.drop 2 } w' := by
  have H := Lib.hid (take_ok p a cap s 2 hl w.drew h.drew)
  obtain ⟨l, el⟩ : ∃ l, s.rest.take 2 = l := ⟨_, rfl⟩
  have HT := Lib.hid (show l.length = 2 by rw [← el, List.length_take]; omega)
  rw [el]
  have El := Lib.hid el
  obtain ⟨s', es⟩ : ∃ s', { s with rest := s.rest.drop 2 } = s' := ⟨_, rfl⟩
  rw [es]
  have Es := Lib.hid es
  clear h el es
  go_enter Try.func68, Try.ntmps68
  go_wp2_with fail
  refine wp_region_still_tail 2 (by kernel_rfl) (by kernel_rfl) ?_
  simp only [List.take_succ_cons, List.take_zero, List.drop_succ_cons, List.drop_zero]
  still_step
  still_call (width_still_uint16 _)
  refine wpStill_nil ?_
  change wpList _ _ _ _ _ w.drew
  go_wp2_with fail
  refine H.out.mono ?_
  rintro _ w2 ⟨oa, cap2, a', cap', rfl, hO, hoa, hR, hbk, hC⟩
  rw [El.out] at hO
  rw [Es.out] at hR
  have HR := Lib.hid hR
  have HC := Lib.hid hC
  clear hR hC hoa H
  obtain ⟨gl, rfl⟩ := hO.pos (by rw [HT.out]; decide)
  go_wp2_with fail
  go_loop [3, 10] (RelGet l) (fun _ i => 2 - (intOf i).toNat)
  case atStart => exact ⟨0, Nat.zero_le _, rfl, rfl⟩
  case round =>
    obtain ⟨j, hj, rfl, rfl⟩ := hrel
    rw [HT.out] at hj
    by_cases hlt : j < 2
    · obtain ⟨hc, hf⟩ := hO.cell (i := j) (by rw [HT.out]; exact hlt)
      go_wp2_with fail
      rw [unle_take l j (by rw [HT.out]; exact hlt) (by omega)]
      go_round
      case rel => exact ⟨j + 1, by rw [HT.out]; omega, by go_num, rfl⟩
      case measure => simp [intOf]; omega
    · go_wp2_with fail
      have hu := unle_lt l
      rw [HT.out] at hu
      rw [List.take_of_length_le (i := j) (l := l) (by rw [HT.out]; omega), IntKind.wrap_u16, Int.emod_eq_of_lt (by omega) (by omega)]
      go_ret
      exact ⟨rfl, a', cap', HR.out, hbk, (Chg.refl _ w).drew.trans HC.out (fun _ _ h => h)⟩

set_option maxRecDepth 100000 in
theorem getn_uint16 (p g : Nat) (a : Option Addr) (cap : Nat) (s : RS) (w : World) (h : IsR w p a cap s) (hg : w.cell? ⟨g, 0, none⟩ = some (.pointer (some ⟨p, 0, none⟩))) (hl : s.rest.length < 2) :
    Calls Try.prog 68 #[.pointer (some ⟨g, 0, none⟩)] w (Threw p 2 w) := by
  have H := Lib.hid (take_short p a cap s 2 (by decide) (by omega) w.drew h.drew)
  have HR := Lib.hid h
  clear h
  go_enter Try.func68, Try.ntmps68
  go_wp2_with fail
  refine wp_region_still_tail 2 (by kernel_rfl) (by kernel_rfl) ?_
  simp only [List.take_succ_cons, List.take_zero, List.drop_succ_cons, List.drop_zero]
  still_step
  still_call (width_still_uint16 _)
  refine wpStill_nil ?_
  change wpList _ _ _ _ _ w.drew
  go_wp2_with fail
  refine H.out.mono ?_
  rintro _ _ ⟨rfl, rfl⟩
  refine ⟨rfl, rfl, ?_⟩
  exact ⟨(Chg.refl _ w).drew, a, cap, s, HR.out.drew⟩

theorem getr_uint16 (p g : Nat) (a : Option Addr) (cap : Nat) (s : RS) (w : World) (h : IsR w p a cap s) (hg : w.heap[g]? = some (.cells #[.pointer (some ⟨p, 0, none⟩)] 55)) :
    Calls Try.prog 67 #[.pointer (some ⟨p, 0, none⟩), .func (.func 68) #[] #[.pointer (some ⟨g, 0, none⟩)]] w fun x w' => x = .returned (.int .u16 ((s.get 2).1 : Nat)) ∧ Aft w p a (s.get 2).2 w' := by
  have hcf : ∀ w0 : World, (callFunc 68 #[.pointer (some ⟨g, 0, none⟩)]).run Try.prog w0 = .ok (.enter 68 #[.pointer (some ⟨g, 0, none⟩)]) w0 := fun _ => by kernel_rfl
  have hgl := rlt_of_heap hg
  have hgc : ∀ w1, Below w.heap.size w w1 → w1.cell? ⟨g, 0, none⟩ = some (.pointer (some ⟨p, 0, none⟩)) := fun w1 hb => (cell1 ((hb.block g hgl).trans hg)).1
  by_cases he : s.err = 0
  · by_cases hl : s.rest.length < 2
    · have e : s.get 2 = (0, { s with err := 2 }) := by simp [RS.get, he, hl]
      rw [e]
      exact (read_gave_uint16 p a cap s _ _ 2 w h he (by decide) hcf fun w1 hb => getn_uint16 p g a cap s w1 (h.below hb) (hgc w1 hb) hl).mono fun x w' hG => Aft.gave hG
    · have e : s.get 2 = (unle (s.rest.take 2), { s with rest := s.rest.drop 2 }) := by simp [RS.get, he, hl]
      rw [e]
      refine (read_done_uint16 p a cap s _ _ (fun v w1 w2 => v = .int .u16 (unle (s.rest.take 2) : Nat) ∧ Aft w1 p a { s with rest := s.rest.drop 2 } w2) w h he hcf fun w1 hb _ => (getb_uint16 p g a cap s w1 (h.below hb) (hgc w1 hb) (by omega)).mono ?_).mono ?_
      · rintro x w2 ⟨rfl, hA⟩
        have hA2 := hA
        obtain ⟨a', cap', _, _, h3⟩ := hA2
        exact ⟨_, rfl, ⟨rfl, hA⟩, h3, _, rfl⟩
      · rintro x w' ⟨v, w1, w2, rfl, hb, hs, ⟨rfl, hA⟩, hc⟩
        exact ⟨rfl, Aft.read h.lt (h.2.2.2.2.2.2.2) hb hs hA hc⟩
  · have e : s.get 2 = (0, s) := by simp [RS.get, he]
    rw [e]
    exact (read_stop_uint16 p a cap s _ w h he).mono fun x w' hx => ⟨hx.1, h.after hx.2⟩

set_option maxHeartbeats 400000 in
theorem get_uint16 (p : Nat) (a : Option Addr) (cap : Nat) (s : RS) (w : World) (h : IsR w p a cap s) :
    Calls Try.prog 37 #[.pointer (some ⟨p, 0, none⟩)] w fun x w' => x = .returned (.int .u16 ((s.get 2).1 : Nat)) ∧ Aft w p a (s.get 2).2 w' := by
  have hmf : ∀ (fn : Fn) (first cap : Array Value) (w : World), (Instr.makeFunc fn first cap).run Try.prog w = .ok (.func fn first cap) w := fun _ _ _ _ => rfl
  have hB := (Below.refl w.heap.size w).alloc (Nat.le_refl _) (.cells #[.pointer (some ⟨p, 0, none⟩)] 55)
  have hg := heap_alloc_new w (.cells #[.pointer (some ⟨p, 0, none⟩)] 55)
  have h2 := h.below hB
  have HB := Lib.hid hB
  have H := Lib.hid (getr_uint16 p w.heap.size a cap s _ h2 hg)
  clear hB h h2 hg
  go_enter Try.func37, Try.ntmps37
  go_wp2_with fail
  refine H.out.mono ?_
  rintro _ w3 ⟨rfl, h3⟩
  go_wp2_with fail
  go_ret
  exact ⟨rfl, h3.pre (Chg.of_below HB.out)⟩


theorem width_still_uint32 (w : World) : Calls Try.prog 59 #[] w fun e w' => e = .returned (.int .i64 4) ∧ w' = w := (width_uint32 w).mono fun _ _ h => ⟨h.1, h.2.symm⟩

set_option maxRecDepth 100000 in
theorem getb_uint32 (p g : Nat) (a : Option Addr) (cap : Nat) (s : RS) (w : World) (h : IsR w p a cap s) (hg : w.cell? ⟨g, 0, none⟩ = some (.pointer (some ⟨p, 0, none⟩))) (hl : 4 ≤ s.rest.length) :
    Calls Try.prog 57 #[.pointer (some ⟨g, 0, none⟩)] w fun x w' => x = .returned (.int .u32 (unle (s.rest.take 4) : Nat)) ∧ Aft w p a { s with rest := s.rest.drop 4 } w' := by
  have H := Lib.hid (take_ok p a cap s 4 hl w.drew h.drew)
  obtain ⟨l, el⟩ : ∃ l, s.rest.take 4 = l := ⟨_, rfl⟩
  have HT := Lib.hid (show l.length = 4 by rw [← el, List.length_take]; omega)
  rw [el]
  have El := Lib.hid el
  obtain ⟨s', es⟩ : ∃ s', { s with rest := s.rest.drop 4 } = s' := ⟨_, rfl⟩
  rw [es]
  have Es := Lib.hid es
  clear h el es
  go_enter Try.func57, Try.ntmps57
  go_wp2_with fail
  refine wp_region_still_tail 2 (by kernel_rfl) (by kernel_rfl) ?_
  simp only [List.take_succ_cons, List.take_zero, List.drop_succ_cons, List.drop_zero]
  still_step
  still_call (width_still_uint32 _)
  refine wpStill_nil ?_
  change wpList _ _ _ _ _ w.drew
  go_wp2_with fail
  refine H.out.mono ?_
  rintro _ w2 ⟨oa, cap2, a', cap', rfl, hO, hoa, hR, hbk, hC⟩
  rw [El.out] at hO
  rw [Es.out] at hR
  have HR := Lib.hid hR
  have HC := Lib.hid hC
  clear hR hC hoa H
  obtain ⟨gl, rfl⟩ := hO.pos (by rw [HT.out]; decide)
  go_wp2_with fail
  go_loop [3, 10] (RelGet l) (fun _ i => 4 - (intOf i).toNat)
  case atStart => exact ⟨0, Nat.zero_le _, rfl, rfl⟩
  case round =>
    obtain ⟨j, hj, rfl, rfl⟩ := hrel
    rw [HT.out] at hj
    by_cases hlt : j < 4
    · obtain ⟨hc, hf⟩ := hO.cell (i := j) (by rw [HT.out]; exact hlt)
      go_wp2_with fail
      rw [unle_take l j (by rw [HT.out]; exact hlt) (by omega)]
      go_round
      case rel => exact ⟨j + 1, by rw [HT.out]; omega, by go_num, rfl⟩
      case measure => simp [intOf]; omega
    · go_wp2_with fail
      have hu := unle_lt l
      rw [HT.out] at hu
      rw [List.take_of_length_le (i := j) (l := l) (by rw [HT.out]; omega), Int.emod_eq_of_lt (by omega) (by omega)]
      go_ret
      exact ⟨rfl, a', cap', HR.out, hbk, (Chg.refl _ w).drew.trans HC.out (fun _ _ h => h)⟩

set_option maxRecDepth 100000 in
theorem getn_uint32 (p g : Nat) (a : Option Addr) (cap : Nat) (s : RS) (w : World) (h : IsR w p a cap s) (hg : w.cell? ⟨g, 0, none⟩ = some (.pointer (some ⟨p, 0, none⟩))) (hl : s.rest.length < 4) :
    Calls Try.prog 57 #[.pointer (some ⟨g, 0, none⟩)] w (Threw p 2 w) := by
  have H := Lib.hid (take_short p a cap s 4 (by decide) (by omega) w.drew h.drew)
  have HR := Lib.hid h
  clear h
  go_enter Try.func57, Try.ntmps57
  go_wp2_with fail
  refine wp_region_still_tail 2 (by kernel_rfl) (by kernel_rfl) ?_
  simp only [List.take_succ_cons, List.take_zero, List.drop_succ_cons, List.drop_zero]
  still_step
  still_call (width_still_uint32 _)
  refine wpStill_nil ?_
  change wpList _ _ _ _ _ w.drew
  go_wp2_with fail
  refine H.out.mono ?_
  rintro _ _ ⟨rfl, rfl⟩
  refine ⟨rfl, rfl, ?_⟩
  exact ⟨(Chg.refl _ w).drew, a, cap, s, HR.out.drew⟩

theorem getr_uint32 (p g : Nat) (a : Option Addr) (cap : Nat) (s : RS) (w : World) (h : IsR w p a cap s) (hg : w.heap[g]? = some (.cells #[.pointer (some ⟨p, 0, none⟩)] 55)) :
    Calls Try.prog 56 #[.pointer (some ⟨p, 0, none⟩), .func (.func 57) #[] #[.pointer (some ⟨g, 0, none⟩)]] w fun x w' => x = .returned (.int .u32 ((s.get 4).1 : Nat)) ∧ Aft w p a (s.get 4).2 w' := by
  have hcf : ∀ w0 : World, (callFunc 57 #[.pointer (some ⟨g, 0, none⟩)]).run Try.prog w0 = .ok (.enter 57 #[.pointer (some ⟨g, 0, none⟩)]) w0 := fun _ => by kernel_rfl
  have hgl := rlt_of_heap hg
  have hgc : ∀ w1, Below w.heap.size w w1 → w1.cell? ⟨g, 0, none⟩ = some (.pointer (some ⟨p, 0, none⟩)) := fun w1 hb => (cell1 ((hb.block g hgl).trans hg)).1
  by_cases he : s.err = 0
  · by_cases hl : s.rest.length < 4
    · have e : s.get 4 = (0, { s with err := 2 }) := by simp [RS.get, he, hl]
      rw [e]
      exact (read_gave_uint32 p a cap s _ _ 2 w h he (by decide) hcf fun w1 hb => getn_uint32 p g a cap s w1 (h.below hb) (hgc w1 hb) hl).mono fun x w' hG => Aft.gave hG
    · have e : s.get 4 = (unle (s.rest.take 4), { s with rest := s.rest.drop 4 }) := by simp [RS.get, he, hl]
      rw [e]
      refine (read_done_uint32 p a cap s _ _ (fun v w1 w2 => v = .int .u32 (unle (s.rest.take 4) : Nat) ∧ Aft w1 p a { s with rest := s.rest.drop 4 } w2) w h he hcf fun w1 hb _ => (getb_uint32 p g a cap s w1 (h.below hb) (hgc w1 hb) (by omega)).mono ?_).mono ?_
      · rintro x w2 ⟨rfl, hA⟩
        have hA2 := hA
        obtain ⟨a', cap', _, _, h3⟩ := hA2
        exact ⟨_, rfl, ⟨rfl, hA⟩, h3, _, rfl⟩
      · rintro x w' ⟨v, w1, w2, rfl, hb, hs, ⟨rfl, hA⟩, hc⟩
        exact ⟨rfl, Aft.read h.lt (h.2.2.2.2.2.2.2) hb hs hA hc⟩
  · have e : s.get 4 = (0, s) := by simp [RS.get, he]
    rw [e]
    exact (read_stop_uint32 p a cap s _ w h he).mono fun x w' hx => ⟨hx.1, h.after hx.2⟩

set_option maxHeartbeats 400000 in
theorem get_uint32 (p : Nat) (a : Option Addr) (cap : Nat) (s : RS) (w : World) (h : IsR w p a cap s) :
    Calls Try.prog 32 #[.pointer (some ⟨p, 0, none⟩)] w fun x w' => x = .returned (.int .u32 ((s.get 4).1 : Nat)) ∧ Aft w p a (s.get 4).2 w' := by
  have hmf : ∀ (fn : Fn) (first cap : Array Value) (w : World), (Instr.makeFunc fn first cap).run Try.prog w = .ok (.func fn first cap) w := fun _ _ _ _ => rfl
  have hB := (Below.refl w.heap.size w).alloc (Nat.le_refl _) (.cells #[.pointer (some ⟨p, 0, none⟩)] 55)
  have hg := heap_alloc_new w (.cells #[.pointer (some ⟨p, 0, none⟩)] 55)
  have h2 := h.below hB
  have HB := Lib.hid hB
  have H := Lib.hid (getr_uint32 p w.heap.size a cap s _ h2 hg)
  clear hB h h2 hg
  go_enter Try.func32, Try.ntmps32
  go_wp2_with fail
  refine H.out.mono ?_
  rintro _ w3 ⟨rfl, h3⟩
  go_wp2_with fail
  go_ret
  exact ⟨rfl, h3.pre (Chg.of_below HB.out)⟩


theorem width_still_uint64 (w : World) : Calls Try.prog 66 #[] w fun e w' => e = .returned (.int .i64 8) ∧ w' = w := (width_uint64 w).mono fun _ _ h => ⟨h.1, h.2.symm⟩

set_option maxRecDepth 100000 in
theorem getb_uint64 (p g : Nat) (a : Option Addr) (cap : Nat) (s : RS) (w : World) (h : IsR w p a cap s) (hg : w.cell? ⟨g, 0, none⟩ = some (.pointer (some ⟨p, 0, none⟩))) (hl : 8 ≤ s.rest.length) :
    Calls Try.prog 65 #[.pointer (some ⟨g, 0, none⟩)] w fun x w' => x = .returned (.int .u64 (unle (s.rest.take 8) : Nat)) ∧ Aft w p a { s with rest := s.rest.drop 8 } w' := by
  have H := Lib.hid (take_ok p a cap s 8 hl w.drew h.drew)
  obtain ⟨l, el⟩ : ∃ l, s.rest.take 8 = l := ⟨_, rfl⟩
  have HT := Lib.hid (show l.length = 8 by rw [← el, List.length_take]; omega)
  rw [el]
  have El := Lib.hid el
  obtain ⟨s', es⟩ : ∃ s', { s with rest := s.rest.drop 8 } = s' := ⟨_, rfl⟩
  rw [es]
  have Es := Lib.hid es
  clear h el es
  go_enter Try.func65, Try.ntmps65
  go_wp2_with fail
  refine wp_region_still_tail 2 (by kernel_rfl) (by kernel_rfl) ?_
  simp only [List.take_succ_cons, List.take_zero, List.drop_succ_cons, List.drop_zero]
  still_step
  still_call (width_still_uint64 _)
  refine wpStill_nil ?_
  change wpList _ _ _ _ _ w.drew
  go_wp2_with fail
  refine H.out.mono ?_
  rintro _ w2 ⟨oa, cap2, a', cap', rfl, hO, hoa, hR, hbk, hC⟩
  rw [El.out] at hO
  rw [Es.out] at hR
  have HR := Lib.hid hR
  have HC := Lib.hid hC
  clear hR hC hoa H
  obtain ⟨gl, rfl⟩ := hO.pos (by rw [HT.out]; decide)
  go_wp2_with fail
  go_loop [3, 10] (RelGet l) (fun _ i => 8 - (intOf i).toNat)
  case atStart => exact ⟨0, Nat.zero_le _, rfl, rfl⟩
  case round =>
    obtain ⟨j, hj, rfl, rfl⟩ := hrel
    rw [HT.out] at hj
    by_cases hlt : j < 8
    · obtain ⟨hc, hf⟩ := hO.cell (i := j) (by rw [HT.out]; exact hlt)
      go_wp2_with fail
      rw [unle_take l j (by rw [HT.out]; exact hlt) (by omega)]
      go_round
      case rel => exact ⟨j + 1, by rw [HT.out]; omega, by go_num, rfl⟩
      case measure => simp [intOf]; omega
    · go_wp2_with fail
      have hu := unle_lt l
      rw [HT.out] at hu
      rw [List.take_of_length_le (i := j) (l := l) (by rw [HT.out]; omega)]
      go_ret
      exact ⟨rfl, a', cap', HR.out, hbk, (Chg.refl _ w).drew.trans HC.out (fun _ _ h => h)⟩

set_option maxRecDepth 100000 in
theorem getn_uint64 (p g : Nat) (a : Option Addr) (cap : Nat) (s : RS) (w : World) (h : IsR w p a cap s) (hg : w.cell? ⟨g, 0, none⟩ = some (.pointer (some ⟨p, 0, none⟩))) (hl : s.rest.length < 8) :
    Calls Try.prog 65 #[.pointer (some ⟨g, 0, none⟩)] w (Threw p 2 w) := by
  have H := Lib.hid (take_short p a cap s 8 (by decide) (by omega) w.drew h.drew)
  have HR := Lib.hid h
  clear h
  go_enter Try.func65, Try.ntmps65
  go_wp2_with fail
  refine wp_region_still_tail 2 (by kernel_rfl) (by kernel_rfl) ?_
  simp only [List.take_succ_cons, List.take_zero, List.drop_succ_cons, List.drop_zero]
  still_step
  still_call (width_still_uint64 _)
  refine wpStill_nil ?_
  change wpList _ _ _ _ _ w.drew
  go_wp2_with fail
  refine H.out.mono ?_
  rintro _ _ ⟨rfl, rfl⟩
  refine ⟨rfl, rfl, ?_⟩
  exact ⟨(Chg.refl _ w).drew, a, cap, s, HR.out.drew⟩

theorem getr_uint64 (p g : Nat) (a : Option Addr) (cap : Nat) (s : RS) (w : World) (h : IsR w p a cap s) (hg : w.heap[g]? = some (.cells #[.pointer (some ⟨p, 0, none⟩)] 55)) :
    Calls Try.prog 64 #[.pointer (some ⟨p, 0, none⟩), .func (.func 65) #[] #[.pointer (some ⟨g, 0, none⟩)]] w fun x w' => x = .returned (.int .u64 ((s.get 8).1 : Nat)) ∧ Aft w p a (s.get 8).2 w' := by
  have hcf : ∀ w0 : World, (callFunc 65 #[.pointer (some ⟨g, 0, none⟩)]).run Try.prog w0 = .ok (.enter 65 #[.pointer (some ⟨g, 0, none⟩)]) w0 := fun _ => by kernel_rfl
  have hgl := rlt_of_heap hg
  have hgc : ∀ w1, Below w.heap.size w w1 → w1.cell? ⟨g, 0, none⟩ = some (.pointer (some ⟨p, 0, none⟩)) := fun w1 hb => (cell1 ((hb.block g hgl).trans hg)).1
  by_cases he : s.err = 0
  · by_cases hl : s.rest.length < 8
    · have e : s.get 8 = (0, { s with err := 2 }) := by simp [RS.get, he, hl]
      rw [e]
      exact (read_gave_uint64 p a cap s _ _ 2 w h he (by decide) hcf fun w1 hb => getn_uint64 p g a cap s w1 (h.below hb) (hgc w1 hb) hl).mono fun x w' hG => Aft.gave hG
    · have e : s.get 8 = (unle (s.rest.take 8), { s with rest := s.rest.drop 8 }) := by simp [RS.get, he, hl]
      rw [e]
      refine (read_done_uint64 p a cap s _ _ (fun v w1 w2 => v = .int .u64 (unle (s.rest.take 8) : Nat) ∧ Aft w1 p a { s with rest := s.rest.drop 8 } w2) w h he hcf fun w1 hb _ => (getb_uint64 p g a cap s w1 (h.below hb) (hgc w1 hb) (by omega)).mono ?_).mono ?_
      · rintro x w2 ⟨rfl, hA⟩
        have hA2 := hA
        obtain ⟨a', cap', _, _, h3⟩ := hA2
        exact ⟨_, rfl, ⟨rfl, hA⟩, h3, _, rfl⟩
      · rintro x w' ⟨v, w1, w2, rfl, hb, hs, ⟨rfl, hA⟩, hc⟩
        exact ⟨rfl, Aft.read h.lt (h.2.2.2.2.2.2.2) hb hs hA hc⟩
  · have e : s.get 8 = (0, s) := by simp [RS.get, he]
    rw [e]
    exact (read_stop_uint64 p a cap s _ w h he).mono fun x w' hx => ⟨hx.1, h.after hx.2⟩

set_option maxHeartbeats 400000 in
theorem get_uint64 (p : Nat) (a : Option Addr) (cap : Nat) (s : RS) (w : World) (h : IsR w p a cap s) :
    Calls Try.prog 36 #[.pointer (some ⟨p, 0, none⟩)] w fun x w' => x = .returned (.int .u64 ((s.get 8).1 : Nat)) ∧ Aft w p a (s.get 8).2 w' := by
  have hmf : ∀ (fn : Fn) (first cap : Array Value) (w : World), (Instr.makeFunc fn first cap).run Try.prog w = .ok (.func fn first cap) w := fun _ _ _ _ => rfl
  have hB := (Below.refl w.heap.size w).alloc (Nat.le_refl _) (.cells #[.pointer (some ⟨p, 0, none⟩)] 55)
  have hg := heap_alloc_new w (.cells #[.pointer (some ⟨p, 0, none⟩)] 55)
  have h2 := h.below hB
  have HB := Lib.hid hB
  have H := Lib.hid (getr_uint64 p w.heap.size a cap s _ h2 hg)
  clear hB h h2 hg
  go_enter Try.func36, Try.ntmps36
  go_wp2_with fail
  refine H.out.mono ?_
  rintro _ w3 ⟨rfl, h3⟩
  go_wp2_with fail
  go_ret
  exact ⟨rfl, h3.pre (Chg.of_below HB.out)⟩

end Go.Proofs.Ytpjdknmgegbgnaa
