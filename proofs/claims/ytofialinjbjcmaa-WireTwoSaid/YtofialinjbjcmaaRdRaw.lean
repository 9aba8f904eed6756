/- The reader's Raw and Short: what their closures do. -/
import Derived.Test.YtofialinjbjcmaaRdOps
namespace Go.Proofs.Ytofialinjbjcmaa
open Go.RowKit

theorem Threw.same {w : World} {p e : Nat} {a : Option Addr} {cap : Nat} {s : RS} (h : IsR w p a cap s) : Threw p e w (.panicked [thrown e false]) w := ⟨rfl, Chg.refl _ w, a, cap, s, h⟩
theorem rawb_threw (p g e : Nat) (n : Int) (w : World) (hg : w.cell? ⟨g, 0, none⟩ = some (.pointer (some ⟨p, 0, none⟩))) (hg1 : w.cell? ⟨g + 1, 0, none⟩ = some (.int .i64 n)) {a : Option Addr} {cap : Nat} {s : RS} (h : IsR w p a cap s)
    (H : Calls Try.prog 62 #[.pointer (some ⟨p, 0, none⟩), .int .i64 n] w fun r w' => r = .panicked [thrown e false] ∧ w = w') :
    Calls Try.prog 81 #[.pointer (some ⟨g, 0, none⟩), .pointer (some ⟨g + 1, 0, none⟩)] w (Threw p e w) := by
  have HT := Lib.hid (Threw.same (e := e) h)
  clear h
  go_enter Try.func81, Try.ntmps81
  go_wp2_with fail
  refine H.mono ?_
  rintro _ _ ⟨rfl, rfl⟩
  exact ⟨rfl, HT.out⟩
theorem rawb_ok (p g n : Nat) (w : World) (hg : w.cell? ⟨g, 0, none⟩ = some (.pointer (some ⟨p, 0, none⟩))) (hg1 : w.cell? ⟨g + 1, 0, none⟩ = some (.int .i64 (n : Int))) {a : Option Addr} {cap : Nat} {s : RS} (h : IsR w p a cap s) (hn : n ≤ s.rest.length) :
    Calls Try.prog 81 #[.pointer (some ⟨g, 0, none⟩), .pointer (some ⟨g + 1, 0, none⟩)] w (Took w p a s n) := by
  have H := Lib.hid (take_ok p a cap s n hn w h)
  clear h
  go_enter Try.func81, Try.ntmps81
  go_wp2_with fail
  refine H.out.mono ?_
  rintro _ w2 hR
  have HR := Lib.hid hR
  obtain ⟨oa, cap2, a', cap', rfl, -⟩ := hR
  go_wp2_with fail
  go_ret
  exact HR.out

theorem AftB.read {w w1 w2 w' : World} {p : Nat} {a : Option Addr} {bs : List UInt8} {s : RS} {v : Value} (hp : p < w.heap.size) (ha : ∀ k, blk a = some k → k < w.heap.size) (hb : Below w.heap.size w w1) (hs : w.heap.size + 3 = w1.heap.size) (h : AftB w1 p a bs s (.returned v) w2) (hc : Chg (fun k => k = w.heap.size + 1) w2 w') : AftB w p a bs s (.returned v) w' := by
  obtain ⟨oa, cap2, h1, h2, h3, h4⟩ := h
  refine ⟨oa, cap2, h1, h2.chg hc (fun k hk => ?_), fun k hk => ?_, h4.read hp ha hb hs hc⟩
  · have := h3 k hk; omega
  · have := h3 k hk; omega

theorem readb_any (p : Nat) (a : Option Addr) (cap : Nat) (s : RS) (f : FuncId) (capt : Array Value) (bs : List UInt8) (s' : RS) (w : World) (h : IsR w p a cap s) (hcf : ∀ w, (callFunc f capt).run Try.prog w = .ok (.enter f capt) w) (hstop : s.err ≠ 0 → bs = [] ∧ s' = s)
    (hrun : s.err = 0 → (∃ e, e ≤ 1000 ∧ bs = [] ∧ s' = { s with err := e } ∧ ∀ w1, Below w.heap.size w w1 → Calls Try.prog f capt w1 (Threw p e w1)) ∨ (∀ w1, Below w.heap.size w w1 → Calls Try.prog f capt w1 (AftB w1 p a bs s'))) :
    Calls Try.prog 80 #[.pointer (some ⟨p, 0, none⟩), .func (.func f) #[] capt] w (AftB w p a bs s') := by
  by_cases he : s.err = 0
  · rcases hrun he with ⟨e, h1, rfl, rfl, hb⟩ | hb
    · refine (read_gave_bytes p a cap s f capt e w h he h1 hcf hb).mono fun x w' hG => ?_
      obtain ⟨h2, h3⟩ := Aft.gave hG
      exact ⟨none, 0, h2, OB.nil _, fun k hk => by simp [blk] at hk, h3⟩
    · refine (read_done_bytes p a cap s f capt (fun v w1 w2 => AftB w1 p a bs s' (.returned v) w2) w h he hcf fun w1 hw _ => (hb w1 hw).mono ?_).mono ?_
      · intro x w2 hA
        have hA2 := hA
        obtain ⟨oa, cap2, rfl, _, _, _, _, _, _, hc⟩ := hA2
        exact ⟨_, rfl, hA, hc, _, _, _, rfl⟩
      · rintro x w' ⟨v, w1, w2, rfl, hb, hs, hA, hc⟩
        exact AftB.read h.lt (h.2.2.2.2.2.2.2) hb hs hA hc
  · obtain ⟨rfl, rfl⟩ := hstop he
    exact (read_stop_bytes p a cap _ _ w h he).mono fun x w' hx => ⟨none, 0, hx.1, OB.nil _, fun k hk => by simp [blk] at hk, h.after hx.2⟩

theorem Took.aftB {w w' : World} {p : Nat} {a : Option Addr} {s : RS} {n : Nat} {x : Ending} (hn : n ≤ s.rest.length) (h : Took w p a s n x w') : AftB w p a (s.rest.take n) { s with rest := s.rest.drop n } x w' := by
  obtain ⟨oa, cap2, a', cap', h1, h2, h3, h4, h5, h6⟩ := h
  have hl : (s.rest.take n).length = n := by rw [List.length_take]; omega
  refine ⟨oa, cap2, by rw [hl]; exact h1, h2, fun k hk => ?_, a', cap', h4, h5, h6⟩
  rcases h3 with e | e <;> rw [e] at hk <;> cases hk
  exact Nat.le_refl _
theorem AftB.pre {w0 w w' : World} {p : Nat} {a : Option Addr} {bs : List UInt8} {s : RS} {x : Ending} (h : AftB w p a bs s x w') (hb : Chg (fun k => k = p) w0 w) : AftB w0 p a bs s x w' := by
  obtain ⟨oa, cap2, h1, h2, h3, h4⟩ := h
  exact ⟨oa, cap2, h1, h2, fun k hk => Nat.le_trans hb.size (h3 k hk), h4.pre hb⟩
theorem Threw.pre {w0 w w' : World} {p e : Nat} {x : Ending} (h : Threw p e w x w') (hb : Chg (fun k => k = p) w0 w) : Threw p e w0 x w' := ⟨h.1, hb.trans h.2.1 (fun _ _ f => f), h.2.2⟩

/-- the variables of a method that a closure captures -/
def Caps (w : World) (p g : Nat) (n : Int) : Prop := (∃ t, w.heap[g]? = some (.cells #[.pointer (some ⟨p, 0, none⟩)] t)) ∧ (∃ t, w.heap[g + 1]? = some (.cells #[.int .i64 n] t)) ∧ g ≠ p ∧ g + 1 ≠ p
theorem Caps.chg {w w' : World} {p g : Nat} {n : Int} (h : Caps w p g n) (hc : Chg (fun k => k = p) w w') : Caps w' p g n := by
  obtain ⟨⟨t, h1⟩, ⟨t2, h2⟩, h3, h4⟩ := h
  exact ⟨⟨t, (hc.block g (rlt_of_heap h1) h3).trans h1⟩, ⟨t2, (hc.block (g + 1) (rlt_of_heap h2) h4).trans h2⟩, h3, h4⟩
theorem Caps.cells {w : World} {p g : Nat} {n : Int} (h : Caps w p g n) : w.cell? ⟨g, 0, none⟩ = some (.pointer (some ⟨p, 0, none⟩)) ∧ w.cell? ⟨g + 1, 0, none⟩ = some (.int .i64 n) := by
  obtain ⟨⟨t, h1⟩, ⟨t2, h2⟩, _⟩ := h
  exact ⟨(cell1 h1).1, (cell1 h2).1⟩
theorem Caps.below {w w' : World} {p g : Nat} {n : Int} (h : Caps w p g n) (hc : Below w.heap.size w w') : Caps w' p g n := h.chg (Chg.of_below hc)

theorem u8_wrap64 (b : UInt8) : wrap64 ((b.toNat : Nat) : Int) = ((b.toNat : Nat) : Int) := by
  have := b.toNat_lt
  unfold wrap64; omega

theorem shortb_empty (p g : Nat) (n : Int) (a : Option Addr) (cap : Nat) (s : RS) (w : World) (h : IsR w p a cap s) (hc : Caps w p g n) (hl : s.rest = []) :
    Calls Try.prog 83 #[.pointer (some ⟨g, 0, none⟩), .pointer (some ⟨g + 1, 0, none⟩)] w (Threw p 2 w) := by
  have H := Lib.hid (take_short p a cap s 1 (by decide) (by simp [hl]) w h)
  have HT := Lib.hid (Threw.same (e := 2) h)
  obtain ⟨hg, hg1⟩ := hc.cells
  clear h hc
  go_enter Try.func83, Try.ntmps83
  go_wp2_with fail
  refine H.out.mono ?_
  rintro _ _ ⟨rfl, rfl⟩
  exact ⟨rfl, HT.out⟩

theorem shortb_many (p g : Nat) (n : Int) (a : Option Addr) (cap : Nat) (s : RS) (b : UInt8) (t : List UInt8) (w : World) (h : IsR w p a cap s) (hc : Caps w p g n) (hl : s.rest = b :: t) (hn : n < b.toNat) :
    Calls Try.prog 83 #[.pointer (some ⟨g, 0, none⟩), .pointer (some ⟨g + 1, 0, none⟩)] w (Threw p 4 w) := by
  have H := Lib.hid (take_ok p a cap s 1 (by simp [hl]) w h)
  have hd : decide ((b.toNat : Int) ≤ n) = false := decide_eq_false (by omega)
  obtain ⟨hg, hg1⟩ := hc.cells
  clear h
  go_enter Try.func83, Try.ntmps83
  go_wp2_with fail
  refine H.out.mono ?_
  rintro _ w2 ⟨oa, cap2, a', cap', rfl, hO, hoa, hR, hbk, hC⟩
  rw [show s.rest.take 1 = [b] by simp [hl]] at hO
  obtain ⟨gl, rfl⟩ := hO.pos (by simp)
  obtain ⟨hx, -⟩ := hO.cell (i := 0) (by simp)
  have hw := u8_wrap64 b
  obtain ⟨hg, hg1⟩ := (hc.chg hC).cells
  have HX := Lib.hid (show Threw p 4 w (.panicked [thrown 4 false]) w2 from ⟨rfl, hC, _, _, _, hR⟩)
  clear hR hC hO hoa hc
  go_wp2_with fail
  refine (must_false 4 w2).mono ?_
  rintro _ _ ⟨rfl, rfl⟩
  exact ⟨rfl, HX.out⟩

theorem shortb_short (p g : Nat) (n : Int) (a : Option Addr) (cap : Nat) (s : RS) (b : UInt8) (t : List UInt8) (w : World) (h : IsR w p a cap s) (hc : Caps w p g n) (hl : s.rest = b :: t) (hn : b.toNat ≤ n) (ht : t.length < b.toNat) :
    Calls Try.prog 83 #[.pointer (some ⟨g, 0, none⟩), .pointer (some ⟨g + 1, 0, none⟩)] w (Threw p 2 w) := by
  have H := Lib.hid (take_ok p a cap s 1 (by simp [hl]) w h)
  obtain ⟨hg, hg1⟩ := hc.cells
  clear h
  go_enter Try.func83, Try.ntmps83
  go_wp2_with fail
  refine H.out.mono ?_
  rintro _ w2 ⟨oa, cap2, a', cap', rfl, hO, hoa, hR, hbk, hC⟩
  rw [show s.rest.take 1 = [b] by simp [hl]] at hO
  rw [show s.rest.drop 1 = t by simp [hl]] at hR
  obtain ⟨gl, rfl⟩ := hO.pos (by simp)
  obtain ⟨hx, -⟩ := hO.cell (i := 0) (by simp)
  have hw := u8_wrap64 b
  obtain ⟨hg, hg1⟩ := (hc.chg hC).cells
  have HX := Lib.hid (show Threw p 2 w (.panicked [thrown 2 false]) w2 from ⟨rfl, hC, _, _, _, hR⟩)
  have H2 := Lib.hid (take_short p a' cap' _ (b.toNat : Int) (by omega) (by show (t.length : Int) < _; omega) w2 hR)
  clear hR hC hO hoa hc
  go_wp2_with fail
  refine (must_true 4 w2).mono ?_
  rintro _ _ ⟨rfl, rfl⟩
  go_wp2_with fail
  refine H2.out.mono ?_
  rintro _ _ ⟨rfl, rfl⟩
  exact ⟨rfl, HX.out⟩

theorem shortb_ok (p g : Nat) (n : Int) (a : Option Addr) (cap : Nat) (s : RS) (b : UInt8) (t : List UInt8) (w : World) (h : IsR w p a cap s) (hc : Caps w p g n) (hl : s.rest = b :: t) (hn : b.toNat ≤ n) (ht : b.toNat ≤ t.length) :
    Calls Try.prog 83 #[.pointer (some ⟨g, 0, none⟩), .pointer (some ⟨g + 1, 0, none⟩)] w (AftB w p a (t.take b.toNat) { s with rest := t.drop b.toNat }) := by
  have H := Lib.hid (take_ok p a cap s 1 (by simp [hl]) w h)
  obtain ⟨hg, hg1⟩ := hc.cells
  clear h
  go_enter Try.func83, Try.ntmps83
  go_wp2_with fail
  refine H.out.mono ?_
  rintro _ w2 ⟨oa, cap2, a', cap', rfl, hO, hoa, hR, hbk, hC⟩
  rw [show s.rest.take 1 = [b] by simp [hl]] at hO
  rw [show s.rest.drop 1 = t by simp [hl]] at hR
  obtain ⟨gl, rfl⟩ := hO.pos (by simp)
  obtain ⟨hx, -⟩ := hO.cell (i := 0) (by simp)
  have hw := u8_wrap64 b
  obtain ⟨hg, hg1⟩ := (hc.chg hC).cells
  have H2 := Lib.hid (take_ok p a' cap' _ b.toNat (by exact ht) w2 hR)
  have HC := Lib.hid hC
  clear hR hC hO hoa hc
  go_wp2_with fail
  refine (must_true 4 w2).mono ?_
  rintro _ _ ⟨rfl, rfl⟩
  go_wp2_with fail
  refine H2.out.mono ?_
  rintro _ w3 hT
  have HX := Lib.hid ((Took.aftB (show b.toNat ≤ ({ s with rest := t } : RS).rest.length from ht) hT).pre HC.out)
  obtain ⟨oa, cap3, a3, cap4, rfl, -⟩ := hT
  go_wp2_with fail
  go_ret
  obtain ⟨oa, cap3, h1, h2, h3, a3, cap4, h4, h5, h6⟩ := HX.out
  exact ⟨oa, cap3, h1, h2, h3, a3, cap4, h4, h5.trans hbk, h6⟩
theorem caps_new {w : World} {p : Nat} (hp : p < w.heap.size) (n : Int) (t1 t2 : TypeId) : Caps ((w.alloc (.cells #[.pointer (some ⟨p, 0, none⟩)] t1)).alloc (.cells #[.int .i64 n] t2)) p w.heap.size n := by
  refine ⟨⟨t1, by rw [heap_alloc_old _ _ (by simp), heap_alloc_new]⟩, ⟨t2, ?_⟩, by omega, by omega⟩
  have h := heap_alloc_new (w.alloc (.cells #[.pointer (some ⟨p, 0, none⟩)] t1)) (.cells #[.int .i64 n] t2)
  rwa [show (w.alloc (.cells #[.pointer (some ⟨p, 0, none⟩)] t1)).heap.size = w.heap.size + 1 by simp] at h
end Go.Proofs.Ytofialinjbjcmaa
