/- read, by the contract of its body, at the six kinds of results. -/
import Derived.Test.YtpjdknmgegbgnaaRdCatch
namespace Go.Proofs.Ytpjdknmgegbgnaa
open Go.RowKit

theorem drop_dec {e : Nat} (h : e ≠ 0) : decide ((e : Int) = 0) = false := decide_eq_false (by omega)
/-- what a body leaves that gives up -/
def Threw (p : Nat) (e : Nat) (w1 : World) (x : Ending) (w2 : World) : Prop := x = .panicked [thrown e false] ∧ Chg (fun k => k = p) w1 w2 ∧ ∃ a' cap' s', IsR w2 p a' cap' s'
/-- what read leaves whose body gave up -/
def Gave (p : Nat) (a : Option Addr) (cap : Nat) (s : RS) (e : Nat) (z : Value) (w : World) (x : Ending) (w' : World) : Prop := x = .returned z ∧ IsR w' p a cap { s with err := e } ∧ Chg (fun k => k = p) w w'
/-- what read leaves whose body came to its end -/
def Read (Good : Value → World → World → Prop) (w : World) (x : Ending) (w' : World) : Prop :=
  ∃ v w1 w2, x = .returned v ∧ Below w.heap.size w w1 ∧ w.heap.size + 3 = w1.heap.size ∧ Good v w1 w2 ∧ Chg (fun k => k = w.heap.size + 1) w2 w'

/-- the world in which the body starts -/
def begun (w : World) (p : Nat) (z at' : Value) (t1 t2 t3 : TypeId) : World := ((w.alloc (.cells #[.pointer (some ⟨p, 0, none⟩)] t1)).alloc (.cells #[z] t2)).alloc (.cells #[at'] t3)
theorem begun_below (w : World) (p : Nat) (z at' : Value) (t1 t2 t3 : TypeId) : Below w.heap.size w (begun w p z at' t1 t2 t3) :=
  (((Below.refl _ _).alloc (Nat.le_refl _) _).alloc (by simp) _).alloc (by simp; omega) _
theorem begun_size (w : World) (p : Nat) (z at' : Value) (t1 t2 t3 : TypeId) : (begun w p z at' t1 t2 t3).heap.size = w.heap.size + 3 := by simp [begun]
theorem begun_cells (w : World) (p : Nat) (z at' : Value) (t1 t2 t3 : TypeId) :
    (begun w p z at' t1 t2 t3).heap[w.heap.size]? = some (.cells #[.pointer (some ⟨p, 0, none⟩)] t1) ∧ (begun w p z at' t1 t2 t3).heap[w.heap.size + 1]? = some (.cells #[z] t2) ∧ (begun w p z at' t1 t2 t3).heap[w.heap.size + 2]? = some (.cells #[at'] t3) := by
  refine ⟨?_, ?_, ?_⟩
  · rw [begun, heap_alloc_old _ _ (by simp; omega), heap_alloc_old _ _ (by simp), heap_alloc_new]
  · rw [begun, heap_alloc_old _ _ (by simp)]
    have h := heap_alloc_new (w.alloc (.cells #[.pointer (some ⟨p, 0, none⟩)] t1)) (.cells #[z] t2)
    rwa [show (w.alloc (.cells #[.pointer (some ⟨p, 0, none⟩)] t1)).heap.size = w.heap.size + 1 by simp] at h
  · have h := heap_alloc_new ((w.alloc (.cells #[.pointer (some ⟨p, 0, none⟩)] t1)).alloc (.cells #[z] t2)) (.cells #[at'] t3)
    rwa [show ((w.alloc (.cells #[.pointer (some ⟨p, 0, none⟩)] t1)).alloc (.cells #[z] t2)).heap.size = w.heap.size + 2 by simp] at h
theorem cell1 {w : World} {g : Nat} {v : Value} {t : TypeId} (h : w.heap[g]? = some (.cells #[v] t)) : w.cell? ⟨g, 0, none⟩ = some v ∧ w.frozen? ⟨g, 0, none⟩ = false := by
  simp [World.cell?, World.frozen?, h]
theorem begun_at {w w2 : World} {p : Nat} {z at' : Value} {t1 t2 t3 : TypeId} (hp : p < w.heap.size) (hc : Chg (fun k => k = p) (begun w p z at' t1 t2 t3) w2) :
    w2.heap[w.heap.size]? = some (.cells #[.pointer (some ⟨p, 0, none⟩)] t1) ∧ w2.heap[w.heap.size + 1]? = some (.cells #[z] t2) ∧ w2.heap[w.heap.size + 2]? = some (.cells #[at'] t3) := by
  obtain ⟨b0, b1, b2⟩ := begun_cells w p z at' t1 t2 t3
  have hs := begun_size w p z at' t1 t2 t3
  exact ⟨(hc.block _ (by omega) (by omega)).trans b0, (hc.block _ (by omega) (by omega)).trans b1, (hc.block _ (by omega) (by omega)).trans b2⟩
theorem set1_0 {w : World} {g : Nat} {v : Value} {t : TypeId} (h : w.heap[g]? = some (.cells #[v] t)) (u : Value) : (w.setCell ⟨g, 0, none⟩ u).heap[g]? = some (.cells #[u] t) := by
  rw [setCell_eq_setRow w g 0 _ t (0, 0) u h, setRow_heap w g _ _ t (0, 0) h]; rfl
theorem gave_close {w w1 w2 : World} {p : Nat} {a : Option Addr} {cap e : Nat} {s : RS} {z v0 v1 : Value} {T : TypeId} (h : IsR w p a cap s) (he : e ≤ 1000) (h1 : Below w.heap.size w w1) (hc : Chg (fun k => k = p) w1 w2) (hT : w2.heap[p]? = some (.cells #[v0, v1] T)) :
    Gave p a cap s e z w (.returned z) (((w2.setCell ⟨w.heap.size + 1, 0, none⟩ z).setCell ⟨p, 0, none⟩ (.slice a s.rest.length cap)).setCell ⟨p, 1, none⟩ (.int .i64 (e : Int))) := by
  have hlt := h.lt
  have hC : Chg (fun k => k = p) w (((w2.setCell ⟨w.heap.size + 1, 0, none⟩ z).setCell ⟨p, 0, none⟩ (.slice a s.rest.length cap)).setCell ⟨p, 1, none⟩ (.int .i64 (e : Int))) :=
    ((((Chg.of_below h1 (F := fun k => k = p)).trans hc (fun _ _ f => f)).setCell ⟨w.heap.size + 1, 0, none⟩ z (fun h => absurd h (by simp))).setCell ⟨p, 0, none⟩ _ (fun _ => rfl)).setCell ⟨p, 1, none⟩ _ (fun _ => rfl)
  obtain ⟨⟨T0, h3⟩, h4, h5, h6, h7, h8, h9, h10⟩ := h
  have g1 : (w2.setCell ⟨w.heap.size + 1, 0, none⟩ z).heap[p]? = some (.cells #[v0, v1] T) := (Below.heap_setCell _ _ _ _ (show p ≠ w.heap.size + 1 by omega)).trans hT
  exact ⟨rfl, ⟨⟨T, set2_1 (set2_0 g1 _) _⟩, h4.chg hC (fun k hk e => h6 (by rw [hk, e])), h5, h6, h7, h8, he, fun k hk => Nat.lt_of_lt_of_le (h10 k hk) hC.size⟩, hC⟩

theorem read_stop_int (p : Nat) (a : Option Addr) (cap : Nat) (s : RS) (d : Value) (w : World) (h : IsR w p a cap s) (he : s.err ≠ 0) :
    Calls Try.prog 70 #[.pointer (some ⟨p, 0, none⟩), d] w fun r w' => r = .returned (.int .i64 0) ∧ Below w.heap.size w w' := by
  have hmf : ∀ (fn : Fn) (first cap : Array Value) (w : World), (Instr.makeFunc fn first cap).run Try.prog w = .ok (.func fn first cap) w := fun _ _ _ _ => rfl
  obtain ⟨⟨T, h3⟩, _⟩ := h
  have hlt := rlt_of_heap h3
  obtain ⟨c0, c1, f⟩ := cells2 h3
  have hd := drop_dec he
  clear h3 f
  go_enter_defers Try.func70, Try.ntmps70
  go_wp2_with fail
  simp [bodyPostD, Leaves, results, Try.results70, go_sem]
  exact ((Below.refl _ _).alloc (Nat.le_refl _) _).alloc (by simp) _

theorem read_gave_int (p : Nat) (a : Option Addr) (cap : Nat) (s : RS) (f : FuncId) (capt : Array Value) (e : Nat) (w : World) (h : IsR w p a cap s) (he : s.err = 0) (he2 : e ≤ 1000) (hcf : ∀ w, (callFunc f capt).run Try.prog w = .ok (.enter f capt) w)
    (hb : ∀ w1, Below w.heap.size w w1 → Calls Try.prog f capt w1 (Threw p e w1)) :
    Calls Try.prog 70 #[.pointer (some ⟨p, 0, none⟩), .func (.func f) #[] capt] w (Gave p a cap s e (.int .i64 0) w) := by
  have hmf : ∀ (fn : Fn) (first cap : Array Value) (w : World), (Instr.makeFunc fn first cap).run Try.prog w = .ok (.func fn first cap) w := fun _ _ _ _ => rfl
  have H := Lib.hid h
  obtain ⟨⟨T, h3⟩, _⟩ := h
  have hlt := rlt_of_heap h3
  obtain ⟨c0, c1, f⟩ := cells2 h3
  rw [he] at c1
  clear h3 f
  have Hb := Lib.hid hb
  clear hb
  go_enter_defers Try.func70, Try.ntmps70
  go_wp2_with fail
  refine (Hb.out (begun w p (.int .i64 0) (.slice a s.rest.length cap) _ _ _) (begun_below w p _ _ _ _ _)).mono ?_
  rintro x w2 ⟨rfl, hc, a', cap', s', ⟨T2, h2⟩, -⟩
  obtain ⟨b0, b1, b2⟩ := begun_at hlt hc
  have q0 := cell1 b0
  have q1 := cell1 b1
  have q2 := cell1 b2
  refine leaves_cons (f := 86) (args := #[.pointer (some ⟨w.heap.size + 2, 0, none⟩), .pointer (some ⟨w.heap.size + 1, 0, none⟩), .pointer (some ⟨w.heap.size, 0, none⟩)]) (by simp) (by simp [go_sem]) ?_
  refine (catch_int _ _ _ p e _ _ _ a _ cap T2 w2 q2.1 q1.1 q1.2 q0.1 h2 (by omega)).mono ?_
  rintro x u w' ⟨rfl, rfl, rfl⟩
  have hg := gave_close (z := .int .i64 0) H.out he2 (begun_below w p _ _ _ _ _) hc h2
  have hv : (((w2.setCell ⟨w.heap.size + 1, 0, none⟩ (.int .i64 0)).setCell ⟨p, 0, none⟩ (.slice a s.rest.length cap)).setCell ⟨p, 1, none⟩ (.int .i64 (e : Int))).cell? ⟨w.heap.size + 1, 0, none⟩ = some (.int .i64 0) :=
    (cell1 (((Below.heap_setCell _ _ _ _ (show w.heap.size + 1 ≠ p by omega)).trans (Below.heap_setCell _ _ _ _ (show w.heap.size + 1 ≠ p by omega))).trans (set1_0 b1 _))).1
  simp [Leaves, settle, thrown, results, Try.results70, go_sem, hv]
  exact hg

theorem read_done_int (p : Nat) (a : Option Addr) (cap : Nat) (s : RS) (f : FuncId) (capt : Array Value) (Good : Value → World → World → Prop) (w : World) (h : IsR w p a cap s) (he : s.err = 0) (hcf : ∀ w, (callFunc f capt).run Try.prog w = .ok (.enter f capt) w)
    (hb : ∀ w1, Below w.heap.size w w1 → w1.heap.size = w.heap.size + 3 → Calls Try.prog f capt w1 (fun x w2 => ∃ v, x = .returned v ∧ Good v w1 w2 ∧ Chg (fun k => k = p) w1 w2 ∧ ∃ n, v = .int .i64 n)) :
    Calls Try.prog 70 #[.pointer (some ⟨p, 0, none⟩), .func (.func f) #[] capt] w (Read Good w) := by
  have hmf : ∀ (fn : Fn) (first cap : Array Value) (w : World), (Instr.makeFunc fn first cap).run Try.prog w = .ok (.func fn first cap) w := fun _ _ _ _ => rfl
  obtain ⟨⟨T, h3⟩, _⟩ := h
  have hlt := rlt_of_heap h3
  obtain ⟨c0, c1, f⟩ := cells2 h3
  rw [he] at c1
  clear h3 f
  have Hb := Lib.hid hb
  clear hb
  go_enter_defers Try.func70, Try.ntmps70
  go_wp2_with fail
  refine (Hb.out (begun w p (.int .i64 0) (.slice a s.rest.length cap) _ _ _) (begun_below w p _ _ _ _ _) (begun_size _ _ _ _ _ _ _)).mono ?_
  rintro x w2 ⟨v, rfl, hG, hc, n, rfl⟩
  have HG := Lib.hid hG
  obtain ⟨b0, b1, b2⟩ := begun_at hlt hc
  have q1 := cell1 b1
  have q10 := q1.1
  have q11 := q1.2
  clear hG b0 b2 q1
  go_wp2_with fail
  have b3 := set1_0 b1 (.int .i64 n)
  have hv := (cell1 b3).1
  refine leaves_cons (f := 86) (args := #[.pointer (some ⟨w.heap.size + 2, 0, none⟩), .pointer (some ⟨w.heap.size + 1, 0, none⟩), .pointer (some ⟨w.heap.size, 0, none⟩)]) (by simp) (by simp [go_sem]) ?_
  refine (idle_int _ _ _ _).mono ?_
  rintro x u w' ⟨rfl, rfl, rfl⟩
  simp [Leaves, settle, results, Try.results70, go_sem, hv]
  exact ⟨_, _, _, rfl, begun_below w p _ _ _ _ _, (begun_size _ _ _ _ _ _ _).symm, HG.out, Chg.set w2 ⟨w.heap.size + 1, 0, none⟩ _⟩

theorem read_stop_uint8 (p : Nat) (a : Option Addr) (cap : Nat) (s : RS) (d : Value) (w : World) (h : IsR w p a cap s) (he : s.err ≠ 0) :
    Calls Try.prog 61 #[.pointer (some ⟨p, 0, none⟩), d] w fun r w' => r = .returned (.int .u8 0) ∧ Below w.heap.size w w' := by
  have hmf : ∀ (fn : Fn) (first cap : Array Value) (w : World), (Instr.makeFunc fn first cap).run Try.prog w = .ok (.func fn first cap) w := fun _ _ _ _ => rfl
  obtain ⟨⟨T, h3⟩, _⟩ := h
  have hlt := rlt_of_heap h3
  obtain ⟨c0, c1, f⟩ := cells2 h3
  have hd := drop_dec he
  clear h3 f
  go_enter_defers Try.func61, Try.ntmps61
  go_wp2_with fail
  simp [bodyPostD, Leaves, results, Try.results61, go_sem]
  exact ((Below.refl _ _).alloc (Nat.le_refl _) _).alloc (by simp) _

theorem read_gave_uint8 (p : Nat) (a : Option Addr) (cap : Nat) (s : RS) (f : FuncId) (capt : Array Value) (e : Nat) (w : World) (h : IsR w p a cap s) (he : s.err = 0) (he2 : e ≤ 1000) (hcf : ∀ w, (callFunc f capt).run Try.prog w = .ok (.enter f capt) w)
    (hb : ∀ w1, Below w.heap.size w w1 → Calls Try.prog f capt w1 (Threw p e w1)) :
    Calls Try.prog 61 #[.pointer (some ⟨p, 0, none⟩), .func (.func f) #[] capt] w (Gave p a cap s e (.int .u8 0) w) := by
  have hmf : ∀ (fn : Fn) (first cap : Array Value) (w : World), (Instr.makeFunc fn first cap).run Try.prog w = .ok (.func fn first cap) w := fun _ _ _ _ => rfl
  have H := Lib.hid h
  obtain ⟨⟨T, h3⟩, _⟩ := h
  have hlt := rlt_of_heap h3
  obtain ⟨c0, c1, f⟩ := cells2 h3
  rw [he] at c1
  clear h3 f
  have Hb := Lib.hid hb
  clear hb
  go_enter_defers Try.func61, Try.ntmps61
  go_wp2_with fail
  refine (Hb.out (begun w p (.int .u8 0) (.slice a s.rest.length cap) _ _ _) (begun_below w p _ _ _ _ _)).mono ?_
  rintro x w2 ⟨rfl, hc, a', cap', s', ⟨T2, h2⟩, -⟩
  obtain ⟨b0, b1, b2⟩ := begun_at hlt hc
  have q0 := cell1 b0
  have q1 := cell1 b1
  have q2 := cell1 b2
  refine leaves_cons (f := 83) (args := #[.pointer (some ⟨w.heap.size + 2, 0, none⟩), .pointer (some ⟨w.heap.size + 1, 0, none⟩), .pointer (some ⟨w.heap.size, 0, none⟩)]) (by simp) (by simp [go_sem]) ?_
  refine (catch_uint8 _ _ _ p e _ _ _ a _ cap T2 w2 q2.1 q1.1 q1.2 q0.1 h2 (by omega)).mono ?_
  rintro x u w' ⟨rfl, rfl, rfl⟩
  have hg := gave_close (z := .int .u8 0) H.out he2 (begun_below w p _ _ _ _ _) hc h2
  have hv : (((w2.setCell ⟨w.heap.size + 1, 0, none⟩ (.int .u8 0)).setCell ⟨p, 0, none⟩ (.slice a s.rest.length cap)).setCell ⟨p, 1, none⟩ (.int .i64 (e : Int))).cell? ⟨w.heap.size + 1, 0, none⟩ = some (.int .u8 0) :=
    (cell1 (((Below.heap_setCell _ _ _ _ (show w.heap.size + 1 ≠ p by omega)).trans (Below.heap_setCell _ _ _ _ (show w.heap.size + 1 ≠ p by omega))).trans (set1_0 b1 _))).1
  simp [Leaves, settle, thrown, results, Try.results61, go_sem, hv]
  exact hg

theorem read_done_uint8 (p : Nat) (a : Option Addr) (cap : Nat) (s : RS) (f : FuncId) (capt : Array Value) (Good : Value → World → World → Prop) (w : World) (h : IsR w p a cap s) (he : s.err = 0) (hcf : ∀ w, (callFunc f capt).run Try.prog w = .ok (.enter f capt) w)
    (hb : ∀ w1, Below w.heap.size w w1 → w1.heap.size = w.heap.size + 3 → Calls Try.prog f capt w1 (fun x w2 => ∃ v, x = .returned v ∧ Good v w1 w2 ∧ Chg (fun k => k = p) w1 w2 ∧ ∃ n, v = .int .u8 n)) :
    Calls Try.prog 61 #[.pointer (some ⟨p, 0, none⟩), .func (.func f) #[] capt] w (Read Good w) := by
  have hmf : ∀ (fn : Fn) (first cap : Array Value) (w : World), (Instr.makeFunc fn first cap).run Try.prog w = .ok (.func fn first cap) w := fun _ _ _ _ => rfl
  obtain ⟨⟨T, h3⟩, _⟩ := h
  have hlt := rlt_of_heap h3
  obtain ⟨c0, c1, f⟩ := cells2 h3
  rw [he] at c1
  clear h3 f
  have Hb := Lib.hid hb
  clear hb
  go_enter_defers Try.func61, Try.ntmps61
  go_wp2_with fail
  refine (Hb.out (begun w p (.int .u8 0) (.slice a s.rest.length cap) _ _ _) (begun_below w p _ _ _ _ _) (begun_size _ _ _ _ _ _ _)).mono ?_
  rintro x w2 ⟨v, rfl, hG, hc, n, rfl⟩
  have HG := Lib.hid hG
  obtain ⟨b0, b1, b2⟩ := begun_at hlt hc
  have q1 := cell1 b1
  have q10 := q1.1
  have q11 := q1.2
  clear hG b0 b2 q1
  go_wp2_with fail
  have b3 := set1_0 b1 (.int .u8 n)
  have hv := (cell1 b3).1
  refine leaves_cons (f := 83) (args := #[.pointer (some ⟨w.heap.size + 2, 0, none⟩), .pointer (some ⟨w.heap.size + 1, 0, none⟩), .pointer (some ⟨w.heap.size, 0, none⟩)]) (by simp) (by simp [go_sem]) ?_
  refine (idle_uint8 _ _ _ _).mono ?_
  rintro x u w' ⟨rfl, rfl, rfl⟩
  simp [Leaves, settle, results, Try.results61, go_sem, hv]
  exact ⟨_, _, _, rfl, begun_below w p _ _ _ _ _, (begun_size _ _ _ _ _ _ _).symm, HG.out, Chg.set w2 ⟨w.heap.size + 1, 0, none⟩ _⟩

theorem read_stop_uint16 (p : Nat) (a : Option Addr) (cap : Nat) (s : RS) (d : Value) (w : World) (h : IsR w p a cap s) (he : s.err ≠ 0) :
    Calls Try.prog 67 #[.pointer (some ⟨p, 0, none⟩), d] w fun r w' => r = .returned (.int .u16 0) ∧ Below w.heap.size w w' := by
  have hmf : ∀ (fn : Fn) (first cap : Array Value) (w : World), (Instr.makeFunc fn first cap).run Try.prog w = .ok (.func fn first cap) w := fun _ _ _ _ => rfl
  obtain ⟨⟨T, h3⟩, _⟩ := h
  have hlt := rlt_of_heap h3
  obtain ⟨c0, c1, f⟩ := cells2 h3
  have hd := drop_dec he
  clear h3 f
  go_enter_defers Try.func67, Try.ntmps67
  go_wp2_with fail
  simp [bodyPostD, Leaves, results, Try.results67, go_sem]
  exact ((Below.refl _ _).alloc (Nat.le_refl _) _).alloc (by simp) _

theorem read_gave_uint16 (p : Nat) (a : Option Addr) (cap : Nat) (s : RS) (f : FuncId) (capt : Array Value) (e : Nat) (w : World) (h : IsR w p a cap s) (he : s.err = 0) (he2 : e ≤ 1000) (hcf : ∀ w, (callFunc f capt).run Try.prog w = .ok (.enter f capt) w)
    (hb : ∀ w1, Below w.heap.size w w1 → Calls Try.prog f capt w1 (Threw p e w1)) :
    Calls Try.prog 67 #[.pointer (some ⟨p, 0, none⟩), .func (.func f) #[] capt] w (Gave p a cap s e (.int .u16 0) w) := by
  have hmf : ∀ (fn : Fn) (first cap : Array Value) (w : World), (Instr.makeFunc fn first cap).run Try.prog w = .ok (.func fn first cap) w := fun _ _ _ _ => rfl
  have H := Lib.hid h
  obtain ⟨⟨T, h3⟩, _⟩ := h
  have hlt := rlt_of_heap h3
  obtain ⟨c0, c1, f⟩ := cells2 h3
  rw [he] at c1
  clear h3 f
  have Hb := Lib.hid hb
  clear hb
  go_enter_defers Try.func67, Try.ntmps67
  go_wp2_with fail
  refine (Hb.out (begun w p (.int .u16 0) (.slice a s.rest.length cap) _ _ _) (begun_below w p _ _ _ _ _)).mono ?_
  rintro x w2 ⟨rfl, hc, a', cap', s', ⟨T2, h2⟩, -⟩
  obtain ⟨b0, b1, b2⟩ := begun_at hlt hc
  have q0 := cell1 b0
  have q1 := cell1 b1
  have q2 := cell1 b2
  refine leaves_cons (f := 85) (args := #[.pointer (some ⟨w.heap.size + 2, 0, none⟩), .pointer (some ⟨w.heap.size + 1, 0, none⟩), .pointer (some ⟨w.heap.size, 0, none⟩)]) (by simp) (by simp [go_sem]) ?_
  refine (catch_uint16 _ _ _ p e _ _ _ a _ cap T2 w2 q2.1 q1.1 q1.2 q0.1 h2 (by omega)).mono ?_
  rintro x u w' ⟨rfl, rfl, rfl⟩
  have hg := gave_close (z := .int .u16 0) H.out he2 (begun_below w p _ _ _ _ _) hc h2
  have hv : (((w2.setCell ⟨w.heap.size + 1, 0, none⟩ (.int .u16 0)).setCell ⟨p, 0, none⟩ (.slice a s.rest.length cap)).setCell ⟨p, 1, none⟩ (.int .i64 (e : Int))).cell? ⟨w.heap.size + 1, 0, none⟩ = some (.int .u16 0) :=
    (cell1 (((Below.heap_setCell _ _ _ _ (show w.heap.size + 1 ≠ p by omega)).trans (Below.heap_setCell _ _ _ _ (show w.heap.size + 1 ≠ p by omega))).trans (set1_0 b1 _))).1
  simp [Leaves, settle, thrown, results, Try.results67, go_sem, hv]
  exact hg

theorem read_done_uint16 (p : Nat) (a : Option Addr) (cap : Nat) (s : RS) (f : FuncId) (capt : Array Value) (Good : Value → World → World → Prop) (w : World) (h : IsR w p a cap s) (he : s.err = 0) (hcf : ∀ w, (callFunc f capt).run Try.prog w = .ok (.enter f capt) w)
    (hb : ∀ w1, Below w.heap.size w w1 → w1.heap.size = w.heap.size + 3 → Calls Try.prog f capt w1 (fun x w2 => ∃ v, x = .returned v ∧ Good v w1 w2 ∧ Chg (fun k => k = p) w1 w2 ∧ ∃ n, v = .int .u16 n)) :
    Calls Try.prog 67 #[.pointer (some ⟨p, 0, none⟩), .func (.func f) #[] capt] w (Read Good w) := by
  have hmf : ∀ (fn : Fn) (first cap : Array Value) (w : World), (Instr.makeFunc fn first cap).run Try.prog w = .ok (.func fn first cap) w := fun _ _ _ _ => rfl
  obtain ⟨⟨T, h3⟩, _⟩ := h
  have hlt := rlt_of_heap h3
  obtain ⟨c0, c1, f⟩ := cells2 h3
  rw [he] at c1
  clear h3 f
  have Hb := Lib.hid hb
  clear hb
  go_enter_defers Try.func67, Try.ntmps67
  go_wp2_with fail
  refine (Hb.out (begun w p (.int .u16 0) (.slice a s.rest.length cap) _ _ _) (begun_below w p _ _ _ _ _) (begun_size _ _ _ _ _ _ _)).mono ?_
  rintro x w2 ⟨v, rfl, hG, hc, n, rfl⟩
  have HG := Lib.hid hG
  obtain ⟨b0, b1, b2⟩ := begun_at hlt hc
  have q1 := cell1 b1
  have q10 := q1.1
  have q11 := q1.2
  clear hG b0 b2 q1
  go_wp2_with fail
  have b3 := set1_0 b1 (.int .u16 n)
  have hv := (cell1 b3).1
  refine leaves_cons (f := 85) (args := #[.pointer (some ⟨w.heap.size + 2, 0, none⟩), .pointer (some ⟨w.heap.size + 1, 0, none⟩), .pointer (some ⟨w.heap.size, 0, none⟩)]) (by simp) (by simp [go_sem]) ?_
  refine (idle_uint16 _ _ _ _).mono ?_
  rintro x u w' ⟨rfl, rfl, rfl⟩
  simp [Leaves, settle, results, Try.results67, go_sem, hv]
  exact ⟨_, _, _, rfl, begun_below w p _ _ _ _ _, (begun_size _ _ _ _ _ _ _).symm, HG.out, Chg.set w2 ⟨w.heap.size + 1, 0, none⟩ _⟩

theorem read_stop_uint32 (p : Nat) (a : Option Addr) (cap : Nat) (s : RS) (d : Value) (w : World) (h : IsR w p a cap s) (he : s.err ≠ 0) :
    Calls Try.prog 56 #[.pointer (some ⟨p, 0, none⟩), d] w fun r w' => r = .returned (.int .u32 0) ∧ Below w.heap.size w w' := by
  have hmf : ∀ (fn : Fn) (first cap : Array Value) (w : World), (Instr.makeFunc fn first cap).run Try.prog w = .ok (.func fn first cap) w := fun _ _ _ _ => rfl
  obtain ⟨⟨T, h3⟩, _⟩ := h
  have hlt := rlt_of_heap h3
  obtain ⟨c0, c1, f⟩ := cells2 h3
  have hd := drop_dec he
  clear h3 f
  go_enter_defers Try.func56, Try.ntmps56
  go_wp2_with fail
  simp [bodyPostD, Leaves, results, Try.results56, go_sem]
  exact ((Below.refl _ _).alloc (Nat.le_refl _) _).alloc (by simp) _

theorem read_gave_uint32 (p : Nat) (a : Option Addr) (cap : Nat) (s : RS) (f : FuncId) (capt : Array Value) (e : Nat) (w : World) (h : IsR w p a cap s) (he : s.err = 0) (he2 : e ≤ 1000) (hcf : ∀ w, (callFunc f capt).run Try.prog w = .ok (.enter f capt) w)
    (hb : ∀ w1, Below w.heap.size w w1 → Calls Try.prog f capt w1 (Threw p e w1)) :
    Calls Try.prog 56 #[.pointer (some ⟨p, 0, none⟩), .func (.func f) #[] capt] w (Gave p a cap s e (.int .u32 0) w) := by
  have hmf : ∀ (fn : Fn) (first cap : Array Value) (w : World), (Instr.makeFunc fn first cap).run Try.prog w = .ok (.func fn first cap) w := fun _ _ _ _ => rfl
  have H := Lib.hid h
  obtain ⟨⟨T, h3⟩, _⟩ := h
  have hlt := rlt_of_heap h3
  obtain ⟨c0, c1, f⟩ := cells2 h3
  rw [he] at c1
  clear h3 f
  have Hb := Lib.hid hb
  clear hb
  go_enter_defers Try.func56, Try.ntmps56
  go_wp2_with fail
  refine (Hb.out (begun w p (.int .u32 0) (.slice a s.rest.length cap) _ _ _) (begun_below w p _ _ _ _ _)).mono ?_
  rintro x w2 ⟨rfl, hc, a', cap', s', ⟨T2, h2⟩, -⟩
  obtain ⟨b0, b1, b2⟩ := begun_at hlt hc
  have q0 := cell1 b0
  have q1 := cell1 b1
  have q2 := cell1 b2
  refine leaves_cons (f := 81) (args := #[.pointer (some ⟨w.heap.size + 2, 0, none⟩), .pointer (some ⟨w.heap.size + 1, 0, none⟩), .pointer (some ⟨w.heap.size, 0, none⟩)]) (by simp) (by simp [go_sem]) ?_
  refine (catch_uint32 _ _ _ p e _ _ _ a _ cap T2 w2 q2.1 q1.1 q1.2 q0.1 h2 (by omega)).mono ?_
  rintro x u w' ⟨rfl, rfl, rfl⟩
  have hg := gave_close (z := .int .u32 0) H.out he2 (begun_below w p _ _ _ _ _) hc h2
  have hv : (((w2.setCell ⟨w.heap.size + 1, 0, none⟩ (.int .u32 0)).setCell ⟨p, 0, none⟩ (.slice a s.rest.length cap)).setCell ⟨p, 1, none⟩ (.int .i64 (e : Int))).cell? ⟨w.heap.size + 1, 0, none⟩ = some (.int .u32 0) :=
    (cell1 (((Below.heap_setCell _ _ _ _ (show w.heap.size + 1 ≠ p by omega)).trans (Below.heap_setCell _ _ _ _ (show w.heap.size + 1 ≠ p by omega))).trans (set1_0 b1 _))).1
  simp [Leaves, settle, thrown, results, Try.results56, go_sem, hv]
  exact hg

theorem read_done_uint32 (p : Nat) (a : Option Addr) (cap : Nat) (s : RS) (f : FuncId) (capt : Array Value) (Good : Value → World → World → Prop) (w : World) (h : IsR w p a cap s) (he : s.err = 0) (hcf : ∀ w, (callFunc f capt).run Try.prog w = .ok (.enter f capt) w)
    (hb : ∀ w1, Below w.heap.size w w1 → w1.heap.size = w.heap.size + 3 → Calls Try.prog f capt w1 (fun x w2 => ∃ v, x = .returned v ∧ Good v w1 w2 ∧ Chg (fun k => k = p) w1 w2 ∧ ∃ n, v = .int .u32 n)) :
    Calls Try.prog 56 #[.pointer (some ⟨p, 0, none⟩), .func (.func f) #[] capt] w (Read Good w) := by
  have hmf : ∀ (fn : Fn) (first cap : Array Value) (w : World), (Instr.makeFunc fn first cap).run Try.prog w = .ok (.func fn first cap) w := fun _ _ _ _ => rfl
  obtain ⟨⟨T, h3⟩, _⟩ := h
  have hlt := rlt_of_heap h3
  obtain ⟨c0, c1, f⟩ := cells2 h3
  rw [he] at c1
  clear h3 f
  have Hb := Lib.hid hb
  clear hb
  go_enter_defers Try.func56, Try.ntmps56
  go_wp2_with fail
  refine (Hb.out (begun w p (.int .u32 0) (.slice a s.rest.length cap) _ _ _) (begun_below w p _ _ _ _ _) (begun_size _ _ _ _ _ _ _)).mono ?_
  rintro x w2 ⟨v, rfl, hG, hc, n, rfl⟩
  have HG := Lib.hid hG
  obtain ⟨b0, b1, b2⟩ := begun_at hlt hc
  have q1 := cell1 b1
  have q10 := q1.1
  have q11 := q1.2
  clear hG b0 b2 q1
  go_wp2_with fail
  have b3 := set1_0 b1 (.int .u32 n)
  have hv := (cell1 b3).1
  refine leaves_cons (f := 81) (args := #[.pointer (some ⟨w.heap.size + 2, 0, none⟩), .pointer (some ⟨w.heap.size + 1, 0, none⟩), .pointer (some ⟨w.heap.size, 0, none⟩)]) (by simp) (by simp [go_sem]) ?_
  refine (idle_uint32 _ _ _ _).mono ?_
  rintro x u w' ⟨rfl, rfl, rfl⟩
  simp [Leaves, settle, results, Try.results56, go_sem, hv]
  exact ⟨_, _, _, rfl, begun_below w p _ _ _ _ _, (begun_size _ _ _ _ _ _ _).symm, HG.out, Chg.set w2 ⟨w.heap.size + 1, 0, none⟩ _⟩

theorem read_stop_uint64 (p : Nat) (a : Option Addr) (cap : Nat) (s : RS) (d : Value) (w : World) (h : IsR w p a cap s) (he : s.err ≠ 0) :
    Calls Try.prog 64 #[.pointer (some ⟨p, 0, none⟩), d] w fun r w' => r = .returned (.int .u64 0) ∧ Below w.heap.size w w' := by
  have hmf : ∀ (fn : Fn) (first cap : Array Value) (w : World), (Instr.makeFunc fn first cap).run Try.prog w = .ok (.func fn first cap) w := fun _ _ _ _ => rfl
  obtain ⟨⟨T, h3⟩, _⟩ := h
  have hlt := rlt_of_heap h3
  obtain ⟨c0, c1, f⟩ := cells2 h3
  have hd := drop_dec he
  clear h3 f
  go_enter_defers Try.func64, Try.ntmps64
  go_wp2_with fail
  simp [bodyPostD, Leaves, results, Try.results64, go_sem]
  exact ((Below.refl _ _).alloc (Nat.le_refl _) _).alloc (by simp) _

theorem read_gave_uint64 (p : Nat) (a : Option Addr) (cap : Nat) (s : RS) (f : FuncId) (capt : Array Value) (e : Nat) (w : World) (h : IsR w p a cap s) (he : s.err = 0) (he2 : e ≤ 1000) (hcf : ∀ w, (callFunc f capt).run Try.prog w = .ok (.enter f capt) w)
    (hb : ∀ w1, Below w.heap.size w w1 → Calls Try.prog f capt w1 (Threw p e w1)) :
    Calls Try.prog 64 #[.pointer (some ⟨p, 0, none⟩), .func (.func f) #[] capt] w (Gave p a cap s e (.int .u64 0) w) := by
  have hmf : ∀ (fn : Fn) (first cap : Array Value) (w : World), (Instr.makeFunc fn first cap).run Try.prog w = .ok (.func fn first cap) w := fun _ _ _ _ => rfl
  have H := Lib.hid h
  obtain ⟨⟨T, h3⟩, _⟩ := h
  have hlt := rlt_of_heap h3
  obtain ⟨c0, c1, f⟩ := cells2 h3
  rw [he] at c1
  clear h3 f
  have Hb := Lib.hid hb
  clear hb
  go_enter_defers Try.func64, Try.ntmps64
  go_wp2_with fail
  refine (Hb.out (begun w p (.int .u64 0) (.slice a s.rest.length cap) _ _ _) (begun_below w p _ _ _ _ _)).mono ?_
  rintro x w2 ⟨rfl, hc, a', cap', s', ⟨T2, h2⟩, -⟩
  obtain ⟨b0, b1, b2⟩ := begun_at hlt hc
  have q0 := cell1 b0
  have q1 := cell1 b1
  have q2 := cell1 b2
  refine leaves_cons (f := 84) (args := #[.pointer (some ⟨w.heap.size + 2, 0, none⟩), .pointer (some ⟨w.heap.size + 1, 0, none⟩), .pointer (some ⟨w.heap.size, 0, none⟩)]) (by simp) (by simp [go_sem]) ?_
  refine (catch_uint64 _ _ _ p e _ _ _ a _ cap T2 w2 q2.1 q1.1 q1.2 q0.1 h2 (by omega)).mono ?_
  rintro x u w' ⟨rfl, rfl, rfl⟩
  have hg := gave_close (z := .int .u64 0) H.out he2 (begun_below w p _ _ _ _ _) hc h2
  have hv : (((w2.setCell ⟨w.heap.size + 1, 0, none⟩ (.int .u64 0)).setCell ⟨p, 0, none⟩ (.slice a s.rest.length cap)).setCell ⟨p, 1, none⟩ (.int .i64 (e : Int))).cell? ⟨w.heap.size + 1, 0, none⟩ = some (.int .u64 0) :=
    (cell1 (((Below.heap_setCell _ _ _ _ (show w.heap.size + 1 ≠ p by omega)).trans (Below.heap_setCell _ _ _ _ (show w.heap.size + 1 ≠ p by omega))).trans (set1_0 b1 _))).1
  simp [Leaves, settle, thrown, results, Try.results64, go_sem, hv]
  exact hg

theorem read_done_uint64 (p : Nat) (a : Option Addr) (cap : Nat) (s : RS) (f : FuncId) (capt : Array Value) (Good : Value → World → World → Prop) (w : World) (h : IsR w p a cap s) (he : s.err = 0) (hcf : ∀ w, (callFunc f capt).run Try.prog w = .ok (.enter f capt) w)
    (hb : ∀ w1, Below w.heap.size w w1 → w1.heap.size = w.heap.size + 3 → Calls Try.prog f capt w1 (fun x w2 => ∃ v, x = .returned v ∧ Good v w1 w2 ∧ Chg (fun k => k = p) w1 w2 ∧ ∃ n, v = .int .u64 n)) :
    Calls Try.prog 64 #[.pointer (some ⟨p, 0, none⟩), .func (.func f) #[] capt] w (Read Good w) := by
  have hmf : ∀ (fn : Fn) (first cap : Array Value) (w : World), (Instr.makeFunc fn first cap).run Try.prog w = .ok (.func fn first cap) w := fun _ _ _ _ => rfl
  obtain ⟨⟨T, h3⟩, _⟩ := h
  have hlt := rlt_of_heap h3
  obtain ⟨c0, c1, f⟩ := cells2 h3
  rw [he] at c1
  clear h3 f
  have Hb := Lib.hid hb
  clear hb
  go_enter_defers Try.func64, Try.ntmps64
  go_wp2_with fail
  refine (Hb.out (begun w p (.int .u64 0) (.slice a s.rest.length cap) _ _ _) (begun_below w p _ _ _ _ _) (begun_size _ _ _ _ _ _ _)).mono ?_
  rintro x w2 ⟨v, rfl, hG, hc, n, rfl⟩
  have HG := Lib.hid hG
  obtain ⟨b0, b1, b2⟩ := begun_at hlt hc
  have q1 := cell1 b1
  have q10 := q1.1
  have q11 := q1.2
  clear hG b0 b2 q1
  go_wp2_with fail
  have b3 := set1_0 b1 (.int .u64 n)
  have hv := (cell1 b3).1
  refine leaves_cons (f := 84) (args := #[.pointer (some ⟨w.heap.size + 2, 0, none⟩), .pointer (some ⟨w.heap.size + 1, 0, none⟩), .pointer (some ⟨w.heap.size, 0, none⟩)]) (by simp) (by simp [go_sem]) ?_
  refine (idle_uint64 _ _ _ _).mono ?_
  rintro x u w' ⟨rfl, rfl, rfl⟩
  simp [Leaves, settle, results, Try.results64, go_sem, hv]
  exact ⟨_, _, _, rfl, begun_below w p _ _ _ _ _, (begun_size _ _ _ _ _ _ _).symm, HG.out, Chg.set w2 ⟨w.heap.size + 1, 0, none⟩ _⟩

end Go.Proofs.Ytpjdknmgegbgnaa
