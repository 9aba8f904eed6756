/- What is right in a page: in plain Lean; the document's parts, and the program's form. -/
import Derived.Test.YtkjgncmbhkhbnaaPg
import Derived.Test.YtkjgncmbhkhbnaaCmp
namespace Go.Proofs.Ytkjgncmbhkhbnaa
open Go.RowKit
set_option linter.unusedVariables false

def isPg (n : Int) : Bool := decide (1 ≤ n) && decide (n ≤ 65536)
/-- are the parts of a page as its kind has them? (n items, m bytes of data) -/
def okForm (kind level : Int) (n m : Nat) (next : Int) : Bool :=
  if kind = 3 then level == 0 && n == 0 && decide (1 ≤ m) && decide (m ≤ 480)
  else if 0 < m ∨ next ≠ 0 ∨ 8 < n then false
  else if kind = 1 then level == 0 && decide (1 ≤ n)
  else decide (1 ≤ level) && decide (level ≤ 11) && decide (2 ≤ n)
/-- is the key of an item right? -/
def okKey (kind : Int) (i : Nat) (x : PI) : Bool := if kind = 2 ∧ i = 0 then x.key.length == 0 else decide (1 ≤ x.key.length) && decide (x.key.length ≤ 24)
/-- is the value of an item right? -/
def okValue (kind : Int) (x : PI) : Bool :=
  if kind = 2 then x.value.length == 0 && x.size == 0
  else if x.size < 0 || decide (3840 < x.size) then false
  else if x.size ≤ 32 then (x.value.length : Int) == x.size else x.value.length == 0
/-- is the child of an item right? -/
def okChild (kind : Int) (x : PI) : Bool := if kind = 1 ∧ x.size ≤ 32 then x.child == 0 else isPg x.child
/-- the first thing that is wrong with an item -/
def itemErr (kind : Int) (i : Nat) (above : List UInt8) (x : PI) : Int :=
  if okKey kind i x = false then 7
  else if 0 < i ∧ Lib.compareBytes x.key above ≤ 0 then 11
  else if okValue kind x = false then 8
  else if okChild kind x = false then 15
  else 0
/-- the key of the item ahead -/
def aboveAt (xs : List PI) (i : Nat) : List UInt8 := match xs[i - 1]? with | some y => y.key | none => []
def itErr (kind : Int) (xs : List PI) (i : Nat) : Int := match xs[i]? with | some x => itemErr kind i (aboveAt xs i) x | none => 0
/-- the first that is not 0 -/
def firstBad (f : Nat → Int) : Nat → Int
  | 0 => 0
  | n + 1 => if firstBad f n = 0 then f n else firstBad f n
theorem firstBad_zero {f : Nat → Int} : ∀ {n : Nat}, (∀ i, i < n → f i = 0) → firstBad f n = 0
  | 0, _ => rfl
  | n + 1, h => by
    have h1 := firstBad_zero (f := f) (n := n) fun i hi => h i (by omega)
    simp only [firstBad, h1, if_true]; exact h n (by omega)
theorem firstBad_stop {f : Nat → Int} {j : Nat} (hj : f j ≠ 0) (h : firstBad f j = 0) : ∀ n, j < n → firstBad f n = f j
  | 0, hn => by omega
  | n + 1, hn => by
    by_cases e : n = j
    · subst e; simp only [firstBad, h, if_true]
    · have h1 := firstBad_stop hj h n (by omega)
      simp only [firstBad, h1, if_neg hj]
theorem firstBad_snoc {f : Nat → Int} {j : Nat} (hj : f j = 0) (h : firstBad f j = 0) : firstBad f (j + 1) = 0 := by simp only [firstBad, h, if_true]; exact hj

/-- the first thing that is wrong with a page -/
def pcheck (p : PP) : Int :=
  if p.kind < 1 ∨ 3 < p.kind then 22
  else if okForm p.kind p.level p.items.length p.data.length p.next = false then 5
  else if firstBad (itErr p.kind p.items) p.items.length ≠ 0 then firstBad (itErr p.kind p.items) p.items.length
  else if p.kind = 3 ∧ p.next ≠ 0 ∧ isPg p.next = false then 15
  else 0

theorem two_below (w : World) (o1 o2 : Obj) : Below w.heap.size w ((w.alloc o1).alloc o2) := ((Below.refl _ _).alloc (Nat.le_refl _) _).alloc ((Below.refl _ _).alloc (Nat.le_refl _) _).size _
theorem one_below (w : World) (o1 : Obj) : Below w.heap.size w (w.alloc o1) := (Below.refl _ _).alloc (Nat.le_refl _) _

theorem dIsPage_any (n : Int) (w : World) : Calls Try.prog 48 #[.int .i64 n] w fun e w' => e = .returned (.bool (isPg n)) ∧ w' = w := by
  go_enter Try.func48, Try.ntmps48
  go_wp2_with fail
  all_goals
    go_ret
    refine ⟨ret_bool ?_, rfl⟩
    grind [isPg]
theorem pIsPage_any (n : Int) (w : World) : Calls Try.prog 42 #[.int .i64 n] w fun e w' => e = .returned (.bool (isPg n)) ∧ w' = w := by
  go_enter Try.func42, Try.ntmps42
  go_wp2_with fail
  all_goals
    go_ret
    refine ⟨ret_bool ?_, rfl⟩
    grind [isPg]

set_option maxHeartbeats 400000 in
theorem dForm_any (p : PP) (ia : Option Addr) (ic : Nat) (da : Option Addr) (dc : Nat) (w : World) :
    Calls Try.prog 43 #[pgv p ia ic da dc] w fun e w' => e = .returned (.bool (okForm p.kind p.level p.items.length p.data.length p.next)) ∧ Below w.heap.size w w' := by
  obtain ⟨kind, level, items, data, next⟩ := p
  simp only [pgv]
  generalize items.length = n
  generalize data.length = m
  have HB := Lib.hid (one_below w)
  go_enter Try.func43, Try.ntmps43
  go_wp2_with fail
  all_goals
    go_ret
    refine ⟨ret_bool ?_, HB.out _⟩
    clear HB
    simp only [okForm]
    grind

set_option maxHeartbeats 400000 in
theorem dValue_any (p : PP) (ia : Option Addr) (ic : Nat) (da : Option Addr) (dc : Nat) (x : PI) (ka : Option Addr) (kc : Nat) (va : Option Addr) (vc : Nat) (w : World) :
    Calls Try.prog 46 #[pgv p ia ic da dc, .agg (itc x ka kc va vc)] w fun e w' => e = .returned (.bool (okValue p.kind x)) ∧ Below w.heap.size w w' := by
  obtain ⟨kind, level, items, data, next⟩ := p
  obtain ⟨key, value, child, size⟩ := x
  simp only [pgv, itc, okValue]
  generalize value.length = n
  have HB := Lib.hid (two_below w)
  go_enter Try.func46, Try.ntmps46
  go_wp2_with fail
  all_goals
    go_ret
    refine ⟨ret_bool ?_, HB.out _ _⟩
    clear HB
    grind

set_option maxHeartbeats 400000 in
theorem dChild_any (p : PP) (ia : Option Addr) (ic : Nat) (da : Option Addr) (dc : Nat) (x : PI) (ka : Option Addr) (kc : Nat) (va : Option Addr) (vc : Nat) (w : World) :
    Calls Try.prog 47 #[pgv p ia ic da dc, .agg (itc x ka kc va vc)] w fun e w' => e = .returned (.bool (okChild p.kind x)) ∧ Below w.heap.size w w' := by
  obtain ⟨kind, level, items, data, next⟩ := p
  obtain ⟨key, value, child, size⟩ := x
  simp only [pgv, itc, okChild]
  have HB := Lib.hid (two_below w)
  go_enter Try.func47, Try.ntmps47
  go_wp2_with (go_at_call 48; refine (dIsPage_any _ _).mono ?_; rintro _ _ ⟨rfl, rfl⟩)
  all_goals
    go_ret
    refine ⟨ret_bool ?_, HB.out _ _⟩
    clear HB
    grind

set_option maxHeartbeats 400000 in
theorem dKey_any (p : PP) (ia : Option Addr) (ic : Nat) (da : Option Addr) (dc : Nat) (w : World) {B : Nat} (hB : B ≤ w.heap.size) (hp : PgAt B w p ia ic da dc) (i : Nat) (x : PI) (hx : p.items[i]? = some x) :
    Calls Try.prog 44 #[pgv p ia ic da dc, .int .i64 i] w fun e w' => e = .returned (.bool (okKey p.kind i x)) ∧ Below w.heap.size w w' := by
  obtain ⟨b, off, ka, kc, va, vc, rfl, hb, hi⟩ := hp.its.at hx
  have hl := (List.getElem?_eq_some_iff.1 hx).1
  have hn := hp.len
  have c0 : ∀ o, (w.alloc o).cell? ⟨b, off + i * 4, none⟩ = some (.slice ka x.key.length kc) := fun o => ((one_below w o).cell (p := ⟨b, off + i * 4, none⟩) (by show b < _; omega)).trans hi.c0
  obtain ⟨kind, level, items, data, next⟩ := p
  simp only [pgv, okKey] at *
  have HB := Lib.hid (one_below w)
  generalize items.length = n at *
  generalize hk : x.key.length = m at *
  clear hk hp hi hx
  go_enter Try.func44, Try.ntmps44
  have c1 := c0 (.cells #[.int .i64 kind, .int .i64 level, .slice (some ⟨b, off, none⟩) n ic, .slice da data.length dc, .int .i64 next] 27)
  clear c0
  go_wp2_with fail
  all_goals
    go_ret
    refine ⟨ret_bool ?_, HB.out _⟩
    clear HB c1
    grind

/-- what the program's form answers -/
def Formed (kind level : Int) (n m : Nat) (next : Int) (w : World) (e : Ending) (w' : World) : Prop := (∃ b : Bool, e = .returned (.bool b) ∧ (1 ≤ kind → kind ≤ 3 → b = okForm kind level n m next)) ∧ Below w.heap.size w w'
set_option maxHeartbeats 800000 in
/-- the program's form: of the three kinds the same -/
theorem pForm_any (p : PP) (ia : Option Addr) (ic : Nat) (da : Option Addr) (dc : Nat) (w : World) :
    Calls Try.prog 40 #[pgv p ia ic da dc] w (Formed p.kind p.level p.items.length p.data.length p.next w) := by
  obtain ⟨kind, level, items, data, next⟩ := p
  simp only [pgv]
  generalize items.length = n
  generalize data.length = m
  have HB := Lib.hid (one_below w)
  by_cases hm : (m : Int) = 0
  · obtain rfl : m = 0 := by omega
    clear hm
    by_cases hnx : next = 0
    · subst hnx
      go_enter Try.func40, Try.ntmps40
      go_wp2_with fail
      go_quiet (fail)
      go_wp2_with fail
      all_goals
        go_ret
        refine ⟨⟨_, rfl, fun h1 h2 => ?_⟩, below_drewN (HB.out _) _⟩
        clear HB
        simp only [okForm]
        grind
    · have hd : decide (next = 0) = false := by simpa using hnx
      have hd2 : (next == 0) = false := by simpa using hnx
      go_enter Try.func40, Try.ntmps40
      go_wp2_with fail
      go_quiet (fail)
      go_wp2_with fail
      all_goals
        go_ret
        refine ⟨⟨_, rfl, fun h1 h2 => ?_⟩, below_drewN (HB.out _) _⟩
        clear HB
        simp only [okForm]
        grind
  · have hd : decide ((m : Int) = 0) = false := by simpa using hm
    have hd2 : ((m : Int) == 0) = false := by simpa using hm
    go_enter Try.func40, Try.ntmps40
    go_wp2_with fail
    go_quiet (fail)
    go_wp2_with fail
    all_goals
      go_ret
      refine ⟨⟨_, rfl, fun h1 h2 => ?_⟩, below_drewN (HB.out _) _⟩
      clear HB
      simp only [okForm]
      grind
end Go.Proofs.Ytkjgncmbhkhbnaa
