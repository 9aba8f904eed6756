/- The program's Check. -/
import Derived.Test.YtkjgncmbhkhbnaaChk
namespace Go.Proofs.Ytkjgncmbhkhbnaa
open Go.RowKit
set_option linter.unusedVariables false

/-- the first error stays -/
def latch (r : Int) (b : Bool) (e : Int) : Int := if b = false ∧ r = 0 then e else r
/-- the variable in which the first error lies -/
def First (w : World) (f : Nat) (r : Int) : Prop := w.heap[f]? = some (.cells #[.int .i64 r] 34)
theorem First.cell {w : World} {f : Nat} {r : Int} (h : First w f r) : w.cell? ⟨f, 0, none⟩ = some (.int .i64 r) := by unfold First at h; simp [World.cell?, h]
theorem First.frozen {w : World} {f : Nat} {r : Int} (h : First w f r) : w.frozen? ⟨f, 0, none⟩ = false := by unfold First at h; simp [World.frozen?, h]
theorem First.set {w : World} {f : Nat} {r : Int} (h : First w f r) (e : Int) : First (w.setCell ⟨f, 0, none⟩ (.int .i64 e)) f e := by
  unfold First at *
  rw [setCell_eq_setRow w f 0 _ 34 (0, 0) _ h, setRow_heap w f _ _ 34 (0, 0) h]; rfl
theorem rlt_of_heapP {w : World} {p : Nat} {o : Obj} (h : w.heap[p]? = some o) : p < w.heap.size := by
  rcases Nat.lt_or_ge p w.heap.size with h1 | h1
  · exact h1
  · rw [Array.getElem?_eq_none h1] at h; cases h
/-- what must leaves -/
def Musted (f : Nat) (r : Int) (b : Bool) (e : Int) (w : World) (x : Ending) (w' : World) : Prop :=
  x = .returned (.tuple #[]) ∧ First w' f (latch r b e) ∧ Chg (fun k => k = f) w w' ∧ w'.heap.size = w.heap.size
theorem meas_next {n j : Nat} (h : j < n) (hw : wrap64 ((j : Int) + 1) = (j : Int) + 1) : n - (intOf (.int .i64 (wrap64 ((j : Int) + 1)))).toNat < n - (intOf (.int .i64 (j : Int))).toNat := by
  rw [hw]; simp only [intOf]; omega
theorem meas_one {n : Nat} (h : 0 < n) : n - (intOf (.int .i64 1)).toNat < n - (intOf (.int .i64 0)).toNat := by simp only [intOf]; omega
set_option maxHeartbeats 400000 in
theorem must_any (f : Nat) (r : Int) (b : Bool) (e : Int) (w : World) (h : First w f r) :
    Calls Try.prog 39 #[.bool b, .int .i64 e, .pointer (some ⟨f, 0, none⟩)] w (Musted f r b e w) := by
  have HC := Lib.hid (Chg.set w ⟨f, 0, none⟩ (.int .i64 e))
  have HS := Lib.hid (h.set e)
  have HH := Lib.hid h
  have hc := h.cell
  have hz := h.frozen
  clear h
  cases b
  · by_cases h0 : r = 0
    · subst h0
      go_enter Try.func39, Try.ntmps39
      go_wp2_with fail
      go_end0
      exact ⟨rfl, by rw [show latch 0 false e = e from by simp [latch]]; exact HS.out, HC.out, by simp [World.setCell]⟩
    · have h1 : (r == 0) = false := by simpa using h0
      go_enter Try.func39, Try.ntmps39
      go_wp2_with fail
      go_end0
      exact ⟨rfl, by rw [show latch r false e = r from by simp [latch, h0]]; exact HH.out, Chg.refl _ _, rfl⟩
  · go_enter Try.func39, Try.ntmps39
    go_wp2_with fail
    go_end0
    exact ⟨rfl, by rw [show latch r true e = r from by simp [latch]]; exact HH.out, Chg.refl _ _, rfl⟩

theorem pcheck_end (p : PP) (h1 : 1 ≤ p.kind) (h3 : p.kind ≤ 3) (hf : okForm p.kind p.level p.items.length p.data.length p.next = true) :
    pcheck p = latch (firstBad (itErr p.kind p.items) p.items.length) (p.next == 0 || isPg p.next) 15 := by
  unfold pcheck
  generalize firstBad _ _ = r
  rw [if_neg (by omega), if_neg (by rw [hf]; decide)]
  have hn : p.kind ≠ 3 → p.next = 0 := by
    intro h
    simp only [okForm, if_neg h] at hf
    split at hf
    · cases hf
    · omega
  unfold latch
  grind
/-- while Check runs: the page's box, the first error behind it, and what was there before -/
structure Ck (w0 : World) (p : PP) (ia : Option Addr) (ic : Nat) (da : Option Addr) (dc : Nat) (r : Int) (w : World) : Prop where
  box : w.heap[w0.heap.size]? = some (.cells #[.int .i64 p.kind, .int .i64 p.level, .slice ia p.items.length ic, .slice da p.data.length dc, .int .i64 p.next] 27)
  first : First w (w0.heap.size + 1) r
  bel : Below w0.heap.size w0 w
theorem cells5 {w : World} {p : Nat} {v0 v1 v2 v3 v4 : Value} {T : TypeId} (h : w.heap[p]? = some (.cells #[v0, v1, v2, v3, v4] T)) :
    w.cell? ⟨p, 0, none⟩ = some v0 ∧ w.cell? ⟨p, 1, none⟩ = some v1 ∧ w.cell? ⟨p, 2, none⟩ = some v2 ∧ w.cell? ⟨p, 3, none⟩ = some v3 ∧ w.cell? ⟨p, 4, none⟩ = some v4 := by
  simp [World.cell?, h]
theorem Ck.start (w0 : World) (p : PP) (ia : Option Addr) (ic : Nat) (da : Option Addr) (dc : Nat) : Ck w0 p ia ic da dc 0 ((w0.alloc (.cells #[.int .i64 p.kind, .int .i64 p.level, .slice ia p.items.length ic, .slice da p.data.length dc, .int .i64 p.next] 27)).alloc (.cells #[.int .i64 0] 34)) := by
  refine ⟨?_, ?_, two_below _ _ _⟩
  · rw [(one_below (w0.alloc _) _).block _ (by simp)]; exact heap_alloc_new _ _
  · have h := heap_alloc_new (w0.alloc (.cells #[.int .i64 p.kind, .int .i64 p.level, .slice ia p.items.length ic, .slice da p.data.length dc, .int .i64 p.next] 27)) (.cells #[.int .i64 0] 34)
    rw [show (w0.alloc (.cells #[.int .i64 p.kind, .int .i64 p.level, .slice ia p.items.length ic, .slice da p.data.length dc, .int .i64 p.next] 27)).heap.size = w0.heap.size + 1 by simp] at h
    exact h
theorem Ck.must {w0 : World} {p : PP} {ia : Option Addr} {ic : Nat} {da : Option Addr} {dc : Nat} {r : Int} {w : World} (h : Ck w0 p ia ic da dc r w) {b : Bool} {e : Int} {x : Ending} {w' : World} (hm : Musted (w0.heap.size + 1) r b e w x w') : Ck w0 p ia ic da dc (latch r b e) w' := by
  obtain ⟨_, hf, hc, hs⟩ := hm
  have hsz := rlt_of_heapP h.first
  refine ⟨?_, hf, h.bel.trans (hc.below h.bel.size (fun k hk => by omega))⟩
  rw [hc.block _ (by omega) (by omega)]; exact h.box

theorem Ck.below {w0 : World} {p : PP} {ia : Option Addr} {ic : Nat} {da : Option Addr} {dc : Nat} {r : Int} {w w' : World} (h : Ck w0 p ia ic da dc r w) (hb : Below w.heap.size w w') : Ck w0 p ia ic da dc r w' := by
  have h1 := rlt_of_heapP h.first
  refine ⟨?_, ?_, h.bel.trans (hb.mono h.bel.size)⟩
  · rw [hb.block _ (by omega)]; exact h.box
  · unfold First; rw [hb.block _ (by omega)]; exact h.first
theorem Ck.cast {w0 : World} {p : PP} {ia : Option Addr} {ic : Nat} {da : Option Addr} {dc : Nat} {r r' : Int} {w : World} (h : Ck w0 p ia ic da dc r w) (e : r = r') : Ck w0 p ia ic da dc r' w := e ▸ h
/-- in a round: the item's copy in a block of its own -/
structure CkX (w0 : World) (p : PP) (ia : Option Addr) (ic : Nat) (da : Option Addr) (dc : Nat) (g : Nat) (x : PI) (ka : Option Addr) (kc : Nat) (va : Option Addr) (vc : Nat) (r : Int) (w : World) : Prop where
  ck : Ck w0 p ia ic da dc r w
  row : w.heap[g]? = some (.cells #[.slice ka x.key.length kc, .slice va x.value.length vc, .int .i64 x.child, .int .i64 x.size] 64)
  gl : w0.heap.size + 1 < g
theorem cells4P {w : World} {p : Nat} {v0 v1 v2 v3 : Value} {T : TypeId} (h : w.heap[p]? = some (.cells #[v0, v1, v2, v3] T)) :
    w.cell? ⟨p, 0, none⟩ = some v0 ∧ w.cell? ⟨p, 1, none⟩ = some v1 ∧ w.cell? ⟨p, 2, none⟩ = some v2 ∧ w.cell? ⟨p, 3, none⟩ = some v3 := by
  simp [World.cell?, h]
theorem Ck.item {w0 : World} {p : PP} {ia : Option Addr} {ic : Nat} {da : Option Addr} {dc : Nat} {r : Int} {w : World} (h : Ck w0 p ia ic da dc r w) (x : PI) (ka : Option Addr) (kc : Nat) (va : Option Addr) (vc : Nat) :
    CkX w0 p ia ic da dc w.heap.size x ka kc va vc r (w.alloc (.cells #[.slice ka x.key.length kc, .slice va x.value.length vc, .int .i64 x.child, .int .i64 x.size] 64)) :=
  ⟨h.below (one_below _ _), heap_alloc_new _ _, rlt_of_heapP h.first⟩
theorem CkX.must {w0 : World} {p : PP} {ia : Option Addr} {ic : Nat} {da : Option Addr} {dc : Nat} {g : Nat} {x : PI} {ka : Option Addr} {kc : Nat} {va : Option Addr} {vc : Nat} {r : Int} {w : World} (h : CkX w0 p ia ic da dc g x ka kc va vc r w) {b : Bool} {e : Int} {y : Ending} {w' : World} (hm : Musted (w0.heap.size + 1) r b e w y w') : CkX w0 p ia ic da dc g x ka kc va vc (latch r b e) w' := by
  refine ⟨h.ck.must hm, ?_, h.gl⟩
  have := h.gl
  rw [hm.2.2.1.block _ (rlt_of_heapP h.row) (by omega)]; exact h.row

/-- while Check's loop runs: j items are looked at -/
def RelCk (w0 : World) (p : PP) (ia : Option Addr) (ic : Nat) (da : Option Addr) (dc : Nat) (above i : Value) (wr : World) : Prop :=
  ∃ j : Nat, j ≤ p.items.length ∧ i = .int .i64 j ∧ Ck w0 p ia ic da dc (firstBad (itErr p.kind p.items) j) wr ∧
    ∃ ka kc ks, above = .slice ka (List.length ks) kc ∧ Sl w0.heap.size w0 ka kc ks ∧ (0 < j → ks = aboveAt p.items j)
/-- behind the checks of a key -/
def CutK (w0 : World) (p : PP) (ia : Option Addr) (ic : Nat) (da : Option Addr) (dc : Nat) (g : Nat) (x : PI) (ka : Option Addr) (kc : Nat) (va : Option Addr) (vc : Nat) (j : Nat) (ks : List UInt8) (r : Int) (i : Value) (wx : World) : Prop :=
  i = .int .i64 (j : Int) ∧ ∃ r1, CkX w0 p ia ic da dc g x ka kc va vc r1 wx ∧ r1 = if r = 0 then (if okKey p.kind j x = false then 7 else if 0 < j ∧ Lib.compareBytes x.key ks ≤ 0 then 11 else 0) else r
/-- what Check answers -/
def Checked (p : PP) (w : World) (x : Ending) (w' : World) : Prop := x = .returned (.int .i64 (pcheck p)) ∧ Below w.heap.size w w'
theorem firstBad_next (kind : Int) (xs : List PI) (j : Nat) (x : PI) (ks : List UInt8) (hx : xs[j]? = some x) (hk : 0 < j → ks = aboveAt xs j) :
    firstBad (itErr kind xs) (j + 1) = if firstBad (itErr kind xs) j = 0 then itemErr kind j ks x else firstBad (itErr kind xs) j := by
  have e : itErr kind xs j = itemErr kind j ks x := by
    unfold itErr; rw [hx]
    by_cases h : 0 < j
    · rw [hk h]
    · obtain rfl : j = 0 := by omega
      simp [itemErr]
  simp only [firstBad, e]

set_option maxHeartbeats 4000000 in
set_option maxRecDepth 20000 in
theorem pCheck_kind (p : PP) (ia : Option Addr) (ic : Nat) (da : Option Addr) (dc : Nat) (w : World) (hp : PgAt w.heap.size w p ia ic da dc) (hk : p.kind < 1 ∨ 3 < p.kind) :
    Calls Try.prog 26 #[pgv p ia ic da dc] w (Checked p w) := by
  have hmf : ∀ (fn : Fn) (first cap : Array Value) (w : World), (Instr.makeFunc fn first cap).run Try.prog w = .ok (.func fn first cap) w := fun _ _ _ _ => rfl
  have HP := Lib.hid hp
  have HCk := Lib.hid (Ck.start w p ia ic da dc)
  have HF := Lib.hid fun w => pForm_any p ia ic da dc w
  obtain ⟨kind, level, items, data, next⟩ := p
  simp only [pgv] at *
  obtain ⟨n, hn⟩ : ∃ n, items.length = n := ⟨_, rfl⟩
  obtain ⟨m, hm⟩ : ∃ m, data.length = m := ⟨_, rfl⟩
  rw [hn, hm] at HCk HF ⊢
  have HN := Lib.hid hn
  have HM := Lib.hid hm
  clear hp hn hm
  have HR := Lib.hid (show pcheck ⟨kind, level, items, data, next⟩ = 22 by unfold pcheck; rw [if_pos hk])
  rcases hk with hk | hk
  all_goals
    go_enter Try.func26, Try.ntmps26
    go_wp2_with fail
    have hS := HCk.out
    refine (must_any _ _ _ _ _ hS.first).mono ?_
    rintro _ u hmu
    obtain rfl := hmu.1
    replace hS : Ck w ⟨kind, level, items, data, next⟩ ia ic da dc 22 u := (hS.must hmu).cast (by grind [latch])
    clear hmu
    obtain ⟨c0, c1, c2, c3, c4⟩ := cells5 hS.box
    go_wp2_with fail
    rw [HN.out, HM.out]
    refine (HF.out _).mono ?_
    rintro _ u2 ⟨⟨bf, rfl, -⟩, hB2⟩
    replace hS := hS.below hB2
    clear c0 c1 c2 c3 c4 hB2
    go_wp2_with fail
    refine (must_any _ _ _ _ _ hS.first).mono ?_
    rintro _ u3 hmu
    obtain rfl := hmu.1
    replace hS := (hS.must hmu).cast (show latch 22 bf 5 = 22 by simp [latch])
    clear hmu
    have cf := hS.first.cell
    go_wp2_with fail
    go_ret
    exact ⟨ret_i64 HR.out.symm, hS.bel⟩

set_option maxHeartbeats 4000000 in
set_option maxRecDepth 20000 in
theorem pCheck_form (p : PP) (ia : Option Addr) (ic : Nat) (da : Option Addr) (dc : Nat) (w : World) (hp : PgAt w.heap.size w p ia ic da dc) (hk : ¬ (p.kind < 1 ∨ 3 < p.kind)) (hf : okForm p.kind p.level p.items.length p.data.length p.next = false) :
    Calls Try.prog 26 #[pgv p ia ic da dc] w (Checked p w) := by
  have hmf : ∀ (fn : Fn) (first cap : Array Value) (w : World), (Instr.makeFunc fn first cap).run Try.prog w = .ok (.func fn first cap) w := fun _ _ _ _ => rfl
  have HP := Lib.hid hp
  have HCk := Lib.hid (Ck.start w p ia ic da dc)
  have HF := Lib.hid fun w => pForm_any p ia ic da dc w
  obtain ⟨kind, level, items, data, next⟩ := p
  simp only [pgv] at *
  obtain ⟨n, hn⟩ : ∃ n, items.length = n := ⟨_, rfl⟩
  obtain ⟨m, hm⟩ : ∃ m, data.length = m := ⟨_, rfl⟩
  rw [hn, hm] at HCk HF ⊢
  have HN := Lib.hid hn
  have HM := Lib.hid hm
  rw [hn, hm] at hf
  clear hp hn hm
  have hk1 : 1 ≤ kind := by omega
  have hk3 : kind ≤ 3 := by omega
  have HK := Lib.hid hk
  clear hk
  have hFo := HF.out
  clear HF
  have HR := Lib.hid (show pcheck ⟨kind, level, items, data, next⟩ = 5 by
    unfold pcheck; rw [if_neg HK.out]
    show (if okForm kind level items.length data.length next = false then (5 : Int) else _) = 5
    rw [HN.out, HM.out, if_pos hf])
  have HF := Lib.hid hFo
  have Hf := Lib.hid hf
  clear hf hFo
  go_enter Try.func26, Try.ntmps26
  go_wp2_with fail
  have hS := HCk.out
  refine (must_any _ _ _ _ _ hS.first).mono ?_
  rintro _ u hmu
  obtain rfl := hmu.1
  replace hS : Ck w ⟨kind, level, items, data, next⟩ ia ic da dc 0 u := (hS.must hmu).cast (by grind [latch])
  clear hmu
  obtain ⟨c0, c1, c2, c3, c4⟩ := cells5 hS.box
  go_wp2_with fail
  rw [HN.out, HM.out]
  refine (HF.out _).mono ?_
  rintro _ u2 ⟨⟨bf, rfl, hbf⟩, hB2⟩
  obtain rfl : bf = false := by rw [hbf hk1 hk3]; exact Hf.out
  replace hS := hS.below hB2
  clear c0 c1 c2 c3 c4 hB2 hbf
  go_wp2_with fail
  refine (must_any _ _ _ _ _ hS.first).mono ?_
  rintro _ u3 hmu
  obtain rfl := hmu.1
  replace hS := (hS.must hmu).cast (show latch 0 false 5 = 5 by simp [latch])
  clear hmu
  have cf := hS.first.cell
  go_wp2_with fail
  go_ret
  exact ⟨ret_i64 HR.out.symm, hS.bel⟩

/-! what the checks of an item leave -/
section
variable {j : Nat} {key value ks : List UInt8} {child size r c : Int} {b1 b2 b3 b4 b5 : Bool}
theorem key_a {k : Int} (hk : k = 1 ∨ ¬ j = 0) (h : (1 : Int) ≤ (key.length : Int)) : decide ((key.length : Int) ≤ 24) = okKey k j ⟨key, value, child, size⟩ := by grind [okKey]
theorem key_b {k : Int} (hk : k = 1 ∨ ¬ j = 0) (h : ¬ (1 : Int) ≤ (key.length : Int)) : false = okKey k j ⟨key, value, child, size⟩ := by grind [okKey]
theorem key_c : ((key.length : Int) == 0) = okKey 2 0 ⟨key, value, child, size⟩ := by grind [okKey]
theorem cmp_a : true = !decide (0 < 0 ∧ Lib.compareBytes key ks ≤ 0) := by simp
theorem cmp_b (h : ¬ j = 0) (e : Lib.compareBytes key ks = c) : decide (0 < c) = !decide (0 < j ∧ Lib.compareBytes key ks ≤ 0) := by rw [e]; grind
theorem val_a (h : 0 ≤ size) (h2 : size ≤ 32) : (decide (size ≤ 3840) && ((value.length : Int) == size)) = okValue 1 ⟨key, value, child, size⟩ := by grind [okValue]
theorem val_b (h : 0 ≤ size) (h2 : ¬ size ≤ 32) : (decide (size ≤ 3840) && ((value.length : Int) == 0)) = okValue 1 ⟨key, value, child, size⟩ := by grind [okValue]
theorem val_c (h : ¬ 0 ≤ size) : (false && ((value.length : Int) == size)) = okValue 1 ⟨key, value, child, size⟩ := by grind [okValue]
theorem val_d (h : (value.length : Int) = 0) : (size == 0) = okValue 2 ⟨key, value, child, size⟩ := by grind [okValue]
theorem val_e (h : ¬ (value.length : Int) = 0) : false = okValue 2 ⟨key, value, child, size⟩ := by grind [okValue]
theorem chi_a (h2 : size ≤ 32) : (child == 0) = okChild 1 ⟨key, value, child, size⟩ := by grind [okChild]
theorem chi_b (h2 : ¬ size ≤ 32) : isPg child = okChild 1 ⟨key, value, child, size⟩ := by grind [okChild]
theorem chi_c : isPg child = okChild 2 ⟨key, value, child, size⟩ := by grind [okChild]
theorem rel_leaf (h1 : b1 = okKey 1 j ⟨key, value, child, size⟩) (h2 : b2 = !decide (0 < j ∧ Lib.compareBytes key ks ≤ 0)) (h3 : (b3 && b4) = okValue 1 ⟨key, value, child, size⟩) (h5 : b5 = okChild 1 ⟨key, value, child, size⟩) :
    latch (latch (latch (latch (latch r b1 7) b2 11) b3 8) b4 8) b5 15 = if r = 0 then itemErr 1 j ks ⟨key, value, child, size⟩ else r := by
  unfold itemErr
  simp only [← h1, ← h3, ← h5]
  have h2' : (0 < j ∧ Lib.compareBytes key ks ≤ 0) ↔ b2 = false := by rw [h2]; simp
  simp only [h2']
  clear h1 h2 h3 h5 h2'
  by_cases hr : r = 0
  · subst hr; cases b1 <;> cases b2 <;> cases b3 <;> cases b4 <;> cases b5 <;> simp [latch]
  · simp [latch, hr]
theorem rel_index (h1 : b1 = okKey 2 j ⟨key, value, child, size⟩) (h2 : b2 = !decide (0 < j ∧ Lib.compareBytes key ks ≤ 0)) (h3 : b3 = okValue 2 ⟨key, value, child, size⟩) (h5 : b5 = okChild 2 ⟨key, value, child, size⟩) :
    latch (latch (latch (latch r b1 7) b2 11) b3 8) b5 15 = if r = 0 then itemErr 2 j ks ⟨key, value, child, size⟩ else r := by
  unfold itemErr
  simp only [← h1, ← h3, ← h5]
  have h2' : (0 < j ∧ Lib.compareBytes key ks ≤ 0) ↔ b2 = false := by rw [h2]; simp
  simp only [h2']
  clear h1 h2 h3 h5 h2'
  by_cases hr : r = 0
  · subst hr; cases b1 <;> cases b2 <;> cases b3 <;> cases b5 <;> simp [latch]
  · simp [latch, hr]
theorem rel_index0 (h1 : b1 = okKey 2 0 ⟨key, value, child, size⟩) (h3 : b3 = okValue 2 ⟨key, value, child, size⟩) (h5 : b5 = okChild 2 ⟨key, value, child, size⟩) :
    latch (latch (latch r b1 7) b3 8) b5 15 = if r = 0 then itemErr 2 0 ks ⟨key, value, child, size⟩ else r := by
  have := rel_index (r := r) h1 (cmp_a (key := key) (ks := ks)) h3 h5
  rw [show latch (latch r b1 7) true 11 = latch r b1 7 by unfold latch; rw [if_neg (fun g => by cases g.1)]] at this
  exact this
end
end Go.Proofs.Ytkjgncmbhkhbnaa
