/- The program's reader: what it holds, and the walks of must and take. -/
import Derived.Test.YtpjdknmgegbgnaaByt
import Derived.Defers
import Derived.Recover
import Derived.Laws.Pointers
namespace Go.Proofs.Ytpjdknmgegbgnaa
open Go.RowKit

/-- what a reader holds: what is not read yet, and its error -/
structure RS where
  (rest : List UInt8) (err : Nat)

/-- a reader in memory: its two cells, and what is not read yet -/
def IsR (w : World) (p : Nat) (a : Option Addr) (cap : Nat) (s : RS) : Prop :=
  (∃ T, w.heap[p]? = some (.cells #[.slice a s.rest.length cap, .int .i64 (s.err : Int)] T)) ∧ Bts w a s.rest ∧ (a = none → cap = 0) ∧ blk a ≠ some p ∧ s.rest.length ≤ cap ∧ s.rest.length ≤ 140737488355328 ∧ s.err ≤ 1000 ∧ (∀ k, blk a = some k → k < w.heap.size)

theorem cells2 {w : World} {p : Nat} {v0 v1 : Value} {T : TypeId} (h : w.heap[p]? = some (.cells #[v0, v1] T)) :
    w.cell? ⟨p, 0, none⟩ = some v0 ∧ w.cell? ⟨p, 1, none⟩ = some v1 ∧ (∀ k, w.frozen? ⟨p, k, none⟩ = false) := by
  simp [World.cell?, World.frozen?, h]
theorem set2_0 {w : World} {p : Nat} {v0 v1 : Value} {T : TypeId} (h : w.heap[p]? = some (.cells #[v0, v1] T)) (u : Value) : (w.setCell ⟨p, 0, none⟩ u).heap[p]? = some (.cells #[u, v1] T) := by
  rw [setCell_eq_setRow w p 0 _ T (0, 0) u h, setRow_heap w p _ _ T (0, 0) h]; rfl
theorem set2_1 {w : World} {p : Nat} {v0 v1 : Value} {T : TypeId} (h : w.heap[p]? = some (.cells #[v0, v1] T)) (u : Value) : (w.setCell ⟨p, 1, none⟩ u).heap[p]? = some (.cells #[v0, u] T) := by
  rw [setCell_eq_setRow w p 1 _ T (0, 0) u h, setRow_heap w p _ _ T (0, 0) h]; rfl
theorem rlt_of_heap {w : World} {p : Nat} {o : Obj} (h : w.heap[p]? = some o) : p < w.heap.size := by
  rcases Nat.lt_or_ge p w.heap.size with h1 | h1
  · exact h1
  · rw [Array.getElem?_eq_none h1] at h; cases h
theorem IsR.lt {w : World} {p : Nat} {a : Option Addr} {cap : Nat} {s : RS} (h : IsR w p a cap s) : p < w.heap.size := by
  obtain ⟨⟨T, h⟩, _⟩ := h
  exact rlt_of_heap h
theorem IsR.chg {F : Nat → Prop} {w w' : World} {p : Nat} {a : Option Addr} {cap : Nat} {s : RS} (h : IsR w p a cap s) (hc : Chg F w w') (h1 : ¬ F p) (h2 : ∀ k, blk a = some k → ¬ F k) : IsR w' p a cap s := by
  have hlt := h.lt
  obtain ⟨⟨T, h3⟩, h4, h5, h6, h7, h8, h9, h10⟩ := h
  exact ⟨⟨T, (hc.block p hlt h1).trans h3⟩, h4.chg hc h2, h5, h6, h7, h8, h9, fun k hk => Nat.lt_of_lt_of_le (h10 k hk) hc.size⟩
theorem IsR.below {w w' : World} {p : Nat} {a : Option Addr} {cap : Nat} {s : RS} (h : IsR w p a cap s) (hb : Below w.heap.size w w') : IsR w' p a cap s := h.chg (F := fun _ => False) (Chg.of_below hb) (fun f => f) (fun _ _ f => f)

theorem must_true (e : Int) (w : World) : Calls Try.prog 72 #[.bool true, .int .i64 e] w fun r w' => r = .returned (.tuple #[]) ∧ w = w' := by
  go_enter Try.func72, Try.ntmps72
  go_wp2_with fail
  go_returns
  exact ⟨rfl, rfl⟩
/-- what must throws -/
def thrown (e : Int) (b : Bool) : PanicEntry := { v := .iface 27 (.int .i64 e), recovered := b }
theorem must_false (e : Int) (w : World) : Calls Try.prog 72 #[.bool false, .int .i64 e] w fun r w' => r = .panicked [thrown e false] ∧ w = w' := by
  go_enter Try.func72, Try.ntmps72
  go_wp2_with fail
  exact ⟨rfl, rfl, rfl⟩

theorem take_neg (p : Nat) (n : Int) (hn : n < 0) (w : World) :
    Calls Try.prog 58 #[.pointer (some ⟨p, 0, none⟩), .int .i64 n] w fun r w' => r = .panicked [thrown 1 false] ∧ w = w' := by
  have hd : decide (0 ≤ n) = false := decide_eq_false (by omega)
  go_enter Try.func58, Try.ntmps58
  go_wp2_with fail
  refine (must_false 1 w).mono ?_
  rintro _ _ ⟨rfl, rfl⟩
  exact ⟨rfl, rfl, rfl⟩

theorem take_short (p : Nat) (a : Option Addr) (cap : Nat) (s : RS) (n : Int) (h0 : 0 ≤ n) (hn : (s.rest.length : Int) < n) (w : World) (h : IsR w p a cap s) :
    Calls Try.prog 58 #[.pointer (some ⟨p, 0, none⟩), .int .i64 n] w fun r w' => r = .panicked [thrown 2 false] ∧ w = w' := by
  obtain ⟨⟨T, h3⟩, _⟩ := h
  obtain ⟨c0, c1, f⟩ := cells2 h3
  have hd : decide (n ≤ (s.rest.length : Int)) = false := decide_eq_false (by omega)
  clear h3 f
  go_enter Try.func58, Try.ntmps58
  go_wp2_with fail
  refine (must_true 1 w).mono ?_
  rintro _ _ ⟨rfl, rfl⟩
  go_wp2_with fail
  refine (must_false 2 w).mono ?_
  rintro _ _ ⟨rfl, rfl⟩
  exact ⟨rfl, rfl, rfl⟩

/-- what take leaves -/
def Took (w : World) (p : Nat) (a : Option Addr) (s : RS) (n : Nat) (r : Ending) (w' : World) : Prop :=
  ∃ oa cap2 a' cap', r = .returned (.slice oa n cap2) ∧ OB w' oa cap2 (s.rest.take n) ∧ (blk oa = none ∨ blk oa = some w.heap.size) ∧ IsR w' p a' cap' { s with rest := s.rest.drop n } ∧ blk a' = blk a ∧ Chg (fun k => k = p) w w'

theorem blk_add (a : Option Addr) (n : Nat) : blk (a.map (·.add n)) = blk a := by
  cases a with
  | none => rfl
  | some x => simp [blk, Addr.add]; split <;> rfl
theorem took_close {w w2 : World} {p n : Nat} {a oa2 a' : Option Addr} {cap cap2 cap' : Nat} {s : RS} (h : IsR w p a cap s) (hn : n ≤ s.rest.length) (hO : OB w2 oa2 cap2 (s.rest.take n)) (hC : Chg (fun _ => False) w w2) (hb : blk oa2 = none ∨ blk oa2 = some w.heap.size)
    (ha : (cap = n ∧ a' = a ∧ cap' = 0) ∨ (cap ≠ n ∧ a' = a.map (·.add n) ∧ cap' = cap - n)) :
    Took w p a s n (.returned (.slice oa2 n cap2)) (w2.setCell ⟨p, 0, none⟩ (.slice a' (s.rest.length - n) cap')) := by
  have hlt := h.lt
  obtain ⟨⟨T, h3⟩, h4, h5, h6, h7, h8, h9, h10⟩ := h
  have hbk : blk a' = blk a := by
    rcases ha with ⟨_, rfl, _⟩ | ⟨_, rfl, _⟩
    · rfl
    · exact blk_add a n
  have g3 := (hC.block p hlt (fun f => f)).trans h3
  have hC2 : Chg (fun k => k = p) w (w2.setCell ⟨p, 0, none⟩ (.slice a' (s.rest.length - n) cap')) := (hC.mono (fun _ _ f => f.elim)).setCell _ _ (fun _ => rfl)
  have hop : blk oa2 ≠ some p := by
    rcases hb with e | e
    · rw [e]; simp
    · rw [e]; intro e2; cases e2; omega
  have hdl : (s.rest.drop n).length = s.rest.length - n := List.length_drop
  refine ⟨oa2, cap2, a', cap', rfl, hO.chg (Chg.set w2 ⟨p, 0, none⟩ _) (fun k hk e => hop (by rw [hk]; exact congrArg some e)), hb, ⟨⟨T, ?_⟩, ?_, ?_, by rw [hbk]; exact h6, ?_, ?_, h9, ?_⟩, hbk, hC2⟩
  · rw [hdl]; exact set2_0 g3 _
  · rcases h4 with h4 | ⟨b, off, rfl, hb1, hb2⟩
    · exact .inl (by simp [h4])
    · by_cases hd : s.rest.drop n = []
      · exact .inl hd
      · have hd2 : n < s.rest.length := by
          rcases Nat.lt_or_ge n s.rest.length with h | h
          · exact h
          · exact absurd (List.drop_of_length_le h) hd
        rcases ha with ⟨e, _⟩ | ⟨_, rfl, _⟩
        · omega
        · refine .inr ⟨b, off + n, by simp [add_none], Nat.lt_of_lt_of_le hb1 hC2.size, fun i hi => ?_⟩
          rw [hdl] at hi
          rw [hC2.cell (p := ⟨b, off + n + i, none⟩) hb1 (fun e => h6 (congrArg some e)), Nat.add_assoc, hb2 (n + i) (by omega)]
          simp [List.getD_eq_getElem?_getD, List.getElem?_drop]
  · intro e
    rcases ha with ⟨_, _, rfl⟩ | ⟨e1, e2, rfl⟩
    · rfl
    · have : a = none := by cases a with
        | none => rfl
        | some x => rw [e2] at e; cases e
      have := h5 this
      omega
  · simp only [hdl]
    rcases ha with ⟨e, _, rfl⟩ | ⟨_, _, rfl⟩ <;> omega
  · show (s.rest.drop n).length ≤ _
    omega
  · intro k hk
    rw [hbk] at hk
    exact Nat.lt_of_lt_of_le (h10 k hk) hC2.size

set_option maxHeartbeats 400000 in
theorem take_ok (p : Nat) (a : Option Addr) (cap : Nat) (s : RS) (n : Nat) (hn : n ≤ s.rest.length) (w : World) (h : IsR w p a cap s) :
    Calls Try.prog 58 #[.pointer (some ⟨p, 0, none⟩), .int .i64 (n : Int)] w (Took w p a s n) := by
  have Hs := Lib.hid h
  obtain ⟨⟨T, h3⟩, h4, h5, h6, h7, h8, h9⟩ := h
  obtain ⟨c0, c1, f⟩ := cells2 h3
  have hb : Bts w a (s.rest.take n) := by
    rcases h4 with h4 | ⟨b, off, rfl, hb1, hb2⟩
    · exact .inl (by rw [h4]; simp)
    · refine .inr ⟨b, off, rfl, hb1, fun i hi => ?_⟩
      rw [List.length_take] at hi
      rw [hb2 i (by omega)]
      simp [List.getD_eq_getElem?_getD, List.getElem?_take_of_lt (show i < n by omega)]
  have hl : (s.rest.take n).length = n := by rw [List.length_take]; omega
  have Hl := Lib.hid hl
  generalize hr : s.rest.length = m at c0 hn h7 h8
  have hni : (n : Int) ≤ (m : Int) := by omega
  have hni2 : (n : Int) ≤ (cap : Int) := by omega
  have hp := rlt_of_heap h3
  have h3' := h3
  rw [hr] at h3'
  have Hr := Lib.hid hr
  clear h3 h4 h6 h9 f hl hr
  go_enter Try.func58, Try.ntmps58
  go_wp2_with fail
  refine (must_true 1 w).mono ?_
  rintro _ _ ⟨rfl, rfl⟩
  go_wp2_with fail
  refine (must_true 2 w).mono ?_
  rintro _ _ ⟨rfl, rfl⟩
  go_wp2_with (at_builtin; go_must (refine wpList_append_bytes rfl (.const (.slice none 0 0)) (.tmp 22) rfl (n := 0) (bs := []) rfl rfl (OB.nil _) Hl.out.symm rfl hb h5 (by omega) ?_)
               intro oa2 cap2 w2 hO2 hC2 hb2 _
               have g3 := (hC2.block p hp (fun e => by cases e)).trans h3'
               obtain ⟨d0, d1, f⟩ := cells2 g3
               have f0 := f 0
               clear f)
  all_goals
    have hT := fun a' cap' ha => took_close (a' := a') (cap' := cap') Hs.out (by rw [Hr.out]; exact hn) (by simpa using hO2) (hC2.mono (fun _ _ e => by cases e)) hb2 ha
    rw [Hr.out] at hT
  · rename_i h
    go_ret
    exact hT a 0 (.inl ⟨h, rfl, rfl⟩)
  · rename_i h
    go_ret
    exact hT _ _ (.inr ⟨h, rfl, rfl⟩)
end Go.Proofs.Ytpjdknmgegbgnaa
