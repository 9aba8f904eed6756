/- The deferred closures of read, at the six kinds of results. -/
import Derived.Test.YtpjdknmgegbgnaaRd
namespace Go.Proofs.Ytpjdknmgegbgnaa
open Go.RowKit

theorem frame23 (a o r : Value) : (#[a, o, r] ++ Array.replicate 23 undef : Array Value) = #[a, o, r, undef, undef, undef, undef, undef, undef, undef, undef, undef, undef, undef, undef, undef, undef, undef, undef, undef, undef, undef, undef, undef, undef, undef] := by kernel_rfl
theorem size23 (a o r : Value) : 26 - #[a, o, r].size = 23 := rfl
theorem ta_nil (w : World) : (Instr.typeAssert .nilIface 20 27 true).run Try.prog w = .ok (.tuple #[.int .i64 0, .bool false]) w := by kernel_rfl
theorem ta_err (e : Int) (w : World) : (Instr.typeAssert (.iface 27 (.int .i64 e)) 20 27 true).run Try.prog w = .ok (.tuple #[.int .i64 e, .bool true]) w := by kernel_rfl

set_option maxHeartbeats 400000 in
theorem idle_int (a o r : Addr) (w : World) :
    CallsD Try.prog 86 #[.pointer (some a), .pointer (some o), .pointer (some r)] .returning w fun e u' w' => e = .returned (.tuple #[]) ∧ u' = .returning ∧ w = w' := by
  have t0 := ta_nil
  refine callsD_of_wpS Try.func86 rfl fun c₀ cs hu => ?_
  rw [Try.ntmps86, size23, frame23]
  apply wpS_seq
  apply wpS_region
  simp [wpOpsS, go_sem, recoverD, hu, Exit.thenS]
  refine wpS_of_wp ?_
  have Hu := Lib.hid hu
  clear hu
  go_wp2_with fail
  have hu := Hu.out
  cases c₀
  simp_all [bodyPostS, results, Try.results86]

set_option maxHeartbeats 400000 in
theorem catch_int (a r : Addr) (go p : Nat) (e : Int) (old v0 v1 : Value) (sa : Option Addr) (n cap : Nat) (T : TypeId) (w : World) (ha : w.cell? a = some (.slice sa n cap)) (ho : w.cell? ⟨go, 0, none⟩ = some old) (hf : w.frozen? ⟨go, 0, none⟩ = false)
    (hr : w.cell? r = some (.pointer (some ⟨p, 0, none⟩))) (hp : w.heap[p]? = some (.cells #[v0, v1] T)) (hne : p ≠ go) :
    CallsD Try.prog 86 #[.pointer (some a), .pointer (some ⟨go, 0, none⟩), .pointer (some r)] (.panicking [thrown e false]) w fun x u' w' => x = .returned (.tuple #[]) ∧ u' = .panicking [thrown e true] ∧
      ((w.setCell ⟨go, 0, none⟩ (.int .i64 0)).setCell ⟨p, 0, none⟩ (.slice sa n cap)).setCell ⟨p, 1, none⟩ (.int .i64 e) = w' := by
  have t0 := ta_err e
  have g1 : (w.setCell ⟨go, 0, none⟩ (.int .i64 0)).heap[p]? = some (.cells #[v0, v1] T) := (Below.heap_setCell _ _ _ _ hne).trans hp
  obtain ⟨c0, c1, f⟩ := cells2 g1
  have f0 := f 0
  have g2 := set2_0 g1 (.slice sa n cap)
  obtain ⟨d0, d1, f⟩ := cells2 g2
  have f1 := f 1
  clear f g1 g2 hp hne
  refine callsD_of_wpS Try.func86 rfl fun c₀ cs hu => ?_
  rw [Try.ntmps86, size23, frame23]
  simp only [thrown] at hu
  apply wpS_seq
  apply wpS_region
  simp [wpOpsS, go_sem, recoverD, hu, Exit.thenS]
  refine wpS_of_wp ?_
  have Hu := Lib.hid hu
  clear hu
  go_wp2_with fail
  simp [bodyPostS, results, Try.results86, thrown]

set_option maxHeartbeats 400000 in
theorem idle_uint8 (a o r : Addr) (w : World) :
    CallsD Try.prog 83 #[.pointer (some a), .pointer (some o), .pointer (some r)] .returning w fun e u' w' => e = .returned (.tuple #[]) ∧ u' = .returning ∧ w = w' := by
  have t0 := ta_nil
  refine callsD_of_wpS Try.func83 rfl fun c₀ cs hu => ?_
  rw [Try.ntmps83, size23, frame23]
  apply wpS_seq
  apply wpS_region
  simp [wpOpsS, go_sem, recoverD, hu, Exit.thenS]
  refine wpS_of_wp ?_
  have Hu := Lib.hid hu
  clear hu
  go_wp2_with fail
  have hu := Hu.out
  cases c₀
  simp_all [bodyPostS, results, Try.results83]

set_option maxHeartbeats 400000 in
theorem catch_uint8 (a r : Addr) (go p : Nat) (e : Int) (old v0 v1 : Value) (sa : Option Addr) (n cap : Nat) (T : TypeId) (w : World) (ha : w.cell? a = some (.slice sa n cap)) (ho : w.cell? ⟨go, 0, none⟩ = some old) (hf : w.frozen? ⟨go, 0, none⟩ = false)
    (hr : w.cell? r = some (.pointer (some ⟨p, 0, none⟩))) (hp : w.heap[p]? = some (.cells #[v0, v1] T)) (hne : p ≠ go) :
    CallsD Try.prog 83 #[.pointer (some a), .pointer (some ⟨go, 0, none⟩), .pointer (some r)] (.panicking [thrown e false]) w fun x u' w' => x = .returned (.tuple #[]) ∧ u' = .panicking [thrown e true] ∧
      ((w.setCell ⟨go, 0, none⟩ (.int .u8 0)).setCell ⟨p, 0, none⟩ (.slice sa n cap)).setCell ⟨p, 1, none⟩ (.int .i64 e) = w' := by
  have t0 := ta_err e
  have g1 : (w.setCell ⟨go, 0, none⟩ (.int .u8 0)).heap[p]? = some (.cells #[v0, v1] T) := (Below.heap_setCell _ _ _ _ hne).trans hp
  obtain ⟨c0, c1, f⟩ := cells2 g1
  have f0 := f 0
  have g2 := set2_0 g1 (.slice sa n cap)
  obtain ⟨d0, d1, f⟩ := cells2 g2
  have f1 := f 1
  clear f g1 g2 hp hne
  refine callsD_of_wpS Try.func83 rfl fun c₀ cs hu => ?_
  rw [Try.ntmps83, size23, frame23]
  simp only [thrown] at hu
  apply wpS_seq
  apply wpS_region
  simp [wpOpsS, go_sem, recoverD, hu, Exit.thenS]
  refine wpS_of_wp ?_
  have Hu := Lib.hid hu
  clear hu
  go_wp2_with fail
  simp [bodyPostS, results, Try.results83, thrown]

set_option maxHeartbeats 400000 in
theorem idle_uint16 (a o r : Addr) (w : World) :
    CallsD Try.prog 85 #[.pointer (some a), .pointer (some o), .pointer (some r)] .returning w fun e u' w' => e = .returned (.tuple #[]) ∧ u' = .returning ∧ w = w' := by
  have t0 := ta_nil
  refine callsD_of_wpS Try.func85 rfl fun c₀ cs hu => ?_
  rw [Try.ntmps85, size23, frame23]
  apply wpS_seq
  apply wpS_region
  simp [wpOpsS, go_sem, recoverD, hu, Exit.thenS]
  refine wpS_of_wp ?_
  have Hu := Lib.hid hu
  clear hu
  go_wp2_with fail
  have hu := Hu.out
  cases c₀
  simp_all [bodyPostS, results, Try.results85]

set_option maxHeartbeats 400000 in
theorem catch_uint16 (a r : Addr) (go p : Nat) (e : Int) (old v0 v1 : Value) (sa : Option Addr) (n cap : Nat) (T : TypeId) (w : World) (ha : w.cell? a = some (.slice sa n cap)) (ho : w.cell? ⟨go, 0, none⟩ = some old) (hf : w.frozen? ⟨go, 0, none⟩ = false)
    (hr : w.cell? r = some (.pointer (some ⟨p, 0, none⟩))) (hp : w.heap[p]? = some (.cells #[v0, v1] T)) (hne : p ≠ go) :
    CallsD Try.prog 85 #[.pointer (some a), .pointer (some ⟨go, 0, none⟩), .pointer (some r)] (.panicking [thrown e false]) w fun x u' w' => x = .returned (.tuple #[]) ∧ u' = .panicking [thrown e true] ∧
      ((w.setCell ⟨go, 0, none⟩ (.int .u16 0)).setCell ⟨p, 0, none⟩ (.slice sa n cap)).setCell ⟨p, 1, none⟩ (.int .i64 e) = w' := by
  have t0 := ta_err e
  have g1 : (w.setCell ⟨go, 0, none⟩ (.int .u16 0)).heap[p]? = some (.cells #[v0, v1] T) := (Below.heap_setCell _ _ _ _ hne).trans hp
  obtain ⟨c0, c1, f⟩ := cells2 g1
  have f0 := f 0
  have g2 := set2_0 g1 (.slice sa n cap)
  obtain ⟨d0, d1, f⟩ := cells2 g2
  have f1 := f 1
  clear f g1 g2 hp hne
  refine callsD_of_wpS Try.func85 rfl fun c₀ cs hu => ?_
  rw [Try.ntmps85, size23, frame23]
  simp only [thrown] at hu
  apply wpS_seq
  apply wpS_region
  simp [wpOpsS, go_sem, recoverD, hu, Exit.thenS]
  refine wpS_of_wp ?_
  have Hu := Lib.hid hu
  clear hu
  go_wp2_with fail
  simp [bodyPostS, results, Try.results85, thrown]

set_option maxHeartbeats 400000 in
theorem idle_uint32 (a o r : Addr) (w : World) :
    CallsD Try.prog 81 #[.pointer (some a), .pointer (some o), .pointer (some r)] .returning w fun e u' w' => e = .returned (.tuple #[]) ∧ u' = .returning ∧ w = w' := by
  have t0 := ta_nil
  refine callsD_of_wpS Try.func81 rfl fun c₀ cs hu => ?_
  rw [Try.ntmps81, size23, frame23]
  apply wpS_seq
  apply wpS_region
  simp [wpOpsS, go_sem, recoverD, hu, Exit.thenS]
  refine wpS_of_wp ?_
  have Hu := Lib.hid hu
  clear hu
  go_wp2_with fail
  have hu := Hu.out
  cases c₀
  simp_all [bodyPostS, results, Try.results81]

set_option maxHeartbeats 400000 in
theorem catch_uint32 (a r : Addr) (go p : Nat) (e : Int) (old v0 v1 : Value) (sa : Option Addr) (n cap : Nat) (T : TypeId) (w : World) (ha : w.cell? a = some (.slice sa n cap)) (ho : w.cell? ⟨go, 0, none⟩ = some old) (hf : w.frozen? ⟨go, 0, none⟩ = false)
    (hr : w.cell? r = some (.pointer (some ⟨p, 0, none⟩))) (hp : w.heap[p]? = some (.cells #[v0, v1] T)) (hne : p ≠ go) :
    CallsD Try.prog 81 #[.pointer (some a), .pointer (some ⟨go, 0, none⟩), .pointer (some r)] (.panicking [thrown e false]) w fun x u' w' => x = .returned (.tuple #[]) ∧ u' = .panicking [thrown e true] ∧
      ((w.setCell ⟨go, 0, none⟩ (.int .u32 0)).setCell ⟨p, 0, none⟩ (.slice sa n cap)).setCell ⟨p, 1, none⟩ (.int .i64 e) = w' := by
  have t0 := ta_err e
  have g1 : (w.setCell ⟨go, 0, none⟩ (.int .u32 0)).heap[p]? = some (.cells #[v0, v1] T) := (Below.heap_setCell _ _ _ _ hne).trans hp
  obtain ⟨c0, c1, f⟩ := cells2 g1
  have f0 := f 0
  have g2 := set2_0 g1 (.slice sa n cap)
  obtain ⟨d0, d1, f⟩ := cells2 g2
  have f1 := f 1
  clear f g1 g2 hp hne
  refine callsD_of_wpS Try.func81 rfl fun c₀ cs hu => ?_
  rw [Try.ntmps81, size23, frame23]
  simp only [thrown] at hu
  apply wpS_seq
  apply wpS_region
  simp [wpOpsS, go_sem, recoverD, hu, Exit.thenS]
  refine wpS_of_wp ?_
  have Hu := Lib.hid hu
  clear hu
  go_wp2_with fail
  simp [bodyPostS, results, Try.results81, thrown]

set_option maxHeartbeats 400000 in
theorem idle_uint64 (a o r : Addr) (w : World) :
    CallsD Try.prog 84 #[.pointer (some a), .pointer (some o), .pointer (some r)] .returning w fun e u' w' => e = .returned (.tuple #[]) ∧ u' = .returning ∧ w = w' := by
  have t0 := ta_nil
  refine callsD_of_wpS Try.func84 rfl fun c₀ cs hu => ?_
  rw [Try.ntmps84, size23, frame23]
  apply wpS_seq
  apply wpS_region
  simp [wpOpsS, go_sem, recoverD, hu, Exit.thenS]
  refine wpS_of_wp ?_
  have Hu := Lib.hid hu
  clear hu
  go_wp2_with fail
  have hu := Hu.out
  cases c₀
  simp_all [bodyPostS, results, Try.results84]

set_option maxHeartbeats 400000 in
theorem catch_uint64 (a r : Addr) (go p : Nat) (e : Int) (old v0 v1 : Value) (sa : Option Addr) (n cap : Nat) (T : TypeId) (w : World) (ha : w.cell? a = some (.slice sa n cap)) (ho : w.cell? ⟨go, 0, none⟩ = some old) (hf : w.frozen? ⟨go, 0, none⟩ = false)
    (hr : w.cell? r = some (.pointer (some ⟨p, 0, none⟩))) (hp : w.heap[p]? = some (.cells #[v0, v1] T)) (hne : p ≠ go) :
    CallsD Try.prog 84 #[.pointer (some a), .pointer (some ⟨go, 0, none⟩), .pointer (some r)] (.panicking [thrown e false]) w fun x u' w' => x = .returned (.tuple #[]) ∧ u' = .panicking [thrown e true] ∧
      ((w.setCell ⟨go, 0, none⟩ (.int .u64 0)).setCell ⟨p, 0, none⟩ (.slice sa n cap)).setCell ⟨p, 1, none⟩ (.int .i64 e) = w' := by
  have t0 := ta_err e
  have g1 : (w.setCell ⟨go, 0, none⟩ (.int .u64 0)).heap[p]? = some (.cells #[v0, v1] T) := (Below.heap_setCell _ _ _ _ hne).trans hp
  obtain ⟨c0, c1, f⟩ := cells2 g1
  have f0 := f 0
  have g2 := set2_0 g1 (.slice sa n cap)
  obtain ⟨d0, d1, f⟩ := cells2 g2
  have f1 := f 1
  clear f g1 g2 hp hne
  refine callsD_of_wpS Try.func84 rfl fun c₀ cs hu => ?_
  rw [Try.ntmps84, size23, frame23]
  simp only [thrown] at hu
  apply wpS_seq
  apply wpS_region
  simp [wpOpsS, go_sem, recoverD, hu, Exit.thenS]
  refine wpS_of_wp ?_
  have Hu := Lib.hid hu
  clear hu
  go_wp2_with fail
  simp [bodyPostS, results, Try.results84, thrown]

end Go.Proofs.Ytpjdknmgegbgnaa
