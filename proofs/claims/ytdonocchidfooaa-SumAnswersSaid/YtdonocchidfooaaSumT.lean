/- The walks of turn.of, turn.twice. -/
import Derived.Test.YtdonocchidfooaaSumB
import Derived.Deep.QuietTactic
import Derived.BigQuiet
namespace Go.Proofs.Ytdonocchidfooaa
open Go.RowKit

theorem row52 : (Try.prog.info? 52).map (·.size) = some 32 := by kernel_rfl
theorem row51 : (Try.prog.info? 51).map (·.size) = some 32 := by kernel_rfl

theorem run_box_row (t : TypeId) (l : List Nat) (w : World) : (Instr.box t (.agg (rowOf l))).run Try.prog w = .ok (.pointer (some ⟨w.heap.size, 0, none⟩)) (w.alloc (.cells (rowOf l) t)) := by
  kernel_rfl

/-- a step of turn.of -/
theorem turn_step (x k mk r : Nat) (hx : x < 4294967296) (hmk : mk < 4294967296) (hr : r < 4294967296) :
    bits .xor .u32 (r : Int) (bits .and .u32 (mk : Int) (-bits .and .u32 ((x : Int) / 2 ^ k) 1 % 4294967296)) = ((r ^^^ (if x / 2 ^ k % 2 = 1 then mk else 0) : Nat) : Int) := by
  have hd : x / 2 ^ k < 4294967296 := Nat.lt_of_le_of_lt (Nat.div_le_self _ _) hx
  have e0 : (x : Int) / 2 ^ k = ((x / 2 ^ k : Nat) : Int) := by simp
  rw [e0]
  generalize x / 2 ^ k = y at hd
  rw [show (1 : Int) = ((1 : Nat) : Int) from rfl, u32_and_nat y 1 hd (by omega), nat_mask1]
  by_cases h : y % 2 = 1
  · rw [if_pos h, h, show (-((1 : Nat) : Int) % 4294967296) = ((4294967295 : Nat) : Int) from by decide, u32_and_nat mk _ hmk (by omega), nat_mask32, Nat.mod_eq_of_lt hmk]
    exact u32_xor_nat r mk hr hmk
  · rw [if_neg h, show y % 2 = 0 from by omega, show (-((0 : Nat) : Int) % 4294967296) = ((0 : Nat) : Int) from by decide, u32_and_nat mk _ hmk (by omega), Nat.and_zero]
    exact u32_xor_nat r 0 hr (by omega)

theorem tur_lt (m : Nat → Nat) (k : Nat) (h : ∀ i, i < k → m i < 4294967296) (x : Nat) : Crc.tur m k x < 4294967296 := by
  induction k with
  | zero => show 0 < _; omega
  | succ k ih =>
    have h1 := ih (fun i hi => h i (by omega))
    have h2 := h k (by omega)
    show Crc.tur m k x ^^^ _ < _
    refine Nat.xor_lt_two_pow (n := 32) h1 ?_
    split
    · exact h2
    · omega

/-- place i of a list of numbers -/
def at0 (m : List Nat) (i : Nat) : Nat := m.getD i 0
theorem at0_eq (m : List Nat) (i : Nat) : at0 m i = m.getD i 0 := rfl
theorem at0_get {m : List Nat} {i : Nat} (h : i < m.length) : m[i]? = some (at0 m i) := by rw [at0_eq, List.getD_eq_getElem?_getD, List.getElem?_eq_getElem h]; rfl
theorem at0_of {m : List Nat} {i n : Nat} (h : m[i]? = some n) : at0 m i = n := by rw [at0_eq, List.getD_eq_getElem?_getD, h]; rfl
theorem at0_lt {m : List Nat} (hml : ∀ n ∈ m, n < 4294967296) (i : Nat) : at0 m i < 4294967296 := by
  rw [at0_eq, List.getD_eq_getElem?_getD]
  rcases Nat.lt_or_ge i m.length with h | h
  · rw [List.getElem?_eq_getElem h]; exact hml _ (List.getElem_mem h)
  · rw [List.getElem?_eq_none h]; show 0 < _; omega
attribute [irreducible] at0

set_option maxHeartbeats 400000 in
theorem turnOf_any (m : List Nat) (hm : m.length = 32) (hml : ∀ n ∈ m, n < 4294967296) (x : Nat) (hx : x < 4294967296) (w : World) : Calls Try.prog 35 #[.agg (rowOf m), .int .u32 x] w fun e w' => e = .returned (.int .u32 (Crc.tur (at0 m) 32 x)) ∧ Below w.heap.size w w' := by
  have hbox := fun w => run_box_row 52 m w
  go_enter Try.func35, Try.ntmps35
  go_wp2
  have hb2 : Below w.heap.size w (w.alloc (.cells (rowOf m) 52)) := (Below.refl _ _).alloc (Nat.le_refl _) _
  have hg : (w.alloc (.cells (rowOf m) 52)).heap[w.heap.size]? = some (.cells (rowOf m) 52) := heap_alloc_new _ _
  generalize w.alloc (.cells (rowOf m) 52) = w2 at hb2 hg ⊢
  clear hbox
  go_loopw [5, 7] (fun v i wr => ∃ k : Nat, k ≤ 32 ∧ i = .int .i64 k ∧ v = .int .u32 (Crc.tur (at0 m) k x : Nat) ∧ ∃ n, wr = w2.drewN n) (fun _ i _ => 32 - (intOf i).toNat)
  case atStart => exact ⟨0, Nat.zero_le _, rfl, rfl, 0, rfl⟩
  case round =>
    obtain ⟨k, hk, rfl, rfl, n, rfl⟩ := hrel
    by_cases hlt : k < 32
    · have hgt : m[k]? = some (at0 m k) := at0_get (by omega)
      have c1 := cell_rowOf hg hgt
      have hmk := at0_lt hml
      have e1 := turn_step x k (at0 m k) (Crc.tur (at0 m) k x) hx (hmk k) (tur_lt _ k (fun i _ => hmk i) x)
      have e2 : Crc.tur (at0 m) (k + 1) x = Crc.tur (at0 m) k x ^^^ (if x / 2 ^ k % 2 = 1 then at0 m k else 0) := rfl
      rw [← e2] at e1
      generalize hR : Crc.tur (at0 m) (k + 1) x = R at e1
      have HR := Lib.hid hR
      generalize at0 m k = mk at c1 e1
      generalize (Crc.tur (at0 m) k x) = r at e1
      clear hgt hg e2 hmk hR
      go_wp2
      go_quiet (fail)
      go_wp2
      go_roundw
      case rel => exact ⟨k + 1, by omega, by go_num, by rw [HR.out], n + nq, rfl⟩
      case measure => simp [intOf]; omega
    · obtain rfl : k = 32 := by omega
      go_wp2
      go_ret
      exact ⟨rfl, below_drewN hb2 _⟩
end Go.Proofs.Ytdonocchidfooaa
