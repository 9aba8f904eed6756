/- Small facts for the walks of package sum: rows of numbers of 32 bits, a slice of bytes that is only read, half a byte at once. -/
import Derived.Test.YtkjgncmbhkhbnaaRows
import Derived.Test.YtkjgncmbhkhbnaaByt
import Derived.WalkKit
import Derived.WalkSpells
import Derived.WalkLawsBesides
import Derived.Laws.BitsAllLaws
import Derived.Deep.WholeRow
import Derived.Lib.Hide
import Derived.Handy
namespace Go.Proofs.Ytkjgncmbhkhbnaa
open Go.RowKit

/-- what half a byte becomes by four steps -/
def tab : List Nat := [0x00000000, 0x105EC76F, 0x20BD8EDE, 0x30E349B1, 0x417B1DBC, 0x5125DAD3, 0x61C69362, 0x7198540D,
  0x82F63B78, 0x92A8FC17, 0xA24BB5A6, 0xB21572C9, 0xC38D26C4, 0xD3D3E1AB, 0xE330A81A, 0xF36E6F75]
/-- numbers of 32 bits, as the cells of an array -/
def rowOf (l : List Nat) : Array Value := (l.map fun n : Nat => Value.int .u32 (n : Int)).toArray

theorem rowOf_size (l : List Nat) : (rowOf l).size = l.length := by simp [rowOf]
theorem rowOf_one (l : List Nat) : (rowOf l).all (·.oneCell') = true := by
  rw [Array.all_eq_true_iff_forall_mem]
  intro v hv
  simp [rowOf] at hv
  obtain ⟨n, _, rfl⟩ := hv
  rfl
theorem rowOf_get (l : List Nat) (k : Nat) : (rowOf l)[k]? = (l[k]?).map fun n : Nat => Value.int .u32 (n : Int) := by simp [rowOf]
/-- a block that is such an array, cell by cell -/
theorem cell_rowOf {w : World} {g : Nat} {l : List Nat} {t : TypeId} {fr : Nat × Nat} (h : w.heap[g]? = some (.cells (rowOf l) t fr)) {k n : Nat} (hk : l[k]? = some n) : w.cell? ⟨g, k, none⟩ = some (.int .u32 (n : Int)) := by
  rw [cell_of_row w g k _ t fr h, rowOf_get, hk]; rfl

theorem row48 : (Try.prog.info? 87).map (·.size) = some 16 := by kernel_rfl



end Go.Proofs.Ytkjgncmbhkhbnaa
