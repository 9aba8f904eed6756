/- The program's Check. -/
import Derived.Test.YtkjgncmbhkhbnaaPChkL
import Derived.Test.YtkjgncmbhkhbnaaPChkI
import Derived.Test.YtkjgncmbhkhbnaaPChkB
namespace Go.Proofs.Ytkjgncmbhkhbnaa
open Go.RowKit

theorem pCheck_any (p : PP) (ia : Option Addr) (ic : Nat) (da : Option Addr) (dc : Nat) (w : World) (hp : PgAt w.heap.size w p ia ic da dc) :
    Calls Try.prog 26 #[pgv p ia ic da dc] w (Checked p w) := by
  by_cases hk : p.kind < 1 ∨ 3 < p.kind
  · exact pCheck_kind p ia ic da dc w hp hk
  by_cases hf : okForm p.kind p.level p.items.length p.data.length p.next = false
  · exact pCheck_form p ia ic da dc w hp hk hf
  obtain ⟨kind, level, items, data, next⟩ := p
  have hf : okForm kind level items.length data.length next = true := by simpa using hf
  have hk : ¬ (kind < 1 ∨ 3 < kind) := hk
  obtain rfl | rfl | rfl : kind = 1 ∨ kind = 2 ∨ kind = 3 := by omega
  · exact pCheck_leaf level items data next ia ic da dc w hp hf
  · exact pCheck_index level items data next ia ic da dc w hp hf
  · exact pCheck_blob level items data next ia ic da dc w hp hf
end Go.Proofs.Ytkjgncmbhkhbnaa
