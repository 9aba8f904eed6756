/- The document's Check of a page, joined. -/
import Derived.Test.YtkjgncmbhkhbnaaDChkL
import Derived.Test.YtkjgncmbhkhbnaaDChkI
namespace Go.Proofs.Ytkjgncmbhkhbnaa
open Go.RowKit

theorem dCheck_any (p : PP) (ia : Option Addr) (ic : Nat) (da : Option Addr) (dc : Nat) (w : World) (hp : PgAt w.heap.size w p ia ic da dc) :
    Calls Try.prog 27 #[pgv p ia ic da dc] w (Checked p w) := by
  obtain ⟨kind, level, items, data, next⟩ := p
  by_cases hk : kind < 1 ∨ 3 < kind
  · exact dCheck_kind kind level items data next ia ic da dc w hp hk
  obtain rfl | rfl | rfl : kind = 1 ∨ kind = 2 ∨ kind = 3 := by omega
  all_goals
    first
      | (by_cases hf : okForm 1 level items.length data.length next = false
         · exact dCheck_form1 level items data next ia ic da dc w hp hf
         · exact dCheck_go1 level items data next ia ic da dc w hp (by simpa using hf))
      | (by_cases hf : okForm 2 level items.length data.length next = false
         · exact dCheck_form2 level items data next ia ic da dc w hp hf
         · exact dCheck_go2 level items data next ia ic da dc w hp (by simpa using hf))
      | (by_cases hf : okForm 3 level items.length data.length next = false
         · exact dCheck_form3 level items data next ia ic da dc w hp hf
         · exact dCheck_go3 level items data next ia ic da dc w hp (by simpa using hf))
end Go.Proofs.Ytkjgncmbhkhbnaa
