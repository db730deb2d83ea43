/- What the walks of layer 3 read of the library's variables. -/
import Derived.Test.YtkjdigojajcgkaaDoorChecked
import Derived.Test.YtkjdigojajcgkaaDoorBase
import Derived.Lib.AppendIntMem
namespace Go.Proofs.YtkjdigojajcgkaaDoor
open Go.RowKit

/-- what the rows list of the library's variables, as far as it is read -/
def StrVars (w : World) : Prop := True ∧ Lib.TabIs Tryd.prog w "internal/strconv.uint64pow10" .u64 Lib.pow10Tab
theorem StrVars.below {w w' : World} (h : StrVars w) (hb : Below w.heap.size w w') : StrVars w' := ⟨trivial, (Lib.tabBelow_of_tabIs h.2) w' hb⟩
end Go.Proofs.YtkjdigojajcgkaaDoor
