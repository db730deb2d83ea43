/- What the walks of layer 3 read of the library's variables. -/
import Derived.Test.YtkjdigojajcgkaaGreatDoorSw5
import Derived.Test.YtkjdigojajcgkaaGreatDoorChecked
import Derived.Test.YtkjdigojajcgkaaGreatDoorBase
import Derived.Lib.AppendIntMem
namespace Go.Proofs.YtkjdigojajcgkaaGreatDoor
open Go.RowKit

/-- what the rows list of the library's variables, as far as it is read -/
def StrVars (w : World) : Prop := ErrAt w ∧ Lib.TabIs Tryz.prog w "internal/strconv.uint64pow10" .u64 Lib.pow10Tab
theorem StrVars.below {w w' : World} (h : StrVars w) (hb : Below w.heap.size w w') : StrVars w' := ⟨h.1.below hb, (Lib.tabBelow_of_tabIs h.2) w' hb⟩
end Go.Proofs.YtkjdigojajcgkaaGreatDoor
