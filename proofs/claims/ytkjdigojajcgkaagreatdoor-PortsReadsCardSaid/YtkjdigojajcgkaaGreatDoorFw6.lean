/- Walks of layer 1: the reference's sums; opposites, amounts; that the program is alive. -/
import Derived.Test.YtkjdigojajcgkaaGreatDoorFw2
import Derived.Test.YtkjdigojajcgkaaGreatDoorFw4
namespace Go.Proofs.YtkjdigojajcgkaaGreatDoor
open Go.RowKit
open Fx
set_option linter.unusedVariables false

/-- A new block of numbers reads as they are. -/
theorem intsAt_new (k : IntKind) (w : World) (l : List Int) (T : TypeId) (hl : l.length ≤ maxLen) : IntsAt k (w.alloc (.cells (l.map (Value.int k)).toArray T)) (some ⟨w.heap.size, 0, none⟩) l := by
  refine ⟨hl, .inr ⟨w.heap.size, 0, rfl, fun i hi => ?_⟩⟩
  simp [hi]
end Go.Proofs.YtkjdigojajcgkaaGreatDoor
