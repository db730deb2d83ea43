/- Walks of layer 1: sums of many. -/
import Derived.Test.YtkjdigojajcgkaaGreatDoorFw1
namespace Go.Proofs.YtkjdigojajcgkaaGreatDoor
open Go.RowKit
open Fx
end Go.Proofs.YtkjdigojajcgkaaGreatDoor
