/- Walks of layer 1: the divisions. -/
import Derived.Test.YtkjdigojajcgkaaDoorFw1
namespace Go.Proofs.YtkjdigojajcgkaaDoor
open Go.RowKit
open Fx
end Go.Proofs.YtkjdigojajcgkaaDoor
