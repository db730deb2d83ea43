/- Arguments opened: a program, with all that it holds. -/
import Derived.Test.YtokjkligechcoaaGreatDoorEf
import Derived.Test.YtokjkligechcoaaGreatDoorLi
import Derived.Test.YtokjkligechcoaaGreatDoorRows
set_option linter.unusedVariables false
namespace Go.Proofs.YtokjkligechcoaaGreatDoor
open Go.ChangeShapes Go.WideShapes Go.Deep Go.RowKit
open Opn
/-- no part of a program takes more bytes than there are -/
structure PgR (P : Pg) : Prop where
 f : P.fs.length * 40 ≤ 140737488355328
 s : P.ss.length * 16 ≤ 140737488355328
 u : P.us.length * 8 ≤ 140737488355328
 c : ∀ f ∈ P.fs, f.code.length * 80 ≤ 140737488355328 ∧ ∀ x ∈ f.code, x.l.length * 8 ≤ 140737488355328 ∧ x.lv.length * 8 ≤ 140737488355328
section
variable {H : Type} {enc : TypeId × Value → H} {w : World}
end
end Go.Proofs.YtokjkligechcoaaGreatDoor
