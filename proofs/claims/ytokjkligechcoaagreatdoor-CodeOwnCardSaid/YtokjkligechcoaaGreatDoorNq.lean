/- CodeOwn: what its row gives of the library's table of trailing zeros. -/
import Derived.Test.YtokjkligechcoaaGreatDoorKv
import Derived.Test.YtokjkligechcoaaGreatDoorNd
set_option linter.unusedVariables false
namespace Go.Proofs.YtokjkligechcoaaGreatDoor
open Go.ChangeShapes Go.WideShapes Go.Deep Go.RowKit
theorem gBruijn16 : Tryz.prog.globalNamed "math/bits.deBruijn64tab" = some 8 := by kernel_rfl
theorem bitVars {w : World} (hL : laidMetH Tryz.prog Rows.codeChecksRow.laid w) : BitV w := by
 have ht : Lib.TabIs Tryz.prog w "math/bits.deBruijn64tab" .u8 [0, 1, 56, 2, 57, 49, 28, 3, 61, 58, 42, 50, 38, 29, 17, 4, 62, 47, 59, 36, 45, 43, 51, 22, 53, 39, 33, 30, 24, 18, 12, 5, 63, 55, 48, 27, 60, 41, 37, 16, 46, 35, 44, 21, 52, 32, 23, 11, 54, 26, 40, 15, 34, 20, 31, 10, 25, 14, 19, 9, 13, 8, 7, 6] :=
  Lib.tabIs_of_head gBruijn16 (t := 275) (e := 5) (by kernel_rfl) Tryz.underlying275 Tryz.underlying5 (by kernel_rfl) (by kernel_rfl) (laidMet.tail hL)
 exact ht.cell gBruijn16 15 (by decide)
end Go.Proofs.YtokjkligechcoaaGreatDoor
