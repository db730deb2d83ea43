/- What the rows give of the library's variables. -/
import Derived.Test.YtelggbmobemnoaaDoorRows
import Derived.Test.YtelggbmobemnoaaDoorFw13
import Derived.Lib.LaidTab
import Derived.Shelf.Vars
import Derived.KernelRfl
import Derived.Stop.LaidErr
namespace Go.Proofs.YtelggbmobemnoaaDoor
open Go.RowKit
open Fx

theorem gPow : Tryd.prog.globalNamed "internal/strconv.uint64pow10" = some 3 := by kernel_rfl

theorem textVars {w : World} (hL : laidMetH Tryd.prog Rows.fixTextsRow.laid w) (hsh : w.ShapedOpen Tryd.prog) : TextVars w := by
  have h0 : ∃ m, w.cell? ⟨0, 0, none⟩ = some (.int .i64 m) := cell_of_shapedOpen_int (t := 3) (zero := #[.int .i64 0]) hsh (of_decide_eq_true (by kernel_rfl)) (by kernel_rfl) rfl (by kernel_rfl) (by kernel_rfl) Tryd.underlying3
  refine ⟨h0, ?_, ?_⟩
  · have e : Lib.pow10Tab = [1, 10, 100, 1000, 10000, 100000, 1000000, 10000000, 100000000, 1000000000, 10000000000, 100000000000, 1000000000000, 10000000000000, 100000000000000, 1000000000000000, 10000000000000000, 100000000000000000, 1000000000000000000, 10000000000000000000] := by decide +kernel
    rw [e]
    exact Lib.tabIs_of_head gPow (t := 103) (e := 39) (by kernel_rfl) Tryd.underlying103 Tryd.underlying39 (by kernel_rfl) (by kernel_rfl) (laidMet.tail (laidMet.tail hL))
  · obtain ⟨m, hm⟩ := h0
    rcases Nat.eq_zero_or_pos w.heap.size with h | h
    · exfalso
      unfold World.cell? at hm
      simp [Array.getElem?_eq_none (show w.heap.size ≤ 0 by omega)] at hm
    · exact h
end Go.Proofs.YtelggbmobemnoaaDoor
