/- What the rows of layer 3 give of the library's variables. -/
import Derived.Test.YtmbmlindofchcaaDoorRows
import Derived.Test.YtmbmlindofchcaaDoorSw10
import Derived.Lib.LaidTab
import Derived.Shelf.Vars
import Derived.KernelRfl
import Derived.Stop.LaidErr
namespace Go.Proofs.YtmbmlindofchcaaDoor
open Go.RowKit

theorem gPow : Tryd.prog.globalNamed "internal/strconv.uint64pow10" = some 3 := by kernel_rfl

theorem gErr : Tryd.prog.globalNamed "strconv.ErrSyntax" = some 1 := by kernel_rfl

theorem starEq : "*errors.errorString" = "*" ++ "errors.errorString" := by decide

theorem errRow (u : TypeId) (h : Tryd.prog.typeName? 3 u = some "*errors.errorString") : u = 104 :=
  typeName_ptr_named (nm := "errors.errorString") (by rw [← starEq]; kernel_rfl) (by kernel_rfl) (by decide) u (by rw [← starEq]; exact h)

theorem strVars {w : World} (hL : laidMetH Tryd.prog Rows.strReadsRow.laid w) : StrVars w := by
  refine ⟨?_, ?_⟩
  · obtain ⟨a, s, hv, _⟩ := laid_sentinel (te := 106) (tp := 104) (ti := 56) (ts := 9) (laidMet.tail (laidMet.tail (laidMet.tail (laidMet.tail hL)))) gErr (by kernel_rfl) Tryd.underlying56 errRow Tryd.underlying104 Tryd.underlying106 rfl rfl Tryd.underlying9 (by kernel_rfl) (by kernel_rfl)
    have hc : w.cell? ⟨1, 0, none⟩ = some (.iface 104 (.pointer (some a))) := by simpa using World.var?_cell gErr hv 0
    refine ⟨?_, _, hc, .inr ⟨_, _, rfl⟩⟩
    rcases Nat.lt_or_ge 1 w.heap.size with h | h
    · exact h
    · exfalso
      unfold World.cell? at hc
      simp [Array.getElem?_eq_none h] at hc
  · have e : Lib.pow10Tab = [1, 10, 100, 1000, 10000, 100000, 1000000, 10000000, 100000000, 1000000000, 10000000000, 100000000000, 1000000000000, 10000000000000, 100000000000000, 1000000000000000, 10000000000000000, 100000000000000000, 1000000000000000000, 10000000000000000000] := by decide +kernel
    rw [e]
    exact Lib.tabIs_of_head gPow (t := 99) (e := 76) (by kernel_rfl) Tryd.underlying99 Tryd.underlying76 (by kernel_rfl) (by kernel_rfl) (laidMet.tail (laidMet.tail hL))
end Go.Proofs.YtmbmlindofchcaaDoor
