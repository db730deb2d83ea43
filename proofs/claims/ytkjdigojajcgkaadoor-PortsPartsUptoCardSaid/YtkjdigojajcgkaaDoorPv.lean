/- What the rows of layer 21 give of the library's variables. -/
import Derived.Test.YtkjdigojajcgkaaDoorRows
import Derived.Test.YtkjdigojajcgkaaDoorPw3
import Derived.Lib.LaidTab
import Derived.Shelf.Vars
import Derived.KernelRfl
import Derived.Stop.LaidErr
namespace Go.Proofs.YtkjdigojajcgkaaDoor
open Go.RowKit

theorem gPow : Tryd.prog.globalNamed "internal/strconv.uint64pow10" = some 3 := by kernel_rfl

theorem portVars {w : World} (hL : laidMetH Tryd.prog Rows.portsAlikeUptoRow.laid w) (hsh : w.ShapedOpen Tryd.prog) : PortVars w := by
  have h0 : ∃ m, w.cell? ⟨0, 0, none⟩ = some (.int .i64 m) := cell_of_shapedOpen_int (t := 3) (zero := #[.int .i64 0]) hsh (of_decide_eq_true (by kernel_rfl)) (by kernel_rfl) rfl (by kernel_rfl) (by kernel_rfl) Tryd.underlying3
  have ht : Lib.TabIs Tryd.prog w "internal/strconv.uint64pow10" .u64 Lib.pow10Tab := by
    have e : Lib.pow10Tab = [1, 10, 100, 1000, 10000, 100000, 1000000, 10000000, 100000000, 1000000000, 10000000000, 100000000000, 1000000000000, 10000000000000, 100000000000000, 1000000000000000, 10000000000000000, 100000000000000000, 1000000000000000000, 10000000000000000000] := by decide +kernel
    rw [e]
    exact Lib.tabIs_of_head gPow (t := 108) (e := 68) (by kernel_rfl) Tryd.underlying108 Tryd.underlying68 (by kernel_rfl) (by kernel_rfl) (laidMet.tail (laidMet.tail hL))
  refine ⟨⟨h0, ht, ?_⟩, trivial, ht⟩
  obtain ⟨m, hm⟩ := h0
  have := World.block_lt_of_cell? w _ hm
  exact this

/-- what an outcome of bounded bulk is, as the walks want it -/
theorem oc_small {oc : Pt.Oc} {n : Nat} (h : oc.out.flatten.length + oc.out.length ≤ n ∧ oc.exn.length ≤ n) (hn : n ≤ 1048576) : oc.out.flatten.length ≤ 1048576 ∧ oc.out.length ≤ 1048576 ∧ oc.exn.length ≤ 1048576 := by omega

theorem mem_flat {ls : List (List UInt8)} {l : List UInt8} (h : l ∈ ls) : l.length ≤ ls.flatten.length := by
  induction ls with
  | nil => cases h
  | cons x r ih =>
    rw [List.flatten_cons, List.length_append]
    rcases List.mem_cons.1 h with rfl | h
    · omega
    · have := ih h; omega
end Go.Proofs.YtkjdigojajcgkaaDoor
