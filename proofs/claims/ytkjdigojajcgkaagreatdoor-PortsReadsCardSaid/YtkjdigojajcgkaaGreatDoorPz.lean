/- What the rows of layer 21's readings give of the library's variables. -/
import Derived.Test.YtkjdigojajcgkaaGreatDoorRows
import Derived.Test.YtkjdigojajcgkaaGreatDoorPw3
import Derived.Lib.LaidTab
import Derived.Shelf.Vars
import Derived.KernelRfl
import Derived.Stop.LaidErr
namespace Go.Proofs.YtkjdigojajcgkaaGreatDoor
open Go.RowKit

theorem gPow : Tryz.prog.globalNamed "internal/strconv.uint64pow10" = some 3 := by kernel_rfl

theorem gErr : Tryz.prog.globalNamed "strconv.ErrSyntax" = some 6 := by kernel_rfl

theorem starEq : "*errors.errorString" = "*" ++ "errors.errorString" := by decide

theorem errRow (u : TypeId) (h : Tryz.prog.typeName? 3 u = some "*errors.errorString") : u = 156 :=
  typeName_ptr_named (nm := "errors.errorString") (by rw [← starEq]; kernel_rfl) (by kernel_rfl) (by decide) u (by rw [← starEq]; exact h)

theorem portVars {w : World} (hL : laidMetH Tryz.prog Rows.portsReadsRow.laid w) (hsh : w.ShapedOpen Tryz.prog) : PortVars w := by
  have h0 : ∃ m, w.cell? ⟨0, 0, none⟩ = some (.int .i64 m) := cell_of_shapedOpen_int (t := 3) (zero := #[.int .i64 0]) hsh (of_decide_eq_true (by kernel_rfl)) (by kernel_rfl) rfl (by kernel_rfl) (by kernel_rfl) Tryz.underlying3
  have ht : Lib.TabIs Tryz.prog w "internal/strconv.uint64pow10" .u64 Lib.pow10Tab := by
    have e : Lib.pow10Tab = [1, 10, 100, 1000, 10000, 100000, 1000000, 10000000, 100000000, 1000000000, 10000000000, 100000000000, 1000000000000, 10000000000000, 100000000000000, 1000000000000000, 10000000000000000, 100000000000000000, 1000000000000000000, 10000000000000000000] := by decide +kernel
    rw [e]
    exact Lib.tabIs_of_head gPow (t := 137) (e := 91) (by kernel_rfl) Tryz.underlying137 Tryz.underlying91 (by kernel_rfl) (by kernel_rfl) (laidMet.tail (laidMet.tail hL))
  have hz : 0 < w.heap.size := by
    obtain ⟨m, hm⟩ := h0
    have := World.block_lt_of_cell? w _ hm
    exact Nat.lt_of_le_of_lt (Nat.zero_le _) this
  have he : ErrAt w := by
    obtain ⟨a, s, hv, _⟩ := laid_sentinel (te := 158) (tp := 156) (ti := 72) (ts := 9) (laidMet.tail (laidMet.tail (laidMet.tail (laidMet.tail (laidMet.tail hL))))) gErr (by kernel_rfl) Tryz.underlying72 errRow Tryz.underlying156 Tryz.underlying158 rfl rfl Tryz.underlying9 (by kernel_rfl) (by kernel_rfl)
    have hc : w.cell? ⟨6, 0, none⟩ = some (.iface 156 (.pointer (some a))) := by simpa using World.var?_cell gErr hv 0
    refine ⟨?_, _, hc, .inr ⟨_, _, rfl⟩⟩
    exact World.block_lt_of_cell? w _ hc
  exact ⟨⟨h0, ht, hz⟩, he, ht⟩

/-- what an outcome of bounded bulk is, as the walks want it -/
theorem oc_small {oc : Pt.Oc} {n : Nat} (h : oc.out.flatten.length + oc.out.length ≤ n ∧ oc.exn.length ≤ n) (hn : n ≤ 1048576) : oc.out.flatten.length ≤ 1048576 ∧ oc.out.length ≤ 1048576 ∧ oc.exn.length ≤ 1048576 := by omega

theorem mem_flat {ls : List (List UInt8)} {l : List UInt8} (h : l ∈ ls) : l.length ≤ ls.flatten.length := by
  induction ls with
  | nil => cases h
  | cons x r ih =>
    rw [List.flatten_cons, List.length_append]
    rcases List.mem_cons.1 h with rfl | h
    · omega
    · have := ih h; omega
end Go.Proofs.YtkjdigojajcgkaaGreatDoor
