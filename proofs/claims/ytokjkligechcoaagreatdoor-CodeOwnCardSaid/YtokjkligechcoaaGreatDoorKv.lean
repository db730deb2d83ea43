/- Layer 16's arguments opened; what its rows give of the library's variables. -/
import Derived.Test.YtokjkligechcoaaGreatDoorOz
import Derived.Test.YtokjkligechcoaaGreatDoorKo
import Derived.Lib.LaidTab
import Derived.Shelf.Vars
import Derived.Stop.LaidErr
import Derived.Lay
import Derived.Deep.DeepHandedRow
set_option linter.unusedVariables false
namespace Go.Proofs.YtokjkligechcoaaGreatDoor
open Go.ChangeShapes Go.WideShapes Go.Deep Go.RowKit
open Opn
section
variable {H : Type} {enc : TypeId × Value → H} {w : World}
set_option maxRecDepth 100000 in
theorem prog_arg {base : Nat} {v : Value} {d : DataW H} {p : List MemPlace}
  (k : DataW.Trod enc Tryz.prog w 0 (fun _ => true) true 26 v d p) (o : Value.okWide Tryz.prog w .any base 26 v) (s : ∀ y ∈ DataW.weights Tryz.prog 26 d, y ≤ reachBytes) :
  ∃ (fa sa ra : Option Addr) (fc sc rc : Nat) (P : Pg), v = .agg #[.slice fa P.fs.length fc, .slice sa P.ss.length sc, .slice ra P.us.length rc, .int .i64 P.en] ∧ PgAt w fa sa ra P ∧ PgR P := by
 obtain ⟨fuel, hf⟩ := k
 obtain ⟨cs, rfl, hsz⟩ := okWide_struct Tryz.underlying26 o
 obtain ⟨hlen, -⟩ := open_st Tryz.underlying26 hf s
 obtain ⟨l⟩ := cs
 have hlen4 : l.length = 4 := by rw [show Tryz.prog.cellsOf 26 = 4 by kernel_rfl] at hlen; exact hlen
 obtain ⟨fa, sa, ra, fc, sc, rc, P, g, hP, hR⟩ := open_prog hf s hlen4
 have g2 : l = [.slice fa P.fs.length fc, .slice sa P.ss.length sc, .slice ra P.us.length rc, .int .i64 P.en] := g
 subst g2
 exact ⟨fa, sa, ra, fc, sc, rc, P, rfl, hP, hR⟩
end
theorem witness_row_shaped {H : Type} {enc : TypeId × Value → H} {C : Checked} {os : Os} {f : FuncId} {fn : Func} {s : OpenSpec} {conds : List PathCond} {apart : Bool} {laid : List (String × DataW Unit)} (modest : Bool) (w0 : World) (args : Array Value) (hos : w0.os = os)
  (hsh : (w0.forCall (fun _ _ => 0) ⟨#[], args, []⟩).Shaped C.prog)
  (hok : Input.okWideB C.prog (w0.forCall (fun _ _ => 0) ⟨#[], args, []⟩) f ⟨#[], args, []⟩ = true)
  (hrow : s.preRow enc C.prog fn conds apart laid (w0.forCall (fun _ _ => 0) ⟨#[], args, []⟩).memory args) :
  ∃ (w : World) (tape : Tape) (i : Input), w.os = os ∧ (w.forCall tape i).Shaped C.prog ∧ i.vars = [] ∧ Input.okWide C.prog (w.forCall tape i) .any w.heap.size f i ∧
   s.preRow enc C.prog fn conds apart laid (w.forCall tape i).memory i.args ∧ ({ modest := modest } : Assume).holds C.prog (lone (Frame.enter C.prog f i.args .normal) [] (w.forCall tape i)) :=
 ⟨w0, fun _ _ => 0, ⟨#[], args, []⟩, hos, hsh, (Input.okWide_of_okWideB (base := 0) hok).1, (Input.okWide_of_okWideB hok).2, hrow, by
  simp only [Assume.holds]
  exact ⟨by simp, by simp, fun _ => Modest.zero, by simp, by simp⟩⟩
theorem gPow16 : Tryz.prog.globalNamed "internal/strconv.uint64pow10" = some 2 := by kernel_rfl
theorem prVars {w : World} (hL : laidMetH Tryz.prog Rows.codeChecksRow.laid w) (hsh : w.ShapedOpen Tryz.prog) : PrVars w := by
 have h0 : ∃ m, w.cell? ⟨0, 0, none⟩ = some (.int .i64 m) := cell_of_shapedOpen_int (t := 3) (zero := #[.int .i64 0]) hsh (of_decide_eq_true (by kernel_rfl)) (by kernel_rfl) rfl (by kernel_rfl) (by kernel_rfl) Tryz.underlying3
 have ht : Lib.TabIs Tryz.prog w "internal/strconv.uint64pow10" .u64 Lib.pow10Tab := by
  have e : Lib.pow10Tab = [1, 10, 100, 1000, 10000, 100000, 1000000, 10000000, 100000000, 1000000000, 10000000000, 100000000000, 1000000000000, 10000000000000, 100000000000000, 1000000000000000, 10000000000000000, 100000000000000000, 1000000000000000000, 10000000000000000000] := by decide +kernel
  rw [e]
  exact Lib.tabIs_of_head gPow16 (t := 245) (e := 45) (by kernel_rfl) Tryz.underlying245 Tryz.underlying45 (by kernel_rfl) (by kernel_rfl) (laidMet.tail (laidMet.tail hL))
 refine ⟨h0, ht, ?_⟩
 obtain ⟨m, hm⟩ := h0
 have := World.block_lt_of_cell? w _ hm
 exact Nat.lt_of_le_of_lt (Nat.zero_le _) this
end Go.Proofs.YtokjkligechcoaaGreatDoor
