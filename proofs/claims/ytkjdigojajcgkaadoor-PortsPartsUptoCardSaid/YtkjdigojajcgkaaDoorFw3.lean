/- Walks of layer 1: the reference's divisions. -/
import Derived.Test.YtkjdigojajcgkaaDoorFw2
namespace Go.Proofs.YtkjdigojajcgkaaDoor
open Go.RowKit
open Fx

set_option maxHeartbeats 400000 in
theorem ramount_any (n : Int) (w : World) (hn : rtB n = true) :
    Calls Tryd.prog 40 #[.int .i64 n] w fun e w' => e = .returned (.int .u64 (amt n)) ∧ w = w' := by
  have h1 := rtB_lo hn
  have h2 := rtB_hi hn
  by_cases g : n < 0
  · have ha : Hid (amt n = -n) := amt_neg g
    go_enter Tryd.func40, Tryd.ntmps40
    go_wp2
    go_ret
    exact ⟨ret_int ha.out.symm, rfl⟩
  · have ha : Hid (amt n = n) := amt_pos (by omega)
    go_enter Tryd.func40, Tryd.ntmps40
    go_wp2
    go_ret
    exact ⟨ret_int ha.out.symm, rfl⟩
end Go.Proofs.YtkjdigojajcgkaaDoor
