/- Walks of layer 1: Right, two, out, Sub, asked, and the reference's. -/
import Derived.Test.YtkjdigojajcgkaaDoorChecked
import Derived.Test.YtkjdigojajcgkaaDoorFx
import Derived.Test.YtkjdigojajcgkaaDoorBase
namespace Go.Proofs.YtkjdigojajcgkaaDoor
open Go.RowKit
open Fx

set_option maxHeartbeats 400000 in
theorem right_any (n : Int) (w : World) :
    Calls Tryd.prog 51 #[.int .i64 n] w fun e w' => e = .returned (.bool (rtB n)) ∧ w = w' := by
  rcases rt_cases n with h | ⟨h, h'⟩ | ⟨h, h'⟩
  · go_enter Tryd.func51, Tryd.ntmps51
    go_wp2
    go_ret
    exact ⟨ret_bool (rtB_f (by omega)).symm, rfl⟩
  · go_enter Tryd.func51, Tryd.ntmps51
    go_wp2
    all_goals go_ret
    all_goals exact ⟨ret_bool (rtB_f (by omega)).symm, rfl⟩
  · go_enter Tryd.func51, Tryd.ntmps51
    go_wp2
    go_ret
    exact ⟨ret_bool (rtB_t h h').symm, rfl⟩

set_option maxHeartbeats 400000 in
theorem rright_any (n : Int) (w : World) :
    Calls Tryd.prog 38 #[.int .i64 n] w fun e w' => e = .returned (.bool (rtB n)) ∧ w = w' := by
  rcases rt_cases n with h | ⟨h, h'⟩ | ⟨h, h'⟩
  · go_enter Tryd.func38, Tryd.ntmps38
    go_wp2
    go_ret
    exact ⟨ret_bool (rtB_f (by omega)).symm, rfl⟩
  · go_enter Tryd.func38, Tryd.ntmps38
    go_wp2
    all_goals go_ret
    all_goals exact ⟨ret_bool (rtB_f (by omega)).symm, rfl⟩
  · go_enter Tryd.func38, Tryd.ntmps38
    go_wp2
    go_ret
    exact ⟨ret_bool (rtB_t h h').symm, rfl⟩

end Go.Proofs.YtkjdigojajcgkaaDoor
