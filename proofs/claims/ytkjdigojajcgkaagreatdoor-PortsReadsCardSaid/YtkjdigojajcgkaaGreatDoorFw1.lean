/- Walks of layer 1: Right, two, out, Sub, asked, and the reference's. -/
import Derived.Test.YtkjdigojajcgkaaGreatDoorChecked
import Derived.Test.YtkjdigojajcgkaaGreatDoorFx
import Derived.Test.YtkjdigojajcgkaaGreatDoorBase
namespace Go.Proofs.YtkjdigojajcgkaaGreatDoor
open Go.RowKit
open Fx

set_option maxHeartbeats 400000 in
theorem right_any (n : Int) (w : World) :
    Calls Tryz.prog 61 #[.int .i64 n] w fun e w' => e = .returned (.bool (rtB n)) ∧ w = w' := by
  rcases rt_cases n with h | ⟨h, h'⟩ | ⟨h, h'⟩
  · go_enter Tryz.func61, Tryz.ntmps61
    go_wp2
    go_ret
    exact ⟨ret_bool (rtB_f (by omega)).symm, rfl⟩
  · go_enter Tryz.func61, Tryz.ntmps61
    go_wp2
    all_goals go_ret
    all_goals exact ⟨ret_bool (rtB_f (by omega)).symm, rfl⟩
  · go_enter Tryz.func61, Tryz.ntmps61
    go_wp2
    go_ret
    exact ⟨ret_bool (rtB_t h h').symm, rfl⟩

set_option maxHeartbeats 400000 in
theorem rright_any (n : Int) (w : World) :
    Calls Tryz.prog 54 #[.int .i64 n] w fun e w' => e = .returned (.bool (rtB n)) ∧ w = w' := by
  rcases rt_cases n with h | ⟨h, h'⟩ | ⟨h, h'⟩
  · go_enter Tryz.func54, Tryz.ntmps54
    go_wp2
    go_ret
    exact ⟨ret_bool (rtB_f (by omega)).symm, rfl⟩
  · go_enter Tryz.func54, Tryz.ntmps54
    go_wp2
    all_goals go_ret
    all_goals exact ⟨ret_bool (rtB_f (by omega)).symm, rfl⟩
  · go_enter Tryz.func54, Tryz.ntmps54
    go_wp2
    go_ret
    exact ⟨ret_bool (rtB_t h h').symm, rfl⟩

end Go.Proofs.YtkjdigojajcgkaaGreatDoor
