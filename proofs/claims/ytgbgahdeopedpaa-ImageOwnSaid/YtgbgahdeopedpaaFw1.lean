/- Walks of layer 1: Right, two, out, Sub, asked, and the reference's. -/
import Derived.Test.YtgbgahdeopedpaaChecked
import Derived.Test.YtgbgahdeopedpaaFx
import Derived.Test.YtgbgahdeopedpaaBase
namespace Go.Proofs.Ytgbgahdeopedpaa
open Go.RowKit
open Fx

set_option maxHeartbeats 400000 in
theorem right_any (n : Int) (w : World) :
    Calls Try.prog 86 #[.int .i64 n] w fun e w' => e = .returned (.bool (rtB n)) ∧ w = w' := by
  rcases rt_cases n with h | ⟨h, h'⟩ | ⟨h, h'⟩
  · go_enter Try.func86, Try.ntmps86
    go_wp2
    go_ret
    exact ⟨ret_bool (rtB_f (by omega)).symm, rfl⟩
  · go_enter Try.func86, Try.ntmps86
    go_wp2
    all_goals go_ret
    all_goals exact ⟨ret_bool (rtB_f (by omega)).symm, rfl⟩
  · go_enter Try.func86, Try.ntmps86
    go_wp2
    go_ret
    exact ⟨ret_bool (rtB_t h h').symm, rfl⟩

set_option maxHeartbeats 400000 in
theorem rright_any (n : Int) (w : World) :
    Calls Try.prog 88 #[.int .i64 n] w fun e w' => e = .returned (.bool (rtB n)) ∧ w = w' := by
  rcases rt_cases n with h | ⟨h, h'⟩ | ⟨h, h'⟩
  · go_enter Try.func88, Try.ntmps88
    go_wp2
    go_ret
    exact ⟨ret_bool (rtB_f (by omega)).symm, rfl⟩
  · go_enter Try.func88, Try.ntmps88
    go_wp2
    all_goals go_ret
    all_goals exact ⟨ret_bool (rtB_f (by omega)).symm, rfl⟩
  · go_enter Try.func88, Try.ntmps88
    go_wp2
    go_ret
    exact ⟨ret_bool (rtB_t h h').symm, rfl⟩

end Go.Proofs.Ytgbgahdeopedpaa
