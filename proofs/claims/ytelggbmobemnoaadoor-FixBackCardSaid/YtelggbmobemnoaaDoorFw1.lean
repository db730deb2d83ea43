/- Walks of layer 1: Right, two, out, Sub, asked, and the reference's. -/
import Derived.Test.YtelggbmobemnoaaDoorChecked
import Derived.Test.YtelggbmobemnoaaDoorFx
import Derived.Test.YtelggbmobemnoaaDoorBase
namespace Go.Proofs.YtelggbmobemnoaaDoor
open Go.RowKit
open Fx

set_option maxHeartbeats 400000 in
theorem right_any (n : Int) (w : World) :
    Calls Tryd.prog 11 #[.int .i64 n] w fun e w' => e = .returned (.bool (rtB n)) ∧ w = w' := by
  rcases rt_cases n with h | ⟨h, h'⟩ | ⟨h, h'⟩
  · go_enter Tryd.func11, Tryd.ntmps11
    go_wp2
    go_ret
    exact ⟨ret_bool (rtB_f (by omega)).symm, rfl⟩
  · go_enter Tryd.func11, Tryd.ntmps11
    go_wp2
    all_goals go_ret
    all_goals exact ⟨ret_bool (rtB_f (by omega)).symm, rfl⟩
  · go_enter Tryd.func11, Tryd.ntmps11
    go_wp2
    go_ret
    exact ⟨ret_bool (rtB_t h h').symm, rfl⟩

set_option maxHeartbeats 400000 in
theorem rright_any (n : Int) (w : World) :
    Calls Tryd.prog 23 #[.int .i64 n] w fun e w' => e = .returned (.bool (rtB n)) ∧ w = w' := by
  rcases rt_cases n with h | ⟨h, h'⟩ | ⟨h, h'⟩
  · go_enter Tryd.func23, Tryd.ntmps23
    go_wp2
    go_ret
    exact ⟨ret_bool (rtB_f (by omega)).symm, rfl⟩
  · go_enter Tryd.func23, Tryd.ntmps23
    go_wp2
    all_goals go_ret
    all_goals exact ⟨ret_bool (rtB_f (by omega)).symm, rfl⟩
  · go_enter Tryd.func23, Tryd.ntmps23
    go_wp2
    go_ret
    exact ⟨ret_bool (rtB_t h h').symm, rfl⟩

set_option maxHeartbeats 400000 in
theorem two_any (a b : Int) (w : World) :
    Calls Tryd.prog 47 #[.int .i64 a, .int .i64 b] w fun e w' => e = .returned (.int .i64 (twoE a b)) ∧ w = w' := by
  cases ha : rtB a <;> cases hb : rtB b
  all_goals
    go_enter Tryd.func47, Tryd.ntmps47
    go_wp2_with (go_at_call 11; refine (right_any _ _).mono ?_; rintro e w' ⟨rfl, rfl⟩)
    go_ret
    exact ⟨ret_int (by simp [twoE, ha, hb]), rfl⟩

set_option maxHeartbeats 400000 in
theorem out_any (n : Int) (w : World) :
    Calls Tryd.prog 36 #[.int .i64 n] w fun e w' => e = .returned (.tuple #[.int .i64 (outV n), .int .i64 (outE n)]) ∧ w = w' := by
  cases hn : rtB n
  all_goals
    go_enter Tryd.func36, Tryd.ntmps36
    go_wp2_with (go_at_call 11; refine (right_any _ _).mono ?_; rintro e w' ⟨rfl, rfl⟩)
    go_ret2
    exact ⟨ret_pair (by simp [outV, hn]) (by simp [outE, hn]), rfl⟩

set_option maxHeartbeats 400000 in
theorem asked_any (a b : Int) (w : World) :
    Calls Tryd.prog 34 #[.int .i64 a, .int .i64 b] w fun e w' => e = .returned (.int .i64 (askE a b)) ∧ w = w' := by
  rcases fxask_cases a b with ⟨hk, ha, hb, h0⟩ | ⟨hk, ht, rfl⟩ | ⟨hk, ht⟩
  · have ht : twoE a b = 0 := by simp [twoE, ha, hb]
    go_enter Tryd.func34, Tryd.ntmps34
    go_wp2_with (go_at_call 47; refine (two_any _ _ _).mono ?_; rintro e w' ⟨rfl, rfl⟩)
    go_ret
    exact ⟨ret_int hk.symm, rfl⟩
  · go_enter Tryd.func34, Tryd.ntmps34
    go_wp2_with (go_at_call 47; refine (two_any _ _ _).mono ?_; rintro e w' ⟨rfl, rfl⟩)
    go_ret
    exact ⟨ret_int hk.symm, rfl⟩
  · go_enter Tryd.func34, Tryd.ntmps34
    go_wp2_with (go_at_call 47; refine (two_any _ _ _).mono ?_; rintro e w' ⟨rfl, rfl⟩)
    go_ret
    exact ⟨ret_int hk.symm, rfl⟩

end Go.Proofs.YtelggbmobemnoaaDoor
