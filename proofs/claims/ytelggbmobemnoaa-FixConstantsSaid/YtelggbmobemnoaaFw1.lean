/- Walks of layer 1: Right, two, out, Sub, asked, and the reference's. -/
import Derived.Test.YtelggbmobemnoaaChecked
import Derived.Test.YtelggbmobemnoaaFx
import Derived.Test.YtelggbmobemnoaaBase
namespace Go.Proofs.Ytelggbmobemnoaa
open Go.RowKit
open Fx

set_option maxHeartbeats 400000 in
theorem right_any (n : Int) (w : World) :
    Calls Try.prog 28 #[.int .i64 n] w fun e w' => e = .returned (.bool (rtB n)) ∧ w = w' := by
  rcases rt_cases n with h | ⟨h, h'⟩ | ⟨h, h'⟩
  · go_enter Try.func28, Try.ntmps28
    go_wp2
    go_ret
    exact ⟨ret_bool (rtB_f (by omega)).symm, rfl⟩
  · go_enter Try.func28, Try.ntmps28
    go_wp2
    all_goals go_ret
    all_goals exact ⟨ret_bool (rtB_f (by omega)).symm, rfl⟩
  · go_enter Try.func28, Try.ntmps28
    go_wp2
    go_ret
    exact ⟨ret_bool (rtB_t h h').symm, rfl⟩

set_option maxHeartbeats 400000 in
theorem rright_any (n : Int) (w : World) :
    Calls Try.prog 29 #[.int .i64 n] w fun e w' => e = .returned (.bool (rtB n)) ∧ w = w' := by
  rcases rt_cases n with h | ⟨h, h'⟩ | ⟨h, h'⟩
  · go_enter Try.func29, Try.ntmps29
    go_wp2
    go_ret
    exact ⟨ret_bool (rtB_f (by omega)).symm, rfl⟩
  · go_enter Try.func29, Try.ntmps29
    go_wp2
    all_goals go_ret
    all_goals exact ⟨ret_bool (rtB_f (by omega)).symm, rfl⟩
  · go_enter Try.func29, Try.ntmps29
    go_wp2
    go_ret
    exact ⟨ret_bool (rtB_t h h').symm, rfl⟩

set_option maxHeartbeats 400000 in
theorem two_any (a b : Int) (w : World) :
    Calls Try.prog 39 #[.int .i64 a, .int .i64 b] w fun e w' => e = .returned (.int .i64 (twoE a b)) ∧ w = w' := by
  cases ha : rtB a <;> cases hb : rtB b
  all_goals
    go_enter Try.func39, Try.ntmps39
    go_wp2_with (go_at_call 28; refine (right_any _ _).mono ?_; rintro e w' ⟨rfl, rfl⟩)
    go_ret
    exact ⟨ret_int (by simp [twoE, ha, hb]), rfl⟩

set_option maxHeartbeats 400000 in
theorem out_any (n : Int) (w : World) :
    Calls Try.prog 35 #[.int .i64 n] w fun e w' => e = .returned (.tuple #[.int .i64 (outV n), .int .i64 (outE n)]) ∧ w = w' := by
  cases hn : rtB n
  all_goals
    go_enter Try.func35, Try.ntmps35
    go_wp2_with (go_at_call 28; refine (right_any _ _).mono ?_; rintro e w' ⟨rfl, rfl⟩)
    go_ret2
    exact ⟨ret_pair (by simp [outV, hn]) (by simp [outE, hn]), rfl⟩

set_option maxHeartbeats 400000 in
theorem rtold_any (n : Int) (w : World) :
    Calls Try.prog 32 #[.int .i64 n] w fun e w' => e = .returned (.tuple #[.int .i64 (outV n), .int .i64 (outE n)]) ∧ w = w' := by
  cases hn : rtB n
  all_goals
    go_enter Try.func32, Try.ntmps32
    go_wp2_with (go_at_call 29; refine (rright_any _ _).mono ?_; rintro e w' ⟨rfl, rfl⟩)
    go_ret2
    exact ⟨ret_pair (by simp [outV, hn]) (by simp [outE, hn]), rfl⟩

set_option maxHeartbeats 400000 in
theorem sub_any (a b : Int) (w : World) :
    Calls Try.prog 21 #[.int .i64 a, .int .i64 b] w fun e w' => e = .returned (.tuple #[.int .i64 (subV a b), .int .i64 (subE a b)]) ∧ w = w' := by
  rcases two_cases a b with ⟨ht, ha, hb⟩ | ⟨ht, ha⟩
  · have a1 := rtB_lo ha
    have a2 := rtB_hi ha
    have b1 := rtB_lo hb
    have b2 := rtB_hi hb
    go_enter Try.func21, Try.ntmps21
    go_wp2_with (first | (go_at_call 39; refine (two_any _ _ _).mono ?_; rintro e w' ⟨rfl, rfl⟩) | (go_at_call 35; refine (out_any _ _).mono ?_; rintro e w' ⟨rfl, rfl⟩))
    go_ret2
    exact ⟨ret_pair (by simp [subV, ht]) (by simp [subE, ht]), rfl⟩
  · go_enter Try.func21, Try.ntmps21
    go_wp2_with (go_at_call 39; refine (two_any _ _ _).mono ?_; rintro e w' ⟨rfl, rfl⟩)
    go_ret2
    exact ⟨ret_pair (by simp [subV, ht]) (by simp [subE, ht]), rfl⟩

set_option maxHeartbeats 400000 in
theorem rsub_any (a b : Int) (w : World) :
    Calls Try.prog 22 #[.int .i64 a, .int .i64 b] w fun e w' => e = .returned (.tuple #[.int .i64 (subV a b), .int .i64 (subE a b)]) ∧ w = w' := by
  cases ha : rtB a <;> cases hb : rtB b
  rotate_right
  · have a1 := rtB_lo ha
    have a2 := rtB_hi ha
    have b1 := rtB_lo hb
    have b2 := rtB_hi hb
    go_enter Try.func22, Try.ntmps22
    go_wp2_with (first | (go_at_call 29; refine (rright_any _ _).mono ?_; rintro e w' ⟨rfl, rfl⟩) | (go_at_call 32; refine (rtold_any _ _).mono ?_; rintro e w' ⟨rfl, rfl⟩))
    go_ret2
    exact ⟨ret_pair (by simp [subV, twoE, ha, hb]) (by simp [subE, twoE, ha, hb]), rfl⟩
  all_goals
    go_enter Try.func22, Try.ntmps22
    go_wp2_with (first | (go_at_call 29; refine (rright_any _ _).mono ?_; rintro e w' ⟨rfl, rfl⟩) | (go_at_call 32; refine (rtold_any _ _).mono ?_; rintro e w' ⟨rfl, rfl⟩))
    go_ret2
    exact ⟨ret_pair (by simp [subV, twoE, ha, hb]) (by simp [subE, twoE, ha, hb]), rfl⟩

set_option maxHeartbeats 400000 in
theorem asked_any (a b : Int) (w : World) :
    Calls Try.prog 33 #[.int .i64 a, .int .i64 b] w fun e w' => e = .returned (.int .i64 (askE a b)) ∧ w = w' := by
  rcases fxask_cases a b with ⟨hk, ha, hb, h0⟩ | ⟨hk, ht, rfl⟩ | ⟨hk, ht⟩
  · have ht : twoE a b = 0 := by simp [twoE, ha, hb]
    go_enter Try.func33, Try.ntmps33
    go_wp2_with (go_at_call 39; refine (two_any _ _ _).mono ?_; rintro e w' ⟨rfl, rfl⟩)
    go_ret
    exact ⟨ret_int hk.symm, rfl⟩
  · go_enter Try.func33, Try.ntmps33
    go_wp2_with (go_at_call 39; refine (two_any _ _ _).mono ?_; rintro e w' ⟨rfl, rfl⟩)
    go_ret
    exact ⟨ret_int hk.symm, rfl⟩
  · go_enter Try.func33, Try.ntmps33
    go_wp2_with (go_at_call 39; refine (two_any _ _ _).mono ?_; rintro e w' ⟨rfl, rfl⟩)
    go_ret
    exact ⟨ret_int hk.symm, rfl⟩

set_option maxHeartbeats 400000 in
theorem rasked_any (a b : Int) (w : World) :
    Calls Try.prog 36 #[.int .i64 a, .int .i64 b] w fun e w' => e = .returned (.int .i64 (askE a b)) ∧ w = w' := by
  by_cases h0 : b = 0
  · subst h0
    have hb : rtB 0 = true := rfl
    cases ha : rtB a
    all_goals
      go_enter Try.func36, Try.ntmps36
      go_wp2_with (go_at_call 29; refine (rright_any _ _).mono ?_; rintro e w' ⟨rfl, rfl⟩)
      go_ret
      exact ⟨ret_int (by simp [askE, twoE, ha, hb]), rfl⟩
  · have h1 : (b == 0) = false := by simp [h0]
    cases ha : rtB a <;> cases hb : rtB b
    all_goals
      go_enter Try.func36, Try.ntmps36
      go_wp2_with (go_at_call 29; refine (rright_any _ _).mono ?_; rintro e w' ⟨rfl, rfl⟩)
      go_ret
      exact ⟨ret_int (by simp [askE, twoE, ha, hb, h0]), rfl⟩

end Go.Proofs.Ytelggbmobemnoaa
