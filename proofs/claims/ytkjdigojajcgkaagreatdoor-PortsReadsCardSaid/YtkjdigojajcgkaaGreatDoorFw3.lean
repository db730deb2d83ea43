/- Walks of layer 1: the reference's divisions. -/
import Derived.Test.YtkjdigojajcgkaaGreatDoorFw2
namespace Go.Proofs.YtkjdigojajcgkaaGreatDoor
open Go.RowKit
open Fx

set_option maxHeartbeats 400000 in
theorem ramount_any (n : Int) (w : World) (hn : rtB n = true) :
    Calls Tryz.prog 56 #[.int .i64 n] w fun e w' => e = .returned (.int .u64 (amt n)) ∧ w = w' := by
  have h1 := rtB_lo hn
  have h2 := rtB_hi hn
  by_cases g : n < 0
  · have ha : Hid (amt n = -n) := amt_neg g
    go_enter Tryz.func56, Tryz.ntmps56
    go_wp2
    go_ret
    exact ⟨ret_int ha.out.symm, rfl⟩
  · have ha : Hid (amt n = n) := amt_pos (by omega)
    go_enter Tryz.func56, Tryz.ntmps56
    go_wp2
    go_ret
    exact ⟨ret_int ha.out.symm, rfl⟩

set_option maxHeartbeats 400000 in
theorem rsigned_t (m : Int) (w : World) (h0 : 0 ≤ m) (h1 : m ≤ 18446744073709551615) :
    Calls Tryz.prog 52 #[.int .u64 m, .bool true] w fun e w' => e = .returned (.tuple #[.int .i64 (sgnV m true), .int .i64 (sgnE m true)]) ∧ w = w' := by
  by_cases g : m ≤ 4611686018427387904
  · have hs : Hid (sgnV m true = -m ∧ sgnE m true = 0) := sgn_t1 h0 g
    have k : decide (m ≤ 4611686018427387904) = true := decide_eq_true g
    go_enter Tryz.func52, Tryz.ntmps52
    go_wp2
    go_ret2
    exact ⟨ret_pair hs.out.1.symm hs.out.2.symm, rfl⟩
  · have hs : Hid (sgnV m true = 0 ∧ sgnE m true = 10) := sgn_t2 (by omega)
    have k : decide (m ≤ 4611686018427387904) = false := decide_eq_false g
    go_enter Tryz.func52, Tryz.ntmps52
    go_wp2
    go_ret2
    exact ⟨ret_pair hs.out.1.symm hs.out.2.symm, rfl⟩

set_option maxHeartbeats 400000 in
theorem rsigned_f (m : Int) (w : World) (h0 : 0 ≤ m) (h1 : m ≤ 18446744073709551615) :
    Calls Tryz.prog 52 #[.int .u64 m, .bool false] w fun e w' => e = .returned (.tuple #[.int .i64 (sgnV m false), .int .i64 (sgnE m false)]) ∧ w = w' := by
  by_cases g : m ≤ 4611686018427387903
  · have hs : Hid (sgnV m false = m ∧ sgnE m false = 0) := sgn_f1 h0 g
    have k : decide (m ≤ 4611686018427387903) = true := decide_eq_true g
    go_enter Tryz.func52, Tryz.ntmps52
    go_wp2
    go_ret2
    exact ⟨ret_pair hs.out.1.symm hs.out.2.symm, rfl⟩
  · have hs : Hid (sgnV m false = 0 ∧ sgnE m false = 10) := sgn_f2 (by omega)
    have k : decide (m ≤ 4611686018427387903) = false := decide_eq_false g
    go_enter Tryz.func52, Tryz.ntmps52
    go_wp2
    go_ret2
    exact ⟨ret_pair hs.out.1.symm hs.out.2.symm, rfl⟩

theorem rsigned_any (m : Int) (s : Bool) (w : World) (h0 : 0 ≤ m) (h1 : m ≤ 18446744073709551615) :
    Calls Tryz.prog 52 #[.int .u64 m, .bool s] w fun e w' => e = .returned (.tuple #[.int .i64 (sgnV m s), .int .i64 (sgnE m s)]) ∧ w = w' := by
  cases s
  · exact rsigned_f m w h0 h1
  · exact rsigned_t m w h0 h1
end Go.Proofs.YtkjdigojajcgkaaGreatDoor
