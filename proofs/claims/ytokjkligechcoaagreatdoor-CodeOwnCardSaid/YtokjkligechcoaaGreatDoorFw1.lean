/- The plain answers of layer 1: sums, differences, products, divisions of numbers of 63 bits, with the number of the error. No program in sight. -/
import Derived.Test.YtokjkligechcoaaGreatDoorChecked
import Derived.Test.YtokjkligechcoaaGreatDoorBase
namespace Go.Proofs.YtokjkligechcoaaGreatDoor.Fx
open Go.RowKit
/-- Is it a number? -/
def rtB (n : Int) : Bool := decide (-4611686018427387904 ≤ n ∧ n ≤ 4611686018427387903)
theorem rtB_t {n : Int} (h1 : -4611686018427387904 ≤ n) (h2 : n ≤ 4611686018427387903) : rtB n = true := decide_eq_true ⟨h1, h2⟩
theorem rtB_f {n : Int} (h : n < -4611686018427387904 ∨ 4611686018427387903 < n) : rtB n = false := decide_eq_false (by omega)
theorem rt_cases (n : Int) : n < -4611686018427387904 ∨ (4611686018427387903 < n ∧ ¬ n ≤ 4611686018427387903) ∨ (-4611686018427387904 ≤ n ∧ n ≤ 4611686018427387903) := by omega
def outE (n : Int) : Int := if rtB n then 0 else 10
def sgnE (m : Int) (s : Bool) : Int := outE (if s then -m else m)
end Go.Proofs.YtokjkligechcoaaGreatDoor.Fx
/- Walks of layer 1: Right, two, out, Sub, asked, and the reference's. -/
namespace Go.Proofs.YtokjkligechcoaaGreatDoor
open Go.RowKit
open Fx
set_option maxHeartbeats 400000 in
theorem right_any (n : Int) (w : World) :
  Calls Tryz.prog 138 #[.int .i64 n] w fun e w' => e = .returned (.bool (rtB n)) ∧ w = w' := by
 rcases rt_cases n with h | ⟨h, h'⟩ | ⟨h, h'⟩
 ·go_enter Tryz.func138, Tryz.ntmps138
  go_wp2
  go_ret
  exact ⟨ret_bool (rtB_f (by omega)).symm, rfl⟩
 ·go_enter Tryz.func138, Tryz.ntmps138
  go_wp2
  all_goals go_ret
  all_goals exact ⟨ret_bool (rtB_f (by omega)).symm, rfl⟩
 ·go_enter Tryz.func138, Tryz.ntmps138
  go_wp2
  go_ret
  exact ⟨ret_bool (rtB_t h h').symm, rfl⟩
set_option maxHeartbeats 400000 in
theorem rright_any (n : Int) (w : World) :
  Calls Tryz.prog 140 #[.int .i64 n] w fun e w' => e = .returned (.bool (rtB n)) ∧ w = w' := by
 rcases rt_cases n with h | ⟨h, h'⟩ | ⟨h, h'⟩
 ·go_enter Tryz.func140, Tryz.ntmps140
  go_wp2
  go_ret
  exact ⟨ret_bool (rtB_f (by omega)).symm, rfl⟩
 ·go_enter Tryz.func140, Tryz.ntmps140
  go_wp2
  all_goals go_ret
  all_goals exact ⟨ret_bool (rtB_f (by omega)).symm, rfl⟩
 ·go_enter Tryz.func140, Tryz.ntmps140
  go_wp2
  go_ret
  exact ⟨ret_bool (rtB_t h h').symm, rfl⟩
end Go.Proofs.YtokjkligechcoaaGreatDoor
