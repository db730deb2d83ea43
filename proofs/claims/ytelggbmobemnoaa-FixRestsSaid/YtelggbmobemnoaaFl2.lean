/- The law FixRests, walked. -/
import Derived.Test.YtelggbmobemnoaaFl1
import Derived.Test.YtelggbmobemnoaaFx2
namespace Go.Proofs.Ytelggbmobemnoaa
open Go.RowKit
open Fx
set_option linter.unusedVariables false

/-- what the numbers of one division are known to be -/
structure Restful (a b : Int) : Prop where
  ask : askE a b = 0
  err : divE a b = 0 ∧ quotE a b = 0
  one : divV a b * b + modV a b = a
  two : quotV a b * b + remV a b = a
  p1 : -9223372036854775807 ≤ divV a b * b ∧ divV a b * b ≤ 9223372036854775807
  p2 : -9223372036854775807 ≤ quotV a b * b ∧ quotV a b * b ≤ 9223372036854775807
  bb : -4611686018427387904 ≤ b ∧ b ≤ 4611686018427387903
  ba : -4611686018427387904 ≤ a ∧ a ≤ 4611686018427387903

set_option maxHeartbeats 400000 in
theorem rests_p00 (a b : Int) (w : World) (h : Restful a b) (hb : 0 < b) (r1 : modV a b < b) (s1 : remV a b < b) (s2 : -b < remV a b) (r : (modV a b != 0) = false) (s : (remV a b != 0) = false) :
    Calls Try.prog 5 #[.int .i64 a, .int .i64 b] w fun e w' => e = .returned (.bool true) ∧ Below w.heap.size w w' := by
  obtain ⟨ask, ⟨err, err'⟩, one, two, ⟨p1, p1'⟩, ⟨p2, p2'⟩, ⟨b1, b1'⟩, ⟨a1, a1'⟩⟩ := h
  (have t1 : decide (b < 0) = false := by simp; omega)
  go_enter Try.func5, Try.ntmps5
  go_wp2_with (first | (go_at_call 12; refine (div_any _ _ _).mono ?_; rintro e w' ⟨rfl, n, rfl⟩) | (go_at_call 14; refine (mod_any _ _ _).mono ?_; rintro e w' ⟨rfl, n, rfl⟩) | (go_at_call 16; refine (quot_any _ _ _).mono ?_; rintro e w' ⟨rfl, rfl⟩) | (go_at_call 18; refine (rem_any _ _ _).mono ?_; rintro e w' ⟨rfl, rfl⟩) | (go_at_call 11; refine (alive_any _).mono ?_; rintro e w' ⟨rfl, hb⟩))
  go_ret
  exact ⟨rfl, (below_drewN (Below.refl _ _) _).trans (by assumption)⟩

set_option maxHeartbeats 400000 in
theorem rests_p01 (a b : Int) (w : World) (h : Restful a b) (hb : 0 < b) (r1 : modV a b < b) (s1 : remV a b < b) (s2 : -b < remV a b) (r : (modV a b != 0) = false) (s : (remV a b != 0) = true) (ss : 0 < remV a b) (sa : 0 ≤ a) :
    Calls Try.prog 5 #[.int .i64 a, .int .i64 b] w fun e w' => e = .returned (.bool true) ∧ Below w.heap.size w w' := by
  obtain ⟨ask, ⟨err, err'⟩, one, two, ⟨p1, p1'⟩, ⟨p2, p2'⟩, ⟨b1, b1'⟩, ⟨a1, a1'⟩⟩ := h
  (have t1 : decide (b < 0) = false := by simp; omega); (have t3 : decide (remV a b < 0) = false := by simp; omega); (have t4 : decide (a < 0) = false := by simp; omega)
  go_enter Try.func5, Try.ntmps5
  go_wp2_with (first | (go_at_call 12; refine (div_any _ _ _).mono ?_; rintro e w' ⟨rfl, n, rfl⟩) | (go_at_call 14; refine (mod_any _ _ _).mono ?_; rintro e w' ⟨rfl, n, rfl⟩) | (go_at_call 16; refine (quot_any _ _ _).mono ?_; rintro e w' ⟨rfl, rfl⟩) | (go_at_call 18; refine (rem_any _ _ _).mono ?_; rintro e w' ⟨rfl, rfl⟩) | (go_at_call 11; refine (alive_any _).mono ?_; rintro e w' ⟨rfl, hb⟩))
  go_ret
  exact ⟨rfl, (below_drewN (Below.refl _ _) _).trans (by assumption)⟩

set_option maxHeartbeats 400000 in
theorem rests_p02 (a b : Int) (w : World) (h : Restful a b) (hb : 0 < b) (r1 : modV a b < b) (s1 : remV a b < b) (s2 : -b < remV a b) (r : (modV a b != 0) = false) (s : (remV a b != 0) = true) (ss : remV a b < 0) (sa : a < 0) :
    Calls Try.prog 5 #[.int .i64 a, .int .i64 b] w fun e w' => e = .returned (.bool true) ∧ Below w.heap.size w w' := by
  obtain ⟨ask, ⟨err, err'⟩, one, two, ⟨p1, p1'⟩, ⟨p2, p2'⟩, ⟨b1, b1'⟩, ⟨a1, a1'⟩⟩ := h
  (have t1 : decide (b < 0) = false := by simp; omega); (have t3 : decide (remV a b < 0) = true := by simp; omega); (have t4 : decide (a < 0) = true := by simp; omega)
  go_enter Try.func5, Try.ntmps5
  go_wp2_with (first | (go_at_call 12; refine (div_any _ _ _).mono ?_; rintro e w' ⟨rfl, n, rfl⟩) | (go_at_call 14; refine (mod_any _ _ _).mono ?_; rintro e w' ⟨rfl, n, rfl⟩) | (go_at_call 16; refine (quot_any _ _ _).mono ?_; rintro e w' ⟨rfl, rfl⟩) | (go_at_call 18; refine (rem_any _ _ _).mono ?_; rintro e w' ⟨rfl, rfl⟩) | (go_at_call 11; refine (alive_any _).mono ?_; rintro e w' ⟨rfl, hb⟩))
  go_ret
  exact ⟨rfl, (below_drewN (Below.refl _ _) _).trans (by assumption)⟩

set_option maxHeartbeats 400000 in
theorem rests_p10 (a b : Int) (w : World) (h : Restful a b) (hb : 0 < b) (r1 : modV a b < b) (s1 : remV a b < b) (s2 : -b < remV a b) (r : (modV a b != 0) = true) (rs : 0 < modV a b) (s : (remV a b != 0) = false) :
    Calls Try.prog 5 #[.int .i64 a, .int .i64 b] w fun e w' => e = .returned (.bool true) ∧ Below w.heap.size w w' := by
  obtain ⟨ask, ⟨err, err'⟩, one, two, ⟨p1, p1'⟩, ⟨p2, p2'⟩, ⟨b1, b1'⟩, ⟨a1, a1'⟩⟩ := h
  (have t1 : decide (b < 0) = false := by simp; omega); (have t2 : decide (modV a b < 0) = false := by simp; omega)
  go_enter Try.func5, Try.ntmps5
  go_wp2_with (first | (go_at_call 12; refine (div_any _ _ _).mono ?_; rintro e w' ⟨rfl, n, rfl⟩) | (go_at_call 14; refine (mod_any _ _ _).mono ?_; rintro e w' ⟨rfl, n, rfl⟩) | (go_at_call 16; refine (quot_any _ _ _).mono ?_; rintro e w' ⟨rfl, rfl⟩) | (go_at_call 18; refine (rem_any _ _ _).mono ?_; rintro e w' ⟨rfl, rfl⟩) | (go_at_call 11; refine (alive_any _).mono ?_; rintro e w' ⟨rfl, hb⟩))
  go_ret
  exact ⟨rfl, (below_drewN (Below.refl _ _) _).trans (by assumption)⟩

set_option maxHeartbeats 400000 in
theorem rests_p11 (a b : Int) (w : World) (h : Restful a b) (hb : 0 < b) (r1 : modV a b < b) (s1 : remV a b < b) (s2 : -b < remV a b) (r : (modV a b != 0) = true) (rs : 0 < modV a b) (s : (remV a b != 0) = true) (ss : 0 < remV a b) (sa : 0 ≤ a) :
    Calls Try.prog 5 #[.int .i64 a, .int .i64 b] w fun e w' => e = .returned (.bool true) ∧ Below w.heap.size w w' := by
  obtain ⟨ask, ⟨err, err'⟩, one, two, ⟨p1, p1'⟩, ⟨p2, p2'⟩, ⟨b1, b1'⟩, ⟨a1, a1'⟩⟩ := h
  (have t1 : decide (b < 0) = false := by simp; omega); (have t2 : decide (modV a b < 0) = false := by simp; omega); (have t3 : decide (remV a b < 0) = false := by simp; omega); (have t4 : decide (a < 0) = false := by simp; omega)
  go_enter Try.func5, Try.ntmps5
  go_wp2_with (first | (go_at_call 12; refine (div_any _ _ _).mono ?_; rintro e w' ⟨rfl, n, rfl⟩) | (go_at_call 14; refine (mod_any _ _ _).mono ?_; rintro e w' ⟨rfl, n, rfl⟩) | (go_at_call 16; refine (quot_any _ _ _).mono ?_; rintro e w' ⟨rfl, rfl⟩) | (go_at_call 18; refine (rem_any _ _ _).mono ?_; rintro e w' ⟨rfl, rfl⟩) | (go_at_call 11; refine (alive_any _).mono ?_; rintro e w' ⟨rfl, hb⟩))
  go_ret
  exact ⟨rfl, (below_drewN (Below.refl _ _) _).trans (by assumption)⟩

set_option maxHeartbeats 400000 in
theorem rests_p12 (a b : Int) (w : World) (h : Restful a b) (hb : 0 < b) (r1 : modV a b < b) (s1 : remV a b < b) (s2 : -b < remV a b) (r : (modV a b != 0) = true) (rs : 0 < modV a b) (s : (remV a b != 0) = true) (ss : remV a b < 0) (sa : a < 0) :
    Calls Try.prog 5 #[.int .i64 a, .int .i64 b] w fun e w' => e = .returned (.bool true) ∧ Below w.heap.size w w' := by
  obtain ⟨ask, ⟨err, err'⟩, one, two, ⟨p1, p1'⟩, ⟨p2, p2'⟩, ⟨b1, b1'⟩, ⟨a1, a1'⟩⟩ := h
  (have t1 : decide (b < 0) = false := by simp; omega); (have t2 : decide (modV a b < 0) = false := by simp; omega); (have t3 : decide (remV a b < 0) = true := by simp; omega); (have t4 : decide (a < 0) = true := by simp; omega)
  go_enter Try.func5, Try.ntmps5
  go_wp2_with (first | (go_at_call 12; refine (div_any _ _ _).mono ?_; rintro e w' ⟨rfl, n, rfl⟩) | (go_at_call 14; refine (mod_any _ _ _).mono ?_; rintro e w' ⟨rfl, n, rfl⟩) | (go_at_call 16; refine (quot_any _ _ _).mono ?_; rintro e w' ⟨rfl, rfl⟩) | (go_at_call 18; refine (rem_any _ _ _).mono ?_; rintro e w' ⟨rfl, rfl⟩) | (go_at_call 11; refine (alive_any _).mono ?_; rintro e w' ⟨rfl, hb⟩))
  go_ret
  exact ⟨rfl, (below_drewN (Below.refl _ _) _).trans (by assumption)⟩

set_option maxHeartbeats 400000 in
theorem rests_n00 (a b : Int) (w : World) (h : Restful a b) (hb : b < 0) (r1 : b < modV a b) (s1 : b < remV a b) (s2 : remV a b < -b) (r : (modV a b != 0) = false) (s : (remV a b != 0) = false) :
    Calls Try.prog 5 #[.int .i64 a, .int .i64 b] w fun e w' => e = .returned (.bool true) ∧ Below w.heap.size w w' := by
  obtain ⟨ask, ⟨err, err'⟩, one, two, ⟨p1, p1'⟩, ⟨p2, p2'⟩, ⟨b1, b1'⟩, ⟨a1, a1'⟩⟩ := h
  (have t1 : decide (b < 0) = true := by simp; omega)
  go_enter Try.func5, Try.ntmps5
  go_wp2_with (first | (go_at_call 12; refine (div_any _ _ _).mono ?_; rintro e w' ⟨rfl, n, rfl⟩) | (go_at_call 14; refine (mod_any _ _ _).mono ?_; rintro e w' ⟨rfl, n, rfl⟩) | (go_at_call 16; refine (quot_any _ _ _).mono ?_; rintro e w' ⟨rfl, rfl⟩) | (go_at_call 18; refine (rem_any _ _ _).mono ?_; rintro e w' ⟨rfl, rfl⟩) | (go_at_call 11; refine (alive_any _).mono ?_; rintro e w' ⟨rfl, hb⟩))
  go_ret
  exact ⟨rfl, (below_drewN (Below.refl _ _) _).trans (by assumption)⟩

set_option maxHeartbeats 400000 in
theorem rests_n01 (a b : Int) (w : World) (h : Restful a b) (hb : b < 0) (r1 : b < modV a b) (s1 : b < remV a b) (s2 : remV a b < -b) (r : (modV a b != 0) = false) (s : (remV a b != 0) = true) (ss : 0 < remV a b) (sa : 0 ≤ a) :
    Calls Try.prog 5 #[.int .i64 a, .int .i64 b] w fun e w' => e = .returned (.bool true) ∧ Below w.heap.size w w' := by
  obtain ⟨ask, ⟨err, err'⟩, one, two, ⟨p1, p1'⟩, ⟨p2, p2'⟩, ⟨b1, b1'⟩, ⟨a1, a1'⟩⟩ := h
  (have t1 : decide (b < 0) = true := by simp; omega); (have t3 : decide (remV a b < 0) = false := by simp; omega); (have t4 : decide (a < 0) = false := by simp; omega)
  go_enter Try.func5, Try.ntmps5
  go_wp2_with (first | (go_at_call 12; refine (div_any _ _ _).mono ?_; rintro e w' ⟨rfl, n, rfl⟩) | (go_at_call 14; refine (mod_any _ _ _).mono ?_; rintro e w' ⟨rfl, n, rfl⟩) | (go_at_call 16; refine (quot_any _ _ _).mono ?_; rintro e w' ⟨rfl, rfl⟩) | (go_at_call 18; refine (rem_any _ _ _).mono ?_; rintro e w' ⟨rfl, rfl⟩) | (go_at_call 11; refine (alive_any _).mono ?_; rintro e w' ⟨rfl, hb⟩))
  go_ret
  exact ⟨rfl, (below_drewN (Below.refl _ _) _).trans (by assumption)⟩

set_option maxHeartbeats 400000 in
theorem rests_n02 (a b : Int) (w : World) (h : Restful a b) (hb : b < 0) (r1 : b < modV a b) (s1 : b < remV a b) (s2 : remV a b < -b) (r : (modV a b != 0) = false) (s : (remV a b != 0) = true) (ss : remV a b < 0) (sa : a < 0) :
    Calls Try.prog 5 #[.int .i64 a, .int .i64 b] w fun e w' => e = .returned (.bool true) ∧ Below w.heap.size w w' := by
  obtain ⟨ask, ⟨err, err'⟩, one, two, ⟨p1, p1'⟩, ⟨p2, p2'⟩, ⟨b1, b1'⟩, ⟨a1, a1'⟩⟩ := h
  (have t1 : decide (b < 0) = true := by simp; omega); (have t3 : decide (remV a b < 0) = true := by simp; omega); (have t4 : decide (a < 0) = true := by simp; omega)
  go_enter Try.func5, Try.ntmps5
  go_wp2_with (first | (go_at_call 12; refine (div_any _ _ _).mono ?_; rintro e w' ⟨rfl, n, rfl⟩) | (go_at_call 14; refine (mod_any _ _ _).mono ?_; rintro e w' ⟨rfl, n, rfl⟩) | (go_at_call 16; refine (quot_any _ _ _).mono ?_; rintro e w' ⟨rfl, rfl⟩) | (go_at_call 18; refine (rem_any _ _ _).mono ?_; rintro e w' ⟨rfl, rfl⟩) | (go_at_call 11; refine (alive_any _).mono ?_; rintro e w' ⟨rfl, hb⟩))
  go_ret
  exact ⟨rfl, (below_drewN (Below.refl _ _) _).trans (by assumption)⟩

set_option maxHeartbeats 400000 in
theorem rests_n10 (a b : Int) (w : World) (h : Restful a b) (hb : b < 0) (r1 : b < modV a b) (s1 : b < remV a b) (s2 : remV a b < -b) (r : (modV a b != 0) = true) (rs : modV a b < 0) (s : (remV a b != 0) = false) :
    Calls Try.prog 5 #[.int .i64 a, .int .i64 b] w fun e w' => e = .returned (.bool true) ∧ Below w.heap.size w w' := by
  obtain ⟨ask, ⟨err, err'⟩, one, two, ⟨p1, p1'⟩, ⟨p2, p2'⟩, ⟨b1, b1'⟩, ⟨a1, a1'⟩⟩ := h
  (have t1 : decide (b < 0) = true := by simp; omega); (have t2 : decide (modV a b < 0) = true := by simp; omega)
  go_enter Try.func5, Try.ntmps5
  go_wp2_with (first | (go_at_call 12; refine (div_any _ _ _).mono ?_; rintro e w' ⟨rfl, n, rfl⟩) | (go_at_call 14; refine (mod_any _ _ _).mono ?_; rintro e w' ⟨rfl, n, rfl⟩) | (go_at_call 16; refine (quot_any _ _ _).mono ?_; rintro e w' ⟨rfl, rfl⟩) | (go_at_call 18; refine (rem_any _ _ _).mono ?_; rintro e w' ⟨rfl, rfl⟩) | (go_at_call 11; refine (alive_any _).mono ?_; rintro e w' ⟨rfl, hb⟩))
  go_ret
  exact ⟨rfl, (below_drewN (Below.refl _ _) _).trans (by assumption)⟩

set_option maxHeartbeats 400000 in
theorem rests_n11 (a b : Int) (w : World) (h : Restful a b) (hb : b < 0) (r1 : b < modV a b) (s1 : b < remV a b) (s2 : remV a b < -b) (r : (modV a b != 0) = true) (rs : modV a b < 0) (s : (remV a b != 0) = true) (ss : 0 < remV a b) (sa : 0 ≤ a) :
    Calls Try.prog 5 #[.int .i64 a, .int .i64 b] w fun e w' => e = .returned (.bool true) ∧ Below w.heap.size w w' := by
  obtain ⟨ask, ⟨err, err'⟩, one, two, ⟨p1, p1'⟩, ⟨p2, p2'⟩, ⟨b1, b1'⟩, ⟨a1, a1'⟩⟩ := h
  (have t1 : decide (b < 0) = true := by simp; omega); (have t2 : decide (modV a b < 0) = true := by simp; omega); (have t3 : decide (remV a b < 0) = false := by simp; omega); (have t4 : decide (a < 0) = false := by simp; omega)
  go_enter Try.func5, Try.ntmps5
  go_wp2_with (first | (go_at_call 12; refine (div_any _ _ _).mono ?_; rintro e w' ⟨rfl, n, rfl⟩) | (go_at_call 14; refine (mod_any _ _ _).mono ?_; rintro e w' ⟨rfl, n, rfl⟩) | (go_at_call 16; refine (quot_any _ _ _).mono ?_; rintro e w' ⟨rfl, rfl⟩) | (go_at_call 18; refine (rem_any _ _ _).mono ?_; rintro e w' ⟨rfl, rfl⟩) | (go_at_call 11; refine (alive_any _).mono ?_; rintro e w' ⟨rfl, hb⟩))
  go_ret
  exact ⟨rfl, (below_drewN (Below.refl _ _) _).trans (by assumption)⟩

set_option maxHeartbeats 400000 in
theorem rests_n12 (a b : Int) (w : World) (h : Restful a b) (hb : b < 0) (r1 : b < modV a b) (s1 : b < remV a b) (s2 : remV a b < -b) (r : (modV a b != 0) = true) (rs : modV a b < 0) (s : (remV a b != 0) = true) (ss : remV a b < 0) (sa : a < 0) :
    Calls Try.prog 5 #[.int .i64 a, .int .i64 b] w fun e w' => e = .returned (.bool true) ∧ Below w.heap.size w w' := by
  obtain ⟨ask, ⟨err, err'⟩, one, two, ⟨p1, p1'⟩, ⟨p2, p2'⟩, ⟨b1, b1'⟩, ⟨a1, a1'⟩⟩ := h
  (have t1 : decide (b < 0) = true := by simp; omega); (have t2 : decide (modV a b < 0) = true := by simp; omega); (have t3 : decide (remV a b < 0) = true := by simp; omega); (have t4 : decide (a < 0) = true := by simp; omega)
  go_enter Try.func5, Try.ntmps5
  go_wp2_with (first | (go_at_call 12; refine (div_any _ _ _).mono ?_; rintro e w' ⟨rfl, n, rfl⟩) | (go_at_call 14; refine (mod_any _ _ _).mono ?_; rintro e w' ⟨rfl, n, rfl⟩) | (go_at_call 16; refine (quot_any _ _ _).mono ?_; rintro e w' ⟨rfl, rfl⟩) | (go_at_call 18; refine (rem_any _ _ _).mono ?_; rintro e w' ⟨rfl, rfl⟩) | (go_at_call 11; refine (alive_any _).mono ?_; rintro e w' ⟨rfl, hb⟩))
  go_ret
  exact ⟨rfl, (below_drewN (Below.refl _ _) _).trans (by assumption)⟩

theorem fixRests_zero (a b : Int) (w : World) (h : Restful a b) (hb0 : b ≠ 0) (m1 : 0 < b → 0 ≤ modV a b ∧ modV a b < b) (m2 : b < 0 → b < modV a b ∧ modV a b ≤ 0) (q1 : - amt b < remV a b) (q2 : remV a b < amt b) (q3 : remV a b < 0 → a < 0) (q4 : 0 < remV a b → 0 ≤ a) :
    Calls Try.prog 5 #[.int .i64 a, .int .i64 b] w fun e w' => e = .returned (.bool true) ∧ Below w.heap.size w w' := by
  have z : ∀ {x : Int}, x = 0 → (x != 0) = false := fun h => by simp [h]
  have y : ∀ {x : Int}, x ≠ 0 → (x != 0) = true := fun h => by simp [h]
  by_cases hb : 0 < b
  · rw [amt_pos (by omega)] at q1 q2
    have m := m1 hb
    by_cases hr : modV a b = 0
    · rcases (by omega : remV a b = 0 ∨ 0 < remV a b ∨ remV a b < 0) with hs | hs | hs
      · exact rests_p00 a b w h hb m.2 q2 q1 (z hr) (z hs)
      · exact rests_p01 a b w h hb m.2 q2 q1 (z hr) (y (by omega)) hs (q4 hs)
      · exact rests_p02 a b w h hb m.2 q2 q1 (z hr) (y (by omega)) hs (q3 hs)
    · rcases (by omega : remV a b = 0 ∨ 0 < remV a b ∨ remV a b < 0) with hs | hs | hs
      · exact rests_p10 a b w h hb m.2 q2 q1 (y hr) (by omega) (z hs)
      · exact rests_p11 a b w h hb m.2 q2 q1 (y hr) (by omega) (y (by omega)) hs (q4 hs)
      · exact rests_p12 a b w h hb m.2 q2 q1 (y hr) (by omega) (y (by omega)) hs (q3 hs)
  · have hb : b < 0 := by omega
    rw [amt_neg hb] at q1 q2
    have m := m2 hb
    by_cases hr : modV a b = 0
    · rcases (by omega : remV a b = 0 ∨ 0 < remV a b ∨ remV a b < 0) with hs | hs | hs
      · exact rests_n00 a b w h hb m.1 (by omega) q2 (z hr) (z hs)
      · exact rests_n01 a b w h hb m.1 (by omega) q2 (z hr) (y (by omega)) hs (q4 hs)
      · exact rests_n02 a b w h hb m.1 (by omega) q2 (z hr) (y (by omega)) hs (q3 hs)
    · rcases (by omega : remV a b = 0 ∨ 0 < remV a b ∨ remV a b < 0) with hs | hs | hs
      · exact rests_n10 a b w h hb m.1 (by omega) q2 (y hr) (by omega) (z hs)
      · exact rests_n11 a b w h hb m.1 (by omega) q2 (y hr) (by omega) (y (by omega)) hs (q4 hs)
      · exact rests_n12 a b w h hb m.1 (by omega) q2 (y hr) (by omega) (y (by omega)) hs (q3 hs)

set_option maxHeartbeats 400000 in
theorem fixRests_over (a : Int) (w : World) (k : askE a (-1) = 0) (d : divE a (-1) = 10) (q : quotE a (-1) = 10) (r : modV a (-1) = 0) (s : remV a (-1) = 0) :
    Calls Try.prog 5 #[.int .i64 a, .int .i64 (-1)] w fun e w' => e = .returned (.bool true) ∧ Below w.heap.size w w' := by
  go_enter Try.func5, Try.ntmps5
  go_wp2_with (first | (go_at_call 12; refine (div_any _ _ _).mono ?_; rintro e w' ⟨rfl, n, rfl⟩) | (go_at_call 14; refine (mod_any _ _ _).mono ?_; rintro e w' ⟨rfl, n, rfl⟩) | (go_at_call 16; refine (quot_any _ _ _).mono ?_; rintro e w' ⟨rfl, rfl⟩) | (go_at_call 18; refine (rem_any _ _ _).mono ?_; rintro e w' ⟨rfl, rfl⟩) | (go_at_call 11; refine (alive_any _).mono ?_; rintro e w' ⟨rfl, hb⟩))
  go_ret
  exact ⟨rfl, (below_drewN (Below.refl _ _) _).trans (by assumption)⟩

set_option maxHeartbeats 400000 in
theorem fixRests_err (a b : Int) (w : World) (k : askE a b = 11 ∨ askE a b = 1) :
    Calls Try.prog 5 #[.int .i64 a, .int .i64 b] w fun e w' => e = .returned (.bool true) ∧ Below w.heap.size w w' := by
  have hdq := divE_quotE a b
  rcases k with hk | hk
  all_goals
    have hq : quotE a b = askE a b := by simp [quotE, hk]
    rw [hk] at hq
    go_enter Try.func5, Try.ntmps5
    go_wp2_with (first | (go_at_call 12; refine (div_any _ _ _).mono ?_; rintro e w' ⟨rfl, n, rfl⟩) | (go_at_call 14; refine (mod_any _ _ _).mono ?_; rintro e w' ⟨rfl, n, rfl⟩) | (go_at_call 16; refine (quot_any _ _ _).mono ?_; rintro e w' ⟨rfl, rfl⟩) | (go_at_call 18; refine (rem_any _ _ _).mono ?_; rintro e w' ⟨rfl, rfl⟩) | (go_at_call 11; refine (alive_any _).mono ?_; rintro e w' ⟨rfl, hb⟩))
    go_ret
    exact ⟨rfl, (below_drewN (Below.refl _ _) _).trans (by assumption)⟩

theorem fixRests_walk (a b : Int) (w : World) :
    Calls Try.prog 5 #[.int .i64 a, .int .i64 b] w fun e w' => e = .returned (.bool true) ∧ Below w.heap.size w w' := by
  rcases fxask_cases a b with ⟨hk, ha, hb, h0⟩ | ⟨hk, ht, h0⟩ | ⟨hk, ht⟩
  · obtain ⟨m1, m2, ⟨q1, q2⟩, q3, q4, h⟩ := rests hk ha hb h0
    have hdq := divE_quotE a b
    rcases h with ⟨he, h1, h2⟩ | ⟨he, rfl, hm, hr⟩
    · have a1 := rtB_lo ha
      have a2 := rtB_hi ha
      have b1 := rtB_lo hb
      have b2 := rtB_hi hb
      have r1 := modV_bd ha hb h0 hk
      have r2 := remV_bd hk hb h0
      exact fixRests_zero a b w ⟨hk, ⟨hdq.trans he, he⟩, h1, h2, ⟨by omega, by omega⟩, ⟨by omega, by omega⟩, ⟨b1, b2⟩, ⟨a1, a2⟩⟩ h0 m1 m2 q1 q2 q3 q4
    · exact fixRests_over a w hk (hdq.trans he) he hm hr
  · exact fixRests_err a b w (.inl hk)
  · exact fixRests_err a b w (.inr hk)

end Go.Proofs.Ytelggbmobemnoaa
