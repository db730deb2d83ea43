/- Walks of layer 1: the divisions. -/
import Derived.Test.YtelggbmobemnoaaDoorFw1
namespace Go.Proofs.YtelggbmobemnoaaDoor
open Go.RowKit
open Fx

set_option maxHeartbeats 400000 in
theorem floor_any (a b : Int) (w : World) (ha : rtB a = true) (hb : rtB b = true) (h0 : b ≠ 0) :
    Calls Tryd.prog 35 #[.int .i64 a, .int .i64 b] w fun e w' => e = .returned (.tuple #[.int .i64 (flrQ a b), .int .i64 (flrR a b)]) ∧ Drew w w' := by
  have ⟨d1, d2⟩ := tdiv_bd ha h0
  have ⟨d3, d4⟩ := tmod_bd a h0 hb
  have b1 := rtB_lo hb
  have b2 := rtB_hi hb
  have h0' : (b == 0) = false := by simp [h0]
  by_cases hr : a.tmod b = 0
  · have hr' : (a.tmod b != 0) = false := by simp [hr]
    have hq : Hid (flrQ a b = a.tdiv b ∧ flrR a b = a.tmod b) := by show _ ∧ _; simp [flrQ, flrR, hr]
    clear ha hb hr
    go_enter Tryd.func35, Tryd.ntmps35
    go_wp2
    go_quiet (fail)
    go_wp2
    go_ret2
    exact ⟨ret_pair hq.1.symm hq.2.symm, Drew.mk _ _⟩
  · have hr' : (a.tmod b != 0) = true := by simp [hr]
    by_cases g1 : a.tmod b < 0 <;> by_cases g2 : b < 0
    · have hq : Hid (flrQ a b = a.tdiv b ∧ flrR a b = a.tmod b) := by show _ ∧ _; simp [flrQ, flrR, g1, g2]
      have k1 : decide (a.tmod b < 0) = true := decide_eq_true g1
      have k2 : decide (b < 0) = true := decide_eq_true g2
      clear ha hb
      go_enter Tryd.func35, Tryd.ntmps35
      go_wp2
      go_quiet (fail)
      go_wp2
      go_ret2
      exact ⟨ret_pair hq.1.symm hq.2.symm, Drew.mk _ _⟩
    · have hq : Hid (flrQ a b = a.tdiv b - 1 ∧ flrR a b = a.tmod b + b) := by show _ ∧ _; simp [flrQ, flrR, g1, g2, hr]
      have k1 : decide (a.tmod b < 0) = true := decide_eq_true g1
      have k2 : decide (b < 0) = false := decide_eq_false g2
      clear ha hb
      go_enter Tryd.func35, Tryd.ntmps35
      go_wp2
      go_quiet (fail)
      go_wp2
      go_ret2
      exact ⟨ret_pair hq.1.symm hq.2.symm, Drew.mk _ _⟩
    · have hq : Hid (flrQ a b = a.tdiv b - 1 ∧ flrR a b = a.tmod b + b) := by show _ ∧ _; simp [flrQ, flrR, g1, g2, hr]
      have k1 : decide (a.tmod b < 0) = false := decide_eq_false g1
      have k2 : decide (b < 0) = true := decide_eq_true g2
      clear ha hb
      go_enter Tryd.func35, Tryd.ntmps35
      go_wp2
      go_quiet (fail)
      go_wp2
      go_ret2
      exact ⟨ret_pair hq.1.symm hq.2.symm, Drew.mk _ _⟩
    · have hq : Hid (flrQ a b = a.tdiv b ∧ flrR a b = a.tmod b) := by show _ ∧ _; simp [flrQ, flrR, g1, g2]
      have k1 : decide (a.tmod b < 0) = false := decide_eq_false g1
      have k2 : decide (b < 0) = false := decide_eq_false g2
      clear ha hb
      go_enter Tryd.func35, Tryd.ntmps35
      go_wp2
      go_quiet (fail)
      go_wp2
      go_ret2
      exact ⟨ret_pair hq.1.symm hq.2.symm, Drew.mk _ _⟩

set_option maxHeartbeats 400000 in
theorem div_any (a b : Int) (w : World) :
    Calls Tryd.prog 20 #[.int .i64 a, .int .i64 b] w fun e w' => e = .returned (.tuple #[.int .i64 (divV a b), .int .i64 (divE a b)]) ∧ Drew w w' := by
  rcases fxask_cases a b with ⟨hk, ha, hb, h0⟩ | ⟨hk, ht, rfl⟩ | ⟨hk, ht⟩
  · have b2 := flr_bd ha hb h0
    have b5 := b2.1
    have b6 := b2.2.1
    have b7 := b2.2.2.1
    have b8 := b2.2.2.2
    clear b2
    go_enter Tryd.func20, Tryd.ntmps20
    go_wp2_with (first | (go_at_call 34; refine (asked_any _ _ _).mono ?_; rintro e w' ⟨rfl, rfl⟩) | (go_at_call 36; refine (out_any _ _).mono ?_; rintro e w' ⟨rfl, rfl⟩) | (go_at_call 35; refine (floor_any _ _ _ ha hb h0).mono ?_; rintro e w' ⟨rfl, nd, rfl⟩))
    go_ret2
    exact ⟨ret_pair (by simp [divV, hk]) (by simp [divE, hk]), Drew.mk _ _⟩
  all_goals
    go_enter Tryd.func20, Tryd.ntmps20
    go_wp2_with (first | (go_at_call 34; refine (asked_any _ _ _).mono ?_; rintro e w' ⟨rfl, rfl⟩))
    go_ret2
    exact ⟨ret_pair (by simp [divV, hk]) (by simp [divE, hk]), Drew.refl _⟩
end Go.Proofs.YtelggbmobemnoaaDoor
