/- Walks of layer 1: the reference's sums; opposites, amounts; that the program is alive. -/
import Derived.Test.YtelggbmobemnoaaFw2
import Derived.Test.YtelggbmobemnoaaFw4
namespace Go.Proofs.Ytelggbmobemnoaa
open Go.RowKit
open Fx
set_option linter.unusedVariables false

set_option maxHeartbeats 400000 in
theorem radd_nil (a : Option Addr) (cap : Nat) (w : World) :
    Calls Try.prog 10 #[.slice a 0 cap] w fun e w' => e = .returned (.tuple #[.int .i64 0, .int .i64 0]) ∧ w = w' := by
  go_enter Try.func10, Try.ntmps10
  go_wp2
  go_loop [4] (fun i => i = .int .i64 0) (fun _ => 0)
  case atStart => rfl
  case round =>
    obtain rfl := hrel
    go_wp2
    go_loop [5, 6] (fun s i => s = .int .i64 0 ∧ i = .int .i64 0) (fun _ _ => 0)
    case atStart => exact ⟨rfl, rfl⟩
    case round =>
      obtain ⟨rfl, rfl⟩ := hrel
      go_wp2
      go_ret2
      exact ⟨rfl, rfl⟩

set_option maxHeartbeats 400000 in
theorem radd_full (b off : Nat) (l : List Int) (cap : Nat) (w : World) (hm : l.length ≤ maxLen) (hc : ∀ i, i < l.length → w.cell? ⟨b, off + i, none⟩ = some (.int .i64 (l.getD i 0))) :
    Calls Try.prog 10 #[.slice (some ⟨b, off, none⟩) l.length cap] w fun e w' => e = .returned (.tuple #[.int .i64 (addV l), .int .i64 (addE l)]) ∧ w = w' := by
  unfold maxLen at hm
  have HC := Lib.hid hc
  clear hc
  go_enter Try.func10, Try.ntmps10
  go_wp2
  go_loop [4] (fun i => ∃ k : Nat, k ≤ l.length ∧ i = .int .i64 k ∧ (l.take k).all rtB = true) (fun i => l.length - (intOf i).toNat)
  case atStart => exact ⟨0, Nat.zero_le _, rfl, rfl⟩
  case round =>
    obtain ⟨k, hk, rfl, ha⟩ := hrel
    by_cases hlt : k < l.length
    · obtain ⟨x, hx⟩ : ∃ x, l.getD k 0 = x := ⟨_, rfl⟩
      have hcell := HC.out k hlt
      rw [hx] at hcell
      have HX := Lib.hid hx
      have HA := Lib.hid ha
      clear ha hx
      cases hr : rtB x
      · have HE := Lib.hid (add_no hlt (HX.out ▸ hr))
        go_wp2_with (go_at_call 29; refine (rright_any _ _).mono ?_; rintro e w' ⟨rfl, rfl⟩)
        go_ret2
        exact ⟨ret_pair HE.out.1.symm HE.out.2.symm, rfl⟩
      · go_wp2_with (go_at_call 29; refine (rright_any _ _).mono ?_; rintro e w' ⟨rfl, rfl⟩)
        go_round
        case rel => exact ⟨k + 1, by omega, by go_num, all_snoc' hlt HX.out HA.out hr⟩
        case measure => simp [intOf]; omega
    · obtain rfl : k = l.length := by omega
      rw [List.take_length] at ha
      have HA := Lib.hid ha
      clear ha
      go_wp2
      go_loop [5, 6] (fun s i => ∃ k : Nat, ∃ t : Int, k ≤ l.length ∧ i = .int .i64 k ∧ s = .int .i64 t ∧ sumS (l.take k) 0 = some t) (fun _ i => l.length - (intOf i).toNat)
      case atStart => exact ⟨0, 0, Nat.zero_le _, rfl, rfl, rfl⟩
      case round =>
        obtain ⟨k, t, hk, rfl, rfl, hs⟩ := hrel
        have ht := sum_rt (by rfl) hs
        have t1 := rtB_lo ht
        have t2 := rtB_hi ht
        clear ht
        by_cases hlt : k < l.length
        · obtain ⟨x, hx⟩ : ∃ x, l.getD k 0 = x := ⟨_, rfl⟩
          have hcell := HC.out k hlt
          rw [hx] at hcell
          have hr := all_at hlt hx HA.out
          have x1 := rtB_lo hr
          have x2 := rtB_hi hr
          have HS := Lib.hid hs
          have HX := Lib.hid hx
          clear hs hx hr
          cases hr : rtB (t + x)
          · have HE := Lib.hid (add_over hlt HA.out HS.out (HX.out ▸ hr))
            have ho := outE_f hr
            have hv := outV_f hr
            go_wp2_with (go_at_call 32; refine (rtold_any _ _).mono ?_; rintro e w' ⟨rfl, rfl⟩)
            go_ret2
            exact ⟨ret_pair HE.out.1.symm HE.out.2.symm, rfl⟩
          · have ho := outE_t hr
            have hv := outV_t hr
            go_wp2_with (go_at_call 32; refine (rtold_any _ _).mono ?_; rintro e w' ⟨rfl, rfl⟩)
            go_round
            case rel => exact ⟨k + 1, t + x, by omega, by go_num, rfl, sum_snoc' hlt HX.out HS.out hr⟩
            case measure => simp [intOf]; omega
        · obtain rfl : k = l.length := by omega
          rw [List.take_length] at hs
          have HE := Lib.hid (add_end HA.out hs)
          clear hs
          go_wp2
          go_ret2
          exact ⟨ret_pair HE.out.1.symm HE.out.2.symm, rfl⟩

theorem add_any (a : Option Addr) (l : List Int) (cap : Nat) (w : World) (h : IntsAt .i64 w a l) :
    Calls Try.prog 9 #[.slice a l.length cap] w fun e w' => e = .returned (.tuple #[.int .i64 (addV l), .int .i64 (addE l)]) ∧ w = w' := by
  obtain ⟨hm, rfl | ⟨b, off, rfl, hc⟩⟩ := h
  · exact add_nil a cap w
  · exact add_full b off l cap w hm hc
theorem radd_any (a : Option Addr) (l : List Int) (cap : Nat) (w : World) (h : IntsAt .i64 w a l) :
    Calls Try.prog 10 #[.slice a l.length cap] w fun e w' => e = .returned (.tuple #[.int .i64 (addV l), .int .i64 (addE l)]) ∧ w = w' := by
  obtain ⟨hm, rfl | ⟨b, off, rfl, hc⟩⟩ := h
  · exact radd_nil a cap w
  · exact radd_full b off l cap w hm hc

/-- A new block of numbers reads as they are. -/
theorem intsAt_new (k : IntKind) (w : World) (l : List Int) (T : TypeId) (hl : l.length ≤ maxLen) : IntsAt k (w.alloc (.cells (l.map (Value.int k)).toArray T)) (some ⟨w.heap.size, 0, none⟩) l := by
  refine ⟨hl, .inr ⟨w.heap.size, 0, rfl, fun i hi => ?_⟩⟩
  simp [hi]

theorem add_three (w : World) : Calls Try.prog 9 #[.slice (some ⟨w.heap.size, 0, none⟩) 3 3] (w.alloc (.cells #[.int .i64 2, .int .i64 3, .int .i64 (-7)] 2)) fun e w' => e = .returned (.tuple #[.int .i64 (-2), .int .i64 0]) ∧ w.alloc (.cells #[.int .i64 2, .int .i64 3, .int .i64 (-7)] 2) = w' :=
  (add_any _ [2, 3, -7] 3 _ (intsAt_new .i64 w [2, 3, -7] 2 (by decide))).mono fun e w' ⟨he, hw⟩ => ⟨he.trans (ret_pair (by decide) (by decide)), hw⟩

theorem add_1 (a : Int) (w : World) : Calls Try.prog 9 #[.slice (some ⟨w.heap.size, 0, none⟩) 1 1] (w.alloc (.cells #[.int .i64 a] 2)) fun e w' => e = .returned (.tuple #[.int .i64 (subV a 0), .int .i64 (subE a 0)]) ∧ w.alloc (.cells #[.int .i64 a] 2) = w' :=
  (add_any _ [a] 1 _ (intsAt_new .i64 w [a] 2 (by simp [maxLen]))).mono fun e w' ⟨he, hw⟩ => ⟨he.trans (ret_pair (add_one a).1 (add_one a).2), hw⟩

theorem div_alive (w : World) : Calls Try.prog 12 #[.int .i64 (-7), .int .i64 2] w fun e w' => e = .returned (.tuple #[.int .i64 (-4), .int .i64 0]) ∧ Drew w w' :=
  (div_any (-7) 2 w).mono fun e w' ⟨he, hw⟩ => ⟨he.trans (ret_pair (by decide) (by decide)), hw⟩

set_option maxHeartbeats 400000 in
theorem alive_any (w : World) : Calls Try.prog 11 #[] w fun e w' => e = .returned (.bool true) ∧ Below w.heap.size w w' := by
  go_enter Try.func11, Try.ntmps11
  go_wp2_with (first | (go_at_call 9; refine (add_three _).mono ?_; rintro e w' ⟨rfl, rfl⟩) | (go_at_call 12; refine (div_alive _).mono ?_; rintro e w' ⟨rfl, nd, rfl⟩))
  go_ret
  exact ⟨rfl, below_drewN ((Below.refl _ _).alloc (Nat.le_refl _) _) _⟩

set_option maxHeartbeats 400000 in
theorem neg_any (a : Int) (w : World) :
    Calls Try.prog 24 #[.int .i64 a] w fun e w' => e = .returned (.tuple #[.int .i64 (subV 0 a), .int .i64 (subE 0 a)]) ∧ w = w' := by
  go_enter Try.func24, Try.ntmps24
  go_wp2_with (first | (go_at_call 21; refine (sub_any _ _ _).mono ?_; rintro e w' ⟨rfl, rfl⟩))
  go_ret2
  exact ⟨rfl, rfl⟩

set_option maxHeartbeats 400000 in
theorem rneg_any (a : Int) (w : World) :
    Calls Try.prog 25 #[.int .i64 a] w fun e w' => e = .returned (.tuple #[.int .i64 (subV 0 a), .int .i64 (subE 0 a)]) ∧ w = w' := by
  go_enter Try.func25, Try.ntmps25
  go_wp2_with (first | (go_at_call 22; refine (rsub_any _ _ _).mono ?_; rintro e w' ⟨rfl, rfl⟩))
  go_ret2
  exact ⟨rfl, rfl⟩

set_option maxHeartbeats 400000 in
theorem abs_any (a : Int) (w : World) :
    Calls Try.prog 26 #[.int .i64 a] w fun e w' => e = .returned (.tuple #[.int .i64 (absV a), .int .i64 (absE a)]) ∧ Below w.heap.size w w' := by
  by_cases h : a < 0
  · have HE := Lib.hid (abs_neg h)
    go_enter Try.func26, Try.ntmps26
    go_wp2_with (first | (go_at_call 24; refine (neg_any _ _).mono ?_; rintro e w' ⟨rfl, rfl⟩))
    go_ret2
    exact ⟨ret_pair HE.out.1.symm HE.out.2.symm, Below.refl _ _⟩
  · have HE := Lib.hid (abs_pos h)
    go_enter Try.func26, Try.ntmps26
    go_wp2_with (first | (go_at_call 9; refine (add_1 _ _).mono ?_; rintro e w' ⟨rfl, rfl⟩))
    go_ret2
    exact ⟨ret_pair HE.out.1.symm HE.out.2.symm, (Below.refl _ _).alloc (Nat.le_refl _) _⟩

set_option maxHeartbeats 400000 in
theorem rabs_any (a : Int) (w : World) :
    Calls Try.prog 27 #[.int .i64 a] w fun e w' => e = .returned (.tuple #[.int .i64 (absV a), .int .i64 (absE a)]) ∧ w = w' := by
  by_cases h : a < 0
  · have HE := Lib.hid (abs_neg h)
    go_enter Try.func27, Try.ntmps27
    go_wp2_with (first | (go_at_call 25; refine (rneg_any _ _).mono ?_; rintro e w' ⟨rfl, rfl⟩))
    go_ret2
    exact ⟨ret_pair HE.out.1.symm HE.out.2.symm, rfl⟩
  · have HE := Lib.hid (abs_pos h)
    go_enter Try.func27, Try.ntmps27
    go_wp2_with (first | (go_at_call 22; refine (rsub_any _ _ _).mono ?_; rintro e w' ⟨rfl, rfl⟩))
    go_ret2
    exact ⟨ret_pair HE.out.1.symm HE.out.2.symm, rfl⟩
end Go.Proofs.Ytelggbmobemnoaa
