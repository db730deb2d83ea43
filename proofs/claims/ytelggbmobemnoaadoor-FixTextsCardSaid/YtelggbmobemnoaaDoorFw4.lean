/- Walks of layer 1: sums of many. -/
import Derived.Test.YtelggbmobemnoaaDoorFw1
namespace Go.Proofs.YtelggbmobemnoaaDoor
open Go.RowKit
open Fx

set_option maxHeartbeats 400000 in
theorem add_nil (a : Option Addr) (cap : Nat) (w : World) :
    Calls Tryd.prog 19 #[.slice a 0 cap] w fun e w' => e = .returned (.tuple #[.int .i64 0, .int .i64 0]) ∧ w = w' := by
  go_enter Tryd.func19, Tryd.ntmps19
  go_wp2
  go_loop [11] (fun i => i = .int .i64 0) (fun _ => 0)
  case atStart => rfl
  case round =>
    obtain rfl := hrel
    go_wp2
    go_loop [6, 21] (fun s i => s = .int .i64 0 ∧ i = .int .i64 0) (fun _ _ => 0)
    case atStart => exact ⟨rfl, rfl⟩
    case round =>
      obtain ⟨rfl, rfl⟩ := hrel
      go_wp2
      go_ret2
      exact ⟨rfl, rfl⟩

set_option maxHeartbeats 400000 in
theorem add_full (b off : Nat) (l : List Int) (cap : Nat) (w : World) (hm : l.length ≤ maxLen) (hc : ∀ i, i < l.length → w.cell? ⟨b, off + i, none⟩ = some (.int .i64 (l.getD i 0))) :
    Calls Tryd.prog 19 #[.slice (some ⟨b, off, none⟩) l.length cap] w fun e w' => e = .returned (.tuple #[.int .i64 (addV l), .int .i64 (addE l)]) ∧ w = w' := by
  unfold maxLen at hm
  have HC := Lib.hid hc
  clear hc
  go_enter Tryd.func19, Tryd.ntmps19
  go_wp2
  go_loop [11] (fun i => ∃ k : Nat, k ≤ l.length ∧ i = .int .i64 k ∧ (l.take k).all rtB = true) (fun i => l.length - (intOf i).toNat)
  case atStart => exact ⟨0, Nat.zero_le _, rfl, rfl⟩
  case round =>
    obtain ⟨k, hk, rfl, ha⟩ := hrel
    by_cases hlt : k < l.length
    · obtain ⟨x, hx⟩ : ∃ x, l.getD k 0 = x := ⟨_, rfl⟩
      have hcell := HC.out k hlt
      rw [hx] at hcell
      have HX := Lib.hid hx
      have HA := Lib.hid ha
      clear ha hx
      cases hr : rtB x
      · have HE := Lib.hid (add_no hlt (HX.out ▸ hr))
        go_wp2_with (go_at_call 11; refine (right_any _ _).mono ?_; rintro e w' ⟨rfl, rfl⟩)
        go_ret2
        exact ⟨ret_pair HE.out.1.symm HE.out.2.symm, rfl⟩
      · go_wp2_with (go_at_call 11; refine (right_any _ _).mono ?_; rintro e w' ⟨rfl, rfl⟩)
        go_round
        case rel => exact ⟨k + 1, by omega, by go_num, all_snoc' hlt HX.out HA.out hr⟩
        case measure => simp [intOf]; omega
    · obtain rfl : k = l.length := by omega
      rw [List.take_length] at ha
      have HA := Lib.hid ha
      clear ha
      go_wp2
      go_loop [6, 21] (fun s i => ∃ k : Nat, ∃ t : Int, k ≤ l.length ∧ i = .int .i64 k ∧ s = .int .i64 t ∧ sumS (l.take k) 0 = some t) (fun _ i => l.length - (intOf i).toNat)
      case atStart => exact ⟨0, 0, Nat.zero_le _, rfl, rfl, rfl⟩
      case round =>
        obtain ⟨k, t, hk, rfl, rfl, hs⟩ := hrel
        have ht := sum_rt (by rfl) hs
        have t1 := rtB_lo ht
        have t2 := rtB_hi ht
        clear ht
        by_cases hlt : k < l.length
        · obtain ⟨x, hx⟩ : ∃ x, l.getD k 0 = x := ⟨_, rfl⟩
          have hcell := HC.out k hlt
          rw [hx] at hcell
          have hr := all_at hlt hx HA.out
          have x1 := rtB_lo hr
          have x2 := rtB_hi hr
          have HS := Lib.hid hs
          have HX := Lib.hid hx
          clear hs hx hr
          cases hr : rtB (t + x)
          · have HE := Lib.hid (add_over hlt HA.out HS.out (HX.out ▸ hr))
            go_wp2_with (go_at_call 11; refine (right_any _ _).mono ?_; rintro e w' ⟨rfl, rfl⟩)
            go_ret2
            exact ⟨ret_pair HE.out.1.symm HE.out.2.symm, rfl⟩
          · go_wp2_with (go_at_call 11; refine (right_any _ _).mono ?_; rintro e w' ⟨rfl, rfl⟩)
            go_round
            case rel => exact ⟨k + 1, t + x, by omega, by go_num, rfl, sum_snoc' hlt HX.out HS.out hr⟩
            case measure => simp [intOf]; omega
        · obtain rfl : k = l.length := by omega
          rw [List.take_length] at hs
          have HE := Lib.hid (add_end HA.out hs)
          clear hs
          go_wp2
          go_ret2
          exact ⟨ret_pair HE.out.1.symm HE.out.2.symm, rfl⟩
end Go.Proofs.YtelggbmobemnoaaDoor
