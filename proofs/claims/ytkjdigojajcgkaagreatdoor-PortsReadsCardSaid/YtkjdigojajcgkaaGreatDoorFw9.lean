/- Walks of layer 1: constants, in the reference. -/
import Derived.Test.YtkjdigojajcgkaaGreatDoorFw7
namespace Go.Proofs.YtkjdigojajcgkaaGreatDoor
open Go.RowKit
open Fx
set_option linter.unusedVariables false
attribute [local go_sem] ext_mk size_mk toList_mk get_mk take_drop_len take_tail_len

set_option maxHeartbeats 400000 in
theorem fxworth_any (b : UInt8) (w : World) :
    Calls Tryz.prog 81 #[.int .u8 b.toNat] w fun e w' => e = .returned (.int .i64 (wth b)) ∧ w = w' := by
  have h0 : (0 : Int) ≤ b.toNat := by omega
  have h1 : (b.toNat : Int) ≤ 255 := by have := b.toNat_lt; omega
  obtain ⟨c, hc⟩ : ∃ c : Int, (b.toNat : Int) = c := ⟨_, rfl⟩
  have hw : wth b = wthI c := by rw [wth_int, hc]
  rw [hc] at h0 h1 ⊢
  rw [hw]
  clear hw hc
  go_enter Tryz.func81, Tryz.ntmps81
  go_wp2
  all_goals go_ret
  all_goals exact ⟨ret_int (by unfold wthI; repeat' split <;> omega), rfl⟩

set_option maxHeartbeats 400000 in
theorem all10 (l : List UInt8) (w : World) (hl : l.length ≤ 9223372036854775807) :
    Calls Tryz.prog 51 #[.string ⟨l.toArray⟩, .int .i64 10] w fun e w' => e = .returned (.bool (conOk 10 l)) ∧ w = w' := by
  go_enter Tryz.func51, Tryz.ntmps51
  go_wp2_with fail
  go_loop [5] (fun i => ∃ k : Nat, k ≤ l.length ∧ i = .int .i64 k ∧ (l.take k).all (isD 10) = true) (fun i => l.length - (intOf i).toNat)
  case atStart => exact ⟨0, Nat.zero_le _, rfl, rfl⟩
  case round =>
    obtain ⟨k, hk, rfl, ha⟩ := hrel
    have HA := Lib.hid ha
    clear ha
    by_cases hp : k < l.length
    · obtain ⟨x, hx⟩ : ∃ x, l[k]? = some x := ⟨l[k], by simp [hp]⟩
      have hxl : l[k] = x := by rw [List.getElem?_eq_getElem hp] at hx; exact Option.some.inj hx
      have HX := Lib.hid hx
      clear hx
      cases hd : isD 10 x
      · have hf := Lib.hid (show conOk 10 l = false by unfold conOk; rw [all_stop HX.out hd, Bool.and_false])
        rcases wth_no (.inl rfl) hd with h | ⟨h, h'⟩
        · have k1 : decide (wth x < 0) = true := decide_eq_true h
          clear hd
          go_wp2_with (go_at_call 81; refine (fxworth_any _ _).mono ?_; rintro e w' ⟨rfl, rfl⟩)
          go_ret
          exact ⟨ret_bool hf.out.symm, rfl⟩
        · have k1 : decide (wth x < 0) = false := decide_eq_false (by omega)
          have k2 : decide (10 ≤ wth x) = true := decide_eq_true h'
          clear hd
          go_wp2_with (go_at_call 81; refine (fxworth_any _ _).mono ?_; rintro e w' ⟨rfl, rfl⟩)
          go_ret
          exact ⟨ret_bool hf.out.symm, rfl⟩
      · have HA2 := Lib.hid (all_next HX.out HA.out hd)
        obtain ⟨_, h, h'⟩ := wth_yes (.inl rfl) hd
        have k1 : decide (wth x < 0) = false := decide_eq_false (by omega)
        have k2 : decide (10 ≤ wth x) = false := decide_eq_false (by omega)
        clear hd
        go_wp2_with (go_at_call 81; refine (fxworth_any _ _).mono ?_; rintro e w' ⟨rfl, rfl⟩)
        go_round
        case rel => exact ⟨k + 1, by omega, by go_num, HA2.out⟩
        case measure => simp [intOf]; omega
    · obtain rfl : k = l.length := by omega
      have ha := HA.out
      rw [List.take_length] at ha
      have hf := Lib.hid (show conOk 10 l = !l.isEmpty by unfold conOk; rw [ha, Bool.and_true])
      clear ha
      cases l
      · go_wp2_with fail
        go_ret
        exact ⟨ret_bool hf.out.symm, rfl⟩
      · go_wp2_with fail
        go_ret
        exact ⟨ret_bool hf.out.symm, rfl⟩

set_option maxHeartbeats 400000 in
theorem all16 (l : List UInt8) (w : World) (hl : l.length ≤ 9223372036854775807) :
    Calls Tryz.prog 51 #[.string ⟨l.toArray⟩, .int .i64 16] w fun e w' => e = .returned (.bool (conOk 16 l)) ∧ w = w' := by
  go_enter Tryz.func51, Tryz.ntmps51
  go_wp2_with fail
  go_loop [5] (fun i => ∃ k : Nat, k ≤ l.length ∧ i = .int .i64 k ∧ (l.take k).all (isD 16) = true) (fun i => l.length - (intOf i).toNat)
  case atStart => exact ⟨0, Nat.zero_le _, rfl, rfl⟩
  case round =>
    obtain ⟨k, hk, rfl, ha⟩ := hrel
    have HA := Lib.hid ha
    clear ha
    by_cases hp : k < l.length
    · obtain ⟨x, hx⟩ : ∃ x, l[k]? = some x := ⟨l[k], by simp [hp]⟩
      have hxl : l[k] = x := by rw [List.getElem?_eq_getElem hp] at hx; exact Option.some.inj hx
      have HX := Lib.hid hx
      clear hx
      cases hd : isD 16 x
      · have hf := Lib.hid (show conOk 16 l = false by unfold conOk; rw [all_stop HX.out hd, Bool.and_false])
        rcases wth_no (.inr rfl) hd with h | ⟨h, h'⟩
        · have k1 : decide (wth x < 0) = true := decide_eq_true h
          clear hd
          go_wp2_with (go_at_call 81; refine (fxworth_any _ _).mono ?_; rintro e w' ⟨rfl, rfl⟩)
          go_ret
          exact ⟨ret_bool hf.out.symm, rfl⟩
        · have k1 : decide (wth x < 0) = false := decide_eq_false (by omega)
          have k2 : decide (16 ≤ wth x) = true := decide_eq_true h'
          clear hd
          go_wp2_with (go_at_call 81; refine (fxworth_any _ _).mono ?_; rintro e w' ⟨rfl, rfl⟩)
          go_ret
          exact ⟨ret_bool hf.out.symm, rfl⟩
      · have HA2 := Lib.hid (all_next HX.out HA.out hd)
        obtain ⟨_, h, h'⟩ := wth_yes (.inr rfl) hd
        have k1 : decide (wth x < 0) = false := decide_eq_false (by omega)
        have k2 : decide (16 ≤ wth x) = false := decide_eq_false (by omega)
        clear hd
        go_wp2_with (go_at_call 81; refine (fxworth_any _ _).mono ?_; rintro e w' ⟨rfl, rfl⟩)
        go_round
        case rel => exact ⟨k + 1, by omega, by go_num, HA2.out⟩
        case measure => simp [intOf]; omega
    · obtain rfl : k = l.length := by omega
      have ha := HA.out
      rw [List.take_length] at ha
      have hf := Lib.hid (show conOk 16 l = !l.isEmpty by unfold conOk; rw [ha, Bool.and_true])
      clear ha
      cases l
      · go_wp2_with fail
        go_ret
        exact ⟨ret_bool hf.out.symm, rfl⟩
      · go_wp2_with fail
        go_ret
        exact ⟨ret_bool hf.out.symm, rfl⟩

set_option maxHeartbeats 400000 in
theorem number10 (l : List UInt8) (w : World) (hl : l.length ≤ 9223372036854775807) (hok : l.all (isD 10) = true) :
    Calls Tryz.prog 53 #[.string ⟨l.toArray⟩, .int .i64 10] w fun e w' => e = .returned (.int .u64 (rnumN 10 l 0)) ∧ w = w' := by
  have HOK := Lib.hid hok
  clear hok
  go_enter Tryz.func53, Tryz.ntmps53
  go_wp2_with fail
  go_loop [5, 6] (fun n i => ∃ k : Nat, ∃ N : Int, k ≤ l.length ∧ n = .int .u64 N ∧ i = .int .i64 k ∧ 0 ≤ N ∧ N ≤ 4611686018427387920 ∧ rnumN 10 l 0 = rnumN 10 (l.drop k) N) (fun _ i => l.length - (intOf i).toNat)
  case atStart => exact ⟨0, 0, Nat.zero_le _, rfl, rfl, by omega, by omega, rfl⟩
  case round =>
    obtain ⟨k, N, hk, rfl, rfl, n0, n1, hr⟩ := hrel
    have HR := Lib.hid hr
    clear hr
    by_cases hp : k < l.length
    · obtain ⟨x, hx⟩ : ∃ x, l[k]? = some x := ⟨l[k], by simp [hp]⟩
      have hxl : l[k] = x := by rw [List.getElem?_eq_getElem hp] at hx; exact Option.some.inj hx
      have HX := Lib.hid hx
      have hd : isD 10 x = true := List.all_eq_true.1 HOK.out x (List.mem_of_getElem? hx)
      obtain ⟨he, h, h'⟩ := wth_yes (.inl rfl) hd
      have HE := Lib.hid he
      clear hx hd he
      by_cases ho : 461168601842738790 < N
      · have HN := Lib.hid (rnum_over l k HX.out HR.out (by omega))
        go_wp2_with (go_at_call 81; refine (fxworth_any _ _).mono ?_; rintro e w' ⟨rfl, rfl⟩)
        go_ret
        exact ⟨ret_int HN.out.symm, rfl⟩
      · have HN := Lib.hid (rnum_step l k HX.out HR.out (by omega))
        have ho' : N ≤ 461168601842738790 := by omega
        clear ho
        go_wp2_with (go_at_call 81; refine (fxworth_any _ _).mono ?_; rintro e w' ⟨rfl, rfl⟩)
        go_round
        case rel => exact ⟨k + 1, N * 10 + wth x, by omega, rfl, by go_num, by omega, by omega, by rw [HE.out]; exact HN.out⟩
        case measure => simp [intOf]; omega
    · obtain rfl : k = l.length := by omega
      have hr := HR.out
      rw [List.drop_length] at hr
      have HN := Lib.hid hr
      clear hr
      go_wp2_with fail
      go_ret
      exact ⟨ret_int HN.out.symm, rfl⟩

set_option maxHeartbeats 400000 in
theorem number16 (l : List UInt8) (w : World) (hl : l.length ≤ 9223372036854775807) (hok : l.all (isD 16) = true) :
    Calls Tryz.prog 53 #[.string ⟨l.toArray⟩, .int .i64 16] w fun e w' => e = .returned (.int .u64 (rnumN 16 l 0)) ∧ w = w' := by
  have HOK := Lib.hid hok
  clear hok
  go_enter Tryz.func53, Tryz.ntmps53
  go_wp2_with fail
  go_loop [5, 6] (fun n i => ∃ k : Nat, ∃ N : Int, k ≤ l.length ∧ n = .int .u64 N ∧ i = .int .i64 k ∧ 0 ≤ N ∧ N ≤ 4611686018427387920 ∧ rnumN 16 l 0 = rnumN 16 (l.drop k) N) (fun _ i => l.length - (intOf i).toNat)
  case atStart => exact ⟨0, 0, Nat.zero_le _, rfl, rfl, by omega, by omega, rfl⟩
  case round =>
    obtain ⟨k, N, hk, rfl, rfl, n0, n1, hr⟩ := hrel
    have HR := Lib.hid hr
    clear hr
    by_cases hp : k < l.length
    · obtain ⟨x, hx⟩ : ∃ x, l[k]? = some x := ⟨l[k], by simp [hp]⟩
      have hxl : l[k] = x := by rw [List.getElem?_eq_getElem hp] at hx; exact Option.some.inj hx
      have HX := Lib.hid hx
      have hd : isD 16 x = true := List.all_eq_true.1 HOK.out x (List.mem_of_getElem? hx)
      obtain ⟨he, h, h'⟩ := wth_yes (.inr rfl) hd
      have HE := Lib.hid he
      clear hx hd he
      by_cases ho : 288230376151711744 < N
      · have HN := Lib.hid (rnum_over l k HX.out HR.out (by omega))
        go_wp2_with (go_at_call 81; refine (fxworth_any _ _).mono ?_; rintro e w' ⟨rfl, rfl⟩)
        go_ret
        exact ⟨ret_int HN.out.symm, rfl⟩
      · have HN := Lib.hid (rnum_step l k HX.out HR.out (by omega))
        have ho' : N ≤ 288230376151711744 := by omega
        clear ho
        go_wp2_with (go_at_call 81; refine (fxworth_any _ _).mono ?_; rintro e w' ⟨rfl, rfl⟩)
        go_round
        case rel => exact ⟨k + 1, N * 16 + wth x, by omega, rfl, by go_num, by omega, by omega, by rw [HE.out]; exact HN.out⟩
        case measure => simp [intOf]; omega
    · obtain rfl : k = l.length := by omega
      have hr := HR.out
      rw [List.drop_length] at hr
      have HN := Lib.hid hr
      clear hr
      go_wp2_with fail
      go_ret
      exact ⟨ret_int HN.out.symm, rfl⟩
end Go.Proofs.YtkjdigojajcgkaaGreatDoor
