/- Walks of layer 1: constants, in the reference. -/
import Derived.Test.YtelggbmobemnoaaDoorFw7
namespace Go.Proofs.YtelggbmobemnoaaDoor
open Go.RowKit
open Fx
set_option linter.unusedVariables false
attribute [local go_sem] ext_mk size_mk toList_mk get_mk take_drop_len take_tail_len

set_option maxHeartbeats 400000 in
theorem worth_any (b : UInt8) (w : World) :
    Calls Tryd.prog 33 #[.int .u8 b.toNat] w fun e w' => e = .returned (.int .i64 (wth b)) ∧ w = w' := by
  have h0 : (0 : Int) ≤ b.toNat := by omega
  have h1 : (b.toNat : Int) ≤ 255 := by have := b.toNat_lt; omega
  obtain ⟨c, hc⟩ : ∃ c : Int, (b.toNat : Int) = c := ⟨_, rfl⟩
  have hw : wth b = wthI c := by rw [wth_int, hc]
  rw [hc] at h0 h1 ⊢
  rw [hw]
  clear hw hc
  go_enter Tryd.func33, Tryd.ntmps33
  go_wp2
  all_goals go_ret
  all_goals exact ⟨ret_int (by unfold wthI; repeat' split <;> omega), rfl⟩

set_option maxHeartbeats 400000 in
theorem number10 (l : List UInt8) (w : World) (hl : l.length ≤ 9223372036854775807) (hok : l.all (isD 10) = true) :
    Calls Tryd.prog 18 #[.string ⟨l.toArray⟩, .int .i64 10] w fun e w' => e = .returned (.int .u64 (rnumN 10 l 0)) ∧ w = w' := by
  have HOK := Lib.hid hok
  clear hok
  go_enter Tryd.func18, Tryd.ntmps18
  go_wp2_with fail
  go_loop [5, 6] (fun n i => ∃ k : Nat, ∃ N : Int, k ≤ l.length ∧ n = .int .u64 N ∧ i = .int .i64 k ∧ 0 ≤ N ∧ N ≤ 4611686018427387920 ∧ rnumN 10 l 0 = rnumN 10 (l.drop k) N) (fun _ i => l.length - (intOf i).toNat)
  case atStart => exact ⟨0, 0, Nat.zero_le _, rfl, rfl, by omega, by omega, rfl⟩
  case round =>
    obtain ⟨k, N, hk, rfl, rfl, n0, n1, hr⟩ := hrel
    have HR := Lib.hid hr
    clear hr
    by_cases hp : k < l.length
    · obtain ⟨x, hx⟩ : ∃ x, l[k]? = some x := ⟨l[k], by simp [hp]⟩
      have hxl : l[k] = x := by rw [List.getElem?_eq_getElem hp] at hx; exact Option.some.inj hx
      have HX := Lib.hid hx
      have hd : isD 10 x = true := List.all_eq_true.1 HOK.out x (List.mem_of_getElem? hx)
      obtain ⟨he, h, h'⟩ := wth_yes (.inl rfl) hd
      have HE := Lib.hid he
      clear hx hd he
      by_cases ho : 461168601842738790 < N
      · have HN := Lib.hid (rnum_over l k HX.out HR.out (by omega))
        go_wp2_with (go_at_call 33; refine (worth_any _ _).mono ?_; rintro e w' ⟨rfl, rfl⟩)
        go_ret
        exact ⟨ret_int HN.out.symm, rfl⟩
      · have HN := Lib.hid (rnum_step l k HX.out HR.out (by omega))
        have ho' : N ≤ 461168601842738790 := by omega
        clear ho
        go_wp2_with (go_at_call 33; refine (worth_any _ _).mono ?_; rintro e w' ⟨rfl, rfl⟩)
        go_round
        case rel => exact ⟨k + 1, N * 10 + wth x, by omega, rfl, by go_num, by omega, by omega, by rw [HE.out]; exact HN.out⟩
        case measure => simp [intOf]; omega
    · obtain rfl : k = l.length := by omega
      have hr := HR.out
      rw [List.drop_length] at hr
      have HN := Lib.hid hr
      clear hr
      go_wp2_with fail
      go_ret
      exact ⟨ret_int HN.out.symm, rfl⟩

set_option maxHeartbeats 400000 in
theorem number16 (l : List UInt8) (w : World) (hl : l.length ≤ 9223372036854775807) (hok : l.all (isD 16) = true) :
    Calls Tryd.prog 18 #[.string ⟨l.toArray⟩, .int .i64 16] w fun e w' => e = .returned (.int .u64 (rnumN 16 l 0)) ∧ w = w' := by
  have HOK := Lib.hid hok
  clear hok
  go_enter Tryd.func18, Tryd.ntmps18
  go_wp2_with fail
  go_loop [5, 6] (fun n i => ∃ k : Nat, ∃ N : Int, k ≤ l.length ∧ n = .int .u64 N ∧ i = .int .i64 k ∧ 0 ≤ N ∧ N ≤ 4611686018427387920 ∧ rnumN 16 l 0 = rnumN 16 (l.drop k) N) (fun _ i => l.length - (intOf i).toNat)
  case atStart => exact ⟨0, 0, Nat.zero_le _, rfl, rfl, by omega, by omega, rfl⟩
  case round =>
    obtain ⟨k, N, hk, rfl, rfl, n0, n1, hr⟩ := hrel
    have HR := Lib.hid hr
    clear hr
    by_cases hp : k < l.length
    · obtain ⟨x, hx⟩ : ∃ x, l[k]? = some x := ⟨l[k], by simp [hp]⟩
      have hxl : l[k] = x := by rw [List.getElem?_eq_getElem hp] at hx; exact Option.some.inj hx
      have HX := Lib.hid hx
      have hd : isD 16 x = true := List.all_eq_true.1 HOK.out x (List.mem_of_getElem? hx)
      obtain ⟨he, h, h'⟩ := wth_yes (.inr rfl) hd
      have HE := Lib.hid he
      clear hx hd he
      by_cases ho : 288230376151711744 < N
      · have HN := Lib.hid (rnum_over l k HX.out HR.out (by omega))
        go_wp2_with (go_at_call 33; refine (worth_any _ _).mono ?_; rintro e w' ⟨rfl, rfl⟩)
        go_ret
        exact ⟨ret_int HN.out.symm, rfl⟩
      · have HN := Lib.hid (rnum_step l k HX.out HR.out (by omega))
        have ho' : N ≤ 288230376151711744 := by omega
        clear ho
        go_wp2_with (go_at_call 33; refine (worth_any _ _).mono ?_; rintro e w' ⟨rfl, rfl⟩)
        go_round
        case rel => exact ⟨k + 1, N * 16 + wth x, by omega, rfl, by go_num, by omega, by omega, by rw [HE.out]; exact HN.out⟩
        case measure => simp [intOf]; omega
    · obtain rfl : k = l.length := by omega
      have hr := HR.out
      rw [List.drop_length] at hr
      have HN := Lib.hid hr
      clear hr
      go_wp2_with fail
      go_ret
      exact ⟨ret_int HN.out.symm, rfl⟩
end Go.Proofs.YtelggbmobemnoaaDoor
