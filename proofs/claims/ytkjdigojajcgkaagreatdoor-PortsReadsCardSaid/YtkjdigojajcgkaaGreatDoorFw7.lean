/- Walks of layer 1: digits. -/
import Derived.Test.YtkjdigojajcgkaaGreatDoorFw3
import Derived.Test.YtkjdigojajcgkaaGreatDoorFc
import Derived.Laws.RangeAny
namespace Go.Proofs.YtkjdigojajcgkaaGreatDoor
open Go.RowKit
open Fx
set_option linter.unusedVariables false
attribute [local go_sem] ext_mk size_mk toList_mk get_mk take_drop_len take_tail_len

set_option maxHeartbeats 400000 in
theorem value_any (c : Int) (w : World) (h1 : 0 ≤ c) (h2 : c ≤ 2147483647) :
    Calls Tryz.prog 91 #[.int .i32 c] w fun e w' => e = .returned (.int .u64 (dig c)) ∧ w = w' := by
  go_enter Tryz.func91, Tryz.ntmps91
  go_wp2
  all_goals go_ret
  all_goals exact ⟨ret_int (by unfold dig; repeat' split <;> omega), rfl⟩

set_option maxHeartbeats 400000 in
theorem fsigned_any (m : Int) (s : Bool) (w : World) (h0 : 0 ≤ m) (h1 : m ≤ 18446744073709551615) :
    Calls Tryz.prog 74 #[.int .u64 m, .bool s] w fun e w' => e = .returned (.tuple #[.int .i64 (sgnV m s), .int .i64 (sgnE m s)]) ∧ w = w' := by
  rcases (by omega : m ≤ 4611686018427387903 ∨ m = 4611686018427387904 ∨ 4611686018427387904 < m) with g | g | g
  · have k1 : decide (m ≤ 4611686018427387904) = true := decide_eq_true (by omega)
    have k2 : decide (4611686018427387904 ≤ m) = false := decide_eq_false (by omega)
    cases s
    · have hs := Lib.hid (sgn_f1 h0 g)
      go_enter Tryz.func74, Tryz.ntmps74
      go_wp2
      go_ret2
      exact ⟨ret_pair hs.out.1.symm hs.out.2.symm, rfl⟩
    · have hs := Lib.hid (sgn_t1 h0 (by omega))
      go_enter Tryz.func74, Tryz.ntmps74
      go_wp2
      go_ret2
      exact ⟨ret_pair hs.out.1.symm hs.out.2.symm, rfl⟩
  · subst g
    cases s
    · go_enter Tryz.func74, Tryz.ntmps74
      go_wp2
      go_ret2
      exact ⟨rfl, rfl⟩
    · go_enter Tryz.func74, Tryz.ntmps74
      go_wp2
      go_ret2
      exact ⟨rfl, rfl⟩
  · have k1 : decide (m ≤ 4611686018427387904) = false := decide_eq_false (by omega)
    have k2 : decide (4611686018427387904 ≤ m) = true := decide_eq_true (by omega)
    have hs := Lib.hid (sgn_over g s)
    cases s
    all_goals
      go_enter Tryz.func74, Tryz.ntmps74
      go_wp2
      go_ret2
      exact ⟨ret_pair hs.out.1.symm hs.out.2.symm, rfl⟩

theorem value_b (x : UInt8) (w : World) : Calls Tryz.prog 91 #[.int .i32 x.toNat] w fun e w' => e = .returned (.int .u64 (bdig x)) ∧ w = w' :=
  value_any _ w (by omega) (by have := x.toNat_lt; omega)

theorem value_hi (c : Nat) (w : World) (h1 : 128 ≤ c) (h2 : c ≤ 2147483647) : Calls Tryz.prog 91 #[.int .i32 c] w fun e w' => e = .returned (.int .u64 16) ∧ w = w' :=
  (value_any (c : Int) w (by omega) (by omega)).mono fun e w' ⟨he, hw⟩ => ⟨by rw [he, dig_high (by omega)], hw⟩

set_option maxHeartbeats 800000 in
theorem digits10 (l : List UInt8) (w : World) (hl : l.length ≤ 9223372036854775807) :
    Calls Tryz.prog 73 #[.string ⟨l.toArray⟩, .int .u64 10] w fun e w' => e = .returned (.tuple #[.int .u64 (satN (numV 10 (lead 10 l))), .int .i64 (lead 10 l).length]) ∧ Below w.heap.size w w' := by
  go_enter Tryz.func73, Tryz.ntmps73
  go_wp2_with fail
  go_loopw [6, 7] (fun n c wr => ∃ k : Nat, k ≤ l.length ∧ wr = w.iter ⟨l.toArray⟩ k ∧ n = .int .u64 (satN (numV 10 (l.take k))) ∧ c = .int .i64 k ∧ (l.take k).all (isD 10) = true) (fun _ _ wr => l.length - wr.iterPos w.heap.size)
  case atStart => exact ⟨0, Nat.zero_le _, rfl, rfl, rfl, rfl⟩
  case round =>
    obtain ⟨k, hk, rfl, rfl, rfl, ha⟩ := hrel
    obtain ⟨N, hN⟩ : ∃ N, satN (numV 10 (l.take k)) = N := ⟨_, rfl⟩
    have n0 : 0 ≤ N := by rw [← hN]; exact (sat_bd (num_nn (by omega) _)).1
    have n1 : N ≤ 4611686018427387905 := by rw [← hN]; exact (sat_bd (num_nn (by omega) _)).2
    rw [hN]
    have HN := Lib.hid hN
    have HA := Lib.hid ha
    clear hN ha
    by_cases hp : k < l.length
    · obtain ⟨x, hx⟩ : ∃ x, l[k]? = some x := ⟨l[k], by simp [hp]⟩
      have hxl : l[k] = x := by rw [List.getElem?_eq_getElem hp] at hx; exact Option.some.inj hx
      have HX := Lib.hid hx
      clear hx
      cases hd : isD 10 x
      · have HL := Lib.hid (lead_stop HX.out HA.out hd)
        have hge := isD_ge hd
        have hlen : Hid ((lead 10 l).length = k) := by show _ = _; rw [HL.out, List.length_take]; omega
        by_cases hx8 : x.toNat < 128
        · have hnx : ∀ ty, (Instr.next (.pointer (some ⟨w.heap.size, 0, none⟩)) true ty).run Tryz.prog (w.iter ⟨l.toArray⟩ k) = .ok (.tuple #[.bool true, .int .i64 k, .int .i32 x.toNat]) (w.iter ⟨l.toArray⟩ (k + 1)) := fun ty => by
            have := run_next_ascii (P := Tryz.prog) w ⟨l.toArray⟩ k ty (by rw [size_mk]; exact hp) (by rw [get_mk, hxl]; exact hx8)
            rw [get_mk, hxl] at this; exact this
          clear hxl hd
          go_wp2_with (go_at_call 91; refine (value_b x _).mono ?_; rintro e w' ⟨rfl, rfl⟩)
          go_ret2
          exact ⟨ret_pair (by rw [HL.out, HN.out]) (by rw [hlen.out]), Drew.iter _ _ _⟩
        · have hg := decode_high ⟨l.toArray⟩ k (by rw [size_mk]; exact hp) (by rw [get_mk, hxl]; omega)
          have hg2 := decode_le ⟨l.toArray⟩ k
          have hnx : ∀ ty, (Instr.next (.pointer (some ⟨w.heap.size, 0, none⟩)) true ty).run Tryz.prog (w.iter ⟨l.toArray⟩ k) = .ok (.tuple #[.bool true, .int .i64 k, .int .i32 (Utf8.decode ⟨l.toArray⟩ k).1]) (w.iter ⟨l.toArray⟩ (k + (Utf8.decode ⟨l.toArray⟩ k).2)) := fun ty => run_next_any w ⟨l.toArray⟩ k ty (by rw [size_mk]; exact hp)
          generalize (Utf8.decode ⟨l.toArray⟩ k).1 = c at hnx hg hg2
          generalize (Utf8.decode ⟨l.toArray⟩ k).2 = d at hnx hg
          obtain ⟨hg, hg1⟩ := hg
          clear hxl hd
          go_wp2_with (go_at_call 91; refine (value_hi _ _ hg hg2).mono ?_; rintro e w' ⟨rfl, rfl⟩)
          go_ret2
          exact ⟨ret_pair (by rw [HL.out, HN.out]) (by rw [hlen.out]), Drew.iter _ _ _⟩
      · have hlt := isD_lt hd
        have hnn := (bdig_nn x).1
        have HA2 := Lib.hid (all_next HX.out HA.out hd)
        have hx8 : x.toNat < 128 := by
          rcases Nat.lt_or_ge x.toNat 128 with h | h
          · exact h
          · have := dig_high (c := (x.toNat : Int)) (by omega); unfold bdig at hlt; omega
        have hnx : ∀ ty, (Instr.next (.pointer (some ⟨w.heap.size, 0, none⟩)) true ty).run Tryz.prog (w.iter ⟨l.toArray⟩ k) = .ok (.tuple #[.bool true, .int .i64 k, .int .i32 x.toNat]) (w.iter ⟨l.toArray⟩ (k + 1)) := fun ty => by
          have := run_next_ascii (P := Tryz.prog) w ⟨l.toArray⟩ k ty (by rw [size_mk]; exact hp) (by rw [get_mk, hxl]; exact hx8)
          rw [get_mk, hxl] at this; exact this
        clear hxl hd hx8
        by_cases ho : 461168601842738790 < N
        · have HS := Lib.hid (stepA (B := 10) (.inl rfl) HX.out HN.out (by omega))
          go_wp2_with (go_at_call 91; refine (value_b x _).mono ?_; rintro e w' ⟨rfl, rfl⟩)
          go_roundw
          case rel => exact ⟨k + 1, by omega, rfl, by rw [HS.out], by go_num, HA2.out⟩
          case measure => simp; omega
        · have ho : N ≤ 461168601842738790 := by omega
          have HS := Lib.hid (stepB (B := 10) (.inl rfl) HX.out HN.out (by omega))
          by_cases hm : N * 10 + bdig x ≤ 4611686018427387904
          · go_wp2_with (go_at_call 91; refine (value_b x _).mono ?_; rintro e w' ⟨rfl, rfl⟩)
            go_roundw
            case rel => exact ⟨k + 1, by omega, rfl, by rw [HS.out, if_pos hm], by go_num, HA2.out⟩
            case measure => simp; omega
          · have hm : 4611686018427387904 < N * 10 + bdig x := by omega
            go_wp2_with (go_at_call 91; refine (value_b x _).mono ?_; rintro e w' ⟨rfl, rfl⟩)
            go_roundw
            case rel => exact ⟨k + 1, by omega, rfl, congrArg (Value.int .u64) (by rw [HS.out]; split <;> split <;> omega), by go_num, HA2.out⟩
            case measure => simp; omega
    · obtain rfl : k = l.length := by omega
      have ha := HA.out
      rw [List.take_length] at ha
      have HL := Lib.hid (lead_all ha)
      clear ha
      have hnx : ∀ ty, (Instr.next (.pointer (some ⟨w.heap.size, 0, none⟩)) true ty).run Tryz.prog (w.iter ⟨l.toArray⟩ l.length) = _ := fun ty => run_next_end w ⟨l.toArray⟩ l.length ty (by rw [size_mk]; omega)
      go_wp2_with fail
      go_ret2
      exact ⟨ret_pair (by rw [HL.out, ← HN.out, List.take_length]) (by rw [HL.out]), Drew.iter _ _ _⟩

set_option maxHeartbeats 800000 in
theorem digits16 (l : List UInt8) (w : World) (hl : l.length ≤ 9223372036854775807) :
    Calls Tryz.prog 73 #[.string ⟨l.toArray⟩, .int .u64 16] w fun e w' => e = .returned (.tuple #[.int .u64 (satN (numV 16 (lead 16 l))), .int .i64 (lead 16 l).length]) ∧ Below w.heap.size w w' := by
  go_enter Tryz.func73, Tryz.ntmps73
  go_wp2_with fail
  go_loopw [6, 7] (fun n c wr => ∃ k : Nat, k ≤ l.length ∧ wr = w.iter ⟨l.toArray⟩ k ∧ n = .int .u64 (satN (numV 16 (l.take k))) ∧ c = .int .i64 k ∧ (l.take k).all (isD 16) = true) (fun _ _ wr => l.length - wr.iterPos w.heap.size)
  case atStart => exact ⟨0, Nat.zero_le _, rfl, rfl, rfl, rfl⟩
  case round =>
    obtain ⟨k, hk, rfl, rfl, rfl, ha⟩ := hrel
    obtain ⟨N, hN⟩ : ∃ N, satN (numV 16 (l.take k)) = N := ⟨_, rfl⟩
    have n0 : 0 ≤ N := by rw [← hN]; exact (sat_bd (num_nn (by omega) _)).1
    have n1 : N ≤ 4611686018427387905 := by rw [← hN]; exact (sat_bd (num_nn (by omega) _)).2
    rw [hN]
    have HN := Lib.hid hN
    have HA := Lib.hid ha
    clear hN ha
    by_cases hp : k < l.length
    · obtain ⟨x, hx⟩ : ∃ x, l[k]? = some x := ⟨l[k], by simp [hp]⟩
      have hxl : l[k] = x := by rw [List.getElem?_eq_getElem hp] at hx; exact Option.some.inj hx
      have HX := Lib.hid hx
      clear hx
      cases hd : isD 16 x
      · have HL := Lib.hid (lead_stop HX.out HA.out hd)
        have hge := isD_ge hd
        have hlen : Hid ((lead 16 l).length = k) := by show _ = _; rw [HL.out, List.length_take]; omega
        by_cases hx8 : x.toNat < 128
        · have hnx : ∀ ty, (Instr.next (.pointer (some ⟨w.heap.size, 0, none⟩)) true ty).run Tryz.prog (w.iter ⟨l.toArray⟩ k) = .ok (.tuple #[.bool true, .int .i64 k, .int .i32 x.toNat]) (w.iter ⟨l.toArray⟩ (k + 1)) := fun ty => by
            have := run_next_ascii (P := Tryz.prog) w ⟨l.toArray⟩ k ty (by rw [size_mk]; exact hp) (by rw [get_mk, hxl]; exact hx8)
            rw [get_mk, hxl] at this; exact this
          clear hxl hd
          go_wp2_with (go_at_call 91; refine (value_b x _).mono ?_; rintro e w' ⟨rfl, rfl⟩)
          go_ret2
          exact ⟨ret_pair (by rw [HL.out, HN.out]) (by rw [hlen.out]), Drew.iter _ _ _⟩
        · have hg := decode_high ⟨l.toArray⟩ k (by rw [size_mk]; exact hp) (by rw [get_mk, hxl]; omega)
          have hg2 := decode_le ⟨l.toArray⟩ k
          have hnx : ∀ ty, (Instr.next (.pointer (some ⟨w.heap.size, 0, none⟩)) true ty).run Tryz.prog (w.iter ⟨l.toArray⟩ k) = .ok (.tuple #[.bool true, .int .i64 k, .int .i32 (Utf8.decode ⟨l.toArray⟩ k).1]) (w.iter ⟨l.toArray⟩ (k + (Utf8.decode ⟨l.toArray⟩ k).2)) := fun ty => run_next_any w ⟨l.toArray⟩ k ty (by rw [size_mk]; exact hp)
          generalize (Utf8.decode ⟨l.toArray⟩ k).1 = c at hnx hg hg2
          generalize (Utf8.decode ⟨l.toArray⟩ k).2 = d at hnx hg
          obtain ⟨hg, hg1⟩ := hg
          clear hxl hd
          go_wp2_with (go_at_call 91; refine (value_hi _ _ hg hg2).mono ?_; rintro e w' ⟨rfl, rfl⟩)
          go_ret2
          exact ⟨ret_pair (by rw [HL.out, HN.out]) (by rw [hlen.out]), Drew.iter _ _ _⟩
      · have hlt := isD_lt hd
        have hnn := (bdig_nn x).1
        have HA2 := Lib.hid (all_next HX.out HA.out hd)
        have hx8 : x.toNat < 128 := by
          rcases Nat.lt_or_ge x.toNat 128 with h | h
          · exact h
          · have := dig_high (c := (x.toNat : Int)) (by omega); unfold bdig at hlt; omega
        have hnx : ∀ ty, (Instr.next (.pointer (some ⟨w.heap.size, 0, none⟩)) true ty).run Tryz.prog (w.iter ⟨l.toArray⟩ k) = .ok (.tuple #[.bool true, .int .i64 k, .int .i32 x.toNat]) (w.iter ⟨l.toArray⟩ (k + 1)) := fun ty => by
          have := run_next_ascii (P := Tryz.prog) w ⟨l.toArray⟩ k ty (by rw [size_mk]; exact hp) (by rw [get_mk, hxl]; exact hx8)
          rw [get_mk, hxl] at this; exact this
        clear hxl hd hx8
        by_cases ho : 288230376151711744 < N
        · have HS := Lib.hid (stepA (B := 16) (.inr rfl) HX.out HN.out (by omega))
          go_wp2_with (go_at_call 91; refine (value_b x _).mono ?_; rintro e w' ⟨rfl, rfl⟩)
          go_roundw
          case rel => exact ⟨k + 1, by omega, rfl, by rw [HS.out], by go_num, HA2.out⟩
          case measure => simp; omega
        · have ho : N ≤ 288230376151711744 := by omega
          have HS := Lib.hid (stepB (B := 16) (.inr rfl) HX.out HN.out (by omega))
          by_cases hm : N * 16 + bdig x ≤ 4611686018427387904
          · go_wp2_with (go_at_call 91; refine (value_b x _).mono ?_; rintro e w' ⟨rfl, rfl⟩)
            go_roundw
            case rel => exact ⟨k + 1, by omega, rfl, by rw [HS.out, if_pos hm], by go_num, HA2.out⟩
            case measure => simp; omega
          · have hm : 4611686018427387904 < N * 16 + bdig x := by omega
            go_wp2_with (go_at_call 91; refine (value_b x _).mono ?_; rintro e w' ⟨rfl, rfl⟩)
            go_roundw
            case rel => exact ⟨k + 1, by omega, rfl, congrArg (Value.int .u64) (by rw [HS.out]; split <;> split <;> omega), by go_num, HA2.out⟩
            case measure => simp; omega
    · obtain rfl : k = l.length := by omega
      have ha := HA.out
      rw [List.take_length] at ha
      have HL := Lib.hid (lead_all ha)
      clear ha
      have hnx : ∀ ty, (Instr.next (.pointer (some ⟨w.heap.size, 0, none⟩)) true ty).run Tryz.prog (w.iter ⟨l.toArray⟩ l.length) = _ := fun ty => run_next_end w ⟨l.toArray⟩ l.length ty (by rw [size_mk]; omega)
      go_wp2_with fail
      go_ret2
      exact ⟨ret_pair (by rw [HL.out, ← HN.out, List.take_length]) (by rw [HL.out]), Drew.iter _ _ _⟩

end Go.Proofs.YtkjdigojajcgkaaGreatDoor
