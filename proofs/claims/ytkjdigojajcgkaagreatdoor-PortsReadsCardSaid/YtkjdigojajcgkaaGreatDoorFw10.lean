/- Walks of layer 1: the reference's constants; the law FixConstants. -/
import Derived.Test.YtkjdigojajcgkaaGreatDoorFw8
import Derived.Test.YtkjdigojajcgkaaGreatDoorFw9
import Derived.Test.YtkjdigojajcgkaaGreatDoorFw6
namespace Go.Proofs.YtkjdigojajcgkaaGreatDoor
open Go.RowKit
open Fx
set_option linter.unusedVariables false
attribute [local go_sem] ext_mk size_mk toList_mk get_mk take_drop_len take_tail_len

set_option maxHeartbeats 400000 in
theorem rc_neg_hexok (r : List UInt8) (w : World) (hl : r.length + 1 ≤ 9223372036854775807) (h2 : (r).take 2 = [48, 120]) (h3 : 2 < (r).length) (hk : conOk 16 ((r).drop 2) = true) :
    Calls Tryz.prog 30 #[.string ⟨(126 :: r).toArray⟩] w fun e w' => e = .returned (.tuple #[.int .i64 (sgnV (rnumN 16 ((r).drop 2) 0) true), .int .i64 (sgnE (rnumN 16 ((r).drop 2) 0) true)]) ∧ w = w' := by
  have ⟨n0, n1⟩ := rnum_bd (B := 16) (.inr rfl) ((r).drop 2) 0 (by omega) (by omega)
  go_enter Tryz.func30, Tryz.ntmps30
  go_wp2_with
    (first | (go_at_call_of 51 (Value.int .i64 16); refine (all16 _ _ (by simp; omega)).mono ?_; rintro e w' ⟨rfl, rfl⟩) | (go_at_call_of 51 (Value.int .i64 10); refine (all10 _ _ (by first | omega | (simp; omega))).mono ?_; rintro e w' ⟨rfl, rfl⟩) | (go_at_call_of 53 (Value.int .i64 16); refine (number16 _ _ (by simp; omega) (con_ok hk).2).mono ?_; rintro e w' ⟨rfl, rfl⟩) | (go_at_call_of 53 (Value.int .i64 10); refine (number10 _ _ (by first | omega | (simp; omega)) (con_ok hk).2).mono ?_; rintro e w' ⟨rfl, rfl⟩) | (go_at_call 52; refine (rsigned_any _ _ _ n0 (by omega)).mono ?_; rintro e w' ⟨rfl, rfl⟩))
  all_goals go_ret2
  all_goals exact ⟨rfl, rfl⟩

set_option maxHeartbeats 400000 in
theorem rc_neg_hexno (r : List UInt8) (w : World) (hl : r.length + 1 ≤ 9223372036854775807) (h2 : (r).take 2 = [48, 120]) (hk : conOk 16 ((r).drop 2) = false) (hj : conOk 10 (r) = false) (n0 : (0 : Int) ≤ 0) :
    Calls Tryz.prog 30 #[.string ⟨(126 :: r).toArray⟩] w fun e w' => e = .returned (.tuple #[.int .i64 0, .int .i64 12]) ∧ w = w' := by
  skip
  go_enter Tryz.func30, Tryz.ntmps30
  go_wp2_with
    (first | (go_at_call_of 51 (Value.int .i64 16); refine (all16 _ _ (by simp; omega)).mono ?_; rintro e w' ⟨rfl, rfl⟩) | (go_at_call_of 51 (Value.int .i64 10); refine (all10 _ _ (by first | omega | (simp; omega))).mono ?_; rintro e w' ⟨rfl, rfl⟩) | (go_at_call_of 53 (Value.int .i64 16); refine (number16 _ _ (by simp; omega) (con_ok hk).2).mono ?_; rintro e w' ⟨rfl, rfl⟩) | (go_at_call_of 53 (Value.int .i64 10); refine (number10 _ _ (by first | omega | (simp; omega)) (con_ok hk).2).mono ?_; rintro e w' ⟨rfl, rfl⟩) | (go_at_call 52; refine (rsigned_any _ _ _ n0 (by omega)).mono ?_; rintro e w' ⟨rfl, rfl⟩))
  all_goals go_ret2
  all_goals exact ⟨rfl, rfl⟩

set_option maxHeartbeats 400000 in
theorem rc_neg_decok (r : List UInt8) (w : World) (hl : r.length + 1 ≤ 9223372036854775807) (h2 : ¬ (r).take 2 = [48, 120]) (hk : conOk 10 (r) = true) :
    Calls Tryz.prog 30 #[.string ⟨(126 :: r).toArray⟩] w fun e w' => e = .returned (.tuple #[.int .i64 (sgnV (rnumN 10 (r) 0) true), .int .i64 (sgnE (rnumN 10 (r) 0) true)]) ∧ w = w' := by
  have ⟨n0, n1⟩ := rnum_bd (B := 10) (.inl rfl) (r) 0 (by omega) (by omega)
  go_enter Tryz.func30, Tryz.ntmps30
  go_wp2_with
    (first | (go_at_call_of 51 (Value.int .i64 16); refine (all16 _ _ (by simp; omega)).mono ?_; rintro e w' ⟨rfl, rfl⟩) | (go_at_call_of 51 (Value.int .i64 10); refine (all10 _ _ (by first | omega | (simp; omega))).mono ?_; rintro e w' ⟨rfl, rfl⟩) | (go_at_call_of 53 (Value.int .i64 16); refine (number16 _ _ (by simp; omega) (con_ok hk).2).mono ?_; rintro e w' ⟨rfl, rfl⟩) | (go_at_call_of 53 (Value.int .i64 10); refine (number10 _ _ (by first | omega | (simp; omega)) (con_ok hk).2).mono ?_; rintro e w' ⟨rfl, rfl⟩) | (go_at_call 52; refine (rsigned_any _ _ _ n0 (by omega)).mono ?_; rintro e w' ⟨rfl, rfl⟩))
  all_goals go_ret2
  all_goals exact ⟨rfl, rfl⟩

set_option maxHeartbeats 400000 in
theorem rc_neg_decno (r : List UInt8) (w : World) (hl : r.length + 1 ≤ 9223372036854775807) (h2 : ¬ (r).take 2 = [48, 120]) (hk : conOk 10 (r) = false) (n0 : (0 : Int) ≤ 0) :
    Calls Tryz.prog 30 #[.string ⟨(126 :: r).toArray⟩] w fun e w' => e = .returned (.tuple #[.int .i64 0, .int .i64 12]) ∧ w = w' := by
  skip
  go_enter Tryz.func30, Tryz.ntmps30
  go_wp2_with
    (first | (go_at_call_of 51 (Value.int .i64 16); refine (all16 _ _ (by simp; omega)).mono ?_; rintro e w' ⟨rfl, rfl⟩) | (go_at_call_of 51 (Value.int .i64 10); refine (all10 _ _ (by first | omega | (simp; omega))).mono ?_; rintro e w' ⟨rfl, rfl⟩) | (go_at_call_of 53 (Value.int .i64 16); refine (number16 _ _ (by simp; omega) (con_ok hk).2).mono ?_; rintro e w' ⟨rfl, rfl⟩) | (go_at_call_of 53 (Value.int .i64 10); refine (number10 _ _ (by first | omega | (simp; omega)) (con_ok hk).2).mono ?_; rintro e w' ⟨rfl, rfl⟩) | (go_at_call 52; refine (rsigned_any _ _ _ n0 (by omega)).mono ?_; rintro e w' ⟨rfl, rfl⟩))
  all_goals go_ret2
  all_goals exact ⟨rfl, rfl⟩

set_option maxHeartbeats 400000 in
theorem rc_pos_hexok (r : List UInt8) (w : World) (hl : r.length ≤ 9223372036854775807) (h0 : 0 < r.length) (hx : (((r[0]'h0).toNat : Int) == 126) = false) (h2 : (r).take 2 = [48, 120]) (h3 : 2 < (r).length) (hk : conOk 16 ((r).drop 2) = true) :
    Calls Tryz.prog 30 #[.string ⟨(r).toArray⟩] w fun e w' => e = .returned (.tuple #[.int .i64 (sgnV (rnumN 16 ((r).drop 2) 0) false), .int .i64 (sgnE (rnumN 16 ((r).drop 2) 0) false)]) ∧ w = w' := by
  have ⟨n0, n1⟩ := rnum_bd (B := 16) (.inr rfl) ((r).drop 2) 0 (by omega) (by omega)
  go_enter Tryz.func30, Tryz.ntmps30
  go_wp2_with
    (first | (go_at_call_of 51 (Value.int .i64 16); refine (all16 _ _ (by simp; omega)).mono ?_; rintro e w' ⟨rfl, rfl⟩) | (go_at_call_of 51 (Value.int .i64 10); refine (all10 _ _ (by first | omega | (simp; omega))).mono ?_; rintro e w' ⟨rfl, rfl⟩) | (go_at_call_of 53 (Value.int .i64 16); refine (number16 _ _ (by simp; omega) (con_ok hk).2).mono ?_; rintro e w' ⟨rfl, rfl⟩) | (go_at_call_of 53 (Value.int .i64 10); refine (number10 _ _ (by first | omega | (simp; omega)) (con_ok hk).2).mono ?_; rintro e w' ⟨rfl, rfl⟩) | (go_at_call 52; refine (rsigned_any _ _ _ n0 (by omega)).mono ?_; rintro e w' ⟨rfl, rfl⟩))
  all_goals go_ret2
  all_goals exact ⟨rfl, rfl⟩

set_option maxHeartbeats 400000 in
theorem rc_pos_hexno (r : List UInt8) (w : World) (hl : r.length ≤ 9223372036854775807) (h0 : 0 < r.length) (hx : (((r[0]'h0).toNat : Int) == 126) = false) (h2 : (r).take 2 = [48, 120]) (hk : conOk 16 ((r).drop 2) = false) (hj : conOk 10 (r) = false) (n0 : (0 : Int) ≤ 0) :
    Calls Tryz.prog 30 #[.string ⟨(r).toArray⟩] w fun e w' => e = .returned (.tuple #[.int .i64 0, .int .i64 12]) ∧ w = w' := by
  skip
  go_enter Tryz.func30, Tryz.ntmps30
  go_wp2_with
    (first | (go_at_call_of 51 (Value.int .i64 16); refine (all16 _ _ (by simp; omega)).mono ?_; rintro e w' ⟨rfl, rfl⟩) | (go_at_call_of 51 (Value.int .i64 10); refine (all10 _ _ (by first | omega | (simp; omega))).mono ?_; rintro e w' ⟨rfl, rfl⟩) | (go_at_call_of 53 (Value.int .i64 16); refine (number16 _ _ (by simp; omega) (con_ok hk).2).mono ?_; rintro e w' ⟨rfl, rfl⟩) | (go_at_call_of 53 (Value.int .i64 10); refine (number10 _ _ (by first | omega | (simp; omega)) (con_ok hk).2).mono ?_; rintro e w' ⟨rfl, rfl⟩) | (go_at_call 52; refine (rsigned_any _ _ _ n0 (by omega)).mono ?_; rintro e w' ⟨rfl, rfl⟩))
  all_goals go_ret2
  all_goals exact ⟨rfl, rfl⟩

set_option maxHeartbeats 400000 in
theorem rc_pos_decok (r : List UInt8) (w : World) (hl : r.length ≤ 9223372036854775807) (h0 : 0 < r.length) (hx : (((r[0]'h0).toNat : Int) == 126) = false) (h2 : ¬ (r).take 2 = [48, 120]) (hk : conOk 10 (r) = true) :
    Calls Tryz.prog 30 #[.string ⟨(r).toArray⟩] w fun e w' => e = .returned (.tuple #[.int .i64 (sgnV (rnumN 10 (r) 0) false), .int .i64 (sgnE (rnumN 10 (r) 0) false)]) ∧ w = w' := by
  have ⟨n0, n1⟩ := rnum_bd (B := 10) (.inl rfl) (r) 0 (by omega) (by omega)
  go_enter Tryz.func30, Tryz.ntmps30
  go_wp2_with
    (first | (go_at_call_of 51 (Value.int .i64 16); refine (all16 _ _ (by simp; omega)).mono ?_; rintro e w' ⟨rfl, rfl⟩) | (go_at_call_of 51 (Value.int .i64 10); refine (all10 _ _ (by first | omega | (simp; omega))).mono ?_; rintro e w' ⟨rfl, rfl⟩) | (go_at_call_of 53 (Value.int .i64 16); refine (number16 _ _ (by simp; omega) (con_ok hk).2).mono ?_; rintro e w' ⟨rfl, rfl⟩) | (go_at_call_of 53 (Value.int .i64 10); refine (number10 _ _ (by first | omega | (simp; omega)) (con_ok hk).2).mono ?_; rintro e w' ⟨rfl, rfl⟩) | (go_at_call 52; refine (rsigned_any _ _ _ n0 (by omega)).mono ?_; rintro e w' ⟨rfl, rfl⟩))
  all_goals go_ret2
  all_goals exact ⟨rfl, rfl⟩

set_option maxHeartbeats 400000 in
theorem rc_pos_decno (r : List UInt8) (w : World) (hl : r.length ≤ 9223372036854775807) (h0 : 0 < r.length) (hx : (((r[0]'h0).toNat : Int) == 126) = false) (h2 : ¬ (r).take 2 = [48, 120]) (hk : conOk 10 (r) = false) (n0 : (0 : Int) ≤ 0) :
    Calls Tryz.prog 30 #[.string ⟨(r).toArray⟩] w fun e w' => e = .returned (.tuple #[.int .i64 0, .int .i64 12]) ∧ w = w' := by
  skip
  go_enter Tryz.func30, Tryz.ntmps30
  go_wp2_with
    (first | (go_at_call_of 51 (Value.int .i64 16); refine (all16 _ _ (by simp; omega)).mono ?_; rintro e w' ⟨rfl, rfl⟩) | (go_at_call_of 51 (Value.int .i64 10); refine (all10 _ _ (by first | omega | (simp; omega))).mono ?_; rintro e w' ⟨rfl, rfl⟩) | (go_at_call_of 53 (Value.int .i64 16); refine (number16 _ _ (by simp; omega) (con_ok hk).2).mono ?_; rintro e w' ⟨rfl, rfl⟩) | (go_at_call_of 53 (Value.int .i64 10); refine (number10 _ _ (by first | omega | (simp; omega)) (con_ok hk).2).mono ?_; rintro e w' ⟨rfl, rfl⟩) | (go_at_call 52; refine (rsigned_any _ _ _ n0 (by omega)).mono ?_; rintro e w' ⟨rfl, rfl⟩))
  all_goals go_ret2
  all_goals exact ⟨rfl, rfl⟩

set_option maxHeartbeats 400000 in
theorem rc_nil (w : World) :
    Calls Tryz.prog 30 #[.string ⟨([] : List UInt8).toArray⟩] w fun e w' => e = .returned (.tuple #[.int .i64 0, .int .i64 12]) ∧ w = w' := by
  have hk : conOk 10 [] = false := rfl
  go_enter Tryz.func30, Tryz.ntmps30
  go_wp2_with (first | (go_at_call_of 51 (Value.int .i64 10); refine (all10 [] _ (by simp)).mono ?_; rintro e w' ⟨rfl, rfl⟩))
  go_ret2
  exact ⟨rfl, rfl⟩

theorem rc_core {l R : List UInt8} {b : Bool} (hs : conSign l = b) (hr : conRest l = R) (w : World)
    (c1 : R.take 2 = [48, 120] → 2 < R.length → conOk 16 (R.drop 2) = true → Calls Tryz.prog 30 #[.string ⟨l.toArray⟩] w fun e w' => e = .returned (.tuple #[.int .i64 (sgnV (rnumN 16 (R.drop 2) 0) b), .int .i64 (sgnE (rnumN 16 (R.drop 2) 0) b)]) ∧ w = w')
    (c2 : R.take 2 = [48, 120] → conOk 16 (R.drop 2) = false → conOk 10 R = false → Calls Tryz.prog 30 #[.string ⟨l.toArray⟩] w fun e w' => e = .returned (.tuple #[.int .i64 0, .int .i64 12]) ∧ w = w')
    (c3 : ¬ R.take 2 = [48, 120] → conOk 10 R = true → Calls Tryz.prog 30 #[.string ⟨l.toArray⟩] w fun e w' => e = .returned (.tuple #[.int .i64 (sgnV (rnumN 10 R 0) b), .int .i64 (sgnE (rnumN 10 R 0) b)]) ∧ w = w')
    (c4 : ¬ R.take 2 = [48, 120] → conOk 10 R = false → Calls Tryz.prog 30 #[.string ⟨l.toArray⟩] w fun e w' => e = .returned (.tuple #[.int .i64 0, .int .i64 12]) ∧ w = w') :
    Calls Tryz.prog 30 #[.string ⟨l.toArray⟩] w fun e w' => e = .returned (.tuple #[.int .i64 (conV l), .int .i64 (conE l)]) ∧ w = w' := by
  unfold conV conE
  rw [hs, hr]
  cases hx : conHex R
  · have hx' : ¬ R.take 2 = [48, 120] := fun h => by rw [(con_hex_iff R).2 h] at hx; cases hx
    cases hk : conOk 10 R
    · simpa using c4 hx' hk
    · have hn := rnum_sgn (B := 10) (.inl rfl) R 0 (by omega) b
      have h := c3 hx' hk
      rw [hn.1, hn.2] at h
      simpa [numV] using h
  · have hx' := (con_hex_iff R).1 hx
    cases hk : conOk 16 (R.drop 2)
    · simpa using c2 hx' hk (con_hex_no10 hx)
    · have hn := rnum_sgn (B := 16) (.inr rfl) (R.drop 2) 0 (by omega) b
      have h := c1 hx' (con_ok_len hk) hk
      rw [hn.1, hn.2] at h
      simpa [numV] using h

theorem rconstant_any (l : List UInt8) (w : World) (hl : l.length ≤ 9223372036854775807) :
    Calls Tryz.prog 30 #[.string ⟨l.toArray⟩] w fun e w' => e = .returned (.tuple #[.int .i64 (conV l), .int .i64 (conE l)]) ∧ w = w' := by
  cases l with
  | nil => exact rc_nil w
  | cons x r =>
    by_cases hx : x = 126
    · subst hx
      have hr : r.length + 1 ≤ 9223372036854775807 := by simpa using hl
      exact rc_core (con_tilde r).1 (con_tilde r).2 w (fun a b c => rc_neg_hexok r w hr a b c) (fun a b c => rc_neg_hexno r w hr a b c (by omega)) (fun a b => rc_neg_decok r w hr a b) (fun a b => rc_neg_decno r w hr a b (by omega))
    · have hx' : ((x.toNat : Int) == 126) = false := by
        rw [beq_eq_false_iff_ne]; intro h; apply hx; apply UInt8.toNat.inj; show x.toNat = 126; omega
      exact rc_core (con_plain r hx).1 (con_plain r hx).2 w (fun a b c => rc_pos_hexok (x :: r) w hl (by simp) hx' a b c) (fun a b c => rc_pos_hexno (x :: r) w hl (by simp) hx' a b c (by omega)) (fun a b => rc_pos_decok (x :: r) w hl (by simp) hx' a b) (fun a b => rc_pos_decno (x :: r) w hl (by simp) hx' a b (by omega))
end Go.Proofs.YtkjdigojajcgkaaGreatDoor
