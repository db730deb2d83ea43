/- Walks of layer 3: what a backslash says. -/
import Derived.Test.YtkjdigojajcgkaaGreatDoorSw6
namespace Go.Proofs.YtkjdigojajcgkaaGreatDoor
open Go.RowKit
open St
set_option linter.unusedVariables false
attribute [local go_sem] ext_mk size_mk toList_mk get_mk take_drop_len take_tail_len ByteArray.mk_append_mk

theorem esc_at {l : List UInt8} {x : UInt8} (h : 1 < l.length) (hx : l[1] = x) : esc l.tail = escC x (l.drop 2) := by rw [tail_cons h, hx]; rfl

theorem tail_at {l : List UInt8} {x : UInt8} (h : 1 < l.length) (hx : l[1] = x) : l.tail = x :: l.drop 2 := by rw [tail_cons h, hx]

theorem tail_take1 {l : List UInt8} {x : UInt8} (h : 1 < l.length) (hx : l[1] = x) : l.tail.take 1 = [x] := by rw [tail_at h hx]; rfl

theorem up_yes {l : List UInt8} {y : UInt8} (h : 2 < l.length) (hy : l[2] = y) (hb : 64 ≤ y.toNat ∧ y.toNat ≤ 95) : escUp (l.drop 2) = some ([UInt8.ofNat (y.toNat - 64)], 2) := by
  rw [List.drop_eq_getElem_cons h, hy]; exact if_pos hb

theorem up_no {l : List UInt8} {y : UInt8} (h : 2 < l.length) (hy : l[2] = y) (hb : ¬ (64 ≤ y.toNat ∧ y.toNat ≤ 95)) : escUp (l.drop 2) = none := by
  rw [List.drop_eq_getElem_cons h, hy]; exact if_neg hb

theorem up_end {l : List UInt8} (h : l.length ≤ 2) : escUp (l.drop 2) = none := by
  rw [List.drop_eq_nil_of_le h]; rfl

theorem tail_idx {l : List UInt8} {k : Nat} (hk : 1 ≤ k) : l.tail[k - 1]? = l[k]? := by
  rw [← List.drop_one, List.getElem?_drop]; congr 1; omega

set_option maxHeartbeats 4000000 in
set_option maxRecDepth 100000 in
theorem said_any (l : List UInt8) (w : World) (he : ErrAt w) (hl : l.length ≤ 9223372036854775806) :
    Calls Tryz.prog 93 #[.string ⟨l.toArray⟩] w fun e w' => e = .returned (.tuple #[.string ⟨(saidT l).toArray⟩, .int .i64 (saidN l)]) ∧ Below w.heap.size w w' := by
  by_cases h2 : l.length < 2
  · have HE := Lib.hid (said_none (l := l) (by rw [show l.tail = [] from List.eq_nil_of_length_eq_zero (by rw [List.length_tail]; omega)]; rfl))
    go_enter Tryz.func93, Tryz.ntmps93
    go_wp2
    go_ret2
    exact ⟨ret_said HE.out, Below.refl _ _⟩
  have h1 : 1 < l.length := by omega
  obtain ⟨x, hxl⟩ : ∃ x, l[1] = x := ⟨_, rfl⟩
  have hq := esc_at h1 hxl
  have HT := Lib.hid (tail_take1 h1 hxl)
  have HTL := Lib.hid (tail_at h1 hxl)
  have hx256 : x.toNat < 256 := x.toNat_lt
  unfold escC at hq
  by_cases hn : 0 ≤ namedAt x
  · rw [if_pos hn] at hq
    have hb : namedAt x ≤ 6 := by rcases named_bd x with h | h <;> omega
    obtain ⟨n, hnn⟩ := Int.eq_ofNat_of_zero_le hn
    rw [hnn] at hq hb
    have HI := Lib.hid (fun W => index_any x W)
    rw [hnn] at HI
    have HE := Lib.hid (said_some hq)
    have kc := fun W => conv_1 (7 + n) (by omega) W
    rw [show (((7 + n : Nat)) : Int) = 7 + (n : Int) by omega] at kc
    clear hq hn hnn
    go_enter Tryz.func93, Tryz.ntmps93
    go_wp2_with (go_at_call 102; refine (HI.out _).mono ?_; rintro e w' ⟨rfl, rfl⟩)
    go_ret2
    exact ⟨ret_said ⟨by rw [HE.out.1, Int.toNat_natCast, UInt8.ofNat_add]; rfl, by rw [HE.out.2]; rfl⟩, (Below.refl _ _).alloc (Nat.le_refl _) _⟩
  rw [if_neg hn] at hq
  have hm : namedAt x = -1 := by rcases named_bd x with h | h <;> omega
  have HI := Lib.hid (fun W => index_any x W)
  rw [hm] at HI
  clear hn hm
  by_cases h34 : x = 34 ∨ x = 92
  · rw [if_pos h34] at hq
    have HE := Lib.hid (said_some hq)
    clear hq
    rcases h34 with rfl | rfl
    · go_enter Tryz.func93, Tryz.ntmps93
      go_wp2_with (go_at_call 102; refine (HI.out _).mono ?_; rintro e w' ⟨rfl, rfl⟩)
      go_ret2
      exact ⟨ret_said ⟨by rw [HE.out.1, ← HT.out], by rw [HE.out.2]; rfl⟩, Below.refl _ _⟩
    · go_enter Tryz.func93, Tryz.ntmps93
      go_wp2_with (go_at_call 102; refine (HI.out _).mono ?_; rintro e w' ⟨rfl, rfl⟩)
      go_ret2
      exact ⟨ret_said ⟨by rw [HE.out.1, ← HT.out], by rw [HE.out.2]; rfl⟩, Below.refl _ _⟩
  rw [if_neg h34] at hq
  have n34 : ((x.toNat : Int) == 34) = false := nbeq (y := 34) (fun h => h34 (.inl h))
  have n92 : ((x.toNat : Int) == 92) = false := nbeq (y := 92) (fun h => h34 (.inr h))
  clear h34
  by_cases h94 : x = 94
  · rw [if_pos h94] at hq
    subst h94
    by_cases h3 : 2 < l.length
    · obtain ⟨y, hyl⟩ : ∃ y, l[2] = y := ⟨_, rfl⟩
      have hy256 : y.toNat < 256 := y.toNat_lt
      by_cases hb : 64 ≤ y.toNat ∧ y.toNat ≤ 95
      · have HE := Lib.hid (said_some (hq.trans (up_yes h3 hyl hb)))
        have k1 : decide ((64 : Int) ≤ (y.toNat : Int)) = true := decide_eq_true (by omega)
        have k2 : decide ((y.toNat : Int) ≤ 95) = true := decide_eq_true (by omega)
        have kc := fun W => conv_1 (y.toNat - 64) (by omega) W
        rw [show (((y.toNat - 64 : Nat)) : Int) = (y.toNat : Int) - 64 by omega] at kc
        clear hq
        go_enter Tryz.func93, Tryz.ntmps93
        go_wp2_with (go_at_call 102; refine (HI.out _).mono ?_; rintro e w' ⟨rfl, rfl⟩)
        go_ret2
        exact ⟨ret_said ⟨by rw [HE.out.1], by rw [HE.out.2]; rfl⟩, (Below.refl _ _).alloc (Nat.le_refl _) _⟩
      · have HE := Lib.hid (said_none (hq.trans (up_no h3 hyl hb)))
        clear hq
        by_cases hlo : (64 : Int) ≤ (y.toNat : Int)
        · have k1 : decide ((64 : Int) ≤ (y.toNat : Int)) = true := decide_eq_true hlo
          have k2 : decide ((y.toNat : Int) ≤ 95) = false := decide_eq_false (by omega)
          go_enter Tryz.func93, Tryz.ntmps93
          go_wp2_with (go_at_call 102; refine (HI.out _).mono ?_; rintro e w' ⟨rfl, rfl⟩)
          go_ret2
          exact ⟨ret_said HE.out, Below.refl _ _⟩
        · have k1 : decide ((64 : Int) ≤ (y.toNat : Int)) = false := decide_eq_false hlo
          go_enter Tryz.func93, Tryz.ntmps93
          go_wp2_with (go_at_call 102; refine (HI.out _).mono ?_; rintro e w' ⟨rfl, rfl⟩)
          go_ret2
          exact ⟨ret_said HE.out, Below.refl _ _⟩
    · have HE := Lib.hid (said_none (hq.trans (up_end (by omega))))
      have k1 : decide ((l.length : Int) ≤ 2) = true := decide_eq_true (by omega)
      have k2 : decide ((2 : Int) < (l.length : Int)) = false := decide_eq_false (by omega)
      clear hq
      go_enter Tryz.func93, Tryz.ntmps93
      go_wp2_with (go_at_call 102; refine (HI.out _).mono ?_; rintro e w' ⟨rfl, rfl⟩)
      go_ret2
      exact ⟨ret_said HE.out, Below.refl _ _⟩
  rw [if_neg h94] at hq
  have n94 : ((x.toNat : Int) == 94) = false := nbeq (y := 94) h94
  clear h94
  by_cases h117 : x = 117
  · rw [if_pos h117] at hq
    subst h117
    cases hN : numN 16 4 (l.drop 2) with
    | none =>
      rw [hN] at hq
      have HE := Lib.hid (said_none hq)
      have hnum := num_u l w he (by omega)
      rw [hN] at hnum
      have HP := Lib.hid (hnum.mono fun e w' ⟨h, g⟩ => show (∃ b, e = Ending.returned (.tuple #[.int .u8 b, .bool false])) ∧ _ from ⟨num_to_none h, g⟩)
      clear hq hnum hN
      go_enter Tryz.func93, Tryz.ntmps93
      go_wp2_with (first | (go_at_call 102; refine (HI.out _).mono ?_; rintro e w' ⟨rfl, rfl⟩) | (go_at_call 103; refine (HP.out).mono ?_; rintro e w1 ⟨⟨b, rfl⟩, hb1⟩))
      go_ret2
      exact ⟨ret_said HE.out, hb1⟩
    | some v =>
      rw [hN] at hq
      have HE := Lib.hid (said_some hq)
      have hnum := num_u l w he (by omega)
      rw [hN] at hnum
      have HP := Lib.hid (hnum.mono fun e w' ⟨h, g⟩ => show (e = Ending.returned (.tuple #[.int .u8 (v : Int), .bool true])) ∧ _ from ⟨num_to_some h, g⟩)
      have kc := fun W => conv_1 v (numN_le hN) W
      clear hq hnum hN
      go_enter Tryz.func93, Tryz.ntmps93
      go_wp2_with (first | (go_at_call 102; refine (HI.out _).mono ?_; rintro e w' ⟨rfl, rfl⟩) | (go_at_call 103; refine (HP.out).mono ?_; rintro e w1 ⟨rfl, hb1⟩))
      go_ret2
      exact ⟨ret_said ⟨by rw [HE.out.1], by rw [HE.out.2]; rfl⟩, hb1.alloc hb1.size _⟩
  rw [if_neg h117] at hq
  have n117 : ((x.toNat : Int) == 117) = false := nbeq (y := 117) h117
  clear h117
  by_cases hd : 48 ≤ x.toNat ∧ x.toNat ≤ 57
  · rw [if_pos hd, ← HTL.out] at hq
    have k1 : decide ((48 : Int) ≤ (x.toNat : Int)) = true := decide_eq_true (by omega)
    have k2 : decide ((x.toNat : Int) ≤ 57) = true := decide_eq_true (by omega)
    cases hN : numN 10 3 l.tail with
    | none =>
      rw [hN] at hq
      have HE := Lib.hid (said_none hq)
      have hnum := num_d l w he (by omega)
      rw [hN] at hnum
      have HP := Lib.hid (hnum.mono fun e w' ⟨h, g⟩ => show (∃ b, e = Ending.returned (.tuple #[.int .u8 b, .bool false])) ∧ _ from ⟨num_to_none h, g⟩)
      clear hq hnum hN
      go_enter Tryz.func93, Tryz.ntmps93
      go_wp2_with (first | (go_at_call 102; refine (HI.out _).mono ?_; rintro e w' ⟨rfl, rfl⟩) | (go_at_call 103; refine (HP.out).mono ?_; rintro e w1 ⟨⟨b, rfl⟩, hb1⟩))
      go_ret2
      exact ⟨ret_said HE.out, hb1⟩
    | some v =>
      rw [hN] at hq
      have HE := Lib.hid (said_some hq)
      have hnum := num_d l w he (by omega)
      rw [hN] at hnum
      have HP := Lib.hid (hnum.mono fun e w' ⟨h, g⟩ => show (e = Ending.returned (.tuple #[.int .u8 (v : Int), .bool true])) ∧ _ from ⟨num_to_some h, g⟩)
      have kc := fun W => conv_1 v (numN_le hN) W
      clear hq hnum hN
      go_enter Tryz.func93, Tryz.ntmps93
      go_wp2_with (first | (go_at_call 102; refine (HI.out _).mono ?_; rintro e w' ⟨rfl, rfl⟩) | (go_at_call 103; refine (HP.out).mono ?_; rintro e w1 ⟨rfl, hb1⟩))
      go_ret2
      exact ⟨ret_said ⟨by rw [HE.out.1], by rw [HE.out.2]; rfl⟩, hb1.alloc hb1.size _⟩
  rw [if_neg hd] at hq
  obtain ⟨bb, hbb⟩ : ∃ bb, isBl x = bb := ⟨_, rfl⟩
  have HB := Lib.hid (fun W => bl_any x W)
  rw [hbb] at HB
  cases bb with
  | false =>
    rw [hbb] at hq
    have HE := Lib.hid (said_none hq)
    clear hq
    by_cases hlo : (48 : Int) ≤ (x.toNat : Int)
    · have k1 : decide ((48 : Int) ≤ (x.toNat : Int)) = true := decide_eq_true hlo
      have k2 : decide ((x.toNat : Int) ≤ 57) = false := decide_eq_false (by omega)
      go_enter Tryz.func93, Tryz.ntmps93
      go_wp2_with (first | (go_at_call 102; refine (HI.out _).mono ?_; rintro e w' ⟨rfl, rfl⟩) | (go_at_call 104; refine (HB.out _).mono ?_; rintro e w' ⟨rfl, rfl⟩))
      go_ret2
      exact ⟨ret_said HE.out, Below.refl _ _⟩
    · have k1 : decide ((48 : Int) ≤ (x.toNat : Int)) = false := decide_eq_false hlo
      go_enter Tryz.func93, Tryz.ntmps93
      go_wp2_with (first | (go_at_call 102; refine (HI.out _).mono ?_; rintro e w' ⟨rfl, rfl⟩) | (go_at_call 104; refine (HB.out _).mono ?_; rintro e w' ⟨rfl, rfl⟩))
      go_ret2
      exact ⟨ret_said HE.out, Below.refl _ _⟩
  | true =>
    rw [hbb, if_pos rfl, ← HTL.out] at hq
    have k1 : decide ((48 : Int) ≤ (x.toNat : Int)) = false := decide_eq_false (by have := of_decide_eq_true hbb; omega)
    have hstart : (l.tail.take (2 - 1)).all isBl = true := by rw [show 2 - 1 = 1 from rfl, HT.out]; simp [hbb]
    have HQ := Lib.hid hq
    have HS := Lib.hid hstart
    clear hq hstart
    go_enter Tryz.func93, Tryz.ntmps93
    go_wp2_with (first | (go_at_call 102; refine (HI.out _).mono ?_; rintro e w' ⟨rfl, rfl⟩) | (go_at_call 104; refine (HB.out _).mono ?_; rintro e w' ⟨rfl, rfl⟩))
    go_loop [10] (fun vi => ∃ k : Nat, vi = .int .i64 k ∧ 2 ≤ k ∧ k ≤ l.length ∧ (l.tail.take (k - 1)).all isBl = true) (fun vi => l.length - (intOf vi).toNat)
    case atStart => exact ⟨2, rfl, by omega, by omega, HS.out⟩
    case round =>
      obtain ⟨k, rfl, hk2, hk, ha⟩ := hrel
      have HA := Lib.hid ha
      clear ha
      by_cases hlt : k < l.length
      · obtain ⟨y, hyl⟩ : ∃ y, l[k] = y := ⟨_, rfl⟩
        have hy? : l.tail[k - 1]? = some y := by rw [tail_idx (by omega), List.getElem?_eq_getElem hlt, hyl]
        have HY := Lib.hid hy?
        have kl : decide ((k : Int) < (l.length : Int)) = true := decide_eq_true (by omega)
        obtain ⟨cc, hcc⟩ : ∃ cc, isBl y = cc := ⟨_, rfl⟩
        have HC := Lib.hid (fun W => bl_any y W)
        rw [hcc] at HC
        clear hy?
        cases cc with
        | true =>
          have HN := Lib.hid (all_snoc HA.out HY.out hcc)
          clear hcc
          go_wp2_with (go_at_call 104; refine (HC.out _).mono ?_; rintro e w' ⟨rfl, rfl⟩)
          refine ⟨⟨k + 1, (by first | rfl | (congr 1; omega)), by omega, by omega, ?_⟩, by simp [intOf]; omega⟩
          rw [show k + 1 - 1 = k - 1 + 1 by omega]; exact HN.out
        | false =>
          by_cases h9 : y = 92
          · subst h9
            have HE := Lib.hid (said_some (HQ.out.trans (gap_yes HA.out HY.out)))
            go_wp2_with (go_at_call 104; refine (HC.out _).mono ?_; rintro e w' ⟨rfl, rfl⟩)
            go_ret2
            exact ⟨ret_said ⟨HE.out.1, by rw [HE.out.2]; omega⟩, Below.refl _ _⟩
          · have HE := Lib.hid (said_none (HQ.out.trans (gap_no HA.out (fun x hx => by rw [HY.out] at hx; cases hx; exact ⟨hcc, h9⟩))))
            have m92 : ((y.toNat : Int) == 92) = false := nbeq (y := 92) h9
            go_wp2_with (go_at_call 104; refine (HC.out _).mono ?_; rintro e w' ⟨rfl, rfl⟩)
            go_ret2
            exact ⟨ret_said HE.out, Below.refl _ _⟩
      · have kl : decide ((k : Int) < (l.length : Int)) = false := decide_eq_false (by omega)
        have HE := Lib.hid (said_none (HQ.out.trans (gap_no HA.out (fun x hx => by rw [tail_idx (by omega), List.getElem?_eq_none (by omega)] at hx; cases hx))))
        go_wp2
        go_ret2
        exact ⟨ret_said HE.out, Below.refl _ _⟩
end Go.Proofs.YtkjdigojajcgkaaGreatDoor
