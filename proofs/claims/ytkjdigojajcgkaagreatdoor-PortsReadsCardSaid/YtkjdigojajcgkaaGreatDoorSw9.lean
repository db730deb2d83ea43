/- Walks of layer 3: digits and what stands behind a backslash, in the reference. -/
import Derived.Test.YtkjdigojajcgkaaGreatDoorSw7
import Derived.Test.YtkjdigojajcgkaaGreatDoorSr
namespace Go.Proofs.YtkjdigojajcgkaaGreatDoor
open Go.RowKit
open St
set_option linter.unusedVariables false
attribute [local go_sem] ext_mk size_mk toList_mk get_mk take_drop_len take_tail_len ByteArray.mk_append_mk

def wor (x : UInt8) : Int := if bdig x = 16 then -1 else bdig x

theorem wor_bd (x : UInt8) : -1 ≤ wor x ∧ wor x ≤ 15 := by have := bdig_nn x; unfold wor; split <;> omega

theorem wor_yes {B : Int} {x : UInt8} (hB : B ≤ 16) (h : isD B x = true) : wor x = bdig x ∧ 0 ≤ wor x ∧ wor x < B := by
  have h1 := isD_lt h
  have h2 := bdig_nn x
  unfold wor; rw [if_neg (by omega)]; omega

theorem wor_no {B : Int} {x : UInt8} (h : isD B x = false) : wor x < 0 ∨ B ≤ wor x := by
  have h1 := isD_ge h
  unfold wor; split <;> omega

set_option maxHeartbeats 800000 in
theorem worth_any (x : UInt8) (w : World) : Calls Tryz.prog 94 #[.int .u8 (x.toNat : Int)] w fun e w' => e = .returned (.int .i64 (wor x)) ∧ w = w' := by
  obtain ⟨n, hn⟩ : ∃ n, x.toNat = n := ⟨_, rfl⟩
  have h0 := x.toNat_lt
  have hd : bdig x = dig (n : Int) := by unfold bdig; rw [hn]
  rw [hn] at h0 ⊢
  by_cases h1 : 48 ≤ n ∧ n ≤ 57
  · have HE := Lib.hid (show (n : Int) - 48 = wor x by unfold wor; rw [hd]; unfold dig; (repeat' split) <;> omega)
    obtain ⟨h1a, h1b⟩ := h1
    clear hd hn
    go_enter Tryz.func94, Tryz.ntmps94
    go_wp2
    go_ret
    exact ⟨ret_int HE.out, rfl⟩
  · by_cases h2 : 97 ≤ n ∧ n ≤ 102
    · have HE := Lib.hid (show (n : Int) - 97 + 10 = wor x by unfold wor; rw [hd]; unfold dig; (repeat' split) <;> omega)
      have k1 : decide ((n : Int) ≤ 57) = false := decide_eq_false (by omega)
      obtain ⟨h2a, h2b⟩ := h2
      clear hd hn
      go_enter Tryz.func94, Tryz.ntmps94
      go_wp2
      go_ret
      exact ⟨ret_int HE.out, rfl⟩
    · by_cases h3 : 65 ≤ n ∧ n ≤ 70
      · have HE := Lib.hid (show (n : Int) - 65 + 10 = wor x by unfold wor; rw [hd]; unfold dig; (repeat' split) <;> omega)
        have k1 : decide ((n : Int) ≤ 57) = false := decide_eq_false (by omega)
        have k2 : decide ((97 : Int) ≤ (n : Int)) = false := decide_eq_false (by omega)
        obtain ⟨h3a, h3b⟩ := h3
        clear hd hn
        go_enter Tryz.func94, Tryz.ntmps94
        go_wp2
        go_ret
        exact ⟨ret_int HE.out, rfl⟩
      · have HE := Lib.hid (show (-1 : Int) = wor x by unfold wor; rw [hd]; unfold dig; (repeat' split) <;> omega)
        clear hd hn
        have q1 : n < 48 ∨ 57 < n := by omega
        have q2 : n < 97 ∨ 102 < n := by omega
        have q3 : n < 65 ∨ 70 < n := by omega
        clear h1 h2 h3
        go_enter Tryz.func94, Tryz.ntmps94
        go_wp2
        all_goals go_ret
        all_goals exact ⟨ret_int HE.out, rfl⟩

/-- the number, or -1 -/
def numR (B : Int) (n : Nat) (r : List UInt8) : Int := match numN B n r with | none => -1 | some v => v

theorem numR_none {B : Int} {n : Nat} {r : List UInt8} (h : numN B n r = none) : numR B n r = -1 := by unfold numR; rw [h]

theorem numR_some {B : Int} {n v : Nat} {r : List UInt8} (h : numN B n r = some v) : numR B n r = v := by unfold numR; rw [h]

theorem get_drop {l : List UInt8} {m k : Nat} (h : m + k < l.length) : (l.drop m)[k]? = some (l[m + k]) := by
  rw [List.getElem?_drop, List.getElem?_eq_getElem h]

theorem take_some {l : List UInt8} {n k : Nat} {x : UInt8} (h : k < n) (hx : l[k]? = some x) : (l.take n)[k]? = some x := by
  rw [List.getElem?_take, if_pos h]; exact hx

set_option maxHeartbeats 2000000 in
set_option maxRecDepth 100000 in
theorem rnum_any (B : Int) (hB0 : 2 ≤ B) (hB : B ≤ 16) (n m : Nat) (hn : n ≤ 4) (l : List UInt8) (w : World) (hm : m ≤ l.length) (hl : l.length ≤ 9223372036854775000) :
    Calls Tryz.prog 77 #[.string ⟨l.toArray⟩, .int .i64 (m : Int), .int .i64 (n : Int), .int .i64 B] w fun e w' => e = .returned (.int .i64 (numR B n (l.drop m))) ∧ w = w' := by
  by_cases hs : l.length < m + n
  · have HE := Lib.hid (numR_none (numN_short (B := B) (n := n) (r := l.drop m) (by rw [List.length_drop]; omega)))
    have k1 : decide ((l.length : Int) < (m : Int) + (n : Int)) = true := decide_eq_true (by omega)
    go_enter Tryz.func77, Tryz.ntmps77
    go_wp2
    go_ret
    exact ⟨ret_int HE.out.symm, rfl⟩
  · go_enter Tryz.func77, Tryz.ntmps77
    go_wp2
    go_loop [9, 10] (fun vv vi => ∃ (k : Nat) (a : Int), vv = .int .i64 a ∧ vi = .int .i64 ((m : Int) + (k : Int)) ∧ k ≤ n ∧ Hid (a = numV B ((l.drop m).take k) ∧ ((l.drop m).take k).all (isD B) = true)) (fun _ vi => m + n - (intOf vi).toNat)
    case atStart => exact ⟨0, 0, rfl, by simp, by omega, rfl, rfl⟩
    case round =>
      obtain ⟨k, a, rfl, rfl, hk, hh⟩ := hrel
      have hbd := numV_bd (B := B) (by omega) _ hh.out.2
      rw [← hh.out.1, List.length_take, List.length_drop] at hbd
      have ha : 0 ≤ a ∧ a ≤ 65535 := by
        refine ⟨hbd.1, Int.le_trans hbd.2 ?_⟩
        have : (16 : Int) ^ (min k (l.length - m)) ≤ 16 ^ 4 := by
          have h3 : min k (l.length - m) ≤ 4 := by omega
          obtain ⟨q, hq⟩ : ∃ q, min k (l.length - m) = q := ⟨_, rfl⟩
          rw [hq] at h3 ⊢
          rcases (by omega : q = 0 ∨ q = 1 ∨ q = 2 ∨ q = 3 ∨ q = 4) with rfl | rfl | rfl | rfl | rfl <;> decide
        have h4 : (16 : Int) ^ 4 = 65536 := by decide
        omega
      obtain ⟨a0, a1⟩ := ha
      clear hbd
      by_cases hkn : k < n
      · have hmk : m + k < l.length := by omega
        obtain ⟨x, hxl⟩ : ∃ x, l[m + k] = x := ⟨_, rfl⟩
        have hx : (l.drop m)[k]? = some x := by rw [get_drop hmk, hxl]
        have kk : (m : Int) + (k : Int) < (m : Int) + (n : Int) := by omega
        have kl : (m : Int) + (k : Int) < (l.length : Int) := by omega
        have kt : ((m : Int) + (k : Int)).toNat = m + k := by omega
        have hwb := wor_bd x
        cases hD : isD B x
        · have HE := Lib.hid (numR_none (numN_bad (pu_no (take_some hkn hx) hD)))
          have hw := wor_no hD
          have HW := Lib.hid (fun W => worth_any x W)
          obtain ⟨v, hv⟩ : ∃ v, wor x = v := ⟨_, rfl⟩
          rw [hv] at HW hw hwb
          clear hh hx hD hv
          rcases hw with hw | hw
          · go_wp2_with (go_at_call 94; refine (HW.out _).mono ?_; rintro e w' ⟨rfl, rfl⟩)
            go_ret
            exact ⟨ret_int HE.out.symm, rfl⟩
          · go_wp2_with (go_at_call 94; refine (HW.out _).mono ?_; rintro e w' ⟨rfl, rfl⟩)
            go_ret
            exact ⟨ret_int HE.out.symm, rfl⟩
        · have hw := wor_yes hB hD
          have HW := Lib.hid (fun W => worth_any x W)
          have HN : Hid (a * B + wor x = numV B ((l.drop m).take (k + 1)) ∧ ((l.drop m).take (k + 1)).all (isD B) = true) := Lib.hid ⟨by rw [take_snoc hx, numV_snoc, hw.1, hh.out.1], by rw [take_snoc hx, List.all_append, hh.out.2]; simp [hD]⟩
          obtain ⟨v, hv⟩ : ∃ v, wor x = v := ⟨_, rfl⟩
          rw [hv] at HW hw hwb HN
          obtain ⟨e1, v0, v1⟩ := hw
          clear e1
          have p0 : 0 ≤ a * B := Int.mul_nonneg a0 (by omega)
          have p1 : a * B ≤ 65535 * 16 := Int.mul_le_mul a1 hB (by omega) (by omega)
          clear hh hx hD hv
          go_wp2_with (go_at_call 94; refine (HW.out _).mono ?_; rintro e w' ⟨rfl, rfl⟩)
          refine ⟨⟨k + 1, a * B + v, rfl, (by first | rfl | (congr 1; omega)), by omega, HN⟩, by simp [intOf]; omega⟩
      · obtain rfl : k = n := by omega
        by_cases hbig : 255 < a
        · have HE := Lib.hid (numR_none (numN_big (B := B) (n := k) (r := l.drop m) (by rw [← hh.out.1]; exact hbig)))
          clear hh
          go_wp2
          go_ret
          exact ⟨ret_int HE.out.symm, rfl⟩
        · have HE := Lib.hid (numR_some (numN_good (B := B) (n := k) (r := l.drop m) (by rw [List.length_drop]; omega) hh.out.2 (by rw [← hh.out.1]; omega)))
          have HV := Lib.hid hh.out.1
          clear hh
          go_wp2
          go_ret
          exact ⟨ret_int (by rw [HE.out, ← HV.out]; omega), rfl⟩

/-- the byte behind a backslash, as the reference has it -/
def escV (l : List UInt8) : Int := match esc l with | some (b :: _, _) => (b.toNat : Int) | _ => -1

def escN (l : List UInt8) : Int := match esc l with | some p => p.2 | none => 0

theorem vn_none {r : List UInt8} (h : esc r = none) : escV r = -1 ∧ escN r = 0 := by unfold escV escN; rw [h]; exact ⟨rfl, rfl⟩

theorem vn_gap {r : List UInt8} {n : Nat} (h : esc r = some ([], n)) : escV r = -1 ∧ escN r = n := by unfold escV escN; rw [h]; exact ⟨rfl, rfl⟩

theorem vn_some {r : List UInt8} {v n : Nat} (h : esc r = some ([UInt8.ofNat v], n)) (hv : v ≤ 255) : escV r = v ∧ escN r = n := by
  unfold escV escN; rw [h]; exact ⟨by show ((UInt8.ofNat v).toNat : Int) = v; rw [UInt8.toNat_ofNat']; omega, rfl⟩

theorem ret_vn {r : List UInt8} {a b : Int} (h : escV r = a ∧ escN r = b) : Ending.returned (.tuple #[.int .i64 a, .int .i64 b]) = .returned (.tuple #[.int .i64 (escV r), .int .i64 (escN r)]) := by rw [h.1, h.2]

theorem named_at_fin : ∀ n : Fin 256, ∀ k : Fin 7, ((named.getD k.val 0).toNat == n.val) = decide (namedAt (UInt8.ofNat n.val) = (k.val : Int)) := by decide +kernel

theorem named_at (x : UInt8) (k : Nat) (hk : k < 7) : ((named.getD k 0).toNat == x.toNat) = decide (namedAt x = (k : Int)) := by
  have := named_at_fin ⟨x.toNat, x.toNat_lt⟩ ⟨k, hk⟩
  simp only [ofNat_toNat'] at this; exact this

theorem named_is (x : UInt8) (k : Nat) (hk : k < ([97, 98, 116, 110, 118, 102, 114] : List UInt8).length) : (((([97, 98, 116, 110, 118, 102, 114] : List UInt8)[k]'hk).toNat : Int) == (x.toNat : Int)) = decide (namedAt x = (k : Int)) := by
  have h := named_at x k hk
  rw [← h]
  have e : named.getD k 0 = ([97, 98, 116, 110, 118, 102, 114] : List UInt8)[k]'hk := by unfold named; rw [List.getD_eq_getElem?_getD, List.getElem?_eq_getElem hk]; rfl
  rw [e]
  rw [Bool.eq_iff_iff]; simp only [beq_iff_eq]; omega

set_option maxHeartbeats 4000000 in
set_option maxRecDepth 100000 in
theorem resc_any (l : List UInt8) (m : Nat) (w : World) (hm : m ≤ l.length) (hl : l.length ≤ 9223372036854770000) :
    Calls Tryz.prog 49 #[.string ⟨l.toArray⟩, .int .i64 (m : Int)] w fun e w' => e = .returned (.tuple #[.int .i64 (escV (l.drop m)), .int .i64 (escN (l.drop m))]) ∧ w = w' := by
  by_cases h0 : l.length ≤ m
  · have HE := Lib.hid (vn_none (r := l.drop m) (by rw [List.drop_eq_nil_of_le h0]; rfl))
    go_enter Tryz.func49, Tryz.ntmps49
    go_wp2
    go_ret2
    exact ⟨ret_vn HE.out, rfl⟩
  have hml : m < l.length := by omega
  obtain ⟨x, hxl⟩ : ∃ x, l[m] = x := ⟨_, rfl⟩
  have hx : l[m]? = some x := by rw [List.getElem?_eq_getElem hml, hxl]
  have HX := Lib.hid hx
  have hdr := drop_at hx
  have HD := Lib.hid hdr
  have hq : esc (l.drop m) = escC x (l.drop (m + 1)) := by rw [hdr]; rfl
  have hx256 : x.toNat < 256 := x.toNat_lt
  clear hx hdr
  unfold escC at hq
  by_cases hn : 0 ≤ namedAt x
  · rw [if_pos hn] at hq
    have hb : namedAt x ≤ 6 := by rcases named_bd x with h | h <;> omega
    obtain ⟨n, hnn⟩ := Int.eq_ofNat_of_zero_le hn
    have hn6 : n ≤ 6 := by omega
    have HN := Lib.hid (fun k hk => named_is x k hk)
    rw [hnn] at hq HN
    have HE := Lib.hid (vn_some hq (by simp; omega))
    clear hq hn hnn hb
    go_enter Tryz.func49, Tryz.ntmps49
    go_wp2
    go_loop [7] (fun vk => ∃ k : Nat, vk = .int .i64 k ∧ k ≤ n) (fun vk => 7 - (intOf vk).toNat)
    case atStart => exact ⟨0, rfl, by omega⟩
    case round =>
      obtain ⟨k, rfl, hk⟩ := hrel
      have kt := HN.out k (by simp; omega)
      by_cases hkn : k = n
      · subst hkn
        rw [decide_eq_true rfl] at kt
        go_wp2
        go_ret2
        exact ⟨ret_vn ⟨by rw [HE.out.1]; simp, by rw [HE.out.2]; rfl⟩, rfl⟩
      · rw [decide_eq_false (by omega)] at kt
        go_wp2
        refine ⟨⟨k + 1, (by first | rfl | (congr 1; omega)), by omega⟩, by simp [intOf]; omega⟩
  rw [if_neg hn] at hq
  have hm1 : namedAt x = -1 := by rcases named_bd x with h | h <;> omega
  have HN := Lib.hid (fun k hk => named_is x k hk)
  rw [hm1] at HN
  have HQ := Lib.hid hq
  have nb := nbd x
  clear hn hm1 hq
  go_enter Tryz.func49, Tryz.ntmps49
  go_wp2
  go_loop [7] (fun vk => ∃ k : Nat, vk = .int .i64 k ∧ k ≤ 7) (fun vk => 7 - (intOf vk).toNat)
  case atStart => exact ⟨0, rfl, by omega⟩
  case round =>
    obtain ⟨k, rfl, hk⟩ := hrel
    by_cases hk7 : k < 7
    · have kt := HN.out k (by simp; omega)
      rw [decide_eq_false (by omega)] at kt
      go_wp2
      refine ⟨⟨k + 1, (by first | rfl | (congr 1; omega)), by omega⟩, by simp [intOf]; omega⟩
    obtain rfl : k = 7 := by omega
    clear hk hk7
    have hq := HQ.out
    by_cases h34 : x = 34 ∨ x = 92
    · rw [if_pos h34] at hq
      have HE := Lib.hid (vn_some (v := x.toNat) (by rw [ofNat_toNat']; exact hq) (by omega))
      clear hq
      rcases h34 with rfl | rfl
      · go_wp2
        go_ret2
        exact ⟨ret_vn HE.out, rfl⟩
      · go_wp2
        go_ret2
        exact ⟨ret_vn HE.out, rfl⟩
    rw [if_neg h34] at hq
    have n34 : ((x.toNat : Int) == 34) = false := nbeq (y := 34) (fun h => h34 (.inl h))
    have n92 : ((x.toNat : Int) == 92) = false := nbeq (y := 92) (fun h => h34 (.inr h))
    clear h34
    by_cases h94 : x = 94
    · rw [if_pos h94] at hq
      subst h94
      have HF := Lib.hid (fun W => rbl_any 94 W)
      have kl : decide ((m : Int) < (l.length : Int)) = true := decide_eq_true (by omega)
      by_cases h3 : m + 1 < l.length
      · obtain ⟨y, hyl⟩ : ∃ y, l[m + 1] = y := ⟨_, rfl⟩
        have hdy : l.drop (m + 1) = y :: l.drop (m + 2) := by rw [List.drop_eq_getElem_cons h3, hyl]
        have nby := nbd y
        have ky : decide ((m : Int) + 1 < (l.length : Int)) = true := decide_eq_true (by omega)
        have kt : ((m : Int) + 1).toNat = m + 1 := by omega
        rw [hdy] at hq
        by_cases hb : 64 ≤ y.toNat ∧ y.toNat ≤ 95
        · have HE := Lib.hid (vn_some (hq.trans (show escUp (y :: l.drop (m + 2)) = _ from if_pos hb)) (by omega))
          have k1 : decide ((64 : Int) ≤ (y.toNat : Int)) = true := decide_eq_true (by omega)
          have k2 : decide ((y.toNat : Int) ≤ 95) = true := decide_eq_true (by omega)
          clear hq hdy
          go_wp2
          go_ret2
          exact ⟨ret_vn ⟨by rw [HE.out.1]; omega, by rw [HE.out.2]; rfl⟩, rfl⟩
        · have HE := Lib.hid (vn_none (hq.trans (show escUp (y :: l.drop (m + 2)) = _ from if_neg hb)))
          clear hq hdy
          by_cases hlo : (64 : Int) ≤ (y.toNat : Int)
          · have k1 : decide ((64 : Int) ≤ (y.toNat : Int)) = true := decide_eq_true hlo
            have k2 : decide ((y.toNat : Int) ≤ 95) = false := decide_eq_false (by omega)
            go_wp2_with (go_at_call 77; refine (HP.out _).mono ?_; rintro e w' ⟨rfl, rfl⟩)
            go_loop [8] (fun v => v = .int .i64 0) (fun _ => 0)
            case atStart => rfl
            case round =>
              obtain rfl := hrel
              go_wp2_with (go_at_call 78; refine (HF.out _).mono ?_; rintro e w' ⟨rfl, rfl⟩)
              go_ret2
              exact ⟨ret_vn HE.out, rfl⟩
          · have k1 : decide ((64 : Int) ≤ (y.toNat : Int)) = false := decide_eq_false hlo
            go_wp2_with (go_at_call 77; refine (HP.out _).mono ?_; rintro e w' ⟨rfl, rfl⟩)
            go_loop [8] (fun v => v = .int .i64 0) (fun _ => 0)
            case atStart => rfl
            case round =>
              obtain rfl := hrel
              go_wp2_with (go_at_call 78; refine (HF.out _).mono ?_; rintro e w' ⟨rfl, rfl⟩)
              go_ret2
              exact ⟨ret_vn HE.out, rfl⟩
      · have ky : decide ((m : Int) + 1 < (l.length : Int)) = false := decide_eq_false (by omega)
        have HE := Lib.hid (vn_none (hq.trans (show escUp (l.drop (m + 1)) = _ by rw [List.drop_eq_nil_of_le (by omega)]; rfl)))
        clear hq
        go_wp2_with (go_at_call 77; refine (HP.out _).mono ?_; rintro e w' ⟨rfl, rfl⟩)
        go_loop [8] (fun v => v = .int .i64 0) (fun _ => 0)
        case atStart => rfl
        case round =>
          obtain rfl := hrel
          go_wp2_with (go_at_call 78; refine (HF.out _).mono ?_; rintro e w' ⟨rfl, rfl⟩)
          go_ret2
          exact ⟨ret_vn HE.out, rfl⟩
    rw [if_neg h94] at hq
    have n94 : ((x.toNat : Int) == 94) = false := nbeq (y := 94) h94
    clear h94
    by_cases h117 : x = 117
    · rw [if_pos h117] at hq
      subst h117
      have HF := Lib.hid (fun W => rbl_any 117 W)
      have kl : decide ((m : Int) < (l.length : Int)) = true := decide_eq_true (by omega)
      have hp := fun W => rnum_any 16 (by omega) (by omega) 4 (m + 1) (by omega) l W (by omega) (by omega)
      rw [show (((m + 1 : Nat)) : Int) = (m : Int) + 1 by omega, show ((4 : Nat) : Int) = 4 from rfl] at hp
      cases hN : numN 16 4 (l.drop (m + 1)) with
      | none =>
        rw [hN] at hq
        rw [numR_none hN] at hp
        have HP := Lib.hid hp
        have HE := Lib.hid (vn_none hq)
        clear hq hp hN
        go_wp2_with (go_at_call 77; refine (HP.out _).mono ?_; rintro e w' ⟨rfl, rfl⟩)
        go_loop [8] (fun v => v = .int .i64 0) (fun _ => 0)
        case atStart => rfl
        case round =>
          obtain rfl := hrel
          go_wp2_with (go_at_call 78; refine (HF.out _).mono ?_; rintro e w' ⟨rfl, rfl⟩)
          go_ret2
          exact ⟨ret_vn HE.out, rfl⟩
      | some v =>
        rw [hN] at hq
        rw [numR_some hN] at hp
        have HP := Lib.hid hp
        have HE := Lib.hid (vn_some hq (numN_le hN))
        have kv : decide ((0 : Int) ≤ (v : Int)) = true := decide_eq_true (by omega)
        clear hq hp hN
        go_wp2_with (go_at_call 77; refine (HP.out _).mono ?_; rintro e w' ⟨rfl, rfl⟩)
        go_ret2
        exact ⟨ret_vn HE.out, rfl⟩
    rw [if_neg h117] at hq
    have n117 : ((x.toNat : Int) == 117) = false := nbeq (y := 117) h117
    clear h117
    rw [← HD.out] at hq
    by_cases hd : 48 ≤ x.toNat ∧ x.toNat ≤ 57
    · rw [if_pos hd] at hq
      have k1 : decide ((48 : Int) ≤ (x.toNat : Int)) = true := decide_eq_true (by omega)
      have k2 : decide ((x.toNat : Int) ≤ 57) = true := decide_eq_true (by omega)
      have hf : isBl x = false := decide_eq_false (by omega)
      have HF := Lib.hid (fun W => rbl_any x W)
      rw [hf] at HF
      have kl : decide ((m : Int) < (l.length : Int)) = true := decide_eq_true (by omega)
      have hp := fun W => rnum_any 10 (by omega) (by omega) 3 m (by omega) l W (by omega) (by omega)
      rw [show ((3 : Nat) : Int) = 3 from rfl] at hp
      cases hN : numN 10 3 (l.drop m) with
      | none =>
        rw [hN] at hq
        rw [numR_none hN] at hp
        have HP := Lib.hid hp
        have HE := Lib.hid (vn_none hq)
        clear hq hp hN hf
        go_wp2_with (go_at_call 77; refine (HP.out _).mono ?_; rintro e w' ⟨rfl, rfl⟩)
        go_loop [8] (fun v => v = .int .i64 0) (fun _ => 0)
        case atStart => rfl
        case round =>
          obtain rfl := hrel
          go_wp2_with (go_at_call 78; refine (HF.out _).mono ?_; rintro e w' ⟨rfl, rfl⟩)
          go_ret2
          exact ⟨ret_vn HE.out, rfl⟩
      | some v =>
        rw [hN] at hq
        rw [numR_some hN] at hp
        have HP := Lib.hid hp
        have HE := Lib.hid (vn_some hq (numN_le hN))
        have kv : decide ((0 : Int) ≤ (v : Int)) = true := decide_eq_true (by omega)
        clear hq hp hN hf
        go_wp2_with (go_at_call 77; refine (HP.out _).mono ?_; rintro e w' ⟨rfl, rfl⟩)
        go_ret2
        exact ⟨ret_vn HE.out, rfl⟩
    rw [if_neg hd] at hq
    obtain ⟨bb, hbb⟩ : ∃ bb, isBl x = bb := ⟨_, rfl⟩
    cases bb with
    | false =>
      have HF := Lib.hid (fun W => rbl_any x W)
      rw [hbb] at HF
      rw [hbb] at hq
      have kl : decide ((m : Int) < (l.length : Int)) = true := decide_eq_true (by omega)
      have HE := Lib.hid (vn_none hq)
      clear hq hbb
      by_cases hlo : (48 : Int) ≤ (x.toNat : Int)
      · have k1 : decide ((48 : Int) ≤ (x.toNat : Int)) = true := decide_eq_true hlo
        have k2 : decide ((x.toNat : Int) ≤ 57) = false := decide_eq_false (by omega)
        go_wp2_with (go_at_call 77; refine (HP.out _).mono ?_; rintro e w' ⟨rfl, rfl⟩)
        go_loop [8] (fun v => v = .int .i64 0) (fun _ => 0)
        case atStart => rfl
        case round =>
          obtain rfl := hrel
          go_wp2_with (go_at_call 78; refine (HF.out _).mono ?_; rintro e w' ⟨rfl, rfl⟩)
          go_ret2
          exact ⟨ret_vn HE.out, rfl⟩
      · have k1 : decide ((48 : Int) ≤ (x.toNat : Int)) = false := decide_eq_false hlo
        go_wp2_with (go_at_call 77; refine (HP.out _).mono ?_; rintro e w' ⟨rfl, rfl⟩)
        go_loop [8] (fun v => v = .int .i64 0) (fun _ => 0)
        case atStart => rfl
        case round =>
          obtain rfl := hrel
          go_wp2_with (go_at_call 78; refine (HF.out _).mono ?_; rintro e w' ⟨rfl, rfl⟩)
          go_ret2
          exact ⟨ret_vn HE.out, rfl⟩
    | true =>
      rw [hbb, if_pos rfl] at hq
      have k1 : decide ((48 : Int) ≤ (x.toNat : Int)) = false := decide_eq_false (by have := of_decide_eq_true hbb; omega)
      have HB0 := Lib.hid hbb
      have HG := Lib.hid hq
      clear hq hbb hd
      go_wp2
      go_loop [8] (fun vi => ∃ k : Nat, vi = .int .i64 k ∧ m + k ≤ l.length ∧ ((l.drop m).take k).all isBl = true) (fun vi => l.length - (intOf vi).toNat)
      case atStart => exact ⟨0, rfl, by omega, rfl⟩
      case round =>
        obtain ⟨k, rfl, hk, ha⟩ := hrel
        have HA := Lib.hid ha
        clear ha
        by_cases hlt : m + k < l.length
        · obtain ⟨y, hyl⟩ : ∃ y, l[m + k] = y := ⟨_, rfl⟩
          have HY := Lib.hid (show (l.drop m)[k]? = some y by rw [get_drop hlt, hyl])
          have kl : decide ((m : Int) + (k : Int) < (l.length : Int)) = true := decide_eq_true (by omega)
          have kt : ((m : Int) + (k : Int)).toNat = m + k := by omega
          obtain ⟨cc, hcc⟩ : ∃ cc, isBl y = cc := ⟨_, rfl⟩
          have HC := Lib.hid (fun W => rbl_any y W)
          rw [hcc] at HC
          cases cc with
          | true =>
            have HN2 := Lib.hid (all_snoc HA.out HY.out hcc)
            clear hcc
            go_wp2_with (go_at_call 78; refine (HC.out _).mono ?_; rintro e w' ⟨rfl, rfl⟩)
            refine ⟨⟨k + 1, (by first | rfl | (congr 1; omega)), by omega, HN2.out⟩, by simp [intOf]; omega⟩
          | false =>
            have hk0 : 0 < k := by
              rcases Nat.eq_zero_or_pos k with rfl | h
              · exfalso
                have h1 := HB0.out
                have h2 : l[m] = y := hyl
                rw [hxl] at h2
                rw [h2, hcc] at h1; cases h1
              · exact h
            have kp : decide ((0 : Int) < (k : Int)) = true := decide_eq_true (by omega)
            by_cases h9 : y = 92
            · subst h9
              have HE := Lib.hid (vn_gap (HG.out.trans (gap_yes HA.out HY.out)))
              clear hcc
              go_wp2_with (go_at_call 78; refine (HC.out _).mono ?_; rintro e w' ⟨rfl, rfl⟩)
              go_ret2
              exact ⟨ret_vn ⟨HE.out.1, by rw [HE.out.2]; rfl⟩, rfl⟩
            · have HE := Lib.hid (vn_none (HG.out.trans (gap_no HA.out (fun x hx => by rw [HY.out] at hx; cases hx; exact ⟨hcc, h9⟩))))
              have m92 : ((y.toNat : Int) == 92) = false := nbeq (y := 92) h9
              clear hcc
              go_wp2_with (go_at_call 78; refine (HC.out _).mono ?_; rintro e w' ⟨rfl, rfl⟩)
              go_ret2
              exact ⟨ret_vn HE.out, rfl⟩
        · have kl : decide ((m : Int) + (k : Int) < (l.length : Int)) = false := decide_eq_false (by omega)
          have HE := Lib.hid (vn_none (HG.out.trans (gap_no HA.out (fun x hx => by rw [List.getElem?_drop, List.getElem?_eq_none (by omega)] at hx; cases hx))))
          have kp : decide ((0 : Int) < (k : Int)) = true := decide_eq_true (by omega)
          go_wp2
          go_ret2
          exact ⟨ret_vn HE.out, rfl⟩
end Go.Proofs.YtkjdigojajcgkaaGreatDoor
