/- Walks of layer 3: a string as a constant. -/
import Derived.Test.YtkjdigojajcgkaaGreatDoorSd
import Derived.Test.YtkjdigojajcgkaaGreatDoorBd
import Derived.Test.YtkjdigojajcgkaaGreatDoorSw1
import Derived.Lib.AppendIntMem
import Derived.Test.YtkjdigojajcgkaaGreatDoorBy
namespace Go.Proofs.YtkjdigojajcgkaaGreatDoor
open Go.RowKit
open St
set_option linter.unusedVariables false
attribute [local go_sem] ext_mk size_mk toList_mk get_mk take_drop_len take_tail_len ByteArray.mk_append_mk

theorem ret_bytes {a : ByteArray} {l : List UInt8} (h : a = ⟨l.toArray⟩) : Ending.returned (.string a) = .returned (.string ⟨l.toArray⟩) := by rw [h]

theorem conv_2 (a b : Nat) (ha : a ≤ 255) (hb : b ≤ 255) (w : World) : Sem.run Tryz.prog (convert 66 9 (.slice (some ⟨w.heap.size, 0, none⟩) 2 2)) (w.alloc (.cells #[.int .u8 (a : Int), .int .u8 (b : Int)] 5)) = .ok (.string ⟨[UInt8.ofNat a, UInt8.ofNat b].toArray⟩) (w.alloc (.cells #[.int .u8 (a : Int), .int .u8 (b : Int)] 5)) := by
  have h := conv_new w [UInt8.ofNat a, UInt8.ofNat b]
  have e1 : ((UInt8.ofNat a).toNat : Int) = a := by rw [UInt8.toNat_ofNat']; omega
  have e2 : ((UInt8.ofNat b).toNat : Int) = b := by rw [UInt8.toNat_ofNat']; omega
  simp only [List.map_cons, List.map_nil, e1, e2, List.length_cons, List.length_nil, Nat.zero_add] at h
  exact h

theorem conv_3 (a b c : Nat) (ha : a ≤ 255) (hb : b ≤ 255) (hc : c ≤ 255) (w : World) : Sem.run Tryz.prog (convert 66 9 (.slice (some ⟨w.heap.size, 0, none⟩) 3 3)) (w.alloc (.cells #[.int .u8 (a : Int), .int .u8 (b : Int), .int .u8 (c : Int)] 5)) = .ok (.string ⟨[UInt8.ofNat a, UInt8.ofNat b, UInt8.ofNat c].toArray⟩) (w.alloc (.cells #[.int .u8 (a : Int), .int .u8 (b : Int), .int .u8 (c : Int)] 5)) := by
  have h := conv_new w [UInt8.ofNat a, UInt8.ofNat b, UInt8.ofNat c]
  have e1 : ((UInt8.ofNat a).toNat : Int) = a := by rw [UInt8.toNat_ofNat']; omega
  have e2 : ((UInt8.ofNat b).toNat : Int) = b := by rw [UInt8.toNat_ofNat']; omega
  have e3 : ((UInt8.ofNat c).toNat : Int) = c := by rw [UInt8.toNat_ofNat']; omega
  simp only [List.map_cons, List.map_nil, e1, e2, e3, List.length_cons, List.length_nil, Nat.zero_add] at h
  exact h

theorem conv_4 (a b c d : Nat) (ha : a ≤ 255) (hb : b ≤ 255) (hc : c ≤ 255) (hd : d ≤ 255) (w : World) : Sem.run Tryz.prog (convert 66 9 (.slice (some ⟨w.heap.size, 0, none⟩) 4 4)) (w.alloc (.cells #[.int .u8 (a : Int), .int .u8 (b : Int), .int .u8 (c : Int), .int .u8 (d : Int)] 5)) = .ok (.string ⟨[UInt8.ofNat a, UInt8.ofNat b, UInt8.ofNat c, UInt8.ofNat d].toArray⟩) (w.alloc (.cells #[.int .u8 (a : Int), .int .u8 (b : Int), .int .u8 (c : Int), .int .u8 (d : Int)] 5)) := by
  have h := conv_new w [UInt8.ofNat a, UInt8.ofNat b, UInt8.ofNat c, UInt8.ofNat d]
  have e1 : ((UInt8.ofNat a).toNat : Int) = a := by rw [UInt8.toNat_ofNat']; omega
  have e2 : ((UInt8.ofNat b).toNat : Int) = b := by rw [UInt8.toNat_ofNat']; omega
  have e3 : ((UInt8.ofNat c).toNat : Int) = c := by rw [UInt8.toNat_ofNat']; omega
  have e4 : ((UInt8.ofNat d).toNat : Int) = d := by rw [UInt8.toNat_ofNat']; omega
  simp only [List.map_cons, List.map_nil, e1, e2, e3, e4, List.length_cons, List.length_nil, Nat.zero_add] at h
  exact h

theorem shown_q {x : UInt8} (h : x = 34 ∨ x = 92) : shown x = [92, x] := by unfold shown; rw [if_pos h]

theorem shown_up {x : UInt8} (h1 : ¬ (x = 34 ∨ x = 92)) (h2 : ¬ (7 ≤ x.toNat ∧ x.toNat ≤ 13)) (h3 : x.toNat < 32) : shown x = [92, 94, UInt8.ofNat (x.toNat + 64)] := by
  unfold shown; rw [if_neg h1, if_neg h2, if_pos h3]

theorem shown_num {x : UInt8} (h1 : ¬ (x = 34 ∨ x = 92)) (h2 : ¬ (7 ≤ x.toNat ∧ x.toNat ≤ 13)) (h3 : ¬ x.toNat < 32) (h4 : 127 ≤ x.toNat) : shown x = [92, UInt8.ofNat (48 + x.toNat / 100), UInt8.ofNat (48 + x.toNat / 10 % 10), UInt8.ofNat (48 + x.toNat % 10)] := by
  unfold shown; rw [if_neg h1, if_neg h2, if_neg h3, if_pos h4]

theorem shown_self {x : UInt8} (h1 : ¬ (x = 34 ∨ x = 92)) (h2 : ¬ (7 ≤ x.toNat ∧ x.toNat ≤ 13)) (h3 : ¬ x.toNat < 32) (h4 : ¬ 127 ≤ x.toNat) : shown x = [x] := by
  unfold shown; rw [if_neg h1, if_neg h2, if_neg h3, if_neg h4]

theorem itoa3 (n : Nat) (h1 : 100 ≤ n) (h2 : n < 1000) (w : World) (h : StrVars w) : Calls Tryz.prog 82 #[.int .i64 (n : Int)] w fun e w' => e = .returned (.string ⟨[UInt8.ofNat (48 + n / 100), UInt8.ofNat (48 + n / 10 % 10), UInt8.ofNat (48 + n % 10)].toArray⟩) ∧ Below w.heap.size w w' := by
  refine (Tryz.strconv_Itoa (n : Int) (by omega) (by omega) w h.2).mono ?_
  rintro e w' ⟨rfl, k, os, rfl⟩
  refine ⟨by rw [Lib.itoa_nonneg, dec3 h1 h2], ?_⟩
  exact Lib.below_grow w.heap.size w (Nat.le_refl _) k os

set_option maxHeartbeats 2000000 in
theorem rshown_any (x : UInt8) (w : World)  : Calls Tryz.prog 80 #[.int .u8 (x.toNat : Int)] w fun e w' => e = .returned (.string ⟨(shown x).toArray⟩) ∧ Below w.heap.size w w' := by
  have h0 := x.toNat_lt
  have h0a := nbd x
  by_cases h1 : x = 34 ∨ x = 92
  · have HE := Lib.hid (shown_q h1)
    have hx : (x.toNat : Int) = 34 ∨ (x.toNat : Int) = 92 := by rcases h1 with rfl | rfl; exact .inl rfl; exact .inr rfl
    have kc := fun W => conv_2 92 x.toNat (by omega) (by omega) W
    rw [show (((92 : Nat)) : Int) = 92 from rfl, ofNat_toNat'] at kc
    rcases hx with h | h
    · have k1 : ((x.toNat : Int) == 34) = true := by simp; omega
      clear h h1
      go_enter Tryz.func80, Tryz.ntmps80
      go_wp2_with fail
      go_ret
      exact ⟨ret_bytes (by rw [HE.out]), (Below.refl _ _).alloc (Nat.le_refl _) _⟩
    · have k1 : ((x.toNat : Int) == 34) = false := by simp; omega
      have k2 : ((x.toNat : Int) == 92) = true := by simp; omega
      clear h h1
      go_enter Tryz.func80, Tryz.ntmps80
      go_wp2_with fail
      go_ret
      exact ⟨ret_bytes (by rw [HE.out]), (Below.refl _ _).alloc (Nat.le_refl _) _⟩
  have n34 : ((x.toNat : Int) == 34) = false := nbeq (y := 34) (fun h => h1 (.inl h))
  have n92 : ((x.toNat : Int) == 92) = false := nbeq (y := 92) (fun h => h1 (.inr h))
  by_cases h2 : 7 ≤ x.toNat ∧ x.toNat ≤ 13
  · have hx : x = 7 ∨ x = 8 ∨ x = 9 ∨ x = 10 ∨ x = 11 ∨ x = 12 ∨ x = 13 := by
      have inj : ∀ n : Nat, n < 256 → x.toNat = n → x = UInt8.ofNat n := fun n hn he => UInt8.toNat.inj (by rw [UInt8.toNat_ofNat']; omega)
      rcases (by omega : x.toNat = 7 ∨ x.toNat = 8 ∨ x.toNat = 9 ∨ x.toNat = 10 ∨ x.toNat = 11 ∨ x.toNat = 12 ∨ x.toNat = 13) with h | h | h | h | h | h | h
      · exact .inl (inj 7 (by omega) h)
      · exact .inr (.inl (inj 8 (by omega) h))
      · exact .inr (.inr (.inl (inj 9 (by omega) h)))
      · exact .inr (.inr (.inr (.inl (inj 10 (by omega) h))))
      · exact .inr (.inr (.inr (.inr (.inl (inj 11 (by omega) h)))))
      · exact .inr (.inr (.inr (.inr (.inr (.inl (inj 12 (by omega) h))))))
      · exact .inr (.inr (.inr (.inr (.inr (.inr (inj 13 (by omega) h))))))
    clear n34 n92 h0 h0a h1 h2
    rcases hx with rfl | rfl | rfl | rfl | rfl | rfl | rfl <;>
    · go_enter Tryz.func80, Tryz.ntmps80
      go_wp2_with fail
      go_ret
      exact ⟨ret_bytes (by decide), Below.refl _ _⟩
  have m7 : ((7 : Int) ≤ (x.toNat : Int) ∧ (x.toNat : Int) ≤ 13) → False := fun h => h2 (by omega)
  by_cases h3 : x.toNat < 32
  · have HE := Lib.hid (shown_up h1 h2 h3)
    have kc := fun W => conv_3 92 94 (x.toNat + 64) (by omega) (by omega) (by omega) W
    rw [show (((92 : Nat)) : Int) = 92 from rfl, show (((94 : Nat)) : Int) = 94 from rfl, show (((x.toNat + 64 : Nat)) : Int) = (x.toNat : Int) + 64 by omega] at kc
    by_cases hlo : x.toNat < 7
    · have k1 : decide ((7 : Int) ≤ (x.toNat : Int)) = false := decide_eq_false (by omega)
      clear m7 h2 h1
      go_enter Tryz.func80, Tryz.ntmps80
      go_wp2_with fail
      go_ret
      exact ⟨ret_bytes (by rw [HE.out]; rfl), (Below.refl _ _).alloc (Nat.le_refl _) _⟩
    · have k1 : decide ((7 : Int) ≤ (x.toNat : Int)) = true := decide_eq_true (by omega)
      have k2 : decide ((x.toNat : Int) ≤ 13) = false := decide_eq_false (by omega)
      clear m7 h2 h1
      go_enter Tryz.func80, Tryz.ntmps80
      go_wp2_with fail
      go_ret
      exact ⟨ret_bytes (by rw [HE.out]; rfl), (Below.refl _ _).alloc (Nat.le_refl _) _⟩
  have k1 : decide ((7 : Int) ≤ (x.toNat : Int)) = true := decide_eq_true (by omega)
  have k2 : decide ((x.toNat : Int) ≤ 13) = false := decide_eq_false (by omega)
  have k3 : decide ((x.toNat : Int) < 32) = false := decide_eq_false (by omega)
  by_cases h4 : 127 ≤ x.toNat
  · have hE := shown_num h1 h2 h3 h4
    obtain ⟨p, hp⟩ : ∃ p, 48 + x.toNat / 100 = p := ⟨_, rfl⟩
    obtain ⟨q, hq⟩ : ∃ q, 48 + x.toNat / 10 % 10 = q := ⟨_, rfl⟩
    obtain ⟨r, hr⟩ : ∃ r, 48 + x.toNat % 10 = r := ⟨_, rfl⟩
    rw [hp, hq, hr] at hE
    have HE := Lib.hid hE
    clear hE
    have k4 : decide ((127 : Int) ≤ (x.toNat : Int)) = true := decide_eq_true (by omega)
    have kc := fun W => conv_4 92 (48 + x.toNat / 100) (48 + x.toNat / 10 % 10) (48 + x.toNat % 10) (by omega) (by omega) (by omega) (by omega) W
    rw [show (((92 : Nat)) : Int) = 92 from rfl, show (((48 + x.toNat / 100 : Nat)) : Int) = 48 + (x.toNat : Int) / 100 by omega, show (((48 + x.toNat / 10 % 10 : Nat)) : Int) = 48 + (x.toNat : Int) / 10 % 10 by omega, show (((48 + x.toNat % 10 : Nat)) : Int) = 48 + (x.toNat : Int) % 10 by omega, hp, hq, hr] at kc
    clear hp hq hr m7 h2 h1 h3 h4
    go_enter Tryz.func80, Tryz.ntmps80
    go_wp2_with fail
    go_ret
    exact ⟨ret_bytes (by rw [HE.out]), (Below.refl _ _).alloc (Nat.le_refl _) _⟩
  · have HE := Lib.hid (shown_self h1 h2 h3 h4)
    have k4 : decide ((127 : Int) ≤ (x.toNat : Int)) = false := decide_eq_false (by omega)
    have kc := fun W => conv_1 x.toNat (by omega) W
    rw [ofNat_toNat'] at kc
    clear m7 h2 h1 h3 h4
    go_enter Tryz.func80, Tryz.ntmps80
    go_wp2_with fail
    go_ret
    exact ⟨ret_bytes (by rw [HE.out]), (Below.refl _ _).alloc (Nat.le_refl _) _⟩

set_option maxHeartbeats 2000000 in
theorem sescaped_any (x : UInt8) (w : World) (hv : StrVars w) : Calls Tryz.prog 59 #[.int .u8 (x.toNat : Int)] w fun e w' => e = .returned (.string ⟨(shown x).toArray⟩) ∧ Below w.heap.size w w' := by
  have h0 := x.toNat_lt
  have h0a := nbd x
  by_cases h1 : x = 34 ∨ x = 92
  · have HE := Lib.hid (shown_q h1)
    have hx : (x.toNat : Int) = 34 ∨ (x.toNat : Int) = 92 := by rcases h1 with rfl | rfl; exact .inl rfl; exact .inr rfl
    have kc := fun W => conv_1 x.toNat (by omega) W
    rw [ofNat_toNat'] at kc
    rcases hx with h | h
    · have k1 : ((x.toNat : Int) == 34) = true := by simp; omega
      clear h h1
      go_enter Tryz.func59, Tryz.ntmps59
      go_wp2_with fail
      go_ret
      exact ⟨ret_bytes (by rw [HE.out]), (Below.refl _ _).alloc (Nat.le_refl _) _⟩
    · have k1 : ((x.toNat : Int) == 34) = false := by simp; omega
      have k2 : ((x.toNat : Int) == 92) = true := by simp; omega
      clear h h1
      go_enter Tryz.func59, Tryz.ntmps59
      go_wp2_with fail
      go_ret
      exact ⟨ret_bytes (by rw [HE.out]), (Below.refl _ _).alloc (Nat.le_refl _) _⟩
  have n34 : ((x.toNat : Int) == 34) = false := nbeq (y := 34) (fun h => h1 (.inl h))
  have n92 : ((x.toNat : Int) == 92) = false := nbeq (y := 92) (fun h => h1 (.inr h))
  by_cases h2 : 7 ≤ x.toNat ∧ x.toNat ≤ 13
  · have hx : x = 7 ∨ x = 8 ∨ x = 9 ∨ x = 10 ∨ x = 11 ∨ x = 12 ∨ x = 13 := by
      have inj : ∀ n : Nat, n < 256 → x.toNat = n → x = UInt8.ofNat n := fun n hn he => UInt8.toNat.inj (by rw [UInt8.toNat_ofNat']; omega)
      rcases (by omega : x.toNat = 7 ∨ x.toNat = 8 ∨ x.toNat = 9 ∨ x.toNat = 10 ∨ x.toNat = 11 ∨ x.toNat = 12 ∨ x.toNat = 13) with h | h | h | h | h | h | h
      · exact .inl (inj 7 (by omega) h)
      · exact .inr (.inl (inj 8 (by omega) h))
      · exact .inr (.inr (.inl (inj 9 (by omega) h)))
      · exact .inr (.inr (.inr (.inl (inj 10 (by omega) h))))
      · exact .inr (.inr (.inr (.inr (.inl (inj 11 (by omega) h)))))
      · exact .inr (.inr (.inr (.inr (.inr (.inl (inj 12 (by omega) h))))))
      · exact .inr (.inr (.inr (.inr (.inr (.inr (inj 13 (by omega) h))))))
    clear n34 n92 h0 h0a h1 h2
    rcases hx with rfl | rfl | rfl | rfl | rfl | rfl | rfl <;>
    · go_enter Tryz.func59, Tryz.ntmps59
      go_wp2_with fail
      go_ret
      exact ⟨ret_bytes (by decide), Below.refl _ _⟩
  have m7 : ((7 : Int) ≤ (x.toNat : Int) ∧ (x.toNat : Int) ≤ 13) → False := fun h => h2 (by omega)
  by_cases h3 : x.toNat < 32
  · have HE := Lib.hid (shown_up h1 h2 h3)
    have kc := fun W => conv_1 (x.toNat + 64) (by omega) W
    rw [show (((x.toNat + 64 : Nat)) : Int) = (x.toNat : Int) + 64 by omega] at kc
    by_cases hlo : x.toNat < 7
    · have k1 : decide ((7 : Int) ≤ (x.toNat : Int)) = false := decide_eq_false (by omega)
      clear m7 h2 h1
      go_enter Tryz.func59, Tryz.ntmps59
      go_wp2_with fail
      go_ret
      exact ⟨ret_bytes (by rw [HE.out]; rfl), (Below.refl _ _).alloc (Nat.le_refl _) _⟩
    · have k1 : decide ((7 : Int) ≤ (x.toNat : Int)) = true := decide_eq_true (by omega)
      have k2 : decide ((x.toNat : Int) ≤ 13) = false := decide_eq_false (by omega)
      clear m7 h2 h1
      go_enter Tryz.func59, Tryz.ntmps59
      go_wp2_with fail
      go_ret
      exact ⟨ret_bytes (by rw [HE.out]; rfl), (Below.refl _ _).alloc (Nat.le_refl _) _⟩
  have k1 : decide ((7 : Int) ≤ (x.toNat : Int)) = true := decide_eq_true (by omega)
  have k2 : decide ((x.toNat : Int) ≤ 13) = false := decide_eq_false (by omega)
  have k3 : decide ((x.toNat : Int) < 32) = false := decide_eq_false (by omega)
  by_cases h4 : 127 ≤ x.toNat
  · have hE := shown_num h1 h2 h3 h4
    obtain ⟨p, hp⟩ : ∃ p, 48 + x.toNat / 100 = p := ⟨_, rfl⟩
    obtain ⟨q, hq⟩ : ∃ q, 48 + x.toNat / 10 % 10 = q := ⟨_, rfl⟩
    obtain ⟨r, hr⟩ : ∃ r, 48 + x.toNat % 10 = r := ⟨_, rfl⟩
    rw [hp, hq, hr] at hE
    have HE := Lib.hid hE
    clear hE
    have k4 : decide ((127 : Int) ≤ (x.toNat : Int)) = true := decide_eq_true (by omega)
    have hI := itoa3 x.toNat (by omega) (by omega) w hv
    rw [hp, hq, hr] at hI
    have HI := Lib.hid hI
    clear hI hp hq hr m7 h2 h1 h3 h4 hv
    go_enter Tryz.func59, Tryz.ntmps59
    go_wp2_with (go_at_call 82; refine (HI.out).mono ?_; rintro e w1 ⟨rfl, hb1⟩)
    go_ret
    exact ⟨ret_bytes (by rw [HE.out]), hb1⟩
  · have HE := Lib.hid (shown_self h1 h2 h3 h4)
    have k4 : decide ((127 : Int) ≤ (x.toNat : Int)) = false := decide_eq_false (by omega)
    have kc := fun W => conv_1 x.toNat (by omega) W
    rw [ofNat_toNat'] at kc
    clear m7 h2 h1 h3 h4
    go_enter Tryz.func59, Tryz.ntmps59
    go_wp2_with fail
    go_ret
    exact ⟨ret_bytes (by rw [HE.out]), (Below.refl _ _).alloc (Nat.le_refl _) _⟩
end Go.Proofs.YtkjdigojajcgkaaGreatDoor
