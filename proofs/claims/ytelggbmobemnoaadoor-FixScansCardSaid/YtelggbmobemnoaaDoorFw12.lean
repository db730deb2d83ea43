/- Walks of layer 1: Scan, in the reference. -/
import Derived.Test.YtelggbmobemnoaaDoorFw9
import Derived.Test.YtelggbmobemnoaaDoorFs
namespace Go.Proofs.YtelggbmobemnoaaDoor
open Go.RowKit
open Fx
set_option linter.unusedVariables false
attribute [local go_sem] ext_mk size_mk toList_mk get_mk take_drop_len take_tail_len

set_option maxHeartbeats 2000000 in
theorem rscan_any (l : List UInt8) (w : World) (hl : l.length ≤ 9223372036854775807) :
    Calls Tryd.prog 7 #[.string ⟨l.toArray⟩] w fun e w' => e = .returned (.tuple #[.int .i64 (scanV l), .int .i64 (scanN l), .int .i64 (scanE l)]) ∧ w = w' := by
  go_enter Tryd.func7, Tryd.ntmps7
  go_wp2_with fail
  go_loop [5] (fun i => ∃ k : Nat, k ≤ l.length ∧ i = .int .i64 k ∧ (l.take k).all isWs = true) (fun i => l.length - (intOf i).toNat)
  case atStart => exact ⟨0, Nat.zero_le _, rfl, rfl⟩
  case round =>
    obtain ⟨k, hk, rfl, ha⟩ := hrel
    have HA := Lib.hid ha
    clear ha
    by_cases hp : k < l.length
    · obtain ⟨x, hx⟩ : ∃ x, l[k]? = some x := ⟨l[k], by simp [hp]⟩
      have hxl : l[k] = x := by rw [List.getElem?_eq_getElem hp] at hx; exact Option.some.inj hx
      have HX := Lib.hid hx
      clear hx
      cases hd : isWs x
      · have hn : ¬ (9 ≤ (x.toNat : Int) ∧ (x.toNat : Int) ≤ 13 ∨ (x.toNat : Int) = 32) := of_decide_eq_false hd
        have hr := rest_at HX.out (rest1_at HA.out (fun y hy => by rw [HX.out] at hy; cases hy; exact hd))
        have hx8 : (x.toNat : Int) ≤ 255 := by have := x.toNat_lt; omega
        clear hd
        by_cases e1 : (x.toNat : Int) = 126
        · have b1 := u8_beq x 126 (by omega) e1
          rw [show (UInt8.ofNat 126) = 126 from rfl] at b1
          have SG := Lib.hid (show scSign (rest1 l) = true by rw [hr.1, b1]; rfl)
          have R2 := Lib.hid (show rest2 l = l.drop (k + 1) by rw [hr.2, b1]; rfl)
          clear hr hn b1 hx8
          go_wp2_with fail
          clear hxl
          go_loop [5] (fun i => ∃ c : Nat, k + 1 + c ≤ l.length ∧ i = .int .i64 (((k + 1 : Nat) : Int) + (c : Int)) ∧ ((l.drop (k + 1)).take c).all (isD 10) = true) (fun i => l.length - (intOf i).toNat)
          case atStart => exact ⟨0, by omega, by go_num, rfl⟩
          case round =>
            obtain ⟨c, hc, rfl, ha⟩ := hrel
            have HC := Lib.hid ha
            clear ha
            by_cases hpc : k + 1 + c < l.length
            · obtain ⟨y, hy⟩ : ∃ y, l[k + 1 + c]? = some y := ⟨l[k + 1 + c], by simp [hpc]⟩
              have hyl : l[k + 1 + c] = y := by rw [List.getElem?_eq_getElem hpc] at hy; exact Option.some.inj hy
              have HY := Lib.hid (drop_at hy)
              clear hy
              cases hdy : isD 10 y
              · have hn : ¬ (48 ≤ (y.toNat : Int) ∧ (y.toNat : Int) ≤ 57) := by rw [isD10] at hdy; exact of_decide_eq_false hdy
                have HD := Lib.hid (scD_at R2.out HC.out (fun z hz => by rw [HY.out] at hz; cases hz; exact hdy))
                clear hdy
                by_cases g : (y.toNat : Int) < 48
                · have k1 : decide (48 ≤ (y.toNat : Int)) = false := decide_eq_false (by omega)
                  clear hn
                  rcases Nat.eq_zero_or_pos c with rfl | hc0
                  · have HE := Lib.hid (scan_none (l := l) (by rw [HD.out]; rfl))
                    try simp only [Nat.add_zero] at hyl
                    go_wp2_with fail
                    all_goals go_ret3
                    all_goals exact ⟨ret_three HE.out.1.symm HE.out.2.1.symm HE.out.2.2.symm, rfl⟩
                  · have HE := Lib.hid (scan_len R2.out HD.out (by omega) hc0)
                    have HV := Lib.hid (scan_some HE.out.1)
                    have HS := Lib.hid (rnum_sgn (B := 10) (.inl rfl) ((l.drop (k + 1)).take c) 0 (by omega) true)
                    have hnb := rnum_bd (B := 10) (.inl rfl) ((l.drop (k + 1)).take c) 0 (by omega) (by omega)
                    obtain ⟨n0, n1⟩ := hnb
                    have kc : ((k : Int) + 1 + (c : Int) == (k : Int) + 1) = false := by rw [beq_eq_false_iff_ne]; omega
                    go_wp2_with (first | (go_at_call 18; refine (number10 _ _ (by simp; omega) HC.out).mono ?_; rintro e w' ⟨rfl, rfl⟩) | (go_at_call 17; refine (rsigned_any _ _ _ n0 (by omega)).mono ?_; rintro e w' ⟨rfl, rfl⟩))
                    go_ret3
                    exact ⟨ret_three (by rw [HV.out.1, SG.out, HS.out.1, HD.out]; rfl) (by have := HE.out.2; rw [HV.out.2.1]; omega) (by rw [HV.out.2.2, SG.out, HS.out.2, HD.out]; rfl), rfl⟩
                · have g' : 57 < (y.toNat : Int) := by omega
                  have k1 : decide (48 ≤ (y.toNat : Int)) = true := decide_eq_true (by omega)
                  have k2 : decide ((y.toNat : Int) ≤ 57) = false := decide_eq_false (by omega)
                  clear hn
                  rcases Nat.eq_zero_or_pos c with rfl | hc0
                  · have HE := Lib.hid (scan_none (l := l) (by rw [HD.out]; rfl))
                    try simp only [Nat.add_zero] at hyl
                    go_wp2_with fail
                    all_goals go_ret3
                    all_goals exact ⟨ret_three HE.out.1.symm HE.out.2.1.symm HE.out.2.2.symm, rfl⟩
                  · have HE := Lib.hid (scan_len R2.out HD.out (by omega) hc0)
                    have HV := Lib.hid (scan_some HE.out.1)
                    have HS := Lib.hid (rnum_sgn (B := 10) (.inl rfl) ((l.drop (k + 1)).take c) 0 (by omega) true)
                    have hnb := rnum_bd (B := 10) (.inl rfl) ((l.drop (k + 1)).take c) 0 (by omega) (by omega)
                    obtain ⟨n0, n1⟩ := hnb
                    have kc : ((k : Int) + 1 + (c : Int) == (k : Int) + 1) = false := by rw [beq_eq_false_iff_ne]; omega
                    go_wp2_with (first | (go_at_call 18; refine (number10 _ _ (by simp; omega) HC.out).mono ?_; rintro e w' ⟨rfl, rfl⟩) | (go_at_call 17; refine (rsigned_any _ _ _ n0 (by omega)).mono ?_; rintro e w' ⟨rfl, rfl⟩))
                    go_ret3
                    exact ⟨ret_three (by rw [HV.out.1, SG.out, HS.out.1, HD.out]; rfl) (by have := HE.out.2; rw [HV.out.2.1]; omega) (by rw [HV.out.2.2, SG.out, HS.out.2, HD.out]; rfl), rfl⟩
              · have hn : (48 ≤ (y.toNat : Int) ∧ (y.toNat : Int) ≤ 57) := by rw [isD10] at hdy; exact of_decide_eq_true hdy
                have HA2 := Lib.hid (all_next HY.out HC.out hdy)
                have k1 : decide (48 ≤ (y.toNat : Int)) = true := decide_eq_true (by omega)
                have k2 : decide ((y.toNat : Int) ≤ 57) = true := decide_eq_true (by omega)
                clear hdy
                go_wp2_with fail
                go_round
                case rel => exact ⟨c + 1, by omega, congrArg (Value.int .i64) (by omega), HA2.out⟩
                case measure => simp [intOf] <;> omega
            · have hce : k + 1 + c = l.length := by omega
              have HD := Lib.hid (scD_at R2.out HC.out (fun z hz => by rw [List.getElem?_drop, List.getElem?_eq_none (by omega)] at hz; cases hz))
              have HCE := Lib.hid hce
              clear hce
              rcases Nat.eq_zero_or_pos c with rfl | hc0
              · have HE := Lib.hid (scan_none (l := l) (by rw [HD.out]; rfl))
                try simp only [Nat.add_zero] at hyl
                go_wp2_with fail
                all_goals go_ret3
                all_goals exact ⟨ret_three HE.out.1.symm HE.out.2.1.symm HE.out.2.2.symm, rfl⟩
              · have HE := Lib.hid (scan_len R2.out HD.out (by omega) hc0)
                have HV := Lib.hid (scan_some HE.out.1)
                have HS := Lib.hid (rnum_sgn (B := 10) (.inl rfl) ((l.drop (k + 1)).take c) 0 (by omega) true)
                have hnb := rnum_bd (B := 10) (.inl rfl) ((l.drop (k + 1)).take c) 0 (by omega) (by omega)
                obtain ⟨n0, n1⟩ := hnb
                have kc : ((k : Int) + 1 + (c : Int) == (k : Int) + 1) = false := by rw [beq_eq_false_iff_ne]; omega
                go_wp2_with (first | (go_at_call 18; refine (number10 _ _ (by simp; omega) HC.out).mono ?_; rintro e w' ⟨rfl, rfl⟩) | (go_at_call 17; refine (rsigned_any _ _ _ n0 (by omega)).mono ?_; rintro e w' ⟨rfl, rfl⟩))
                go_ret3
                exact ⟨ret_three (by rw [HV.out.1, SG.out, HS.out.1, HD.out]; rfl) (by have := HE.out.2; rw [HV.out.2.1]; omega) (by rw [HV.out.2.2, SG.out, HS.out.2, HD.out]; rfl), rfl⟩
        · have b1 := u8_bne x 126 (by omega) e1
          rw [show (UInt8.ofNat 126) = 126 from rfl] at b1
          have k1 : ((x.toNat : Int) == 126) = false := by rw [beq_eq_false_iff_ne]; exact e1
          by_cases e2 : (x.toNat : Int) = 45
          · have b2 := u8_beq x 45 (by omega) e2
            rw [show (UInt8.ofNat 45) = 45 from rfl] at b2
            have SG := Lib.hid (show scSign (rest1 l) = true by rw [hr.1, b1, b2]; rfl)
            have R2 := Lib.hid (show rest2 l = l.drop (k + 1) by rw [hr.2, b1, b2]; rfl)
            clear hr hn b1 b2 hx8 e1
            go_wp2_with fail
            clear hxl
            go_loop [5] (fun i => ∃ c : Nat, k + 1 + c ≤ l.length ∧ i = .int .i64 (((k + 1 : Nat) : Int) + (c : Int)) ∧ ((l.drop (k + 1)).take c).all (isD 10) = true) (fun i => l.length - (intOf i).toNat)
            case atStart => exact ⟨0, by omega, by go_num, rfl⟩
            case round =>
              obtain ⟨c, hc, rfl, ha⟩ := hrel
              have HC := Lib.hid ha
              clear ha
              by_cases hpc : k + 1 + c < l.length
              · obtain ⟨y, hy⟩ : ∃ y, l[k + 1 + c]? = some y := ⟨l[k + 1 + c], by simp [hpc]⟩
                have hyl : l[k + 1 + c] = y := by rw [List.getElem?_eq_getElem hpc] at hy; exact Option.some.inj hy
                have HY := Lib.hid (drop_at hy)
                clear hy
                cases hdy : isD 10 y
                · have hn : ¬ (48 ≤ (y.toNat : Int) ∧ (y.toNat : Int) ≤ 57) := by rw [isD10] at hdy; exact of_decide_eq_false hdy
                  have HD := Lib.hid (scD_at R2.out HC.out (fun z hz => by rw [HY.out] at hz; cases hz; exact hdy))
                  clear hdy
                  by_cases g : (y.toNat : Int) < 48
                  · have k1 : decide (48 ≤ (y.toNat : Int)) = false := decide_eq_false (by omega)
                    clear hn
                    rcases Nat.eq_zero_or_pos c with rfl | hc0
                    · have HE := Lib.hid (scan_none (l := l) (by rw [HD.out]; rfl))
                      try simp only [Nat.add_zero] at hyl
                      go_wp2_with fail
                      all_goals go_ret3
                      all_goals exact ⟨ret_three HE.out.1.symm HE.out.2.1.symm HE.out.2.2.symm, rfl⟩
                    · have HE := Lib.hid (scan_len R2.out HD.out (by omega) hc0)
                      have HV := Lib.hid (scan_some HE.out.1)
                      have HS := Lib.hid (rnum_sgn (B := 10) (.inl rfl) ((l.drop (k + 1)).take c) 0 (by omega) true)
                      have hnb := rnum_bd (B := 10) (.inl rfl) ((l.drop (k + 1)).take c) 0 (by omega) (by omega)
                      obtain ⟨n0, n1⟩ := hnb
                      have kc : ((k : Int) + 1 + (c : Int) == (k : Int) + 1) = false := by rw [beq_eq_false_iff_ne]; omega
                      go_wp2_with (first | (go_at_call 18; refine (number10 _ _ (by simp; omega) HC.out).mono ?_; rintro e w' ⟨rfl, rfl⟩) | (go_at_call 17; refine (rsigned_any _ _ _ n0 (by omega)).mono ?_; rintro e w' ⟨rfl, rfl⟩))
                      go_ret3
                      exact ⟨ret_three (by rw [HV.out.1, SG.out, HS.out.1, HD.out]; rfl) (by have := HE.out.2; rw [HV.out.2.1]; omega) (by rw [HV.out.2.2, SG.out, HS.out.2, HD.out]; rfl), rfl⟩
                  · have g' : 57 < (y.toNat : Int) := by omega
                    have k1 : decide (48 ≤ (y.toNat : Int)) = true := decide_eq_true (by omega)
                    have k2 : decide ((y.toNat : Int) ≤ 57) = false := decide_eq_false (by omega)
                    clear hn
                    rcases Nat.eq_zero_or_pos c with rfl | hc0
                    · have HE := Lib.hid (scan_none (l := l) (by rw [HD.out]; rfl))
                      try simp only [Nat.add_zero] at hyl
                      go_wp2_with fail
                      all_goals go_ret3
                      all_goals exact ⟨ret_three HE.out.1.symm HE.out.2.1.symm HE.out.2.2.symm, rfl⟩
                    · have HE := Lib.hid (scan_len R2.out HD.out (by omega) hc0)
                      have HV := Lib.hid (scan_some HE.out.1)
                      have HS := Lib.hid (rnum_sgn (B := 10) (.inl rfl) ((l.drop (k + 1)).take c) 0 (by omega) true)
                      have hnb := rnum_bd (B := 10) (.inl rfl) ((l.drop (k + 1)).take c) 0 (by omega) (by omega)
                      obtain ⟨n0, n1⟩ := hnb
                      have kc : ((k : Int) + 1 + (c : Int) == (k : Int) + 1) = false := by rw [beq_eq_false_iff_ne]; omega
                      go_wp2_with (first | (go_at_call 18; refine (number10 _ _ (by simp; omega) HC.out).mono ?_; rintro e w' ⟨rfl, rfl⟩) | (go_at_call 17; refine (rsigned_any _ _ _ n0 (by omega)).mono ?_; rintro e w' ⟨rfl, rfl⟩))
                      go_ret3
                      exact ⟨ret_three (by rw [HV.out.1, SG.out, HS.out.1, HD.out]; rfl) (by have := HE.out.2; rw [HV.out.2.1]; omega) (by rw [HV.out.2.2, SG.out, HS.out.2, HD.out]; rfl), rfl⟩
                · have hn : (48 ≤ (y.toNat : Int) ∧ (y.toNat : Int) ≤ 57) := by rw [isD10] at hdy; exact of_decide_eq_true hdy
                  have HA2 := Lib.hid (all_next HY.out HC.out hdy)
                  have k1 : decide (48 ≤ (y.toNat : Int)) = true := decide_eq_true (by omega)
                  have k2 : decide ((y.toNat : Int) ≤ 57) = true := decide_eq_true (by omega)
                  clear hdy
                  go_wp2_with fail
                  go_round
                  case rel => exact ⟨c + 1, by omega, congrArg (Value.int .i64) (by omega), HA2.out⟩
                  case measure => simp [intOf] <;> omega
              · have hce : k + 1 + c = l.length := by omega
                have HD := Lib.hid (scD_at R2.out HC.out (fun z hz => by rw [List.getElem?_drop, List.getElem?_eq_none (by omega)] at hz; cases hz))
                have HCE := Lib.hid hce
                clear hce
                rcases Nat.eq_zero_or_pos c with rfl | hc0
                · have HE := Lib.hid (scan_none (l := l) (by rw [HD.out]; rfl))
                  try simp only [Nat.add_zero] at hyl
                  go_wp2_with fail
                  all_goals go_ret3
                  all_goals exact ⟨ret_three HE.out.1.symm HE.out.2.1.symm HE.out.2.2.symm, rfl⟩
                · have HE := Lib.hid (scan_len R2.out HD.out (by omega) hc0)
                  have HV := Lib.hid (scan_some HE.out.1)
                  have HS := Lib.hid (rnum_sgn (B := 10) (.inl rfl) ((l.drop (k + 1)).take c) 0 (by omega) true)
                  have hnb := rnum_bd (B := 10) (.inl rfl) ((l.drop (k + 1)).take c) 0 (by omega) (by omega)
                  obtain ⟨n0, n1⟩ := hnb
                  have kc : ((k : Int) + 1 + (c : Int) == (k : Int) + 1) = false := by rw [beq_eq_false_iff_ne]; omega
                  go_wp2_with (first | (go_at_call 18; refine (number10 _ _ (by simp; omega) HC.out).mono ?_; rintro e w' ⟨rfl, rfl⟩) | (go_at_call 17; refine (rsigned_any _ _ _ n0 (by omega)).mono ?_; rintro e w' ⟨rfl, rfl⟩))
                  go_ret3
                  exact ⟨ret_three (by rw [HV.out.1, SG.out, HS.out.1, HD.out]; rfl) (by have := HE.out.2; rw [HV.out.2.1]; omega) (by rw [HV.out.2.2, SG.out, HS.out.2, HD.out]; rfl), rfl⟩
          · have b2 := u8_bne x 45 (by omega) e2
            rw [show (UInt8.ofNat 45) = 45 from rfl] at b2
            have k2 : ((x.toNat : Int) == 45) = false := by rw [beq_eq_false_iff_ne]; exact e2
            by_cases e3 : (x.toNat : Int) = 43
            · have b3 := u8_beq x 43 (by omega) e3
              rw [show (UInt8.ofNat 43) = 43 from rfl] at b3
              have SG := Lib.hid (show scSign (rest1 l) = false by rw [hr.1, b1, b2]; rfl)
              have R2 := Lib.hid (show rest2 l = l.drop (k + 1) by rw [hr.2, b1, b2, b3]; rfl)
              clear hr hn b1 b2 b3 hx8 e1 e2
              go_wp2_with fail
              clear hxl
              go_loop [5] (fun i => ∃ c : Nat, k + 1 + c ≤ l.length ∧ i = .int .i64 (((k + 1 : Nat) : Int) + (c : Int)) ∧ ((l.drop (k + 1)).take c).all (isD 10) = true) (fun i => l.length - (intOf i).toNat)
              case atStart => exact ⟨0, by omega, by go_num, rfl⟩
              case round =>
                obtain ⟨c, hc, rfl, ha⟩ := hrel
                have HC := Lib.hid ha
                clear ha
                by_cases hpc : k + 1 + c < l.length
                · obtain ⟨y, hy⟩ : ∃ y, l[k + 1 + c]? = some y := ⟨l[k + 1 + c], by simp [hpc]⟩
                  have hyl : l[k + 1 + c] = y := by rw [List.getElem?_eq_getElem hpc] at hy; exact Option.some.inj hy
                  have HY := Lib.hid (drop_at hy)
                  clear hy
                  cases hdy : isD 10 y
                  · have hn : ¬ (48 ≤ (y.toNat : Int) ∧ (y.toNat : Int) ≤ 57) := by rw [isD10] at hdy; exact of_decide_eq_false hdy
                    have HD := Lib.hid (scD_at R2.out HC.out (fun z hz => by rw [HY.out] at hz; cases hz; exact hdy))
                    clear hdy
                    by_cases g : (y.toNat : Int) < 48
                    · have k1 : decide (48 ≤ (y.toNat : Int)) = false := decide_eq_false (by omega)
                      clear hn
                      rcases Nat.eq_zero_or_pos c with rfl | hc0
                      · have HE := Lib.hid (scan_none (l := l) (by rw [HD.out]; rfl))
                        try simp only [Nat.add_zero] at hyl
                        go_wp2_with fail
                        all_goals go_ret3
                        all_goals exact ⟨ret_three HE.out.1.symm HE.out.2.1.symm HE.out.2.2.symm, rfl⟩
                      · have HE := Lib.hid (scan_len R2.out HD.out (by omega) hc0)
                        have HV := Lib.hid (scan_some HE.out.1)
                        have HS := Lib.hid (rnum_sgn (B := 10) (.inl rfl) ((l.drop (k + 1)).take c) 0 (by omega) false)
                        have hnb := rnum_bd (B := 10) (.inl rfl) ((l.drop (k + 1)).take c) 0 (by omega) (by omega)
                        obtain ⟨n0, n1⟩ := hnb
                        have kc : ((k : Int) + 1 + (c : Int) == (k : Int) + 1) = false := by rw [beq_eq_false_iff_ne]; omega
                        go_wp2_with (first | (go_at_call 18; refine (number10 _ _ (by simp; omega) HC.out).mono ?_; rintro e w' ⟨rfl, rfl⟩) | (go_at_call 17; refine (rsigned_any _ _ _ n0 (by omega)).mono ?_; rintro e w' ⟨rfl, rfl⟩))
                        go_ret3
                        exact ⟨ret_three (by rw [HV.out.1, SG.out, HS.out.1, HD.out]; rfl) (by have := HE.out.2; rw [HV.out.2.1]; omega) (by rw [HV.out.2.2, SG.out, HS.out.2, HD.out]; rfl), rfl⟩
                    · have g' : 57 < (y.toNat : Int) := by omega
                      have k1 : decide (48 ≤ (y.toNat : Int)) = true := decide_eq_true (by omega)
                      have k2 : decide ((y.toNat : Int) ≤ 57) = false := decide_eq_false (by omega)
                      clear hn
                      rcases Nat.eq_zero_or_pos c with rfl | hc0
                      · have HE := Lib.hid (scan_none (l := l) (by rw [HD.out]; rfl))
                        try simp only [Nat.add_zero] at hyl
                        go_wp2_with fail
                        all_goals go_ret3
                        all_goals exact ⟨ret_three HE.out.1.symm HE.out.2.1.symm HE.out.2.2.symm, rfl⟩
                      · have HE := Lib.hid (scan_len R2.out HD.out (by omega) hc0)
                        have HV := Lib.hid (scan_some HE.out.1)
                        have HS := Lib.hid (rnum_sgn (B := 10) (.inl rfl) ((l.drop (k + 1)).take c) 0 (by omega) false)
                        have hnb := rnum_bd (B := 10) (.inl rfl) ((l.drop (k + 1)).take c) 0 (by omega) (by omega)
                        obtain ⟨n0, n1⟩ := hnb
                        have kc : ((k : Int) + 1 + (c : Int) == (k : Int) + 1) = false := by rw [beq_eq_false_iff_ne]; omega
                        go_wp2_with (first | (go_at_call 18; refine (number10 _ _ (by simp; omega) HC.out).mono ?_; rintro e w' ⟨rfl, rfl⟩) | (go_at_call 17; refine (rsigned_any _ _ _ n0 (by omega)).mono ?_; rintro e w' ⟨rfl, rfl⟩))
                        go_ret3
                        exact ⟨ret_three (by rw [HV.out.1, SG.out, HS.out.1, HD.out]; rfl) (by have := HE.out.2; rw [HV.out.2.1]; omega) (by rw [HV.out.2.2, SG.out, HS.out.2, HD.out]; rfl), rfl⟩
                  · have hn : (48 ≤ (y.toNat : Int) ∧ (y.toNat : Int) ≤ 57) := by rw [isD10] at hdy; exact of_decide_eq_true hdy
                    have HA2 := Lib.hid (all_next HY.out HC.out hdy)
                    have k1 : decide (48 ≤ (y.toNat : Int)) = true := decide_eq_true (by omega)
                    have k2 : decide ((y.toNat : Int) ≤ 57) = true := decide_eq_true (by omega)
                    clear hdy
                    go_wp2_with fail
                    go_round
                    case rel => exact ⟨c + 1, by omega, congrArg (Value.int .i64) (by omega), HA2.out⟩
                    case measure => simp [intOf] <;> omega
                · have hce : k + 1 + c = l.length := by omega
                  have HD := Lib.hid (scD_at R2.out HC.out (fun z hz => by rw [List.getElem?_drop, List.getElem?_eq_none (by omega)] at hz; cases hz))
                  have HCE := Lib.hid hce
                  clear hce
                  rcases Nat.eq_zero_or_pos c with rfl | hc0
                  · have HE := Lib.hid (scan_none (l := l) (by rw [HD.out]; rfl))
                    try simp only [Nat.add_zero] at hyl
                    go_wp2_with fail
                    all_goals go_ret3
                    all_goals exact ⟨ret_three HE.out.1.symm HE.out.2.1.symm HE.out.2.2.symm, rfl⟩
                  · have HE := Lib.hid (scan_len R2.out HD.out (by omega) hc0)
                    have HV := Lib.hid (scan_some HE.out.1)
                    have HS := Lib.hid (rnum_sgn (B := 10) (.inl rfl) ((l.drop (k + 1)).take c) 0 (by omega) false)
                    have hnb := rnum_bd (B := 10) (.inl rfl) ((l.drop (k + 1)).take c) 0 (by omega) (by omega)
                    obtain ⟨n0, n1⟩ := hnb
                    have kc : ((k : Int) + 1 + (c : Int) == (k : Int) + 1) = false := by rw [beq_eq_false_iff_ne]; omega
                    go_wp2_with (first | (go_at_call 18; refine (number10 _ _ (by simp; omega) HC.out).mono ?_; rintro e w' ⟨rfl, rfl⟩) | (go_at_call 17; refine (rsigned_any _ _ _ n0 (by omega)).mono ?_; rintro e w' ⟨rfl, rfl⟩))
                    go_ret3
                    exact ⟨ret_three (by rw [HV.out.1, SG.out, HS.out.1, HD.out]; rfl) (by have := HE.out.2; rw [HV.out.2.1]; omega) (by rw [HV.out.2.2, SG.out, HS.out.2, HD.out]; rfl), rfl⟩
            · have b3 := u8_bne x 43 (by omega) e3
              rw [show (UInt8.ofNat 43) = 43 from rfl] at b3
              have k3 : ((x.toNat : Int) == 43) = false := by rw [beq_eq_false_iff_ne]; exact e3
              have SG := Lib.hid (show scSign (rest1 l) = false by rw [hr.1, b1, b2]; rfl)
              have R2 := Lib.hid (show rest2 l = l.drop k by rw [hr.2, b1, b2, b3]; rfl)
              have k4 : ((x.toNat : Int) == 32) = false := by rw [beq_eq_false_iff_ne]; omega
              clear hr b1 b2 b3 hx8 e1 e2 e3
              by_cases g : (x.toNat : Int) < 9
              · have k5 : decide (9 ≤ (x.toNat : Int)) = false := decide_eq_false (by omega)
                clear hn
                go_wp2_with fail
                clear hxl
                go_loop [5] (fun i => ∃ c : Nat, k + c ≤ l.length ∧ i = .int .i64 (((k : Nat) : Int) + (c : Int)) ∧ ((l.drop (k)).take c).all (isD 10) = true) (fun i => l.length - (intOf i).toNat)
                case atStart => exact ⟨0, by omega, by go_num, rfl⟩
                case round =>
                  obtain ⟨c, hc, rfl, ha⟩ := hrel
                  have HC := Lib.hid ha
                  clear ha
                  by_cases hpc : k + c < l.length
                  · obtain ⟨y, hy⟩ : ∃ y, l[k + c]? = some y := ⟨l[k + c], by simp [hpc]⟩
                    have hyl : l[k + c] = y := by rw [List.getElem?_eq_getElem hpc] at hy; exact Option.some.inj hy
                    have HY := Lib.hid (drop_at hy)
                    clear hy
                    cases hdy : isD 10 y
                    · have hn : ¬ (48 ≤ (y.toNat : Int) ∧ (y.toNat : Int) ≤ 57) := by rw [isD10] at hdy; exact of_decide_eq_false hdy
                      have HD := Lib.hid (scD_at R2.out HC.out (fun z hz => by rw [HY.out] at hz; cases hz; exact hdy))
                      clear hdy
                      by_cases g : (y.toNat : Int) < 48
                      · have k1 : decide (48 ≤ (y.toNat : Int)) = false := decide_eq_false (by omega)
                        clear hn
                        rcases Nat.eq_zero_or_pos c with rfl | hc0
                        · have HE := Lib.hid (scan_none (l := l) (by rw [HD.out]; rfl))
                          try simp only [Nat.add_zero] at hyl
                          go_wp2_with fail
                          all_goals go_ret3
                          all_goals exact ⟨ret_three HE.out.1.symm HE.out.2.1.symm HE.out.2.2.symm, rfl⟩
                        · have HE := Lib.hid (scan_len R2.out HD.out (by omega) hc0)
                          have HV := Lib.hid (scan_some HE.out.1)
                          have HS := Lib.hid (rnum_sgn (B := 10) (.inl rfl) ((l.drop (k)).take c) 0 (by omega) false)
                          have hnb := rnum_bd (B := 10) (.inl rfl) ((l.drop (k)).take c) 0 (by omega) (by omega)
                          obtain ⟨n0, n1⟩ := hnb
                          have kc : ((k : Int) + (c : Int) == (k : Int)) = false := by rw [beq_eq_false_iff_ne]; omega
                          go_wp2_with (first | (go_at_call 18; refine (number10 _ _ (by simp; omega) HC.out).mono ?_; rintro e w' ⟨rfl, rfl⟩) | (go_at_call 17; refine (rsigned_any _ _ _ n0 (by omega)).mono ?_; rintro e w' ⟨rfl, rfl⟩))
                          go_ret3
                          exact ⟨ret_three (by rw [HV.out.1, SG.out, HS.out.1, HD.out]; rfl) (by have := HE.out.2; rw [HV.out.2.1]; omega) (by rw [HV.out.2.2, SG.out, HS.out.2, HD.out]; rfl), rfl⟩
                      · have g' : 57 < (y.toNat : Int) := by omega
                        have k1 : decide (48 ≤ (y.toNat : Int)) = true := decide_eq_true (by omega)
                        have k2 : decide ((y.toNat : Int) ≤ 57) = false := decide_eq_false (by omega)
                        clear hn
                        rcases Nat.eq_zero_or_pos c with rfl | hc0
                        · have HE := Lib.hid (scan_none (l := l) (by rw [HD.out]; rfl))
                          try simp only [Nat.add_zero] at hyl
                          go_wp2_with fail
                          all_goals go_ret3
                          all_goals exact ⟨ret_three HE.out.1.symm HE.out.2.1.symm HE.out.2.2.symm, rfl⟩
                        · have HE := Lib.hid (scan_len R2.out HD.out (by omega) hc0)
                          have HV := Lib.hid (scan_some HE.out.1)
                          have HS := Lib.hid (rnum_sgn (B := 10) (.inl rfl) ((l.drop (k)).take c) 0 (by omega) false)
                          have hnb := rnum_bd (B := 10) (.inl rfl) ((l.drop (k)).take c) 0 (by omega) (by omega)
                          obtain ⟨n0, n1⟩ := hnb
                          have kc : ((k : Int) + (c : Int) == (k : Int)) = false := by rw [beq_eq_false_iff_ne]; omega
                          go_wp2_with (first | (go_at_call 18; refine (number10 _ _ (by simp; omega) HC.out).mono ?_; rintro e w' ⟨rfl, rfl⟩) | (go_at_call 17; refine (rsigned_any _ _ _ n0 (by omega)).mono ?_; rintro e w' ⟨rfl, rfl⟩))
                          go_ret3
                          exact ⟨ret_three (by rw [HV.out.1, SG.out, HS.out.1, HD.out]; rfl) (by have := HE.out.2; rw [HV.out.2.1]; omega) (by rw [HV.out.2.2, SG.out, HS.out.2, HD.out]; rfl), rfl⟩
                    · have hn : (48 ≤ (y.toNat : Int) ∧ (y.toNat : Int) ≤ 57) := by rw [isD10] at hdy; exact of_decide_eq_true hdy
                      have HA2 := Lib.hid (all_next HY.out HC.out hdy)
                      have k1 : decide (48 ≤ (y.toNat : Int)) = true := decide_eq_true (by omega)
                      have k2 : decide ((y.toNat : Int) ≤ 57) = true := decide_eq_true (by omega)
                      clear hdy
                      go_wp2_with fail
                      go_round
                      case rel => exact ⟨c + 1, by omega, congrArg (Value.int .i64) (by omega), HA2.out⟩
                      case measure => simp [intOf] <;> omega
                  · have hce : k + c = l.length := by omega
                    have HD := Lib.hid (scD_at R2.out HC.out (fun z hz => by rw [List.getElem?_drop, List.getElem?_eq_none (by omega)] at hz; cases hz))
                    have HCE := Lib.hid hce
                    clear hce
                    rcases Nat.eq_zero_or_pos c with rfl | hc0
                    · have HE := Lib.hid (scan_none (l := l) (by rw [HD.out]; rfl))
                      try simp only [Nat.add_zero] at hyl
                      go_wp2_with fail
                      all_goals go_ret3
                      all_goals exact ⟨ret_three HE.out.1.symm HE.out.2.1.symm HE.out.2.2.symm, rfl⟩
                    · have HE := Lib.hid (scan_len R2.out HD.out (by omega) hc0)
                      have HV := Lib.hid (scan_some HE.out.1)
                      have HS := Lib.hid (rnum_sgn (B := 10) (.inl rfl) ((l.drop (k)).take c) 0 (by omega) false)
                      have hnb := rnum_bd (B := 10) (.inl rfl) ((l.drop (k)).take c) 0 (by omega) (by omega)
                      obtain ⟨n0, n1⟩ := hnb
                      have kc : ((k : Int) + (c : Int) == (k : Int)) = false := by rw [beq_eq_false_iff_ne]; omega
                      go_wp2_with (first | (go_at_call 18; refine (number10 _ _ (by simp; omega) HC.out).mono ?_; rintro e w' ⟨rfl, rfl⟩) | (go_at_call 17; refine (rsigned_any _ _ _ n0 (by omega)).mono ?_; rintro e w' ⟨rfl, rfl⟩))
                      go_ret3
                      exact ⟨ret_three (by rw [HV.out.1, SG.out, HS.out.1, HD.out]; rfl) (by have := HE.out.2; rw [HV.out.2.1]; omega) (by rw [HV.out.2.2, SG.out, HS.out.2, HD.out]; rfl), rfl⟩
              · have k5 : decide (9 ≤ (x.toNat : Int)) = true := decide_eq_true (by omega)
                have k6 : decide ((x.toNat : Int) ≤ 13) = false := decide_eq_false (by omega)
                clear hn
                go_wp2_with fail
                clear hxl
                go_loop [5] (fun i => ∃ c : Nat, k + c ≤ l.length ∧ i = .int .i64 (((k : Nat) : Int) + (c : Int)) ∧ ((l.drop (k)).take c).all (isD 10) = true) (fun i => l.length - (intOf i).toNat)
                case atStart => exact ⟨0, by omega, by go_num, rfl⟩
                case round =>
                  obtain ⟨c, hc, rfl, ha⟩ := hrel
                  have HC := Lib.hid ha
                  clear ha
                  by_cases hpc : k + c < l.length
                  · obtain ⟨y, hy⟩ : ∃ y, l[k + c]? = some y := ⟨l[k + c], by simp [hpc]⟩
                    have hyl : l[k + c] = y := by rw [List.getElem?_eq_getElem hpc] at hy; exact Option.some.inj hy
                    have HY := Lib.hid (drop_at hy)
                    clear hy
                    cases hdy : isD 10 y
                    · have hn : ¬ (48 ≤ (y.toNat : Int) ∧ (y.toNat : Int) ≤ 57) := by rw [isD10] at hdy; exact of_decide_eq_false hdy
                      have HD := Lib.hid (scD_at R2.out HC.out (fun z hz => by rw [HY.out] at hz; cases hz; exact hdy))
                      clear hdy
                      by_cases g : (y.toNat : Int) < 48
                      · have k1 : decide (48 ≤ (y.toNat : Int)) = false := decide_eq_false (by omega)
                        clear hn
                        rcases Nat.eq_zero_or_pos c with rfl | hc0
                        · have HE := Lib.hid (scan_none (l := l) (by rw [HD.out]; rfl))
                          try simp only [Nat.add_zero] at hyl
                          go_wp2_with fail
                          all_goals go_ret3
                          all_goals exact ⟨ret_three HE.out.1.symm HE.out.2.1.symm HE.out.2.2.symm, rfl⟩
                        · have HE := Lib.hid (scan_len R2.out HD.out (by omega) hc0)
                          have HV := Lib.hid (scan_some HE.out.1)
                          have HS := Lib.hid (rnum_sgn (B := 10) (.inl rfl) ((l.drop (k)).take c) 0 (by omega) false)
                          have hnb := rnum_bd (B := 10) (.inl rfl) ((l.drop (k)).take c) 0 (by omega) (by omega)
                          obtain ⟨n0, n1⟩ := hnb
                          have kc : ((k : Int) + (c : Int) == (k : Int)) = false := by rw [beq_eq_false_iff_ne]; omega
                          go_wp2_with (first | (go_at_call 18; refine (number10 _ _ (by simp; omega) HC.out).mono ?_; rintro e w' ⟨rfl, rfl⟩) | (go_at_call 17; refine (rsigned_any _ _ _ n0 (by omega)).mono ?_; rintro e w' ⟨rfl, rfl⟩))
                          go_ret3
                          exact ⟨ret_three (by rw [HV.out.1, SG.out, HS.out.1, HD.out]; rfl) (by have := HE.out.2; rw [HV.out.2.1]; omega) (by rw [HV.out.2.2, SG.out, HS.out.2, HD.out]; rfl), rfl⟩
                      · have g' : 57 < (y.toNat : Int) := by omega
                        have k1 : decide (48 ≤ (y.toNat : Int)) = true := decide_eq_true (by omega)
                        have k2 : decide ((y.toNat : Int) ≤ 57) = false := decide_eq_false (by omega)
                        clear hn
                        rcases Nat.eq_zero_or_pos c with rfl | hc0
                        · have HE := Lib.hid (scan_none (l := l) (by rw [HD.out]; rfl))
                          try simp only [Nat.add_zero] at hyl
                          go_wp2_with fail
                          all_goals go_ret3
                          all_goals exact ⟨ret_three HE.out.1.symm HE.out.2.1.symm HE.out.2.2.symm, rfl⟩
                        · have HE := Lib.hid (scan_len R2.out HD.out (by omega) hc0)
                          have HV := Lib.hid (scan_some HE.out.1)
                          have HS := Lib.hid (rnum_sgn (B := 10) (.inl rfl) ((l.drop (k)).take c) 0 (by omega) false)
                          have hnb := rnum_bd (B := 10) (.inl rfl) ((l.drop (k)).take c) 0 (by omega) (by omega)
                          obtain ⟨n0, n1⟩ := hnb
                          have kc : ((k : Int) + (c : Int) == (k : Int)) = false := by rw [beq_eq_false_iff_ne]; omega
                          go_wp2_with (first | (go_at_call 18; refine (number10 _ _ (by simp; omega) HC.out).mono ?_; rintro e w' ⟨rfl, rfl⟩) | (go_at_call 17; refine (rsigned_any _ _ _ n0 (by omega)).mono ?_; rintro e w' ⟨rfl, rfl⟩))
                          go_ret3
                          exact ⟨ret_three (by rw [HV.out.1, SG.out, HS.out.1, HD.out]; rfl) (by have := HE.out.2; rw [HV.out.2.1]; omega) (by rw [HV.out.2.2, SG.out, HS.out.2, HD.out]; rfl), rfl⟩
                    · have hn : (48 ≤ (y.toNat : Int) ∧ (y.toNat : Int) ≤ 57) := by rw [isD10] at hdy; exact of_decide_eq_true hdy
                      have HA2 := Lib.hid (all_next HY.out HC.out hdy)
                      have k1 : decide (48 ≤ (y.toNat : Int)) = true := decide_eq_true (by omega)
                      have k2 : decide ((y.toNat : Int) ≤ 57) = true := decide_eq_true (by omega)
                      clear hdy
                      go_wp2_with fail
                      go_round
                      case rel => exact ⟨c + 1, by omega, congrArg (Value.int .i64) (by omega), HA2.out⟩
                      case measure => simp [intOf] <;> omega
                  · have hce : k + c = l.length := by omega
                    have HD := Lib.hid (scD_at R2.out HC.out (fun z hz => by rw [List.getElem?_drop, List.getElem?_eq_none (by omega)] at hz; cases hz))
                    have HCE := Lib.hid hce
                    clear hce
                    rcases Nat.eq_zero_or_pos c with rfl | hc0
                    · have HE := Lib.hid (scan_none (l := l) (by rw [HD.out]; rfl))
                      try simp only [Nat.add_zero] at hyl
                      go_wp2_with fail
                      all_goals go_ret3
                      all_goals exact ⟨ret_three HE.out.1.symm HE.out.2.1.symm HE.out.2.2.symm, rfl⟩
                    · have HE := Lib.hid (scan_len R2.out HD.out (by omega) hc0)
                      have HV := Lib.hid (scan_some HE.out.1)
                      have HS := Lib.hid (rnum_sgn (B := 10) (.inl rfl) ((l.drop (k)).take c) 0 (by omega) false)
                      have hnb := rnum_bd (B := 10) (.inl rfl) ((l.drop (k)).take c) 0 (by omega) (by omega)
                      obtain ⟨n0, n1⟩ := hnb
                      have kc : ((k : Int) + (c : Int) == (k : Int)) = false := by rw [beq_eq_false_iff_ne]; omega
                      go_wp2_with (first | (go_at_call 18; refine (number10 _ _ (by simp; omega) HC.out).mono ?_; rintro e w' ⟨rfl, rfl⟩) | (go_at_call 17; refine (rsigned_any _ _ _ n0 (by omega)).mono ?_; rintro e w' ⟨rfl, rfl⟩))
                      go_ret3
                      exact ⟨ret_three (by rw [HV.out.1, SG.out, HS.out.1, HD.out]; rfl) (by have := HE.out.2; rw [HV.out.2.1]; omega) (by rw [HV.out.2.2, SG.out, HS.out.2, HD.out]; rfl), rfl⟩
      · have hn : (9 ≤ (x.toNat : Int) ∧ (x.toNat : Int) ≤ 13 ∨ (x.toNat : Int) = 32) := of_decide_eq_true hd
        have HA2 := Lib.hid (ws_next HX.out HA.out hd)
        clear hd
        rcases hn with ⟨g, g'⟩ | g
        · have k1 : decide (9 ≤ (x.toNat : Int)) = true := decide_eq_true (by omega)
          have k2 : decide ((x.toNat : Int) ≤ 13) = true := decide_eq_true (by omega)
          go_wp2_with fail
          go_round
          case rel => exact ⟨k + 1, by omega, by go_num, HA2.out⟩
          case measure => simp [intOf]; omega
        · have k3 : ((x.toNat : Int) == 32) = true := by rw [beq_iff_eq]; exact g
          have k1 : decide (9 ≤ (x.toNat : Int)) = true := decide_eq_true (by omega)
          have k2 : decide ((x.toNat : Int) ≤ 13) = false := decide_eq_false (by omega)
          clear g
          go_wp2_with fail
          go_round
          case rel => exact ⟨k + 1, by omega, by go_num, HA2.out⟩
          case measure => simp [intOf]; omega
    · obtain rfl : k = l.length := by omega
      have hr := rest1_at HA.out (fun y hy => by rw [List.getElem?_eq_none (Nat.le_refl _)] at hy; cases hy)
      rw [List.drop_length] at hr
      have HE := Lib.hid (rest_end hr)
      clear hr
      go_wp2_with fail
      go_loop [5] (fun i => i = .int .i64 l.length) (fun i => 0)
      case atStart => rfl
      case round =>
        obtain rfl := hrel
        go_wp2_with fail
        go_ret3
        exact ⟨ret_three HE.out.1.symm HE.out.2.1.symm HE.out.2.2.symm, rfl⟩
end Go.Proofs.YtelggbmobemnoaaDoor
