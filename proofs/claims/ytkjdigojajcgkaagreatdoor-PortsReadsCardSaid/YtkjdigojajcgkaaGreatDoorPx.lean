/- Walks of layer 21: what stands between the marks behind a word, in the program. -/
import Derived.Test.YtkjdigojajcgkaaGreatDoorPw3
import Derived.Test.YtkjdigojajcgkaaGreatDoorPq
import Derived.Test.YtkjdigojajcgkaaGreatDoorSw8
import Derived.Test.YtkjdigojajcgkaaGreatDoorSw12
import Derived.Test.YtkjdigojajcgkaaGreatDoorFw8
import Derived.Test.YtkjdigojajcgkaaGreatDoorPw8
import Derived.Deep.AppendLies
import Derived.Deep.RegionLaw
import Derived.BigRegion
import Derived.Test.YtkjdigojajcgkaaGreatDoorPw10
import Derived.Deep.RegionHeld3
namespace Go.Proofs.YtkjdigojajcgkaaGreatDoor
open Go.RowKit
open Pt (Oc)
set_option linter.unusedVariables false
attribute [local go_sem] ext_mk size_mk toList_mk get_mk take_drop_len take_tail_len ByteArray.mk_append_mk List.append_toArray

theorem hasSuffix_l (l p : List UInt8) (w : World) (hl : l.length ≤ 9223372036854775807) : Calls Tryz.prog 75 #[.string ⟨l.toArray⟩, .string ⟨p.toArray⟩] w fun e w' => e = .returned (.bool (Lib.hasSuffix l p)) ∧ w = w' :=
  (Tryz.strings_HasSuffix ⟨l.toArray⟩ ⟨p.toArray⟩ w (by rw [size_mk]; exact hl)).mono fun e w' ⟨he, hw⟩ => ⟨he, hw.symm⟩

theorem cut_yes {l p : List UInt8} (h : p.isPrefixOf l = true) (w : World) : Calls Tryz.prog 46 #[.string ⟨l.toArray⟩, .string ⟨p.toArray⟩] w fun e w' => e = .returned (.tuple #[.string ⟨(l.drop p.length).toArray⟩, .bool true]) ∧ w = w' := by
  have := cutPrefix_l l p w
  rw [show Lib.hasPrefix l p = true from h, show Lib.trimPrefix l p = l.drop p.length from by unfold Lib.trimPrefix Lib.hasPrefix; rw [if_pos h]] at this
  exact this

theorem cut_no {l p : List UInt8} (h : p.isPrefixOf l = false) (w : World) : Calls Tryz.prog 46 #[.string ⟨l.toArray⟩, .string ⟨p.toArray⟩] w fun e w' => e = .returned (.tuple #[.string ⟨l.toArray⟩, .bool false]) ∧ w = w' := by
  have := cutPrefix_l l p w
  rw [show Lib.hasPrefix l p = false from h, show Lib.trimPrefix l p = l from by unfold Lib.trimPrefix Lib.hasPrefix; rw [h]; rfl] at this
  exact this

theorem suf_last (l : List UInt8) : Lib.hasSuffix l [34] = decide (l.getLast? = some 34) := by
  unfold Lib.hasSuffix
  rw [Bool.eq_iff_iff, List.isSuffixOf_iff_suffix, decide_eq_true_iff]
  constructor
  · rintro ⟨t, rfl⟩; simp
  · intro h
    obtain ⟨a, rfl⟩ : ∃ a, l = a ++ [34] := by
      rw [List.getLast?_eq_some_iff] at h; obtain ⟨a, h⟩ := h; exact ⟨a, h⟩
    exact ⟨a, rfl⟩

/-- what 'quoted' answers -/
def QuR (w : World) (q : Option (List UInt8)) (e : Ending) (w' : World) : Prop := (∃ x : List UInt8, e = .returned (.tuple #[.string ⟨x.toArray⟩, .bool q.isSome]) ∧ ∀ t, q = some t → x = t) ∧ Below w.heap.size w w'

theorem QuR.no {w w' : World} {q : Option (List UInt8)} {x : List UInt8} (h : q = none) (hb : Below w.heap.size w w') : QuR w q (.returned (.tuple #[.string ⟨x.toArray⟩, .bool false])) w' := by
  subst h; exact ⟨⟨x, rfl, fun t h => by cases h⟩, hb⟩

theorem QuR.yes {w w' : World} {q : Option (List UInt8)} {x : List UInt8} (h : q = some x) (hb : Below w.heap.size w w') : QuR w q (.returned (.tuple #[.string ⟨x.toArray⟩, .bool true])) w' := by
  subst h; exact ⟨⟨x, rfl, fun t h => by cases h; rfl⟩, hb⟩

set_option maxHeartbeats 800000 in
theorem squ_out (s : List UInt8) (w : World) (hv : StrVars w) (hs : s.length ≤ 1048576) :
    Calls Tryz.prog 48 #[.string ⟨s.toArray⟩, .string ⟨#[111, 117, 116]⟩] w (QuR w (Pt.quB Pt.outW s)) := by
  have HV := Lib.hid hv
  clear hv
  cases hp : List.isPrefixOf [111, 117, 116, 32, 34] s
  · have HQ := Lib.hid (Pt.qu_none (w := Pt.outW) (s := s) (Pt.quIn_no hp))
    have HC := Lib.hid (fun W => cut_no hp W)
    clear hp
    go_enter Tryz.func48, Tryz.ntmps48
    go_wp2_with (go_at_call 46; refine (HC.out _).mono ?_; rintro e w' ⟨rfl, rfl⟩)
    go_ret2
    exact QuR.no HQ.out (Below.refl _ _)
  · have HC := Lib.hid (fun W => cut_yes hp W)
    obtain ⟨T, hT⟩ : ∃ T, s.drop 5 = T := ⟨_, rfl⟩
    have hTl : T.length ≤ 1048576 := by rw [← hT]; simp; omega
    have hin : Pt.quIn Pt.outW s = if T.getLast? = some 34 then some T.dropLast else none := by
      unfold Pt.quIn
      rw [show (Pt.outW).length + 2 = 5 from rfl, hT]
      by_cases hg : T.getLast? = some 34
      · rw [if_pos ⟨hp, hg⟩, if_pos hg]
      · rw [if_neg (fun h => hg h.2), if_neg hg]
    rw [show ([111, 117, 116, 32, 34] : List UInt8).length = 5 from rfl, hT] at HC
    by_cases hg : T.getLast? = some 34
    · have HS := Lib.hid (fun W => hasSuffix_l T [34] W (by omega))
      rw [suf_last, decide_eq_true hg] at HS
      rw [if_pos hg] at hin
      have hTn : 1 ≤ T.length := by cases T with | nil => cases hg | cons => simp
      rw [List.dropLast_eq_take] at hin
      obtain ⟨Q, hQ⟩ : ∃ Q, T.take (T.length - 1) = Q := ⟨_, rfl⟩
      have hQl : Q.length ≤ 1048576 := by rw [← hQ]; simp; omega
      have c1 := fun W h => sread_any Q W h (by omega) (.inl (by omega))
      rw [← hQ] at c1
      rw [hQ] at hin
      by_cases e1 : St.readE Q = 0
      · rw [hQ, e1] at c1
        have hRl := (St.read_ok e1).2.2
        obtain ⟨R, hR⟩ : ∃ R, St.readB Q = R := ⟨_, rfl⟩
        rw [hR] at c1 hRl
        obtain ⟨N, hN⟩ : ∃ N, St.readN Q = N := ⟨_, rfl⟩
        rw [hN] at c1
        have c2 := fun W h => sescape_any R W h (by omega)
        obtain ⟨X, hX⟩ : ∃ X, St.escB R = X := ⟨_, rfl⟩
        rw [hX] at c2
        by_cases e2 : St.escE R = 0
        · rw [e2] at c2
          rw [← hQ] at c1
          have C1 := Lib.hid c1
          have C2 := Lib.hid c2
          by_cases e3 : X = Q
          · have HQ := Lib.hid (show Pt.quB Pt.outW s = some R by rw [Pt.qu_some hin (by unfold Pt.conOk; rw [e1, hR, e2, hX, e3]; simp), hR])
            have k3 : (X == T.take (T.length - 1)) = true := by rw [hQ]; simp [e3]
            have k4 : (X != T.take (T.length - 1)) = false := by rw [hQ]; simp [e3]
            have k5 : decide (X = T.take (T.length - 1)) = true := by rw [hQ]; simp [e3]
            clear c1 c2 hin hp hT hg hQ hR hN hX e1 e2 e3
            go_enter Tryz.func48, Tryz.ntmps48
            go_wp2_with (first | (go_at_call 46; refine (HC.out _).mono ?_; rintro e w' ⟨rfl, rfl⟩) | (go_at_call 75; refine (HS.out _).mono ?_; rintro e w' ⟨rfl, rfl⟩) | (go_at_call 76; refine (C1.out _ HV.out.1).mono ?_; rintro e w1 ⟨rfl, hb1⟩) | (go_at_call 35; refine (C2.out _ (HV.out.below hb1)).mono ?_; rintro e w2 ⟨rfl, hb2⟩))
            go_ret2
            exact QuR.yes HQ.out (hb1.trans (hb2.mono hb1.size))
          · have HQ := Lib.hid (Pt.qu_bad hin (show Pt.conOk Q = false by unfold Pt.conOk; rw [hR, hX, decide_eq_false e3]; simp))
            have k3 : (X == T.take (T.length - 1)) = false := by rw [hQ]; simp [e3]
            have k4 : (X != T.take (T.length - 1)) = true := by rw [hQ]; simp [e3]
            have k5 : decide (X = T.take (T.length - 1)) = false := by rw [hQ]; simp [e3]
            clear c1 c2 hin hp hT hg hQ hR hN hX e1 e2 e3
            go_enter Tryz.func48, Tryz.ntmps48
            go_wp2_with (first | (go_at_call 46; refine (HC.out _).mono ?_; rintro e w' ⟨rfl, rfl⟩) | (go_at_call 75; refine (HS.out _).mono ?_; rintro e w' ⟨rfl, rfl⟩) | (go_at_call 76; refine (C1.out _ HV.out.1).mono ?_; rintro e w1 ⟨rfl, hb1⟩) | (go_at_call 35; refine (C2.out _ (HV.out.below hb1)).mono ?_; rintro e w2 ⟨rfl, hb2⟩))
            go_ret2
            exact QuR.no HQ.out (hb1.trans (hb2.mono hb1.size))
        · rw [← hQ] at c1
          have HQ := Lib.hid (Pt.qu_bad hin (show Pt.conOk Q = false by unfold Pt.conOk; rw [hR, decide_eq_false e2]; simp))
          have k2 : (St.escE R == 0) = false := by simp [e2]
          obtain ⟨E, hE⟩ : ∃ E, St.escE R = E := ⟨_, rfl⟩
          rw [hE] at k2 c2
          have C1 := Lib.hid c1
          have C2 := Lib.hid c2
          clear c1 c2 hin hp hT hg hQ hR hN hX e1 e2 hE
          go_enter Tryz.func48, Tryz.ntmps48
          go_wp2_with (first | (go_at_call 46; refine (HC.out _).mono ?_; rintro e w' ⟨rfl, rfl⟩) | (go_at_call 75; refine (HS.out _).mono ?_; rintro e w' ⟨rfl, rfl⟩) | (go_at_call 76; refine (C1.out _ HV.out.1).mono ?_; rintro e w1 ⟨rfl, hb1⟩) | (go_at_call 35; refine (C2.out _ (HV.out.below hb1)).mono ?_; rintro e w2 ⟨rfl, hb2⟩))
          go_ret2
          exact QuR.no HQ.out (hb1.trans (hb2.mono hb1.size))
      · have HQ := Lib.hid (Pt.qu_bad hin (show Pt.conOk Q = false by unfold Pt.conOk; rw [decide_eq_false e1]; simp))
        rw [hQ] at c1
        have k1 : (St.readE Q == 0) = false := by simp [e1]
        have k2 : (St.readE Q != 0) = true := by simp [e1]
        obtain ⟨E, hE⟩ : ∃ E, St.readE Q = E := ⟨_, rfl⟩
        obtain ⟨N, hN⟩ : ∃ N, St.readN Q = N := ⟨_, rfl⟩
        obtain ⟨R, hR⟩ : ∃ R, St.readB Q = R := ⟨_, rfl⟩
        rw [hE] at k1 k2
        rw [hE, hN, hR, ← hQ] at c1
        have C1 := Lib.hid c1
        clear c1 hin hp hT hg hQ hR hN e1 hE
        go_enter Tryz.func48, Tryz.ntmps48
        go_wp2_with (first | (go_at_call 46; refine (HC.out _).mono ?_; rintro e w' ⟨rfl, rfl⟩) | (go_at_call 75; refine (HS.out _).mono ?_; rintro e w' ⟨rfl, rfl⟩) | (go_at_call 76; refine (C1.out _ HV.out.1).mono ?_; rintro e w1 ⟨rfl, hb1⟩))
        go_ret2
        exact QuR.no HQ.out hb1
    · have HS := Lib.hid (fun W => hasSuffix_l T [34] W (by omega))
      rw [suf_last, decide_eq_false hg] at HS
      rw [if_neg hg] at hin
      have HQ := Lib.hid (Pt.qu_none hin)
      clear hin hp hT hg
      go_enter Tryz.func48, Tryz.ntmps48
      go_wp2_with (first | (go_at_call 46; refine (HC.out _).mono ?_; rintro e w' ⟨rfl, rfl⟩) | (go_at_call 75; refine (HS.out _).mono ?_; rintro e w' ⟨rfl, rfl⟩))
      go_ret2
      exact QuR.no HQ.out (Below.refl _ _)

set_option maxHeartbeats 800000 in
theorem squ_unc (s : List UInt8) (w : World) (hv : StrVars w) (hs : s.length ≤ 1048576) :
    Calls Tryz.prog 48 #[.string ⟨s.toArray⟩, .string ⟨#[117, 110, 99, 97, 117, 103, 104, 116]⟩] w (QuR w (Pt.quB Pt.uncW s)) := by
  have HV := Lib.hid hv
  clear hv
  cases hp : List.isPrefixOf [117, 110, 99, 97, 117, 103, 104, 116, 32, 34] s
  · have HQ := Lib.hid (Pt.qu_none (w := Pt.uncW) (s := s) (Pt.quIn_no hp))
    have HC := Lib.hid (fun W => cut_no hp W)
    clear hp
    go_enter Tryz.func48, Tryz.ntmps48
    go_wp2_with (go_at_call 46; refine (HC.out _).mono ?_; rintro e w' ⟨rfl, rfl⟩)
    go_ret2
    exact QuR.no HQ.out (Below.refl _ _)
  · have HC := Lib.hid (fun W => cut_yes hp W)
    obtain ⟨T, hT⟩ : ∃ T, s.drop 10 = T := ⟨_, rfl⟩
    have hTl : T.length ≤ 1048576 := by rw [← hT]; simp; omega
    have hin : Pt.quIn Pt.uncW s = if T.getLast? = some 34 then some T.dropLast else none := by
      unfold Pt.quIn
      rw [show (Pt.uncW).length + 2 = 10 from rfl, hT]
      by_cases hg : T.getLast? = some 34
      · rw [if_pos ⟨hp, hg⟩, if_pos hg]
      · rw [if_neg (fun h => hg h.2), if_neg hg]
    rw [show ([117, 110, 99, 97, 117, 103, 104, 116, 32, 34] : List UInt8).length = 10 from rfl, hT] at HC
    by_cases hg : T.getLast? = some 34
    · have HS := Lib.hid (fun W => hasSuffix_l T [34] W (by omega))
      rw [suf_last, decide_eq_true hg] at HS
      rw [if_pos hg] at hin
      have hTn : 1 ≤ T.length := by cases T with | nil => cases hg | cons => simp
      rw [List.dropLast_eq_take] at hin
      obtain ⟨Q, hQ⟩ : ∃ Q, T.take (T.length - 1) = Q := ⟨_, rfl⟩
      have hQl : Q.length ≤ 1048576 := by rw [← hQ]; simp; omega
      have c1 := fun W h => sread_any Q W h (by omega) (.inl (by omega))
      rw [← hQ] at c1
      rw [hQ] at hin
      by_cases e1 : St.readE Q = 0
      · rw [hQ, e1] at c1
        have hRl := (St.read_ok e1).2.2
        obtain ⟨R, hR⟩ : ∃ R, St.readB Q = R := ⟨_, rfl⟩
        rw [hR] at c1 hRl
        obtain ⟨N, hN⟩ : ∃ N, St.readN Q = N := ⟨_, rfl⟩
        rw [hN] at c1
        have c2 := fun W h => sescape_any R W h (by omega)
        obtain ⟨X, hX⟩ : ∃ X, St.escB R = X := ⟨_, rfl⟩
        rw [hX] at c2
        by_cases e2 : St.escE R = 0
        · rw [e2] at c2
          rw [← hQ] at c1
          have C1 := Lib.hid c1
          have C2 := Lib.hid c2
          by_cases e3 : X = Q
          · have HQ := Lib.hid (show Pt.quB Pt.uncW s = some R by rw [Pt.qu_some hin (by unfold Pt.conOk; rw [e1, hR, e2, hX, e3]; simp), hR])
            have k3 : (X == T.take (T.length - 1)) = true := by rw [hQ]; simp [e3]
            have k4 : (X != T.take (T.length - 1)) = false := by rw [hQ]; simp [e3]
            have k5 : decide (X = T.take (T.length - 1)) = true := by rw [hQ]; simp [e3]
            clear c1 c2 hin hp hT hg hQ hR hN hX e1 e2 e3
            go_enter Tryz.func48, Tryz.ntmps48
            go_wp2_with (first | (go_at_call 46; refine (HC.out _).mono ?_; rintro e w' ⟨rfl, rfl⟩) | (go_at_call 75; refine (HS.out _).mono ?_; rintro e w' ⟨rfl, rfl⟩) | (go_at_call 76; refine (C1.out _ HV.out.1).mono ?_; rintro e w1 ⟨rfl, hb1⟩) | (go_at_call 35; refine (C2.out _ (HV.out.below hb1)).mono ?_; rintro e w2 ⟨rfl, hb2⟩))
            go_ret2
            exact QuR.yes HQ.out (hb1.trans (hb2.mono hb1.size))
          · have HQ := Lib.hid (Pt.qu_bad hin (show Pt.conOk Q = false by unfold Pt.conOk; rw [hR, hX, decide_eq_false e3]; simp))
            have k3 : (X == T.take (T.length - 1)) = false := by rw [hQ]; simp [e3]
            have k4 : (X != T.take (T.length - 1)) = true := by rw [hQ]; simp [e3]
            have k5 : decide (X = T.take (T.length - 1)) = false := by rw [hQ]; simp [e3]
            clear c1 c2 hin hp hT hg hQ hR hN hX e1 e2 e3
            go_enter Tryz.func48, Tryz.ntmps48
            go_wp2_with (first | (go_at_call 46; refine (HC.out _).mono ?_; rintro e w' ⟨rfl, rfl⟩) | (go_at_call 75; refine (HS.out _).mono ?_; rintro e w' ⟨rfl, rfl⟩) | (go_at_call 76; refine (C1.out _ HV.out.1).mono ?_; rintro e w1 ⟨rfl, hb1⟩) | (go_at_call 35; refine (C2.out _ (HV.out.below hb1)).mono ?_; rintro e w2 ⟨rfl, hb2⟩))
            go_ret2
            exact QuR.no HQ.out (hb1.trans (hb2.mono hb1.size))
        · rw [← hQ] at c1
          have HQ := Lib.hid (Pt.qu_bad hin (show Pt.conOk Q = false by unfold Pt.conOk; rw [hR, decide_eq_false e2]; simp))
          have k2 : (St.escE R == 0) = false := by simp [e2]
          obtain ⟨E, hE⟩ : ∃ E, St.escE R = E := ⟨_, rfl⟩
          rw [hE] at k2 c2
          have C1 := Lib.hid c1
          have C2 := Lib.hid c2
          clear c1 c2 hin hp hT hg hQ hR hN hX e1 e2 hE
          go_enter Tryz.func48, Tryz.ntmps48
          go_wp2_with (first | (go_at_call 46; refine (HC.out _).mono ?_; rintro e w' ⟨rfl, rfl⟩) | (go_at_call 75; refine (HS.out _).mono ?_; rintro e w' ⟨rfl, rfl⟩) | (go_at_call 76; refine (C1.out _ HV.out.1).mono ?_; rintro e w1 ⟨rfl, hb1⟩) | (go_at_call 35; refine (C2.out _ (HV.out.below hb1)).mono ?_; rintro e w2 ⟨rfl, hb2⟩))
          go_ret2
          exact QuR.no HQ.out (hb1.trans (hb2.mono hb1.size))
      · have HQ := Lib.hid (Pt.qu_bad hin (show Pt.conOk Q = false by unfold Pt.conOk; rw [decide_eq_false e1]; simp))
        rw [hQ] at c1
        have k1 : (St.readE Q == 0) = false := by simp [e1]
        have k2 : (St.readE Q != 0) = true := by simp [e1]
        obtain ⟨E, hE⟩ : ∃ E, St.readE Q = E := ⟨_, rfl⟩
        obtain ⟨N, hN⟩ : ∃ N, St.readN Q = N := ⟨_, rfl⟩
        obtain ⟨R, hR⟩ : ∃ R, St.readB Q = R := ⟨_, rfl⟩
        rw [hE] at k1 k2
        rw [hE, hN, hR, ← hQ] at c1
        have C1 := Lib.hid c1
        clear c1 hin hp hT hg hQ hR hN e1 hE
        go_enter Tryz.func48, Tryz.ntmps48
        go_wp2_with (first | (go_at_call 46; refine (HC.out _).mono ?_; rintro e w' ⟨rfl, rfl⟩) | (go_at_call 75; refine (HS.out _).mono ?_; rintro e w' ⟨rfl, rfl⟩) | (go_at_call 76; refine (C1.out _ HV.out.1).mono ?_; rintro e w1 ⟨rfl, hb1⟩))
        go_ret2
        exact QuR.no HQ.out hb1
    · have HS := Lib.hid (fun W => hasSuffix_l T [34] W (by omega))
      rw [suf_last, decide_eq_false hg] at HS
      rw [if_neg hg] at hin
      have HQ := Lib.hid (Pt.qu_none hin)
      clear hin hp hT hg
      go_enter Tryz.func48, Tryz.ntmps48
      go_wp2_with (first | (go_at_call 46; refine (HC.out _).mono ?_; rintro e w' ⟨rfl, rfl⟩) | (go_at_call 75; refine (HS.out _).mono ?_; rintro e w' ⟨rfl, rfl⟩))
      go_ret2
      exact QuR.no HQ.out (Below.refl _ _)
end Go.Proofs.YtkjdigojajcgkaaGreatDoor
/- Walks of layer 21: the reader of a report, its box; a line of what was printed, of the end, of the steps. -/
namespace Go.Proofs.YtkjdigojajcgkaaGreatDoor
open Go.RowKit
open Pt (Oc Rs)
set_option linter.unusedVariables false
attribute [local go_sem] ext_mk size_mk toList_mk get_mk take_drop_len take_tail_len ByteArray.mk_append_mk List.append_toArray

/-- nothing below B is other than it was, but the box b -/
structure Tch (B b : Nat) (w w' : World) : Prop where
  os : w'.os = w.os
  tape : w'.tape = w.tape
  output : w'.output = w.output
  size : w.heap.size ≤ w'.heap.size
  block : ∀ k, k < B → k ≠ b → w'.heap[k]? = w.heap[k]?

theorem Tch.refl (B b : Nat) (w : World) : Tch B b w w := ⟨rfl, rfl, rfl, Nat.le_refl _, fun _ _ _ => rfl⟩

theorem Tch.trans {B b : Nat} {x y z : World} (h : Tch B b x y) (k : Tch B b y z) : Tch B b x z :=
  ⟨k.os.trans h.os, k.tape.trans h.tape, k.output.trans h.output, Nat.le_trans h.size k.size, fun i hi hn => (k.block i hi hn).trans (h.block i hi hn)⟩

theorem Tch.of {B b : Nat} {w w' : World} (h : Below B w w') : Tch B b w w' := ⟨h.os, h.tape, h.output, h.size, fun k hk _ => h.block k hk⟩

theorem Tch.below {B b c : Nat} {w w' : World} (h : Tch B b w w') (h1 : c ≤ B) (h2 : c ≤ b) : Below c w w' := ⟨h.os, h.tape, h.output, h.size, fun k hk => h.block k (by omega) (by omega)⟩

theorem Tch.set (B b i : Nat) (w : World) (v : Value) : Tch B b w (w.setCell ⟨b, i, none⟩ v) :=
  ⟨rfl, rfl, rfl, by simp [World.setCell], fun k _ hn => Below.heap_setCell _ _ _ _ (by show k ≠ b; exact hn)⟩

theorem Tch.drew (B b : Nat) (w : World) : Tch B b w w.drew := Tch.of (Below.refl _ _).drew

theorem below_grown {w w' : World} (h : Below w.heap.size w w') : w.grownBy w' none := ⟨h.os, h.tape, h.output, h.size, fun k hk _ => h.block k hk⟩

theorem OwnS.below {w w' : World} {B : Nat} {v : Value} {ls : List (List UInt8)} (h : OwnS w B v ls) (hb : Below w.heap.size w w') : OwnS w' B v ls :=
  World.ownsRow.kept (row := none) h (below_grown hb) (by cases v.ownBlock <;> simp)

/-- the reader's box -/
def RBlk (W : World) (b : Nat) (vo : Value) (st : Int) (x : List UInt8) (n p : Int) : Prop := W.heap[b]? = some (.cells #[vo, .int .i64 st, .string ⟨x.toArray⟩, .int .i64 n, .int .i64 p] 43 (0, 0))

structure RSt (W : World) (B b : Nat) (vo : Value) (r : Rs) : Prop where
  blk : RBlk W b vo r.o.st r.o.exn r.o.steps r.part
  own : OwnS W B vo r.o.out
  lt : b < B
  sz : B ≤ W.heap.size

theorem RSt.below {w w' : World} {B b : Nat} {vo : Value} {r : Rs} (h : RSt w B b vo r) (hb : Below w.heap.size w w') : RSt w' B b vo r :=
  ⟨by unfold RBlk; rw [hb.block b (by have := h.lt; have := h.sz; omega)]; exact h.blk, h.own.below hb, h.lt, Nat.le_trans h.sz hb.size⟩

theorem RBlk.cells {W : World} {b : Nat} {vo : Value} {st : Int} {x : List UInt8} {n p : Int} (h : RBlk W b vo st x n p) :
    (W.cell? ⟨b, 0, none⟩ = some vo ∧ W.cell? ⟨b, 1, none⟩ = some (.int .i64 st) ∧ W.cell? ⟨b, 2, none⟩ = some (.string ⟨x.toArray⟩) ∧ W.cell? ⟨b, 3, none⟩ = some (.int .i64 n) ∧ W.cell? ⟨b, 4, none⟩ = some (.int .i64 p)) ∧
    (W.frozen? ⟨b, 0, none⟩ = false ∧ W.frozen? ⟨b, 1, none⟩ = false ∧ W.frozen? ⟨b, 2, none⟩ = false ∧ W.frozen? ⟨b, 3, none⟩ = false ∧ W.frozen? ⟨b, 4, none⟩ = false) := by
  refine ⟨⟨?_, ?_, ?_, ?_, ?_⟩, frozen_of_row _ _ _ _ _ h, frozen_of_row _ _ _ _ _ h, frozen_of_row _ _ _ _ _ h, frozen_of_row _ _ _ _ _ h, frozen_of_row _ _ _ _ _ h⟩
  all_goals rw [cell_of_row _ _ _ _ _ _ h]; rfl

theorem RBlk.set0 {W : World} {b : Nat} {vo : Value} {st : Int} {x : List UInt8} {n p : Int} (h : RBlk W b vo st x n p) (v : Value) : RBlk (W.setCell ⟨b, 0, none⟩ v) b v st x n p := by
  have := heap_setCell_same (i := 0) _ _ _ _ v h; exact this

theorem RBlk.set1 {W : World} {b : Nat} {vo : Value} {st : Int} {x : List UInt8} {n p : Int} (h : RBlk W b vo st x n p) (v : Int) : RBlk (W.setCell ⟨b, 1, none⟩ (.int .i64 v)) b vo v x n p := by
  have := heap_setCell_same (i := 1) _ _ _ _ (.int .i64 v) h; exact this

theorem RBlk.set2 {W : World} {b : Nat} {vo : Value} {st : Int} {x : List UInt8} {n p : Int} (h : RBlk W b vo st x n p) (v : List UInt8) : RBlk (W.setCell ⟨b, 2, none⟩ (.string ⟨v.toArray⟩)) b vo st v n p := by
  have := heap_setCell_same (i := 2) _ _ _ _ (.string ⟨v.toArray⟩) h; exact this

theorem RBlk.set3 {W : World} {b : Nat} {vo : Value} {st : Int} {x : List UInt8} {n p : Int} (h : RBlk W b vo st x n p) (v : Int) : RBlk (W.setCell ⟨b, 3, none⟩ (.int .i64 v)) b vo st x v p := by
  have := heap_setCell_same (i := 3) _ _ _ _ (.int .i64 v) h; exact this

theorem RBlk.set4 {W : World} {b : Nat} {vo : Value} {st : Int} {x : List UInt8} {n p : Int} (h : RBlk W b vo st x n p) (v : Int) : RBlk (W.setCell ⟨b, 4, none⟩ (.int .i64 v)) b vo st x n v := by
  have := heap_setCell_same (i := 4) _ _ _ _ (.int .i64 v) h; exact this

theorem RBlk.drew {W : World} {b : Nat} {vo : Value} {st : Int} {x : List UInt8} {n p : Int} (h : RBlk W b vo st x n p) : RBlk W.drew b vo st x n p := h

theorem OwnS.set {W : World} {B b i : Nat} {v u : Value} {ls : List (List UInt8)} (h : OwnS W B v ls) (hb : b < B) : OwnS (W.setCell ⟨b, i, none⟩ u) B v ls := ownsRow_setCell_below h (a := ⟨b, i, none⟩) hb u

/-! a line of how it ended -/

theorem stV_eq {s : List UInt8} {k : Int} (h1 : 1 ≤ k) (h5 : k ≤ 5) (h2 : k ≠ 2) (h : Pt.statB k = s) : Pt.stV s = k := by
  subst h; exact (Pt.stV_st (by omega)).1

theorem stV_none {s : List UInt8} (h1 : Pt.statB 1 ≠ s) (h3 : Pt.statB 3 ≠ s) (h4 : Pt.statB 4 ≠ s) (h5 : Pt.statB 5 ≠ s) : Pt.stV s = 0 := by
  unfold Pt.stV; rw [if_neg (Ne.symm h1), if_neg (Ne.symm h3), if_neg (Ne.symm h4), if_neg (Ne.symm h5)]

theorem endK_some {s t : List UInt8} (h : Pt.quB Pt.uncW s = some t) : Pt.endK s = 2 ∧ Pt.endX s = t := by unfold Pt.endK Pt.endX; rw [h]; exact ⟨rfl, rfl⟩

theorem endK_none {s : List UInt8} (h : Pt.quB Pt.uncW s = none) : Pt.endK s = Pt.stV s ∧ Pt.endX s = [] := by unfold Pt.endK Pt.endX; rw [h]; exact ⟨rfl, rfl⟩

/-- what 'end' answers -/
def EndR (w : World) (B b : Nat) (vo : Value) (r : Rs) (s : List UInt8) (e : Ending) (w' : World) : Prop :=
  (Pt.endK s = 0 ∧ e = .returned (.bool false) ∧ Below w.heap.size w w') ∨
  (Pt.endK s ≠ 0 ∧ e = .returned (.bool true) ∧ RSt w' B b vo ⟨{ r.o with st := Pt.endK s, exn := Pt.endX s }, 1⟩ ∧ Tch B b w w')

/-- no status up to a number has this line -/
def EndT (s : List UInt8) (k : Nat) : Prop := 1 ≤ k ∧ ∀ j, 1 ≤ j → j < k → j ≠ 2 → Pt.statB (j : Int) ≠ s

theorem EndT.next {s : List UInt8} {k : Nat} (h : EndT s k) (hn : Pt.statB (k : Int) ≠ s) : EndT s (k + 1) := ⟨by omega, fun j h1 h2 h3 => by
  by_cases e : j = k
  · subst e; exact hn
  · exact h.2 j h1 (by omega) h3⟩

theorem EndT.two {s : List UInt8} (h : EndT s 2) : EndT s 3 := ⟨by omega, fun j h1 h2 h3 => h.2 j h1 (by omega) h3⟩

theorem EndT.none {s : List UInt8} (h : EndT s 6) : Pt.stV s = 0 := stV_none (h.2 1 (by omega) (by omega) (by omega)) (h.2 3 (by omega) (by omega) (by omega)) (h.2 4 (by omega) (by omega) (by omega)) (h.2 5 (by omega) (by omega) (by omega))

set_option maxHeartbeats 2000000 in
theorem send_any (B b : Nat) (vo : Value) (r : Rs) (s : List UInt8) (w : World) (hv : StrVars w) (hr : RSt w B b vo r) (hx : r.o.exn = []) (hs : s.length ≤ 1048576) :
    Calls Tryz.prog 27 #[.pointer (some ⟨b, 0, none⟩), .string ⟨s.toArray⟩] w (EndR w B b vo r s) := by
  have HR := Lib.hid hr
  have HX := Lib.hid hx
  have c1 := squ_unc s w hv hs
  cases hq : Pt.quB Pt.uncW s with
  | some t =>
    rw [hq] at c1
    have C1 := Lib.hid c1
    have HE := Lib.hid (endK_some hq)
    clear c1 hr hv hq hx
    go_enter Tryz.func27, Tryz.ntmps27
    go_wp2_with (go_at_call 48; refine C1.out.mono ?_; rintro e w1 ⟨⟨x, rfl, hx2⟩, hb1⟩; obtain rfl := hx2 t rfl; have hR1 := HR.out.below hb1; obtain ⟨⟨e0, e1, e2, e3, e4⟩, f0, f1, f2, f3, f4⟩ := hR1.blk.cells; simp only [Option.isSome_some])
    go_ret
    exact .inr ⟨by rw [HE.out.1]; decide, rfl, ⟨by rw [HE.out.1, HE.out.2]; exact ((hR1.blk.set1 2).set2 _).set4 1, ((hR1.own.set hR1.lt).set hR1.lt).set hR1.lt, hR1.lt, by simp; exact hR1.sz⟩, (((Tch.of (hb1.mono HR.out.sz)).trans (Tch.set B b 1 _ _)).trans (Tch.set B b 2 _ _)).trans (Tch.set B b 4 _ _)⟩
  | none =>
    rw [hq] at c1
    have C1 := Lib.hid c1
    have HN := Lib.hid (endK_none hq)
    clear c1 hr hv hq hx
    go_enter Tryz.func27, Tryz.ntmps27
    go_wp2_with (go_at_call 48; refine C1.out.mono ?_; rintro e w1 ⟨⟨x, rfl, _⟩, hb1⟩; have hR0 := HR.out.below hb1; simp only [Option.isSome_none])
    go_loopw [7] (fun vi wr => ∃ k : Nat, vi = .int .i64 k ∧ k ≤ 6 ∧ RSt wr B b vo r ∧ Below w.heap.size w wr ∧ EndT s k) (fun vi _ => 6 - (intOf vi).toNat)
    case atStart => exact ⟨1, by go_num, by decide, hR0, hb1, ⟨by decide, fun j h1 h2 => by omega⟩⟩
    case round =>
      obtain ⟨k, rfl, hk6, hR1, hbw, hA⟩ := hrel
      have hk1 := hA.1
      rcases (by omega : k = 1 ∨ k = 2 ∨ k = 3 ∨ k = 4 ∨ k = 5 ∨ k = 6) with rfl | rfl | rfl | rfl | rfl | rfl
      ·
        have c2 := fun W => status_any 1 W
        obtain ⟨S, hS⟩ : ∃ S, Pt.statB 1 = S := ⟨_, rfl⟩
        rw [hS] at c2
        have C2 := Lib.hid c2
        by_cases hSs : S = s
        · have HST := Lib.hid (stV_eq (s := s) (k := 1) (by decide) (by decide) (by decide) (hS.trans hSs))
          have k3 : (S == s) = true := by simp [hSs]
          obtain ⟨⟨e0, e1, e2, e3, e4⟩, f0, f1, f2, f3, f4⟩ := hR1.blk.cells
          clear c2 hS hSs
          go_wp2_with (go_at_call 34; refine (C2.out _).mono ?_; rintro e w' ⟨rfl, rfl⟩)
          go_ret
          exact .inr ⟨by rw [HN.out.1, HST.out]; decide, rfl, ⟨by rw [HN.out.1, HN.out.2, HST.out]; show RBlk _ _ _ _ [] _ _; rw [← HX.out]; exact (hR1.blk.set1 1).set4 1, (hR1.own.set hR1.lt).set hR1.lt, hR1.lt, by simp; exact hR1.sz⟩, ((Tch.of (hbw.mono HR.out.sz)).trans (Tch.set B b 1 _ _)).trans (Tch.set B b 4 _ _)⟩
        · have k3 : (S == s) = false := by simp [hSs]
          have HA2 := Lib.hid (show EndT s (1 + 1) from hA.next (fun e => hSs (hS.symm.trans e)))
          clear c2 hS hSs
          go_wp2_with (go_at_call 34; refine (C2.out _).mono ?_; rintro e w' ⟨rfl, rfl⟩)
          go_roundw
          case rel => exact ⟨1 + 1, by go_num, by decide, hR1, hbw, HA2.out⟩
          case measure => simp [intOf]
      · have HA2 := Lib.hid hA.two
        go_wp2_with fail
        go_roundw
        case rel => exact ⟨3, by go_num, by decide, hR1, hbw, HA2.out⟩
        case measure => simp [intOf]
      ·
        have c2 := fun W => status_any 3 W
        obtain ⟨S, hS⟩ : ∃ S, Pt.statB 3 = S := ⟨_, rfl⟩
        rw [hS] at c2
        have C2 := Lib.hid c2
        by_cases hSs : S = s
        · have HST := Lib.hid (stV_eq (s := s) (k := 3) (by decide) (by decide) (by decide) (hS.trans hSs))
          have k3 : (S == s) = true := by simp [hSs]
          obtain ⟨⟨e0, e1, e2, e3, e4⟩, f0, f1, f2, f3, f4⟩ := hR1.blk.cells
          clear c2 hS hSs
          go_wp2_with (go_at_call 34; refine (C2.out _).mono ?_; rintro e w' ⟨rfl, rfl⟩)
          go_ret
          exact .inr ⟨by rw [HN.out.1, HST.out]; decide, rfl, ⟨by rw [HN.out.1, HN.out.2, HST.out]; show RBlk _ _ _ _ [] _ _; rw [← HX.out]; exact (hR1.blk.set1 3).set4 1, (hR1.own.set hR1.lt).set hR1.lt, hR1.lt, by simp; exact hR1.sz⟩, ((Tch.of (hbw.mono HR.out.sz)).trans (Tch.set B b 1 _ _)).trans (Tch.set B b 4 _ _)⟩
        · have k3 : (S == s) = false := by simp [hSs]
          have HA2 := Lib.hid (show EndT s (3 + 1) from hA.next (fun e => hSs (hS.symm.trans e)))
          clear c2 hS hSs
          go_wp2_with (go_at_call 34; refine (C2.out _).mono ?_; rintro e w' ⟨rfl, rfl⟩)
          go_roundw
          case rel => exact ⟨3 + 1, by go_num, by decide, hR1, hbw, HA2.out⟩
          case measure => simp [intOf]
      ·
        have c2 := fun W => status_any 4 W
        obtain ⟨S, hS⟩ : ∃ S, Pt.statB 4 = S := ⟨_, rfl⟩
        rw [hS] at c2
        have C2 := Lib.hid c2
        by_cases hSs : S = s
        · have HST := Lib.hid (stV_eq (s := s) (k := 4) (by decide) (by decide) (by decide) (hS.trans hSs))
          have k3 : (S == s) = true := by simp [hSs]
          obtain ⟨⟨e0, e1, e2, e3, e4⟩, f0, f1, f2, f3, f4⟩ := hR1.blk.cells
          clear c2 hS hSs
          go_wp2_with (go_at_call 34; refine (C2.out _).mono ?_; rintro e w' ⟨rfl, rfl⟩)
          go_ret
          exact .inr ⟨by rw [HN.out.1, HST.out]; decide, rfl, ⟨by rw [HN.out.1, HN.out.2, HST.out]; show RBlk _ _ _ _ [] _ _; rw [← HX.out]; exact (hR1.blk.set1 4).set4 1, (hR1.own.set hR1.lt).set hR1.lt, hR1.lt, by simp; exact hR1.sz⟩, ((Tch.of (hbw.mono HR.out.sz)).trans (Tch.set B b 1 _ _)).trans (Tch.set B b 4 _ _)⟩
        · have k3 : (S == s) = false := by simp [hSs]
          have HA2 := Lib.hid (show EndT s (4 + 1) from hA.next (fun e => hSs (hS.symm.trans e)))
          clear c2 hS hSs
          go_wp2_with (go_at_call 34; refine (C2.out _).mono ?_; rintro e w' ⟨rfl, rfl⟩)
          go_roundw
          case rel => exact ⟨4 + 1, by go_num, by decide, hR1, hbw, HA2.out⟩
          case measure => simp [intOf]
      ·
        have c2 := fun W => status_any 5 W
        obtain ⟨S, hS⟩ : ∃ S, Pt.statB 5 = S := ⟨_, rfl⟩
        rw [hS] at c2
        have C2 := Lib.hid c2
        by_cases hSs : S = s
        · have HST := Lib.hid (stV_eq (s := s) (k := 5) (by decide) (by decide) (by decide) (hS.trans hSs))
          have k3 : (S == s) = true := by simp [hSs]
          obtain ⟨⟨e0, e1, e2, e3, e4⟩, f0, f1, f2, f3, f4⟩ := hR1.blk.cells
          clear c2 hS hSs
          go_wp2_with (go_at_call 34; refine (C2.out _).mono ?_; rintro e w' ⟨rfl, rfl⟩)
          go_ret
          exact .inr ⟨by rw [HN.out.1, HST.out]; decide, rfl, ⟨by rw [HN.out.1, HN.out.2, HST.out]; show RBlk _ _ _ _ [] _ _; rw [← HX.out]; exact (hR1.blk.set1 5).set4 1, (hR1.own.set hR1.lt).set hR1.lt, hR1.lt, by simp; exact hR1.sz⟩, ((Tch.of (hbw.mono HR.out.sz)).trans (Tch.set B b 1 _ _)).trans (Tch.set B b 4 _ _)⟩
        · have k3 : (S == s) = false := by simp [hSs]
          have HA2 := Lib.hid (show EndT s (5 + 1) from hA.next (fun e => hSs (hS.symm.trans e)))
          clear c2 hS hSs
          go_wp2_with (go_at_call 34; refine (C2.out _).mono ?_; rintro e w' ⟨rfl, rfl⟩)
          go_roundw
          case rel => exact ⟨5 + 1, by go_num, by decide, hR1, hbw, HA2.out⟩
          case measure => simp [intOf]
      · have HZ := Lib.hid hA.none
        go_wp2_with fail
        go_ret
        exact .inl ⟨by rw [HN.out.1, HZ.out], rfl, hbw⟩
end Go.Proofs.YtkjdigojajcgkaaGreatDoor

/- Walks of layer 21: a line of steps, a line of what was printed, in the program. -/
namespace Go.Proofs.YtkjdigojajcgkaaGreatDoor
open Go.RowKit
open Pt (Oc Rs)
set_option linter.unusedVariables false
attribute [local go_sem] ext_mk size_mk toList_mk get_mk take_drop_len take_tail_len ByteArray.mk_append_mk List.append_toArray

theorem stepV_no {s : List UInt8} (h : Pt.stepW.isPrefixOf s = false) : Pt.stepV s = -1 := by unfold Pt.stepV; rw [if_neg (by rw [h]; simp)]

theorem stepV_bad {s T : List UInt8} (hT : s.drop 6 = T) (h : Pt.numOk T = false) : Pt.stepV s = -1 := by unfold Pt.stepV; rw [hT, h, if_neg (by simp)]

theorem stepV_ok {s T : List UInt8} (hp : Pt.stepW.isPrefixOf s = true) (hT : s.drop 6 = T) (h : Pt.numOk T = true) : Pt.stepV s = Fx.conV T := by unfold Pt.stepV; rw [hT, h, if_pos ⟨hp, rfl⟩]

theorem numOk_iff (T : List UInt8) : Pt.numOk T = true ↔ Fx.conE T = 0 ∧ Fx.textE (Fx.conV T) = 0 ∧ Fx.textB (Fx.conV T) = T ∧ 0 ≤ Fx.conV T := by unfold Pt.numOk; simp [and_assoc]

theorem conV_bd (T : List UInt8) : -4611686018427387904 ≤ Fx.conV T ∧ Fx.conV T ≤ 4611686018427387903 ∨ Fx.conE T ≠ 0 := by
  by_cases h : Fx.conE T = 0
  · left
    unfold Fx.conE at h; unfold Fx.conV
    (repeat' split) <;> (repeat' split at h) <;> simp_all [Fx.sgnV, Fx.sgnE, Fx.outV, Fx.outE, Fx.rtB] <;> omega
  · exact .inr h

/-- what 'steps' answers -/
def StepR (w : World) (B b : Nat) (vo : Value) (r : Rs) (s : List UInt8) (e : Ending) (w' : World) : Prop :=
  (¬ (r.part = 1 ∧ 0 ≤ Pt.stepV s) ∧ e = .returned (.bool false) ∧ Below w.heap.size w w') ∨
  ((r.part = 1 ∧ 0 ≤ Pt.stepV s) ∧ e = .returned (.bool true) ∧ RSt w' B b vo ⟨{ r.o with steps := Pt.stepV s }, 2⟩ ∧ Tch B b w w')

set_option maxHeartbeats 2000000 in
theorem ssteps_any (B b : Nat) (vo : Value) (r : Rs) (s : List UInt8) (w : World) (hv : PortVars w) (hr : RSt w B b vo r) (hs : s.length ≤ 1048576) :
    Calls Tryz.prog 25 #[.pointer (some ⟨b, 0, none⟩), .string ⟨s.toArray⟩] w (StepR w B b vo r s) := by
  have HV := Lib.hid hv
  obtain ⟨⟨e0, e1, e2, e3, e4⟩, f0, f1, f2, f3, f4⟩ := hr.blk.cells
  clear hv
  cases hp : List.isPrefixOf [115, 116, 101, 112, 115, 32] s
  · have HS := Lib.hid (show ¬ (r.part = 1 ∧ 0 ≤ Pt.stepV s) by rw [stepV_no hp]; omega)
    have HC := Lib.hid (fun W => cut_no hp W)
    clear hp
    go_enter Tryz.func25, Tryz.ntmps25
    go_wp2_with (go_at_call 46; refine (HC.out _).mono ?_; rintro e w' ⟨rfl, rfl⟩)
    go_ret
    exact .inl ⟨HS.out, rfl, Below.refl _ _⟩
  · have HC := Lib.hid (fun W => cut_yes hp W)
    obtain ⟨T, hT⟩ : ∃ T, s.drop 6 = T := ⟨_, rfl⟩
    have hTl : T.length ≤ 1048576 := by rw [← hT]; simp; omega
    rw [show ([115, 116, 101, 112, 115, 32] : List UInt8).length = 6 from rfl, hT] at HC
    by_cases hp1 : r.part = 1
    · have kp : (r.part != 1) = false := by simp [hp1]
      have kq : (r.part == 1) = true := by simp [hp1]
      have c1 := fun W => constant_any T W (by omega)
      have c2 := fun W h => text_any (Fx.conV T) W h
      obtain ⟨V, hV⟩ : ∃ V, Fx.conV T = V := ⟨_, rfl⟩
      obtain ⟨E1, hE1⟩ : ∃ E, Fx.conE T = E := ⟨_, rfl⟩
      obtain ⟨B2, hB2⟩ : ∃ X, Fx.textB V = X := ⟨_, rfl⟩
      obtain ⟨E2, hE2⟩ : ∃ X, Fx.textE V = X := ⟨_, rfl⟩
      rw [hV] at c2
      by_cases q1 : E1 = 0
      · by_cases q2 : E2 = 0
        · by_cases q3 : B2 = T
          · by_cases q4 : V < 0
            · have k1 : (E1 == 0) = true := by simp [q1]
              have k2 : (E2 == 0) = true := by simp [q2]
              have k3 : (B2 == T) = true := by simp [q3]
              have k4 : decide (V < 0) = true := decide_eq_true q4
              have q5 := q3.symm
              subst q1 q2 q5
              have HS := Lib.hid (show ¬ (r.part = 1 ∧ 0 ≤ Pt.stepV s) by rw [stepV_bad hT (Bool.eq_false_iff.2 (fun h => (fun (h : _) => absurd h.2.2.2 (by rw [hV]; omega)) ((numOk_iff T).1 h)))]; omega)
              rw [hE1, hV] at c1
              rw [hE2, hB2] at c2
              have C1 := Lib.hid c1
              have C2 := Lib.hid c2
              clear c1 c2 hT hp hE1 hV hE2 hB2 hp1
              go_enter Tryz.func25, Tryz.ntmps25
              go_wp2_with (first | (go_at_call 46; refine (HC.out _).mono ?_; rintro e w' ⟨rfl, rfl⟩) | (go_at_call 47; refine (C1.out _).mono ?_; rintro e w1 ⟨rfl, hb1⟩; have hR1 := hr.below hb1; obtain ⟨⟨g0, g1, g2, g3, g4⟩, h0, h1, h2, h3, h4⟩ := hR1.blk.cells) | (go_at_call 37; refine (C2.out _ (HV.out.below hb1).1).mono ?_; rintro e w2 ⟨rfl, hb2⟩; have hR2 := hR1.below hb2; obtain ⟨⟨m0, m1, m2, m3, m4⟩, n0, n1, n2, n3, n4⟩ := hR2.blk.cells))
              go_ret
              exact .inl ⟨HS.out, rfl, hb1.trans (hb2.mono hb1.size)⟩
            · have hok : Pt.numOk T = true := (numOk_iff T).2 ⟨by rw [hE1, q1], by rw [hV, hE2, q2], by rw [hV, hB2, q3], by rw [hV]; omega⟩
              have HS := Lib.hid (show Pt.stepV s = V by rw [stepV_ok hp hT hok, hV])
              have k4 : decide (V < 0) = false := decide_eq_false q4
              have HP := Lib.hid hp1
              have hV0 : 0 ≤ V := by omega
              have hVb : V ≤ 4611686018427387903 := by
                rcases conV_bd T with h | h
                · rw [hV] at h; exact h.2
                · rw [hE1, q1] at h; exact absurd rfl h
              have q5 := q3.symm
              subst q1 q2 q5
              rw [hE1, hV] at c1
              rw [hE2, hB2] at c2
              have C1 := Lib.hid c1
              have C2 := Lib.hid c2
              clear c1 c2 hT hp hE1 hV hE2 hB2 hp1 hok q4
              go_enter Tryz.func25, Tryz.ntmps25
              go_wp2_with (first | (go_at_call 46; refine (HC.out _).mono ?_; rintro e w' ⟨rfl, rfl⟩) | (go_at_call 47; refine (C1.out _).mono ?_; rintro e w1 ⟨rfl, hb1⟩; have hR1 := hr.below hb1; obtain ⟨⟨g0, g1, g2, g3, g4⟩, h0, h1, h2, h3, h4⟩ := hR1.blk.cells) | (go_at_call 37; refine (C2.out _ (HV.out.below hb1).1).mono ?_; rintro e w2 ⟨rfl, hb2⟩; have hR2 := hR1.below hb2; obtain ⟨⟨m0, m1, m2, m3, m4⟩, n0, n1, n2, n3, n4⟩ := hR2.blk.cells))
              go_ret
              exact .inr ⟨⟨HP.out, by rw [HS.out]; exact hV0⟩, rfl, ⟨by rw [HS.out]; exact (hR2.blk.set3 V).set4 2, (hR2.own.set hR2.lt).set hR2.lt, hR2.lt, by simp; exact hR2.sz⟩, ((Tch.of ((hb1.trans (hb2.mono hb1.size)).mono hr.sz)).trans (Tch.set B b 3 _ _)).trans (Tch.set B b 4 _ _)⟩
          · have k3 : (B2 == T) = false := by simp [q3]
            have k4 : (B2 != T) = true := by simp [q3]
            subst q1 q2
            have HS := Lib.hid (show ¬ (r.part = 1 ∧ 0 ≤ Pt.stepV s) by rw [stepV_bad hT (Bool.eq_false_iff.2 (fun h => (fun (h : _) => q3 (by rw [← hB2, ← hV]; exact h.2.2.1)) ((numOk_iff T).1 h)))]; omega)
            rw [hE1, hV] at c1
            rw [hE2, hB2] at c2
            have C1 := Lib.hid c1
            have C2 := Lib.hid c2
            clear c1 c2 hT hp hE1 hV hE2 hB2 hp1
            go_enter Tryz.func25, Tryz.ntmps25
            go_wp2_with (first | (go_at_call 46; refine (HC.out _).mono ?_; rintro e w' ⟨rfl, rfl⟩) | (go_at_call 47; refine (C1.out _).mono ?_; rintro e w1 ⟨rfl, hb1⟩; have hR1 := hr.below hb1; obtain ⟨⟨g0, g1, g2, g3, g4⟩, h0, h1, h2, h3, h4⟩ := hR1.blk.cells) | (go_at_call 37; refine (C2.out _ (HV.out.below hb1).1).mono ?_; rintro e w2 ⟨rfl, hb2⟩; have hR2 := hR1.below hb2; obtain ⟨⟨m0, m1, m2, m3, m4⟩, n0, n1, n2, n3, n4⟩ := hR2.blk.cells))
            go_ret
            exact .inl ⟨HS.out, rfl, hb1.trans (hb2.mono hb1.size)⟩
        · have k3 : (E2 == 0) = false := by simp [q2]
          have k4 : (E2 != 0) = true := by simp [q2]
          subst q1
          have HS := Lib.hid (show ¬ (r.part = 1 ∧ 0 ≤ Pt.stepV s) by rw [stepV_bad hT (Bool.eq_false_iff.2 (fun h => (fun (h : _) => q2 (by rw [← hE2, ← hV]; exact h.2.1)) ((numOk_iff T).1 h)))]; omega)
          rw [hE1, hV] at c1
          rw [hE2, hB2] at c2
          have C1 := Lib.hid c1
          have C2 := Lib.hid c2
          clear c1 c2 hT hp hE1 hV hE2 hB2 hp1
          go_enter Tryz.func25, Tryz.ntmps25
          go_wp2_with (first | (go_at_call 46; refine (HC.out _).mono ?_; rintro e w' ⟨rfl, rfl⟩) | (go_at_call 47; refine (C1.out _).mono ?_; rintro e w1 ⟨rfl, hb1⟩; have hR1 := hr.below hb1; obtain ⟨⟨g0, g1, g2, g3, g4⟩, h0, h1, h2, h3, h4⟩ := hR1.blk.cells) | (go_at_call 37; refine (C2.out _ (HV.out.below hb1).1).mono ?_; rintro e w2 ⟨rfl, hb2⟩; have hR2 := hR1.below hb2; obtain ⟨⟨m0, m1, m2, m3, m4⟩, n0, n1, n2, n3, n4⟩ := hR2.blk.cells))
          go_ret
          exact .inl ⟨HS.out, rfl, hb1.trans (hb2.mono hb1.size)⟩
      · have k3 : (E1 == 0) = false := by simp [q1]
        have k4 : (E1 != 0) = true := by simp [q1]
        have HS := Lib.hid (show ¬ (r.part = 1 ∧ 0 ≤ Pt.stepV s) by rw [stepV_bad hT (Bool.eq_false_iff.2 (fun h => (fun (h : _) => q1 (by rw [← hE1]; exact h.1)) ((numOk_iff T).1 h)))]; omega)
        rw [hE1, hV] at c1
        rw [hE2, hB2] at c2
        have C1 := Lib.hid c1
        have C2 := Lib.hid c2
        clear c1 c2 hT hp hE1 hV hE2 hB2 hp1
        go_enter Tryz.func25, Tryz.ntmps25
        go_wp2_with (first | (go_at_call 46; refine (HC.out _).mono ?_; rintro e w' ⟨rfl, rfl⟩) | (go_at_call 47; refine (C1.out _).mono ?_; rintro e w1 ⟨rfl, hb1⟩; have hR1 := hr.below hb1; obtain ⟨⟨g0, g1, g2, g3, g4⟩, h0, h1, h2, h3, h4⟩ := hR1.blk.cells) | (go_at_call 37; refine (C2.out _ (HV.out.below hb1).1).mono ?_; rintro e w2 ⟨rfl, hb2⟩; have hR2 := hR1.below hb2; obtain ⟨⟨m0, m1, m2, m3, m4⟩, n0, n1, n2, n3, n4⟩ := hR2.blk.cells))
        go_ret
        exact .inl ⟨HS.out, rfl, hb1.trans (hb2.mono hb1.size)⟩
    · have HS := Lib.hid (show ¬ (r.part = 1 ∧ 0 ≤ Pt.stepV s) from fun h => hp1 h.1)
      have kp : (r.part != 1) = true := by simp [hp1]
      have kq : (r.part == 1) = false := by simp [hp1]
      clear hT hp hp1
      go_enter Tryz.func25, Tryz.ntmps25
      go_wp2_with (go_at_call 46; refine (HC.out _).mono ?_; rintro e w' ⟨rfl, rfl⟩)
      go_ret
      exact .inl ⟨HS.out, rfl, Below.refl _ _⟩
end Go.Proofs.YtkjdigojajcgkaaGreatDoor

/- Walks of layer 21: a line of what was printed; one line, in the program. -/
namespace Go.Proofs.YtkjdigojajcgkaaGreatDoor
open Go.RowKit
open Pt (Oc Rs)
set_option linter.unusedVariables false
attribute [local go_sem] ext_mk size_mk toList_mk get_mk take_drop_len take_tail_len ByteArray.mk_append_mk List.append_toArray

/-- what 'out' answers -/
def OutR (w : World) (B b : Nat) (vo : Value) (r : Rs) (s : List UInt8) (e : Ending) (w' : World) : Prop :=
  (Pt.quB Pt.outW s = none ∧ e = .returned (.bool false) ∧ Below w.heap.size w w') ∨
  (∃ t, Pt.quB Pt.outW s = some t ∧ e = .returned (.bool true) ∧ (∃ v', RSt w' B b v' ⟨{ r.o with out := r.o.out ++ [t] }, r.part⟩) ∧ Tch B b w w')

theorem RBlk.alloc {W : World} {b : Nat} {vo : Value} {st : Int} {x : List UInt8} {n p : Int} (h : RBlk W b vo st x n p) (o : Obj) : RBlk (W.alloc o) b vo st x n p := by
  have hlt : b < W.heap.size := by
    rcases Nat.lt_or_ge b W.heap.size with g | g
    · exact g
    · unfold RBlk at h; rw [Array.getElem?_eq_none g] at h; cases h
  unfold RBlk at *
  rw [((Below.refl W.heap.size W).alloc (Nat.le_refl _) o).block b hlt]; exact h

theorem strCells_app (ls : List (List UInt8)) (t : List UInt8) : strCells (ls ++ [t]) = strCells ls ++ [.string ⟨t.toArray⟩] := by simp [strCells]

theorem strCells_len (ls : List (List UInt8)) : (strCells ls).length = ls.length := by simp [strCells]

/-- behind the append: the box as it was, and what it will be -/
theorem out_behind {W V : World} {B b g cap : Nat} {vo : Value} {r : Rs} {t : List UInt8} {T : TypeId} (h : RSt W B b vo r)
    (hown : V.ownsRow B 9 1 (.slice (some ⟨g, 0, none⟩) (r.o.out.length + 1) cap) (r.o.out.length + 1) (strCells r.o.out ++ [.string ⟨t.toArray⟩]))
    (hg : (W.alloc (.cells #[.string ⟨t.toArray⟩] T)).grownBy V vo.ownBlock) :
    (V.cell? ⟨b, 0, none⟩ = some vo ∧ V.frozen? ⟨b, 0, none⟩ = false) ∧ RSt (V.setCell ⟨b, 0, none⟩ (.slice (some ⟨g, 0, none⟩) (r.o.out.length + 1) cap)) B b (.slice (some ⟨g, 0, none⟩) (r.o.out.length + 1) cap) ⟨{ r.o with out := r.o.out ++ [t] }, r.part⟩ ∧ Tch B b W (V.setCell ⟨b, 0, none⟩ (.slice (some ⟨g, 0, none⟩) (r.o.out.length + 1) cap)) := by
  have hlt := h.lt
  have hsz := h.sz
  have hne : ∀ k, k < B → some k ≠ vo.ownBlock := fun k hk e => by have := (h.own.lt k e.symm).1; omega
  have hb0 : Below W.heap.size W (W.alloc (.cells #[.string ⟨t.toArray⟩] T)) := (Below.refl _ _).alloc (Nat.le_refl _) _
  have hblk : RBlk V b vo r.o.st r.o.exn r.o.steps r.part := by
    have := h.blk.alloc (.cells #[.string ⟨t.toArray⟩] T)
    unfold RBlk at *
    rw [hg.block b (by simp; omega) (hne b hlt)]; exact this
  have hV : W.heap.size ≤ V.heap.size := Nat.le_trans hb0.size hg.size
  refine ⟨⟨hblk.cells.1.1, hblk.cells.2.1⟩, ⟨hblk.set0 _, ?_, hlt, by simp; omega⟩, ?_⟩
  · refine OwnS.set (b := b) ?_ hlt
    unfold OwnS
    rw [strCells_app, List.length_append]; exact hown
  · refine Tch.trans (Tch.of (B := B) (b := b) (hb0.mono hsz)) (Tch.trans ⟨hg.os, hg.tape, hg.output, hg.size, fun k hk hn => hg.block k (by simp; omega) (hne k hk)⟩ (Tch.set B b 0 V _))

theorem app_box {w : World} {ops : Array Oper} {rest : List Oper} {o : Oper} {a : Act} {Q : Exit → Act → World → Prop} {B b : Nat} {vo : Value} {r : Rs} (hr : RSt w B b vo r) (hgd : o.guard = none) (sl x : Operand)
    (ho : o.op = .call { callee := .builtin .append, args := #[sl, x], argTypes := #[22, 22] })
    (t : List UInt8) (T : TypeId) (hs : a.eval sl = vo) (hx : a.eval x = .slice (some ⟨w.heap.size, 0, none⟩) 1 1)
    (hb : r.o.out.length + 1 ≤ 8796093022208)
    (h : ∀ g n cap V, V.cell? ⟨b, 0, none⟩ = some vo → V.frozen? ⟨b, 0, none⟩ = false → RSt (V.setCell ⟨b, 0, none⟩ (.slice (some ⟨g, 0, none⟩) n cap)) B b (.slice (some ⟨g, 0, none⟩) n cap) ⟨{ r.o with out := r.o.out ++ [t] }, r.part⟩ → Tch B b w (V.setCell ⟨b, 0, none⟩ (.slice (some ⟨g, 0, none⟩) n cap)) → wpList Tryz.prog ops Q rest (a.put o.dst (.slice (some ⟨g, 0, none⟩) n cap)) V) : wpList Tryz.prog ops Q (o :: rest) a (w.alloc (.cells #[.string ⟨t.toArray⟩] T)) := by
  obtain ⟨i0, hi, hz0, hz1, hz2⟩ := info_parts infoStr
  have hown1 : OwnS (w.alloc (.cells #[.string ⟨t.toArray⟩] T)) B vo r.o.out := hr.own.below ((Below.refl _ _).alloc (Nat.le_refl _) _)
  refine wpList_append_lies _ hgd sl x 22 ho B 9 i0 (.string ByteArray.empty) 1 16 Tryz.underlying22 hi hz0 hz1 hz2 rfl (by decide) vo r.o.out.length (strCells r.o.out) hs hown1 ⟨w.heap.size, 0, none⟩ 1 1 [.string ⟨t.toArray⟩] hx rfl ?_ (by intro u hu; simp at hu; subst hu; rfl) (by decide) ?_ ?_ (by have := hr.sz; simp; omega) _ rfl ?_
  · intro j u hj
    match j, hj with
    | 0, hj => simp at hj; subst hj; simp [Addr.add]
    | j + 1, hj => simp at hj
  · unfold maxLen; omega
  · omega
  · intro g cap V h1 h2 _ _
    obtain ⟨⟨a1, a2⟩, a3, a4⟩ := out_behind hr h1 h2
    exact h g _ cap V a1 a2 a3 a4

set_option maxHeartbeats 2000000 in
set_option maxRecDepth 8000 in
theorem sout_any (B b : Nat) (vo : Value) (r : Rs) (s : List UInt8) (w : World) (hv : StrVars w) (hr : RSt w B b vo r) (hn : r.o.out.length ≤ 1048577) (hs : s.length ≤ 1048576) :
    Calls Tryz.prog 26 #[.pointer (some ⟨b, 0, none⟩), .string ⟨s.toArray⟩] w (OutR w B b vo r s) := by
  have HR := Lib.hid hr
  have HN := Lib.hid (show r.o.out.length + 1 ≤ 8796093022208 by omega)
  clear hn
  have c1 := squ_out s w hv hs
  cases hq : Pt.quB Pt.outW s with
  | none =>
    rw [hq] at c1
    have C1 := Lib.hid c1
    have HQ := Lib.hid hq
    clear c1 hr hv hq hs
    go_enter Tryz.func26, Tryz.ntmps26
    go_wp2_with (go_at_call 48; refine C1.out.mono ?_; rintro e w1 ⟨⟨x, rfl, _⟩, hb1⟩; simp only [Option.isSome_none])
    go_ret
    exact .inl ⟨HQ.out, rfl, hb1⟩
  | some t =>
    rw [hq] at c1
    have C1 := Lib.hid c1
    have HQ := Lib.hid hq
    clear c1 hr hv hq hs
    go_enter Tryz.func26, Tryz.ntmps26
    go_wp2_with (first | (go_at_call 48; refine C1.out.mono ?_; rintro e w1 ⟨⟨x, rfl, hx2⟩, hb1⟩; obtain rfl := hx2 t rfl; have hR1 := HR.out.below hb1; obtain ⟨⟨e0, e1, e2, e3, e4⟩, f0, f1, f2, f3, f4⟩ := hR1.blk.cells; simp only [Option.isSome_some]) | (at_builtin; refine app_box hR1 rfl _ _ rfl x _ rfl rfl HN.out ?_; intro g n cap V z0 z1 hR2 hT2))
    go_ret
    exact .inr ⟨x, HQ.out, rfl, ⟨_, hR2⟩, (Tch.of (hb1.mono HR.out.sz)).trans hT2⟩
end Go.Proofs.YtkjdigojajcgkaaGreatDoor

/- Walks of layer 21: one line of a report, in the program. -/
namespace Go.Proofs.YtkjdigojajcgkaaGreatDoor
open Go.RowKit
open Pt (Oc Rs)
set_option linter.unusedVariables false
attribute [local go_sem] ext_mk size_mk toList_mk get_mk take_drop_len take_tail_len ByteArray.mk_append_mk List.append_toArray

/-- what 'line' answers -/
def LineR (w : World) (B b : Nat) (r : Rs) (s : List UInt8) (e : Ending) (w' : World) : Prop :=
  (Pt.lineV r s = none ∧ e = .returned (.bool false) ∧ Tch B b w w') ∨
  (∃ r', Pt.lineV r s = some r' ∧ e = .returned (.bool true) ∧ (∃ v', RSt w' B b v' r') ∧ Tch B b w w')

theorem line_steps {w w' : World} {B b : Nat} {vo : Value} {r : Rs} {s : List UInt8} {e : Ending} (h : StepR w B b vo r s e w') (h0 : r.part ≠ 0) (hB : B ≤ w.heap.size) : LineR w B b r s e w' := by
  rcases h with ⟨h1, he, hb⟩ | ⟨⟨h1, h2⟩, he, hr, ht⟩
  · refine .inl ⟨?_, he, Tch.of (hb.mono hB)⟩
    unfold Pt.lineV; rw [if_neg h0]
    by_cases hp : r.part = 1
    · rw [if_pos hp, if_pos (by omega)]
    · rw [if_neg hp]
  · refine .inr ⟨_, ?_, he, ⟨_, hr⟩, ht⟩
    unfold Pt.lineV; rw [if_neg h0, if_pos h1, if_neg (by omega)]

theorem line_out {r : Rs} {s t : List UInt8} (h0 : r.part = 0) (h : Pt.quB Pt.outW s = some t) : Pt.lineV r s = some ⟨{ r.o with out := r.o.out ++ [t] }, r.part⟩ := by
  unfold Pt.lineV; rw [if_pos h0, h, h0]

theorem line_end {r : Rs} {s : List UInt8} (h0 : r.part = 0) (h : Pt.quB Pt.outW s = none) : Pt.lineV r s = if Pt.endK s = 0 then none else some ⟨{ r.o with st := Pt.endK s, exn := Pt.endX s }, 1⟩ := by
  unfold Pt.lineV; rw [if_pos h0, h]

set_option maxHeartbeats 2000000 in
theorem sline_any (B b : Nat) (vo : Value) (r : Rs) (s : List UInt8) (w : World) (hv : PortVars w) (hr : RSt w B b vo r) (hx : r.part = 0 → r.o.exn = []) (hp0 : 0 ≤ r.part) (hn : r.o.out.length ≤ 1048577) (hs : s.length ≤ 1048576) :
    Calls Tryz.prog 14 #[.pointer (some ⟨b, 0, none⟩), .string ⟨s.toArray⟩] w (LineR w B b r s) := by
  have HV := Lib.hid hv
  have HR := Lib.hid hr
  obtain ⟨⟨e0, e1, e2, e3, e4⟩, f0, f1, f2, f3, f4⟩ := hr.blk.cells
  by_cases hp : r.part = 0
  · have k1 : decide (0 < r.part) = false := decide_eq_false (by omega)
    have HX := Lib.hid (hx hp)
    have HP := Lib.hid hp
    have HN := Lib.hid hn
    have HS := Lib.hid hs
    clear hv hx hp0 hn hs hr
    go_enter Tryz.func14, Tryz.ntmps14
    go_wp2_with fail
    go_loopw [21] (fun vi wr => ∃ k : Nat, vi = .int .i64 k ∧ k ≤ 2 ∧ (1 ≤ k → Pt.quB Pt.outW s = none) ∧ (2 ≤ k → Pt.endK s = 0) ∧ RSt wr B b vo r ∧ Below w.heap.size w wr ∧ wr.cell? ⟨w.heap.size, 0, none⟩ = some (.func (.func 26) #[.pointer (some ⟨b, 0, none⟩)] #[]) ∧ wr.cell? ⟨w.heap.size, 1, none⟩ = some (.func (.func 27) #[.pointer (some ⟨b, 0, none⟩)] #[]) ∧ w.heap.size < wr.heap.size) (fun vi _ => 2 - (intOf vi).toNat)
    case atStart => exact ⟨0, rfl, by decide, fun h => by omega, fun h => by omega, HR.out.below ((Below.refl _ _).alloc (Nat.le_refl _) _), (Below.refl _ _).alloc (Nat.le_refl _) _, by simp, by simp, by simp⟩
    case round =>
      obtain ⟨k, rfl, hk, h1, h2, hR1, hbw, c0, c1, hsz⟩ := hrel
      have H1 := Lib.hid h1
      have H2 := Lib.hid h2
      have HV1 := Lib.hid (HV.out.below hbw)
      clear h1 h2
      rcases (by omega : k = 0 ∨ k = 1 ∨ k = 2) with rfl | rfl | rfl
      · have C := Lib.hid (sout_any B b vo r s wr HV1.out.2 hR1 HN.out HS.out)
        go_wp2_with (go_at_call 26; refine C.out.mono ?_; intro e w1 hO; rcases hO with ⟨hq, rfl, hb1⟩ | ⟨t, hq, rfl, hR2, hT2⟩)
        · have HQ := Lib.hid hq
          have d0 : w1.cell? ⟨w.heap.size, 0, none⟩ = some (.func (.func 26) #[.pointer (some ⟨b, 0, none⟩)] #[]) := by rw [hb1.cell (p := ⟨w.heap.size, 0, none⟩) hsz]; exact c0
          have d1 : w1.cell? ⟨w.heap.size, 1, none⟩ = some (.func (.func 27) #[.pointer (some ⟨b, 0, none⟩)] #[]) := by rw [hb1.cell (p := ⟨w.heap.size, 1, none⟩) hsz]; exact c1
          clear hq
          go_wp2_with fail
          go_roundw
          case rel => exact ⟨1, rfl, by decide, fun _ => HQ.out, fun h => by omega, hR1.below hb1, hbw.trans (hb1.mono hbw.size), d0, d1, Nat.lt_of_lt_of_le hsz hb1.size⟩
          case measure => simp [intOf]
        · have HQ := Lib.hid hq
          clear hq
          go_wp2_with fail
          go_ret
          exact .inr ⟨_, line_out HP.out HQ.out, rfl, hR2, (Tch.of (hbw.mono HR.out.sz)).trans hT2⟩
      · have C := Lib.hid (send_any B b vo r s wr HV1.out.2 hR1 HX.out HS.out)
        go_wp2_with (go_at_call 27; refine C.out.mono ?_; intro e w1 hO; rcases hO with ⟨hq, rfl, hb1⟩ | ⟨hq, rfl, hR2, hT2⟩)
        · have HQ := Lib.hid hq
          have d0 : w1.cell? ⟨w.heap.size, 0, none⟩ = some (.func (.func 26) #[.pointer (some ⟨b, 0, none⟩)] #[]) := by rw [hb1.cell (p := ⟨w.heap.size, 0, none⟩) hsz]; exact c0
          have d1 : w1.cell? ⟨w.heap.size, 1, none⟩ = some (.func (.func 27) #[.pointer (some ⟨b, 0, none⟩)] #[]) := by rw [hb1.cell (p := ⟨w.heap.size, 1, none⟩) hsz]; exact c1
          clear hq
          go_wp2_with fail
          go_roundw
          case rel => exact ⟨2, rfl, by decide, fun _ => H1.out (by decide), fun _ => HQ.out, hR1.below hb1, hbw.trans (hb1.mono hbw.size), d0, d1, Nat.lt_of_lt_of_le hsz hb1.size⟩
          case measure => simp [intOf]
        · have HQ := Lib.hid hq
          clear hq
          go_wp2_with fail
          go_ret
          exact .inr ⟨_, by rw [line_end HP.out (H1.out (by decide)), if_neg HQ.out], rfl, ⟨_, hR2⟩, (Tch.of (hbw.mono HR.out.sz)).trans hT2⟩
      · go_wp2_with fail
        go_ret
        exact .inl ⟨by rw [line_end HP.out (H1.out (by decide)), if_pos (H2.out (by decide))], rfl, Tch.of (hbw.mono HR.out.sz)⟩
  · have k1 : decide (0 < r.part) = true := decide_eq_true (by omega)
    have HP := Lib.hid hp
    have C := Lib.hid (ssteps_any B b vo r s w hv hr hs)
    clear hv hx hp0 hn hs hr hp
    go_enter Tryz.func14, Tryz.ntmps14
    go_wp2_with (go_at_call 25; refine C.out.mono ?_; intro e w1 hS; have HS1 := Lib.hid hS; rcases hS with ⟨_, rfl, _⟩ | ⟨_, rfl, _, _⟩)
    all_goals go_ret
    all_goals exact line_steps HS1.out HP.out HR.out.sz
end Go.Proofs.YtkjdigojajcgkaaGreatDoor

/- Walks of layer 21: a report read, in the program. -/
namespace Go.Proofs.YtkjdigojajcgkaaGreatDoor
open Go.RowKit
open Pt (Oc Rs)
set_option linter.unusedVariables false
attribute [local go_sem] ext_mk size_mk toList_mk get_mk take_drop_len take_tail_len ByteArray.mk_append_mk List.append_toArray

theorem split_l2 (l : List UInt8) (w : World) (hl : l.length ≤ 4294967280) (hm : ∃ m, w.cell? ⟨0, 0, none⟩ = some (.int .i64 m)) :
    Calls Tryz.prog 13 #[.string ⟨l.toArray⟩, .string ⟨#[10]⟩] w fun e w' => ∃ W, w.heap.size ≤ W ∧ W < w'.heap.size ∧ e = .returned (.slice (some ⟨W, 0, none⟩) (Pt.pieces l).length (Pt.pieces l).length) ∧ (∀ i, i < (Pt.pieces l).length → w'.cell? ⟨W, i, none⟩ = some (.string ⟨((Pt.pieces l).getD i []).toArray⟩)) ∧ Below w.heap.size w w' := by
  obtain ⟨m, hm⟩ := hm
  refine (Tryz.strings_Split ⟨l.toArray⟩ ⟨#[10]⟩ m w (by rw [size_mk]; omega) hm (by decide)).mono ?_
  rintro e w' ⟨rfl, rfl⟩
  have hd := Lib.splitB_data ⟨#[10]⟩ 0 (Lib.countB ⟨l.toArray⟩ ⟨#[10]⟩) ⟨l.toArray⟩
  have hp : Lib.splitK [10] 0 (Lib.countB ⟨l.toArray⟩ ⟨#[10]⟩) l = Pt.pieces l := Pt.pieces_cut l
  obtain ⟨bs, hbs⟩ : ∃ bs, Lib.splitB ⟨#[10]⟩ 0 (Lib.countB ⟨l.toArray⟩ ⟨#[10]⟩) ⟨l.toArray⟩ = bs := ⟨_, rfl⟩
  have hlen := Lib.splitB_all ⟨#[10]⟩ (by decide) 0 (Lib.countB ⟨l.toArray⟩ ⟨#[10]⟩) ⟨l.toArray⟩ rfl
  rw [hbs] at hd hlen ⊢
  have hd' : bs.map (·.data.toList) = Pt.pieces l := hd.trans hp
  have hl2 : (Pt.pieces l).length = Lib.countB ⟨l.toArray⟩ ⟨#[10]⟩ + 1 := by rw [← hd', List.length_map, hlen]
  refine ⟨w.heap.size, Nat.le_refl _, by simp, by rw [hl2], fun i hi => ?_, (Below.refl _ _).alloc (Nat.le_refl _) _⟩
  have hib : i < bs.length := by rw [← hd', List.length_map] at hi; exact hi
  have e1 : (Pt.pieces l).getD i [] = bs[i].data.toList := by rw [← hd']; simp [List.getD, hib]
  rw [e1]
  simp [hib]

theorem piece_len (l : List UInt8) : ∀ p ∈ Pt.pieces l, p.length ≤ l.length := by
  induction l with
  | nil => intro p hp; simp [Pt.pieces] at hp; subst hp; simp
  | cons c r ih =>
    intro p hp
    by_cases hc : c = 10
    · subst hc
      rw [Pt.pieces_nl] at hp
      rcases List.mem_cons.1 hp with rfl | h
      · simp
      · have := ih p h; simp; omega
    · obtain ⟨q, t, hq⟩ := List.exists_cons_of_ne_nil (Pt.pieces_ne r)
      rw [Pt.pieces_no hc hq] at hp
      rcases List.mem_cons.1 hp with rfl | h
      · have := ih q (by rw [hq]; simp); simp; omega
      · have := ih p (by rw [hq]; simp [h]); simp; omega

/-- the pieces of a text, and its lines -/
structure PcIs (l : List UInt8) (P L : List (List UInt8)) (last : List UInt8) : Prop where
  last_ : P.getD (P.length - 1) [] = last
  pos : 1 ≤ P.length
  lines : Pt.linesL l = L
  yes : last = [] → P.length = L.length + 1 ∧ Pt.wholeB l = true
  no : last ≠ [] → P.length = L.length ∧ Pt.wholeB l = false
  get : ∀ k, k < L.length → P.getD k [] = L.getD k [] ∧ (L.getD k []).length ≤ l.length
  len : P.length ≤ l.length + 1

theorem pcIs (l : List UInt8) : ∃ P L last, Pt.pieces l = P ∧ PcIs l P L last := by
  obtain ⟨a, b, hab⟩ := Pt.snoc_of_ne (Pt.pieces_ne l)
  have hl := Pt.linesL_of hab
  have hw := Pt.whole_of hab
  have hm := piece_len l
  have hn := Pt.pieces_len l
  rw [hab] at hm hn
  by_cases hb : b = []
  · subst hb
    rw [if_pos rfl] at hl
    refine ⟨_, a, [], hab, ⟨by simp [List.getD], by simp, hl, fun _ => ⟨by simp, by rw [hw]; rfl⟩, fun h => absurd rfl h, fun k hk => ?_, hn⟩⟩
    have e : a.getD k [] = a[k] := by simp [List.getD, hk]
    refine ⟨by simp [List.getD, hk, List.getElem?_append_left], ?_⟩
    rw [e]; exact hm _ (by simp)
  · rw [if_neg hb] at hl
    refine ⟨_, a ++ [b], b, hab, ⟨by simp [List.getD], by simp, hl, fun h => absurd h hb, fun _ => ⟨rfl, by rw [hw, decide_eq_false hb]⟩, fun k hk => ⟨rfl, ?_⟩, hn⟩⟩
    have e : (a ++ [b]).getD k [] = (a ++ [b])[k] := by simp [List.getD, List.getElem?_eq_getElem hk]
    rw [e]; exact hm _ (List.getElem_mem hk)

/-- what 'Read' answers -/
def RdR (w : World) (l : List UInt8) (e : Ending) (w' : World) : Prop := ∃ v, e = .returned (.tuple #[v, .int .i64 (Pt.rrN l), .int .i64 (Pt.rrE l)]) ∧ OcAt w' v (Pt.rrO l) ∧ Below w.heap.size w w'

theorem RdR.bad {w w' : World} {l : List UInt8} {n k : Int} (ho : Pt.rrO l = Pt.oc0) (hn : Pt.rrN l = n) (hk : Pt.rrE l = k) (hb : Below w.heap.size w w') : RdR w l (.returned (.tuple #[.agg #[.slice none 0 0, .int .i64 0, .string ⟨#[]⟩, .int .i64 0], .int .i64 n, .int .i64 k])) w' := by
  subst hn; subst hk
  exact ⟨_, rfl, by rw [ho]; exact ⟨none, 0, rfl, ⟨by simp [Pt.oc0], .inl rfl⟩, Nat.le_refl _⟩, hb⟩

theorem results_cell3 {P : Program} {fn : Func} {p u v : Tmp} {ty : TypeId} (h : fn.results = #[.cell p ty, .tmp u, .tmp v]) (tmps : Array Value) (w : World) (g : Nat) (t : TypeId) (cs : Array Value) (fr : Nat × Nat) (d : TypeDesc)
    (hp : tmps.getD p undef = .pointer (some ⟨g, 0, none⟩)) (hg : w.heap[g]? = some (.cells cs t fr))
    (hu : P.underlying ty = some d) (hd : (match d with | .struct _ | .array _ _ => true | _ => false) = true) (hi : (P.info? ty).map (·.size) = some cs.size) :
    (results fn tmps).run P w = .ok (.tuple #[.agg cs, tmps.getD u undef, tmps.getD v undef]) w := by
  have hp' : tmps[p]?.getD undef = .pointer (some ⟨g, 0, none⟩) := by simpa using hp
  simp [results, h, hp', asAddr, run_loadVar_row w g t ty cs fr d hg hu hd hi]

/-- the result's block -/
def ResB (W : World) (d : Nat) (v0 v1 v2 v3 : Value) : Prop := W.heap[d]? = some (.cells #[v0, v1, v2, v3] 25 (0, 0))

theorem ResB.cells {W : World} {d : Nat} {v0 v1 v2 v3 : Value} (h : ResB W d v0 v1 v2 v3) :
    (W.cell? ⟨d, 0, none⟩ = some v0 ∧ W.cell? ⟨d, 1, none⟩ = some v1 ∧ W.cell? ⟨d, 2, none⟩ = some v2 ∧ W.cell? ⟨d, 3, none⟩ = some v3) ∧ (W.frozen? ⟨d, 0, none⟩ = false ∧ W.frozen? ⟨d, 1, none⟩ = false ∧ W.frozen? ⟨d, 2, none⟩ = false ∧ W.frozen? ⟨d, 3, none⟩ = false) := by
  refine ⟨⟨?_, ?_, ?_, ?_⟩, frozen_of_row _ _ _ _ _ h, frozen_of_row _ _ _ _ _ h, frozen_of_row _ _ _ _ _ h, frozen_of_row _ _ _ _ _ h⟩
  all_goals rw [cell_of_row _ _ _ _ _ _ h]; rfl

/-- what is known behind the cut into lines -/
structure Cut (w w1 : World) (l : List UInt8) (P L : List (List UInt8)) (last : List UInt8) (R : Nat) : Prop where
  r0 : RSt w1 w1.heap.size (w.heap.size + 1) (.slice none 0 0) Pt.rs0
  res : ResB w1 w.heap.size (.slice none 0 0) (.int .i64 0) (.string ⟨#[]⟩) (.int .i64 0)
  be : Below w.heap.size w w1
  rlt : R < w1.heap.size
  rge : w.heap.size + 2 ≤ R
  cell : ∀ k, k < L.length → w1.cell? ⟨R, k, none⟩ = some (.string ⟨(L.getD k []).toArray⟩)

theorem Cut.mk1 {w w1 : World} {l : List UInt8} {P L : List (List UInt8)} {last : List UInt8} {R : Nat} (hp : PcIs l P L last)
    (h : Below ((w.alloc (.cells #[.slice none 0 0, .int .i64 0, .string ⟨#[]⟩, .int .i64 0] 25)).alloc (.cells #[.slice none 0 0, .int .i64 0, .string ⟨#[]⟩, .int .i64 0, .int .i64 0] 43)).heap.size ((w.alloc (.cells #[.slice none 0 0, .int .i64 0, .string ⟨#[]⟩, .int .i64 0] 25)).alloc (.cells #[.slice none 0 0, .int .i64 0, .string ⟨#[]⟩, .int .i64 0, .int .i64 0] 43)) w1)
    (h1 : ((w.alloc (.cells #[.slice none 0 0, .int .i64 0, .string ⟨#[]⟩, .int .i64 0] 25)).alloc (.cells #[.slice none 0 0, .int .i64 0, .string ⟨#[]⟩, .int .i64 0, .int .i64 0] 43)).heap.size ≤ R) (h2 : R < w1.heap.size)
    (hc : ∀ i, i < P.length → w1.cell? ⟨R, i, none⟩ = some (.string ⟨(P.getD i []).toArray⟩)) : Cut w w1 l P L last R := by
  have hs : ((w.alloc (.cells #[.slice none 0 0, .int .i64 0, .string ⟨#[]⟩, .int .i64 0] 25)).alloc (.cells #[.slice none 0 0, .int .i64 0, .string ⟨#[]⟩, .int .i64 0, .int .i64 0] 43)).heap.size = w.heap.size + 2 := by simp
  have hz := h.size
  rw [hs] at h1 hz
  have hLP : L.length ≤ P.length := by
    by_cases e : last = []
    · have := (hp.yes e).1; omega
    · have := (hp.no e).1; omega
  refine ⟨⟨?_, OwnS.nil _ _, by omega, Nat.le_refl _⟩, ?_, ?_, h2, h1, fun k hk => by rw [hc k (by omega), (hp.get k hk).1]⟩
  · unfold RBlk; rw [h.block _ (by rw [hs]; omega)]; exact heap_alloc2_new _ _ _
  · unfold ResB; rw [h.block _ (by rw [hs]; omega), heap_alloc_old]; exact heap_alloc_new _ _; simp
  · exact (((Below.refl _ _).alloc (Nat.le_refl _) _).alloc (by simp) _).trans (h.mono (by rw [hs]; omega))

theorem Cut.resT {w w1 w2 : World} {l : List UInt8} {P L : List (List UInt8)} {last : List UInt8} {R : Nat} (h : Cut w w1 l P L last R) (hT : Tch w1.heap.size (w.heap.size + 1) w1 w2) : ResB w2 w.heap.size (.slice none 0 0) (.int .i64 0) (.string ⟨#[]⟩) (.int .i64 0) := by
  unfold ResB; rw [hT.block w.heap.size (by have := h.rge; have := h.rlt; omega) (by omega)]; exact h.res

theorem res_set {W : World} {d : Nat} {v0 v1 v2 v3 : Value} (h : ResB W d v0 v1 v2 v3) (x0 x1 x2 x3 : Value) : ResB ((((W.setCell ⟨d, 0, none⟩ x0).setCell ⟨d, 1, none⟩ x1).setCell ⟨d, 2, none⟩ x2).setCell ⟨d, 3, none⟩ x3) d x0 x1 x2 x3 := by
  have h0 := heap_setCell_same (i := 0) _ _ _ _ x0 h
  have h1 := heap_setCell_same (i := 1) _ _ _ _ x1 h0
  have h2 := heap_setCell_same (i := 2) _ _ _ _ x2 h1
  exact heap_setCell_same (i := 3) _ _ _ _ x3 h2

theorem res_below {w W : World} (h : Below w.heap.size w W) {x0 x1 x2 x3 : Value} : Below w.heap.size w ((((W.setCell ⟨w.heap.size, 0, none⟩ x0).setCell ⟨w.heap.size, 1, none⟩ x1).setCell ⟨w.heap.size, 2, none⟩ x2).setCell ⟨w.heap.size, 3, none⟩ x3) :=
  (((h.setCell (p := ⟨w.heap.size, 0, none⟩) (Nat.le_refl _) _).setCell (p := ⟨w.heap.size, 1, none⟩) (Nat.le_refl _) _).setCell (p := ⟨w.heap.size, 2, none⟩) (Nat.le_refl _) _).setCell (p := ⟨w.heap.size, 3, none⟩) (Nat.le_refl _) _

theorem RdR.good {w w' : World} {l : List UInt8} {o : Oc} {v : Value} (ho : Pt.rrO l = o) (hn : Pt.rrN l = 0) (hk : Pt.rrE l = 0) (hc : OcAt w' v o) (hb : Below w.heap.size w w') : RdR w l (.returned (.tuple #[v, .int .i64 0, .int .i64 0])) w' :=
  ⟨v, by rw [hn, hk], by rw [ho]; exact hc, hb⟩

theorem oc_box {W : World} {B b d n : Nat} {vo : Value} {r : Rs} (h : RSt W B b vo r) (hl : r.o.out.length ≤ n) (hn : n ≤ 1048577) (hd : d < B) {x0 x1 x2 x3 : Value} : OcAt ((((W.setCell ⟨d, 0, none⟩ x0).setCell ⟨d, 1, none⟩ x1).setCell ⟨d, 2, none⟩ x2).setCell ⟨d, 3, none⟩ x3) (.agg #[vo, .int .i64 r.o.st, .string ⟨r.o.exn.toArray⟩, .int .i64 r.o.steps]) r.o := by
  obtain ⟨a, cap, rfl, hc, hs⟩ := ((((h.own.set (i := 0) (u := x0) hd).set (i := 1) (u := x1) hd).set (i := 2) (u := x2) hd).set (i := 3) (u := x3) hd).form (by omega)
  exact ⟨a, cap, rfl, hs, hc⟩

set_option maxHeartbeats 4000000 in
set_option maxRecDepth 8000 in
theorem spread_any (l : List UInt8) (w : World) (hv : PortVars w) (hl : l.length ≤ 140737488351232) : Calls Tryz.prog 5 #[.string ⟨l.toArray⟩] w (RdR w l) := by
  have HV := Lib.hid hv
  by_cases h1 : 1048576 < l.length
  · have HE := Lib.hid (Pt.rr_long h1)
    have k1 : decide ((1048576 : Int) < (l.length : Int)) = true := decide_eq_true (by omega)
    clear hv h1 hl
    go_enter Tryz.func5, Tryz.ntmps5
    go_wp2_with fail
    (try simp only [Exit.inBlock, Exit.then]); refine bodyPost_ret (results_cell3 rfl _ _ w.heap.size 25 #[.slice none 0 0, .int .i64 0, .string ⟨#[]⟩, .int .i64 0] (0, 0) _ rfl (heap_alloc_new _ _) rfl rfl rfl) rfl ?_
    exact RdR.bad HE.out.1 HE.out.2.1 HE.out.2.2 ((Below.refl _ _).alloc (Nat.le_refl _) _)
  · have k1 : decide ((1048576 : Int) < (l.length : Int)) = false := decide_eq_false (by omega)
    have HL := Lib.hid (show l.length ≤ 1048576 by omega)
    obtain ⟨P, L, last, hP, hPc⟩ := pcIs l
    have hb0 : Below w.heap.size w ((w.alloc (.cells #[.slice none 0 0, .int .i64 0, .string ⟨#[]⟩, .int .i64 0] 25)).alloc (.cells #[.slice none 0 0, .int .i64 0, .string ⟨#[]⟩, .int .i64 0, .int .i64 0] 43)) := ((Below.refl _ _).alloc (Nat.le_refl _) _).alloc (by simp) _
    have hm := (hv.below hb0).1.1
    have cs := split_l2 l _ (by omega) hm
    rw [hP] at cs
    have CS := Lib.hid cs
    have HP := Lib.hid hPc
    have hp1 := hPc.pos
    have hpl := hPc.len
    clear hv hm cs hPc hP hb0
    by_cases hla : last = []
    · have hn := (HP.out.yes hla)
      have HW := Lib.hid hn.2
      have hPl := hn.1
      have hLn : L.length ≤ 1048576 := by omega
      subst hla
      clear hn h1 hl hp1 hpl
      go_enter Tryz.func5, Tryz.ntmps5
      go_wp2_with (go_at_call 13; refine CS.out.mono ?_; rintro e w1 ⟨R, hR1, hR2, rfl, hcell, hb1⟩; have hlast := hcell (P.length - 1) (by omega); rw [HP.out.last_, hPl, Nat.add_sub_cancel] at hlast; have HCut := Lib.hid (Cut.mk1 HP.out hb1 hR1 hR2 hcell); clear hcell hb1 hR1 hR2)
      go_loopw [32] (fun vi wr => ∃ (k : Nat) (vo : Value) (r : Rs), vi = .int .i64 k ∧ k ≤ L.length ∧ RSt wr w1.heap.size (w.heap.size + 1) vo r ∧ Tch w1.heap.size (w.heap.size + 1) w1 wr ∧ Hid (Pt.ReadAt l L k r)) (fun vi _ => L.length - (intOf vi).toNat)
      case atStart => exact ⟨0, _, Pt.rs0, rfl, Nat.zero_le _, HCut.out.r0, Tch.refl _ _ _, Lib.hid (Pt.ReadAt.start HP.out.lines)⟩
      case round =>
        obtain ⟨k, vo, r, rfl, hk, hRS, hT, HRA⟩ := hrel
        have HRS := Lib.hid hRS
        have HT := Lib.hid hT
        have hb2 : Below w.heap.size w wr := HCut.out.be.trans (hT.below (by have := HCut.out.be.size; omega) (by omega))
        have HB := Lib.hid hb2
        have HV2 := Lib.hid (HV.out.below hb2)
        by_cases hlt : k < L.length
        · obtain ⟨x, hx⟩ : ∃ x, L.getD k [] = x := ⟨_, rfl⟩
          have hcell : wr.cell? ⟨R, k, none⟩ = some (.string ⟨x.toArray⟩) := by
            rw [← hx, ← HCut.out.cell k hlt]
            exact World.cell?_of_block (hT.block R HCut.out.rlt (by have := HCut.out.rge; show R ≠ _; omega))
          have HX := Lib.hid hx
          have hxl := (HP.out.get k hlt).2
          rw [hx] at hxl
          obtain ⟨q1, q2, q3, q4, q5, q6, q7⟩ := HRA.out
          have C := Lib.hid (sline_any w1.heap.size (w.heap.size + 1) vo r x wr HV2.out hRS (fun h => (q6 h).1) q4 (by have := HL.out; have := HP.out.len; have := hLn; omega) (by have := HL.out; omega))
          clear hRS hT hb2 hx hxl q1 q2 q3 q4 q5 q6 q7
          go_wp2_with (go_at_call 14; refine C.out.mono ?_; intro e w2 hO; rcases hO with ⟨hq, rfl, hT2⟩ | ⟨r', hq, rfl, hv', hT2⟩; (have HQ := Lib.hid (Pt.rr_bad HRA.out HL.out hlt HX.out hq); have hT3 := HT.out.trans hT2; have hres := HCut.out.resT hT3; obtain ⟨⟨d0, d1, d2, d3⟩, u0, u1, u2, u3⟩ := hres.cells; have HRB := Lib.hid hres; have HT3 := Lib.hid hT3; clear hT2 hT3 hres hq); rotate_left; (obtain ⟨v', hR2⟩ := hv'; have HQ := Lib.hid (HRA.out.next hlt HX.out hq); clear hq); rotate_left)
          · (try simp only [Exit.inBlock, Exit.then]); refine bodyPost_ret (results_cell3 rfl _ _ w.heap.size 25 _ (0, 0) _ rfl (res_set HRB.out _ _ _ _) rfl rfl rfl) rfl ?_
            exact RdR.bad HQ.out.1 (by have := HQ.out.2.1; omega) HQ.out.2.2 (res_below (HCut.out.be.trans (HT3.out.below (by have := HCut.out.be.size; omega) (by omega))))
          · go_roundw
            case rel => exact ⟨k + 1, v', r', by go_num, by omega, hR2, HT.out.trans hT2, HQ⟩
            case measure => simp [intOf]; omega
        · obtain rfl : k = L.length := by omega
          obtain ⟨q1, q2, q3, q4, q5, q6, q7⟩ := HRA.out
          have hres := HCut.out.resT hT
          obtain ⟨⟨d0, d1, d2, d3⟩, u0, u1, u2, u3⟩ := hres.cells
          obtain ⟨⟨e0, e1, e2, e3, e4⟩, f0, f1, f2, f3, f4⟩ := hRS.blk.cells
          have HRB := Lib.hid hres
          have HQ7 := Lib.hid q7
          obtain ⟨pa, pc, rfl, _, _⟩ := hRS.own.form (by have := hLn; omega)
          by_cases hp : r.part = 2 ∧ true = true
          · first
            | (exact absurd hp.2 (by decide))
            | (have HQ := Lib.hid (Pt.rr_fine HRA.out HL.out (HW.out.trans hp.2) hp.1)
               have kp : decide (r.part < 2) = false := decide_eq_false (by omega)
               clear hRS hT hb2 hp q1 q2 q3 q4 q5 q6 q7 hres
               go_wp2_with fail
               (try simp only [Exit.inBlock, Exit.then]); refine bodyPost_ret (results_cell3 rfl _ _ w.heap.size 25 _ (0, 0) _ rfl (res_set HRB.out _ _ _ _) rfl rfl rfl) rfl ?_
               exact RdR.good HQ.out.1 HQ.out.2.1 HQ.out.2.2 (oc_box HRS.out HQ7.out (by have := hLn; omega) (by have := HCut.out.rge; have := HCut.out.rlt; omega)) (res_below (HCut.out.be.trans (HT.out.below (by have := HCut.out.be.size; omega) (by omega)))))
          · have HQ := Lib.hid (Pt.rr_stop HRA.out HL.out (by
              by_cases h : r.part = 2
              · exact .inl (HW.out.trans (Bool.eq_false_iff.2 (fun g => hp ⟨h, g⟩)))
              · exact .inr h))
            have kp : (true = true) → decide (r.part < 2) = true := fun h => decide_eq_true (by have : r.part ≠ 2 := fun g => hp ⟨g, h⟩; omega)
            clear hRS hT hb2 hp q1 q2 q3 q4 q5 q6 q7 hres
            replace kp := kp rfl
            go_wp2_with fail
            (try simp only [Exit.inBlock, Exit.then]); refine bodyPost_ret (results_cell3 rfl _ _ w.heap.size 25 _ (0, 0) _ rfl (res_set HRB.out _ _ _ _) rfl rfl rfl) rfl ?_
            exact RdR.bad HQ.out.1 (by rw [HQ.out.2.1]; split <;> omega) HQ.out.2.2 (res_below (HCut.out.be.trans (HT.out.below (by have := HCut.out.be.size; omega) (by omega))))
    · have hn := (HP.out.no hla)
      have HW := Lib.hid hn.2
      have hPl := hn.1
      have hLn : L.length ≤ 1048577 := by omega
      have hL1 : 1 ≤ L.length := by omega
      have k2 : (last == []) = false := by simp [hla]
      clear hn h1 hl hp1 hpl hla
      go_enter Tryz.func5, Tryz.ntmps5
      go_wp2_with (go_at_call 13; refine CS.out.mono ?_; rintro e w1 ⟨R, hR1, hR2, rfl, hcell, hb1⟩; have hlast := hcell (P.length - 1) (by omega); rw [HP.out.last_, hPl] at hlast; have HCut := Lib.hid (Cut.mk1 HP.out hb1 hR1 hR2 hcell); clear hcell hb1 hR1 hR2)
      go_loopw [32] (fun vi wr => ∃ (k : Nat) (vo : Value) (r : Rs), vi = .int .i64 k ∧ k ≤ L.length ∧ RSt wr w1.heap.size (w.heap.size + 1) vo r ∧ Tch w1.heap.size (w.heap.size + 1) w1 wr ∧ Hid (Pt.ReadAt l L k r)) (fun vi _ => L.length - (intOf vi).toNat)
      case atStart => exact ⟨0, _, Pt.rs0, rfl, Nat.zero_le _, HCut.out.r0, Tch.refl _ _ _, Lib.hid (Pt.ReadAt.start HP.out.lines)⟩
      case round =>
        obtain ⟨k, vo, r, rfl, hk, hRS, hT, HRA⟩ := hrel
        have HRS := Lib.hid hRS
        have HT := Lib.hid hT
        have hb2 : Below w.heap.size w wr := HCut.out.be.trans (hT.below (by have := HCut.out.be.size; omega) (by omega))
        have HB := Lib.hid hb2
        have HV2 := Lib.hid (HV.out.below hb2)
        by_cases hlt : k < L.length
        · obtain ⟨x, hx⟩ : ∃ x, L.getD k [] = x := ⟨_, rfl⟩
          have hcell : wr.cell? ⟨R, k, none⟩ = some (.string ⟨x.toArray⟩) := by
            rw [← hx, ← HCut.out.cell k hlt]
            exact World.cell?_of_block (hT.block R HCut.out.rlt (by have := HCut.out.rge; show R ≠ _; omega))
          have HX := Lib.hid hx
          have hxl := (HP.out.get k hlt).2
          rw [hx] at hxl
          obtain ⟨q1, q2, q3, q4, q5, q6, q7⟩ := HRA.out
          have C := Lib.hid (sline_any w1.heap.size (w.heap.size + 1) vo r x wr HV2.out hRS (fun h => (q6 h).1) q4 (by have := HL.out; have := HP.out.len; have := hLn; omega) (by have := HL.out; omega))
          clear hRS hT hb2 hx hxl q1 q2 q3 q4 q5 q6 q7
          go_wp2_with (go_at_call 14; refine C.out.mono ?_; intro e w2 hO; rcases hO with ⟨hq, rfl, hT2⟩ | ⟨r', hq, rfl, hv', hT2⟩; (have HQ := Lib.hid (Pt.rr_bad HRA.out HL.out hlt HX.out hq); have hT3 := HT.out.trans hT2; have hres := HCut.out.resT hT3; obtain ⟨⟨d0, d1, d2, d3⟩, u0, u1, u2, u3⟩ := hres.cells; have HRB := Lib.hid hres; have HT3 := Lib.hid hT3; clear hT2 hT3 hres hq); rotate_left; (obtain ⟨v', hR2⟩ := hv'; have HQ := Lib.hid (HRA.out.next hlt HX.out hq); clear hq); rotate_left)
          · (try simp only [Exit.inBlock, Exit.then]); refine bodyPost_ret (results_cell3 rfl _ _ w.heap.size 25 _ (0, 0) _ rfl (res_set HRB.out _ _ _ _) rfl rfl rfl) rfl ?_
            exact RdR.bad HQ.out.1 (by have := HQ.out.2.1; omega) HQ.out.2.2 (res_below (HCut.out.be.trans (HT3.out.below (by have := HCut.out.be.size; omega) (by omega))))
          · go_roundw
            case rel => exact ⟨k + 1, v', r', by go_num, by omega, hR2, HT.out.trans hT2, HQ⟩
            case measure => simp [intOf]; omega
        · obtain rfl : k = L.length := by omega
          obtain ⟨q1, q2, q3, q4, q5, q6, q7⟩ := HRA.out
          have hres := HCut.out.resT hT
          obtain ⟨⟨d0, d1, d2, d3⟩, u0, u1, u2, u3⟩ := hres.cells
          obtain ⟨⟨e0, e1, e2, e3, e4⟩, f0, f1, f2, f3, f4⟩ := hRS.blk.cells
          have HRB := Lib.hid hres
          have HQ7 := Lib.hid q7
          obtain ⟨pa, pc, rfl, _, _⟩ := hRS.own.form (by have := hLn; omega)
          by_cases hp : r.part = 2 ∧ false = true
          · first
            | (exact absurd hp.2 (by decide))
            | (have HQ := Lib.hid (Pt.rr_fine HRA.out HL.out (HW.out.trans hp.2) hp.1)
               have kp : decide (r.part < 2) = false := decide_eq_false (by omega)
               clear hRS hT hb2 hp q1 q2 q3 q4 q5 q6 q7 hres
               go_wp2_with fail
               (try simp only [Exit.inBlock, Exit.then]); refine bodyPost_ret (results_cell3 rfl _ _ w.heap.size 25 _ (0, 0) _ rfl (res_set HRB.out _ _ _ _) rfl rfl rfl) rfl ?_
               exact RdR.good HQ.out.1 HQ.out.2.1 HQ.out.2.2 (oc_box HRS.out HQ7.out (by have := hLn; omega) (by have := HCut.out.rge; have := HCut.out.rlt; omega)) (res_below (HCut.out.be.trans (HT.out.below (by have := HCut.out.be.size; omega) (by omega)))))
          · have HQ := Lib.hid (Pt.rr_stop HRA.out HL.out (by
              by_cases h : r.part = 2
              · exact .inl (HW.out.trans (Bool.eq_false_iff.2 (fun g => hp ⟨h, g⟩)))
              · exact .inr h))
            have kp : (false = true) → decide (r.part < 2) = true := fun h => decide_eq_true (by have : r.part ≠ 2 := fun g => hp ⟨g, h⟩; omega)
            clear hRS hT hb2 hp q1 q2 q3 q4 q5 q6 q7 hres
            skip
            go_wp2_with fail
            (try simp only [Exit.inBlock, Exit.then]); refine bodyPost_ret (results_cell3 rfl _ _ w.heap.size 25 _ (0, 0) _ rfl (res_set HRB.out _ _ _ _) rfl rfl rfl) rfl ?_
            exact RdR.bad HQ.out.1 (by rw [HQ.out.2.1]; split <;> omega) HQ.out.2.2 (res_below (HCut.out.be.trans (HT.out.below (by have := HCut.out.be.size; omega) (by omega))))
end Go.Proofs.YtkjdigojajcgkaaGreatDoor

/- Walks of layer 21: two outcomes that are the same. -/
namespace Go.Proofs.YtkjdigojajcgkaaGreatDoor
open Go.RowKit
open Pt (Oc Rs)
set_option linter.unusedVariables false
attribute [local go_sem] ext_mk size_mk toList_mk get_mk take_drop_len take_tail_len ByteArray.mk_append_mk List.append_toArray

theorem texts_quiet {W : World} {pa pb : Option Addr} {ls : List (List UInt8)} {ca cb : Nat} (n : Nat) (ha : StrsAt W pa ls) (hb : StrsAt W pb ls) (hca : ls.length ≤ ca) (hcb : ls.length ≤ cb) :
    Calls Tryz.prog 12 #[.slice pa ls.length ca, .slice pb ls.length cb] (W.drewN n) fun e w'' => e = .returned (.bool true) ∧ ∃ m, w'' = W.drewN m :=
  (texts_any pa pb ls ls ca cb (W.drewN n) (strsAt_below ha (below_drewN (Below.refl _ _) n)) (strsAt_below hb (below_drewN (Below.refl _ _) n)) hca hcb).mono fun e w' ⟨he, m, hw⟩ => ⟨by rw [he, decide_eq_true rfl], n + m, by rw [hw, World.drewN_drewN]⟩

set_option maxHeartbeats 2000000 in
theorem same_same (o : Oc) (v u : Value) (w : World) (hv : OcAt w v o) (hu : OcAt w u o) :
    Calls Tryz.prog 7 #[v, u] w fun e w' => e = .returned (.bool true) ∧ Below w.heap.size w w' := by
  obtain ⟨pa, ca, rfl, ha1, ha2⟩ := hv
  obtain ⟨pb, cb, rfl, hb1, hb2⟩ := hu
  have hb0 : Below w.heap.size w ((w.alloc (.cells #[.slice pa o.out.length ca, .int .i64 o.st, .string ⟨o.exn.toArray⟩, .int .i64 o.steps] 25)).alloc (.cells #[.slice pb o.out.length cb, .int .i64 o.st, .string ⟨o.exn.toArray⟩, .int .i64 o.steps] 25)) := ((Below.refl _ _).alloc (Nat.le_refl _) _).alloc (by simp) _
  have C := Lib.hid (fun n => texts_quiet n (strsAt_below ha1 hb0) (strsAt_below hb1 hb0) ha2 hb2)
  have HB := Lib.hid hb0
  clear hb0 ha1 hb1
  go_enter Tryz.func7, Tryz.ntmps7
  go_wp2_with (go_at_call 12; refine (C.out 0).mono ?_; rintro e w1 ⟨rfl, m, rfl⟩)
  go_ret
  exact ⟨rfl, below_drewN HB.out _⟩
end Go.Proofs.YtkjdigojajcgkaaGreatDoor
