/- Walks of layer 21: a report's lines in the reference. -/
import Derived.Test.YtkjdigojajcgkaaGreatDoorPx
import Derived.Test.YtkjdigojajcgkaaGreatDoorSw11
import Derived.Test.YtkjdigojajcgkaaGreatDoorPw6
import Derived.Test.YtkjdigojajcgkaaGreatDoorFw10
namespace Go.Proofs.YtkjdigojajcgkaaGreatDoor
open Go.RowKit
open Pt (Oc Rs)
set_option linter.unusedVariables false
attribute [local go_sem] ext_mk size_mk toList_mk get_mk take_drop_len take_tail_len ByteArray.mk_append_mk List.append_toArray

theorem pre_take (p l : List UInt8) : p.isPrefixOf l = (decide (p.length ≤ l.length) && decide (l.take p.length = p)) := by
  rw [Bool.eq_iff_iff, List.isPrefixOf_iff_prefix, Bool.and_eq_true, decide_eq_true_iff, decide_eq_true_iff]
  constructor
  · intro h; exact ⟨h.length_le, (List.prefix_iff_eq_take.1 h).symm⟩
  · intro h; exact List.prefix_iff_eq_take.2 h.2.symm

set_option maxHeartbeats 800000 in
theorem bh_out_yes (l : List UInt8) (w : World) (h : List.isPrefixOf [111, 117, 116, 32] l = true) :
    Calls Tryz.prog 15 #[.string ⟨l.toArray⟩, .string ⟨#[111, 117, 116, 32]⟩] w fun e w' => e = .returned (.tuple #[.string ⟨(l.drop 4).toArray⟩, .bool true]) ∧ w = w' := by
  rw [pre_take, Bool.and_eq_true] at h
  have hl : 4 ≤ l.length := of_decide_eq_true h.1
  have ht : l.take 4 = [111, 117, 116, 32] := of_decide_eq_true h.2
  have kl : decide ((l.length : Int) < 4) = false := decide_eq_false (by omega)
  have k1 : (l.take 4 == [111, 117, 116, 32]) = true := by rw [ht]; decide
  have k2 : (l.take 4 != [111, 117, 116, 32]) = false := by rw [ht]; decide
  have HT := Lib.hid ht
  clear h ht
  go_enter Tryz.func15, Tryz.ntmps15
  go_wp2_with fail
  go_ret2
  exact ⟨rfl, rfl⟩

set_option maxHeartbeats 800000 in
theorem bh_out_no (l : List UInt8) (w : World) (h : List.isPrefixOf [111, 117, 116, 32] l = false) :
    Calls Tryz.prog 15 #[.string ⟨l.toArray⟩, .string ⟨#[111, 117, 116, 32]⟩] w fun e w' => e = .returned (.tuple #[.string ⟨#[]⟩, .bool false]) ∧ w = w' := by
  rw [pre_take, Bool.and_eq_false_iff] at h
  by_cases hl : 4 ≤ l.length
  · have ht : ¬ l.take 4 = [111, 117, 116, 32] := by
      rcases h with h | h
      · exact absurd hl (of_decide_eq_false h)
      · exact of_decide_eq_false h
    have kl : decide ((l.length : Int) < 4) = false := decide_eq_false (by omega)
    have k1 : (l.take 4 == [111, 117, 116, 32]) = false := by simpa using ht
    have k2 : (l.take 4 != [111, 117, 116, 32]) = true := by simpa using ht
    clear h ht
    go_enter Tryz.func15, Tryz.ntmps15
    go_wp2_with fail
    go_ret2
    exact ⟨rfl, rfl⟩
  · have kl : decide ((l.length : Int) < 4) = true := decide_eq_true (by omega)
    clear h hl
    go_enter Tryz.func15, Tryz.ntmps15
    go_wp2_with fail
    go_ret2
    exact ⟨rfl, rfl⟩

set_option maxHeartbeats 800000 in
theorem bh_unc_yes (l : List UInt8) (w : World) (h : List.isPrefixOf [117, 110, 99, 97, 117, 103, 104, 116, 32] l = true) :
    Calls Tryz.prog 15 #[.string ⟨l.toArray⟩, .string ⟨#[117, 110, 99, 97, 117, 103, 104, 116, 32]⟩] w fun e w' => e = .returned (.tuple #[.string ⟨(l.drop 9).toArray⟩, .bool true]) ∧ w = w' := by
  rw [pre_take, Bool.and_eq_true] at h
  have hl : 9 ≤ l.length := of_decide_eq_true h.1
  have ht : l.take 9 = [117, 110, 99, 97, 117, 103, 104, 116, 32] := of_decide_eq_true h.2
  have kl : decide ((l.length : Int) < 9) = false := decide_eq_false (by omega)
  have k1 : (l.take 9 == [117, 110, 99, 97, 117, 103, 104, 116, 32]) = true := by rw [ht]; decide
  have k2 : (l.take 9 != [117, 110, 99, 97, 117, 103, 104, 116, 32]) = false := by rw [ht]; decide
  have HT := Lib.hid ht
  clear h ht
  go_enter Tryz.func15, Tryz.ntmps15
  go_wp2_with fail
  go_ret2
  exact ⟨rfl, rfl⟩

set_option maxHeartbeats 800000 in
theorem bh_unc_no (l : List UInt8) (w : World) (h : List.isPrefixOf [117, 110, 99, 97, 117, 103, 104, 116, 32] l = false) :
    Calls Tryz.prog 15 #[.string ⟨l.toArray⟩, .string ⟨#[117, 110, 99, 97, 117, 103, 104, 116, 32]⟩] w fun e w' => e = .returned (.tuple #[.string ⟨#[]⟩, .bool false]) ∧ w = w' := by
  rw [pre_take, Bool.and_eq_false_iff] at h
  by_cases hl : 9 ≤ l.length
  · have ht : ¬ l.take 9 = [117, 110, 99, 97, 117, 103, 104, 116, 32] := by
      rcases h with h | h
      · exact absurd hl (of_decide_eq_false h)
      · exact of_decide_eq_false h
    have kl : decide ((l.length : Int) < 9) = false := decide_eq_false (by omega)
    have k1 : (l.take 9 == [117, 110, 99, 97, 117, 103, 104, 116, 32]) = false := by simpa using ht
    have k2 : (l.take 9 != [117, 110, 99, 97, 117, 103, 104, 116, 32]) = true := by simpa using ht
    clear h ht
    go_enter Tryz.func15, Tryz.ntmps15
    go_wp2_with fail
    go_ret2
    exact ⟨rfl, rfl⟩
  · have kl : decide ((l.length : Int) < 9) = true := decide_eq_true (by omega)
    clear h hl
    go_enter Tryz.func15, Tryz.ntmps15
    go_wp2_with fail
    go_ret2
    exact ⟨rfl, rfl⟩

set_option maxHeartbeats 800000 in
theorem bh_step_yes (l : List UInt8) (w : World) (h : List.isPrefixOf [115, 116, 101, 112, 115, 32] l = true) :
    Calls Tryz.prog 15 #[.string ⟨l.toArray⟩, .string ⟨#[115, 116, 101, 112, 115, 32]⟩] w fun e w' => e = .returned (.tuple #[.string ⟨(l.drop 6).toArray⟩, .bool true]) ∧ w = w' := by
  rw [pre_take, Bool.and_eq_true] at h
  have hl : 6 ≤ l.length := of_decide_eq_true h.1
  have ht : l.take 6 = [115, 116, 101, 112, 115, 32] := of_decide_eq_true h.2
  have kl : decide ((l.length : Int) < 6) = false := decide_eq_false (by omega)
  have k1 : (l.take 6 == [115, 116, 101, 112, 115, 32]) = true := by rw [ht]; decide
  have k2 : (l.take 6 != [115, 116, 101, 112, 115, 32]) = false := by rw [ht]; decide
  have HT := Lib.hid ht
  clear h ht
  go_enter Tryz.func15, Tryz.ntmps15
  go_wp2_with fail
  go_ret2
  exact ⟨rfl, rfl⟩

set_option maxHeartbeats 800000 in
theorem bh_step_no (l : List UInt8) (w : World) (h : List.isPrefixOf [115, 116, 101, 112, 115, 32] l = false) :
    Calls Tryz.prog 15 #[.string ⟨l.toArray⟩, .string ⟨#[115, 116, 101, 112, 115, 32]⟩] w fun e w' => e = .returned (.tuple #[.string ⟨#[]⟩, .bool false]) ∧ w = w' := by
  rw [pre_take, Bool.and_eq_false_iff] at h
  by_cases hl : 6 ≤ l.length
  · have ht : ¬ l.take 6 = [115, 116, 101, 112, 115, 32] := by
      rcases h with h | h
      · exact absurd hl (of_decide_eq_false h)
      · exact of_decide_eq_false h
    have kl : decide ((l.length : Int) < 6) = false := decide_eq_false (by omega)
    have k1 : (l.take 6 == [115, 116, 101, 112, 115, 32]) = false := by simpa using ht
    have k2 : (l.take 6 != [115, 116, 101, 112, 115, 32]) = true := by simpa using ht
    clear h ht
    go_enter Tryz.func15, Tryz.ntmps15
    go_wp2_with fail
    go_ret2
    exact ⟨rfl, rfl⟩
  · have kl : decide ((l.length : Int) < 6) = true := decide_eq_true (by omega)
    clear h hl
    go_enter Tryz.func15, Tryz.ntmps15
    go_wp2_with fail
    go_ret2
    exact ⟨rfl, rfl⟩

/-- what the reference's 'quoted' says -/
def quRef (s : List UInt8) : Option (List UInt8) :=
  if 2 ≤ s.length ∧ s.head? = some 34 ∧ s.getLast? = some 34 then (if Pt.conOk (s.drop 1).dropLast then some (St.readB (s.drop 1).dropLast) else none) else none

theorem quRef_short {s : List UInt8} (h : s.length < 2) : quRef s = none := by unfold quRef; rw [if_neg (by omega)]

theorem quRef_head {s : List UInt8} (h : s.head? ≠ some 34) : quRef s = none := by unfold quRef; rw [if_neg (fun g => h g.2.1)]

theorem quRef_last {s : List UInt8} (h : s.getLast? ≠ some 34) : quRef s = none := by unfold quRef; rw [if_neg (fun g => h g.2.2)]

theorem quRef_in {s Q : List UInt8} (h : s = 34 :: (Q ++ [34])) : quRef s = if Pt.conOk Q then some (St.readB Q) else none := by
  subst h; unfold quRef; rw [if_pos ⟨by simp, rfl, by simp [List.getLast?_cons]⟩]; simp

theorem quB_ref (w s : List UInt8) : Pt.quB w s = if (w ++ [32]).isPrefixOf s = true then quRef (s.drop (w.length + 1)) else none := by
  by_cases h : (w ++ [32]).isPrefixOf s = true
  · rw [if_pos h]
    obtain ⟨r, rfl⟩ := List.isPrefixOf_iff_prefix.1 h
    have hd : (w ++ [32] ++ r).drop (w.length + 1) = r := by rw [List.drop_append_of_le_length (by simp), List.drop_of_length_le (by simp)]; rfl
    rw [hd]
    cases r with
    | nil =>
      rw [quRef_short (by simp), Pt.qu_none (Pt.quIn_no (by
        rw [Bool.eq_false_iff]; intro g
        have := (List.isPrefixOf_iff_prefix.1 g).length_le; simp at this))]
    | cons c u =>
      by_cases hc : c = 34
      · subst hc
        have hd2 : (w ++ [32] ++ 34 :: u).drop (w.length + 2) = u := by
          rw [show w ++ [32] ++ 34 :: u = (w ++ [32, 34]) ++ u by simp, List.drop_append_of_le_length (by simp), List.drop_of_length_le (by simp)]; rfl
        have hp : (w ++ [32, 34]).isPrefixOf (w ++ [32] ++ 34 :: u) = true := by
          rw [show w ++ [32] ++ 34 :: u = (w ++ [32, 34]) ++ u by simp, List.isPrefixOf_iff_prefix]; exact List.prefix_append _ _
        by_cases hu : u.getLast? = some 34
        · obtain ⟨Q, rfl⟩ := List.getLast?_eq_some_iff.1 hu
          have hin : Pt.quIn w (w ++ [32] ++ 34 :: (Q ++ [34])) = some Q := by unfold Pt.quIn; rw [hd2, if_pos ⟨hp, hu⟩]; simp
          rw [quRef_in rfl]
          unfold Pt.quB; rw [hin]
        · have hin : Pt.quIn w (w ++ [32] ++ 34 :: u) = none := by unfold Pt.quIn; rw [hd2, if_neg (fun g => hu g.2)]
          rw [Pt.qu_none hin]
          by_cases hu0 : u = []
          · subst hu0; rw [quRef_short (by simp)]
          · rw [quRef_last (by
              intro g; apply hu
              cases u with
              | nil => exact absurd rfl hu0
              | cons a b => rw [List.getLast?_cons_cons] at g; exact g)]
      · rw [quRef_head (by simp [hc]), Pt.qu_none (Pt.quIn_no (by
          rw [Bool.eq_false_iff]; intro g
          rw [List.isPrefixOf_iff_prefix, show w ++ [32] ++ c :: u = (w ++ [32]) ++ (c :: u) from rfl, show w ++ [32, 34] = (w ++ [32]) ++ [34] by simp, List.prefix_append_right_inj] at g
          have := List.cons_prefix_cons.1 g
          exact hc this.1.symm))]
  · rw [if_neg h, Pt.qu_none (Pt.quIn_no (by
      rw [Bool.eq_false_iff]; intro g; apply h
      rw [List.isPrefixOf_iff_prefix] at g ⊢
      rw [show w ++ [32, 34] = (w ++ [32]) ++ [34] by simp] at g
      exact (List.prefix_append _ _).trans g))]

theorem at_last {s : List UInt8} (h : 2 ≤ s.length) (hi : s.length - 1 < s.length) : s.getLast? = some s[s.length - 1] := by
  rw [List.getLast?_eq_getElem?, List.getElem?_eq_getElem hi]

set_option maxHeartbeats 2000000 in
set_option maxRecDepth 8000 in
theorem rquoted_any (s : List UInt8) (w : World) (hs : s.length ≤ 1048576) :
    Calls Tryz.prog 16 #[.string ⟨s.toArray⟩] w (QuR w (quRef s)) := by
  by_cases h2 : s.length < 2
  · have HQ := Lib.hid (quRef_short h2)
    have k0 : decide ((s.length : Int) < 2) = true := decide_eq_true (by omega)
    clear h2 hs
    go_enter Tryz.func16, Tryz.ntmps16
    go_wp2_with fail
    go_ret2
    exact QuR.no HQ.out (Below.refl _ _)
  · have k0 : decide ((s.length : Int) < 2) = false := decide_eq_false (by omega)
    have hlt0 : 0 < s.length := by omega
    obtain ⟨x, hx⟩ : ∃ x, s[0]'hlt0 = x := ⟨_, rfl⟩
    have hh : s.head? = some x := by rw [List.head?_eq_getElem?, List.getElem?_eq_getElem hlt0, hx]
    by_cases hx4 : x = 34
    · have hi : s.length - 1 < s.length := by omega
      obtain ⟨y, hy⟩ : ∃ y, s[s.length - 1]'hi = y := ⟨_, rfl⟩
      have hl : s.getLast? = some y := by rw [at_last (by omega) hi, hy]
      have kx1 : ((x.toNat : Int) == 34) = true := by rw [hx4]; decide
      have kx2 : ((x.toNat : Int) != 34) = false := by rw [hx4]; decide
      by_cases hy4 : y = 34
      · have ky1 : ((y.toNat : Int) == 34) = true := by rw [hy4]; decide
        have ky2 : ((y.toNat : Int) != 34) = false := by rw [hy4]; decide
        rw [hx4] at hh
        rw [hy4] at hl
        obtain ⟨Q, hQ⟩ : ∃ Q, (s.drop 1).dropLast = Q := ⟨_, rfl⟩
        have hsQ : s = 34 :: (Q ++ [34]) := by
          cases s with
          | nil => cases hh
          | cons a u =>
            injection hh with hh; subst hh
            have hu : u ≠ [] := by intro e; subst e; simp at h2
            have : u.getLast? = some 34 := by
              cases u with
              | nil => exact absurd rfl hu
              | cons b v => rw [List.getLast?_cons_cons] at hl; exact hl
            obtain ⟨v, rfl⟩ := List.getLast?_eq_some_iff.1 this
            rw [← hQ]; simp
        have hin := quRef_in hsQ
        have hT : s.tail.take (s.length - 1 - 1) = Q := by rw [hsQ]; simp
        have hQl : Q.length ≤ 1048576 := by rw [← hT]; simp; omega
        have HSQ := Lib.hid hsQ
        have c1 := fun W => sref_read_any Q W (by omega)
        rw [← hT] at c1
        clear hsQ hh hl hQ hx4 hy4
        have h2g : 2 ≤ s.length := by omega
        have h2i : (1 : Int) ≤ (s.length : Int) - 1 := by omega
        by_cases e1 : St.readE Q = 0
        · rw [hT, e1] at c1
          have hRl := (St.read_ok e1).2.2
          obtain ⟨R, hR⟩ : ∃ R, St.readB Q = R := ⟨_, rfl⟩
          rw [hR] at c1 hRl
          obtain ⟨N, hN⟩ : ∃ N, St.readN Q = N := ⟨_, rfl⟩
          rw [hN, ← hT] at c1
          have c2 := fun W => rconst_any R W (by omega)
          obtain ⟨X, hX⟩ : ∃ X, St.escB R = X := ⟨_, rfl⟩
          rw [hX] at c2
          have C1 := Lib.hid c1
          by_cases e2 : St.escE R = 0
          · rw [decide_eq_true e2] at c2
            have C2 := Lib.hid c2
            by_cases e3 : X = Q
            · have HQ := Lib.hid (show quRef s = some R by rw [hin, if_pos (by unfold Pt.conOk; rw [e1, hR, e2, hX, e3]; simp), hR])
              have k3 : (34 :: (X ++ [34]) == s) = true := by rw [HSQ.out, e3]; simp
              clear c1 c2 hin hT hR hN hX e1 e2 e3 hQl hRl h2
              go_enter Tryz.func16, Tryz.ntmps16
              go_wp2_with (first | (go_at_call 28; refine (C1.out _).mono ?_; rintro e w1 ⟨rfl, hb1⟩) | (go_at_call 29; refine (C2.out _).mono ?_; rintro e w2 ⟨rfl, hb2⟩))
              go_ret2
              exact QuR.yes HQ.out (hb1.trans (hb2.mono hb1.size))
            · have HQ := Lib.hid (show quRef s = none by rw [hin, if_neg (by unfold Pt.conOk; rw [hR, hX, decide_eq_false e3]; simp)])
              have k3 : (34 :: (X ++ [34]) == s) = false := by rw [HSQ.out]; simp [e3]
              clear c1 c2 hin hT hR hN hX e1 e2 e3 hQl hRl h2
              go_enter Tryz.func16, Tryz.ntmps16
              go_wp2_with (first | (go_at_call 28; refine (C1.out _).mono ?_; rintro e w1 ⟨rfl, hb1⟩) | (go_at_call 29; refine (C2.out _).mono ?_; rintro e w2 ⟨rfl, hb2⟩))
              go_ret2
              exact QuR.no HQ.out (hb1.trans (hb2.mono hb1.size))
          · rw [decide_eq_false e2] at c2
            have C2 := Lib.hid c2
            have HQ := Lib.hid (show quRef s = none by rw [hin, if_neg (by unfold Pt.conOk; rw [hR, decide_eq_false e2]; simp)])
            clear c1 c2 hin hT hR hN hX e1 e2 hQl hRl h2
            go_enter Tryz.func16, Tryz.ntmps16
            go_wp2_with (first | (go_at_call 28; refine (C1.out _).mono ?_; rintro e w1 ⟨rfl, hb1⟩) | (go_at_call 29; refine (C2.out _).mono ?_; rintro e w2 ⟨rfl, hb2⟩))
            go_ret2
            exact QuR.no HQ.out (hb1.trans (hb2.mono hb1.size))
        · have HQ := Lib.hid (show quRef s = none by rw [hin, if_neg (by unfold Pt.conOk; rw [decide_eq_false e1]; simp)])
          rw [hT] at c1
          have k1 : (St.readE Q == 0) = false := by simp [e1]
          have k2 : (St.readE Q != 0) = true := by simp [e1]
          obtain ⟨E, hE⟩ : ∃ E, St.readE Q = E := ⟨_, rfl⟩
          obtain ⟨N, hN⟩ : ∃ N, St.readN Q = N := ⟨_, rfl⟩
          obtain ⟨R, hR⟩ : ∃ R, St.readB Q = R := ⟨_, rfl⟩
          rw [hE] at k1 k2
          rw [hE, hN, hR, ← hT] at c1
          have C1 := Lib.hid c1
          clear c1 hin hT hR hN e1 hE hQl h2
          go_enter Tryz.func16, Tryz.ntmps16
          go_wp2_with (go_at_call 28; refine (C1.out _).mono ?_; rintro e w1 ⟨rfl, hb1⟩)
          go_ret2
          exact QuR.no HQ.out hb1
      · have HQ := Lib.hid (quRef_last (s := s) (by rw [hl]; simpa using hy4))
        have ky1 : ((y.toNat : Int) == 34) = false := St.nbeq (y := 34) hy4
        have ky2 : ((y.toNat : Int) != 34) = true := by simp [bne, ky1]
        clear hh hl hx4 hy4
        go_enter Tryz.func16, Tryz.ntmps16
        go_wp2_with fail
        go_ret2
        exact QuR.no HQ.out (Below.refl _ _)
    · have HQ := Lib.hid (quRef_head (s := s) (by rw [hh]; simpa using hx4))
      have kx1 : ((x.toNat : Int) == 34) = false := St.nbeq (y := 34) hx4
      have kx2 : ((x.toNat : Int) != 34) = true := by simp [bne, kx1]
      clear hh hx4
      go_enter Tryz.func16, Tryz.ntmps16
      go_wp2_with fail
      go_ret2
      exact QuR.no HQ.out (Below.refl _ _)

theorem endK_st {k : Int} (h : k = 1 ∨ k = 3 ∨ k = 4 ∨ k = 5) : Pt.endK (Pt.statB k) = k ∧ Pt.endX (Pt.statB k) = [] := by
  obtain ⟨a1, a2, _⟩ := Pt.stV_st h
  unfold Pt.endK Pt.endX; rw [a2]; exact ⟨a1, rfl⟩

theorem ret_end {a b : Int} {x y : List UInt8} (h : a = b) (g : x = y) : Ending.returned (.tuple #[.int .i64 a, .string ⟨x.toArray⟩]) = .returned (.tuple #[.int .i64 b, .string ⟨y.toArray⟩]) := by rw [h, g]

set_option maxHeartbeats 2000000 in
theorem rended_line (s : List UInt8) (w : World) (hs : s.length ≤ 1048576) :
    Calls Tryz.prog 17 #[.string ⟨s.toArray⟩] w fun e w' => e = .returned (.tuple #[.int .i64 (Pt.endK s), .string ⟨(Pt.endX s).toArray⟩]) ∧ Below w.heap.size w w' := by
  by_cases hs1 : s = Pt.statB 1
  · have HE := Lib.hid (endK_st (k := 1) (by decide))
    subst hs1
    go_enter Tryz.func17, Tryz.ntmps17
    go_wp2_with fail
    go_ret2
    exact ⟨ret_end HE.out.1.symm HE.out.2.symm, Below.refl _ _⟩
  have k1 : (s == Pt.statB 1) = false := by simpa using hs1
  replace k1 : (s == [100, 111, 110, 101]) = false := k1
  by_cases hs3 : s = Pt.statB 3
  · have HE := Lib.hid (endK_st (k := 3) (by decide))
    subst hs3
    go_enter Tryz.func17, Tryz.ntmps17
    go_wp2_with fail
    go_ret2
    exact ⟨ret_end HE.out.1.symm HE.out.2.symm, Below.refl _ _⟩
  have k3 : (s == Pt.statB 3) = false := by simpa using hs3
  replace k3 : (s == [111, 117, 116, 32, 111, 102, 32, 102, 117, 101, 108]) = false := k3
  by_cases hs4 : s = Pt.statB 4
  · have HE := Lib.hid (endK_st (k := 4) (by decide))
    subst hs4
    go_enter Tryz.func17, Tryz.ntmps17
    go_wp2_with fail
    go_ret2
    exact ⟨ret_end HE.out.1.symm HE.out.2.symm, Below.refl _ _⟩
  have k4 : (s == Pt.statB 4) = false := by simpa using hs4
  replace k4 : (s == [111, 117, 116, 32, 111, 102, 32, 109, 101, 109, 111, 114, 121]) = false := k4
  by_cases hs5 : s = Pt.statB 5
  · have HE := Lib.hid (endK_st (k := 5) (by decide))
    subst hs5
    go_enter Tryz.func17, Tryz.ntmps17
    go_wp2_with fail
    go_ret2
    exact ⟨ret_end HE.out.1.symm HE.out.2.symm, Below.refl _ _⟩
  have k5 : (s == Pt.statB 5) = false := by simpa using hs5
  replace k5 : (s == [115, 116, 117, 99, 107]) = false := k5
  have hst : Pt.stV s = 0 := stV_none (fun e => hs1 e.symm) (fun e => hs3 e.symm) (fun e => hs4 e.symm) (fun e => hs5 e.symm)
  have hq := quB_ref Pt.uncW s
  cases hp : List.isPrefixOf [117, 110, 99, 97, 117, 103, 104, 116, 32] s
  · rw [if_neg (by rw [show Pt.uncW ++ [32] = [117, 110, 99, 97, 117, 103, 104, 116, 32] from rfl, hp]; decide)] at hq
    have HE := Lib.hid (endK_none hq)
    have HS := Lib.hid hst
    have HC := Lib.hid (fun W => bh_unc_no s W hp)
    clear hs1 hs3 hs4 hs5 hst hq hp hs
    go_enter Tryz.func17, Tryz.ntmps17
    go_wp2_with (go_at_call 15; refine (HC.out _).mono ?_; rintro e w' ⟨rfl, rfl⟩)
    go_ret2
    exact ⟨ret_end (by rw [HE.out.1, HS.out]) (by rw [HE.out.2]), Below.refl _ _⟩
  · rw [if_pos (by rw [show Pt.uncW ++ [32] = [117, 110, 99, 97, 117, 103, 104, 116, 32] from rfl, hp])] at hq
    have HC := Lib.hid (fun W => bh_unc_yes s W hp)
    have hdl : (s.drop 9).length ≤ 1048576 := by simp; omega
    have c := fun W => rquoted_any (s.drop 9) W hdl
    replace hq : Pt.quB Pt.uncW s = quRef (s.drop 9) := hq
    rw [← hq] at c
    cases hr : Pt.quB Pt.uncW s with
    | none =>
      rw [hr] at c
      have C := Lib.hid c
      have HE := Lib.hid (endK_none hr)
      have HS := Lib.hid hst
      clear hs1 hs3 hs4 hs5 hst hq hp hs hdl c hr
      go_enter Tryz.func17, Tryz.ntmps17
      go_wp2_with (first | (go_at_call 15; refine (HC.out _).mono ?_; rintro e w' ⟨rfl, rfl⟩) | (go_at_call 16; refine (C.out _).mono ?_; rintro e w1 ⟨⟨x, rfl, _⟩, hb1⟩; simp only [Option.isSome_none]))
      go_ret2
      exact ⟨ret_end (by rw [HE.out.1, HS.out]) (by rw [HE.out.2]), hb1⟩
    | some t =>
      rw [hr] at c
      have C := Lib.hid c
      have HE := Lib.hid (endK_some hr)
      clear hs1 hs3 hs4 hs5 hst hq hp hs hdl c hr
      go_enter Tryz.func17, Tryz.ntmps17
      go_wp2_with (first | (go_at_call 15; refine (HC.out _).mono ?_; rintro e w' ⟨rfl, rfl⟩) | (go_at_call 16; refine (C.out _).mono ?_; rintro e w1 ⟨⟨x, rfl, hx2⟩, hb1⟩; obtain rfl := hx2 t rfl; simp only [Option.isSome_some]))
      go_ret2
      exact ⟨ret_end (by rw [HE.out.1]) (by rw [HE.out.2]), hb1⟩

set_option maxHeartbeats 2000000 in
theorem rsteps_any (s : List UInt8) (w : World) (hs : s.length ≤ 1048576) :
    Calls Tryz.prog 18 #[.string ⟨s.toArray⟩] w fun e w' => e = .returned (.int .i64 (Pt.stepV s)) ∧ Below w.heap.size w w' := by
  cases hp : List.isPrefixOf [115, 116, 101, 112, 115, 32] s
  · have HS := Lib.hid (stepV_no hp)
    have HC := Lib.hid (fun W => bh_step_no s W hp)
    clear hp hs
    go_enter Tryz.func18, Tryz.ntmps18
    go_wp2_with (go_at_call 15; refine (HC.out _).mono ?_; rintro e w' ⟨rfl, rfl⟩)
    go_ret
    exact ⟨ret_int HS.out.symm, Below.refl _ _⟩
  · have HC := Lib.hid (fun W => bh_step_yes s W hp)
    obtain ⟨T, hT⟩ : ∃ T, s.drop 6 = T := ⟨_, rfl⟩
    have hTl : T.length ≤ 1048576 := by rw [← hT]; simp; omega
    rw [hT] at HC
    have c1 := fun W => rconstant_any T W (by omega)
    have c2 := fun W => rtext_any (Fx.conV T) W
    obtain ⟨V, hV⟩ : ∃ V, Fx.conV T = V := ⟨_, rfl⟩
    obtain ⟨E1, hE1⟩ : ∃ E, Fx.conE T = E := ⟨_, rfl⟩
    obtain ⟨B2, hB2⟩ : ∃ X, Fx.textB V = X := ⟨_, rfl⟩
    obtain ⟨E2, hE2⟩ : ∃ X, Fx.textE V = X := ⟨_, rfl⟩
    rw [hV] at c2
    by_cases q1 : E1 = 0
    · by_cases q2 : E2 = 0
      · by_cases q3 : B2 = T
        · by_cases q4 : V < 0
          · have k3 : (B2 == T) = true := by simp [q3]
            have k4 : decide (V < 0) = true := decide_eq_true q4
            have q5 := q3.symm
            subst q1 q2 q5
            have HS := Lib.hid (show Pt.stepV s = -1 from stepV_bad hT (Bool.eq_false_iff.2 (fun h => (fun (h : _) => absurd h.2.2.2 (by rw [hV]; omega)) ((numOk_iff T).1 h))))
            rw [hE1, hV] at c1
            rw [hE2, hB2] at c2
            have C1 := Lib.hid c1
            have C2 := Lib.hid c2
            clear c1 c2 hT hp hE1 hV hE2 hB2 hs
            go_enter Tryz.func18, Tryz.ntmps18
            go_wp2_with (first | (go_at_call 15; refine (HC.out _).mono ?_; rintro e w' ⟨rfl, rfl⟩) | (go_at_call 30; refine (C1.out _).mono ?_; rintro e w' ⟨rfl, rfl⟩) | (go_at_call 31; refine (C2.out _).mono ?_; rintro e w' ⟨rfl, rfl⟩))
            go_ret
            exact ⟨ret_int HS.out.symm, Below.refl _ _⟩
          · have hok : Pt.numOk T = true := (numOk_iff T).2 ⟨by rw [hE1, q1], by rw [hV, hE2, q2], by rw [hV, hB2, q3], by rw [hV]; omega⟩
            have HS := Lib.hid (show Pt.stepV s = V by rw [stepV_ok hp hT hok, hV])
            have k4 : decide (V < 0) = false := decide_eq_false q4
            have k3 : (B2 == T) = true := by simp [q3]
            have q5 := q3.symm
            subst q1 q2 q5
            rw [hE1, hV] at c1
            rw [hE2, hB2] at c2
            have C1 := Lib.hid c1
            have C2 := Lib.hid c2
            clear c1 c2 hT hp hE1 hV hE2 hB2 hok q4 hs
            go_enter Tryz.func18, Tryz.ntmps18
            go_wp2_with (first | (go_at_call 15; refine (HC.out _).mono ?_; rintro e w' ⟨rfl, rfl⟩) | (go_at_call 30; refine (C1.out _).mono ?_; rintro e w' ⟨rfl, rfl⟩) | (go_at_call 31; refine (C2.out _).mono ?_; rintro e w' ⟨rfl, rfl⟩))
            go_ret
            exact ⟨ret_int HS.out.symm, Below.refl _ _⟩
        · have k3 : (B2 == T) = false := by simp [q3]
          have k4 : (B2 != T) = true := by simp [q3]
          subst q1 q2
          have HS := Lib.hid (show Pt.stepV s = -1 from stepV_bad hT (Bool.eq_false_iff.2 (fun h => (fun (h : _) => q3 (by rw [← hB2, ← hV]; exact h.2.2.1)) ((numOk_iff T).1 h))))
          rw [hE1, hV] at c1
          rw [hE2, hB2] at c2
          have C1 := Lib.hid c1
          have C2 := Lib.hid c2
          clear c1 c2 hT hp hE1 hV hE2 hB2 hs
          go_enter Tryz.func18, Tryz.ntmps18
          go_wp2_with (first | (go_at_call 15; refine (HC.out _).mono ?_; rintro e w' ⟨rfl, rfl⟩) | (go_at_call 30; refine (C1.out _).mono ?_; rintro e w' ⟨rfl, rfl⟩) | (go_at_call 31; refine (C2.out _).mono ?_; rintro e w' ⟨rfl, rfl⟩))
          go_ret
          exact ⟨ret_int HS.out.symm, Below.refl _ _⟩
      · have k3 : (E2 == 0) = false := by simp [q2]
        have k4 : (E2 != 0) = true := by simp [q2]
        subst q1
        have HS := Lib.hid (show Pt.stepV s = -1 from stepV_bad hT (Bool.eq_false_iff.2 (fun h => (fun (h : _) => q2 (by rw [← hE2, ← hV]; exact h.2.1)) ((numOk_iff T).1 h))))
        rw [hE1, hV] at c1
        rw [hE2, hB2] at c2
        have C1 := Lib.hid c1
        have C2 := Lib.hid c2
        clear c1 c2 hT hp hE1 hV hE2 hB2 hs
        go_enter Tryz.func18, Tryz.ntmps18
        go_wp2_with (first | (go_at_call 15; refine (HC.out _).mono ?_; rintro e w' ⟨rfl, rfl⟩) | (go_at_call 30; refine (C1.out _).mono ?_; rintro e w' ⟨rfl, rfl⟩) | (go_at_call 31; refine (C2.out _).mono ?_; rintro e w' ⟨rfl, rfl⟩))
        go_ret
        exact ⟨ret_int HS.out.symm, Below.refl _ _⟩
    · have k3 : (E1 == 0) = false := by simp [q1]
      have k4 : (E1 != 0) = true := by simp [q1]
      have HS := Lib.hid (show Pt.stepV s = -1 from stepV_bad hT (Bool.eq_false_iff.2 (fun h => (fun (h : _) => q1 (by rw [← hE1]; exact h.1)) ((numOk_iff T).1 h))))
      rw [hE1, hV] at c1
      rw [hE2, hB2] at c2
      have C1 := Lib.hid c1
      have C2 := Lib.hid c2
      clear c1 c2 hT hp hE1 hV hE2 hB2 hs
      go_enter Tryz.func18, Tryz.ntmps18
      go_wp2_with (first | (go_at_call 15; refine (HC.out _).mono ?_; rintro e w' ⟨rfl, rfl⟩) | (go_at_call 30; refine (C1.out _).mono ?_; rintro e w' ⟨rfl, rfl⟩) | (go_at_call 31; refine (C2.out _).mono ?_; rintro e w' ⟨rfl, rfl⟩))
      go_ret
      exact ⟨ret_int HS.out.symm, Below.refl _ _⟩
end Go.Proofs.YtkjdigojajcgkaaGreatDoor
