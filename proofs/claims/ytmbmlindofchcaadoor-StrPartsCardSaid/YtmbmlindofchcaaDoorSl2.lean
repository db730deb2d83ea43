/- Laws of layer 3, walked: strings one behind the other; characters and parts. -/
import Derived.Test.YtmbmlindofchcaaDoorSl1
namespace Go.Proofs.YtmbmlindofchcaaDoor
open Go.RowKit
open St
set_option linter.unusedVariables false
attribute [local go_sem] ext_mk size_mk toList_mk get_mk take_drop_len take_tail_len ByteArray.mk_append_mk

theorem StrsAt.below {w w' : World} {a : Option Addr} {ls : List (List UInt8)} (h : StrsAt w a ls) (hb : Below w.heap.size w w') : StrsAt w' a ls := by
  obtain ⟨hm, h | ⟨b, off, ha, hlt, hc⟩⟩ := h
  · exact ⟨hm, .inl h⟩
  · exact ⟨hm, .inr ⟨b, off, ha, Nat.lt_of_lt_of_le hlt hb.size, fun i hi => by rw [hb.cell (p := ⟨b, off + i, none⟩) hlt]; exact hc i hi⟩⟩

set_option maxHeartbeats 800000 in
theorem strCats_walk (a : Option Addr) (ls : List (List UInt8)) (cap : Nat) (w : World) (hv : StrVars w) (h : StrsAt w a ls) (hcap : ls.length ≤ cap) :
    Calls Tryd.prog 3 #[.slice a ls.length cap] w fun e w' => e = .returned (.bool true) ∧ Below w.heap.size w w' := by
  have HV := Lib.hid hv
  have HA := Lib.hid h
  have h1 := fun W hW => cat_any a ls cap W hW hcap
  have h2 := fun W hW => rcat_any a ls cap W hW
  obtain ⟨x, hx⟩ : ∃ x, catB ls = x := ⟨_, rfl⟩
  obtain ⟨f, hf⟩ : ∃ f, catE ls = f := ⟨_, rfl⟩
  rw [hx, hf] at h1 h2
  have H1 := Lib.hid h1
  have H2 := Lib.hid h2
  clear hv h h1 h2 hx hf
  go_enter Tryd.func3, Tryd.ntmps3
  go_wp2_with (first | (go_at_call 10; refine (H1.out _ HA.out).mono ?_; rintro e w1 ⟨rfl, hb1⟩) | (go_at_call 11; refine (H2.out _ (HA.out.below hb1)).mono ?_; rintro e w2 ⟨rfl, hb2⟩) | (go_at_call 12; refine (alive_any _ ((HV.out.below hb1).below hb2)).mono ?_; rintro e w3 ⟨rfl, hb3⟩))
  go_ret
  exact ⟨rfl, (hb1.trans (hb2.mono hb1.size)).trans (hb3.mono (Nat.le_trans hb1.size hb2.size))⟩

set_option maxHeartbeats 1600000 in
set_option maxRecDepth 100000 in
theorem strCuts_walk (l t : List UInt8) (i n : Int) (w : World) (hv : StrVars w) (hl : l.length ≤ 140737488351232) (ht : t.length ≤ 140737488351232) (hi : i ≤ 9223372036854775807) (hn : n ≤ 9223372036854775807) :
    Calls Tryd.prog 8 #[.string ⟨l.toArray⟩, .string ⟨t.toArray⟩, .int .i64 i, .int .i64 n] w fun e w' => e = .returned (.bool true) ∧ Below w.heap.size w w' := by
  have HV := Lib.hid hv
  have a1 := fun W => ssub_any l i W (by omega)
  have a2 := fun W => srsub_any l i W (by omega)
  have a3 := fun W => scut_any l i n W (by omega) hi hn
  have a4 := fun W => srcut_any l i n W (by omega) hi hn
  have a5 := fun W => schr_any n W
  have a6 := fun W => srchr_any n W
  have a7 := fun W => scmp_any l t W
  have a8 := fun W => srcmp_any l t W (by omega) (by omega)
  have a9 := fun W => sright_any l W
  have a0 := fun W => srright_any l W
  obtain ⟨v1, q1⟩ : ∃ x, subV l i = x := ⟨_, rfl⟩
  obtain ⟨v2, q2⟩ : ∃ x, subE l i = x := ⟨_, rfl⟩
  obtain ⟨v3, q3⟩ : ∃ x, cutB l i n = x := ⟨_, rfl⟩
  obtain ⟨v4, q4⟩ : ∃ x, cutE l i n = x := ⟨_, rfl⟩
  obtain ⟨v5, q5⟩ : ∃ x, chrB n = x := ⟨_, rfl⟩
  obtain ⟨v6, q6⟩ : ∃ x, chrE n = x := ⟨_, rfl⟩
  obtain ⟨v7, q7⟩ : ∃ x, Lib.compareBytes l t = x := ⟨_, rfl⟩
  obtain ⟨v8, q8⟩ : ∃ x, rightB l = x := ⟨_, rfl⟩
  rw [q1, q2] at a1 a2
  rw [q3, q4] at a3 a4
  rw [q5, q6] at a5 a6
  rw [q7] at a7 a8
  rw [q8] at a9 a0
  have A1 := Lib.hid a1
  have A2 := Lib.hid a2
  have A3 := Lib.hid a3
  have A4 := Lib.hid a4
  have A5 := Lib.hid a5
  have A6 := Lib.hid a6
  have A7 := Lib.hid a7
  have A8 := Lib.hid a8
  have A9 := Lib.hid a9
  have A0 := Lib.hid a0
  clear hv a1 a2 a3 a4 a5 a6 a7 a8 a9 a0 q1 q2 q3 q4 q5 q6 q7 q8
  go_enter Tryd.func8, Tryd.ntmps8
  go_wp2_with (first | (go_at_call 17; refine (A1.out _).mono ?_; rintro e w' ⟨rfl, rfl⟩) | (go_at_call 18; refine (A2.out _).mono ?_; rintro e w' ⟨rfl, rfl⟩) | (go_at_call 19; refine (A3.out _).mono ?_; rintro e w1 ⟨rfl, hb1⟩) | (go_at_call 20; refine (A4.out _).mono ?_; rintro e w' ⟨rfl, rfl⟩) | (go_at_call 21; refine (A5.out _).mono ?_; rintro e w2 ⟨rfl, hb2⟩) | (go_at_call 22; refine (A6.out _).mono ?_; rintro e w3 ⟨rfl, hb3⟩) | (go_at_call 23; refine (A7.out _).mono ?_; rintro e w' ⟨rfl, rfl⟩) | (go_at_call 24; refine (A8.out _).mono ?_; rintro e w4 ⟨rfl, hd4⟩) | (go_at_call 25; refine (A9.out _).mono ?_; rintro e w' ⟨rfl, rfl⟩) | (go_at_call 26; refine (A0.out _).mono ?_; rintro e w' ⟨rfl, rfl⟩) | (go_at_call 12; refine (alive_any _ ((((HV.out.below hb1).below hb2).below hb3).below hd4.below)).mono ?_; rintro e w5 ⟨rfl, hb5⟩))
  go_ret
  exact ⟨rfl, (((((hb1.trans (hb2.mono hb1.size)).trans (hb3.mono (Nat.le_trans hb1.size hb2.size)))).trans (hd4.below.mono (Nat.le_trans hb1.size (Nat.le_trans hb2.size hb3.size)))).trans (hb5.mono (Nat.le_trans hb1.size (Nat.le_trans hb2.size (Nat.le_trans hb3.size hd4.below.size)))))⟩

/-- two strings in a new row, one behind the other -/
theorem cat_two (a b : List UInt8) (w : World) : Calls Tryd.prog 10 #[.slice (some ⟨w.heap.size, 0, none⟩) 2 2] (w.alloc (.cells #[.string ⟨a.toArray⟩, .string ⟨b.toArray⟩] 9)) fun e w' => e = .returned (.tuple #[.string ⟨(catB [a, b]).toArray⟩, .int .i64 (catE [a, b])]) ∧ Below w.heap.size w w' := by
  have h := cat_any (some ⟨w.heap.size, 0, none⟩) [a, b] 2 (w.alloc (.cells #[.string ⟨a.toArray⟩, .string ⟨b.toArray⟩] 9)) ⟨by simp, .inr ⟨w.heap.size, 0, rfl, by simp, fun i hi => by
    match i, hi with
    | 0, _ => simp
    | 1, _ => simp
    | i + 2, hi => simp at hi; omega⟩⟩ (by simp)
  refine h.mono ?_
  rintro e w' ⟨rfl, hb⟩
  exact ⟨rfl, ((Below.refl _ _).alloc (Nat.le_refl _) _).trans (hb.mono (by simp))⟩

theorem parts_cat {l : List UInt8} (h : rightB l = true) (k : Nat) (hk : k ≤ l.length) : cutB l 0 k = l.take k ∧ cutE l 0 k = 0 ∧ cutB l k ((l.length : Int) - k) = l.drop k ∧ cutE l k ((l.length : Int) - k) = 0 ∧ catB [l.take k, l.drop k] = l ∧ catE [l.take k, l.drop k] = 0 := by
  have hl := right_le h
  have e1 : cutE l 0 k = 0 := by unfold cutE; rw [if_pos h, if_pos (by omega)]
  have e2 : cutE l k ((l.length : Int) - k) = 0 := by unfold cutE; rw [if_pos h, if_pos (by omega)]
  have e3 : catE [l.take k, l.drop k] = 0 := by
    unfold catE
    rw [if_pos (by
      rw [List.all_eq_true]
      intro x hx
      simp at hx
      rcases hx with rfl | rfl
      · exact right_t (by rw [List.length_take]; omega)
      · exact right_t (by rw [List.length_drop]; omega)), if_pos (by simp; omega)]
  refine ⟨?_, e1, ?_, e2, ?_, e3⟩
  · unfold cutB; rw [if_pos e1]; simp
  · unfold cutB; rw [if_pos e2]; rw [show ((l.length : Int) - k).toNat = l.length - k by omega]; simp; rw [List.take_of_length_le (by simp)]
  · unfold catB; rw [if_pos e3]; simp

set_option maxHeartbeats 1600000 in
set_option maxRecDepth 100000 in
theorem strParts_walk (l : List UInt8) (i : Int) (w : World) (hv : StrVars w) (hl : l.length ≤ 140737488351232) (hi : 0 ≤ i ∧ i ≤ 65535) :
    Calls Tryd.prog 9 #[.string ⟨l.toArray⟩, .int .u16 i] w fun e w' => e = .returned (.bool true) ∧ Below w.heap.size w w' := by
  have HV := Lib.hid hv
  obtain ⟨i0, i1⟩ := hi
  cases hr : rightB l
  · have hR := fun W => sright_any l W
    rw [hr] at hR
    have HR := Lib.hid hR
    clear hv hR hr
    go_enter Tryd.func9, Tryd.ntmps9
    go_wp2_with (first | (go_at_call 25; (with_reducible refine (HR.out _).mono ?_); rintro e w' ⟨rfl, rfl⟩) | (go_at_call 12; (with_reducible refine (alive_any _ HV.out).mono ?_); rintro e w9 ⟨rfl, hb9⟩))
    go_ret
    exact ⟨rfl, hb9⟩
  · have hR := fun W => sright_any l W
    rw [hr] at hR
    have HR := Lib.hid hR
    have hl6 := right_le hr
    obtain ⟨k, hk⟩ : ∃ k : Nat, i % ((l.length : Int) + 1) = (k : Int) := ⟨(i % ((l.length : Int) + 1)).toNat, by
      have := Int.emod_nonneg i (show (l.length : Int) + 1 ≠ 0 by omega); omega⟩
    have hkl : k ≤ l.length := by have := Int.emod_lt_of_pos i (show 0 < (l.length : Int) + 1 by omega); omega
    have hp := parts_cat hr k hkl
    have c1 := fun W => scut_any l 0 k W (by omega) (by omega) (by omega)
    have c2 := fun W => scut_any l k ((l.length : Int) - k) W (by omega) (by omega) (by omega)
    have c3 := fun W => cat_two (l.take k) (l.drop k) W
    have c4 := fun W => scmp_any l l W
    have c5 := fun W => ssub_any l k W (by omega)
    rw [hp.1, hp.2.1] at c1
    rw [hp.2.2.1, hp.2.2.2.1] at c2
    rw [hp.2.2.2.2.1, hp.2.2.2.2.2] at c3
    rw [cmp_self] at c4
    have C1 := Lib.hid c1
    have C2 := Lib.hid c2
    have C3 := Lib.hid c3
    have C4 := Lib.hid c4
    have hrec := hl
    by_cases hkk : k = l.length
    · have hs : subE l k = 32 := by unfold subE; rw [if_pos hr, if_neg (by omega)]
      rw [hs] at c5
      have C5 := Lib.hid c5
      have kkk : ((k : Int) == (l.length : Int)) = true := by simp; omega
      clear hv hR hr c1 c2 c3 c4 c5 hp hs hkk
      go_enter Tryd.func9, Tryd.ntmps9
      go_wp2_with (first | (go_at_call 25; (with_reducible refine (HR.out _).mono ?_); rintro e w' ⟨rfl, rfl⟩) | (go_at_call 19; (with_reducible refine (C1.out _).mono ?_); rintro e w1 ⟨rfl, hb1⟩) | (go_at_call 19; (with_reducible refine (C2.out _).mono ?_); rintro e w2 ⟨rfl, hb2⟩) | (go_at_call 10; (with_reducible refine (C3.out _).mono ?_); rintro e w3 ⟨rfl, hb3⟩) | (go_at_call 23; (with_reducible refine (C4.out _).mono ?_); rintro e w' ⟨rfl, rfl⟩) | (go_at_call 17; (with_reducible refine (C5.out _).mono ?_); rintro e w' ⟨rfl, rfl⟩) | (go_at_call 12; (with_reducible refine (alive_any _ (((HV.out.below hb1).below hb2).below hb3)).mono ?_); rintro e w9 ⟨rfl, hb9⟩))
      go_ret
      exact ⟨rfl, ((hb1.trans (hb2.mono hb1.size)).trans (hb3.mono (Nat.le_trans hb1.size hb2.size))).trans (hb9.mono (Nat.le_trans hb1.size (Nat.le_trans hb2.size hb3.size)))⟩
    · have hkl2 : k < l.length := by omega
      obtain ⟨x, hxl⟩ : ∃ x, l[k] = x := ⟨_, rfl⟩
      have hs : subE l k = 0 := by unfold subE; rw [if_pos hr, if_pos (by omega)]
      have hsv : subV l k = (x.toNat : Int) := by unfold subV; rw [if_pos hs]; simp [List.getD, hkl2, hxl]
      rw [hs, hsv] at c5
      have C5 := Lib.hid c5
      have c6 := fun W => schr_any (x.toNat : Int) W
      have hx256 := x.toNat_lt
      have hce : chrE (x.toNat : Int) = 0 := by unfold chrE; rw [if_pos (by omega)]
      have hcb : chrB (x.toNat : Int) = [x] := by unfold chrB; rw [if_pos hce]; simp
      rw [hce, hcb] at c6
      have C6 := Lib.hid c6
      have c7 := fun W => scut_any l k 1 W (by omega) (by omega) (by omega)
      have h7 : cutE l k 1 = 0 := by unfold cutE; rw [if_pos hr, if_pos (by omega)]
      have h7b : cutB l k 1 = [x] := by unfold cutB; rw [if_pos h7]; simp; rw [List.drop_eq_getElem_cons hkl2, hxl]; rfl
      rw [h7, h7b] at c7
      have C7 := Lib.hid c7
      have kkk : ((k : Int) == (l.length : Int)) = false := by simp; omega
      clear hv hR hr c1 c2 c3 c4 c5 c6 c7 hp hs hsv hce hcb h7 h7b hkk hxl hx256
      go_enter Tryd.func9, Tryd.ntmps9
      go_wp2_with (first | (go_at_call 25; (with_reducible refine (HR.out _).mono ?_); rintro e w' ⟨rfl, rfl⟩) | (go_at_call 19; (with_reducible refine (C1.out _).mono ?_); rintro e w1 ⟨rfl, hb1⟩) | (go_at_call 19; (with_reducible refine (C2.out _).mono ?_); rintro e w2 ⟨rfl, hb2⟩) | (go_at_call 19; (with_reducible refine (C7.out _).mono ?_); rintro e w4 ⟨rfl, hb4⟩) | (go_at_call 10; (with_reducible refine (C3.out _).mono ?_); rintro e w3 ⟨rfl, hb3⟩) | (go_at_call 23; (with_reducible refine (C4.out _).mono ?_); rintro e w' ⟨rfl, rfl⟩) | (go_at_call 17; (with_reducible refine (C5.out _).mono ?_); rintro e w' ⟨rfl, rfl⟩) | (go_at_call 21; (with_reducible refine (C6.out _).mono ?_); rintro e w5 ⟨rfl, hb5⟩) | (go_at_call 12; (with_reducible refine (alive_any _ (((((HV.out.below hb1).below hb2).below hb3).below hb5).below hb4)).mono ?_); rintro e w9 ⟨rfl, hb9⟩))
      go_ret
      exact ⟨rfl, ((((hb1.trans (hb2.mono hb1.size)).trans (hb3.mono (Nat.le_trans hb1.size hb2.size))).trans (hb5.mono (Nat.le_trans hb1.size (Nat.le_trans hb2.size hb3.size)))).trans (hb4.mono (Nat.le_trans hb1.size (Nat.le_trans hb2.size (Nat.le_trans hb3.size hb5.size))))).trans (hb9.mono (Nat.le_trans hb1.size (Nat.le_trans hb2.size (Nat.le_trans hb3.size (Nat.le_trans hb5.size hb4.size)))))⟩
end Go.Proofs.YtmbmlindofchcaaDoor
