/- Plain: a well-formed instruction can be written. -/
import Derived.Test.YtokjkligechcoaaGreatDoorKo
import Derived.Test.YtokjkligechcoaaGreatDoorDv
import Derived.Test.YtokjkligechcoaaGreatDoorKc
set_option linter.unusedVariables false
namespace Go.Proofs.YtokjkligechcoaaGreatDoor
open Go.RowKit
open Fx
/-- an instruction that can be written -/
structure LnOk (x : In) : Prop where
 op : 1 ≤ x.op ∧ x.op ≤ 13
 a : I8b x.a
 b : I8b x.b
 c : I8b x.c
 k : x.op = 5 → 0 ≤ x.b ∧ x.b ≤ 4
 l : x.l.length ≤ 5000 ∧ ∀ n ∈ x.l, I8b n
 v : x.lv.length ≤ 5000 ∧ ∀ n ∈ x.lv, I8b n
theorem mkLn {op a b c : Int} {l lv : List Int} (h : (1 ≤ op ∧ op ≤ 13) ∧ I8b a ∧ I8b b ∧ I8b c ∧ (op = 5 → 0 ≤ b ∧ b ≤ 4) ∧ (l.length ≤ 5000 ∧ ∀ n ∈ l, I8b n) ∧ (lv.length ≤ 5000 ∧ ∀ n ∈ lv, I8b n)) : LnOk ⟨op, a, b, c, l, lv⟩ := ⟨h.1, h.2.1, h.2.2.1, h.2.2.2.1, h.2.2.2.2.1, h.2.2.2.2.2.1, h.2.2.2.2.2.2⟩
theorem casesB_in {l : List Int} {n : Nat} (h : casesB l n = true) (hn : n ≤ 65536) : ∀ r ∈ l, I8b r := by
 unfold casesB at h
 rw [Bool.and_eq_true, Bool.and_eq_true, List.all_eq_true, decide_eq_true_eq, decide_eq_true_eq] at h
 obtain ⟨⟨h1, h2⟩, h3⟩ := h
 intro r hr
 obtain ⟨i, hi, rfl⟩ := List.getElem_of_mem hr
 have hj := h3 (i / 2) (by rw [List.mem_range]; omega)
 unfold okC at hj
 rw [Bool.and_eq_true, Bool.and_eq_true] at hj
 obtain ⟨⟨j1, -⟩, j2⟩ := hj
 rcases Nat.mod_two_eq_zero_or_one i with h0 | h0
 ·rw [show 2 * (i / 2) = i by omega, List.getD_eq_getElem?_getD, List.getElem?_eq_getElem hi] at j1
  have := of_decide_eq_true j1
  exact ⟨by have := this.1; simp only [Option.getD_some] at this; omega, by have := this.2; simp only [Option.getD_some] at this; omega⟩
 ·rw [show 2 * (i / 2) + 1 = i by omega, List.getD_eq_getElem?_getD, List.getElem?_eq_getElem hi] at j2
  have := insB_true j2
  simp only [Option.getD_some] at this
  exact ⟨by omega, by omega⟩
theorem i8_in {n e : Int} (h : 0 ≤ n ∧ n < e) (he : e ≤ 1000000000) : I8b n := ⟨by omega, by omega⟩
theorem lnok_of {ns nr cn : Nat} {fp : List Int} {rs : Int} {x : In} (h : formI ns nr fp cn rs x = true) (hr : rs ≤ 4096) (hc : cn ≤ 65536) (h1 : ns ≤ 65536) (h2 : nr ≤ 65536) (h3 : fp.length ≤ 65536) : LnOk x := by
 obtain ⟨op, a, b, c, l, lv⟩ := x
 unfold formI at h
 rw [Bool.and_eq_true] at h
 obtain ⟨hL, hF⟩ := h
 obtain ⟨v1, v2⟩ := live_in hL
 dsimp only at hF v1 v2
 have hlen : ((l.length : Int) == 0) = true → l = [] := fun h => by simpa using h
 have hv : lv.length ≤ 5000 ∧ ∀ n ∈ lv, I8b n := ⟨by omega, fun n hn => i8_in (v1 n hn) (by omega)⟩
 have hz : ∀ {n : Int}, (n == 0) = true → I8b n := fun {n} h => by
  have : n = 0 := by simpa using h
  exact ⟨by omega, by omega⟩
 have hi : ∀ {n e : Int}, insB n e = true → e ≤ 1000000000 → I8b n := fun h => i8_in (insB_true h)
 have hn : (([] : List Int).length ≤ 5000 ∧ ∀ n ∈ ([] : List Int), I8b n) := ⟨by simp, by simp⟩
 have hg : regsB l rs = true → l.length ≤ 5000 ∧ ∀ n ∈ l, I8b n := fun h => by
  obtain ⟨r1, r2⟩ := regs_in h
  exact ⟨by omega, fun n hn => i8_in (r1 n hn) (by omega)⟩
 rcases op_all op with (rfl | rfl | rfl | rfl | rfl | rfl | rfl | rfl | rfl | rfl | rfl | rfl | rfl) | ⟨h1, h2, h3, h4, h5, h6, h7, h8, h9, h10, h11, h12, h13⟩
 ·replace hF : (insB a rs && rtB b && (c == 0) && ((l.length : Int) == 0)) = true := hF
  simp only [Bool.and_eq_true] at hF
  obtain ⟨⟨⟨f1, f2⟩, f3⟩, f4⟩ := hF
  cases hlen f4
  have := of_decide_eq_true f2
  exact mkLn ⟨⟨by decide, by decide⟩, hi f1 (by omega), ⟨by omega, by omega⟩, hz f3, fun h => absurd h (by decide), hn, hv⟩
 ·replace hF : (insB a rs && insB b ns && (c == 0) && ((l.length : Int) == 0)) = true := hF
  simp only [Bool.and_eq_true] at hF
  obtain ⟨⟨⟨f1, f2⟩, f3⟩, f4⟩ := hF
  cases hlen f4
  exact mkLn ⟨⟨by decide, by decide⟩, hi f1 (by omega), hi f2 (by omega), hz f3, fun h => absurd h (by decide), hn, hv⟩
 ·replace hF : (insB a rs && insB b nr && (c == 0) && ((l.length : Int) == 0)) = true := hF
  simp only [Bool.and_eq_true] at hF
  obtain ⟨⟨⟨f1, f2⟩, f3⟩, f4⟩ := hF
  cases hlen f4
  exact mkLn ⟨⟨by decide, by decide⟩, hi f1 (by omega), hi f2 (by omega), hz f3, fun h => absurd h (by decide), hn, hv⟩
 ·replace hF : (insB a rs && insB b rs && (c == 0) && ((l.length : Int) == 0)) = true := hF
  simp only [Bool.and_eq_true] at hF
  obtain ⟨⟨⟨f1, f2⟩, f3⟩, f4⟩ := hF
  cases hlen f4
  exact mkLn ⟨⟨by decide, by decide⟩, hi f1 (by omega), hi f2 (by omega), hz f3, fun h => absurd h (by decide), hn, hv⟩
 ·replace hF : (insB a rs && ((b == 1) || (b == 2) || (b == 4) || (b == 3)) && insB c 16777216 && ((c == 0) || (b == 3)) && regsB l rs) = true := hF
  simp only [Bool.and_eq_true] at hF
  obtain ⟨⟨⟨⟨f1, f2⟩, f3⟩, f4⟩, f5⟩ := hF
  have hb : 0 ≤ b ∧ b ≤ 4 := by
   simp only [Bool.or_eq_true, beq_iff_eq] at f2
   omega
  exact mkLn ⟨⟨by decide, by decide⟩, hi f1 (by omega), ⟨by show _ ≤ b; omega, by show b ≤ _; omega⟩, hi f3 (by omega), fun _ => hb, hg f5, hv⟩
 ·replace hF : (insB a rs && insB b rs && insB c 4194305 && ((l.length : Int) == 0)) = true := hF
  simp only [Bool.and_eq_true] at hF
  obtain ⟨⟨⟨f1, f2⟩, f3⟩, f4⟩ := hF
  cases hlen f4
  exact mkLn ⟨⟨by decide, by decide⟩, hi f1 (by omega), hi f2 (by omega), hi f3 (by omega), fun h => absurd h (by decide), hn, hv⟩
 ·replace hF : (insB a rs && insB b rs && insB c 4194305 && ((l.length : Int) == 0)) = true := hF
  simp only [Bool.and_eq_true] at hF
  obtain ⟨⟨⟨f1, f2⟩, f3⟩, f4⟩ := hF
  cases hlen f4
  exact mkLn ⟨⟨by decide, by decide⟩, hi f1 (by omega), hi f2 (by omega), hi f3 (by omega), fun h => absurd h (by decide), hn, hv⟩
 ·replace hF : (insB a rs && insB b 61 && ((l.length : Int) == (prT b.toNat).2.1) && (if (prT b.toNat).2.2 = 0 then c == -1 else insB c cn) && regsB l rs) = true := hF
  simp only [Bool.and_eq_true] at hF
  obtain ⟨⟨⟨⟨f1, f2⟩, f3⟩, f4⟩, f5⟩ := hF
  have hc : I8b c := by
   split at f4
   ·have : c = -1 := by simpa using f4
    exact ⟨by omega, by omega⟩
   ·exact hi f4 (by omega)
  exact mkLn ⟨⟨by decide, by decide⟩, hi f1 (by omega), hi f2 (by omega), hc, fun h => absurd h (by decide), hg f5, hv⟩
 ·replace hF : ((a == 0) && (b == 0) && insB c cn && ((l.length : Int) == 0)) = true := hF
  simp only [Bool.and_eq_true] at hF
  obtain ⟨⟨⟨f1, f2⟩, f3⟩, f4⟩ := hF
  cases hlen f4
  exact mkLn ⟨⟨by decide, by decide⟩, hz f1, hz f2, hi f3 (by omega), fun h => absurd h (by decide), hn, hv⟩
 ·replace hF : ((a == 0) && insB b rs && insB c cn && casesB l cn) = true := hF
  simp only [Bool.and_eq_true] at hF
  obtain ⟨⟨⟨f1, f2⟩, f3⟩, f4⟩ := hF
  have r2 := (cases_in f4).2
  exact mkLn ⟨⟨by decide, by decide⟩, hz f1, hi f2 (by omega), hi f3 (by omega), fun h => absurd h (by decide), ⟨by show l.length ≤ _; omega, casesB_in f4 hc⟩, hv⟩
 ·replace hF : (insB a rs && (b == 0) && (c == 0) && regsB l rs) = true := hF
  simp only [Bool.and_eq_true] at hF
  obtain ⟨⟨⟨f1, f2⟩, f3⟩, f4⟩ := hF
  exact mkLn ⟨⟨by decide, by decide⟩, hi f1 (by omega), hz f2, hz f3, fun h => absurd h (by decide), hg f4, hv⟩
 ·replace hF : ((a == 0) && (c == 0) && insB b fp.length && regsB l rs && ((l.length : Int) == fp.getD b.toNat 0)) = true := hF
  simp only [Bool.and_eq_true] at hF
  obtain ⟨⟨⟨⟨f1, f2⟩, f3⟩, f4⟩, f5⟩ := hF
  exact mkLn ⟨⟨by decide, by decide⟩, hz f1, hi f3 (by omega), hz f2, fun h => absurd h (by decide), hg f4, hv⟩
 ·replace hF : (insB a rs && ((b == 0) || (b == 1)) && (c == 0) && ((l.length : Int) == 0)) = true := hF
  simp only [Bool.and_eq_true] at hF
  obtain ⟨⟨⟨f1, f2⟩, f3⟩, f4⟩ := hF
  cases hlen f4
  have hb : I8b b := by
   simp only [Bool.or_eq_true, beq_iff_eq] at f2
   exact ⟨by omega, by omega⟩
  exact mkLn ⟨⟨by decide, by decide⟩, hi f1 (by omega), hb, hz f3, fun h => absurd h (by decide), hn, hv⟩
 ·exact absurd hF (by simp [formB, h1, h2, h3, h4, h5, h6, h7, h8, h9, h10, h11, h12, h13])
end Go.Proofs.YtokjkligechcoaaGreatDoor
