/- Walks of layer 21: lines; a status; a report as it is written. -/
import Derived.Test.YtkjdigojajcgkaaGreatDoorPw1
import Derived.Test.YtkjdigojajcgkaaGreatDoorSw12
import Derived.Test.YtkjdigojajcgkaaGreatDoorFw13
import Derived.Test.YtkjdigojajcgkaaGreatDoorBd
namespace Go.Proofs.YtkjdigojajcgkaaGreatDoor
open Go.RowKit
open Pt (Oc)
set_option linter.unusedVariables false
attribute [local go_sem] ext_mk size_mk toList_mk get_mk take_drop_len take_tail_len ByteArray.mk_append_mk List.append_toArray

/-- what the walks of layer 21 read of the library's variables -/
def PortVars (w : World) : Prop := TextVars w ∧ StrVars w

theorem PortVars.below {w w' : World} (h : PortVars w) (hb : Below w.heap.size w w') : PortVars w' := by
  obtain ⟨⟨⟨m, hm⟩, ht, h0⟩, hs⟩ := h
  exact ⟨⟨⟨m, by rw [hb.cell (p := ⟨0, 0, none⟩) (by have := World.block_lt_of_cell? w _ hm; exact this)]; exact hm⟩, (Lib.tabBelow_of_tabIs ht) w' hb, Nat.lt_of_lt_of_le h0 hb.size⟩, hs.below hb⟩

theorem status_eqs {k : Int} (h : ¬ (1 ≤ k ∧ k ≤ 5)) : ((k == 1) = false ∧ (k == 2) = false) ∧ ((k == 3) = false ∧ (k == 4) = false) ∧ (k == 5) = false := by
  refine ⟨⟨?_, ?_⟩, ⟨?_, ?_⟩, ?_⟩ <;> (simp; omega)

set_option maxHeartbeats 800000 in
theorem status_any (k : Int) (w : World) : Calls Tryz.prog 34 #[.int .i64 k] w fun e w' => e = .returned (.string ⟨(Pt.statB k).toArray⟩) ∧ w = w' := by
  by_cases h : 1 ≤ k ∧ k ≤ 5
  · rcases (by omega : k = 1 ∨ k = 2 ∨ k = 3 ∨ k = 4 ∨ k = 5) with rfl | rfl | rfl | rfl | rfl
    all_goals
      go_enter Tryz.func34, Tryz.ntmps34
      go_wp2
      go_ret
      exact ⟨rfl, rfl⟩
  · have HE := Lib.hid (Pt.statB_no h)
    obtain ⟨⟨k1, k2⟩, ⟨k3, k4⟩, k5⟩ := status_eqs h
    clear h
    go_enter Tryz.func34, Tryz.ntmps34
    go_wp2
    go_ret
    exact ⟨ret_str (by rw [HE.out]), rfl⟩

/-- what the program's lines are -/
def LinesR (w : World) (l : List UInt8) (e : Ending) (w' : World) : Prop := ∃ a cap, e = .returned (.tuple #[.slice a (Pt.linesB l).length cap, .int .i64 (Pt.linesE l)]) ∧ StrsAt w' a (Pt.linesB l) ∧ (Pt.linesB l).length ≤ cap ∧ Below w.heap.size w w'

theorem LinesR.no {w w' : World} {l : List UInt8} {n : Int} (h : Pt.linesE l = n) (h0 : n ≠ 0) (hb : Below w.heap.size w w') : LinesR w l (.returned (.tuple #[.slice none 0 0, .int .i64 n])) w' := by
  have hl : Pt.linesB l = [] := by unfold Pt.linesB; rw [if_neg (by omega)]
  refine ⟨none, 0, by rw [hl, h]; rfl, by rw [hl]; exact ⟨by simp, .inl rfl⟩, by rw [hl]; simp, hb⟩

theorem split_l (l : List UInt8) (w : World) (hl : l.length ≤ 4294967280) (hm : ∃ m, w.cell? ⟨0, 0, none⟩ = some (.int .i64 m)) :
    Calls Tryz.prog 13 #[.string ⟨l.toArray⟩, .string ⟨#[10]⟩] w fun e w' => ∃ W, e = .returned (.slice (some ⟨W, 0, none⟩) (Pt.pieces l).length (Pt.pieces l).length) ∧ StrsAt w' (some ⟨W, 0, none⟩) (Pt.pieces l) ∧ Below w.heap.size w w' := by
  obtain ⟨m, hm⟩ := hm
  refine (Tryz.strings_Split ⟨l.toArray⟩ ⟨#[10]⟩ m w (by rw [size_mk]; omega) hm (by decide)).mono ?_
  rintro e w' ⟨rfl, rfl⟩
  have hd := Lib.splitB_data ⟨#[10]⟩ 0 (Lib.countB ⟨l.toArray⟩ ⟨#[10]⟩) ⟨l.toArray⟩
  have hp : Lib.splitK [10] 0 (Lib.countB ⟨l.toArray⟩ ⟨#[10]⟩) l = Pt.pieces l := Pt.pieces_cut l
  obtain ⟨bs, hbs⟩ : ∃ bs, Lib.splitB ⟨#[10]⟩ 0 (Lib.countB ⟨l.toArray⟩ ⟨#[10]⟩) ⟨l.toArray⟩ = bs := ⟨_, rfl⟩
  have hlen := Lib.splitB_all ⟨#[10]⟩ (by decide) 0 (Lib.countB ⟨l.toArray⟩ ⟨#[10]⟩) ⟨l.toArray⟩ rfl
  rw [hbs] at hd hlen ⊢
  have hd' : bs.map (·.data.toList) = Pt.pieces l := hd.trans hp
  have hl2 : (Pt.pieces l).length = Lib.countB ⟨l.toArray⟩ ⟨#[10]⟩ + 1 := by rw [← hd', List.length_map, hlen]
  have hpl := Pt.pieces_len l
  refine ⟨w.heap.size, by rw [hl2], ⟨by omega, .inr ⟨w.heap.size, 0, rfl, by simp, fun i hi => ?_⟩⟩, (Below.refl _ _).alloc (Nat.le_refl _) _⟩
  have hib : i < bs.length := by rw [← hd', List.length_map] at hi; exact hi
  have e1 : (Pt.pieces l).getD i [] = bs[i].data.toList := by rw [← hd']; simp [List.getD, hib]
  rw [e1]
  simp [hib]

theorem trimSuffix_l (l : List UInt8) (w : World) (hl : l.length ≤ 9223372036854775807) : Calls Tryz.prog 23 #[.string ⟨l.toArray⟩, .string ⟨#[10]⟩] w fun e w' => e = .returned (.string ⟨(Lib.trimSuffix l [10]).toArray⟩) ∧ w = w' :=
  (Tryz.strings_TrimSuffix ⟨l.toArray⟩ ⟨#[10]⟩ w (by rw [size_mk]; exact hl)).mono fun e w' ⟨he, hw⟩ => ⟨he, hw.symm⟩

theorem trim_nl (l : List UInt8) (h : l ≠ []) : Pt.pieces (Lib.trimSuffix l [10]) = Pt.linesL l := by
  obtain ⟨a, b, rfl⟩ := Pt.snoc_of_ne h
  unfold Lib.trimSuffix Lib.hasSuffix
  by_cases hb : b = 10
  · subst hb
    rw [if_pos (by rw [List.isSuffixOf_iff_suffix]; exact ⟨a, rfl⟩), Pt.linesL_nl]
    simp
  · rw [if_neg (by
      rw [List.isSuffixOf_iff_suffix]
      rintro ⟨t, ht⟩
      have := congrArg List.getLast? ht
      simp at this; exact hb this.symm), Pt.linesL_no h (by simp [hb])]

set_option maxHeartbeats 800000 in
theorem lines_any (l : List UInt8) (w : World) (hv : PortVars w) (hl : l.length ≤ 140737488351232) :
    Calls Tryz.prog 11 #[.string ⟨l.toArray⟩] w (LinesR w l) := by
  have HM := Lib.hid hv.1.1
  by_cases h1 : 1048576 < l.length
  · have HE := Lib.hid (show Pt.linesE l = 2 by unfold Pt.linesE; rw [if_neg (by omega)])
    go_enter Tryz.func11, Tryz.ntmps11
    go_wp2
    go_ret2
    exact LinesR.no HE.out (by decide) (Below.refl _ _)
  · by_cases h0 : l = []
    · subst h0
      go_enter Tryz.func11, Tryz.ntmps11
      go_wp2
      go_ret2
      exact ⟨none, 0, rfl, ⟨by decide, .inl rfl⟩, by decide, Below.refl _ _⟩
    · have k0 : l.isEmpty = false := by cases l with | nil => exact absurd rfl h0 | cons => rfl
      have kb : (l == []) = false := by simp [h0]
      have HT := Lib.hid (trim_nl l h0)
      have hts : (Lib.trimSuffix l [10]).length ≤ l.length := by unfold Lib.trimSuffix; split <;> simp
      have c1 := fun W h => split_l (Lib.trimSuffix l [10]) W (by omega) h
      rw [trim_nl l h0] at c1
      have C1 := Lib.hid c1
      obtain ⟨p, hp⟩ : ∃ p, Pt.linesL l = p := ⟨_, rfl⟩
      rw [hp] at C1
      have HP := Lib.hid hp
      have hpl : p.length ≤ 1048577 := by
        have := Pt.pieces_len (Lib.trimSuffix l [10])
        rw [trim_nl l h0, hp] at this; omega
      clear c1 hp h0
      by_cases hmany : 65536 < p.length
      · have HE := Lib.hid (show Pt.linesE l = 3 by unfold Pt.linesE; rw [if_pos (by omega), HP.out, if_neg (by omega)])
        go_enter Tryz.func11, Tryz.ntmps11
        go_wp2_with (first | (go_at_call 23; refine (trimSuffix_l _ _ (by omega)).mono ?_; rintro e w' ⟨rfl, rfl⟩) | (go_at_call 13; refine (C1.out _ HM.out).mono ?_; rintro e w1 ⟨W, rfl, hs, hb⟩))
        go_ret2
        exact LinesR.no HE.out (by decide) hb
      · have HE := Lib.hid (show Pt.linesE l = 0 by unfold Pt.linesE; rw [if_pos (by omega), HP.out, if_pos (by omega)])
        have HB := Lib.hid (show Pt.linesB l = p by unfold Pt.linesB; rw [if_pos HE.out, HP.out])
        go_enter Tryz.func11, Tryz.ntmps11
        go_wp2_with (first | (go_at_call 23; refine (trimSuffix_l _ _ (by omega)).mono ?_; rintro e w' ⟨rfl, rfl⟩) | (go_at_call 13; refine (C1.out _ HM.out).mono ?_; rintro e w1 ⟨W, rfl, hs, hb⟩))
        go_ret2
        exact ⟨some ⟨W, 0, none⟩, p.length, by rw [HB.out, HE.out]; rfl, by rw [HB.out]; exact hs, by rw [HB.out]; exact Nat.le_refl _, hb⟩
end Go.Proofs.YtkjdigojajcgkaaGreatDoor
