/- Walks of layer 21: a report in the reference. -/
import Derived.Test.YtkjdigojajcgkaaGreatDoorPw5
namespace Go.Proofs.YtkjdigojajcgkaaGreatDoor
open Go.RowKit
open Pt (Oc)
set_option linter.unusedVariables false
attribute [local go_sem] ext_mk size_mk toList_mk get_mk take_drop_len take_tail_len ByteArray.mk_append_mk List.append_toArray

set_option maxHeartbeats 800000 in
theorem rconst_any (l : List UInt8) (w : World) (hl : l.length ≤ 140737488351232) :
    Calls Tryz.prog 29 #[.string ⟨l.toArray⟩] w fun e w' => e = .returned (.tuple #[.string ⟨(34 :: (St.escB l ++ [34])).toArray⟩, .bool (decide (St.escE l = 0))]) ∧ Below w.heap.size w w' := by
  have c := srescape_any l w hl
  have hb := St.escB_len l
  obtain ⟨s, hs⟩ : ∃ s, St.escB l = s := ⟨_, rfl⟩
  rw [hs] at c hb ⊢
  by_cases he : St.escE l = 0
  · rw [decide_eq_true he]
    rw [he] at c
    have C := Lib.hid c
    clear c hs he
    go_enter Tryz.func29, Tryz.ntmps29
    go_wp2_with (go_at_call 50; refine (C.out).mono ?_; rintro e w1 ⟨rfl, hb1⟩)
    go_ret2
    exact ⟨rfl, hb1⟩
  · rw [decide_eq_false he]
    have k1 : (St.escE l == 0) = false := by simp [he]
    obtain ⟨x, hx⟩ : ∃ x, St.escE l = x := ⟨_, rfl⟩
    rw [hx] at c k1
    have C := Lib.hid c
    clear c hs he hx
    go_enter Tryz.func29, Tryz.ntmps29
    go_wp2_with (go_at_call 50; refine (C.out).mono ?_; rintro e w1 ⟨rfl, hb1⟩)
    go_ret2
    exact ⟨rfl, hb1⟩

/-- the line of an outcome's end, or none -/
def endsB (o : Oc) : List UInt8 := if o.st = 2 then (if St.escE o.exn = 0 then Pt.endB o else []) else Pt.statB o.st

theorem endB_two {o : Oc} (h : o.st = 2) : Pt.endB o = [117, 110, 99, 97, 117, 103, 104, 116, 32] ++ (34 :: (St.escB o.exn ++ [34])) := by
  unfold Pt.endB; rw [if_pos h]; rw [show Pt.statB 2 = [117, 110, 99, 97, 117, 103, 104, 116] from rfl]; simp

theorem ends_nil {o : Oc} (h : endsB o = []) : Pt.repOk o = false := by
  unfold endsB at h
  by_cases h2 : o.st = 2
  · rw [if_pos h2] at h
    by_cases he : St.escE o.exn = 0
    · rw [if_pos he, endB_two h2] at h; simp at h
    · exact wr_okX (by unfold Pt.okX; rw [decide_eq_true h2, decide_eq_false he]; rfl)
  · rw [if_neg h2] at h
    by_cases hst : 1 ≤ o.st ∧ o.st ≤ 5
    · exact absurd h (Pt.statB_ne hst)
    · exact wr_okS (by unfold Pt.okS; rw [decide_eq_false hst]; rfl)

theorem ends_some {o : Oc} (h : endsB o ≠ []) : (1 ≤ o.st ∧ o.st ≤ 5) ∧ Pt.okX o = true ∧ endsB o = Pt.endB o := by
  unfold endsB at h ⊢
  by_cases h2 : o.st = 2
  · rw [if_pos h2] at h ⊢
    by_cases he : St.escE o.exn = 0
    · rw [if_pos he]; exact ⟨by omega, by unfold Pt.okX; rw [decide_eq_true he]; simp, rfl⟩
    · rw [if_neg he] at h; exact absurd rfl h
  · rw [if_neg h2] at h ⊢
    refine ⟨Decidable.byContradiction fun hst => h (Pt.statB_no hst), by unfold Pt.okX; rw [decide_eq_false h2]; rfl, ?_⟩
    unfold Pt.endB; rw [if_neg h2]

theorem ends_len (o : Oc) : (endsB o).length ≤ 65600 := by
  unfold endsB Pt.endB
  have h1 := St.escB_len o.exn
  have h2 := Pt.statB_len o.st
  have h3 := Pt.statB_len 2
  by_cases h : o.st = 2
  · rw [if_pos h, if_pos h]; split <;> simp; omega
  · rw [if_neg h]; omega

/-- the box and the row of a report in the making -/
structure RInv (w : World) (o : Oc) (a : Option Addr) (cap : Nat) (vb : Value) (acc : List UInt8) (W : World) : Prop where
  c0 : W.cell? ⟨w.heap.size, 0, none⟩ = some (.slice a o.out.length cap)
  c1 : W.cell? ⟨w.heap.size, 1, none⟩ = some (.int .i64 o.st)
  c2 : W.cell? ⟨w.heap.size, 2, none⟩ = some (.string ⟨o.exn.toArray⟩)
  c3 : W.cell? ⟨w.heap.size, 3, none⟩ = some (.int .i64 o.steps)
  own : OwnB W (w.heap.size + 1) vb acc
  be : Below w.heap.size w W
  sz : w.heap.size + 1 ≤ W.heap.size

theorem RInv.call {w W W' : World} {o : Oc} {a : Option Addr} {cap : Nat} {vb : Value} {acc : List UInt8} (h : RInv w o a cap vb acc W) (hb : Below W.heap.size W W') : RInv w o a cap vb acc W' := by
  have k : ∀ n v, W.cell? ⟨w.heap.size, n, none⟩ = some v → W'.cell? ⟨w.heap.size, n, none⟩ = some v := fun n v hv => by
    rw [hb.cell (p := ⟨w.heap.size, n, none⟩) (show w.heap.size < _ by have := h.sz; omega)]; exact hv
  exact ⟨k _ _ h.c0, k _ _ h.c1, k _ _ h.c2, k _ _ h.c3, h.own.below hb (fun g hg => (h.own.lt g hg).2), h.be.trans (hb.mono h.be.size), Nat.le_trans h.sz hb.size⟩

theorem RInv.write {w W W' : World} {o : Oc} {a : Option Addr} {cap : Nat} {vb vb' : Value} {acc acc' : List UInt8} (h : RInv w o a cap vb acc W) (hl : OwnB W' (w.heap.size + 1) vb' acc') (hb : Below (w.heap.size + 1) W W') : RInv w o a cap vb' acc' W' := by
  have k : ∀ n v, W.cell? ⟨w.heap.size, n, none⟩ = some v → W'.cell? ⟨w.heap.size, n, none⟩ = some v := fun n v hv => by
    rw [hb.cell (p := ⟨w.heap.size, n, none⟩) (show w.heap.size < w.heap.size + 1 by omega)]; exact hv
  exact ⟨k _ _ h.c0, k _ _ h.c1, k _ _ h.c2, k _ _ h.c3, hl, h.be.trans (hb.mono (by omega)), Nat.le_trans h.sz hb.size⟩

theorem RInv.start {w : World} {o : Oc} {a : Option Addr} {cap : Nat} : RInv w o a cap (.slice none 0 0) [] (w.alloc (.cells #[.slice a o.out.length cap, .int .i64 o.st, .string ⟨o.exn.toArray⟩, .int .i64 o.steps] 25)) :=
  ⟨by simp, by simp, by simp, by simp, OwnB.nil _ _, (Below.refl _ _).alloc (Nat.le_refl _) _, by simp⟩

/-- what stands written after some lines: all of it, or more than may be -/
def AccIs (ls : List (List UInt8)) (acc : List UInt8) : Prop := acc = Pt.outsB ls ∨ (1048576 < acc.length ∧ 1048576 < (Pt.outsB ls).length)

theorem outsB_take (ls : List (List UInt8)) (k : Nat) : (Pt.outsB (ls.take k)).length ≤ (Pt.outsB ls).length := by
  conv => rhs; rw [← List.take_append_drop k ls]
  unfold Pt.outsB; rw [List.flatMap_append]; simp
end Go.Proofs.YtkjdigojajcgkaaGreatDoor
