/- Walks of layer 16: the world of a program. -/
import Derived.Test.YtgbgahdeopedpaaIa
import Derived.Deep.RegionLaw
import Derived.Deep.RegionHeldLaw
import Derived.Deep.RegionHeld3
import Derived.Deep.RegionLaw
import Derived.BigRegion
namespace Go.Proofs.Ytgbgahdeopedpaa
open Go.RowKit
set_option linter.unusedVariables false
attribute [local go_sem] ext_mk size_mk toList_mk get_mk take_drop_len take_tail_len ByteArray.mk_append_mk List.append_toArray

theorem infoBool : (Try.prog.info? 4).map (fun i => (i.zero, i.size, i.bytes)) = some (some (.bool false), 1, 1) := by kernel_rfl

/-- the block of a program's world -/
def WBlk (W : World) (b : Nat) (v0 v1 v2 v3 pr al : Value) : Prop := W.heap[b]? = some (.cells #[v0, v1, v2, v3, pr, al] 114 (0, 0))

/-- behind the first box -/
structure WS (w W : World) : Prop where
  lt : w.heap.size < W.heap.size
  be : Below w.heap.size w W

theorem WS.keep {w W V : World} (h : WS w W) (hb : Below W.heap.size W V) : WS w V := ⟨Nat.lt_of_lt_of_le h.lt hb.size, h.be.trans (hb.mono h.be.size)⟩

theorem WS.cell {w W V : World} {k : Nat} {v : Value} (h : WS w W) (hc : W.cell? ⟨w.heap.size, k, none⟩ = some v) (hb : Below W.heap.size W V) : V.cell? ⟨w.heap.size, k, none⟩ = some v := by
  rw [hb.cell (p := ⟨w.heap.size, k, none⟩) h.lt]; exact hc

theorem WBlk.cells {W : World} {b : Nat} {v0 v1 v2 v3 pr al : Value} (h : WBlk W b v0 v1 v2 v3 pr al) :
    (W.cell? ⟨b, 0, none⟩ = some v0 ∧ W.cell? ⟨b, 1, none⟩ = some v1 ∧ W.cell? ⟨b, 2, none⟩ = some v2 ∧ W.cell? ⟨b, 3, none⟩ = some v3 ∧ W.cell? ⟨b, 4, none⟩ = some pr ∧ W.cell? ⟨b, 5, none⟩ = some al) ∧ W.frozen? ⟨b, 5, none⟩ = false := by
  refine ⟨⟨?_, ?_, ?_, ?_, ?_, ?_⟩, frozen_of_row _ _ _ _ _ h⟩
  all_goals rw [cell_of_row _ _ _ _ _ _ h]; rfl

theorem WBlk.set5 {W : World} {b : Nat} {v0 v1 v2 v3 pr al : Value} (h : WBlk W b v0 v1 v2 v3 pr al) (x : Value) : WBlk (W.setCell ⟨b, 5, none⟩ x) b v0 v1 v2 v3 pr x := heap_setCell_same (i := 5) _ _ _ _ x h

theorem WBlk.lt {W : World} {b : Nat} {v0 v1 v2 v3 pr al : Value} (h : WBlk W b v0 v1 v2 v3 pr al) : b < W.heap.size := by
  rcases Nat.lt_or_ge b W.heap.size with g | g
  · exact g
  · unfold WBlk at h; rw [Array.getElem?_eq_none g] at h; cases h

theorem WBlk.below {W V : World} {b : Nat} {v0 v1 v2 v3 pr al : Value} (h : WBlk W b v0 v1 v2 v3 pr al) (hb : Below W.heap.size W V) : WBlk V b v0 v1 v2 v3 pr al := by
  unfold WBlk; rw [hb.block b h.lt]; exact h

theorem PrAt.belowB {w w' : World} {g b : Nat} (h : PrAt w g) (hg : g < b) (hb : Below b w w') : PrAt w' g := by
  refine ⟨Nat.lt_of_lt_of_le h.1 hb.size, fun i hi => ?_⟩
  have e : ∀ k, w'.cell? ⟨g, k, none⟩ = w.cell? ⟨g, k, none⟩ := fun k => hb.cell (p := ⟨g, k, none⟩) hg
  simp only [e]; exact h.2 i hi

theorem row_below {w w' : World} {base n : Nat} {e : TypeId} {size : Nat} {v : Value} {xs : List Value} (h : w.ownsRow base e size v n xs) (hb : Below w.heap.size w w') : w'.ownsRow base e size v n xs :=
  World.ownsRow.kept (row := none) h ⟨hb.os, hb.tape, hb.output, hb.size, fun k hk _ => hb.block k hk⟩ (by cases v.ownBlock <;> simp)

theorem wblk_grown {W V : World} {b k : Nat} {v0 v1 v2 v3 pr al : Value} {cs : List Value} {o : Obj} (h : WBlk W b v0 v1 v2 v3 pr al) (hown : W.ownsRow (b + 1) 4 1 al k cs) (hG : (W.alloc o).grownBy V al.ownBlock) : WBlk V b v0 v1 v2 v3 pr al := by
  unfold WBlk
  have hlt := h.lt
  rw [hG.block b (by simp; omega) (fun e => by have := (hown.lt b e.symm).1; omega)]
  exact h.below ((Below.refl _ _).alloc (Nat.le_refl _) _)

theorem step_bool {W : World} {b k : Nat} {v0 v1 v2 v3 pr al : Value} {cs : List Value} {bv : Bool} {T : TypeId} {ops : Array Oper} {o : Oper} {a : Act} {K : Act → World → Prop} {Q : Exit → Act → World → Prop} {E : Prop}
    (hW : WBlk W b v0 v1 v2 v3 pr al) (hown : W.ownsRow (b + 1) 4 1 al k cs) (hk : k < 61) (hgd : o.guard = none) (s x : Operand) (ho : o.op = .call { callee := .builtin .append, args := #[s, x], argTypes := #[112, 112] })
    (hs : a.eval s = al) (hx : a.eval x = .slice (some ⟨W.heap.size, 0, none⟩) 1 1)
    (h : ∀ g cap V, WBlk V b v0 v1 v2 v3 pr al → V.cell? ⟨b, 5, none⟩ = some al → V.frozen? ⟨b, 5, none⟩ = false → V.ownsRow (b + 1) 4 1 (.slice (some ⟨g, 0, none⟩) (k + 1) cap) (k + 1) (cs ++ [.bool bv]) → Below b W V → K (a.put o.dst (.slice (some ⟨g, 0, none⟩) (k + 1) cap)) V) :
    if Region.wanted o (yielded ops a.tmps) = true then Oper.wp Try.prog o a (W.alloc (.cells #[.bool bv] T)) K Q else E := by
  obtain ⟨i0, hi, hz0, hz1, hz2⟩ := info_parts infoBool
  have hlt := hW.lt
  have hb0 : Below W.heap.size W (W.alloc (.cells #[.bool bv] T)) := (Below.refl _ _).alloc (Nat.le_refl _) _
  have hown1 := row_below hown hb0
  refine step_append_lies _ hgd s x 112 ho (b + 1) 4 i0 (.bool false) 1 1 Try.underlying112 hi hz0 hz1 hz2 rfl (by decide) al k cs hs hown1 ⟨W.heap.size, 0, none⟩ 1 1 [.bool bv] hx rfl (World.news_of_block (heap_alloc_new _ _)) (by intro u hu; simp at hu; subst hu; rfl) (by decide) (by unfold maxLen; omega) (by omega) (by simp; omega) _ rfl ?_
  intro g cap V k1 k2 _ _
  have hV := wblk_grown hW hown k2
  refine h g cap V hV hV.cells.1.2.2.2.2.2 hV.cells.2 k1 ?_
  exact (hb0.mono (by omega)).trans ((Below.refl b _).grown k2 (by simp; omega) (fun j hj => by have := (hown1.lt j hj).1; omega))

set_option maxHeartbeats 4000000 in
set_option maxRecDepth 8000 in
theorem worldOf_any (fa sa ra : Option Addr) (fn sn rn fc sc rc : Nat) (en : Int) (w : World) :
    Calls Try.prog 48 #[.agg #[.slice fa fn fc, .slice sa sn sc, .slice ra rn rc, .int .i64 en]] w fun e w' =>
      ∃ b g cap al, e = .returned (.pointer (some ⟨b, 0, none⟩)) ∧ WBlk w' b (.slice fa fn fc) (.slice sa sn sc) (.slice ra rn rc) (.int .i64 en) (.slice (some ⟨g, 0, none⟩) 61 cap) al ∧ PrAt w' g ∧ w.heap.size ≤ b ∧ Below w.heap.size w w' := by
  have CP := Lib.hid (fun W => prims_at W)
  have CA := Lib.hid (fun n W => allocates_any n W)
  have hS0 : ∀ o, WS w (w.alloc o).drew := fun o => ⟨by simp, ((Below.refl _ _).alloc (Nat.le_refl _) _).drew⟩
  go_enter Try.func48, Try.ntmps48
  go_wp2_with fail
  go_region_held3 (fun w' => w'.cell? ⟨w.heap.size, 0, none⟩ = some (.slice fa fn fc) ∧ w'.cell? ⟨w.heap.size, 1, none⟩ = some (.slice sa sn sc) ∧ w'.cell? ⟨w.heap.size, 2, none⟩ = some (.slice ra rn rc) ∧ w'.cell? ⟨w.heap.size, 3, none⟩ = some (.int .i64 en) ∧ WS w w')
    (first
      | (go_keep; done)
      | (refine ⟨?_, ?_, ?_, ?_, hS0 _⟩ <;> (go_keep; done))
      | (go_split_ands; exact ⟨WS.cell (by assumption) (by assumption) hbx, WS.cell (by assumption) (by assumption) hbx, WS.cell (by assumption) (by assumption) hbx, WS.cell (by assumption) (by assumption) hbx, WS.keep (by assumption) hbx⟩)
      | (go_split_ands; exact ⟨WS.cell (by assumption) (by assumption) ((Below.refl _ _).alloc (Nat.le_refl _) _), WS.cell (by assumption) (by assumption) ((Below.refl _ _).alloc (Nat.le_refl _) _), WS.cell (by assumption) (by assumption) ((Below.refl _ _).alloc (Nat.le_refl _) _), WS.cell (by assumption) (by assumption) ((Below.refl _ _).alloc (Nat.le_refl _) _), WS.keep (by assumption) ((Below.refl _ _).alloc (Nat.le_refl _) _)⟩))
    (first | (go_at_call 59; (with_reducible refine (CP.out _).mono ?_); rintro e w1 ⟨g, cap, rfl, hcap, hP, hgw, hbx⟩))
  obtain ⟨b, hbe⟩ : ∃ b, w1.heap.size = b := ⟨_, rfl⟩
  obtain ⟨w2, hw2⟩ : ∃ W, w1.alloc (.cells #[.slice fa fn fc, .slice sa sn sc, .slice ra rn rc, .int .i64 en, .slice (some ⟨g, 0, none⟩) 61 cap, .slice none 0 0] 114) = W := ⟨_, rfl⟩
  have hW2 : WBlk w2 b (.slice fa fn fc) (.slice sa sn sc) (.slice ra rn rc) (.int .i64 en) (.slice (some ⟨g, 0, none⟩) 61 cap) (.slice none 0 0) := by subst hw2; subst hbe; exact heap_alloc_new _ _
  have hB2 : Below b w1 w2 := by subst hw2; subst hbe; exact (Below.refl _ _).alloc (Nat.le_refl _) _
  have hS2 : WS w w2 := by rw [← hw2]; go_split_ands; assumption
  have hgb : g < b := by rw [← hbe]; exact hP.1
  have hP2 : PrAt w2 g := hP.below (by subst hbe; exact hB2)
  have hb1 : w.heap.size ≤ b := by have := hS2.be.size; have h2 := hW2.lt; rw [← hw2] at this; have h3 : (w1.alloc (.cells #[.slice fa fn fc, .slice sa sn sc, .slice ra rn rc, .int .i64 en, .slice (some ⟨g, 0, none⟩) 61 cap, .slice none 0 0] 114)).heap.size = b + 1 := (by simp [hbe]); have h4 := hS2.lt; rw [← hw2, h3] at h4; omega
  rw [hbe, hw2]
  have hl2 := hW2.lt
  obtain ⟨⟨e0, e1, e2, e3, e4, e5⟩, f5⟩ := hW2.cells
  have HW2 := Lib.hid hW2
  clear hW2 hw2 hP hgw hS0 CP hcap
  go_wp2_with fail
  go_loopw [14] (fun vi wr => ∃ (k : Nat) (al : Value) (cs : List Value), vi = .int .i64 k ∧ k ≤ 61 ∧ WBlk wr b (.slice fa fn fc) (.slice sa sn sc) (.slice ra rn rc) (.int .i64 en) (.slice (some ⟨g, 0, none⟩) 61 cap) al ∧ wr.ownsRow (b + 1) 4 1 al k cs ∧ Below b w2 wr) (fun vi _ => 61 - (intOf vi).toNat)
  case atStart => exact ⟨0, _, [], rfl, by decide, HW2.out, World.ownsRow_nil _ _ _ _, Below.refl _ _⟩
  case round =>
    obtain ⟨k, al, cs, rfl, hk, hWr, hown, hbr⟩ := hrel
    have hlr := hWr.lt
    obtain ⟨⟨r0, r1, r2, r3, r4, r5⟩, q5⟩ := hWr.cells
    by_cases hlt : k < 61
    · have HWr := Lib.hid hWr
      have HOwn := Lib.hid hown
      clear hWr hown hP2 hS2 hB2 e0 e1 e2 e3 e4 e5 f5 hl2
      go_wp2_with fail
      go_region_law (first
        | (go_simp; go_at_call 60; refine (CA.out _ _).mono ?_; rintro e w3 ⟨rfl, hb3⟩; have hb3w : Below wr.heap.size wr w3 := ((Below.refl _ _).drew).trans hb3; have hW3 := HWr.out.below hb3w; have hown3 := row_below HOwn.out hb3w; have r53 := hW3.cells.1.2.2.2.2.2; have q53 := hW3.cells.2; have r5a : ∀ o, (w3.alloc o).cell? ⟨b, 5, none⟩ = some al := fun o => (hW3.below ((Below.refl _ _).alloc (Nat.le_refl _) o)).cells.1.2.2.2.2.2)
        | (refine step_bool hW3 hown3 hlt rfl _ _ rfl rfl rfl ?_; intro g' cap' V hWv r5v q5v hownV hBv))
      all_goals go_wp2_with fail
      all_goals go_roundw
      all_goals first
        | exact ⟨k + 1, _, _, by go_num, hlt, hWv.set5 _, ownsRow_setCell_below hownV (a := ⟨b, 5, none⟩) (Nat.lt_succ_self b) _, ((hbr.trans (hb3w.mono (Nat.le_of_lt hlr))).trans hBv).setCell (p := ⟨b, 5, none⟩) (Nat.le_refl _) _⟩
        | (simp [intOf]; omega)
    · obtain rfl : k = 61 := by omega
      go_wp2_with fail
      go_ret
      exact ⟨b, g, cap, al, rfl, hWr, hP2.belowB hgb hbr, hb1, hS2.be.trans (hbr.mono hb1)⟩
end Go.Proofs.Ytgbgahdeopedpaa
