/- Walks of layer 16: the world of a program. -/
import Derived.Test.YtgbgahdeopedpaaIa
import Derived.Deep.RegionLaw
import Derived.Deep.RegionHeldLaw
import Derived.Deep.RegionHeld3
import Derived.Deep.RegionLaw
import Derived.BigRegion
namespace Go.Proofs.Ytgbgahdeopedpaa
open Go.RowKit
set_option linter.unusedVariables false
attribute [local go_sem] ext_mk size_mk toList_mk get_mk take_drop_len take_tail_len ByteArray.mk_append_mk List.append_toArray

theorem infoBool : (Try.prog.info? 4).map (fun i => (i.zero, i.size, i.bytes)) = some (some (.bool false), 1, 1) := by kernel_rfl

/-- the block of a program's world -/
def WBlk (W : World) (b : Nat) (v0 v1 v2 v3 pr al : Value) : Prop := W.heap[b]? = some (.cells #[v0, v1, v2, v3, pr, al] 114 (0, 0))

/-- behind the first box -/
structure WS (w W : World) : Prop where
  lt : w.heap.size < W.heap.size
  be : Below w.heap.size w W

theorem WS.keep {w W V : World} (h : WS w W) (hb : Below W.heap.size W V) : WS w V := ⟨Nat.lt_of_lt_of_le h.lt hb.size, h.be.trans (hb.mono h.be.size)⟩

theorem WS.cell {w W V : World} {k : Nat} {v : Value} (h : WS w W) (hc : W.cell? ⟨w.heap.size, k, none⟩ = some v) (hb : Below W.heap.size W V) : V.cell? ⟨w.heap.size, k, none⟩ = some v := by
  rw [hb.cell (p := ⟨w.heap.size, k, none⟩) h.lt]; exact hc

theorem WBlk.cells {W : World} {b : Nat} {v0 v1 v2 v3 pr al : Value} (h : WBlk W b v0 v1 v2 v3 pr al) :
    (W.cell? ⟨b, 0, none⟩ = some v0 ∧ W.cell? ⟨b, 1, none⟩ = some v1 ∧ W.cell? ⟨b, 2, none⟩ = some v2 ∧ W.cell? ⟨b, 3, none⟩ = some v3 ∧ W.cell? ⟨b, 4, none⟩ = some pr ∧ W.cell? ⟨b, 5, none⟩ = some al) ∧ W.frozen? ⟨b, 5, none⟩ = false := by
  refine ⟨⟨?_, ?_, ?_, ?_, ?_, ?_⟩, frozen_of_row _ _ _ _ _ h⟩
  all_goals rw [cell_of_row _ _ _ _ _ _ h]; rfl

theorem WBlk.set5 {W : World} {b : Nat} {v0 v1 v2 v3 pr al : Value} (h : WBlk W b v0 v1 v2 v3 pr al) (x : Value) : WBlk (W.setCell ⟨b, 5, none⟩ x) b v0 v1 v2 v3 pr x := heap_setCell_same (i := 5) _ _ _ _ x h

theorem WBlk.lt {W : World} {b : Nat} {v0 v1 v2 v3 pr al : Value} (h : WBlk W b v0 v1 v2 v3 pr al) : b < W.heap.size := by
  rcases Nat.lt_or_ge b W.heap.size with g | g
  · exact g
  · unfold WBlk at h; rw [Array.getElem?_eq_none g] at h; cases h

theorem WBlk.below {W V : World} {b : Nat} {v0 v1 v2 v3 pr al : Value} (h : WBlk W b v0 v1 v2 v3 pr al) (hb : Below W.heap.size W V) : WBlk V b v0 v1 v2 v3 pr al := by
  unfold WBlk; rw [hb.block b h.lt]; exact h

theorem PrAt.belowB {w w' : World} {g b : Nat} (h : PrAt w g) (hg : g < b) (hb : Below b w w') : PrAt w' g := by
  refine ⟨Nat.lt_of_lt_of_le h.1 hb.size, fun i hi => ?_⟩
  have e : ∀ k, w'.cell? ⟨g, k, none⟩ = w.cell? ⟨g, k, none⟩ := fun k => hb.cell (p := ⟨g, k, none⟩) hg
  simp only [e]; exact h.2 i hi

theorem row_below {w w' : World} {base n : Nat} {e : TypeId} {size : Nat} {v : Value} {xs : List Value} (h : w.ownsRow base e size v n xs) (hb : Below w.heap.size w w') : w'.ownsRow base e size v n xs :=
  World.ownsRow.kept (row := none) h ⟨hb.os, hb.tape, hb.output, hb.size, fun k hk _ => hb.block k hk⟩ (by cases v.ownBlock <;> simp)

theorem wblk_grown {W V : World} {b k : Nat} {v0 v1 v2 v3 pr al : Value} {cs : List Value} {o : Obj} (h : WBlk W b v0 v1 v2 v3 pr al) (hown : W.ownsRow (b + 1) 4 1 al k cs) (hG : (W.alloc o).grownBy V al.ownBlock) : WBlk V b v0 v1 v2 v3 pr al := by
  unfold WBlk
  have hlt := h.lt
  rw [hG.block b (by simp; omega) (fun e => by have := (hown.lt b e.symm).1; omega)]
  exact h.below ((Below.refl _ _).alloc (Nat.le_refl _) _)

theorem step_bool {W : World} {b k : Nat} {v0 v1 v2 v3 pr al : Value} {cs : List Value} {bv : Bool} {T : TypeId} {ops : Array Oper} {o : Oper} {a : Act} {K : Act → World → Prop} {Q : Exit → Act → World → Prop} {E : Prop}
    (hW : WBlk W b v0 v1 v2 v3 pr al) (hown : W.ownsRow (b + 1) 4 1 al k cs) (hk : k < 61) (hgd : o.guard = none) (s x : Operand) (ho : o.op = .call { callee := .builtin .append, args := #[s, x], argTypes := #[112, 112] })
    (hs : a.eval s = al) (hx : a.eval x = .slice (some ⟨W.heap.size, 0, none⟩) 1 1)
    (h : ∀ g cap V, WBlk V b v0 v1 v2 v3 pr al → V.cell? ⟨b, 5, none⟩ = some al → V.frozen? ⟨b, 5, none⟩ = false → V.ownsRow (b + 1) 4 1 (.slice (some ⟨g, 0, none⟩) (k + 1) cap) (k + 1) (cs ++ [.bool bv]) → Below b W V → K (a.put o.dst (.slice (some ⟨g, 0, none⟩) (k + 1) cap)) V) :
    if Region.wanted o (yielded ops a.tmps) = true then Oper.wp Try.prog o a (W.alloc (.cells #[.bool bv] T)) K Q else E := by
  obtain ⟨i0, hi, hz0, hz1, hz2⟩ := info_parts infoBool
  have hlt := hW.lt
  have hb0 : Below W.heap.size W (W.alloc (.cells #[.bool bv] T)) := (Below.refl _ _).alloc (Nat.le_refl _) _
  have hown1 := row_below hown hb0
  refine step_append_lies _ hgd s x 112 ho (b + 1) 4 i0 (.bool false) 1 1 Try.underlying112 hi hz0 hz1 hz2 rfl (by decide) al k cs hs hown1 ⟨W.heap.size, 0, none⟩ 1 1 [.bool bv] hx rfl (World.news_of_block (heap_alloc_new _ _)) (by intro u hu; simp at hu; subst hu; rfl) (by decide) (by unfold maxLen; omega) (by omega) (by simp; omega) _ rfl ?_
  intro g cap V k1 k2 _ _
  have hV := wblk_grown hW hown k2
  refine h g cap V hV hV.cells.1.2.2.2.2.2 hV.cells.2 k1 ?_
  exact (hb0.mono (by omega)).trans ((Below.refl b _).grown k2 (by simp; omega) (fun j hj => by have := (hown1.lt j hj).1; omega))

end Go.Proofs.Ytgbgahdeopedpaa
