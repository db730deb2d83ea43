/- Walks of layer 16's reference: two programs that lie the same are the same. -/
import Derived.Test.YtokjkligechcoaaGreatDoorDs
set_option linter.unusedVariables false
namespace Go.Proofs.YtokjkligechcoaaGreatDoor
open Go.RowKit
attribute [local go_sem] ext_mk size_mk toList_mk get_mk take_drop_len take_tail_len ByteArray.mk_append_mk List.append_toArray
theorem cell_a1 {W : World} {p : Addr} {v : Value} (h : W.cell? p = some v) (o : Obj) : (W.alloc o).cell? p = some v := by
 rw [World.cell?_alloc_lt W o p (World.block_lt_of_cell? W p h)]; exact h
theorem xbx {W : World} {m : Nat} {a b c d e f : Value} (h : KAt W m (.cells #[a, b, c, d, e, f] 58 (0, 0))) : W.cell? ⟨m, 0, none⟩ = some a ∧ W.cell? ⟨m, 1, none⟩ = some b ∧ W.cell? ⟨m, 2, none⟩ = some c ∧ W.cell? ⟨m, 3, none⟩ = some d ∧ W.cell? ⟨m, 4, none⟩ = some e ∧ W.cell? ⟨m, 5, none⟩ = some f := by
 refine ⟨?_, ?_, ?_, ?_, ?_, ?_⟩
 all_goals (rw [cell_of_row _ _ _ _ _ _ h.x]; rfl)
/-- two blocks that have just been made, behind a draw -/
theorem two_new (W : World) (cs ds : Array Value) (T U : TypeId) : Below W.heap.size W (((W.alloc (.cells cs T)).alloc (.cells ds U)).drew) ∧ KAt (((W.alloc (.cells cs T)).alloc (.cells ds U)).drew) W.heap.size (.cells cs T (0, 0)) ∧ KAt (((W.alloc (.cells cs T)).alloc (.cells ds U)).drew) (W.heap.size + 1) (.cells ds U (0, 0)) := by
 have hz : (W.alloc (.cells cs T)).heap.size = W.heap.size + 1 := by simp
 have h1 := KAt.new (W.alloc (.cells cs T)) (.cells ds U (0, 0))
 rw [hz] at h1
 exact ⟨(((Below.refl _ _).alloc (Nat.le_refl _) _).alloc (by simp) _).drew, ((KAt.new W (.cells cs T (0, 0))).alloc _).below (Below.refl _ _).drew, h1.below (Below.refl _ _).drew⟩
theorem pbx {W : World} {m : Nat} {a b c d : Value} (h : KAt W m (.cells #[a, b, c, d] 26 (0, 0))) : W.cell? ⟨m, 0, none⟩ = some a ∧ W.cell? ⟨m, 1, none⟩ = some b ∧ W.cell? ⟨m, 2, none⟩ = some c ∧ W.cell? ⟨m, 3, none⟩ = some d := by
 refine ⟨?_, ?_, ?_, ?_⟩
 all_goals (rw [cell_of_row _ _ _ _ _ _ h.x]; rfl)
end Go.Proofs.YtokjkligechcoaaGreatDoor
