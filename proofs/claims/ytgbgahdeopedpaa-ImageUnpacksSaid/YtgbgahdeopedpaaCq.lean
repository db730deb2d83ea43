/- Walks of layer 16's reference: which instructions set a register. -/
import Derived.Test.YtgbgahdeopedpaaCp
namespace Go.Proofs.Ytgbgahdeopedpaa
open Go.RowKit
set_option linter.unusedVariables false
attribute [local go_sem] ext_mk size_mk toList_mk get_mk take_drop_len take_tail_len ByteArray.mk_append_mk List.append_toArray

theorem setsI_eq (op : Int) : setsI op = ((decide (1 ≤ op) && decide (op ≤ 6)) || (op == 8)) := by
  rw [Bool.eq_iff_iff]; simp [setsI]; omega

theorem rsets_any (op a b c : Int) (la ra : Option Addr) (ln lc rn rc : Nat) (w : World) : Calls Try.prog 93 #[.agg #[.int .i64 op, .int .i64 a, .int .i64 b, .int .i64 c, .slice la ln lc, .slice ra rn rc]] w fun x w' => x = .returned (.bool (setsI op)) ∧ Below w.heap.size w w' := by
  have HU := Lib.hid (setsI_eq op)
  go_enter Try.func93, Try.ntmps93
  go_wp2
  all_goals go_ret
  all_goals exact ⟨ret_bool (by rw [HU.out]; first | (simp [*]; done) | (simp [*]; omega)), (Below.refl _ _).alloc (Nat.le_refl _) _⟩
end Go.Proofs.Ytgbgahdeopedpaa
