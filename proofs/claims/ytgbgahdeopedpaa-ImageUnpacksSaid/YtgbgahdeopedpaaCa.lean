/- Walks of layer 16 at any instruction: what it does next, what it sets. -/
import Derived.Test.YtgbgahdeopedpaaIw
namespace Go.Proofs.Ytgbgahdeopedpaa
open Go.RowKit
set_option linter.unusedVariables false
attribute [local go_sem] ext_mk size_mk toList_mk get_mk take_drop_len take_tail_len ByteArray.mk_append_mk List.append_toArray

/-- what an instruction does next: it goes on, leaves, or jumps -/
def onI (op : Int) : Int := if op == 9 || op == 10 then 2 else if op == 11 || op == 12 || op == 13 then 1 else 0

/-- does an instruction set its register A? -/
def setsI (op : Int) : Bool := op == 1 || op == 2 || op == 3 || op == 4 || op == 5 || op == 6 || op == 8

theorem on_any (op a b c : Int) (la ra : Option Addr) (ln lc rn rc : Nat) (w : World) : Calls Try.prog 50 #[.agg #[.int .i64 op, .int .i64 a, .int .i64 b, .int .i64 c, .slice la ln lc, .slice ra rn rc]] w fun x w' => x = .returned (.int .i64 (onI op)) ∧ Below w.heap.size w w' := by
  go_enter Try.func50, Try.ntmps50
  go_wp2
  all_goals go_ret
  all_goals refine ⟨?_, (Below.refl _ _).alloc (Nat.le_refl _) _⟩
  all_goals (simp only [onI, *, Bool.true_or, Bool.or_true, Bool.or_false, if_true, if_false, Bool.false_eq_true]; rfl)

theorem sets_any (op a b c : Int) (la ra : Option Addr) (ln lc rn rc : Nat) (w : World) : Calls Try.prog 70 #[.agg #[.int .i64 op, .int .i64 a, .int .i64 b, .int .i64 c, .slice la ln lc, .slice ra rn rc]] w fun x w' => x = .returned (.bool (setsI op)) ∧ Below w.heap.size w w' := by
  go_enter Try.func70, Try.ntmps70
  go_wp2
  all_goals go_ret
  all_goals refine ⟨?_, (Below.refl _ _).alloc (Nat.le_refl _) _⟩
  all_goals (simp only [setsI, *, Bool.true_or, Bool.or_true, Bool.or_false]; first | done | rfl)
end Go.Proofs.Ytgbgahdeopedpaa
