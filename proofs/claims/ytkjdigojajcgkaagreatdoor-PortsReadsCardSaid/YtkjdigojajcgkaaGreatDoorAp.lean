/- One byte more behind a row of the call's own. -/
import Derived.Test.YtkjdigojajcgkaaGreatDoorBy
namespace Go.Proofs.YtkjdigojajcgkaaGreatDoor
open Go.RowKit
set_option linter.unusedVariables false

/-- one byte more behind a row of the call's own: 'append(b, c)' -/
theorem app_one {w : World} {ops : Array Oper} {rest : List Oper} {o : Oper} {a : Act} {Q : Exit → Act → World → Prop} {base : Nat} {v : Value} {l : List UInt8} (hown : OwnB w base v l) (hgd : o.guard = none) (sl x : Operand)
    (ho : o.op = .call { callee := .builtin .append, args := #[sl, x], argTypes := #[66, 66] })
    (c : UInt8) (T : TypeId) (hs : a.eval sl = v) (hx : a.eval x = .slice (some ⟨w.heap.size, 0, none⟩) 1 1)
    (hb : l.length + 1 ≤ 140737488355328) (hbase : base ≤ w.heap.size)
    (h : ∀ v' w', OwnB w' base v' (l ++ [c]) → Below base w w' → wpList Tryz.prog ops Q rest (a.put o.dst v') w') : wpList Tryz.prog ops Q (o :: rest) a (w.alloc (.cells #[.int .u8 (c.toNat : Int)] T)) := by
  have hb0 : Below w.heap.size w (w.alloc (.cells #[.int .u8 (c.toNat : Int)] T)) := (Below.refl _ _).alloc (Nat.le_refl _) _
  refine app_row hgd sl x ho base v l [c] 1 ⟨w.heap.size, 0, none⟩ hs (hown.below hb0 (fun g hg => (hown.lt g hg).2)) hx ?_ hb (Nat.le_trans hbase hb0.size) ?_
  · intro j u hj
    match j, hj with
    | 0, hj => simp [Lib.byteCells] at hj; subst hj; simp [Addr.add]
    | j + 1, hj => simp [Lib.byteCells] at hj
  · intro v' w' h1 h2 _
    exact h v' w' h1 ((hb0.mono hbase).trans h2)
end Go.Proofs.YtkjdigojajcgkaaGreatDoor
