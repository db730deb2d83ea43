/- Rows of bytes of the call's own: append, and made a string. -/
import Derived.Test.YtkjdigojajcgkaaGreatDoorChecked
import Derived.Test.YtkjdigojajcgkaaGreatDoorBase
import Derived.Lib.AppendStr
import Derived.Lib.UnsafeStr
import Derived.OwnWalk
import Derived.KernelRfl
namespace Go.Proofs.YtkjdigojajcgkaaGreatDoor
open Go.RowKit

theorem infoU8 : (Tryz.prog.info? 5).map (fun i => (i.zero, i.size, i.bytes)) = some (some (.int .u8 0), 1, 1) := by kernel_rfl

/-- v is a row of the call's own (from block base on) that holds these bytes. -/
def OwnB (w : World) (base : Nat) (v : Value) (l : List UInt8) : Prop := w.ownsRow base 5 1 v l.length (Lib.byteCells l)

theorem OwnB.nil (w : World) (base : Nat) : OwnB w base (.slice none 0 0) [] := ⟨by simp [Lib.byteCells], .inl ⟨rfl, rfl⟩⟩

theorem app_str {w : World} {ops : Array Oper} {rest : List Oper} {o : Oper} {a : Act} {Q : Exit → Act → World → Prop} (hgd : o.guard = none) (sl x : Operand)
    (ho : o.op = .call { callee := .builtin .append, args := #[sl, x], argTypes := #[66, 9] })
    (base : Nat) (v : Value) (l s : List UInt8) (hs : a.eval sl = v) (hown : OwnB w base v l) (hx : a.eval x = .string ⟨s.toArray⟩)
    (hb : l.length + s.length ≤ 140737488355328) (hbase : base ≤ w.heap.size)
    (h : ∀ v' w', OwnB w' base v' (l ++ s) → Below base w w' → w.grownBy w' v.ownBlock → wpList Tryz.prog ops Q rest (a.put o.dst v') w') : wpList Tryz.prog ops Q (o :: rest) a w := by
  obtain ⟨i0, hi, hz0, hz1, hz2⟩ := info_parts infoU8
  refine Lib.wpList_append_own_string _ hgd sl x 66 9 ho base 5 i0 Tryz.underlying66 Tryz.underlying9 hi hz0 hz1 hz2 v l.length (Lib.byteCells l) hs hown ⟨s.toArray⟩ hx ?_ ?_ hbase ?_
  · rw [size_mk]; unfold maxLen; omega
  · rw [size_mk]; exact hb
  · intro v' w' h1 h2 _
    refine h v' w' ?_ ((Below.refl base w).grown h2 hbase (fun k hk => (hown.lt k hk).1)) h2
    unfold OwnB
    rw [size_mk] at h1
    rw [List.length_append]
    have e : Lib.byteCells l ++ Lib.strCells ⟨s.toArray⟩ = Lib.byteCells (l ++ s) := by simp [Lib.byteCells, Lib.strCells]
    rw [← e]; exact h1

theorem app_row {w : World} {ops : Array Oper} {rest : List Oper} {o : Oper} {a : Act} {Q : Exit → Act → World → Prop} (hgd : o.guard = none) (sl x : Operand)
    (ho : o.op = .call { callee := .builtin .append, args := #[sl, x], argTypes := #[66, 66] })
    (base : Nat) (v : Value) (l s : List UInt8) (c : Nat) (ad : Addr) (hs : a.eval sl = v) (hown : OwnB w base v l) (hx : a.eval x = .slice (some ad) s.length c) (hcell : ∀ j u, (Lib.byteCells s)[j]? = some u → w.cell? (ad.add j) = some u)
    (hb : l.length + s.length ≤ 140737488355328) (hbase : base ≤ w.heap.size)
    (h : ∀ v' w', OwnB w' base v' (l ++ s) → Below base w w' → w.grownBy w' v.ownBlock → wpList Tryz.prog ops Q rest (a.put o.dst v') w') : wpList Tryz.prog ops Q (o :: rest) a w := by
  obtain ⟨i0, hi, hz0, hz1, hz2⟩ := info_parts infoU8
  refine wpList_append_own _ hgd sl x 66 ho base 5 i0 (.int .u8 0) 1 1 Tryz.underlying66 hi hz0 hz1 hz2 rfl (by decide) v l.length (Lib.byteCells l) hs hown ad s.length c (Lib.byteCells s) hx (by simp [Lib.byteCells]) hcell (by intro u hu; simp [Lib.byteCells] at hu; obtain ⟨b, _, rfl⟩ := hu; rfl) ?_ ?_ hbase ?_
  · unfold maxLen; omega
  · omega
  · intro v' w' h1 h2 _
    refine h v' w' ?_ ((Below.refl base w).grown h2 hbase (fun k hk => (hown.lt k hk).1)) h2
    unfold OwnB
    rw [List.length_append]
    have e : Lib.byteCells l ++ Lib.byteCells s = Lib.byteCells (l ++ s) := by simp [Lib.byteCells]
    rw [← e]; exact h1

theorem conv_own {w : World} {base : Nat} {v : Value} {l : List UInt8} (h : OwnB w base v l) : Sem.run Tryz.prog (convert 66 9 v) w = .ok (.string ⟨l.toArray⟩) w := by
  obtain ⟨hl, ⟨rfl, h0⟩ | ⟨g, cap, cur, rfl, hg, hcur, hn, hcap, hsz, htk⟩⟩ := h
  · rw [run_convert_bytes_nil w 66 5 Tryz.underlying66 Tryz.underlying5 0 0 9 Tryz.underlying9]
    have : l = [] := List.eq_nil_of_length_eq_zero h0
    subst this; rfl
  · refine run_convert_bytes_back _ 66 9 5 ⟨g, 0, none⟩ cap l Tryz.underlying66 Tryz.underlying5 Tryz.underlying9 (fun j hj => ?_)
    have hown : w.ownsRow base 5 1 (.slice (some ⟨g, 0, none⟩) l.length cap) l.length (Lib.byteCells l) := ⟨hl, .inr ⟨g, cap, cur, rfl, hg, hcur, hn, hcap, hsz, htk⟩⟩
    exact hown.cells (g := g) rfl j _ (by simp [Lib.byteCells, hj])

theorem OwnB.form {w : World} {base : Nat} {v : Value} {l : List UInt8} (h : OwnB w base v l) : ∃ a cap, v = .slice a l.length cap := by
  obtain ⟨_, ⟨rfl, h0⟩ | ⟨g, cap, cur, rfl, _⟩⟩ := h
  · exact ⟨none, 0, by rw [h0]⟩
  · exact ⟨_, cap, rfl⟩

theorem OwnB.below {w w' : World} {B base : Nat} {v : Value} {l : List UInt8} (h : OwnB w base v l) (hb : Below B w w') (hB : ∀ g, v.ownBlock = some g → g < B) : OwnB w' base v l := by
  obtain ⟨hl, ⟨rfl, h0⟩ | ⟨g, cap, cur, rfl, hg, hcur, hn, hcap, hsz, htk⟩⟩ := h
  · exact ⟨hl, .inl ⟨rfl, h0⟩⟩
  · exact ⟨hl, .inr ⟨g, cap, cur, rfl, hg, by rw [hb.block g (hB g rfl)]; exact hcur, hn, hcap, hsz, htk⟩⟩
end Go.Proofs.YtkjdigojajcgkaaGreatDoor
