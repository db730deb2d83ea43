/- Walks of layer 21: lines in the reference; lines as a text. -/
import Derived.Test.YtkjdigojajcgkaaGreatDoorPw7
namespace Go.Proofs.YtkjdigojajcgkaaGreatDoor
open Go.RowKit
open Pt (Oc)
set_option linter.unusedVariables false
attribute [local go_sem] ext_mk size_mk toList_mk get_mk take_drop_len take_tail_len ByteArray.mk_append_mk List.append_toArray

theorem infoStr : (Tryz.prog.info? 9).map (fun i => (i.zero, i.size, i.bytes)) = some (some (.string ByteArray.empty), 1, 16) := by kernel_rfl

def strCells (ls : List (List UInt8)) : List Value := ls.map fun l => .string ⟨l.toArray⟩

theorem addr_add (g i : Nat) : (⟨g, 0, none⟩ : Addr).add i = ⟨g, i, none⟩ := by
  unfold Addr.add; split <;> simp_all

/-- v is a row of the call's own (from block base on) that holds these strings. -/
def OwnS (w : World) (base : Nat) (v : Value) (ls : List (List UInt8)) : Prop := w.ownsRow base 9 1 v ls.length (strCells ls)

theorem OwnS.nil (w : World) (base : Nat) : OwnS w base (.slice none 0 0) [] := ⟨by simp [strCells], .inl ⟨rfl, rfl⟩⟩

theorem OwnS.form {w : World} {base : Nat} {v : Value} {ls : List (List UInt8)} (h : OwnS w base v ls) (hl : ls.length ≤ 140737488355328) : ∃ a cap, v = .slice a ls.length cap ∧ ls.length ≤ cap ∧ StrsAt w a ls := by
  have hh := h
  obtain ⟨h0, ⟨rfl, h1⟩ | ⟨g, cap, cur, rfl, h2, h3, h4, h5, h6, h7⟩⟩ := h
  · have : ls = [] := List.eq_nil_of_length_eq_zero h1
    subst this
    exact ⟨none, 0, rfl, Nat.le_refl _, by simp, .inl rfl⟩
  · have hlt : g < w.heap.size := by
      rcases Nat.lt_or_ge g w.heap.size with h | h
      · exact h
      · rw [Array.getElem?_eq_none h] at h3; cases h3
    refine ⟨_, cap, rfl, h4, hl, .inr ⟨g, 0, rfl, hlt, fun i hi => ?_⟩⟩
    have := hh.cells (g := g) rfl i (.string ⟨(ls.getD i []).toArray⟩) (by unfold strCells; simp [List.getD, hi])
    rw [addr_add] at this
    simpa using this

theorem app_strs {w : World} {ops : Array Oper} {rest : List Oper} {o : Oper} {a : Act} {Q : Exit → Act → World → Prop} {base : Nat} {v : Value} {ls : List (List UInt8)} (hown : OwnS w base v ls) (hgd : o.guard = none) (sl x : Operand)
    (ho : o.op = .call { callee := .builtin .append, args := #[sl, x], argTypes := #[22, 22] })
    (s : List UInt8) (T : TypeId) (hs : a.eval sl = v) (hx : a.eval x = .slice (some ⟨w.heap.size, 0, none⟩) 1 1)
    (hb : ls.length + 1 ≤ 8796093022208) (hbase : base ≤ w.heap.size)
    (h : ∀ v' w', OwnS w' base v' (ls ++ [s]) → Below base w w' → wpList Tryz.prog ops Q rest (a.put o.dst v') w') : wpList Tryz.prog ops Q (o :: rest) a (w.alloc (.cells #[.string ⟨s.toArray⟩] T)) := by
  obtain ⟨i0, hi, hz0, hz1, hz2⟩ := info_parts infoStr
  have hb0 : Below w.heap.size w (w.alloc (.cells #[.string ⟨s.toArray⟩] T)) := (Below.refl _ _).alloc (Nat.le_refl _) _
  have hown1 : OwnS (w.alloc (.cells #[.string ⟨s.toArray⟩] T)) base v ls := by
    obtain ⟨h0, ⟨rfl, h1⟩ | ⟨g, cap, cur, rfl, h2, h3, h4⟩⟩ := hown
    · exact ⟨h0, .inl ⟨rfl, h1⟩⟩
    · have hlt : g < w.heap.size := by
        rcases Nat.lt_or_ge g w.heap.size with h | h
        · exact h
        · rw [Array.getElem?_eq_none h] at h3; cases h3
      exact ⟨h0, .inr ⟨g, cap, cur, rfl, h2, by rw [hb0.block g hlt]; exact h3, h4⟩⟩
  refine wpList_append_own _ hgd sl x 22 ho base 9 i0 (.string ByteArray.empty) 1 16 Tryz.underlying22 hi hz0 hz1 hz2 rfl (by decide) v ls.length (strCells ls) hs hown1 ⟨w.heap.size, 0, none⟩ 1 1 [.string ⟨s.toArray⟩] hx rfl ?_ (by intro u hu; simp at hu; subst hu; rfl) ?_ ?_ (Nat.le_trans hbase hb0.size) ?_
  · intro j u hj
    match j, hj with
    | 0, hj => simp at hj; subst hj; simp [Addr.add]
    | j + 1, hj => simp at hj
  · unfold maxLen; omega
  · omega
  · intro v' w' h1 h2 _
    refine h v' w' ?_ ((hb0.mono hbase).trans ((Below.refl base _).grown h2 (Nat.le_trans hbase hb0.size) (fun k hk => (hown1.lt k hk).1)))
    unfold OwnS
    rw [List.length_append]
    have e : strCells (ls ++ [s]) = strCells ls ++ [.string ⟨s.toArray⟩] := by simp [strCells]
    rw [e]; exact h1

theorem drop_take_eq (l : List UInt8) (f k : Nat) : (l.take k).drop f = (l.drop f).take (k - f) := List.drop_take

theorem lines_many {l : List UInt8} {p : List (List UInt8)} (hl : l.length ≤ 1048576) (hp : Pt.linesL l = p) (h : 65536 < p.length) : Pt.linesE l = 3 := by unfold Pt.linesE; rw [if_pos hl, hp, if_neg (by omega)]

theorem lines_fine {l : List UInt8} {p : List (List UInt8)} (hl : l.length ≤ 1048576) (hp : Pt.linesL l = p) (h : p.length ≤ 65536) : Pt.linesE l = 0 ∧ Pt.linesB l = p := by
  have : Pt.linesE l = 0 := by unfold Pt.linesE; rw [if_pos hl, hp, if_pos h]
  exact ⟨this, by unfold Pt.linesB; rw [if_pos this, hp]⟩
end Go.Proofs.YtkjdigojajcgkaaGreatDoor
