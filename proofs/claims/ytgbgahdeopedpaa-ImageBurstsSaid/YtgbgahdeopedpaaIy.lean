/- Rows of bytes of the call's own, of layer 24. -/
import Derived.Test.YtgbgahdeopedpaaIl
import Derived.Test.YtgbgahdeopedpaaIu
import Derived.Lib.AppendStr
import Derived.Lib.UnsafeStr
import Derived.OwnWalk
import Derived.ArgAppend
import Derived.Lib.SlBytesConst
import Derived.Lib.SmallJoins
import Derived.Laws.IdiomStrings
import Derived.KernelRfl
namespace Go.Proofs.Ytgbgahdeopedpaa
open Go.RowKit
set_option linter.unusedVariables false
attribute [local go_sem] ext_mk size_mk toList_mk get_mk take_drop_len take_tail_len ByteArray.mk_append_mk List.append_toArray

/-- v is a row of the call's own (from block base on) that holds these bytes. -/
def OwnB (w : World) (base : Nat) (v : Value) (l : List UInt8) : Prop := w.ownsRow base 5 1 v l.length (Lib.byteCells l)

theorem OwnB.nil (w : World) (base : Nat) : OwnB w base (.slice none 0 0) [] := ⟨by simp [Lib.byteCells], .inl ⟨rfl, rfl⟩⟩

theorem conv_own {w : World} {base : Nat} {v : Value} {l : List UInt8} (h : OwnB w base v l) : Sem.run Try.prog (convert 22 9 v) w = .ok (.string ⟨l.toArray⟩) w := by
  obtain ⟨hl, ⟨rfl, h0⟩ | ⟨g, cap, cur, rfl, hg, hcur, hn, hcap, hsz, htk⟩⟩ := h
  · rw [run_convert_bytes_nil w 22 5 Try.underlying22 Try.underlying5 0 0 9 Try.underlying9]
    have : l = [] := List.eq_nil_of_length_eq_zero h0
    subst this; rfl
  · refine run_convert_bytes_back _ 22 9 5 ⟨g, 0, none⟩ cap l Try.underlying22 Try.underlying5 Try.underlying9 (fun j hj => ?_)
    have hown : w.ownsRow base 5 1 (.slice (some ⟨g, 0, none⟩) l.length cap) l.length (Lib.byteCells l) := ⟨hl, .inr ⟨g, cap, cur, rfl, hg, hcur, hn, hcap, hsz, htk⟩⟩
    exact hown.cells (g := g) rfl j _ (by simp [Lib.byteCells, hj])

theorem OwnB.form {w : World} {base : Nat} {v : Value} {l : List UInt8} (h : OwnB w base v l) : ∃ a cap, v = .slice a l.length cap := by
  obtain ⟨_, ⟨rfl, h0⟩ | ⟨g, cap, cur, rfl, _⟩⟩ := h
  · exact ⟨none, 0, by rw [h0]⟩
  · exact ⟨_, cap, rfl⟩

theorem OwnB.below {w w' : World} {B base : Nat} {v : Value} {l : List UInt8} (h : OwnB w base v l) (hb : Below B w w') (hB : ∀ g, v.ownBlock = some g → g < B) : OwnB w' base v l := by
  obtain ⟨hl, ⟨rfl, h0⟩ | ⟨g, cap, cur, rfl, hg, hcur, hn, hcap, hsz, htk⟩⟩ := h
  · exact ⟨hl, .inl ⟨rfl, h0⟩⟩
  · exact ⟨hl, .inr ⟨g, cap, cur, rfl, hg, by rw [hb.block g (hB g rfl)]; exact hcur, hn, hcap, hsz, htk⟩⟩

/-- bytes behind a row of the call's own: what of the other blocks is kept -/
theorem app_keep {w : World} {ops : Array Oper} {rest : List Oper} {o : Oper} {a : Act} {Q : Exit → Act → World → Prop} (hgd : o.guard = none) (sl x : Operand)
    (ho : o.op = .call { callee := .builtin .append, args := #[sl, x], argTypes := #[22, 22] })
    (base : Nat) (v : Value) (l s : List UInt8) (c : Nat) (ad : Addr) (hs : a.eval sl = v) (hown : OwnB w base v l) (hx : a.eval x = .slice (some ad) s.length c) (hcell : ∀ j u, (Lib.byteCells s)[j]? = some u → w.cell? (ad.add j) = some u)
    (h0 : 0 < s.length) (hb : l.length + s.length ≤ 1000000) (hbase : base ≤ w.heap.size)
    (h : ∀ g cap w', OwnB w' base (.slice (some ⟨g, 0, none⟩) (l ++ s).length cap) (l ++ s) → Below base w w' → (∀ j, j < w.heap.size → v.ownBlock ≠ some j → w'.heap[j]? = w.heap[j]?) → (v.ownBlock = some g ∨ g = w.heap.size) → g < w'.heap.size → wpList Try.prog ops Q rest (a.put o.dst (.slice (some ⟨g, 0, none⟩) (l.length + s.length) cap)) w') : wpList Try.prog ops Q (o :: rest) a w := by
  obtain ⟨i0, hi, hz0, hz1, hz2⟩ := info_parts infoU8
  refine wpList_append_lies _ hgd sl x 22 ho base 5 i0 (.int .u8 0) 1 1 Try.underlying22 hi hz0 hz1 hz2 rfl (by decide) v l.length (Lib.byteCells l) hs hown ad s.length c (Lib.byteCells s) hx (by simp [Lib.byteCells]) hcell (by intro u hu; simp [Lib.byteCells] at hu; obtain ⟨b, _, rfl⟩ := hu; rfl) h0 ?_ ?_ hbase _ rfl ?_
  · unfold maxLen; omega
  · omega
  · intro g cap w' h1 h2 h3 h4
    refine h g cap w' ?_ ((Below.refl base w).grown h2 hbase (fun k hk => (hown.lt k hk).1)) (fun j hj hn => h2.block j hj (fun e => hn e.symm)) h3 h4
    unfold OwnB
    rw [List.length_append]
    have e : Lib.byteCells l ++ Lib.byteCells s = Lib.byteCells (l ++ s) := by simp [Lib.byteCells]
    rw [← e]; exact h1

theorem OwnB.bys {w : World} {base : Nat} {g cap : Nat} {l : List UInt8} (h : OwnB w base (.slice (some ⟨g, 0, none⟩) l.length cap) l) : BysAt w (some ⟨g, 0, none⟩) l := by
  have h2 := h
  obtain ⟨hl, ⟨q, _⟩ | ⟨g2, cap2, cur, q, hg, hcur, hn, hcap, hsz, htk⟩⟩ := h
  · cases q
  · cases q
    refine ⟨Nat.le_trans hn hcap, .inr ⟨g, 0, rfl, heap_lt hcur, fun i hi => ?_⟩⟩
    have := World.ownsRow.cells h2 (g := g) rfl i (.int .u8 ((l.getD i 0).toNat : Int)) (by simp [Lib.byteCells, List.getD, hi])
    have e : (⟨g, 0, none⟩ : Addr).add i = ⟨g, 0 + i, none⟩ := by
      unfold Addr.add
      by_cases h0 : i = 0
      · subst h0; rfl
      · rw [if_neg h0]
    rwa [e] at this

theorem BysAt.news {w : World} {g off : Nat} {l : List UInt8} (h : ∀ i, i < l.length → w.cell? ⟨g, off + i, none⟩ = some (.int .u8 ((l.getD i 0).toNat : Int))) : ∀ j u, (Lib.byteCells l)[j]? = some u → w.cell? ((⟨g, off, none⟩ : Addr).add j) = some u := by
  intro j u hu
  have hj : j < l.length := by
    have := List.getElem?_eq_some_iff.1 hu
    obtain ⟨q, _⟩ := this
    simpa [Lib.byteCells] using q
  have e : (⟨g, off, none⟩ : Addr).add j = ⟨g, off + j, none⟩ := by
    unfold Addr.add
    by_cases h0 : j = 0
    · subst h0; rfl
    · rw [if_neg h0]
  rw [e, h j hj]
  simp [Lib.byteCells, List.getD, hj] at hu ⊢
  exact hu

theorem app_bytes {w : World} {ops : Array Oper} {rest : List Oper} {o : Oper} {a : Act} {Q : Exit → Act → World → Prop} (hgd : o.guard = none) (sl x : Operand)
    (ho : o.op = .call { callee := .builtin .append, args := #[sl, x], argTypes := #[22, 22] })
    (base : Nat) (v : Value) (l s : List UInt8) (c : Nat) (ad : Addr) (hs : a.eval sl = v) (hown : OwnB w base v l) (hx : a.eval x = .slice (some ad) s.length c) (hcell : ∀ j u, (Lib.byteCells s)[j]? = some u → w.cell? (ad.add j) = some u)
    (hb : l.length + s.length ≤ 140737488355328) (hbase : base ≤ w.heap.size)
    (h : ∀ v' w', OwnB w' base v' (l ++ s) → Below base w w' → w.grownBy w' v.ownBlock → wpList Try.prog ops Q rest (a.put o.dst v') w') : wpList Try.prog ops Q (o :: rest) a w := by
  obtain ⟨i0, hi, hz0, hz1, hz2⟩ := info_parts infoU8
  refine wpList_append_own _ hgd sl x 22 ho base 5 i0 (.int .u8 0) 1 1 Try.underlying22 hi hz0 hz1 hz2 rfl (by decide) v l.length (Lib.byteCells l) hs hown ad s.length c (Lib.byteCells s) hx (by simp [Lib.byteCells]) hcell (by intro u hu; simp [Lib.byteCells] at hu; obtain ⟨b, _, rfl⟩ := hu; rfl) ?_ ?_ hbase ?_
  · unfold maxLen; omega
  · omega
  · intro v' w' h1 h2 _
    refine h v' w' ?_ ((Below.refl base w).grown h2 hbase (fun k hk => (hown.lt k hk).1)) h2
    unfold OwnB
    rw [List.length_append]
    have e : Lib.byteCells l ++ Lib.byteCells s = Lib.byteCells (l ++ s) := by simp [Lib.byteCells]
    rw [← e]; exact h1

/-- one byte more behind a row of the call's own: 'append(b, c)' -/
theorem app_one {w : World} {ops : Array Oper} {rest : List Oper} {o : Oper} {a : Act} {Q : Exit → Act → World → Prop} {base : Nat} {v : Value} {l : List UInt8} (hown : OwnB w base v l) (hgd : o.guard = none) (sl x : Operand)
    (ho : o.op = .call { callee := .builtin .append, args := #[sl, x], argTypes := #[22, 22] })
    (c : UInt8) (T : TypeId) (hs : a.eval sl = v) (hx : a.eval x = .slice (some ⟨w.heap.size, 0, none⟩) 1 1)
    (hb : l.length + 1 ≤ 140737488355328) (hbase : base ≤ w.heap.size)
    (h : ∀ v' w', OwnB w' base v' (l ++ [c]) → Below base w w' → wpList Try.prog ops Q rest (a.put o.dst v') w') : wpList Try.prog ops Q (o :: rest) a (w.alloc (.cells #[.int .u8 (c.toNat : Int)] T)) := by
  have hb0 : Below w.heap.size w (w.alloc (.cells #[.int .u8 (c.toNat : Int)] T)) := (Below.refl _ _).alloc (Nat.le_refl _) _
  refine app_bytes hgd sl x ho base v l [c] 1 ⟨w.heap.size, 0, none⟩ hs (hown.below hb0 (fun g hg => (hown.lt g hg).2)) hx ?_ hb (Nat.le_trans hbase hb0.size) ?_
  · intro j u hj
    match j, hj with
    | 0, hj => simp [Lib.byteCells] at hj; subst hj; simp [Addr.add]
    | j + 1, hj => simp [Lib.byteCells] at hj
  · intro v' w' h1 h2 _
    exact h v' w' h1 ((hb0.mono hbase).trans h2)

/-- one byte behind a row that is full: the new row is the call's own -/
theorem app_full {w : World} {ops : Array Oper} {rest : List Oper} {o : Oper} {a : Act} {Q : Exit → Act → World → Prop} (hgd : o.guard = none) (sl x : Operand)
    (ho : o.op = .call { callee := .builtin .append, args := #[sl, x], argTypes := #[22, 22] })
    (l s : List UInt8) (g : Nat) (hs : a.eval sl = .slice (some ⟨g, 0, none⟩) l.length l.length) (hl : ∀ j u, (Lib.byteCells l)[j]? = some u → w.cell? ((⟨g, 0, none⟩ : Addr).add j) = some u) (c : Nat) (ad : Addr) (hx : a.eval x = .slice (some ad) s.length c) (hcell : ∀ j u, (Lib.byteCells s)[j]? = some u → w.cell? (ad.add j) = some u)
    (h0 : 0 < s.length) (hb : l.length + s.length ≤ 140737488355328)
    (h : ∀ v' w', OwnB w' w.heap.size v' (l ++ s) → Below w.heap.size w w' → wpList Try.prog ops Q rest (a.put o.dst v') w') : wpList Try.prog ops Q (o :: rest) a w := by
  obtain ⟨i0, hi, hz0, hz1, hz2⟩ := info_parts infoU8
  refine wpList_append_grows w hgd sl x 22 ho 5 i0 (.int .u8 0) 1 1 Try.underlying22 hi hz0 hz1 hz2 rfl (by decide) (some ⟨g, 0, none⟩) l.length l.length (Lib.byteCells l) hs (fun e => nomatch e) (by simp [Lib.byteCells]) (fun b hb => by cases hb; exact hl) ad s.length c (Lib.byteCells s) hx (by simp [Lib.byteCells]) hcell (by intro u hu; simp [Lib.byteCells] at hu; obtain ⟨b, _, rfl⟩ := hu; rfl) (by omega) (by unfold maxLen; omega) (by omega) ?_
  intro v' w' h1 h2
  refine h v' w' ?_ ((Below.refl w.heap.size w).grown h2 (Nat.le_refl _) (fun k hk => nomatch hk))
  unfold OwnB
  rw [List.length_append]
  have e : Lib.byteCells l ++ Lib.byteCells s = Lib.byteCells (l ++ s) := by simp [Lib.byteCells]
  rw [← e]; exact h1
end Go.Proofs.Ytgbgahdeopedpaa
