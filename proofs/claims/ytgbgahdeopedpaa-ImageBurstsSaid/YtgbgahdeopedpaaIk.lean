/- Walks of layer 16: the writer of bytes, its box. -/
import Derived.Test.YtgbgahdeopedpaaIj
import Derived.IntWalk
namespace Go.Proofs.Ytgbgahdeopedpaa
open Go.RowKit
set_option linter.unusedVariables false
attribute [local go_sem] ext_mk size_mk toList_mk get_mk take_drop_len take_tail_len ByteArray.mk_append_mk List.append_toArray

theorem infoU8 : (Try.prog.info? 5).map (fun i => (i.zero, i.size, i.bytes)) = some (some (.int .u8 0), 1, 1) := by kernel_rfl

/-- a writer's box at p, whose own row of bytes holds xs -/
def wBlk (v : Value) : Obj := .cells #[v] 81 (0, 0)

def WrV (W : World) (p : Nat) (v : Value) (xs : List Value) : Prop := KAt W p (wBlk v) ∧ W.ownsRow (p + 1) 5 1 v xs.length xs

def WrAt (W : World) (p : Nat) (xs : List Value) : Prop := ∃ v, WrV W p v xs

/-- nothing below p is other than it was, nor any row that holds no bytes -/
structure WTch (p : Nat) (W V : World) : Prop where
  be : Below p W V
  kp : ∀ m cs T, T ≠ 5 → m ≠ p → W.heap[m]? = some (Obj.cells cs T (0, 0)) → V.heap[m]? = some (Obj.cells cs T (0, 0))

theorem WTch.trans {p : Nat} {A B C : World} (h : WTch p A B) (k : WTch p B C) : WTch p A C := ⟨h.be.trans k.be, fun m cs T hT hm e => k.kp m cs T hT hm (h.kp m cs T hT hm e)⟩

theorem WTch.of {p : Nat} {A B : World} (h : Below A.heap.size A B) (hp : p ≤ A.heap.size) : WTch p A B := ⟨h.mono hp, fun m cs T _ _ e => by rw [h.block m (heap_lt e)]; exact e⟩

theorem WTch.alloc {p : Nat} (A : World) (hp : p ≤ A.heap.size) (o : Obj) : WTch p A (A.alloc o) := .of ((Below.refl _ _).alloc (Nat.le_refl _) _) hp

theorem KAt.tch {W V : World} {m p : Nat} {cs : Array Value} {T : TypeId} (h : KAt W m (.cells cs T (0, 0))) (hT : T ≠ 5) (hm : m ≠ p) (hw : WTch p W V) : KAt V m (.cells cs T (0, 0)) := ⟨hw.kp m cs T hT hm h.x⟩

theorem WrV.lt {W : World} {p : Nat} {v : Value} {xs : List Value} (h : WrV W p v xs) : p < W.heap.size := heap_lt h.1.x

theorem WrV.below {W V : World} {p : Nat} {v : Value} {xs : List Value} (h : WrV W p v xs) (hb : Below W.heap.size W V) : WrV V p v xs := ⟨h.1.below hb, row_below h.2 hb⟩

theorem WrV.drew {W : World} {p : Nat} {v : Value} {xs : List Value} (h : WrV W p v xs) : WrV W.drew p v xs := h.below (Below.refl _ _).drew

theorem WrAt.below {W V : World} {p : Nat} {xs : List Value} (h : WrAt W p xs) (hb : Below W.heap.size W V) : WrAt V p xs := by
  obtain ⟨v, h⟩ := h; exact ⟨v, h.below hb⟩

theorem WrV.cells {W : World} {p : Nat} {v : Value} {xs : List Value} (h : WrV W p v xs) : W.cell? ⟨p, 0, none⟩ = some v ∧ W.frozen? ⟨p, 0, none⟩ = false :=
  ⟨by rw [cell_of_row _ _ _ _ _ _ h.1.x]; rfl, frozen_of_row _ _ _ _ _ h.1.x⟩

theorem WrV.set {W : World} {p : Nat} {v u : Value} {ys : List Value} (h : KAt W p (wBlk v)) (hu : W.ownsRow (p + 1) 5 1 u ys.length ys) : WrV (W.setCell ⟨p, 0, none⟩ u) p u ys :=
  ⟨⟨heap_setCell_same (i := 0) _ _ _ _ u h.x⟩, ownsRow_setCell_below hu (a := ⟨p, 0, none⟩) (Nat.lt_succ_self p) u⟩

theorem WTch.set {p : Nat} (A : World) (v : Value) : WTch p A (A.setCell ⟨p, 0, none⟩ v) :=
  ⟨(Below.refl _ _).setCell (p := ⟨p, 0, none⟩) (Nat.le_refl _) _, fun m cs T _ hm e => by rw [Below.heap_setCell _ _ _ _ hm]; exact e⟩

/-- an append of one byte that was just built to the writer's own row -/
theorem app_wr {w : World} {ops : Array Oper} {rest : List Oper} {o : Oper} {a : Act} {Q : Exit → Act → World → Prop} {p : Nat} {vo : Value} {xs : List Value} {v : Int} (hr : WrV w p vo xs) (hgd : o.guard = none) (sl x : Operand)
    (ho : o.op = .call { callee := .builtin .append, args := #[sl, x], argTypes := #[22, 22] })
    (hs : a.eval sl = vo) (H : Nat) (hH : w.heap.size = H) (hx : a.eval x = .slice (some ⟨H, 0, none⟩) 1 1) (hn : xs.length ≤ 1000000)
    (h : ∀ g m cap V, KAt V p (wBlk vo) → V.ownsRow (p + 1) 5 1 (.slice (some ⟨g, 0, none⟩) m cap) (xs ++ [Value.int .u8 v]).length (xs ++ [Value.int .u8 v]) → V.cell? ⟨p, 0, none⟩ = some vo → V.frozen? ⟨p, 0, none⟩ = false → WTch p w V → wpList Try.prog ops Q rest (a.put o.dst (.slice (some ⟨g, 0, none⟩) m cap)) V) : wpList Try.prog ops Q (o :: rest) a (w.alloc (.cells #[Value.int .u8 v] 5)) := by
  obtain ⟨i0, hi, hz0, hz1, hz2⟩ := info_parts infoU8
  subst hH
  have hlt := hr.lt
  have hb0 : Below w.heap.size w (w.alloc (.cells #[Value.int .u8 v] 5)) := (Below.refl _ _).alloc (Nat.le_refl _) _
  have hown := row_below hr.2 hb0
  refine wpList_append_lies _ hgd sl x 22 ho (p + 1) 5 i0 (.int .u8 0) 1 1 Try.underlying22 hi hz0 hz1 hz2 rfl (by decide) vo xs.length xs hs hown ⟨w.heap.size, 0, none⟩ 1 1 [Value.int .u8 v] hx rfl (World.news_of_block (heap_alloc_new _ _)) (by intro u hu; simp at hu; subst hu; rfl) (by decide) (by unfold maxLen; omega) (by omega) (by simp; omega) _ rfl ?_
  intro g cap V k1 k2 _ _
  have hkp : ∀ (m : Nat) (cs : Array Value) (T : TypeId), T ≠ 5 → w.heap[m]? = some (Obj.cells cs T (0, 0)) → V.heap[m]? = some (Obj.cells cs T (0, 0)) := by
    intro m cs T hT e
    have hm := heap_lt e
    rw [k2.block m (by simp; omega) ?_, Below.heap_alloc _ _ _ hm]; exact e
    intro ee
    rcases hr.2.2 with ⟨q, _⟩ | ⟨g2, cap2, cur, q, _, q3, _⟩
    · rw [q] at ee; simp [Value.ownBlock] at ee
    · rw [q] at ee; simp [Value.ownBlock] at ee; rw [← ee, e] at q3; injection q3 with q3; injection q3 with _ q4; exact hT q4
  have hbe : Below p w V := (hb0.mono (by omega)).trans ((Below.refl p _).grown k2 (by simp; omega) (fun j hj => by have := (hown.lt j hj).1; omega))
  have hk1 : KAt V p (wBlk vo) := by
    refine ⟨?_⟩
    unfold wBlk
    have hne : vo.ownBlock ≠ some p := by
      intro e
      have := (hr.2.lt p e).1
      omega
    rw [k2.block p (by simp; omega) (by intro e; exact hne e.symm), Below.heap_alloc _ _ _ hlt]; exact hr.1.x
  refine h g _ cap V hk1 (by rw [List.length_append]; exact k1) (by rw [cell_of_row _ _ _ _ _ _ hk1.x]; rfl) (frozen_of_row _ _ _ _ _ hk1.x) ⟨hbe, fun m cs T hT _ e => hkp m cs T hT e⟩

set_option maxRecDepth 8000 in
theorem plain_small (p : Nat) (n : Int) (xs : List Value) (w : World) (hw : WrAt w p xs) (h0 : 0 ≤ n) (h1 : n < 128) (hx : xs.length ≤ 1000000) :
    Calls Try.prog 33 #[.pointer (some ⟨p, 0, none⟩), .int .u64 n] w fun x w' => (∃ v, x = .returned v) ∧ WrAt w' p (xs ++ [.int .u8 n]) ∧ WTch p w w' := by
  obtain ⟨v, hv⟩ := hw
  obtain ⟨e0, f0⟩ := hv.cells
  have hlt := hv.lt
  have k0 : decide (128 ≤ n) = false := decide_eq_false (by omega)
  have k1 : IntKind.u8.wrap n = n := IntWalk.u8_in _ (by omega)
  have HV := Lib.hid hv
  have HX := Lib.hid hx
  clear hv hx
  go_enter Try.func33, Try.ntmps33
  go_wp2_with fail
  go_loopw [1] (fun vi wr => vi = .int .u64 n ∧ wr = w) (fun vi _ => 0)
  case atStart => exact ⟨rfl, rfl⟩
  case round =>
    obtain ⟨rfl, rfl⟩ := hrel
    go_wp2_with (first | (at_builtin; refine app_wr HV.out rfl _ _ rfl rfl _ rfl rfl HX.out ?_; intro g m cap V a1 a2 a3 a4 a5; have A1 := Lib.hid a1; have A2 := Lib.hid a2; have A5 := Lib.hid a5; clear a1 a2 a5))
    go_end0
    exact ⟨⟨_, rfl⟩, ⟨_, WrV.set A1.out A2.out⟩, A5.out.trans (WTch.set _ _)⟩
end Go.Proofs.Ytgbgahdeopedpaa
