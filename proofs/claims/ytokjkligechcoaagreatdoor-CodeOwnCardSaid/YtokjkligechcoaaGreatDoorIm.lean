/- Walks of layer 16: a small program's instructions, one by one. -/
import Derived.Test.YtokjkligechcoaaGreatDoorIw
import Derived.Test.YtokjkligechcoaaGreatDoorFw1
import Derived.Deep.OwnRows
import Derived.Deep.CutRange
import Derived.Deep.CutBlock
import Derived.IntWalk
import Derived.Lib.AppendStr
import Derived.Lib.UnsafeStr
import Derived.OwnWalk
import Derived.ArgAppend
import Derived.Lib.SlBytesConst
import Derived.Lib.SmallJoins
import Derived.Laws.IdiomStrings
set_option linter.unusedVariables false
namespace Go.Proofs.YtokjkligechcoaaGreatDoor
open Go.RowKit
attribute [local go_sem] ext_mk size_mk toList_mk get_mk take_drop_len take_tail_len ByteArray.mk_append_mk List.append_toArray
/-- a small program lies here: one function of two instructions -/
structure P1At (w : World) (F C cc : Nat) : Prop where
 fl : F < w.heap.size
 cl : C < w.heap.size
 f0 : w.cell? ⟨F, 0, none⟩ = some (.int .i64 0)
 f1 : w.cell? ⟨F, 1, none⟩ = some (.int .i64 1)
 f2 : w.cell? ⟨F, 2, none⟩ = some (.slice (some ⟨C, 0, none⟩) 2 cc)
 c : ∀ i, i < 12 → w.cell? ⟨C, i, none⟩ = some ([Value.int .i64 1, .int .i64 0, .int .i64 0, .int .i64 0, .slice none 0 0, .slice none 0 0, .int .i64 13, .int .i64 0, .int .i64 0, .int .i64 0, .slice none 0 0, .slice none 0 0].getD i (.int .i64 0))
theorem P1At.below {w w' : World} {F C cc : Nat} (h : P1At w F C cc) (hb : Below w.heap.size w w') : P1At w' F C cc := by
 have e : ∀ k, w'.cell? ⟨F, k, none⟩ = w.cell? ⟨F, k, none⟩ := fun k => hb.cell (p := ⟨F, k, none⟩) h.fl
 have g : ∀ k, w'.cell? ⟨C, k, none⟩ = w.cell? ⟨C, k, none⟩ := fun k => hb.cell (p := ⟨C, k, none⟩) h.cl
 exact ⟨Nat.lt_of_lt_of_le h.fl hb.size, Nat.lt_of_lt_of_le h.cl hb.size, by rw [e]; exact h.f0, by rw [e]; exact h.f1, by rw [e]; exact h.f2, fun i hi => by rw [g]; exact h.c i hi⟩
theorem infoU64 : (Tryz.prog.info? 45).map (fun i => (i.zero, i.size, i.bytes)) = some (some (.int .u64 0), 1, 8) := by kernel_rfl
theorem infoRow : (Tryz.prog.info? 140).map (fun i => (i.zero, i.size, i.bytes)) = some (some (.slice none 0 0), 1, 24) := by kernel_rfl
theorem eqn_some (T : TypeId) (e : TypeId) (hu : Tryz.prog.underlying T = some (.slice e)) (x : Addr) (n c : Nat) (W : World) : (binOp .eql T (.slice (some x) n c) (.slice none 0 0)).run Tryz.prog W = .ok (.bool false) W := by
 have h : (Op.equal T (.slice (some x) n c) (.slice none 0 0)).run Tryz.prog W = .ok false W := by
  unfold Op.equal
  rw [show Op.maxDepth = (Op.maxDepth - 1) + 1 from rfl]
  simp only [Op.equalIn, Sem.run_bind, run_underlying hu, Result.andThen_ok]
  first | rfl | simp
 simp [binOp, h]
theorem eqn_none (T : TypeId) (e : TypeId) (hu : Tryz.prog.underlying T = some (.slice e)) (W : World) : (binOp .eql T (.slice none 0 0) (.slice none 0 0)).run Tryz.prog W = .ok (.bool true) W := by
 have h : (Op.equal T (.slice none 0 0) (.slice none 0 0)).run Tryz.prog W = .ok true W := by
  unfold Op.equal
  rw [show Op.maxDepth = (Op.maxDepth - 1) + 1 from rfl]
  simp only [Op.equalIn, Sem.run_bind, run_underlying hu, Result.andThen_ok]
  first | rfl | simp
 simp [binOp, h]
theorem infoInt : (Tryz.prog.info? 3).map (fun i => (i.zero, i.size, i.bytes)) = some (some (.int .i64 0), 1, 8) := by kernel_rfl
/-- the function's box, the rows, the first row -/
structure UAt (w W : World) (C cc : Nat) (i1 : Value) : Prop where
 b : Below w.heap.size w W
 f : W.heap[w.heap.size]? = some (.cells #[.int .i64 0, .int .i64 1, .slice (some ⟨C, 0, none⟩) 2 cc] 48 (0, 0))
 i : W.heap[w.heap.size + 1]? = some (.cells #[.slice (some ⟨w.heap.size + 2, 0, none⟩) 1 1, i1] 140 (0, 0))
 n : W.heap[w.heap.size + 2]? = some (.cells #[.int .u64 0] 45 (0, 0))
 l : w.heap.size + 3 ≤ W.heap.size
theorem UAt.move {w W V : World} {C cc : Nat} {i1 : Value} (h : UAt w W C cc i1) (hb : Below (w.heap.size + 3) W V) : UAt w V C cc i1 := by
 have := h.l
 exact ⟨h.b.trans (hb.mono (by omega)), by rw [hb.block _ (by omega)]; exact h.f, by rw [hb.block _ (by omega)]; exact h.i, by rw [hb.block _ (by omega)]; exact h.n, Nat.le_trans h.l hb.size⟩
theorem UAt.below {w W V : World} {C cc : Nat} {i1 : Value} (h : UAt w W C cc i1) (hb : Below W.heap.size W V) : UAt w V C cc i1 := h.move (hb.mono h.l)
theorem UAt.alloc {w W : World} {C cc : Nat} {i1 : Value} (h : UAt w W C cc i1) (o : Obj) : UAt w (W.alloc o) C cc i1 := h.below ((Below.refl _ _).alloc (Nat.le_refl _) _)
theorem UAt.put {w W : World} {C cc : Nat} {i1 : Value} (h : UAt w W C cc i1) (k : Nat) (hk : w.heap.size + 3 ≤ k) (v : Value) : UAt w (W.setCell ⟨k, 0, none⟩ v).drew C cc i1 :=
 h.move ((Below.refl _ _).setCell hk _).drew
theorem UAt.cells {w W : World} {C cc : Nat} {i1 : Value} (h : UAt w W C cc i1) :
  W.cell? ⟨w.heap.size, 0, none⟩ = some (.int .i64 0) ∧ W.cell? ⟨w.heap.size, 1, none⟩ = some (.int .i64 1) ∧ W.cell? ⟨w.heap.size, 2, none⟩ = some (.slice (some ⟨C, 0, none⟩) 2 cc) ∧
  W.cell? ⟨w.heap.size + 1, 0, none⟩ = some (.slice (some ⟨w.heap.size + 2, 0, none⟩) 1 1) ∧ W.cell? ⟨w.heap.size + 1, 1, none⟩ = some i1 ∧
  W.cell? ⟨w.heap.size + 2, 0, none⟩ = some (.int .u64 0) ∧ W.frozen? ⟨w.heap.size + 1, 1, none⟩ = false := by
 refine ⟨?_, ?_, ?_, ?_, ?_, ?_, frozen_of_row _ _ _ _ _ h.i⟩
 all_goals first
  | (rw [cell_of_row _ _ _ _ _ _ h.f]; rfl)
  | (rw [cell_of_row _ _ _ _ _ _ h.i]; rfl)
  | (rw [cell_of_row _ _ _ _ _ _ h.n]; rfl)
theorem heap_lt {W : World} {m : Nat} {o : Obj} (h : W.heap[m]? = some o) : m < W.heap.size := by
 rcases Nat.lt_or_ge m W.heap.size with q | q
 ·exact q
 ·rw [show W.heap[m]? = none from by simp [q]] at h; cases h
/-- a whole block lies -/
structure KAt (W : World) (m : Nat) (o : Obj) : Prop where
 x : W.heap[m]? = some o
theorem KAt.below {W V : World} {m : Nat} {o : Obj} (h : KAt W m o) (hb : Below W.heap.size W V) : KAt V m o := ⟨by rw [hb.block _ (heap_lt h.x)]; exact h.x⟩
theorem KAt.alloc {W : World} {m : Nat} {o : Obj} (h : KAt W m o) (q : Obj) : KAt (W.alloc q) m o := h.below ((Below.refl _ _).alloc (Nat.le_refl _) _)
theorem KAt.put {W : World} {m : Nat} {o : Obj} (h : KAt W m o) (p : Addr) (hk : m ≠ p.block) (v : Value) : KAt (W.setCell p v) m o := ⟨by rw [Below.heap_setCell _ _ _ _ hk]; exact h.x⟩
theorem KAt.drew {W : World} {m : Nat} {o : Obj} (h : KAt W m o) : KAt W.drew m o := ⟨h.x⟩
theorem KAt.new (W : World) (o : Obj) : KAt (W.alloc o) W.heap.size o := ⟨heap_alloc_new _ _⟩
/-- a row of one number, whose cell may be written -/
structure OAt (W : World) (k : Nat) (v : Value) : Prop where
 l : k < W.heap.size
 c : W.cell? ⟨k, 0, none⟩ = some v
 z : W.frozen? ⟨k, 0, none⟩ = false
theorem OAt.move {W V : World} {k : Nat} {v : Value} (h : OAt W k v) (hb : V.heap[k]? = W.heap[k]?) (hl : W.heap.size ≤ V.heap.size) : OAt V k v :=
 ⟨Nat.lt_of_lt_of_le h.l hl, (World.cell?_of_block (a := ⟨k, 0, none⟩) hb).trans h.c, (World.frozen?_of_block (a := ⟨k, 0, none⟩) hb).trans h.z⟩
theorem OAt.below {W V : World} {k : Nat} {v : Value} (h : OAt W k v) (hb : Below W.heap.size W V) : OAt V k v := h.move (hb.block _ h.l) hb.size
theorem OAt.alloc {W : World} {k : Nat} {v : Value} (h : OAt W k v) (q : Obj) : OAt (W.alloc q) k v := h.below ((Below.refl _ _).alloc (Nat.le_refl _) _)
theorem OAt.put {W : World} {k : Nat} {v : Value} (h : OAt W k v) (p : Addr) (hk : k ≠ p.block) (x : Value) : OAt (W.setCell p x) k v := h.move (Below.heap_setCell _ _ _ _ hk) (by simp [World.setCell])
theorem OAt.set {W : World} {k : Nat} {v : Value} (h : OAt W k v) (x : Value) : OAt (W.setCell ⟨k, 0, none⟩ x).drew k x :=
 ⟨by have := h.l; simpa [World.setCell] using this, World.cell?_setCell_same _ _ _ h.c, by have := h.z; exact (World.frozen?_setCell _ _ _ _).trans this⟩
def xBlk (op : Int) : Obj := .cells #[.int .i64 op, .int .i64 0, .int .i64 0, .int .i64 0, .slice none 0 0, .slice none 0 0] 58 (0, 0)
/-- the code's cells -/
structure C1At (w : World) (C : Nat) : Prop where
 cl : C < w.heap.size
 c : ∀ i, i < 12 → w.cell? ⟨C, i, none⟩ = some ([Value.int .i64 1, .int .i64 0, .int .i64 0, .int .i64 0, .slice none 0 0, .slice none 0 0, .int .i64 13, .int .i64 0, .int .i64 0, .int .i64 0, .slice none 0 0, .slice none 0 0].getD i (.int .i64 0))
structure UAt0 (w W : World) (C cc : Nat) : Prop where
 b : Below w.heap.size w W
 f : W.heap[w.heap.size]? = some (.cells #[.int .i64 0, .int .i64 1, .slice (some ⟨C, 0, none⟩) 2 cc] 48 (0, 0))
 i : W.heap[w.heap.size + 1]? = some (.cells #[.slice (some ⟨w.heap.size + 2, 0, none⟩) 1 1, .slice none 0 0] 140 (0, 0))
 n : W.heap[w.heap.size + 2]? = some (.cells #[.int .u64 0] 45 (0, 0))
 l : W.heap.size = w.heap.size + 3
theorem UAt0.u {w W : World} {C cc : Nat} (h : UAt0 w W C cc) : UAt w W C cc (.slice none 0 0) := ⟨h.b, h.f, h.i, h.n, by have := h.l; omega⟩
theorem P1At.c1 {w : World} {F C cc : Nat} (h : P1At w F C cc) : C1At w C := ⟨h.cl, h.c⟩
def pBlk (F cf : Nat) : Obj := .cells #[.slice (some ⟨F, 0, none⟩) 1 cf, .slice none 0 0, .slice none 0 0, .int .i64 0] 26 (0, 0)
theorem KAt.pcells {W : World} {m F cf : Nat} (h : KAt W m (pBlk F cf)) : W.cell? ⟨m, 0, none⟩ = some (.slice (some ⟨F, 0, none⟩) 1 cf) ∧ W.cell? ⟨m, 1, none⟩ = some (.slice none 0 0) ∧ W.cell? ⟨m, 2, none⟩ = some (.slice none 0 0) ∧ W.cell? ⟨m, 3, none⟩ = some (.int .i64 0) := by
 refine ⟨?_, ?_, ?_, ?_⟩
 all_goals (rw [cell_of_row _ _ _ _ _ _ h.x]; rfl)
theorem infoU8 : (Tryz.prog.info? 5).map (fun i => (i.zero, i.size, i.bytes)) = some (some (.int .u8 0), 1, 1) := by kernel_rfl
/-- a writer's box at p, whose own row of bytes holds xs -/
def wBlk (v : Value) : Obj := .cells #[v] 85 (0, 0)
def WrV (W : World) (p : Nat) (v : Value) (xs : List Value) : Prop := KAt W p (wBlk v) ∧ W.ownsRow (p + 1) 5 1 v xs.length xs
def WrAt (W : World) (p : Nat) (xs : List Value) : Prop := ∃ v, WrV W p v xs
/-- nothing below p is other than it was, nor any row that holds no bytes -/
structure WTch (p : Nat) (W V : World) : Prop where
 be : Below p W V
 kp : ∀ m cs T, T ≠ 5 → m ≠ p → W.heap[m]? = some (Obj.cells cs T (0, 0)) → V.heap[m]? = some (Obj.cells cs T (0, 0))
theorem WTch.trans {p : Nat} {A B C : World} (h : WTch p A B) (k : WTch p B C) : WTch p A C := ⟨h.be.trans k.be, fun m cs T hT hm e => k.kp m cs T hT hm (h.kp m cs T hT hm e)⟩
theorem WTch.of {p : Nat} {A B : World} (h : Below A.heap.size A B) (hp : p ≤ A.heap.size) : WTch p A B := ⟨h.mono hp, fun m cs T _ _ e => by rw [h.block m (heap_lt e)]; exact e⟩
theorem WTch.alloc {p : Nat} (A : World) (hp : p ≤ A.heap.size) (o : Obj) : WTch p A (A.alloc o) := .of ((Below.refl _ _).alloc (Nat.le_refl _) _) hp
theorem KAt.tch {W V : World} {m p : Nat} {cs : Array Value} {T : TypeId} (h : KAt W m (.cells cs T (0, 0))) (hT : T ≠ 5) (hm : m ≠ p) (hw : WTch p W V) : KAt V m (.cells cs T (0, 0)) := ⟨hw.kp m cs T hT hm h.x⟩
theorem WrV.lt {W : World} {p : Nat} {v : Value} {xs : List Value} (h : WrV W p v xs) : p < W.heap.size := heap_lt h.1.x
theorem WrV.below {W V : World} {p : Nat} {v : Value} {xs : List Value} (h : WrV W p v xs) (hb : Below W.heap.size W V) : WrV V p v xs := ⟨h.1.below hb, row_below h.2 hb⟩
theorem WrV.drew {W : World} {p : Nat} {v : Value} {xs : List Value} (h : WrV W p v xs) : WrV W.drew p v xs := h.below (Below.refl _ _).drew
theorem WrAt.below {W V : World} {p : Nat} {xs : List Value} (h : WrAt W p xs) (hb : Below W.heap.size W V) : WrAt V p xs := by
 obtain ⟨v, h⟩ := h; exact ⟨v, h.below hb⟩
theorem WrV.cells {W : World} {p : Nat} {v : Value} {xs : List Value} (h : WrV W p v xs) : W.cell? ⟨p, 0, none⟩ = some v ∧ W.frozen? ⟨p, 0, none⟩ = false :=
 ⟨by rw [cell_of_row _ _ _ _ _ _ h.1.x]; rfl, frozen_of_row _ _ _ _ _ h.1.x⟩
theorem WrV.set {W : World} {p : Nat} {v u : Value} {ys : List Value} (h : KAt W p (wBlk v)) (hu : W.ownsRow (p + 1) 5 1 u ys.length ys) : WrV (W.setCell ⟨p, 0, none⟩ u) p u ys :=
 ⟨⟨heap_setCell_same (i := 0) _ _ _ _ u h.x⟩, ownsRow_setCell_below hu (a := ⟨p, 0, none⟩) (Nat.lt_succ_self p) u⟩
theorem WTch.set {p : Nat} (A : World) (v : Value) : WTch p A (A.setCell ⟨p, 0, none⟩ v) :=
 ⟨(Below.refl _ _).setCell (p := ⟨p, 0, none⟩) (Nat.le_refl _) _, fun m cs T _ hm e => by rw [Below.heap_setCell _ _ _ _ hm]; exact e⟩
def qBlk (p : Nat) : Obj := .cells #[.pointer (some ⟨p, 0, none⟩)] 83 (0, 0)
/-- behind Encode's head: the program's box, the writer, the variable that names it -/
structure EAt (w : World) (F cf p q : Nat) (xs : List Value) (W : World) : Prop where
 be : Below w.heap.size w W
 pa : KAt W w.heap.size (pBlk F cf)
 qa : KAt W q (qBlk p)
 wa : WrAt W p xs
 hp : w.heap.size < p
 hq : p < q
theorem EAt.step {w W V : World} {F cf p q : Nat} {xs ys : List Value} (h : EAt w F cf p q xs W) (hw : WrAt V p ys) (ht : WTch p W V) : EAt w F cf p q ys V :=
 ⟨h.be.trans (ht.be.mono (Nat.le_of_lt h.hp)), h.pa.tch (by decide) (Nat.ne_of_lt h.hp) ht, h.qa.tch (by decide) (Nat.ne_of_gt h.hq) ht, hw, h.hp, h.hq⟩
theorem EAt.below {w W V : World} {F cf p q : Nat} {xs : List Value} (h : EAt w F cf p q xs W) (hb : Below W.heap.size W V) : EAt w F cf p q xs V :=
 ⟨h.be.trans (hb.mono h.be.size), h.pa.below hb, h.qa.below hb, h.wa.below hb, h.hp, h.hq⟩
theorem EAt.alloc {w W : World} {F cf p q : Nat} {xs : List Value} (h : EAt w F cf p q xs W) (o : Obj) : EAt w F cf p q xs (W.alloc o) := h.below ((Below.refl _ _).alloc (Nat.le_refl _) _)
theorem EAt.lt {w W : World} {F cf p q : Nat} {xs : List Value} (h : EAt w F cf p q xs W) : p ≤ W.heap.size := by obtain ⟨v, hv⟩ := h.wa; exact Nat.le_of_lt hv.lt
theorem EAt.cells {w W : World} {F cf p q : Nat} {xs : List Value} (h : EAt w F cf p q xs W) : W.cell? ⟨w.heap.size, 0, none⟩ = some (.slice (some ⟨F, 0, none⟩) 1 cf) ∧ W.cell? ⟨w.heap.size, 1, none⟩ = some (.slice none 0 0) ∧ W.cell? ⟨w.heap.size, 2, none⟩ = some (.slice none 0 0) ∧ W.cell? ⟨w.heap.size, 3, none⟩ = some (.int .i64 0) ∧ W.cell? ⟨q, 0, none⟩ = some (.pointer (some ⟨p, 0, none⟩)) := by
 obtain ⟨a, b, c, d⟩ := h.pa.pcells
 exact ⟨a, b, c, d, by rw [cell_of_row _ _ _ _ _ _ h.qa.x]; rfl⟩
/-- v is a row of the call's own (from block base on) that holds these bytes. -/
def OwnB (w : World) (base : Nat) (v : Value) (l : List UInt8) : Prop := w.ownsRow base 5 1 v l.length (Lib.byteCells l)
theorem OwnB.nil (w : World) (base : Nat) : OwnB w base (.slice none 0 0) [] := ⟨by simp [Lib.byteCells], .inl ⟨rfl, rfl⟩⟩
theorem OwnB.form {w : World} {base : Nat} {v : Value} {l : List UInt8} (h : OwnB w base v l) : ∃ a cap, v = .slice a l.length cap := by
 obtain ⟨_, ⟨rfl, h0⟩ | ⟨g, cap, cur, rfl, _⟩⟩ := h
 ·exact ⟨none, 0, by rw [h0]⟩
 ·exact ⟨_, cap, rfl⟩
theorem OwnB.below {w w' : World} {B base : Nat} {v : Value} {l : List UInt8} (h : OwnB w base v l) (hb : Below B w w') (hB : ∀ g, v.ownBlock = some g → g < B) : OwnB w' base v l := by
 obtain ⟨hl, ⟨rfl, h0⟩ | ⟨g, cap, cur, rfl, hg, hcur, hn, hcap, hsz, htk⟩⟩ := h
 ·exact ⟨hl, .inl ⟨rfl, h0⟩⟩
 ·exact ⟨hl, .inr ⟨g, cap, cur, rfl, hg, by rw [hb.block g (hB g rfl)]; exact hcur, hn, hcap, hsz, htk⟩⟩
theorem BysAt.news {w : World} {g off : Nat} {l : List UInt8} (h : ∀ i, i < l.length → w.cell? ⟨g, off + i, none⟩ = some (.int .u8 ((l.getD i 0).toNat : Int))) : ∀ j u, (Lib.byteCells l)[j]? = some u → w.cell? ((⟨g, off, none⟩ : Addr).add j) = some u := by
 intro j u hu
 have hj : j < l.length := by
  have := List.getElem?_eq_some_iff.1 hu
  obtain ⟨q, _⟩ := this
  simpa [Lib.byteCells] using q
 have e : (⟨g, off, none⟩ : Addr).add j = ⟨g, off + j, none⟩ := by
  unfold Addr.add
  by_cases h0 : j = 0
  ·subst h0; rfl
  ·rw [if_neg h0]
 rw [e, h j hj]
 simp [Lib.byteCells, List.getD, hj] at hu ⊢
 exact hu
theorem app_bytes {w : World} {ops : Array Oper} {rest : List Oper} {o : Oper} {a : Act} {Q : Exit → Act → World → Prop} (hgd : o.guard = none) (sl x : Operand)
  (ho : o.op = .call { callee := .builtin .append, args := #[sl, x], argTypes := #[40, 40] })
  (base : Nat) (v : Value) (l s : List UInt8) (c : Nat) (ad : Addr) (hs : a.eval sl = v) (hown : OwnB w base v l) (hx : a.eval x = .slice (some ad) s.length c) (hcell : ∀ j u, (Lib.byteCells s)[j]? = some u → w.cell? (ad.add j) = some u)
  (hb : l.length + s.length ≤ 140737488355328) (hbase : base ≤ w.heap.size)
  (h : ∀ v' w', OwnB w' base v' (l ++ s) → Below base w w' → w.grownBy w' v.ownBlock → wpList Tryz.prog ops Q rest (a.put o.dst v') w') : wpList Tryz.prog ops Q (o :: rest) a w := by
 obtain ⟨i0, hi, hz0, hz1, hz2⟩ := info_parts infoU8
 refine wpList_append_own _ hgd sl x 40 ho base 5 i0 (.int .u8 0) 1 1 Tryz.underlying40 hi hz0 hz1 hz2 rfl (by decide) v l.length (Lib.byteCells l) hs hown ad s.length c (Lib.byteCells s) hx (by simp [Lib.byteCells]) hcell (by intro u hu; simp [Lib.byteCells] at hu; obtain ⟨b, _, rfl⟩ := hu; rfl) ?_ ?_ hbase ?_
 ·unfold maxLen; omega
 ·omega
 ·intro v' w' h1 h2 _
  refine h v' w' ?_ ((Below.refl base w).grown h2 hbase (fun k hk => (hown.lt k hk).1)) h2
  unfold OwnB
  rw [List.length_append]
  have e : Lib.byteCells l ++ Lib.byteCells s = Lib.byteCells (l ++ s) := by simp [Lib.byteCells]
  rw [← e]; exact h1
def encL : List UInt8 := [0, 0, 0, 1, 0, 1, 2, 1, 0, 0, 0, 0, 0, 13, 0, 0, 0, 0, 0]
/-- the bytes behind each section -/
def pkL : Nat → List UInt8
 | 0 => [107, 105, 108, 110, 1]
 | 1 => [107, 105, 108, 110, 1] ++ [1] ++ [1] ++ [97]
 | 2 => [107, 105, 108, 110, 1] ++ [1] ++ [1] ++ [97] ++ [2] ++ [0] ++ []
 | _ => [107, 105, 108, 110, 1] ++ [1] ++ [1] ++ [97] ++ [2] ++ [0] ++ [] ++ [3] ++ [19] ++ encL
/-- what the sections' loop reads -/
structure L0 (w1 WA : World) (g cap : Nat) (W : World) : Prop where
 be : Below WA.heap.size WA W
 d : ∃ k1 k2, KAt W (WA.heap.size + 2) (.cells #[.slice (some ⟨WA.heap.size, 0, none⟩) 1 k1, .slice (some ⟨WA.heap.size + 1, 0, none⟩) 0 k2, .slice (some ⟨g, 0, none⟩) 19 cap] 40 (0, 0))
 t : W.cell? ⟨WA.heap.size, 0, none⟩ = some (.int .u8 97)
 l : WA.heap.size + 3 ≤ W.heap.size
 o : KAt WA w1.heap.size (.cells #[.int .u8 107, .int .u8 105, .int .u8 108, .int .u8 110, .int .u8 1] 5 (5, 6))
 g : BysAt WA (some ⟨g, 0, none⟩) encL
theorem L0.move {w1 WA W V : World} {g cap : Nat} (h : L0 w1 WA g cap W) (hb : Below (WA.heap.size + 3) W V) : L0 w1 WA g cap V := by
 obtain ⟨k1, k2, hk⟩ := h.d
 exact ⟨h.be.trans (hb.mono (by omega)), ⟨k1, k2, ⟨by rw [hb.block _ (by omega)]; exact hk.x⟩⟩, by rw [hb.cell (p := ⟨WA.heap.size, 0, none⟩) (by show WA.heap.size < _; omega)]; exact h.t, Nat.le_trans h.l hb.size, h.o, h.g⟩
theorem L0.below {w1 WA W V : World} {g cap : Nat} (h : L0 w1 WA g cap W) (hb : Below W.heap.size W V) : L0 w1 WA g cap V := h.move (hb.mono h.l)
theorem L0.alloc {w1 WA W : World} {g cap : Nat} (h : L0 w1 WA g cap W) (o : Obj) : L0 w1 WA g cap (W.alloc o) := h.below ((Below.refl _ _).alloc (Nat.le_refl _) _)
theorem OwnB.keep {w w' : World} {base : Nat} {v : Value} {l : List UInt8} (h : OwnB w base v l) (hb : Below w.heap.size w w') : OwnB w' base v l := row_below h hb
theorem OwnB.cap {w : World} {base g c : Nat} {l : List UInt8} (h : OwnB w base (.slice (some ⟨g, 0, none⟩) l.length c) l) : l.length ≤ c ∧ base ≤ g := by
 rcases h.2 with ⟨q, _⟩ | ⟨_, _, _, q, q1, _, q4, _⟩
 ·cases q
 ·cases q; exact ⟨q4, q1⟩
theorem OwnB.some {w : World} {base : Nat} {v : Value} {l : List UInt8} (h : OwnB w base v l) (h0 : 0 < l.length) : ∃ g cap, v = .slice (some ⟨g, 0, none⟩) l.length cap := by
 obtain ⟨_, ⟨_, q⟩ | ⟨g, cap, cur, q, _⟩⟩ := h
 ·omega
 ·exact ⟨g, cap, q⟩
/-- the bytes of the small image -/
def imgL : List UInt8 := pkL 3 ++ [205, 98, 103, 42]
/-- one section's three appends: the number, the length, the bytes -/
structure PkS (w1 WA : World) (g cap : Nat) (W : World) (B : Nat) (v : Value) (l : List UInt8) : Prop where
 L : L0 w1 WA g cap W
 b1 : WA.heap.size + 3 ≤ B
 b2 : B ≤ W.heap.size
 o : OwnB W B v l
theorem PkS.below {w1 WA W V : World} {g cap B : Nat} {v : Value} {l : List UInt8} (h : PkS w1 WA g cap W B v l) (hb : Below W.heap.size W V) : PkS w1 WA g cap V B v l := ⟨h.L.below hb, h.b1, Nat.le_trans h.b2 hb.size, h.o.keep hb⟩
theorem PkS.step {w1 WA W V : World} {g cap B : Nat} {v u : Value} {l r : List UInt8} (h : PkS w1 WA g cap W B v l) (ho : OwnB V B u r) (hb : Below B W V) : PkS w1 WA g cap V B u r := ⟨h.L.move (hb.mono h.b1), h.b1, Nat.le_trans h.b2 hb.size, ho⟩
theorem t1 {w1 WA W : World} {g cap : Nat} (h : L0 w1 WA g cap W) : ∀ j u, (Lib.byteCells [97])[j]? = Option.some u → W.cell? ((⟨WA.heap.size, 0, none⟩ : Addr).add j) = Option.some u :=
 BysAt.news (l := [97]) (fun i hi => by obtain rfl : i = 0 := (by simp at hi; omega); exact h.t)
theorem BysAt.new {W : World} {g : Nat} {l : List UInt8} (h : BysAt W (Option.some ⟨g, 0, none⟩) l) : ∀ j u, (Lib.byteCells l)[j]? = Option.some u → W.cell? ((⟨g, 0, none⟩ : Addr).add j) = Option.some u := by
 rcases h.2 with h | ⟨b, off, ha, hb, hc⟩
 ·subst h; intro j u hu; simp [Lib.byteCells] at hu
 ·cases ha; exact BysAt.news hc
end Go.Proofs.YtokjkligechcoaaGreatDoor
