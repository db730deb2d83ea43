/- Walks of layer 16: a small program sets its register before it is read. -/
import Derived.Test.YtgbgahdeopedpaaIh
import Derived.Deep.OwnRows
import Derived.Deep.CutRange
import Derived.Deep.CutBlock
namespace Go.Proofs.Ytgbgahdeopedpaa
open Go.RowKit
set_option linter.unusedVariables false
attribute [local go_sem] ext_mk size_mk toList_mk get_mk take_drop_len take_tail_len ByteArray.mk_append_mk List.append_toArray

/-- the function's box, the rows, the first row -/
structure UAt (w W : World) (C cc : Nat) (i1 : Value) : Prop where
  b : Below w.heap.size w W
  f : W.heap[w.heap.size]? = some (.cells #[.int .i64 0, .int .i64 1, .slice (some ⟨C, 0, none⟩) 2 cc] 61 (0, 0))
  i : W.heap[w.heap.size + 1]? = some (.cells #[.slice (some ⟨w.heap.size + 2, 0, none⟩) 1 1, i1] 121 (0, 0))
  n : W.heap[w.heap.size + 2]? = some (.cells #[.int .u64 0] 83 (0, 0))
  l : w.heap.size + 3 ≤ W.heap.size

theorem UAt.move {w W V : World} {C cc : Nat} {i1 : Value} (h : UAt w W C cc i1) (hb : Below (w.heap.size + 3) W V) : UAt w V C cc i1 := by
  have := h.l
  exact ⟨h.b.trans (hb.mono (by omega)), by rw [hb.block _ (by omega)]; exact h.f, by rw [hb.block _ (by omega)]; exact h.i, by rw [hb.block _ (by omega)]; exact h.n, Nat.le_trans h.l hb.size⟩

theorem UAt.below {w W V : World} {C cc : Nat} {i1 : Value} (h : UAt w W C cc i1) (hb : Below W.heap.size W V) : UAt w V C cc i1 := h.move (hb.mono h.l)

theorem UAt.alloc {w W : World} {C cc : Nat} {i1 : Value} (h : UAt w W C cc i1) (o : Obj) : UAt w (W.alloc o) C cc i1 := h.below ((Below.refl _ _).alloc (Nat.le_refl _) _)

theorem UAt.put {w W : World} {C cc : Nat} {i1 : Value} (h : UAt w W C cc i1) (k : Nat) (hk : w.heap.size + 3 ≤ k) (v : Value) : UAt w (W.setCell ⟨k, 0, none⟩ v).drew C cc i1 :=
  h.move ((Below.refl _ _).setCell hk _).drew

theorem UAt.setI {w W : World} {C cc : Nat} {i1 : Value} (h : UAt w W C cc i1) (v : Value) : UAt w (W.setCell ⟨w.heap.size + 1, 1, none⟩ v) C cc v := by
  have e : ∀ j, j ≠ w.heap.size + 1 → (W.setCell ⟨w.heap.size + 1, 1, none⟩ v).heap[j]? = W.heap[j]? := fun j hj => Below.heap_setCell _ _ _ _ hj
  exact ⟨h.b.setCell (by show w.heap.size ≤ w.heap.size + 1; omega) _, by rw [e _ (by omega)]; exact h.f, heap_setCell_same (i := 1) _ _ _ _ v h.i, by rw [e _ (by omega)]; exact h.n, by have := h.l; simpa [World.setCell] using this⟩

theorem UAt.cells {w W : World} {C cc : Nat} {i1 : Value} (h : UAt w W C cc i1) :
    W.cell? ⟨w.heap.size, 0, none⟩ = some (.int .i64 0) ∧ W.cell? ⟨w.heap.size, 1, none⟩ = some (.int .i64 1) ∧ W.cell? ⟨w.heap.size, 2, none⟩ = some (.slice (some ⟨C, 0, none⟩) 2 cc) ∧
    W.cell? ⟨w.heap.size + 1, 0, none⟩ = some (.slice (some ⟨w.heap.size + 2, 0, none⟩) 1 1) ∧ W.cell? ⟨w.heap.size + 1, 1, none⟩ = some i1 ∧
    W.cell? ⟨w.heap.size + 2, 0, none⟩ = some (.int .u64 0) ∧ W.frozen? ⟨w.heap.size + 1, 1, none⟩ = false := by
  refine ⟨?_, ?_, ?_, ?_, ?_, ?_, frozen_of_row _ _ _ _ _ h.i⟩
  all_goals first
    | (rw [cell_of_row _ _ _ _ _ _ h.f]; rfl)
    | (rw [cell_of_row _ _ _ _ _ _ h.i]; rfl)
    | (rw [cell_of_row _ _ _ _ _ _ h.n]; rfl)

theorem heap_lt {W : World} {m : Nat} {o : Obj} (h : W.heap[m]? = some o) : m < W.heap.size := by
  rcases Nat.lt_or_ge m W.heap.size with q | q
  · exact q
  · rw [show W.heap[m]? = none from by simp [q]] at h; cases h

/-- a whole block lies -/
structure KAt (W : World) (m : Nat) (o : Obj) : Prop where
  x : W.heap[m]? = some o

theorem KAt.below {W V : World} {m : Nat} {o : Obj} (h : KAt W m o) (hb : Below W.heap.size W V) : KAt V m o := ⟨by rw [hb.block _ (heap_lt h.x)]; exact h.x⟩

theorem KAt.alloc {W : World} {m : Nat} {o : Obj} (h : KAt W m o) (q : Obj) : KAt (W.alloc q) m o := h.below ((Below.refl _ _).alloc (Nat.le_refl _) _)

theorem KAt.put {W : World} {m : Nat} {o : Obj} (h : KAt W m o) (p : Addr) (hk : m ≠ p.block) (v : Value) : KAt (W.setCell p v) m o := ⟨by rw [Below.heap_setCell _ _ _ _ hk]; exact h.x⟩

theorem KAt.drew {W : World} {m : Nat} {o : Obj} (h : KAt W m o) : KAt W.drew m o := ⟨h.x⟩

theorem KAt.new (W : World) (o : Obj) : KAt (W.alloc o) W.heap.size o := ⟨heap_alloc_new _ _⟩

/-- a row of one number, whose cell may be written -/
structure OAt (W : World) (k : Nat) (v : Value) : Prop where
  l : k < W.heap.size
  c : W.cell? ⟨k, 0, none⟩ = some v
  z : W.frozen? ⟨k, 0, none⟩ = false

theorem OAt.move {W V : World} {k : Nat} {v : Value} (h : OAt W k v) (hb : V.heap[k]? = W.heap[k]?) (hl : W.heap.size ≤ V.heap.size) : OAt V k v :=
  ⟨Nat.lt_of_lt_of_le h.l hl, (World.cell?_of_block (a := ⟨k, 0, none⟩) hb).trans h.c, (World.frozen?_of_block (a := ⟨k, 0, none⟩) hb).trans h.z⟩

theorem OAt.below {W V : World} {k : Nat} {v : Value} (h : OAt W k v) (hb : Below W.heap.size W V) : OAt V k v := h.move (hb.block _ h.l) hb.size

theorem OAt.alloc {W : World} {k : Nat} {v : Value} (h : OAt W k v) (q : Obj) : OAt (W.alloc q) k v := h.below ((Below.refl _ _).alloc (Nat.le_refl _) _)

theorem OAt.put {W : World} {k : Nat} {v : Value} (h : OAt W k v) (p : Addr) (hk : k ≠ p.block) (x : Value) : OAt (W.setCell p x) k v := h.move (Below.heap_setCell _ _ _ _ hk) (by simp [World.setCell])

theorem OAt.set {W : World} {k : Nat} {v : Value} (h : OAt W k v) (x : Value) : OAt (W.setCell ⟨k, 0, none⟩ x).drew k x :=
  ⟨by have := h.l; simpa [World.setCell] using this, World.cell?_setCell_same _ _ _ h.c, by have := h.z; exact (World.frozen?_setCell _ _ _ _).trans this⟩

def xBlk (op : Int) : Obj := .cells #[.int .i64 op, .int .i64 0, .int .i64 0, .int .i64 0, .slice none 0 0, .slice none 0 0] 58 (0, 0)

theorem KAt.xcells {W : World} {m : Nat} {op : Int} (h : KAt W m (xBlk op)) : W.cell? ⟨m, 0, none⟩ = some (.int .i64 op) ∧ W.cell? ⟨m, 1, none⟩ = some (.int .i64 0) ∧ W.cell? ⟨m, 2, none⟩ = some (.int .i64 0) ∧ W.cell? ⟨m, 3, none⟩ = some (.int .i64 0) ∧ W.cell? ⟨m, 4, none⟩ = some (.slice none 0 0) ∧ W.cell? ⟨m, 5, none⟩ = some (.slice none 0 0) := by
  refine ⟨?_, ?_, ?_, ?_, ?_, ?_⟩
  all_goals (rw [cell_of_row _ _ _ _ _ _ h.x]; rfl)

/-- the code's cells -/
structure C1At (w : World) (C : Nat) : Prop where
  cl : C < w.heap.size
  c : ∀ i, i < 12 → w.cell? ⟨C, i, none⟩ = some ([Value.int .i64 1, .int .i64 0, .int .i64 0, .int .i64 0, .slice none 0 0, .slice none 0 0, .int .i64 13, .int .i64 0, .int .i64 0, .int .i64 0, .slice none 0 0, .slice none 0 0].getD i (.int .i64 0))

structure UAt0 (w W : World) (C cc : Nat) : Prop where
  b : Below w.heap.size w W
  f : W.heap[w.heap.size]? = some (.cells #[.int .i64 0, .int .i64 1, .slice (some ⟨C, 0, none⟩) 2 cc] 61 (0, 0))
  i : W.heap[w.heap.size + 1]? = some (.cells #[.slice (some ⟨w.heap.size + 2, 0, none⟩) 1 1, .slice none 0 0] 121 (0, 0))
  n : W.heap[w.heap.size + 2]? = some (.cells #[.int .u64 0] 83 (0, 0))
  l : W.heap.size = w.heap.size + 3

theorem u0_start (w : World) (C cc : Nat) : UAt0 w (((w.alloc (.cells #[.int .i64 0, .int .i64 1, .slice (some ⟨C, 0, none⟩) 2 cc] 61)).alloc (.cells #[.slice (some ⟨w.heap.size + 1 + 1, 0, none⟩) 1 1, .slice none 0 0] 121)).alloc (.cells #[.int .u64 0] 83)) C cc := by
  have z : ∀ (W : World) (o : Obj), (W.alloc o).heap.size = W.heap.size + 1 := fun W o => by simp
  refine ⟨(((Below.refl _ _).alloc (Nat.le_refl _) _).alloc (by rw [z]; omega) _).alloc (by rw [z, z]; omega) _, ?_, ?_, ?_, by rw [z, z, z]⟩
  · rw [Below.heap_alloc _ _ _ (by rw [z, z]; omega), Below.heap_alloc _ _ _ (by rw [z]; omega)]; exact heap_alloc_new _ _
  · rw [Below.heap_alloc _ _ _ (by rw [z, z]; omega)]; have h := heap_alloc_new (w.alloc (.cells #[.int .i64 0, .int .i64 1, .slice (some ⟨C, 0, none⟩) 2 cc] 61)) (.cells #[.slice (some ⟨w.heap.size + 1 + 1, 0, none⟩) 1 1, .slice none 0 0] 121); rw [z] at h; exact h
  · have h := heap_alloc_new ((w.alloc (.cells #[.int .i64 0, .int .i64 1, .slice (some ⟨C, 0, none⟩) 2 cc] 61)).alloc (.cells #[.slice (some ⟨w.heap.size + 1 + 1, 0, none⟩) 1 1, .slice none 0 0] 121)) (.cells #[.int .u64 0] 83); rw [z, z] at h; exact h

theorem UAt0.u {w W : World} {C cc : Nat} (h : UAt0 w W C cc) : UAt w W C cc (.slice none 0 0) := ⟨h.b, h.f, h.i, h.n, by have := h.l; omega⟩

def tBlk : Obj := .cells #[.int .i64 0] 3 (0, 0)

/-- an append of one number that was just built to a row with room for one -/
theorem app_room {w : World} {ops : Array Oper} {rest : List Oper} {o : Oper} {a : Act} {Q : Exit → Act → World → Prop} {T : Nat} {v : Int} (hgd : o.guard = none) (sl x : Operand)
    (ho : o.op = .call { callee := .builtin .append, args := #[sl, x], argTypes := #[56, 56] })
    (hs : a.eval sl = .slice (some ⟨T, 0, none⟩) 0 1) (H : Nat) (hH : w.heap.size = H) (hx : a.eval x = .slice (some ⟨H, 0, none⟩) 1 1) (hT : KAt w T tBlk)
    (h : ∀ k c V, OAt V k (.int .i64 v) → w.heap.size ≤ V.heap.size → Below T w V → (∀ j, j < w.heap.size → j ≠ T → V.heap[j]? = w.heap[j]?) → wpList Try.prog ops Q rest (a.put o.dst (.slice (some ⟨k, 0, none⟩) 1 c)) V) : wpList Try.prog ops Q (o :: rest) a (w.alloc (.cells #[.int .i64 v] 3)) := by
  obtain ⟨i0, hi, hz0, hz1, hz2⟩ := info_parts infoInt
  have hTl := heap_lt hT.x
  subst hH
  have hown : (w.alloc (.cells #[.int .i64 v] 3)).ownsRow T 3 1 (.slice (some ⟨T, 0, none⟩) 0 1) 0 [] :=
    ⟨rfl, .inr ⟨T, 1, #[.int .i64 0], rfl, Nat.le_refl _, (hT.alloc _).x, by omega, by unfold maxLen; omega, rfl, rfl⟩⟩
  refine wpList_append_lies _ hgd sl x 56 ho T 3 i0 (.int .i64 0) 1 8 Try.underlying56 hi hz0 hz1 hz2 rfl (by decide) _ 0 [] hs hown ⟨w.heap.size, 0, none⟩ 1 1 [.int .i64 v] hx rfl ?_ (by intro u hu; simp at hu; subst hu; rfl) (by decide) (by unfold maxLen; omega) (by omega) (by simp; omega) _ rfl ?_
  · intro j u hj
    match j, hj with
    | 0, hj =>
      simp at hj; subst hj
      rw [show (⟨w.heap.size, 0, none⟩ : Addr).add 0 = ⟨w.heap.size, 0, none⟩ by simp [Addr.add]]; simp
    | j + 1, hj => simp at hj
  · intro k c V k1 k2 _ k4
    have hcell : V.cell? ⟨k, 0, none⟩ = some (.int .i64 v) := by
      have := k1.cells (g := k) rfl 0 (.int .i64 v) rfl
      rwa [show (⟨k, 0, none⟩ : Addr).add 0 = ⟨k, 0, none⟩ by simp [Addr.add]] at this
    have hfz : V.frozen? ⟨k, 0, none⟩ = false := by
      rcases k1.2 with ⟨q, _⟩ | ⟨g2, cap2, cur, q, _, q3, _⟩
      · cases q
      · cases q; exact frozen_of_row _ _ _ _ _ q3
    refine h k c V ⟨k4, hcell, hfz⟩ (Nat.le_trans (by simp) k2.size) (((Below.refl T w).alloc (by omega) _).grown k2 (by simp; omega) (fun j hj => (hown.lt j hj).1)) ?_
    intro j hj hn
    rw [k2.block j (by simp; omega) (by intro e; simp [Value.ownBlock] at e; exact hn e)]
    exact Below.heap_alloc _ _ _ hj

def uM (w : World) (v : Value) (W : World) : Nat := match W.cell? ⟨w.heap.size + 1, 1, none⟩ with | some (.slice none _ _) => 2 | _ => (match v with | .slice _ n _ => n | _ => 0)

theorem uM_0 {w W : World} {C cc : Nat} (h : UAt w W C cc (.slice none 0 0)) (v : Value) : uM w v W = 2 := by
  unfold uM; rw [h.cells.2.2.2.2.1]

theorem uM_1 {w W : World} {C cc k c : Nat} (h : UAt w W C cc (.slice (some ⟨k, 0, none⟩) 1 c)) (a : Option Addr) (n q : Nat) : uM w (.slice a n q) W = n := by
  unfold uM; rw [h.cells.2.2.2.2.1]

set_option maxHeartbeats 4000000 in
set_option maxRecDepth 8000 in
theorem unset_p1 (p : Value) (C cc : Nat) (w : World) (hC : C1At w C) :
    Calls Try.prog 51 #[p, .agg #[.int .i64 0, .int .i64 1, .slice (some ⟨C, 0, none⟩) 2 cc]] w fun x w' => x = .returned (.int .i64 (-1)) ∧ Below w.heap.size w w' := by
  have HC := Lib.hid hC
  have hmk := make_rows
  have e1 := fun (x : Addr) n c W => eqn_some 121 _ Try.underlying121 x n c W
  have e2 := fun W => eqn_none 121 _ Try.underlying121 W
  have CN := Lib.hid (fun W => newRow_1 W)
  have CK1 := Lib.hid (fun p W => keeps_fix p W)
  have CK2 := Lib.hid (fun p W => keeps_halt p W)
  have CS1 := Lib.hid (fun W => sets_fix W)
  have CS2 := Lib.hid (fun W => sets_halt W)
  have CX1 := Lib.hid (fun p W => next_fix p W)
  have CX2 := Lib.hid (fun p W => next_halt p W)
  have CR := Lib.hid (fun g c v W h1 h2 => clone_row g c v W h1 h2)
  have CP := Lib.hid (fun g c W h1 h2 => put_0 g c W h1 h2)
  have CD1 := Lib.hid (fun W => reads_fix W)
  have CD2 := Lib.hid (fun W => reads_halt W)
  have CN0 := Lib.hid (fun W => clone_nil W)
  have CN1 := Lib.hid (fun g c v W h1 h2 => clone_ints g c v W h1 h2)
  have CH := Lib.hid (fun g c W h => has_1 g c W h)
  clear hC
  go_enter Try.func51, Try.ntmps51
  go_wp2_with (first
    | (go_at_call 65; refine (CN.out _).mono ?_; rintro e w1 ⟨rfl, rfl⟩))
  go_loopw [36] (fun vi wr => vi = .int .i64 0 ∧ UAt0 w wr C cc) (fun vi _ => 0)
  case atStart => exact ⟨rfl, u0_start w C cc⟩
  case round =>
    obtain ⟨rfl, hU⟩ := hrel
    obtain ⟨W0, hW0⟩ : ∃ W, W = wr := ⟨_, rfl⟩
    subst hW0
    obtain ⟨d0, d1, d2, d3, d4, d5, d6⟩ := hU.u.cells
    go_wp2_with fail
    go_loopw [7] (fun v7 wr => (v7 = .slice (some ⟨w.heap.size + 3, 0, none⟩) 1 1 ∧ UAt w wr C cc (.slice none 0 0) ∧ KAt wr (w.heap.size + 3) tBlk) ∨
       (∃ t q k c, v7 = .slice (some ⟨t, 0, none⟩) 1 q ∧ UAt w wr C cc (.slice (some ⟨k, 0, none⟩) 1 c) ∧ OAt wr k (.int .u64 1) ∧ OAt wr t (.int .i64 1)) ∨
       (∃ t q k c, v7 = .slice (some ⟨t, 0, none⟩) 0 q ∧ UAt w wr C cc (.slice (some ⟨k, 0, none⟩) 1 c) ∧ OAt wr k (.int .u64 1))) (fun v7 wr => uM w v7 wr)
    case atStart => exact .inl ⟨by rw [hU.l], hU.u.alloc _, by rw [← hU.l]; exact KAt.new _ _⟩
    case round =>
      obtain ⟨W1, hW1⟩ : ∃ W, W = wr := ⟨_, rfl⟩
      subst hW1
      clear hU d0 d1 d2 d3 d4 d5 d6
      rcases hrel with ⟨rfl, hU, hT⟩ | ⟨t, q, k, c, rfl, hU, hk, ht⟩ | ⟨t, q, k, c, rfl, hU, hk⟩
      · obtain ⟨d0, d1, d2, d3, d4, d5, d6⟩ := hU.cells
        have t0 : W1.cell? ⟨w.heap.size + 3, 0, none⟩ = some (.int .i64 0) := by rw [cell_of_row _ _ _ _ _ _ hT.x]; rfl
        have c0 : W1.cell? ⟨C, 0, none⟩ = some (.int .i64 1) := by rw [(hU.b).cell (p := ⟨C, 0, none⟩) HC.out.cl]; exact HC.out.c 0 (by decide)
        have c1 : W1.cell? ⟨C, 0 + 1, none⟩ = some (.int .i64 0) := by rw [(hU.b).cell (p := ⟨C, 0 + 1, none⟩) HC.out.cl]; exact HC.out.c (0 + 1) (by decide)
        have c2 : W1.cell? ⟨C, 0 + 2, none⟩ = some (.int .i64 0) := by rw [(hU.b).cell (p := ⟨C, 0 + 2, none⟩) HC.out.cl]; exact HC.out.c (0 + 2) (by decide)
        have c3 : W1.cell? ⟨C, 0 + 3, none⟩ = some (.int .i64 0) := by rw [(hU.b).cell (p := ⟨C, 0 + 3, none⟩) HC.out.cl]; exact HC.out.c (0 + 3) (by decide)
        have c4 : W1.cell? ⟨C, 0 + 4, none⟩ = some (.slice none 0 0) := by rw [(hU.b).cell (p := ⟨C, 0 + 4, none⟩) HC.out.cl]; exact HC.out.c (0 + 4) (by decide)
        have c5 : W1.cell? ⟨C, 0 + 5, none⟩ = some (.slice none 0 0) := by rw [(hU.b).cell (p := ⟨C, 0 + 5, none⟩) HC.out.cl]; exact HC.out.c (0 + 5) (by decide)
        obtain ⟨a0, a1, a2, a3, a4, a5, a6⟩ := (hU.alloc (xBlk 1)).cells
        unfold xBlk at a0 a1 a2 a3 a4 a5 a6
        have HU := Lib.hid hU
        have HT := Lib.hid hT
        clear hU hT
        go_wp2_with (first
          | (go_at_call 67; with_reducible refine (CR.out (w.heap.size + 2) 1 0 _ (by have := HU.out.l; simp; omega) (HU.out.alloc _).cells.2.2.2.2.2.1).mono ?_; go_loud (rintro e w1 ⟨k1, q1, rfl, g1, g2, g3, g4, hb1⟩; have gk : w.heap.size + 4 ≤ k1 := Nat.le_trans (Nat.succ_le_of_lt (heap_lt HT.out.x)) (Nat.le_trans (by simp) g1); have gn : W1.heap.size ≠ k1 := Nat.ne_of_lt (Nat.lt_of_lt_of_le (by simp) g1); have U1 := Lib.hid ((HU.out.alloc _).below hb1); have T1 := Lib.hid ((HT.out.alloc _).below hb1); have X1 := Lib.hid ((KAt.new _ (xBlk 1)).below hb1); have O1 := Lib.hid (OAt.mk g2 g3 g4); have xk := heap_lt X1.out.x; clear g3 g4; obtain ⟨d0, d1, d2, d3, d4, d5, d6⟩ := U1.out.cells; obtain ⟨x0, x1, x2, x3, x4, x5⟩ := X1.out.xcells))
          | (go_at_call 68; refine (CK1.out _ _).mono ?_; rintro e w2 ⟨rfl, hb2⟩; have U2 := Lib.hid (U1.out.below hb2); have T2 := Lib.hid (T1.out.below hb2); have X2 := Lib.hid (X1.out.below hb2); have O2 := Lib.hid (O1.out.below hb2); obtain ⟨d0, d1, d2, d3, d4, d5, d6⟩ := U2.out.cells; obtain ⟨x0, x1, x2, x3, x4, x5⟩ := X2.out.xcells)
          | (go_at_call 70; refine (CS1.out _).mono ?_; rintro e w3 ⟨rfl, hb3⟩; have U3 := Lib.hid (U2.out.below hb3); have T3 := Lib.hid (T2.out.below hb3); have X3 := Lib.hid (X2.out.below hb3); have O3 := Lib.hid (O2.out.below hb3); obtain ⟨d0, d1, d2, d3, d4, d5, d6⟩ := U3.out.cells; obtain ⟨x0, x1, x2, x3, x4, x5⟩ := X3.out.xcells)
          | (go_at_call 66; refine (CP.out _ _ _ O3.out.c O3.out.z).mono ?_; rintro e w4 ⟨⟨_, rfl⟩, rfl⟩; have U4 := Lib.hid (U3.out.put k1 (by omega) (.int .u64 1)); have T4 := Lib.hid (T3.out.put ⟨k1, 0, none⟩ (by show _ ≠ k1; omega) (.int .u64 1)).drew; have X4 := Lib.hid (X3.out.put ⟨k1, 0, none⟩ gn (.int .u64 1)).drew; have O4 := Lib.hid (O3.out.set (.int .u64 1)); obtain ⟨d0, d1, d2, d3, d4, d5, d6⟩ := U4.out.cells; obtain ⟨x0, x1, x2, x3, x4, x5⟩ := X4.out.xcells)
          | (go_at_call 71; refine (CX1.out _ _).mono ?_; rintro e w5 ⟨g5, rfl, g6, g7, hb5⟩; have U5 := Lib.hid (U4.out.below hb5); have T5 := Lib.hid (T4.out.below hb5); have O5 := Lib.hid (O4.out.below hb5); obtain ⟨d0, d1, d2, d3, d4, d5, d6⟩ := U5.out.cells))
        have UC := Lib.hid U5.out
        have g9 := Lib.hid g6
        have g10 := Lib.hid g7
        clear g6 g7 d0 d1 d2 d3 d4 d5 d6 x0 x1 x2 x3 x4 x5 a0 a1 a2 a3 a4 a5 a6 c0 c1 c2 c3 c4 c5 t0
        clear hb1 hb2 hb3 hb5 U1 U2 U3 U4 T1 T2 T3 T4 X1 X2 X3 X4 O1 O2 O3 O4
        go_loopw [7, 104] (fun v7 vj wq => (vj = .int .i64 0 ∧ v7 = .slice (some ⟨w.heap.size + 3, 0, none⟩) 0 1 ∧ UAt w wq C cc (.slice none 0 0) ∧ KAt wq (w.heap.size + 3) tBlk ∧ OAt wq k1 (.int .u64 1) ∧ g5 < wq.heap.size ∧ wq.cell? ⟨g5, 0, none⟩ = some (.int .i64 1)) ∨
          (vj = .int .i64 1 ∧ ∃ t q k c, v7 = .slice (some ⟨t, 0, none⟩) 1 q ∧ UAt w wq C cc (.slice (some ⟨k, 0, none⟩) 1 c) ∧ OAt wq k (.int .u64 1) ∧ OAt wq t (.int .i64 1))) (fun _ vj _ => 1 - (intOf vj).toNat)
        case atStart => exact .inl ⟨rfl, rfl, U5.out, T5.out, O5.out, g9.out, g10.out⟩
        case round =>
          obtain ⟨W2, hW2⟩ : ∃ W, W = wr := ⟨_, rfl⟩
          subst hW2
          rcases hrel with ⟨rfl, rfl, hU, hT, hO, hg, hc⟩ | ⟨rfl, t, q, k, c, rfl, hU, hk, ht⟩
          · obtain ⟨d0, d1, d2, d3, d4, d5, d6⟩ := hU.cells
            have U5 := Lib.hid hU
            have T5 := Lib.hid hT
            have O5 := Lib.hid hO
            clear hU hT hO
            go_wp2_with (first
              | (go_at_call 67; with_reducible refine (CR.out k1 q1 1 _ O5.out.l O5.out.c).mono ?_; rintro e w6 ⟨k2, q2, rfl, h1, h2, h3, h4, hb6⟩; have hn2 : w.heap.size + 4 ≤ k2 := Nat.le_trans (Nat.succ_le_of_lt (heap_lt T5.out.x)) h1; have U6 := Lib.hid (U5.out.below hb6); have T6 := Lib.hid (T5.out.below hb6); have O6 := Lib.hid (OAt.mk h2 h3 h4); clear h3 h4; obtain ⟨d0, d1, d2, d3, d4, d5, d6⟩ := U6.out.cells)
              | (at_builtin; go_loud (refine app_room rfl _ _ rfl rfl _ (by simp [World.setCell]) rfl (T6.out.put ⟨w.heap.size + 1, 1, none⟩ (by show _ ≠ w.heap.size + 1; omega) _) ?_; intro t q V a1 a2 a3 a4)))
            go_roundw
            case rel => exact .inr ⟨rfl, t, q, k2, q2, rfl, (U6.out.setI _).move a3, (O6.out.put ⟨w.heap.size + 1, 1, none⟩ (by show k2 ≠ w.heap.size + 1; omega) _).move (a4 k2 (by simpa [World.setCell] using h2) (by omega)) a2, a1⟩
            case measure => simp [intOf]
          · go_wp2_with fail
            go_roundw
            case rel => exact .inr (.inl ⟨t, q, k, c, rfl, hU, hk, ht⟩)
            case measure => rw [uM_1 hU, uM_0 HU.out]; decide
      · obtain ⟨d0, d1, d2, d3, d4, d5, d6⟩ := hU.cells
        have t0 := ht.c
        have c0 : W1.cell? ⟨C, 6, none⟩ = some (.int .i64 13) := by rw [(hU.b).cell (p := ⟨C, 6, none⟩) HC.out.cl]; exact HC.out.c 6 (by decide)
        have c1 : W1.cell? ⟨C, 6 + 1, none⟩ = some (.int .i64 0) := by rw [(hU.b).cell (p := ⟨C, 6 + 1, none⟩) HC.out.cl]; exact HC.out.c (6 + 1) (by decide)
        have c2 : W1.cell? ⟨C, 6 + 2, none⟩ = some (.int .i64 0) := by rw [(hU.b).cell (p := ⟨C, 6 + 2, none⟩) HC.out.cl]; exact HC.out.c (6 + 2) (by decide)
        have c3 : W1.cell? ⟨C, 6 + 3, none⟩ = some (.int .i64 0) := by rw [(hU.b).cell (p := ⟨C, 6 + 3, none⟩) HC.out.cl]; exact HC.out.c (6 + 3) (by decide)
        have c4 : W1.cell? ⟨C, 6 + 4, none⟩ = some (.slice none 0 0) := by rw [(hU.b).cell (p := ⟨C, 6 + 4, none⟩) HC.out.cl]; exact HC.out.c (6 + 4) (by decide)
        have c5 : W1.cell? ⟨C, 6 + 5, none⟩ = some (.slice none 0 0) := by rw [(hU.b).cell (p := ⟨C, 6 + 5, none⟩) HC.out.cl]; exact HC.out.c (6 + 5) (by decide)
        obtain ⟨a0, a1, a2, a3, a4, a5, a6⟩ := (hU.alloc (xBlk 13)).cells
        unfold xBlk at a0 a1 a2 a3 a4 a5 a6
        have HU := Lib.hid hU
        have OK := Lib.hid hk
        clear hU hk ht
        go_wp2_with (first
          | (go_at_call 67; with_reducible refine (CR.out k c 1 _ (OK.out.alloc _).l (OK.out.alloc _).c).mono ?_; rintro e w1 ⟨k1, q1, rfl, g1, g2, g3, g4, hb1⟩; have U1 := Lib.hid ((HU.out.alloc _).below hb1); have X1 := Lib.hid ((KAt.new _ (xBlk 13)).below hb1); have O1 := Lib.hid ((OK.out.alloc _).below hb1); clear g3 g4; obtain ⟨d0, d1, d2, d3, d4, d5, d6⟩ := U1.out.cells; obtain ⟨x0, x1, x2, x3, x4, x5⟩ := X1.out.xcells)
          | (go_at_call 68; refine (CK2.out _ _).mono ?_; rintro e w2 ⟨rfl, hb2⟩; have U2 := Lib.hid (U1.out.below hb2); have X2 := Lib.hid (X1.out.below hb2); have O2 := Lib.hid (O1.out.below hb2); obtain ⟨d0, d1, d2, d3, d4, d5, d6⟩ := U2.out.cells; obtain ⟨x0, x1, x2, x3, x4, x5⟩ := X2.out.xcells)
          | (go_at_call 70; refine (CS2.out _).mono ?_; rintro e w3 ⟨rfl, hb3⟩; have U3 := Lib.hid (U2.out.below hb3); have X3 := Lib.hid (X2.out.below hb3); have O3 := Lib.hid (O2.out.below hb3); obtain ⟨d0, d1, d2, d3, d4, d5, d6⟩ := U3.out.cells; obtain ⟨x0, x1, x2, x3, x4, x5⟩ := X3.out.xcells)
          | (go_at_call 71; refine (CX2.out _ _).mono ?_; rintro e w5 ⟨rfl, hb5⟩; have U5 := Lib.hid (U3.out.below hb5); have O5 := Lib.hid (O3.out.below hb5); obtain ⟨d0, d1, d2, d3, d4, d5, d6⟩ := U5.out.cells))
        clear d0 d1 d2 d3 d4 d5 d6 x0 x1 x2 x3 x4 x5 a0 a1 a2 a3 a4 a5 a6 c0 c1 c2 c3 c4 c5 t0
        clear hb1 hb2 hb3 hb5 U1 U2 U3 X1 X2 X3 O1 O2 O3
        go_loopw [7, 104] (fun v7 vj wq => vj = .int .i64 0 ∧ v7 = .slice (some ⟨t, 0, none⟩) 0 q ∧ UAt w wq C cc (.slice (some ⟨k, 0, none⟩) 1 c) ∧ OAt wq k (.int .u64 1)) (fun _ vj _ => 0)
        case atStart => exact ⟨rfl, rfl, U5.out, O5.out⟩
        case round =>
          obtain ⟨rfl, rfl, hU, hk⟩ := hrel
          go_wp2_with fail
          go_roundw
          case rel => exact .inr (.inr ⟨t, q, k, c, rfl, hU, hk⟩)
          case measure => rw [uM_1 hU, uM_1 HU.out]; decide
      · obtain ⟨d0, d1, d2, d3, d4, d5, d6⟩ := hU.cells
        have HU := Lib.hid hU
        have OK := Lib.hid hk
        clear hU hk CN CK1 CK2 CS1 CS2 CX1 CX2 CR CP hmk
        go_wp2_with fail
        clear d0 d1 d2 d3 d4 d5 d6
        go_loopw [171] (fun vi wq => (vi = .int .i64 0 ∨ vi = .int .i64 1 ∨ vi = .int .i64 2) ∧ UAt w wq C cc (.slice (some ⟨k, 0, none⟩) 1 c) ∧ OAt wq k (.int .u64 1)) (fun vj _ => 2 - (intOf vj).toNat)
        case atStart => exact ⟨.inl rfl, HU.out, OK.out⟩
        case round =>
          obtain ⟨W2, hW2⟩ : ∃ W, W = wr := ⟨_, rfl⟩
          subst hW2
          obtain ⟨hv, hU, hO⟩ := hrel
          obtain ⟨d0, d1, d2, d3, d4, d5, d6⟩ := hU.cells
          have U1 := Lib.hid hU
          have O1 := Lib.hid hO
          rcases hv with rfl | rfl | rfl
          · obtain ⟨a0, a1, a2, a3, a4, a5, a6⟩ := (hU.alloc (xBlk 1)).cells
            unfold xBlk at a0 a1 a2 a3 a4 a5 a6
            have c0 : W2.cell? ⟨C, 0, none⟩ = some (.int .i64 1) := by rw [(hU.b).cell (p := ⟨C, 0, none⟩) HC.out.cl]; exact HC.out.c 0 (by decide)
            have c1 : W2.cell? ⟨C, 0 + 1, none⟩ = some (.int .i64 0) := by rw [(hU.b).cell (p := ⟨C, 0 + 1, none⟩) HC.out.cl]; exact HC.out.c (0 + 1) (by decide)
            have c2 : W2.cell? ⟨C, 0 + 2, none⟩ = some (.int .i64 0) := by rw [(hU.b).cell (p := ⟨C, 0 + 2, none⟩) HC.out.cl]; exact HC.out.c (0 + 2) (by decide)
            have c3 : W2.cell? ⟨C, 0 + 3, none⟩ = some (.int .i64 0) := by rw [(hU.b).cell (p := ⟨C, 0 + 3, none⟩) HC.out.cl]; exact HC.out.c (0 + 3) (by decide)
            have c4 : W2.cell? ⟨C, 0 + 4, none⟩ = some (.slice none 0 0) := by rw [(hU.b).cell (p := ⟨C, 0 + 4, none⟩) HC.out.cl]; exact HC.out.c (0 + 4) (by decide)
            have c5 : W2.cell? ⟨C, 0 + 5, none⟩ = some (.slice none 0 0) := by rw [(hU.b).cell (p := ⟨C, 0 + 5, none⟩) HC.out.cl]; exact HC.out.c (0 + 5) (by decide)
            clear hU hO
            go_upto_region 47 with (fail)
            have X1 := Lib.hid (KAt.new W2 (xBlk 1))
            go_cut [171, 186, 187, 188] from 171 to 201 (fun q0 q1 q2 q3 wx => q0 = .int .i64 0 ∧ q1 = .slice none 0 0 ∧ q2 = .int .i64 0 ∧ q3 = .int .i64 0 ∧ UAt w wx C cc (.slice (some ⟨k, 0, none⟩) 1 c) ∧ OAt wx k (.int .u64 1))
            case first =>
              go_region_law (first
                | (go_simp; go_at_call 73; refine (CD1.out _).mono ?_; rintro e w6 ⟨rfl, hb6⟩; have hb7 : Below (W2.alloc (xBlk 1)).heap.size (W2.alloc (xBlk 1)) w6 := ((Below.refl _ _).drew).trans hb6; have U6 := Lib.hid ((U1.out.alloc _).below hb7); have O6 := Lib.hid ((O1.out.alloc _).below hb7); have X6 := Lib.hid (X1.out.below hb7); have x5 := X6.out.xcells.2.2.2.2.2)
                | (go_simp; go_at_call 72; refine (CN0.out _).mono ?_; rintro e w6 ⟨rfl, rfl⟩))
              all_goals go_wp2_with fail
              all_goals go_meet
              all_goals exact ⟨rfl, rfl, rfl, rfl, U6.out, O6.out⟩
            case rest =>
              obtain ⟨rfl, rfl, rfl, rfl, hU6, hO6⟩ := hcut
              go_wp2_with fail
              go_loopw [188] (fun vj wq => vj = .int .i64 0 ∧ UAt w wq C cc (.slice (some ⟨k, 0, none⟩) 1 c) ∧ OAt wq k (.int .u64 1)) (fun _ _ => 0)
              case atStart => exact ⟨rfl, hU6, hO6⟩
              case round =>
                obtain ⟨rfl, hU, hO⟩ := hrel
                go_wp2_with fail
                go_roundw
                case rel => exact ⟨.inr (.inl rfl), hU, hO⟩
                case measure => simp [intOf]
          · obtain ⟨a0, a1, a2, a3, a4, a5, a6⟩ := (hU.alloc (xBlk 13)).cells
            unfold xBlk at a0 a1 a2 a3 a4 a5 a6
            have c0 : W2.cell? ⟨C, 6, none⟩ = some (.int .i64 13) := by rw [(hU.b).cell (p := ⟨C, 6, none⟩) HC.out.cl]; exact HC.out.c 6 (by decide)
            have c1 : W2.cell? ⟨C, 6 + 1, none⟩ = some (.int .i64 0) := by rw [(hU.b).cell (p := ⟨C, 6 + 1, none⟩) HC.out.cl]; exact HC.out.c (6 + 1) (by decide)
            have c2 : W2.cell? ⟨C, 6 + 2, none⟩ = some (.int .i64 0) := by rw [(hU.b).cell (p := ⟨C, 6 + 2, none⟩) HC.out.cl]; exact HC.out.c (6 + 2) (by decide)
            have c3 : W2.cell? ⟨C, 6 + 3, none⟩ = some (.int .i64 0) := by rw [(hU.b).cell (p := ⟨C, 6 + 3, none⟩) HC.out.cl]; exact HC.out.c (6 + 3) (by decide)
            have c4 : W2.cell? ⟨C, 6 + 4, none⟩ = some (.slice none 0 0) := by rw [(hU.b).cell (p := ⟨C, 6 + 4, none⟩) HC.out.cl]; exact HC.out.c (6 + 4) (by decide)
            have c5 : W2.cell? ⟨C, 6 + 5, none⟩ = some (.slice none 0 0) := by rw [(hU.b).cell (p := ⟨C, 6 + 5, none⟩) HC.out.cl]; exact HC.out.c (6 + 5) (by decide)
            clear hU hO
            go_upto_region 47 with (fail)
            have X1 := Lib.hid (KAt.new W2 (xBlk 13))
            go_cut [171, 186, 187, 188] from 171 to 201 (fun q0 q1 q2 q3 wx => ∃ g q, q0 = .int .i64 1 ∧ q1 = .slice (some ⟨g, 0, none⟩) 1 q ∧ q2 = .int .i64 1 ∧ q3 = .int .i64 0 ∧ UAt w wx C cc (.slice (some ⟨k, 0, none⟩) 1 c) ∧ OAt wx k (.int .u64 1) ∧ OAt wx g (.int .i64 0))
            case first =>
              go_region_law (first
                | (go_simp; go_at_call 73; refine (CD2.out _).mono ?_; rintro e w6 ⟨g6, rfl, g7, g8, hb6⟩; have hb7 : Below (W2.alloc (xBlk 13)).heap.size (W2.alloc (xBlk 13)) w6 := ((Below.refl _ _).drew).trans hb6; have U6 := Lib.hid ((U1.out.alloc _).below hb7); have O6 := Lib.hid ((O1.out.alloc _).below hb7); have X6 := Lib.hid (X1.out.below hb7); have x5 := X6.out.xcells.2.2.2.2.2)
                | (go_simp; go_at_call 72; refine (CN1.out _ _ _ _ g7 g8).mono ?_; rintro e w7 ⟨k3, c3, rfl, h0, h1, h2, h3, h4, hb8⟩; have U7 := Lib.hid (U6.out.below hb8); have O7 := Lib.hid (O6.out.below hb8); have X7 := Lib.hid (X6.out.below hb8); have x5 := X7.out.xcells.2.2.2.2.2; have hg := Lib.hid (OAt.mk h2 h3 h4); clear h2 h3 h4))
              all_goals go_wp2_with fail
              all_goals go_meet
              all_goals exact ⟨_, _, rfl, rfl, rfl, rfl, U7.out, O7.out, hg.out⟩
            case rest =>
              obtain ⟨g, q, rfl, rfl, rfl, rfl, hU6, hO6, hg⟩ := hcut
              go_wp2_with fail
              go_loopw [188] (fun vj wq => (vj = .int .i64 0 ∨ vj = .int .i64 1) ∧ UAt w wq C cc (.slice (some ⟨k, 0, none⟩) 1 c) ∧ OAt wq k (.int .u64 1) ∧ OAt wq g (.int .i64 0)) (fun vj _ => 1 - (intOf vj).toNat)
              case atStart => exact ⟨.inl rfl, hU6, hO6, hg⟩
              case round =>
                obtain ⟨hv, hU, hO, hg⟩ := hrel
                rcases hv with rfl | rfl
                · obtain ⟨d0, d1, d2, d3, d4, d5, d6⟩ := hU.cells
                  have g0 := hg.c
                  have o0 := hO.c
                  go_wp2_with (first | (go_at_call 69; refine (CH.out _ _ _ o0).mono ?_; rintro e w9 ⟨rfl, rfl⟩))
                  go_roundw
                  case rel => exact ⟨.inr rfl, hU, hO, hg⟩
                  case measure => simp [intOf]
                · go_wp2_with fail
                  go_roundw
                  case rel => exact ⟨.inr (.inr rfl), hU, hO⟩
                  case measure => simp [intOf]
          · clear hU hO
            go_wp2_with fail
            go_ret
            exact ⟨rfl, U1.out.b⟩
end Go.Proofs.Ytgbgahdeopedpaa
