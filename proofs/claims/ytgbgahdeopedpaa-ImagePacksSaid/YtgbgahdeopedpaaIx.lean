/- Walks of layer 16: a small program's bytes are that program. -/
import Derived.Test.YtgbgahdeopedpaaIo
import Derived.Deep.CutRange
import Derived.Deep.CutBlock
import Derived.Deep.RegionLaw
import Derived.Deep.AppendLies
namespace Go.Proofs.Ytgbgahdeopedpaa
open Go.RowKit
set_option linter.unusedVariables false
attribute [local go_sem] ext_mk size_mk toList_mk get_mk take_drop_len take_tail_len ByteArray.mk_append_mk List.append_toArray

theorem infoInsn : (Try.prog.info? 58).map (fun i => (i.zero, i.size, i.bytes)) = some (some (.agg #[.int .i64 0, .int .i64 0, .int .i64 0, .int .i64 0, .slice none 0 0, .slice none 0 0]), 6, 80) := by kernel_rfl

theorem infoFunc : (Try.prog.info? 61).map (fun i => (i.zero, i.size, i.bytes)) = some (some (.agg #[.int .i64 0, .int .i64 0, .slice none 0 0]), 3, 40) := by kernel_rfl

def rzBlk : Obj := .cells #[.slice none 0 0, .slice none 0 0, .slice none 0 0, .int .i64 0] 31 (0, 0)

theorem KAt.zcells {W : World} {m : Nat} (h : KAt W m rzBlk) : W.cell? ⟨m, 0, none⟩ = some (.slice none 0 0) ∧ W.cell? ⟨m, 1, none⟩ = some (.slice none 0 0) ∧ W.cell? ⟨m, 2, none⟩ = some (.slice none 0 0) ∧ W.cell? ⟨m, 3, none⟩ = some (.int .i64 0) ∧ W.frozen? ⟨m, 0, none⟩ = false ∧ W.frozen? ⟨m, 1, none⟩ = false ∧ W.frozen? ⟨m, 2, none⟩ = false ∧ W.frozen? ⟨m, 3, none⟩ = false := by
  refine ⟨?_, ?_, ?_, ?_, frozen_of_row _ _ _ _ _ h.x, frozen_of_row _ _ _ _ _ h.x, frozen_of_row _ _ _ _ _ h.x, frozen_of_row _ _ _ _ _ h.x⟩
  all_goals (rw [cell_of_row _ _ _ _ _ _ h.x]; rfl)

theorem BxAt.low {w W V : World} {p B : Nat} {o : Obj} (h : BxAt w W p o) (hb : Below B W V) (hp : p < B) (h0 : w.heap.size ≤ B) : BxAt w V p o :=
  ⟨⟨by rw [hb.block _ hp]; exact h.k.x⟩, h.be.trans (hb.mono (Nat.le_of_lt hp)), fun j hj hn => (hb.block j (Nat.lt_of_lt_of_le hj h0)).trans (h.kp j hj hn)⟩

/-- behind Decode's head: the result's box, the reader, the bytes, the program's box -/
structure DAt (W0 W : World) (S p m g cap i : Nat) : Prop where
  b : BxAt W0 W p (dBlk g cap i)
  s : SAt W g p
  r : KAt W S rzBlk
  q : KAt W m rzBlk
  hm : W0.heap.size ≤ m
  hS : S < W0.heap.size
  hn : S ≠ p
  hp : p < W0.heap.size
  hg : g < W0.heap.size

theorem DAt.call {W0 W V : World} {S p m g cap i j : Nat} (h : DAt W0 W S p m g cap i) (k : BxAt W V p (dBlk g cap j)) : DAt W0 V S p m g cap j :=
  ⟨h.b.trans k, h.s.bx k, k.blk h.r h.hn, k.blk h.q (by have := h.hm; have := h.hp; omega), h.hm, h.hS, h.hn, h.hp, h.hg⟩

theorem DAt.low {W0 W V : World} {S p m g cap i B : Nat} (h : DAt W0 W S p m g cap i) (hb : Below B W V) (hB : m < B) : DAt W0 V S p m g cap i := by
  have h1 := h.hm
  have h2 := h.hS
  have h3 := h.hp
  have h4 := h.hg
  exact ⟨h.b.low hb (by omega) (by omega), ⟨Nat.lt_of_lt_of_le h.s.l hb.size, h.s.n, fun i hi => (hb.cell (p := ⟨g, i, none⟩) (by show g < B; omega)).trans (h.s.c i hi)⟩,
    ⟨by rw [hb.block _ (by omega)]; exact h.r.x⟩, ⟨by rw [hb.block _ hB]; exact h.q.x⟩, h.hm, h.hS, h.hn, h.hp, h.hg⟩

theorem DAt.below {W0 W V : World} {S p m g cap i : Nat} (h : DAt W0 W S p m g cap i) (hb : Below W.heap.size W V) : DAt W0 V S p m g cap i := h.low hb (heap_lt h.q.x)

theorem DAt.cells {W0 W : World} {S p m g cap i : Nat} (h : DAt W0 W S p m g cap i) : W.cell? ⟨p, 1, none⟩ = some (.int .i64 i) ∧ W.cell? ⟨p, 2, none⟩ = some (.bool false) := ⟨h.b.k.dcells.2.1, h.b.k.dcells.2.2.1⟩

theorem d_start {w W0 w1 : World} {g cap : Nat} (hr : KAt W0 w.heap.size rzBlk) (hs : SAt W0 g (w.heap.size + 1)) (hd : KAt W0 (w.heap.size + 1) (dBlk g cap 0)) (h : BxAt W0 w1 (w.heap.size + 1) (dBlk g cap 1)) (hz : w.heap.size + 1 < W0.heap.size) (hm : w.heap.size ≠ w.heap.size + 1) (hg : g < w.heap.size) :
    DAt W0 (w1.alloc rzBlk) w.heap.size (w.heap.size + 1) w1.heap.size g cap 1 :=
  have hl : Below w1.heap.size w1 (w1.alloc rzBlk) := (Below.refl _ _).alloc (Nat.le_refl _) _
  ⟨h.below hl, (hs.bx h).below hl, (h.blk hr hm).below hl, KAt.new _ _, h.be.size, by omega, hm, hz, by omega⟩

/-- the function's box -/
def fnBlk (v : Value) : Obj := .cells #[.int .i64 0, .int .i64 1, v] 61 (0, 0)

theorem KAt.ncells {W : World} {m : Nat} {v : Value} (h : KAt W m (fnBlk v)) : W.cell? ⟨m, 0, none⟩ = some (.int .i64 0) ∧ W.cell? ⟨m, 1, none⟩ = some (.int .i64 1) ∧ W.cell? ⟨m, 2, none⟩ = some v ∧ W.frozen? ⟨m, 2, none⟩ = false := by
  refine ⟨?_, ?_, ?_, frozen_of_row _ _ _ _ _ h.x⟩
  all_goals (rw [cell_of_row _ _ _ _ _ _ h.x]; rfl)
abbrev ix (op : Int) : List Value := [.int .i64 op, .int .i64 0, .int .i64 0, .int .i64 0, .slice none 0 0, .slice none 0 0]

theorem row_bx {W V : World} {p base n size : Nat} {e : TypeId} {v : Value} {xs : List Value} {o : Obj} (h : W.ownsRow base e size v n xs) (hp : p < base) (k : BxAt W V p o) : V.ownsRow base e size v n xs := by
  obtain ⟨hl, ⟨rfl, h0⟩ | ⟨g, cap, cur, rfl, hg, hcur, hn, hcap, hsz, htk⟩⟩ := h
  · exact ⟨hl, .inl ⟨rfl, h0⟩⟩
  · exact ⟨hl, .inr ⟨g, cap, cur, rfl, hg, by rw [k.kp g (heap_lt hcur) (by omega)]; exact hcur, hn, hcap, hsz, htk⟩⟩

/-- the function's box and its own row of instructions -/
structure CAt (W0 W : World) (S p m g cap i fb : Nat) (v : Value) (k : Nat) (xs : List Value) : Prop where
  d : DAt W0 W S p m g cap i
  f : KAt W fb (fnBlk v)
  o : W.ownsRow (fb + 1) 58 6 v k xs
  h : m < fb

theorem CAt.call {W0 W V : World} {S p m g cap i j fb k : Nat} {v : Value} {xs : List Value} (h : CAt W0 W S p m g cap i fb v k xs) (q : BxAt W V p (dBlk g cap j)) : CAt W0 V S p m g cap j fb v k xs := by
  have h1 := h.h
  have h2 := h.d.hm
  have h3 := h.d.hp
  exact ⟨h.d.call q, q.blk h.f (by omega), row_bx h.o (by omega) q, h.h⟩

theorem CAt.below {W0 W V : World} {S p m g cap i fb k : Nat} {v : Value} {xs : List Value} (h : CAt W0 W S p m g cap i fb v k xs) (hb : Below W.heap.size W V) : CAt W0 V S p m g cap i fb v k xs :=
  ⟨h.d.below hb, h.f.below hb, row_below h.o hb, h.h⟩

theorem c_start {W0 W : World} {S p m g cap i : Nat} (h : DAt W0 W S p m g cap i) : CAt W0 (W.alloc (fnBlk (.slice none 0 0))) S p m g cap i W.heap.size (.slice none 0 0) 0 [] :=
  ⟨h.below ((Below.refl _ _).alloc (Nat.le_refl _) _), KAt.new _ _, World.ownsRow_nil _ _ _ _, heap_lt h.q.x⟩

theorem c_put {W0 W : World} {S p m g cap i fb k' : Nat} {v v' : Value} {xs' : List Value} (d : DAt W0 W S p m g cap i) (f : KAt W fb (fnBlk v)) (ho : W.ownsRow (fb + 1) 58 6 v' k' xs') (h : m < fb) : CAt W0 (W.setCell ⟨fb, 2, none⟩ v') S p m g cap i fb v' k' xs' :=
  ⟨d.low ((Below.refl fb W).setCell (p := ⟨fb, 2, none⟩) (Nat.le_refl _) _) h, ⟨heap_setCell_same (i := 2) _ _ _ _ v' f.x⟩, ownsRow_setCell_below ho (a := ⟨fb, 2, none⟩) (Nat.lt_succ_self fb) v', h⟩

theorem step_insn {W0 W : World} {S p m g cap i fb k : Nat} {v : Value} {xs : List Value} {op : Int} {T : TypeId} {ops : Array Oper} {o : Oper} {a : Act} {K : Act → World → Prop} {Q : Exit → Act → World → Prop} {E : Prop}
    (hC : CAt W0 W S p m g cap i fb v k xs) (hk : k < 100) (hgd : o.guard = none) (s x : Operand) (ho : o.op = .call { callee := .builtin .append, args := #[s, x], argTypes := #[59, 59] })
    (hs : a.eval s = v) (hx : a.eval x = .slice (some ⟨W.heap.size, 0, none⟩) 1 1)
    (h : ∀ g' cap' V, V.ownsRow (fb + 1) 58 6 (.slice (some ⟨g', 0, none⟩) (k + 1) cap') (k + 1) (xs ++ ix op) → DAt W0 V S p m g cap i → KAt V fb (fnBlk v) → V.cell? ⟨fb, 2, none⟩ = some v → V.frozen? ⟨fb, 2, none⟩ = false → K (a.put o.dst (.slice (some ⟨g', 0, none⟩) (k + 1) cap')) V) :
    if Region.wanted o (yielded ops a.tmps) = true then Oper.wp Try.prog o a (W.alloc (.cells #[.int .i64 op, .int .i64 0, .int .i64 0, .int .i64 0, .slice none 0 0, .slice none 0 0] T)) K Q else E := by
  obtain ⟨i0, hi, hz0, hz1, hz2⟩ := info_parts infoInsn
  have hlt := heap_lt hC.f.x
  have hm := hC.h
  have hb0 : Below W.heap.size W (W.alloc (.cells #[.int .i64 op, .int .i64 0, .int .i64 0, .int .i64 0, .slice none 0 0, .slice none 0 0] T)) := (Below.refl _ _).alloc (Nat.le_refl _) _
  have hown1 := row_below hC.o hb0
  refine step_append_lies _ hgd s x 59 ho (fb + 1) 58 i0 _ 6 80 Try.underlying59 hi hz0 hz1 hz2 rfl (by decide) v k xs hs hown1 ⟨W.heap.size, 0, none⟩ 1 1 (ix op) hx rfl (World.news_of_block (heap_alloc_new _ _)) (by intro u hu; simp at hu; rcases hu with rfl | rfl | rfl <;> rfl) (by decide) (by unfold maxLen; omega) (by omega) (by simp; omega) _ rfl ?_
  intro g' cap' V k1 k2 _ _
  have hbe : Below (fb + 1) W V := (hb0.mono (by omega)).trans ((Below.refl (fb + 1) _).grown k2 (by simp; omega) (fun j hj => by have := (hown1.lt j hj).1; omega))
  have hf : KAt V fb (fnBlk v) := ⟨by rw [hbe.block fb (Nat.lt_succ_self _)]; exact hC.f.x⟩
  exact h g' cap' V k1 (hC.d.low hbe (by omega)) hf hf.ncells.2.2.1 hf.ncells.2.2.2

/-- behind the only function -/
structure ZAt (W0 W : World) (S p m g cap F C cf cc : Nat) : Prop where
  b : BxAt W0 W p (dBlk g cap 19)
  r : KAt W S rzBlk
  q : KAt W m (pBlk F cf)
  P : P1At W F C cc
  hS : S < W0.heap.size
  hn : S ≠ p
  hp : p < W0.heap.size

theorem addr0 (g j : Nat) : (⟨g, 0, none⟩ : Addr).add j = ⟨g, j, none⟩ := addr_add g j

theorem app_func {W : World} {C cc : Nat} {T : TypeId} {ops : Array Oper} {rest : List Oper} {o : Oper} {a : Act} {Q : Exit → Act → World → Prop} (hgd : o.guard = none) (sl x : Operand)
    (ho : o.op = .call { callee := .builtin .append, args := #[sl, x], argTypes := #[27, 27] })
    (hs : a.eval sl = .slice none 0 0) (H : Nat) (hH : W.heap.size = H) (hx : a.eval x = .slice (some ⟨H, 0, none⟩) 1 1)
    (h : ∀ F cf V, V.cell? ⟨F, 0, none⟩ = some (.int .i64 0) → V.cell? ⟨F, 1, none⟩ = some (.int .i64 1) → V.cell? ⟨F, 2, none⟩ = some (.slice (some ⟨C, 0, none⟩) 2 cc) → F < V.heap.size → W.heap.size ≤ F → Below W.heap.size W V → wpList Try.prog ops Q rest (a.put o.dst (.slice (some ⟨F, 0, none⟩) 1 cf)) V) :
    wpList Try.prog ops Q (o :: rest) a (W.alloc (.cells #[.int .i64 0, .int .i64 1, .slice (some ⟨C, 0, none⟩) 2 cc] T)) := by
  obtain ⟨i0, hi, hz0, hz1, hz2⟩ := info_parts infoFunc
  subst hH
  have hb0 : Below W.heap.size W (W.alloc (.cells #[.int .i64 0, .int .i64 1, .slice (some ⟨C, 0, none⟩) 2 cc] T)) := (Below.refl _ _).alloc (Nat.le_refl _) _
  refine wpList_append_lies _ hgd sl x 27 ho W.heap.size 61 i0 _ 3 40 Try.underlying27 hi hz0 hz1 hz2 rfl (by decide) (.slice none 0 0) 0 [] hs (World.ownsRow_nil _ _ _ _) ⟨W.heap.size, 0, none⟩ 1 1 [.int .i64 0, .int .i64 1, .slice (some ⟨C, 0, none⟩) 2 cc] hx rfl (World.news_of_block (heap_alloc_new _ _)) (by intro u hu; simp at hu; rcases hu with rfl | rfl | rfl <;> rfl) (by decide) (by unfold maxLen; omega) (by omega) (by simp) _ rfl ?_
  intro F cf V k1 k2 k3 k4
  have hbe : Below W.heap.size W V := hb0.trans ((Below.refl _ _).grown k2 (by simp) (fun j hj => nomatch hj))
  have hF : W.heap.size ≤ F := by
    rcases k1.2 with ⟨q, _⟩ | ⟨_, _, _, q, q1, _⟩
    · cases q
    · cases q; exact q1
  have hc := fun j u hu => k1.cells (g := F) rfl j u hu
  refine h F cf V ?_ ?_ ?_ k4 hF hbe
  · have := hc 0 _ rfl; rwa [addr0] at this
  · have := hc 1 _ rfl; rwa [addr0] at this
  · have := hc 2 _ rfl; rwa [addr0] at this

theorem ix_getD (i : Nat) (hi : i < 12) : (ix 1 ++ ix 13)[i]? = some ([Value.int .i64 1, .int .i64 0, .int .i64 0, .int .i64 0, .slice none 0 0, .slice none 0 0, .int .i64 13, .int .i64 0, .int .i64 0, .int .i64 0, .slice none 0 0, .slice none 0 0].getD i (.int .i64 0)) := by
  match i, hi with
  | 0, _ | 1, _ | 2, _ | 3, _ | 4, _ | 5, _ | 6, _ | 7, _ | 8, _ | 9, _ | 10, _ | 11, _ => rfl

theorem z_mk {W0 W V : World} {S p m g cap fb C cc F cf : Nat} (h : CAt W0 W S p m g cap 19 fb (.slice (some ⟨C, 0, none⟩) 2 cc) 2 (ix 1 ++ ix 13)) (r0 : V.cell? ⟨F, 0, none⟩ = some (.int .i64 0)) (r1 : V.cell? ⟨F, 1, none⟩ = some (.int .i64 1)) (r2 : V.cell? ⟨F, 2, none⟩ = some (.slice (some ⟨C, 0, none⟩) 2 cc)) (r3 : F < V.heap.size) (r4 : W.heap.size ≤ F) (hb : Below W.heap.size W V) :
    ZAt W0 (V.setCell ⟨m, 0, none⟩ (.slice (some ⟨F, 0, none⟩) 1 cf)) S p m g cap F C cf cc := by
  have d := h.d.below hb
  have h1 := h.h
  have h2 := h.d.hm
  have h3 := h.d.hp
  have h4 := h.d.hS
  have h5 := heap_lt h.f.x
  have hbm : Below m V (V.setCell ⟨m, 0, none⟩ (.slice (some ⟨F, 0, none⟩) 1 cf)) := (Below.refl m V).setCell (p := ⟨m, 0, none⟩) (Nat.le_refl _) _
  obtain ⟨hC1, hC2⟩ : fb + 1 ≤ C ∧ C < W.heap.size := by
    obtain ⟨g', c', q, q1, q2⟩ := h.o.form (by decide)
    cases q; exact ⟨q1, q2⟩
  have hcc := fun j u hu => h.o.cells (g := C) rfl j u hu
  have hne : ∀ b i, b ≠ m → (V.setCell ⟨m, 0, none⟩ (.slice (some ⟨F, 0, none⟩) 1 cf)).cell? ⟨b, i, none⟩ = V.cell? ⟨b, i, none⟩ := fun b i hb => World.cell?_of_block (a := ⟨b, i, none⟩) (Below.heap_setCell _ _ _ _ hb)
  refine ⟨d.b.low hbm (by omega) h2, ⟨by rw [hbm.block _ (by omega)]; exact d.r.x⟩, ⟨heap_setCell_same (i := 0) _ _ _ _ _ d.q.x⟩, ?_, h4, h.d.hn, h3⟩
  refine ⟨by simpa [World.setCell] using r3, by have := hb.size; simp [World.setCell]; omega, by rw [hne _ _ (by omega)]; exact r0, by rw [hne _ _ (by omega)]; exact r1, by rw [hne _ _ (by omega)]; exact r2, fun i hi => ?_⟩
  rw [hne _ _ (by omega), hb.cell (p := ⟨C, i, none⟩) hC2]
  have := hcc i _ (ix_getD i hi)
  rwa [addr0] at this

theorem p_set {W : World} {m : Nat} (h : KAt W m rzBlk) (a b c d : Value) :
    ((((W.setCell ⟨m, 0, none⟩ a).setCell ⟨m, 1, none⟩ b).setCell ⟨m, 2, none⟩ c).setCell ⟨m, 3, none⟩ d).heap[m]? = some (.cells #[a, b, c, d] 31 (0, 0)) :=
  heap_setCell_same (i := 3) _ _ _ _ _ (heap_setCell_same (i := 2) _ _ _ _ _ (heap_setCell_same (i := 1) _ _ _ _ _ (heap_setCell_same (i := 0) _ _ _ _ _ h.x)))

theorem P1At.put {W : World} {F C cc : Nat} (h : P1At W F C cc) (a : Addr) (hF : F ≠ a.block) (hC : C ≠ a.block) (v : Value) : P1At (W.setCell a v) F C cc := by
  have e : ∀ b i, b ≠ a.block → (W.setCell a v).cell? ⟨b, i, none⟩ = W.cell? ⟨b, i, none⟩ := fun b i hb => World.cell?_of_block (a := ⟨b, i, none⟩) (Below.heap_setCell _ _ _ _ hb)
  have z : (W.setCell a v).heap.size = W.heap.size := by simp [World.setCell]
  exact ⟨by rw [z]; exact h.fl, by rw [z]; exact h.cl, by rw [e _ _ hF]; exact h.f0, by rw [e _ _ hF]; exact h.f1, by rw [e _ _ hF]; exact h.f2, fun i hi => by rw [e _ _ hC]; exact h.c i hi⟩

theorem p1_set {W : World} {F C cc m : Nat} (h : P1At W F C cc) (hn : F ≠ m ∧ C ≠ m) (a b c d : Value) : P1At ((((W.setCell ⟨m, 0, none⟩ a).setCell ⟨m, 1, none⟩ b).setCell ⟨m, 2, none⟩ c).setCell ⟨m, 3, none⟩ d) F C cc :=
  (((h.put ⟨m, 0, none⟩ hn.1 hn.2 a).put ⟨m, 1, none⟩ hn.1 hn.2 b).put ⟨m, 2, none⟩ hn.1 hn.2 c).put ⟨m, 3, none⟩ hn.1 hn.2 d

theorem z_ne {W0 W : World} {S p m g cap F C cf cc : Nat} (h : ZAt W0 W S p m g cap F C cf cc) : F ≠ S ∧ C ≠ S := by
  have h1 := h.r
  have h2 := h.P
  have k0 := h1.zcells.1
  have k2 := h1.zcells.2.2.1
  refine ⟨?_, ?_⟩
  · rintro rfl
    have := h2.f2
    rw [k2] at this; cases this
  · rintro rfl
    have := h2.c 0 (by decide)
    rw [k0] at this; cases this

set_option maxHeartbeats 4000000 in
set_option maxRecDepth 8000 in
theorem decode_p1 (g cap : Nat) (w : World) (hB : BysAt w (some ⟨g, 0, none⟩) encL) :
    Calls Try.prog 27 #[.slice (some ⟨g, 0, none⟩) 19 cap] w fun x w' => ∃ F C cf cc, x = .returned (.tuple #[.agg #[.slice (some ⟨F, 0, none⟩) 1 cf, .slice none 0 0, .slice none 0 0, .int .i64 0], .int .i64 0]) ∧ P1At w' F C cc ∧ Below w.heap.size w w' := by
  obtain ⟨W0, hW0⟩ : ∃ W, (w.alloc rzBlk).alloc (dBlk g cap 0) = W := ⟨_, rfl⟩
  have hz : (w.alloc rzBlk).heap.size = w.heap.size + 1 := by simp
  have hb0 : Below w.heap.size w W0 := by rw [← hW0]; exact ((Below.refl _ _).alloc (Nat.le_refl _) _).alloc (by simp) _
  have kr : KAt W0 w.heap.size rzBlk := by rw [← hW0]; exact (KAt.new w rzBlk).alloc _
  have kd : KAt W0 (w.heap.size + 1) (dBlk g cap 0) := by rw [← hW0, ← hz]; exact KAt.new _ _
  have hgl : g < w.heap.size := by
    rcases hB.2 with q | ⟨b, off, q1, q2, q3⟩
    · exact absurd q (by decide)
    · cases q1; exact q2
  have hs : SAt W0 g (w.heap.size + 1) := by
    rcases hB.2 with q | ⟨b, off, q1, q2, q3⟩
    · exact absurd q (by decide)
    · cases q1
      refine ⟨Nat.lt_of_lt_of_le q2 hb0.size, by omega, fun i hi => ?_⟩
      rw [hb0.cell (p := ⟨g, i, none⟩) q2]
      have := q3 i hi
      rwa [Nat.zero_add] at this
  have CS := Lib.hid (fun p i c W h1 h2 h3 h4 h5 => small_r p g cap i c W h1 h2 h3 h4 h5)
  have CC := Lib.hid (fun p i c k W h1 h2 h3 h4 h5 => count_r p g cap i c k W h1 h2 h3 h4 h5)
  have CI := Lib.hid (fun p i op W h1 h2 h3 => insn_r p g cap i op W h1 h2 h3)
  have KD := Lib.hid kd
  have KR := Lib.hid kr
  have HS := Lib.hid hs
  have HB0 := Lib.hid hb0
  clear hB kr kd hs hb0 hz
  change (w.alloc (.cells #[.slice none 0 0, .slice none 0 0, .slice none 0 0, .int .i64 0] 31)).alloc (.cells #[.slice (some ⟨g, 0, none⟩) 19 cap, .int .i64 0, .bool false] 94) = W0 at hW0
  have hz0 : W0.heap.size = w.heap.size + 2 := by rw [← hW0]; simp
  have HZ0 := Lib.hid hz0
  clear hz0
  go_enter Try.func27, Try.ntmps27
  go_wp2_with (first
    | (go_at_call 40; (refine (CS.out _ 0 0 _ KD.out HS.out (by decide) (by decide) (by decide)).mono ?_; rintro e w1 ⟨rfl, h1⟩; have D := Lib.hid (d_start KR.out HS.out KD.out h1 (by have := HZ0.out; omega) (by omega) hgl); clear h1))
    | (go_at_call 41; refine (CC.out _ 1 0 1 _ D.out.b.k D.out.s (by decide) (by decide) (by decide)).mono ?_; rintro e w2 ⟨rfl, h1⟩; have D := Lib.hid (D.out.call h1); clear h1))
  go_loopw [6] (fun vi wr => vi = .int .i64 0 ∧ wr = w2) (fun _ _ => 0)
  case atStart => exact ⟨rfl, rfl⟩
  case round =>
    obtain ⟨rfl, rfl⟩ := hrel
    go_wp2_with (first
      | (go_at_call 41; refine (CC.out _ 2 0 8 _ D.out.b.k D.out.s (by decide) (by decide) (by decide)).mono ?_; rintro e w3 ⟨rfl, h1⟩; have D := Lib.hid (D.out.call h1); clear h1))
    go_loopw [8] (fun vi wr => vi = .int .i64 0 ∧ wr = w3) (fun _ _ => 0)
    case atStart => exact ⟨rfl, rfl⟩
    case round =>
      obtain ⟨rfl, rfl⟩ := hrel
      go_wp2_with (first
        | (go_at_call 41; refine (CC.out _ 3 1 3 _ D.out.b.k D.out.s (by decide) (by decide) (by decide)).mono ?_; rintro e w4 ⟨rfl, h1⟩; have D := Lib.hid (D.out.call h1); clear h1))
      go_loopw [11] (fun vi wr => (vi = .int .i64 1 ∧ wr = w4) ∨ (vi = .int .i64 0 ∧ ∃ F C cf cc, ZAt W0 wr w.heap.size (w.heap.size + 1) w1.heap.size g cap F C cf cc)) (fun vi _ => (intOf vi).toNat)
      case atStart => exact .inl ⟨rfl, rfl⟩
      case round =>
        obtain ⟨W5, hW5⟩ : ∃ W, W = wr := ⟨_, rfl⟩
        subst hW5
        rcases hrel with ⟨rfl, hw⟩ | ⟨rfl, F, C, cf, cc, he⟩
        · rw [← hw] at D
          clear hw
          have bad := D.out.cells.2
          go_wp2_with (first
            | (go_at_call 40; refine (CS.out _ 4 0 _ D.out.b.k D.out.s (by decide) (by decide) (by decide)).mono ?_; rintro e w5 ⟨rfl, h1⟩; have D5 := Lib.hid (D.out.call h1); clear D h1)
            | (go_at_call 40; refine (CS.out _ 5 1 _ D5.out.b.k D5.out.s (by decide) (by decide) (by decide)).mono ?_; rintro e w6 ⟨rfl, h1⟩; have D6 := Lib.hid (D5.out.call h1); clear D5 h1; have A := Lib.hid (c_start D6.out))
            | (go_at_call 41; refine (CC.out _ 6 2 6 _ A.out.d.b.k A.out.d.s (by decide) (by decide) (by decide)).mono ?_; rintro e w7 ⟨rfl, h1⟩; have A7 := Lib.hid (A.out.call h1); clear A h1))
          obtain ⟨fb, hfb⟩ : ∃ fb, w6.heap.size = fb := ⟨_, rfl⟩
          have a7 := A7.out
          rw [hfb] at a7
          rw [hfb]
          clear A7 hfb
          have A7 := Lib.hid a7
          clear a7
          go_loopw [13] (fun vi wr => ∃ i v k xs, CAt W0 wr w.heap.size (w.heap.size + 1) w1.heap.size g cap i fb v k xs ∧ ((vi = .int .i64 2 ∧ i = 7 ∧ k = 0 ∧ xs = []) ∨ (vi = .int .i64 1 ∧ i = 13 ∧ k = 1 ∧ xs = ix 1) ∨ (vi = .int .i64 0 ∧ i = 19 ∧ k = 2 ∧ xs = ix 1 ++ ix 13))) (fun vi _ => (intOf vi).toNat)
          case atStart => exact ⟨_, _, _, _, A7.out, .inl ⟨rfl, rfl, rfl, rfl⟩⟩
          case round =>
            obtain ⟨W8, hW8⟩ : ∃ W, W = wr := ⟨_, rfl⟩
            subst hW8
            clear A7 bad
            obtain ⟨i, v, k, xs, hC, ⟨rfl, rfl, rfl, rfl⟩ | ⟨rfl, rfl, rfl, rfl⟩ | ⟨rfl, rfl, rfl, rfl⟩⟩ := hrel
            · have bad := hC.d.cells.2
              obtain ⟨y0, y1, y2, z2⟩ := hC.f.ncells
              have A := Lib.hid hC
              clear hC
              go_upto_region 29 with (fail)
              go_region_law (first
                | (go_simp; go_at_call 42; refine (CI.out _ 7 1 _ (A.out.below (Below.refl _ _).drew).d.b.k (A.out.below (Below.refl _ _).drew).d.s (by decide)).mono ?_; rintro e w9 ⟨rfl, h1⟩; have A1 := Lib.hid ((A.out.below (Below.refl _ _).drew).call h1); have y5 := A1.out.f.ncells.2.2.1; have y6 : ∀ o, (w9.alloc o).cell? ⟨fb, 2, none⟩ = some v := fun o => (A1.out.below ((Below.refl _ _).alloc (Nat.le_refl _) o)).f.ncells.2.2.1)
                | (refine step_insn A1.out (by decide) rfl _ _ rfl rfl rfl ?_; intro g' cap' V r7 d7 f7 y7 z7))
              all_goals go_wp2_with fail
              all_goals go_roundw
              all_goals first
                | exact ⟨_, _, _, _, c_put d7 f7 r7 A.out.h, .inr (.inl ⟨rfl, rfl, rfl, rfl⟩)⟩
                | simp [intOf]
            · have bad := hC.d.cells.2
              obtain ⟨y0, y1, y2, z2⟩ := hC.f.ncells
              have A := Lib.hid hC
              clear hC
              go_upto_region 29 with (fail)
              go_region_law (first
                | (go_simp; go_at_call 42; refine (CI.out _ 13 13 _ (A.out.below (Below.refl _ _).drew).d.b.k (A.out.below (Below.refl _ _).drew).d.s (by decide)).mono ?_; rintro e w9 ⟨rfl, h1⟩; have A1 := Lib.hid ((A.out.below (Below.refl _ _).drew).call h1); have y5 := A1.out.f.ncells.2.2.1; have y6 : ∀ o, (w9.alloc o).cell? ⟨fb, 2, none⟩ = some v := fun o => (A1.out.below ((Below.refl _ _).alloc (Nat.le_refl _) o)).f.ncells.2.2.1)
                | (refine step_insn A1.out (by decide) rfl _ _ rfl rfl rfl ?_; intro g' cap' V r7 d7 f7 y7 z7))
              all_goals go_wp2_with fail
              all_goals go_roundw
              all_goals first
                | exact ⟨_, _, _, _, c_put d7 f7 r7 A.out.h, .inr (.inr ⟨rfl, rfl, rfl, rfl⟩)⟩
                | simp [intOf]
            · obtain ⟨C, cc, rfl, hC1, hC2⟩ := hC.o.form (by decide)
              obtain ⟨y0, y1, y2, z2⟩ := hC.f.ncells
              obtain ⟨x0, x1, x2, x3, v0, v1, v2, v3⟩ := hC.d.q.zcells
              have A := Lib.hid hC
              clear hC hC1 hC2
              go_wp2_with (first
                | (at_builtin; (refine app_func rfl _ _ rfl rfl _ rfl rfl ?_); (intro F cf V r0 r1 r2 r3 r4 hb9; have Z := Lib.hid (z_mk (cf := cf) A.out r0 r1 r2 r3 r4 hb9); obtain ⟨x0, x1, x2, x3, v0, v1, v2, v3⟩ := (A.out.d.below hb9).q.zcells; clear r0 r1 r2 r3 r4 hb9)))
              go_roundw
              case rel => exact .inr ⟨rfl, F, C, cf, cc, Z.out⟩
              case measure => simp [intOf]
        · have bad := he.b.k.dcells.2.2.1
          obtain ⟨x0, x1, x2, x3⟩ := he.q.pcells
          have Z := Lib.hid he
          have CK := Lib.hid (fun F C cf cc W h => check_p1 F C cf cc W h)
          clear he D
          go_wp2_with (first
            | (go_at_call 31; refine (CK.out F C cf cc _ Z.out.P).mono ?_; rintro e w9 ⟨rfl, hb9⟩; have HB9 := Lib.hid hb9; clear x0 x1 x2 x3 bad hb9; obtain ⟨x0, x1, x2, x3⟩ := (Z.out.q.below HB9.out).pcells; obtain ⟨-, b1, bad, -, -⟩ := (Z.out.b.k.below HB9.out).dcells; obtain ⟨r0, r1, r2, r3, z0, z1, z2, z3⟩ := (Z.out.r.below HB9.out).zcells))
          have hi' : (Try.prog.info? 31).map (·.size) = some 4 := by kernel_rfl
          (try simp only [Exit.inBlock, Exit.then]); refine bodyPost_ret (results_cell2 rfl _ _ w.heap.size 31 _ (0, 0) _ rfl (p_set (Z.out.r.below HB9.out) _ _ _ _) Try.underlying31 rfl hi') rfl ?_
          have hl : Below w.heap.size w w9 := HB0.out.trans ((Z.out.b.below HB9.out).be.mono (by omega))
          exact ⟨F, C, cf, cc, rfl, p1_set (Z.out.P.below HB9.out) (z_ne Z.out) _ _ _ _, (((hl.setCell (p := ⟨w.heap.size, 0, none⟩) (Nat.le_refl _) _).setCell (p := ⟨w.heap.size, 1, none⟩) (Nat.le_refl _) _).setCell (p := ⟨w.heap.size, 2, none⟩) (Nat.le_refl _) _).setCell (p := ⟨w.heap.size, 3, none⟩) (Nat.le_refl _) _⟩
end Go.Proofs.Ytgbgahdeopedpaa
