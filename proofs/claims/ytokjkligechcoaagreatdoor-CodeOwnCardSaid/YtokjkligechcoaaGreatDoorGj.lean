/- Walks of layer 16: the reader of bytes, at any bytes. -/
import Derived.Test.YtokjkligechcoaaGreatDoorLi
import Derived.Test.YtokjkligechcoaaGreatDoorDv
set_option linter.unusedVariables false
namespace Go.Proofs.YtokjkligechcoaaGreatDoor
open Go.RowKit
attribute [local go_sem] ext_mk size_mk toList_mk get_mk take_drop_len take_tail_len ByteArray.mk_append_mk List.append_toArray
/-- the reader's box -/
def rdBlk (v : Value) (at' : Nat) (bad : Bool) : Obj := .cells #[v, .int .i64 at', .bool bad] 108 (0, 0)
section
section
variable (p : Nat) (a : Option Addr) (l : List UInt8) (cap i0 : Nat) (bad : Bool) (w0 w : World) (hk : KAt w p (rdBlk (.slice a l.length cap) i0 bad)) (hB : BysAt w0 a l) (h0 : w0.heap.size ≤ p) (hb0 : Below w0.heap.size w0 w) (hi : i0 ≤ l.length)
end
end
section
/-- a row of numbers at rest, at or above a block, below another -/
def IntR (W : World) (lo hi : Nat) (a : Option Addr) (L : List Int) : Prop :=
 L.length ≤ maxLen ∧ ((a = none ∧ L = []) ∨ ∃ b cs, a = some ⟨b, 0, none⟩ ∧ lo ≤ b ∧ b < hi ∧ W.heap[b]? = some (.cells cs 3 (0, 0)) ∧ ∀ i, i < L.length → cs[i]? = some (.int .i64 (L.getD i 0)))
theorem IntR.nil (W : World) (lo hi : Nat) : IntR W lo hi none [] := ⟨by decide, .inl ⟨rfl, rfl⟩⟩
theorem IntR.keep {W V : World} {lo hi lo' hi' : Nat} {a : Option Addr} {L : List Int} (h : IntR W lo hi a L) (h1 : lo' ≤ lo) (h2 : hi ≤ hi') (k : ∀ b cs, lo ≤ b → b < hi → W.heap[b]? = some (.cells cs 3 (0, 0)) → V.heap[b]? = some (.cells cs 3 (0, 0))) : IntR V lo' hi' a L := by
 obtain ⟨hm, h | ⟨b, cs, q1, q2, q3, q4, q5⟩⟩ := h
 ·exact ⟨hm, .inl h⟩
 ·exact ⟨hm, .inr ⟨b, cs, q1, by omega, by omega, k b cs q2 q3 q4, q5⟩⟩
theorem IntR.at {W : World} {lo hi : Nat} {a : Option Addr} {L : List Int} (h : IntR W lo hi a L) : IntsAt .i64 W a L := by
 obtain ⟨hm, ⟨h1, h2⟩ | ⟨b, cs, h1, -, -, h3, h4⟩⟩ := h
 ·exact ⟨hm, .inl h2⟩
 ·refine ⟨hm, .inr ⟨b, 0, h1, fun i hi => ?_⟩⟩
  rw [Nat.zero_add, cell_of_row _ _ _ _ _ _ h3]
  exact h4 i hi
theorem own_rest {W : World} {base n : Nat} {v : Value} {L : List Int} (h : W.ownsRow base 3 1 v n (ints L)) : n = L.length ∧ ∃ a cap, v = .slice a L.length cap ∧ IntR W base W.heap.size a L := by
 have hn : n = L.length := by have := h.1; simpa [ints] using this.symm
 subst hn
 refine ⟨rfl, ?_⟩
 rcases h.2 with ⟨q, q0⟩ | ⟨g, cap, cur, q, q1, q2, q3, q4, q5, q6⟩
 ·obtain rfl : L = [] := List.length_eq_zero_iff.1 q0
  exact ⟨none, 0, q, IntR.nil _ _ _⟩
 ·refine ⟨_, cap, q, Nat.le_trans q3 q4, .inr ⟨g, cur, rfl, q1, heap_lt q2, q2, fun i hi => ?_⟩⟩
  have e : (cur.toList.take (L.length * 1))[i]? = some (.int .i64 (L.getD i 0)) := by rw [q6]; simp [ints, List.getD, hi]
  rw [List.getElem?_take_of_lt (by omega)] at e
  simpa using e
/-- an instruction's box -/
def xvBlk (op a b c : Int) (v4 v5 : Value) : Obj := .cells #[.int .i64 op, .int .i64 a, .int .i64 b, .int .i64 c, v4, v5] 58 (0, 0)
theorem KAt.xv {W : World} {m : Nat} {op a b c : Int} {v4 v5 : Value} (h : KAt W m (xvBlk op a b c v4 v5)) : W.cell? ⟨m, 0, none⟩ = some (.int .i64 op) ∧ W.cell? ⟨m, 1, none⟩ = some (.int .i64 a) ∧ W.cell? ⟨m, 2, none⟩ = some (.int .i64 b) ∧ W.cell? ⟨m, 3, none⟩ = some (.int .i64 c) ∧ W.cell? ⟨m, 4, none⟩ = some v4 ∧ W.cell? ⟨m, 5, none⟩ = some v5 ∧ W.frozen? ⟨m, 4, none⟩ = false ∧ W.frozen? ⟨m, 5, none⟩ = false := by
 refine ⟨?_, ?_, ?_, ?_, ?_, ?_, frozen_of_row _ _ _ _ _ h.x, frozen_of_row _ _ _ _ _ h.x⟩
 all_goals (rw [cell_of_row _ _ _ _ _ _ h.x]; rfl)
/-- within the reading of an instruction: the reader, the result's box, the instruction's box -/
structure MAt (w W : World) (p : Nat) (sl : Value) (i : Nat) (bad : Bool) (m : Nat) (o : Obj) : Prop where
 b : BxAt w W p (rdBlk sl i bad)
 r : KAt W w.heap.size (xBlk 0)
 e : KAt W m o
 h : w.heap.size ≤ m
 hp : p < w.heap.size
theorem MAt.call {w W V : World} {p : Nat} {sl : Value} {i j m : Nat} {bad bad' : Bool} {o : Obj} (h : MAt w W p sl i bad m o) (k : BxAt W V p (rdBlk sl j bad')) : MAt w V p sl j bad' m o := by
 have h1 := h.h
 have h2 := h.hp
 exact ⟨h.b.trans k, k.blk h.r (by omega), k.blk h.e (by omega), h1, h2⟩
theorem MAt.below {w W V : World} {p : Nat} {sl : Value} {i m : Nat} {bad : Bool} {o : Obj} (h : MAt w W p sl i bad m o) (hb : Below W.heap.size W V) : MAt w V p sl i bad m o :=
 ⟨h.b.below hb, h.r.below hb, h.e.below hb, h.h, h.hp⟩
theorem MAt.box {w W : World} {p : Nat} {sl : Value} {i m : Nat} {bad : Bool} {o : Obj} (h : MAt w W p sl i bad m o) (q : Obj) : MAt w (W.alloc q) p sl i bad W.heap.size q := by
 have hb : Below W.heap.size W (W.alloc q) := (Below.refl _ _).alloc (Nat.le_refl _) q
 exact ⟨h.b.below hb, h.r.below hb, KAt.new _ _, h.b.be.size, h.hp⟩
theorem BxAt.lowG {w W V : World} {p B : Nat} {o : Obj} (h : BxAt w W p o) (hb : Below B W V) (hp : p < B) (h0 : w.heap.size ≤ B) : BxAt w V p o :=
 ⟨⟨by rw [hb.block _ hp]; exact h.k.x⟩, h.be.trans (hb.mono (Nat.le_of_lt hp)), fun j hj hn => (hb.block j (Nat.lt_of_lt_of_le hj h0)).trans (h.kp j hj hn)⟩
theorem row_bxG {W V : World} {p base n size : Nat} {e : TypeId} {v : Value} {xs : List Value} {o : Obj} (h : W.ownsRow base e size v n xs) (hp : p < base) (k : BxAt W V p o) : V.ownsRow base e size v n xs := by
 obtain ⟨hl, ⟨rfl, h0⟩ | ⟨g, cap, cur, rfl, hg, hcur, hn, hcap, hsz, htk⟩⟩ := h
 ·exact ⟨hl, .inl ⟨rfl, h0⟩⟩
 ·exact ⟨hl, .inr ⟨g, cap, cur, rfl, hg, by rw [k.kp g (heap_lt hcur) (by omega)]; exact hcur, hn, hcap, hsz, htk⟩⟩
theorem MAt.low {w W V : World} {p : Nat} {sl : Value} {i m B : Nat} {bad : Bool} {o : Obj} (h : MAt w W p sl i bad m o) (hb : Below B W V) (hm : m < B) : MAt w V p sl i bad m o := by
 have h1 := h.h
 have h2 := h.hp
 exact ⟨h.b.lowG hb (by omega) (by omega), ⟨by rw [hb.block _ (by omega)]; exact h.r.x⟩, ⟨by rw [hb.block _ hm]; exact h.e.x⟩, h1, h2⟩
/-- and its own row of numbers -/
structure LAt (w W : World) (p : Nat) (sl : Value) (i : Nat) (bad : Bool) (m : Nat) (o : Obj) (base : Nat) (v : Value) (L : List Int) : Prop where
 d : MAt w W p sl i bad m o
 o : W.ownsRow base 3 1 v L.length (ints L)
 h : m < base
 hb : base ≤ W.heap.size
 hr : w.heap.size < m
theorem LAt.call {w W V : World} {p : Nat} {sl : Value} {i j m base : Nat} {bad bad' : Bool} {o : Obj} {v : Value} {L : List Int} (h : LAt w W p sl i bad m o base v L) (k : BxAt W V p (rdBlk sl j bad')) : LAt w V p sl j bad' m o base v L := by
 have h1 := h.h
 have h2 := h.d.h
 have h3 := h.d.hp
 exact ⟨h.d.call k, row_bxG h.o (by omega) k, h.h, Nat.le_trans h.hb k.be.size, h.hr⟩
theorem LAt.below {w W V : World} {p : Nat} {sl : Value} {i m base : Nat} {bad : Bool} {o : Obj} {v : Value} {L : List Int} (h : LAt w W p sl i bad m o base v L) (hb : Below W.heap.size W V) : LAt w V p sl i bad m o base v L :=
 ⟨h.d.below hb, row_below h.o hb, h.h, Nat.le_trans h.hb hb.size, h.hr⟩
theorem LAt.start {w W : World} {p : Nat} {sl : Value} {i m : Nat} {bad : Bool} {o : Obj} (h : MAt w W p sl i bad m o) (hr : w.heap.size < m) : LAt w W p sl i bad m o W.heap.size (.slice none 0 0) [] :=
 ⟨h, World.ownsRow_nil _ _ _ _, heap_lt h.e.x, Nat.le_refl _, hr⟩
theorem IntR.bx {W V : World} {lo hi p : Nat} {a : Option Addr} {L : List Int} {o : Obj} (h : IntR W lo hi a L) (k : BxAt W V p o) (hp : p < lo) : IntR V lo hi a L :=
 h.keep (Nat.le_refl _) (Nat.le_refl _) (fun b cs q1 q2 q3 => (k.kp b (heap_lt q3) (by omega)).trans q3)
theorem IntR.low {W V : World} {lo hi B : Nat} {a : Option Addr} {L : List Int} (h : IntR W lo hi a L) (hb : Below B W V) (hB : hi ≤ B) : IntR V lo hi a L :=
 h.keep (Nat.le_refl _) (Nat.le_refl _) (fun b cs q1 q2 q3 => (hb.block b (by omega)).trans q3)
theorem IntR.put {W : World} {lo hi : Nat} {a : Option Addr} {L : List Int} (h : IntR W lo hi a L) (ad : Addr) (hp : ad.block < lo) (u : Value) : IntR (W.setCell ad u) lo hi a L :=
 h.keep (Nat.le_refl _) (Nat.le_refl _) (fun b cs q1 q2 q3 => (Below.heap_setCell _ _ _ _ (by omega)).trans q3)
section
variable (p : Nat) (a : Option Addr) (l : List UInt8) (cap i0 : Nat) (bad : Bool) (w0 w : World) (hk : KAt w p (rdBlk (.slice a l.length cap) i0 bad)) (hB : BysAt w0 a l) (h0 : w0.heap.size ≤ p) (hb0 : Below w0.heap.size w0 w) (hi : i0 ≤ l.length) (hl : l.length ≤ 16777216)
end
end
/-- what lies in blocks of a kind is kept -/
structure Kp (K : Nat → TypeId → Prop) (W V : World) : Prop where
 z : W.heap.size ≤ V.heap.size
 k : ∀ b cs T, K b T → W.heap[b]? = some (.cells cs T (0, 0)) → V.heap[b]? = some (.cells cs T (0, 0))
theorem Kp.refl (K : Nat → TypeId → Prop) (W : World) : Kp K W W := ⟨Nat.le_refl _, fun _ _ _ _ h => h⟩
theorem Kp.trans {K : Nat → TypeId → Prop} {W V U : World} (h : Kp K W V) (k : Kp K V U) : Kp K W U := ⟨Nat.le_trans h.z k.z, fun b cs T q e => k.k b cs T q (h.k b cs T q e)⟩
theorem Kp.below {K : Nat → TypeId → Prop} {W V : World} (h : Below W.heap.size W V) : Kp K W V := ⟨h.size, fun b cs T _ e => (h.block b (heap_lt e)).trans e⟩
/-- all blocks but one are kept, and that one is of no such kind -/
theorem Kp.but {K : Nat → TypeId → Prop} {W V : World} (m : Nat) (hz : W.heap.size ≤ V.heap.size) (h : ∀ j, j < W.heap.size → j ≠ m → V.heap[j]? = W.heap[j]?) (hm : ∀ cs T, W.heap[m]? = some (.cells cs T (0, 0)) → ¬ K m T) : Kp K W V :=
 ⟨hz, fun b cs T q e => (h b (heap_lt e) (fun hb => by subst hb; exact hm cs T e q)).trans e⟩
theorem Kp.bx {K : Nat → TypeId → Prop} {W V : World} {p : Nat} {o : Obj} (h : BxAt W V p o) (hp : ∀ T, ¬ K p T) : Kp K W V := Kp.but p h.be.size h.kp (fun _ T _ => hp T)
theorem Kp.set {K : Nat → TypeId → Prop} {W : World} (a : Addr) (v : Value) (hm : ∀ cs T, W.heap[a.block]? = some (.cells cs T (0, 0)) → ¬ K a.block T) : Kp K W (W.setCell a v) :=
 Kp.but a.block (by simp [World.setCell]) (fun j _ hn => Below.heap_setCell _ _ _ _ hn) hm
theorem Kp.set2 {K : Nat → TypeId → Prop} {W : World} {m : Nat} {cs : Array Value} {T : TypeId} {fr : Nat × Nat} (h : KAt W m (.cells cs T fr)) (hK : ¬ K m T) (i : Nat) (v : Value) : Kp K W (W.setCell ⟨m, i, none⟩ v) :=
 Kp.set ⟨m, i, none⟩ v (fun cs' T' e => by rw [show (⟨m, i, none⟩ : Addr).block = m from rfl, h.x] at e; cases e; exact hK)
theorem Kp.grown {K : Nat → TypeId → Prop} {W V : World} {base size n : Nat} {e : TypeId} {v : Value} {xs : List Value} (ho : W.ownsRow base e size v n xs) (hg : W.grownBy V v.ownBlock) (hK : ∀ b, base ≤ b → ¬ K b e) : Kp K W V := by
 refine ⟨hg.size, fun b cs T q h => (hg.block b (heap_lt h) ?_).trans h⟩
 rcases ho.2 with ⟨rfl, -⟩ | ⟨g, cap, cur, rfl, hb, hgg, -⟩
 ·simp [Value.ownBlock]
 ·intro hbg
  simp [Value.ownBlock] at hbg
  subst hbg
  rw [hgg] at h
  cases h
  exact hK _ hb q
theorem Kp.mono {K K' : Nat → TypeId → Prop} {W V : World} (h : Kp K W V) (hK : ∀ b T, b < W.heap.size → K' b T → K b T) : Kp K' W V := ⟨h.z, fun b cs T q e => h.k b cs T (hK b T (heap_lt e) q) e⟩
/-- numbers at rest in a block of such a kind -/
def NumsK (K : Nat → TypeId → Prop) (T : TypeId) (k : IntKind) (W : World) (a : Option Addr) (L : List Int) : Prop :=
 L.length ≤ maxLen ∧ (L = [] ∨ ∃ b cs, a = some ⟨b, 0, none⟩ ∧ K b T ∧ W.heap[b]? = some (.cells cs T (0, 0)) ∧ ∀ i, i < L.length → cs[i]? = some (.int k (L.getD i 0)))
theorem NumsK.nil (K : Nat → TypeId → Prop) (T : TypeId) (k : IntKind) (W : World) : NumsK K T k W none [] := ⟨by decide, .inl rfl⟩
theorem NumsK.kp {K : Nat → TypeId → Prop} {T : TypeId} {k : IntKind} {W V : World} {a : Option Addr} {L : List Int} (h : NumsK K T k W a L) (q : Kp K W V) : NumsK K T k V a L := by
 obtain ⟨hm, h | ⟨b, cs, q1, q2, q3, q4⟩⟩ := h
 ·exact ⟨hm, .inl h⟩
 ·exact ⟨hm, .inr ⟨b, cs, q1, q2, q.k b cs _ q2 q3, q4⟩⟩
theorem NumsK.wk {K K' : Nat → TypeId → Prop} {T : TypeId} {k : IntKind} {W : World} {a : Option Addr} {L : List Int} (h : NumsK K T k W a L) (hK : ∀ b, b < W.heap.size → K b T → K' b T) : NumsK K' T k W a L := by
 obtain ⟨hm, h | ⟨b, cs, q1, q2, q3, q4⟩⟩ := h
 ·exact ⟨hm, .inl h⟩
 ·exact ⟨hm, .inr ⟨b, cs, q1, hK b (heap_lt q3) q2, q3, q4⟩⟩
theorem NumsK.at {K : Nat → TypeId → Prop} {T : TypeId} {k : IntKind} {W : World} {a : Option Addr} {L : List Int} (h : NumsK K T k W a L) : IntsAt k W a L := by
 obtain ⟨hm, h2 | ⟨b, cs, h1, -, h3, h4⟩⟩ := h
 ·exact ⟨hm, .inl h2⟩
 ·refine ⟨hm, .inr ⟨b, 0, h1, fun i hi => ?_⟩⟩
  rw [Nat.zero_add, cell_of_row _ _ _ _ _ _ h3]
  exact h4 i hi
theorem IntR.rest {K : Nat → TypeId → Prop} {W : World} {lo hi : Nat} {a : Option Addr} {L : List Int} (h : IntR W lo hi a L) (hK : ∀ b, lo ≤ b → b < hi → K b 3) : NumsK K 3 .i64 W a L := by
 obtain ⟨hm, h | ⟨b, cs, q1, q2, q3, q4, q5⟩⟩ := h
 ·exact ⟨hm, .inl h.2⟩
 ·exact ⟨hm, .inr ⟨b, cs, q1, hK b q2 q3, q4, q5⟩⟩
/-- an instruction's six cells, by their places -/
def InV (K : Nat → TypeId → Prop) (W : World) (x : In) (r : Nat → Option Value) : Prop := ∃ la lc va vc,
 r 0 = some (.int .i64 x.op) ∧ r 1 = some (.int .i64 x.a) ∧ r 2 = some (.int .i64 x.b) ∧ r 3 = some (.int .i64 x.c) ∧ r 4 = some (.slice la x.l.length lc) ∧ r 5 = some (.slice va x.lv.length vc) ∧ NumsK K 3 .i64 W la x.l ∧ NumsK K 3 .i64 W va x.lv
theorem InV.kp {K : Nat → TypeId → Prop} {W V : World} {x : In} {r : Nat → Option Value} (h : InV K W x r) (q : Kp K W V) : InV K V x r := by
 obtain ⟨la, lc, va, vc, h0, h1, h2, h3, h4, h5, h6, h7⟩ := h
 exact ⟨la, lc, va, vc, h0, h1, h2, h3, h4, h5, h6.kp q, h7.kp q⟩
theorem InV.wk {K K' : Nat → TypeId → Prop} {W : World} {x : In} {r : Nat → Option Value} (h : InV K W x r) (hK : ∀ b, b < W.heap.size → K b 3 → K' b 3) : InV K' W x r := by
 obtain ⟨la, lc, va, vc, h0, h1, h2, h3, h4, h5, h6, h7⟩ := h
 exact ⟨la, lc, va, vc, h0, h1, h2, h3, h4, h5, h6.wk hK, h7.wk hK⟩
theorem InV.same {K : Nat → TypeId → Prop} {W : World} {x : In} {r r' : Nat → Option Value} (h : InV K W x r) (e : ∀ k, k < 6 → r' k = r k) : InV K W x r' := by
 obtain ⟨la, lc, va, vc, h0, h1, h2, h3, h4, h5, h6, h7⟩ := h
 exact ⟨la, lc, va, vc, (e 0 (by decide)).trans h0, (e 1 (by decide)).trans h1, (e 2 (by decide)).trans h2, (e 3 (by decide)).trans h3, (e 4 (by decide)).trans h4, (e 5 (by decide)).trans h5, h6, h7⟩
/-- a function's instructions, as values side by side -/
def CdV (K : Nat → TypeId → Prop) (W : World) (code : List In) (xs : List Value) : Prop := xs.length = code.length * 6 ∧ ∀ i x, code[i]? = some x → InV K W x (fun k => xs[i * 6 + k]?)
theorem CdV.nil (K : Nat → TypeId → Prop) (W : World) : CdV K W [] [] := ⟨rfl, fun i x h => by simp at h⟩
theorem CdV.kp {K : Nat → TypeId → Prop} {W V : World} {code : List In} {xs : List Value} (h : CdV K W code xs) (q : Kp K W V) : CdV K V code xs := ⟨h.1, fun i x e => (h.2 i x e).kp q⟩
theorem CdV.wk {K K' : Nat → TypeId → Prop} {W : World} {code : List In} {xs : List Value} (h : CdV K W code xs) (hK : ∀ b, b < W.heap.size → K b 3 → K' b 3) : CdV K' W code xs := ⟨h.1, fun i x e => (h.2 i x e).wk hK⟩
theorem CdV.snoc {K : Nat → TypeId → Prop} {W : World} {code : List In} {xs ys : List Value} {x : In} (h : CdV K W code xs) (hy : ys.length = 6) (hx : InV K W x (fun k => ys[k]?)) : CdV K W (code ++ [x]) (xs ++ ys) := by
 refine ⟨by simp [h.1, hy]; omega, fun i y e => ?_⟩
 have h1 := h.1
 rcases Nat.lt_or_ge i code.length with hi | hi
 ·rw [List.getElem?_append_left hi] at e
  exact (h.2 i y e).same (fun k hk => List.getElem?_append_left (by omega))
 ·rw [List.getElem?_append_right hi] at e
  have hi2 : i = code.length := by
   rcases Nat.lt_or_ge 0 (i - code.length) with q | q
   ·rw [List.getElem?_eq_none (by simp; omega)] at e; cases e
   ·omega
  subst hi2
  simp at e
  subst e
  exact hx.same (fun k hk => by rw [List.getElem?_append_right (by omega)]; congr 1; omega)
/-- a function's three cells, by their places; its code at rest -/
def FnV (K : Nat → TypeId → Prop) (W : World) (f : Fu) (r : Nat → Option Value) : Prop := ∃ ca cc,
 r 0 = some (.int .i64 f.ps) ∧ r 1 = some (.int .i64 f.rs) ∧ r 2 = some (.slice ca f.code.length cc) ∧ f.code.length ≤ maxLen ∧ (f.code = [] ∨ ∃ b cs, ca = some ⟨b, 0, none⟩ ∧ K b 58 ∧ W.heap[b]? = some (.cells cs 58 (0, 0)) ∧ ∀ i x, f.code[i]? = some x → InV K W x (fun k => cs[i * 6 + k]?))
theorem FnV.kp {K : Nat → TypeId → Prop} {W V : World} {f : Fu} {r : Nat → Option Value} (h : FnV K W f r) (q : Kp K W V) : FnV K V f r := by
 obtain ⟨ca, cc, h0, h1, h2, h3, h4 | ⟨b, cs, h4, h5, h6, h7⟩⟩ := h
 ·exact ⟨ca, cc, h0, h1, h2, h3, .inl h4⟩
 ·exact ⟨ca, cc, h0, h1, h2, h3, .inr ⟨b, cs, h4, h5, q.k b cs _ h5 h6, fun i x e => (h7 i x e).kp q⟩⟩
theorem FnV.wk {K K' : Nat → TypeId → Prop} {W : World} {f : Fu} {r : Nat → Option Value} (h : FnV K W f r) (hI : ∀ b, b < W.heap.size → K b 3 → K' b 3) (hC : ∀ b, b < W.heap.size → K b 58 → K' b 58) : FnV K' W f r := by
 obtain ⟨ca, cc, h0, h1, h2, h3, h4 | ⟨b, cs, h4, h5, h6, h7⟩⟩ := h
 ·exact ⟨ca, cc, h0, h1, h2, h3, .inl h4⟩
 ·exact ⟨ca, cc, h0, h1, h2, h3, .inr ⟨b, cs, h4, hC b (heap_lt h6) h5, h6, fun i x e => (h7 i x e).wk hI⟩⟩
theorem FnV.same {K : Nat → TypeId → Prop} {W : World} {f : Fu} {r r' : Nat → Option Value} (h : FnV K W f r) (e : ∀ k, k < 3 → r' k = r k) : FnV K W f r' := by
 obtain ⟨ca, cc, h0, h1, h2, h3⟩ := h
 exact ⟨ca, cc, (e 0 (by decide)).trans h0, (e 1 (by decide)).trans h1, (e 2 (by decide)).trans h2, h3⟩
def FnsV (K : Nat → TypeId → Prop) (W : World) (fs : List Fu) (xs : List Value) : Prop := xs.length = fs.length * 3 ∧ ∀ i f, fs[i]? = some f → FnV K W f (fun k => xs[i * 3 + k]?)
theorem FnsV.nil (K : Nat → TypeId → Prop) (W : World) : FnsV K W [] [] := ⟨rfl, fun i x h => by simp at h⟩
theorem FnsV.kp {K : Nat → TypeId → Prop} {W V : World} {fs : List Fu} {xs : List Value} (h : FnsV K W fs xs) (q : Kp K W V) : FnsV K V fs xs := ⟨h.1, fun i x e => (h.2 i x e).kp q⟩
theorem FnsV.wk {K K' : Nat → TypeId → Prop} {W : World} {fs : List Fu} {xs : List Value} (h : FnsV K W fs xs) (hI : ∀ b, b < W.heap.size → K b 3 → K' b 3) (hC : ∀ b, b < W.heap.size → K b 58 → K' b 58) : FnsV K' W fs xs := ⟨h.1, fun i x e => (h.2 i x e).wk hI hC⟩
theorem FnsV.snoc {K : Nat → TypeId → Prop} {W : World} {fs : List Fu} {xs ys : List Value} {f : Fu} (h : FnsV K W fs xs) (hy : ys.length = 3) (hx : FnV K W f (fun k => ys[k]?)) : FnsV K W (fs ++ [f]) (xs ++ ys) := by
 refine ⟨by simp [h.1, hy]; omega, fun i y e => ?_⟩
 have h1 := h.1
 rcases Nat.lt_or_ge i fs.length with hi | hi
 ·rw [List.getElem?_append_left hi] at e
  exact (h.2 i y e).same (fun k hk => List.getElem?_append_left (by omega))
 ·rw [List.getElem?_append_right hi] at e
  have hi2 : i = fs.length := by
   rcases Nat.lt_or_ge 0 (i - fs.length) with q | q
   ·rw [List.getElem?_eq_none (by simp; omega)] at e; cases e
   ·omega
  subst hi2
  simp at e
  subst e
  exact hx.same (fun k hk => by rw [List.getElem?_append_right (by omega)]; congr 1; omega)
/-- a row of strings at rest -/
def StrsK (K : Nat → TypeId → Prop) (W : World) (a : Option Addr) (ss : List (List UInt8)) : Prop :=
 ss.length ≤ maxLen ∧ (∀ s ∈ ss, s.length ≤ maxLen) ∧ (ss = [] ∨ ∃ b cs, a = some ⟨b, 0, none⟩ ∧ K b 9 ∧ W.heap[b]? = some (.cells cs 9 (0, 0)) ∧ ∀ (i : Nat) (s : List UInt8), ss[i]? = some s → cs[i]? = some (Value.string ⟨s.toArray⟩))
theorem StrsK.kp {K : Nat → TypeId → Prop} {W V : World} {a : Option Addr} {ss : List (List UInt8)} (h : StrsK K W a ss) (q : Kp K W V) : StrsK K V a ss := by
 obtain ⟨h1, h2, h3 | ⟨b, cs, q1, q2, q3, q4⟩⟩ := h
 ·exact ⟨h1, h2, .inl h3⟩
 ·exact ⟨h1, h2, .inr ⟨b, cs, q1, q2, q.k b cs _ q2 q3, q4⟩⟩
theorem StrsK.wk {K K' : Nat → TypeId → Prop} {W : World} {a : Option Addr} {ss : List (List UInt8)} (h : StrsK K W a ss) (hK : ∀ b, b < W.heap.size → K b 9 → K' b 9) : StrsK K' W a ss := by
 obtain ⟨h1, h2, h3 | ⟨b, cs, q1, q2, q3, q4⟩⟩ := h
 ·exact ⟨h1, h2, .inl h3⟩
 ·exact ⟨h1, h2, .inr ⟨b, cs, q1, hK b (heap_lt q3) q2, q3, q4⟩⟩
theorem StrsK.at {K : Nat → TypeId → Prop} {W : World} {a : Option Addr} {ss : List (List UInt8)} (h : StrsK K W a ss) : StrsAt W a ss := by
 obtain ⟨h1, h2, h3 | ⟨b, cs, q1, q2, q3, q4⟩⟩ := h
 ·exact ⟨h1, h2, .inl h3⟩
 ·exact ⟨h1, h2, .inr ⟨b, 0, q1, fun i s e => by rw [Nat.zero_add, cell_of_row _ _ _ _ _ _ q3]; exact q4 i s e⟩⟩
theorem InV.at {K : Nat → TypeId → Prop} {W : World} {x : In} {b o : Nat} {cs : Array Value} {T : TypeId} {fr : Nat × Nat} (hb : W.heap[b]? = some (.cells cs T fr)) (h : InV K W x (fun k => cs[o + k]?)) : XAt W b o x := by
 obtain ⟨la, lc, va, vc, h0, h1, h2, h3, h4, h5, h6, h7⟩ := h
 have e : ∀ k, W.cell? ⟨b, k, none⟩ = cs[k]? := fun k => cell_of_row _ _ _ _ _ _ hb
 exact ⟨la, lc, va, vc, (e _).trans h0, (e _).trans h1, (e _).trans h2, (e _).trans h3, (e _).trans h4, (e _).trans h5, h6.at, h7.at⟩
theorem FnV.at {K : Nat → TypeId → Prop} {W : World} {f : Fu} {b o : Nat} {cs : Array Value} {T : TypeId} {fr : Nat × Nat} (hb : W.heap[b]? = some (.cells cs T fr)) (h : FnV K W f (fun k => cs[o + k]?)) : FnAt W b o f := by
 obtain ⟨ca, cc, h0, h1, h2, h3, h4⟩ := h
 have e : ∀ k, W.cell? ⟨b, k, none⟩ = cs[k]? := fun k => cell_of_row _ _ _ _ _ _ hb
 refine ⟨ca, cc, (e _).trans h0, (e _).trans h1, (e _).trans h2, h3, ?_⟩
 rcases h4 with h4 | ⟨b', cs', h4, h5, h6, h7⟩
 ·exact .inl h4
 ·exact .inr ⟨b', 0, h4, fun i x hx => by rw [Nat.zero_add]; exact (h7 i x hx).at h6⟩
/-! own rows at rest -/
theorem own_parts {W : World} {base n size : Nat} {T : TypeId} {v : Value} {xs : List Value} (h : W.ownsRow base T size v n xs) (hn : 0 < n) : ∃ g cap cur, v = .slice (some ⟨g, 0, none⟩) n cap ∧ base ≤ g ∧ W.heap[g]? = some (.cells cur T (0, 0)) ∧ n ≤ cap ∧ n ≤ maxLen ∧ ∀ i, i < n * size → cur[i]? = xs[i]? := by
 rcases h.2 with ⟨q, q0⟩ | ⟨g, cap, cur, q, q1, q2, q3, q4, q5, q6⟩
 ·omega
 ·refine ⟨g, cap, cur, q, q1, q2, q3, Nat.le_trans q3 q4, fun i hi => ?_⟩
  rw [← q6, List.getElem?_take_of_lt hi]
  simp
theorem own_form {W : World} {base n size : Nat} {T : TypeId} {v : Value} {xs : List Value} (h : W.ownsRow base T size v n xs) : ∃ a cap, v = .slice a n cap ∧ n ≤ cap ∧ n ≤ maxLen := by
 rcases h.2 with ⟨rfl, rfl⟩ | ⟨g, cap, cur, rfl, q1, q2, q3, q4, q5, q6⟩
 ·exact ⟨_, _, rfl, Nat.le_refl _, Nat.zero_le _⟩
 ·exact ⟨_, _, rfl, q3, Nat.le_trans q3 q4⟩
/-! ### what bytes are as a program -/
def pg0 : Pg := ⟨[], [], [], 0⟩
section
theorem infoStr : (Tryz.prog.info? 9).map (fun i => (i.zero, i.size, i.bytes)) = some (some (.string ⟨#[]⟩), 1, 16) := by kernel_rfl
/-- an append of one element, out of a block that has just been made -/
theorem step_one {W : World} {B n size bytes : Nat} {T t : TypeId} {v z : Value} {xs news : List Value} {T2 : TypeId} {ops : Array Oper} {o : Oper} {a : Act} {K : Act → World → Prop} {Q : Exit → Act → World → Prop} {E : Prop}
  (hi : (Tryz.prog.info? T).map (fun i => (i.zero, i.size, i.bytes)) = some (some z, size, bytes)) (ht : Tryz.prog.underlying t = some (.slice T)) (hzs : z.cells.size = size) (hsz : 0 < size)
  (ho : W.ownsRow B T size v n xs) (hB : B ≤ W.heap.size) (hgd : o.guard = none) (s x : Operand) (hop : o.op = .call { callee := .builtin .append, args := #[s, x], argTypes := #[t, t] })
  (hs : a.eval s = v) (hx : a.eval x = .slice (some ⟨W.heap.size, 0, none⟩) 1 1) (hl : news.length = size) (h1 : ∀ u ∈ news, u.oneCell' = true) (hn : n ≤ 100000000) (hby : bytes ≤ 100)
  (h : ∀ g cap V, V.ownsRow B T size (.slice (some ⟨g, 0, none⟩) (n + 1) cap) (n + 1) (xs ++ news) → Below B W V → (∀ K', (∀ b, B ≤ b → ¬ K' b T) → Kp K' W V) → K (a.put o.dst (.slice (some ⟨g, 0, none⟩) (n + 1) cap)) V) :
  if Region.wanted o (yielded ops a.tmps) = true then Oper.wp Tryz.prog o a (W.alloc (.cells news.toArray T2)) K Q else E := by
 obtain ⟨i0, hi, hz0, hz1, hz2⟩ := info_parts hi
 have hb0 : Below W.heap.size W (W.alloc (.cells news.toArray T2)) := (Below.refl _ _).alloc (Nat.le_refl _) _
 have hown1 := row_below ho hb0
 have h47 : (n + 1) * bytes ≤ 140737488355328 := Nat.le_trans (Nat.mul_le_mul (show n + 1 ≤ 100000001 by omega) hby) (by decide)
 refine step_append_lies _ hgd s x t hop B T i0 z size bytes ht hi hz0 hz1 hz2 hzs hsz v n xs hs hown1 ⟨W.heap.size, 0, none⟩ 1 1 news hx (by omega) (World.news_of_block (heap_alloc_new _ _)) h1 (by decide) (by unfold maxLen; omega) h47 (Nat.le_trans hB hb0.size) _ rfl ?_
 intro g cap V k1 k2 _ _
 have hbe : Below B W V := (hb0.mono hB).trans ((Below.refl B _).grown k2 (Nat.le_trans hB hb0.size) (fun j hj => (hown1.lt j hj).1))
 exact h _ _ V k1 hbe (fun K' hK => (Kp.below hb0).trans (Kp.grown hown1 k2 hK))
/-- the same where the operations stand in their order -/
theorem wp_one {W : World} {B n size bytes : Nat} {T t : TypeId} {v z : Value} {xs news : List Value} {T2 : TypeId} {ops : Array Oper} {rest : List Oper} {o : Oper} {a : Act} {Q : Exit → Act → World → Prop}
  (hi : (Tryz.prog.info? T).map (fun i => (i.zero, i.size, i.bytes)) = some (some z, size, bytes)) (ht : Tryz.prog.underlying t = some (.slice T)) (hzs : z.cells.size = size) (hsz : 0 < size)
  (ho : W.ownsRow B T size v n xs) (hB : B ≤ W.heap.size) (hgd : o.guard = none) (s x : Operand) (hop : o.op = .call { callee := .builtin .append, args := #[s, x], argTypes := #[t, t] })
  (hs : a.eval s = v) (H : Nat) (hH : W.heap.size = H) (hx : a.eval x = .slice (some ⟨H, 0, none⟩) 1 1) (hl : news.length = size) (h1 : ∀ u ∈ news, u.oneCell' = true) (hn : n ≤ 100000000) (hby : bytes ≤ 100)
  (h : ∀ g cap V, V.ownsRow B T size (.slice (some ⟨g, 0, none⟩) (n + 1) cap) (n + 1) (xs ++ news) → Below B W V → (∀ K', (∀ b, B ≤ b → ¬ K' b T) → Kp K' W V) → wpList Tryz.prog ops Q rest (a.put o.dst (.slice (some ⟨g, 0, none⟩) (n + 1) cap)) V) :
  wpList Tryz.prog ops Q (o :: rest) a (W.alloc (.cells news.toArray T2)) := by
 obtain ⟨i0, hi, hz0, hz1, hz2⟩ := info_parts hi
 subst hH
 have hb0 : Below W.heap.size W (W.alloc (.cells news.toArray T2)) := (Below.refl _ _).alloc (Nat.le_refl _) _
 have hown1 := row_below ho hb0
 have h47 : (n + 1) * bytes ≤ 140737488355328 := Nat.le_trans (Nat.mul_le_mul (show n + 1 ≤ 100000001 by omega) hby) (by decide)
 refine wpList_append_lies _ hgd s x t hop B T i0 z size bytes ht hi hz0 hz1 hz2 hzs hsz v n xs hs hown1 ⟨W.heap.size, 0, none⟩ 1 1 news hx (by omega) (World.news_of_block (heap_alloc_new _ _)) h1 (by decide) (by unfold maxLen; omega) h47 (Nat.le_trans hB hb0.size) _ rfl ?_
 intro g cap V k1 k2 _ _
 have hbe : Below B W V := (hb0.mono hB).trans ((Below.refl B _).grown k2 (Nat.le_trans hB hb0.size) (fun j hj => (hown1.lt j hj).1))
 exact h _ _ V k1 hbe (fun K' hK => (Kp.below hb0).trans (Kp.grown hown1 k2 hK))
/-- the program's box -/
def pgBlk (v0 v1 v2 : Value) (en : Int) : Obj := .cells #[v0, v1, v2, .int .i64 en] 26 (0, 0)
theorem KAt.pg {W : World} {m : Nat} {v0 v1 v2 : Value} {en : Int} (h : KAt W m (pgBlk v0 v1 v2 en)) : W.cell? ⟨m, 0, none⟩ = some v0 ∧ W.cell? ⟨m, 1, none⟩ = some v1 ∧ W.cell? ⟨m, 2, none⟩ = some v2 ∧ W.cell? ⟨m, 3, none⟩ = some (.int .i64 en) ∧ W.frozen? ⟨m, 0, none⟩ = false ∧ W.frozen? ⟨m, 1, none⟩ = false ∧ W.frozen? ⟨m, 2, none⟩ = false ∧ W.frozen? ⟨m, 3, none⟩ = false := by
 refine ⟨?_, ?_, ?_, ?_, frozen_of_row _ _ _ _ _ h.x, frozen_of_row _ _ _ _ _ h.x, frozen_of_row _ _ _ _ _ h.x, frozen_of_row _ _ _ _ _ h.x⟩
 all_goals (rw [cell_of_row _ _ _ _ _ _ h.x]; rfl)
/-- what Decode keeps: the result's box, the reader, the program's box -/
structure DcAt (w W : World) (m : Nat) (sl : Value) (i : Nat) (bad : Bool) (v0 v1 v2 : Value) (en : Int) : Prop where
 be : Below w.heap.size w W
 r : KAt W w.heap.size rzBlk
 b : KAt W (w.heap.size + 1) (rdBlk sl i bad)
 q : KAt W m (pgBlk v0 v1 v2 en)
 hm : w.heap.size + 1 < m
section
variable {w W V : World} {m : Nat} {sl : Value} {i : Nat} {bad : Bool} {v0 v1 v2 : Value} {en : Int}
theorem DcAt.call (h : DcAt w W m sl i bad v0 v1 v2 en) {j : Nat} {bad' : Bool} (k : BxAt W V (w.heap.size + 1) (rdBlk sl j bad')) : DcAt w V m sl j bad' v0 v1 v2 en := by
 have h1 := h.hm
 exact ⟨h.be.trans (k.be.mono (Nat.le_succ _)), k.blk h.r (by omega), k.k, k.blk h.q (by omega), h1⟩
theorem DcAt.low (h : DcAt w W m sl i bad v0 v1 v2 en) {B : Nat} (hb : Below B W V) (hB : m < B) : DcAt w V m sl i bad v0 v1 v2 en := by
 have h1 := h.hm
 exact ⟨h.be.trans (hb.mono (by omega)), ⟨by rw [hb.block _ (by omega)]; exact h.r.x⟩, ⟨by rw [hb.block _ (by omega)]; exact h.b.x⟩, ⟨by rw [hb.block _ hB]; exact h.q.x⟩, h1⟩
theorem DcAt.below (h : DcAt w W m sl i bad v0 v1 v2 en) (hb : Below W.heap.size W V) : DcAt w V m sl i bad v0 v1 v2 en := h.low hb (heap_lt h.q.x)
theorem DcAt.put0 (h : DcAt w W m sl i bad v0 v1 v2 en) (u : Value) : DcAt w (W.setCell ⟨m, 0, none⟩ u) m sl i bad u v1 v2 en := by
 have h1 := h.hm
 exact ⟨h.be.setCell (p := ⟨m, 0, none⟩) (by show _ ≤ m; omega) _, h.r.put ⟨m, 0, none⟩ (by show _ ≠ m; omega) u, h.b.put ⟨m, 0, none⟩ (by show _ ≠ m; omega) u, ⟨heap_setCell_same (i := 0) _ _ _ _ u h.q.x⟩, h1⟩
theorem DcAt.rd (h : DcAt w W m sl i bad v0 v1 v2 en) : BxAt W W (w.heap.size + 1) (rdBlk sl i bad) := BxAt.start h.b
end
/-- and a row of the call's own -/
structure DoAt (w W : World) (m : Nat) (sl : Value) (i : Nat) (bad : Bool) (v0 v1 v2 : Value) (en : Int) (B : Nat) (T : TypeId) (size : Nat) (v : Value) (n : Nat) (xs : List Value) : Prop where
 d : DcAt w W m sl i bad v0 v1 v2 en
 o : W.ownsRow B T size v n xs
 h : m < B
 hB : B ≤ W.heap.size
section
variable {w W V : World} {m : Nat} {sl : Value} {i : Nat} {bad : Bool} {v0 v1 v2 : Value} {en : Int} {B : Nat} {T : TypeId} {size : Nat} {v : Value} {n : Nat} {xs : List Value}
theorem DoAt.call (h : DoAt w W m sl i bad v0 v1 v2 en B T size v n xs) {j : Nat} {bad' : Bool} (k : BxAt W V (w.heap.size + 1) (rdBlk sl j bad')) : DoAt w V m sl j bad' v0 v1 v2 en B T size v n xs := by
 have h1 := h.h
 have h2 := h.d.hm
 exact ⟨h.d.call k, row_bx h.o (by omega) k, h1, Nat.le_trans h.hB k.be.size⟩
theorem DoAt.below (h : DoAt w W m sl i bad v0 v1 v2 en B T size v n xs) (hb : Below W.heap.size W V) : DoAt w V m sl i bad v0 v1 v2 en B T size v n xs := ⟨h.d.below hb, row_below h.o hb, h.h, Nat.le_trans h.hB hb.size⟩
theorem DoAt.put0 (h : DoAt w W m sl i bad v0 v1 v2 en B T size v n xs) (u : Value) : DoAt w (W.setCell ⟨m, 0, none⟩ u) m sl i bad u v1 v2 en B T size v n xs := ⟨h.d.put0 u, ownsRow_setCell_below h.o (a := ⟨m, 0, none⟩) h.h u, h.h, by simpa [World.setCell] using h.hB⟩
theorem DoAt.start (h : DcAt w W m sl i bad v0 v1 v2 en) (T : TypeId) (size : Nat) : DoAt w W m sl i bad v0 v1 v2 en W.heap.size T size (.slice none 0 0) 0 [] :=
 ⟨h, World.ownsRow_nil _ _ _ _, heap_lt h.q.x, Nat.le_refl _⟩
/-- behind an append -/
theorem DoAt.grown (h : DoAt w W m sl i bad v0 v1 v2 en B T size v n xs) {v' : Value} {n' : Nat} {xs' : List Value} (ho : V.ownsRow B T size v' n' xs') (hb : Below B W V) : DoAt w V m sl i bad v0 v1 v2 en B T size v' n' xs' :=
 ⟨h.d.low hb h.h, ho, h.h, Nat.le_trans h.hB hb.size⟩
end
abbrev strC (ss : List (List UInt8)) : List Value := ss.map fun s => Value.string ⟨s.toArray⟩
abbrev u64C (us : List Int) : List Value := us.map fun u => Value.int .u64 u
end
section
/-- what is kept while the reals, the functions, a function's code are read -/
def KS (m : Nat) (b : Nat) (T : TypeId) : Prop := m < b ∧ T = 9
def KO (m : Nat) (b : Nat) (T : TypeId) : Prop := m < b ∧ (T = 3 ∨ T = 58 ∨ T = 9 ∨ T = 45)
def KI (m fb : Nat) (b : Nat) (T : TypeId) : Prop := m < b ∧ b ≠ fb ∧ (T = 3 ∨ T = 9 ∨ T = 45 ∨ (T = 58 ∧ b < fb))
/-- functions, strings, reals at rest -/
structure RsT (K : Nat → TypeId → Prop) (W : World) (fs : List Fu) (xs : List Value) (sa : Option Addr) (ss : List (List UInt8)) (ra : Option Addr) (us : List Int) : Prop where
 f : FnsV K W fs xs
 s : StrsK K W sa ss
 u : NumsK K 45 .u64 W ra us
theorem RsT.kp {K : Nat → TypeId → Prop} {W V : World} {fs : List Fu} {xs : List Value} {sa ra : Option Addr} {ss : List (List UInt8)} {us : List Int} (h : RsT K W fs xs sa ss ra us) (q : Kp K W V) : RsT K V fs xs sa ss ra us := ⟨h.f.kp q, h.s.kp q, h.u.kp q⟩
theorem RsT.wk {K K' : Nat → TypeId → Prop} {W : World} {fs : List Fu} {xs : List Value} {sa ra : Option Addr} {ss : List (List UInt8)} {us : List Int} (h : RsT K W fs xs sa ss ra us)
  (hI : ∀ b, b < W.heap.size → K b 3 → K' b 3) (hC : ∀ b, b < W.heap.size → K b 58 → K' b 58) (hS : ∀ b, b < W.heap.size → K b 9 → K' b 9) (hU : ∀ b, b < W.heap.size → K b 45 → K' b 45) : RsT K' W fs xs sa ss ra us :=
 ⟨h.f.wk hI hC, h.s.wk hS, h.u.wk hU⟩
/-- a function's box -/
def fbBlk (ps rs : Int) (v : Value) : Obj := .cells #[.int .i64 ps, .int .i64 rs, v] 48 (0, 0)
theorem KAt.fb {W : World} {m : Nat} {ps rs : Int} {v : Value} (h : KAt W m (fbBlk ps rs v)) : W.cell? ⟨m, 0, none⟩ = some (.int .i64 ps) ∧ W.cell? ⟨m, 1, none⟩ = some (.int .i64 rs) ∧ W.cell? ⟨m, 2, none⟩ = some v ∧ W.frozen? ⟨m, 2, none⟩ = false := by
 refine ⟨?_, ?_, ?_, frozen_of_row _ _ _ _ _ h.x⟩
 all_goals (rw [cell_of_row _ _ _ _ _ _ h.x]; rfl)
/-- within the reading of a function's code -/
structure DfAt (w W : World) (m : Nat) (sl : Value) (i : Nat) (bad : Bool) (v1 v2 : Value) (en : Int) (B : Nat) (v : Value) (fs : List Fu) (xs : List Value) (sa : Option Addr) (ss : List (List UInt8)) (ra : Option Addr) (us : List Int) (fb : Nat) (ps rs : Int) (vc : Value) (code : List In) (ys : List Value) : Prop where
 d : DcAt w W m sl i bad v v1 v2 en
 oo : W.ownsRow B 48 3 v fs.length xs
 ov : ∀ g, v.ownBlock = some g → g < fb
 f : KAt W fb (fbBlk ps rs vc)
 o : W.ownsRow (fb + 1) 58 6 vc code.length ys
 r : RsT (KI m fb) W fs xs sa ss ra us
 c : CdV (KI m fb) W code ys
 hm : m < B
 hB : B ≤ fb
section
variable {w W V : World} {m : Nat} {sl : Value} {i : Nat} {bad : Bool} {v1 v2 : Value} {en : Int} {B : Nat} {v : Value} {fs : List Fu} {xs : List Value} {sa : Option Addr} {ss : List (List UInt8)} {ra : Option Addr} {us : List Int} {fb : Nat} {ps rs : Int} {vc : Value} {code : List In} {ys : List Value}
theorem DfAt.start (h : DoAt w W m sl i bad v v1 v2 en B 48 3 v fs.length xs) (r : RsT (KO m) W fs xs sa ss ra us) (ps rs : Int) :
  DfAt w (W.alloc (fbBlk ps rs (.slice none 0 0))) m sl i bad v1 v2 en B v fs xs sa ss ra us W.heap.size ps rs (.slice none 0 0) [] [] := by
 have hA : Below W.heap.size W (W.alloc (fbBlk ps rs (.slice none 0 0))) := (Below.refl _ _).alloc (Nat.le_refl _) _
 have r2 : RsT (KI m W.heap.size) W fs xs sa ss ra us := r.wk (fun b hb k => ⟨k.1, by omega, .inl rfl⟩) (fun b hb k => ⟨k.1, by omega, .inr (.inr (.inr ⟨rfl, hb⟩))⟩) (fun b hb k => ⟨k.1, by omega, .inr (.inl rfl)⟩) (fun b hb k => ⟨k.1, by omega, .inr (.inr (.inl rfl))⟩)
 exact ⟨h.d.below hA, row_below h.o hA, fun g hg => (h.o.lt g hg).2, KAt.new _ _, World.ownsRow_nil _ _ _ _, r2.kp (Kp.below hA), CdV.nil _ _, h.h, h.hB⟩
theorem DfAt.call (h : DfAt w W m sl i bad v1 v2 en B v fs xs sa ss ra us fb ps rs vc code ys) {j : Nat} {bad' : Bool} (k : BxAt W V (w.heap.size + 1) (rdBlk sl j bad')) : DfAt w V m sl j bad' v1 v2 en B v fs xs sa ss ra us fb ps rs vc code ys := by
 have h1 := h.hm
 have h2 := h.d.hm
 have h3 := h.hB
 have q : Kp (KI m fb) W V := Kp.bx k (fun T h => by have := h.1; omega)
 exact ⟨h.d.call k, row_bx h.oo (by omega) k, h.ov, k.blk h.f (by omega), row_bx h.o (by omega) k, h.r.kp q, h.c.kp q, h1, h3⟩
theorem DfAt.below (h : DfAt w W m sl i bad v1 v2 en B v fs xs sa ss ra us fb ps rs vc code ys) (hb : Below W.heap.size W V) : DfAt w V m sl i bad v1 v2 en B v fs xs sa ss ra us fb ps rs vc code ys :=
 ⟨h.d.below hb, row_below h.oo hb, h.ov, h.f.below hb, row_below h.o hb, h.r.kp (Kp.below hb), h.c.kp (Kp.below hb), h.hm, h.hB⟩
theorem own_low {T : TypeId} {size n : Nat} {u : Value} {zs : List Value} {C : Nat} (h : W.ownsRow B T size u n zs) (hu : ∀ g, u.ownBlock = some g → g < C) (hb : Below C W V) : V.ownsRow B T size u n zs := by
 refine ⟨h.1, ?_⟩
 rcases h.2 with q | ⟨g, cap, cur, rfl, q1, q2, q3⟩
 ·exact .inl q
 ·exact .inr ⟨g, cap, cur, rfl, q1, by rw [hb.block g (hu g rfl)]; exact q2, q3⟩
theorem DfAt.app (h : DfAt w W m sl i bad v1 v2 en B v fs xs sa ss ra us fb ps rs vc code ys) {vc' : Value} {x : In} {zs : List Value} (ho : V.ownsRow (fb + 1) 58 6 vc' (code.length + 1) (ys ++ zs)) (hb : Below (fb + 1) W V) (hk : Kp (KI m fb) W V) (hz : zs.length = 6) (hx : InV (KI m fb) V x (fun k => zs[k]?)) :
  DfAt w (V.setCell ⟨fb, 2, none⟩ vc') m sl i bad v1 v2 en B v fs xs sa ss ra us fb ps rs vc' (code ++ [x]) (ys ++ zs) := by
 have h1 := h.hm
 have h2 := h.d.hm
 have h3 := h.hB
 have hf : KAt V fb (fbBlk ps rs vc) := ⟨by rw [hb.block fb (Nat.lt_succ_self _)]; exact h.f.x⟩
 have hs : Kp (KI m fb) V (V.setCell ⟨fb, 2, none⟩ vc') := Kp.set2 hf (fun k => k.2.1 rfl) 2 vc'
 have hbs : Below fb V (V.setCell ⟨fb, 2, none⟩ vc') := (Below.refl fb V).setCell (p := ⟨fb, 2, none⟩) (Nat.le_refl _) _
 refine ⟨(h.d.low hb (by omega)).low hbs (by omega), own_low (own_low h.oo (fun g hg => Nat.lt_succ_of_lt (h.ov g hg)) hb) h.ov hbs, h.ov, ⟨heap_setCell_same (i := 2) _ _ _ _ vc' hf.x⟩, ?_, (h.r.kp hk).kp hs, ((h.c.kp hk).snoc hz hx).kp hs, h1, h3⟩
 have := ownsRow_setCell_below ho (a := ⟨fb, 2, none⟩) (Nat.lt_succ_self fb) vc'
 simpa using this
/-- the function that has been read, at rest -/
theorem DfAt.fn (h : DfAt w W m sl i bad v1 v2 en B v fs xs sa ss ra us fb ps rs vc code ys) : FnV (KO m) W ⟨ps, rs, code⟩ (fun k => [Value.int .i64 ps, .int .i64 rs, vc][k]?) := by
 have h1 := h.hm
 have h3 := h.hB
 rcases Nat.eq_zero_or_pos code.length with h0 | h0
 ·obtain rfl := List.length_eq_zero_iff.1 h0
  obtain ⟨a, cap, rfl, q1, q2⟩ := own_form h.o
  exact ⟨a, cap, rfl, rfl, rfl, q2, .inl rfl⟩
 ·obtain ⟨g, cap, cur, rfl, q1, q2, q3, q4, q5⟩ := own_parts h.o h0
  refine ⟨_, cap, rfl, rfl, rfl, q4, .inr ⟨g, cur, rfl, ⟨by omega, .inr (.inl rfl)⟩, q2, fun i x e => ?_⟩⟩
  have hi : i < code.length := by
   rcases Nat.lt_or_ge i code.length with hi | hi
   ·exact hi
   ·rw [List.getElem?_eq_none hi] at e; cases e
  exact ((h.c.2 i x e).wk (fun b _ k => ⟨k.1, .inl rfl⟩)).same (fun k hk => q5 _ (by omega))
theorem DfAt.rest (h : DfAt w W m sl i bad v1 v2 en B v fs xs sa ss ra us fb ps rs vc code ys) : RsT (KO m) W fs xs sa ss ra us :=
 h.r.wk (fun b _ k => ⟨k.1, .inl rfl⟩) (fun b _ k => ⟨k.1, .inr (.inl rfl)⟩) (fun b _ k => ⟨k.1, .inr (.inr (.inl rfl))⟩) (fun b _ k => ⟨k.1, .inr (.inr (.inr rfl))⟩)
theorem DfAt.out (h : DfAt w W m sl i bad v1 v2 en B v fs xs sa ss ra us fb ps rs vc code ys) : DoAt w W m sl i bad v v1 v2 en B 48 3 v fs.length xs := ⟨h.d, h.oo, h.hm, Nat.le_trans h.hB (Nat.le_of_lt (heap_lt h.f.x))⟩
end
/-- a program at rest in blocks of a kind -/
structure PgK (K : Nat → TypeId → Prop) (W : World) (fa sa ra : Option Addr) (P : Pg) : Prop where
 f : P.fs.length ≤ maxLen ∧ (P.fs = [] ∨ ∃ b cs, fa = some ⟨b, 0, none⟩ ∧ K b 48 ∧ W.heap[b]? = some (.cells cs 48 (0, 0)) ∧ ∀ i f, P.fs[i]? = some f → FnV K W f (fun k => cs[i * 3 + k]?))
 s : StrsK K W sa P.ss
 u : NumsK K 45 .u64 W ra P.us
 z : ∀ u ∈ P.us, 0 ≤ u ∧ u < 18446744073709551616
theorem PgK.kp {K : Nat → TypeId → Prop} {W V : World} {fa sa ra : Option Addr} {P : Pg} (h : PgK K W fa sa ra P) (q : Kp K W V) : PgK K V fa sa ra P := by
 refine ⟨⟨h.f.1, ?_⟩, h.s.kp q, h.u.kp q, h.z⟩
 rcases h.f.2 with h1 | ⟨b, cs, h1, h2, h3, h4⟩
 ·exact .inl h1
 ·exact .inr ⟨b, cs, h1, h2, q.k b cs _ h2 h3, fun i f e => (h4 i f e).kp q⟩
theorem PgK.at {K : Nat → TypeId → Prop} {W : World} {fa sa ra : Option Addr} {P : Pg} (h : PgK K W fa sa ra P) : PgAt W fa sa ra P := by
 refine ⟨⟨h.f.1, ?_⟩, h.s.at, h.u.at, h.z⟩
 rcases h.f.2 with h1 | ⟨b, cs, h1, h2, h3, h4⟩
 ·exact .inl h1
 ·exact .inr ⟨b, 0, h1, fun i f e => by rw [Nat.zero_add]; exact (h4 i f e).at h3⟩
theorem PgK.wk {K K' : Nat → TypeId → Prop} {W : World} {fa sa ra : Option Addr} {P : Pg} (h : PgK K W fa sa ra P) (q : ∀ b T, b < W.heap.size → K b T → K' b T) : PgK K' W fa sa ra P := by
 refine ⟨⟨h.f.1, ?_⟩, h.s.wk (fun b hb k => q b _ hb k), h.u.wk (fun b hb k => q b _ hb k), h.z⟩
 rcases h.f.2 with h1 | ⟨b, cs, h1, h2, h3, h4⟩
 ·exact .inl h1
 ·exact .inr ⟨b, cs, h1, q b _ (heap_lt h3) h2, h3, fun i f e => (h4 i f e).wk (fun b hb k => q b _ hb k) (fun b hb k => q b _ hb k)⟩
/-- above a block -/
abbrev KUp (lo : Nat) : Nat → TypeId → Prop := fun b _ => lo < b
theorem pg0_at (K : Nat → TypeId → Prop) (W : World) : PgK K W none none none pg0 := ⟨⟨Nat.zero_le _, .inl rfl⟩, ⟨Nat.zero_le _, by simp [pg0], .inl rfl⟩, ⟨Nat.zero_le _, .inl rfl⟩, by simp [pg0]⟩
end
theorem BysAt.tail {W : World} {g off : Nat} {x : UInt8} {l : List UInt8} (h : BysAt W (some ⟨g, off, none⟩) (x :: l)) : BysAt W (some ⟨g, off + 1, none⟩) l := by
 refine ⟨by have := h.1; simp at this; omega, ?_⟩
 rcases h.2 with q | ⟨b, o, q1, q2, q3⟩
 ·cases q
 ·cases q1
  refine .inr ⟨g, off + 1, rfl, q2, fun i hi => ?_⟩
  have := q3 (i + 1) (by simp; omega)
  rw [show off + 1 + i = off + (i + 1) by omega, this]
  rfl
theorem BysAt.head {W : World} {g off : Nat} {x : UInt8} {l : List UInt8} (h : BysAt W (some ⟨g, off, none⟩) (x :: l)) : W.cell? ⟨g, off, none⟩ = some (.int .u8 (x.toNat : Int)) := by
 rcases h.2 with q | ⟨b, o, q1, q2, q3⟩
 ·cases q
 ·cases q1
  exact q3 0 (by simp)
theorem BysAt.drop {W : World} {g off : Nat} : ∀ {n : Nat} {l : List UInt8}, n ≤ l.length → BysAt W (some ⟨g, off, none⟩) l → BysAt W (some ⟨g, off + n, none⟩) (l.drop n) := by
 intro n
 induction n generalizing off with
 | zero => intro l _ h; exact h
 | succ n ih =>
  intro l hn h
  match l, hn with
  | x :: l, hn =>
   have := ih (off := off + 1) (l := l) (by simpa using hn) h.tail
   rw [show off + (n + 1) = off + 1 + n by omega]
   exact this
end Go.Proofs.YtokjkligechcoaaGreatDoor
