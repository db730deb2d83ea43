/- Walks of layer 16's reference: a program in new memory. -/
import Derived.Test.YtokjkligechcoaaGreatDoorGj
import Derived.Test.YtokjkligechcoaaGreatDoorOz
set_option linter.unusedVariables false
namespace Go.Proofs.YtokjkligechcoaaGreatDoor
open Go.RowKit
attribute [local go_sem] ext_mk size_mk toList_mk get_mk take_drop_len take_tail_len ByteArray.mk_append_mk List.append_toArray
/-- cells side by side, wherever they lie -/
def SrcAt (W : World) (ra : Option Addr) (vs : List Value) : Prop := vs = [] ∨ ∃ b o, ra = some ⟨b, o, none⟩ ∧ ∀ i v, vs[i]? = some v → W.cell? ⟨b, o + i, none⟩ = some v
theorem SrcAt.below {W V : World} {ra : Option Addr} {vs : List Value} (h : SrcAt W ra vs) (hb : Below W.heap.size W V) : SrcAt V ra vs := by
 rcases h with h | ⟨b, o, h1, h2⟩
 ·exact .inl h
 ·exact .inr ⟨b, o, h1, fun i v e => (hb.cell (p := ⟨b, o + i, none⟩) (World.block_lt_of_cell? W _ (h2 i v e))).trans (h2 i v e)⟩
theorem IntsAt.src {k : IntKind} {W : World} {a : Option Addr} {l : List Int} (h : IntsAt k W a l) : SrcAt W a (l.map (Value.int k)) := by
 rcases h.2 with q | ⟨b, o, q1, q2⟩
 ·subst q; exact .inl rfl
 ·refine .inr ⟨b, o, q1, fun i v e => ?_⟩
  have hi : i < l.length := by
   rcases Nat.lt_or_ge i l.length with hi | hi
   ·exact hi
   ·rw [List.getElem?_eq_none (by simpa using hi)] at e; cases e
  rw [q2 i hi]
  rw [List.getElem?_map, List.getElem?_eq_getElem hi] at e
  simpa [List.getD, hi] using e
theorem StrsAt.src {W : World} {a : Option Addr} {ss : List (List UInt8)} (h : StrsAt W a ss) : SrcAt W a (strC ss) := by
 rcases h.2.2 with q | ⟨b, o, q1, q2⟩
 ·subst q; exact .inl rfl
 ·refine .inr ⟨b, o, q1, fun i v e => ?_⟩
  unfold strC at e
  rw [List.getElem?_map] at e
  cases hs : ss[i]? with
  | none => rw [hs] at e; cases e
  | some s => rw [hs] at e; cases e; exact q2 i s hs
/-- a new row of the call's own, at or above a block -/
def RowK (V : World) (B : Nat) (T : TypeId) (a : Option Addr) (xs : List Value) : Prop := xs = [] ∨ ∃ g cs, a = some ⟨g, 0, none⟩ ∧ B ≤ g ∧ V.heap[g]? = some (.cells cs T (0, 0)) ∧ ∀ i, i < xs.length → cs[i]? = xs[i]?
theorem RowK.below {W V : World} {B : Nat} {T : TypeId} {a : Option Addr} {xs : List Value} (h : RowK W B T a xs) (hb : Below W.heap.size W V) : RowK V B T a xs := by
 rcases h with h | ⟨g, cs, h1, h2, h3, h4⟩
 ·exact .inl h
 ·exact .inr ⟨g, cs, h1, h2, by rw [hb.block g (heap_lt h3)]; exact h3, h4⟩
theorem RowK.mono {W : World} {B B' : Nat} {T : TypeId} {a : Option Addr} {xs : List Value} (h : RowK W B T a xs) (hB : B' ≤ B) : RowK W B' T a xs := by
 rcases h with h | ⟨g, cs, h1, h2, h3, h4⟩
 ·exact .inl h
 ·exact .inr ⟨g, cs, h1, Nat.le_trans hB h2, h3, h4⟩
theorem RowK.put {W : World} {B m : Nat} {T : TypeId} {a : Option Addr} {xs : List Value} (h : RowK W B T a xs) (hm : m < B) (i : Nat) (v : Value) : RowK (W.setCell ⟨m, i, none⟩ v) B T a xs := by
 rcases h with h | ⟨g, cs, h1, h2, h3, h4⟩
 ·exact .inl h
 ·exact .inr ⟨g, cs, h1, h2, by rw [Below.heap_setCell _ _ _ _ (by show g ≠ m; omega)]; exact h3, h4⟩
theorem RowK.nums {K : Nat → TypeId → Prop} {V : World} {B : Nat} {T : TypeId} {k : IntKind} {a : Option Addr} {l : List Int} (h : RowK V B T a (l.map (Value.int k))) (hm : l.length ≤ maxLen) (hK : ∀ b, B ≤ b → b < V.heap.size → K b T) : NumsK K T k V a l := by
 rcases h with h | ⟨g, cs, h1, h2, h3, h4⟩
 ·exact ⟨hm, .inl (by simpa using h)⟩
 ·refine ⟨hm, .inr ⟨g, cs, h1, hK g h2 (heap_lt h3), h3, fun i hi => ?_⟩⟩
  rw [h4 i (by simpa using hi)]
  simp [List.getD, hi]
theorem RowK.strs {K : Nat → TypeId → Prop} {V : World} {B : Nat} {a : Option Addr} {ss : List (List UInt8)} (h : RowK V B 9 a (strC ss)) (hm : ss.length ≤ maxLen) (hs : ∀ s ∈ ss, s.length ≤ maxLen) (hK : ∀ b, B ≤ b → b < V.heap.size → K b 9) : StrsK K V a ss := by
 rcases h with h | ⟨g, cs, h1, h2, h3, h4⟩
 ·exact ⟨hm, hs, .inl (by simpa [strC] using h)⟩
 ·refine ⟨hm, hs, .inr ⟨g, cs, h1, hK g h2 (heap_lt h3), h3, fun i s e => ?_⟩⟩
  have hi : i < ss.length := by
   rcases Nat.lt_or_ge i ss.length with hi | hi
   ·exact hi
   ·rw [List.getElem?_eq_none hi] at e; cases e
  rw [h4 i (by simpa [strC] using hi)]
  simp [strC, e]
/-- append to an empty row that is not nil -/
theorem run_append_empty {P : Program} {w : World} (t ty e : TypeId) (i : TypeInfo) (ht : P.underlying t = some (.slice e)) (hi : P.info? e = some i) (g : Nat) (ra : Option Addr) (rc : Nat) :
  (Builtin.append_ #[t, t] ty #[.slice (some ⟨g, 0, none⟩) 0 0, .slice ra 0 rc]).run P w = .ok (.slice (some ⟨g, 0, none⟩) 0 0) w := by
 cases ra <;> simp [Builtin.append_, run_underlying ht, sizeOf, typeInfo, hi, Builtin.lenOf, Builtin.firstCells, loadCells, loadCellsFrom, storeCells]
theorem oneRow {K : Nat → TypeId → Prop} {w V : World} {T : TypeId} {v : Value} {n : Nat} {vs : List Value} (h : V.ownsRow w.heap.size T 1 v n vs) (hn : 0 < n) : ∃ a cap, v = .slice a n cap ∧ n ≤ cap ∧ RowK V w.heap.size T a vs := by
 obtain ⟨g, cap, cur, q, q1, q2, q3, q4, q5⟩ := own_parts h hn
 refine ⟨_, cap, q, q3, .inr ⟨g, cur, rfl, q1, q2, fun i hi => q5 i ?_⟩⟩
 rw [h.1] at hi; exact hi
theorem wp_fresh {w : World} {o : Oper} {a : Act} {K : Act → World → Prop} {Q : Exit → Act → World → Prop} {T t : TypeId} {z : Value} {bytes : Nat}
  (hi : (Tryz.prog.info? T).map (fun i => (i.zero, i.size, i.bytes)) = some (some z, 1, bytes)) (ht : Tryz.prog.underlying t = some (.slice T)) (hzs : z.cells.size = 1)
  (sl x : Operand) (ho : o.op = .call { callee := .builtin .append, args := #[sl, x], argTypes := #[t, t] })
  (g : Nat) (hs : a.eval sl = .slice (some ⟨g, 0, none⟩) 0 0) (vs : List Value) (ra : Option Addr) (n rc : Nat) (hn : vs.length = n) (hx : a.eval x = .slice ra n rc) (hI : SrcAt w ra vs) (h1 : ∀ u ∈ vs, u.oneCell' = true) (hm : n ≤ maxLen) (hb : n * bytes ≤ 140737488355328)
  (h : ∀ a' cap V, RowK V w.heap.size T a' vs → n ≤ cap → Below w.heap.size w V → K (a.put o.dst (.slice a' n cap)) V) : Oper.wp Tryz.prog o a w K Q := by
 obtain ⟨i0, hi, hz0, hz1, hz2⟩ := info_parts hi
 subst hn
 by_cases he : vs = []
 ·subst he
  have hrun := run_append_empty (P := Tryz.prog) (w := w) t o.type T i0 ht hi g ra rc
  unfold Oper.wp
  simp only [List.length_nil] at hx
  simp [execOp, ho, resolve, invoke, builtin, hs, hx, hrun, Result.andThen]
  exact h _ _ w (.inl rfl) (Nat.le_refl _) (Below.refl _ _)
 ·rcases hI with hI | ⟨b, off, rfl, hc⟩
  ·exact absurd hI he
  have hl : 0 < vs.length := List.length_pos_iff.2 he
  obtain ⟨v', w', hrun, r1, r2⟩ := run_append_arg_grows (P := Tryz.prog) w t o.type T i0 z 1 bytes ht hi hz0 hz1 hz2 hzs (by decide) ⟨g, 0, none⟩ 0 0 [] (by simp) (fun j u hj => by simp at hj) ⟨b, off, none⟩ vs.length rc vs (by simp)
   (fun j u hj => by rw [show (⟨b, off, none⟩ : Addr).add j = ⟨b, off + j, none⟩ from by (unfold Addr.add; by_cases h0 : j = 0 <;> simp [h0])]; exact hc j u hj) (by omega) (by omega) (by simpa using hb)
  unfold Oper.wp
  simp [execOp, ho, resolve, invoke, builtin, hs, hx, hrun, Result.andThen]
  simp only [Nat.zero_add, List.nil_append] at r1
  obtain ⟨a', cap, rfl, q1, q2⟩ := oneRow (K := fun _ _ => True) r1 hl
  exact h a' cap w' q2 q1 ((Below.refl w.heap.size w).grown r2 (Nat.le_refl _) (fun k hk => nomatch hk))
theorem app_fresh {w : World} {ops : Array Oper} {rest : List Oper} {o : Oper} {a : Act} {Q : Exit → Act → World → Prop} {T t : TypeId} {z : Value} {bytes : Nat}
  (hi : (Tryz.prog.info? T).map (fun i => (i.zero, i.size, i.bytes)) = some (some z, 1, bytes)) (ht : Tryz.prog.underlying t = some (.slice T)) (hzs : z.cells.size = 1) (hgd : o.guard = none)
  (sl x : Operand) (ho : o.op = .call { callee := .builtin .append, args := #[sl, x], argTypes := #[t, t] })
  (g : Nat) (hs : a.eval sl = .slice (some ⟨g, 0, none⟩) 0 0) (vs : List Value) (ra : Option Addr) (n rc : Nat) (hn : vs.length = n) (hx : a.eval x = .slice ra n rc) (hI : SrcAt w ra vs) (h1 : ∀ u ∈ vs, u.oneCell' = true) (hm : n ≤ maxLen) (hb : n * bytes ≤ 140737488355328)
  (h : ∀ a' cap V, RowK V w.heap.size T a' vs → n ≤ cap → Below w.heap.size w V → wpList Tryz.prog ops Q rest (a.put o.dst (.slice a' n cap)) V) : wpList Tryz.prog ops Q (o :: rest) a w :=
 wpList_plain hgd fun K hK => wp_fresh hi ht hzs sl x ho g hs vs ra n rc hn hx hI h1 hm hb fun a' cap V h1 h2 h3 => hK _ _ (h a' cap V h1 h2 h3)
theorem step_fresh {w : World} {ops : Array Oper} {o : Oper} {a : Act} {K : Act → World → Prop} {Q : Exit → Act → World → Prop} {E : Prop} {T t : TypeId} {z : Value} {bytes : Nat}
  (hi : (Tryz.prog.info? T).map (fun i => (i.zero, i.size, i.bytes)) = some (some z, 1, bytes)) (ht : Tryz.prog.underlying t = some (.slice T)) (hzs : z.cells.size = 1) (hgd : o.guard = none)
  (sl x : Operand) (ho : o.op = .call { callee := .builtin .append, args := #[sl, x], argTypes := #[t, t] })
  (g : Nat) (hs : a.eval sl = .slice (some ⟨g, 0, none⟩) 0 0) (vs : List Value) (ra : Option Addr) (n rc : Nat) (hn : vs.length = n) (hx : a.eval x = .slice ra n rc) (hI : SrcAt w ra vs) (h1 : ∀ u ∈ vs, u.oneCell' = true) (hm : n ≤ maxLen) (hb : n * bytes ≤ 140737488355328)
  (h : ∀ a' cap V, RowK V w.heap.size T a' vs → n ≤ cap → Below w.heap.size w V → K (a.put o.dst (.slice a' n cap)) V) : if Region.wanted o (yielded ops a.tmps) = true then Oper.wp Tryz.prog o a w K Q else E := by
 have hw : Region.wanted o (yielded ops a.tmps) = true := by simp [Region.wanted, hgd]
 rw [if_pos hw]
 exact wp_fresh hi ht hzs sl x ho g hs vs ra n rc hn hx hI h1 hm hb h
/-- an append of one element to a row of the call's own, however long -/
theorem wp_oneG {W : World} {B n size bytes : Nat} {T t : TypeId} {v z : Value} {xs news : List Value} {T2 : TypeId} {ops : Array Oper} {rest : List Oper} {o : Oper} {a : Act} {Q : Exit → Act → World → Prop}
  (hi : (Tryz.prog.info? T).map (fun i => (i.zero, i.size, i.bytes)) = some (some z, size, bytes)) (ht : Tryz.prog.underlying t = some (.slice T)) (hzs : z.cells.size = size) (hsz : 0 < size)
  (ho : W.ownsRow B T size v n xs) (hB : B ≤ W.heap.size) (hgd : o.guard = none) (s x : Operand) (hop : o.op = .call { callee := .builtin .append, args := #[s, x], argTypes := #[t, t] })
  (hs : a.eval s = v) (H : Nat) (hH : W.heap.size = H) (hx : a.eval x = .slice (some ⟨H, 0, none⟩) 1 1) (hl : news.length = size) (h1 : ∀ u ∈ news, u.oneCell' = true) (hn : n + 1 ≤ maxLen) (hby : (n + 1) * bytes ≤ 140737488355328)
  (h : ∀ g cap V, V.ownsRow B T size (.slice (some ⟨g, 0, none⟩) (n + 1) cap) (n + 1) (xs ++ news) → Below B W V → (∀ K', (∀ b, B ≤ b → ¬ K' b T) → Kp K' W V) → wpList Tryz.prog ops Q rest (a.put o.dst (.slice (some ⟨g, 0, none⟩) (n + 1) cap)) V) :
  wpList Tryz.prog ops Q (o :: rest) a (W.alloc (.cells news.toArray T2)) := by
 obtain ⟨i0, hi, hz0, hz1, hz2⟩ := info_parts hi
 subst hH
 have hb0 : Below W.heap.size W (W.alloc (.cells news.toArray T2)) := (Below.refl _ _).alloc (Nat.le_refl _) _
 have hown1 := row_below ho hb0
 refine wpList_append_lies _ hgd s x t hop B T i0 z size bytes ht hi hz0 hz1 hz2 hzs hsz v n xs hs hown1 ⟨W.heap.size, 0, none⟩ 1 1 news hx (by omega) (World.news_of_block (heap_alloc_new _ _)) h1 (by decide) hn hby (Nat.le_trans hB hb0.size) _ rfl ?_
 intro g cap V k1 k2 _ _
 have hbe : Below B W V := (hb0.mono hB).trans ((Below.refl B _).grown k2 (Nat.le_trans hB hb0.size) (fun j hj => (hown1.lt j hj).1))
 exact h _ _ V k1 hbe (fun K' hK => (Kp.below hb0).trans (Kp.grown hown1 k2 hK))
/-- a program without its lists of live registers, or as it is -/
def cpI (bare : Bool) (x : In) : In := ⟨x.op, x.a, x.b, x.c, x.l, if bare then [] else x.lv⟩
def cpF (bare : Bool) (f : Fu) : Fu := ⟨f.ps, f.rs, f.code.map (cpI bare)⟩
def cpP (bare : Bool) (P : Pg) : Pg := ⟨P.fs.map (cpF bare), P.ss, P.us, P.en⟩
theorem cpI_same (x : In) : cpI false x = x := rfl
theorem cpF_same (f : Fu) : cpF false f = f := by
 unfold cpF; rw [show cpI false = id from funext cpI_same, List.map_id]
theorem cpP_same (P : Pg) : cpP false P = P := by
 unfold cpP; rw [show cpF false = id from funext cpF_same, List.map_id]
/-- what Copy keeps: the argument's box, the result's box, the program's box -/
structure CcAt (w W : World) (m : Nat) (o0 o1 : Obj) (v0 v1 v2 : Value) (en : Int) : Prop where
 be : Below w.heap.size w W
 r : KAt W w.heap.size o0
 b : KAt W (w.heap.size + 1) o1
 q : KAt W m (pgBlk v0 v1 v2 en)
 hm : w.heap.size + 1 < m
section
variable {w W V : World} {m : Nat} {o0 o1 : Obj} {v0 v1 v2 : Value} {en : Int}
theorem CcAt.low (h : CcAt w W m o0 o1 v0 v1 v2 en) {B : Nat} (hb : Below B W V) (hB : m < B) : CcAt w V m o0 o1 v0 v1 v2 en := by
 have h1 := h.hm
 exact ⟨h.be.trans (hb.mono (by omega)), ⟨by rw [hb.block _ (by omega)]; exact h.r.x⟩, ⟨by rw [hb.block _ (by omega)]; exact h.b.x⟩, ⟨by rw [hb.block _ hB]; exact h.q.x⟩, h1⟩
theorem CcAt.below (h : CcAt w W m o0 o1 v0 v1 v2 en) (hb : Below W.heap.size W V) : CcAt w V m o0 o1 v0 v1 v2 en := h.low hb (heap_lt h.q.x)
theorem CcAt.put0 (h : CcAt w W m o0 o1 v0 v1 v2 en) (u : Value) : CcAt w (W.setCell ⟨m, 0, none⟩ u) m o0 o1 u v1 v2 en := by
 have h1 := h.hm
 exact ⟨h.be.setCell (p := ⟨m, 0, none⟩) (by show _ ≤ m; omega) _, h.r.put ⟨m, 0, none⟩ (by show _ ≠ m; omega) u, h.b.put ⟨m, 0, none⟩ (by show _ ≠ m; omega) u, ⟨heap_setCell_same (i := 0) _ _ _ _ u h.q.x⟩, h1⟩
end
/-- and a row of the call's own -/
structure CoAt (w W : World) (m : Nat) (o0 o1 : Obj) (v0 v1 v2 : Value) (en : Int) (B : Nat) (T : TypeId) (size : Nat) (v : Value) (n : Nat) (xs : List Value) : Prop where
 d : CcAt w W m o0 o1 v0 v1 v2 en
 o : W.ownsRow B T size v n xs
 h : m < B
 hB : B ≤ W.heap.size
section
variable {w W V : World} {m : Nat} {o0 o1 : Obj} {v0 v1 v2 : Value} {en : Int} {B : Nat} {T : TypeId} {size : Nat} {v : Value} {n : Nat} {xs : List Value}
theorem CoAt.below (h : CoAt w W m o0 o1 v0 v1 v2 en B T size v n xs) (hb : Below W.heap.size W V) : CoAt w V m o0 o1 v0 v1 v2 en B T size v n xs := ⟨h.d.below hb, row_below h.o hb, h.h, Nat.le_trans h.hB hb.size⟩
theorem CoAt.put0 (h : CoAt w W m o0 o1 v0 v1 v2 en B T size v n xs) (u : Value) : CoAt w (W.setCell ⟨m, 0, none⟩ u) m o0 o1 u v1 v2 en B T size v n xs := ⟨h.d.put0 u, ownsRow_setCell_below h.o (a := ⟨m, 0, none⟩) h.h u, h.h, by simpa [World.setCell] using h.hB⟩
theorem CoAt.start (h : CcAt w W m o0 o1 v0 v1 v2 en) (T : TypeId) (size : Nat) : CoAt w W m o0 o1 v0 v1 v2 en W.heap.size T size (.slice none 0 0) 0 [] :=
 ⟨h, World.ownsRow_nil _ _ _ _, heap_lt h.q.x, Nat.le_refl _⟩
/-- behind an append -/
theorem CoAt.grown (h : CoAt w W m o0 o1 v0 v1 v2 en B T size v n xs) {v' : Value} {n' : Nat} {xs' : List Value} (ho : V.ownsRow B T size v' n' xs') (hb : Below B W V) : CoAt w V m o0 o1 v0 v1 v2 en B T size v' n' xs' :=
 ⟨h.d.low hb h.h, ho, h.h, Nat.le_trans h.hB hb.size⟩
end
/-- within the copying of a function's code -/
structure CfAt (w W : World) (m : Nat) (o0 o1 : Obj) (v1 v2 : Value) (en : Int) (B : Nat) (v : Value) (fs : List Fu) (xs : List Value) (sa : Option Addr) (ss : List (List UInt8)) (ra : Option Addr) (us : List Int) (fb : Nat) (ps rs : Int) (vc : Value) (code : List In) (ys : List Value) : Prop where
 d : CcAt w W m o0 o1 v v1 v2 en
 oo : W.ownsRow B 48 3 v fs.length xs
 ov : ∀ g, v.ownBlock = some g → g < fb
 f : KAt W fb (fbBlk ps rs vc)
 o : W.ownsRow (fb + 1) 58 6 vc code.length ys
 r : RsT (KI (w.heap.size + 1) fb) W fs xs sa ss ra us
 c : CdV (KI (w.heap.size + 1) fb) W code ys
 hm : m < B
 hB : B ≤ fb
section
variable {w W V : World} {m : Nat} {o0 o1 : Obj} {v1 v2 : Value} {en : Int} {B : Nat} {v : Value} {fs : List Fu} {xs : List Value} {sa : Option Addr} {ss : List (List UInt8)} {ra : Option Addr} {us : List Int} {fb : Nat} {ps rs : Int} {vc : Value} {code : List In} {ys : List Value}
theorem CfAt.start (h : CoAt w W m o0 o1 v v1 v2 en B 48 3 v fs.length xs) (r : RsT (KO (w.heap.size + 1)) W fs xs sa ss ra us) (ps rs : Int) :
  CfAt w (W.alloc (fbBlk ps rs (.slice none 0 0))) m o0 o1 v1 v2 en B v fs xs sa ss ra us W.heap.size ps rs (.slice none 0 0) [] [] := by
 have hA : Below W.heap.size W (W.alloc (fbBlk ps rs (.slice none 0 0))) := (Below.refl _ _).alloc (Nat.le_refl _) _
 have r2 : RsT (KI (w.heap.size + 1) W.heap.size) W fs xs sa ss ra us := r.wk (fun b hb k => ⟨k.1, by omega, .inl rfl⟩) (fun b hb k => ⟨k.1, by omega, .inr (.inr (.inr ⟨rfl, hb⟩))⟩) (fun b hb k => ⟨k.1, by omega, .inr (.inl rfl)⟩) (fun b hb k => ⟨k.1, by omega, .inr (.inr (.inl rfl))⟩)
 exact ⟨h.d.below hA, row_below h.o hA, fun g hg => (h.o.lt g hg).2, KAt.new _ _, World.ownsRow_nil _ _ _ _, r2.kp (Kp.below hA), CdV.nil _ _, h.h, h.hB⟩
theorem CfAt.below (h : CfAt w W m o0 o1 v1 v2 en B v fs xs sa ss ra us fb ps rs vc code ys) (hb : Below W.heap.size W V) : CfAt w V m o0 o1 v1 v2 en B v fs xs sa ss ra us fb ps rs vc code ys :=
 ⟨h.d.below hb, row_below h.oo hb, h.ov, h.f.below hb, row_below h.o hb, h.r.kp (Kp.below hb), h.c.kp (Kp.below hb), h.hm, h.hB⟩
theorem CfAt.app (h : CfAt w W m o0 o1 v1 v2 en B v fs xs sa ss ra us fb ps rs vc code ys) {vc' : Value} {x : In} {zs : List Value} (ho : V.ownsRow (fb + 1) 58 6 vc' (code.length + 1) (ys ++ zs)) (hb : Below (fb + 1) W V) (hk : Kp (KI (w.heap.size + 1) fb) W V) (hz : zs.length = 6) (hx : InV (KI (w.heap.size + 1) fb) V x (fun k => zs[k]?)) :
  CfAt w (V.setCell ⟨fb, 2, none⟩ vc') m o0 o1 v1 v2 en B v fs xs sa ss ra us fb ps rs vc' (code ++ [x]) (ys ++ zs) := by
 have h1 := h.hm
 have h2 := h.d.hm
 have h3 := h.hB
 have hf : KAt V fb (fbBlk ps rs vc) := ⟨by rw [hb.block fb (Nat.lt_succ_self _)]; exact h.f.x⟩
 have hs : Kp (KI (w.heap.size + 1) fb) V (V.setCell ⟨fb, 2, none⟩ vc') := Kp.set2 hf (fun k => k.2.1 rfl) 2 vc'
 have hbs : Below fb V (V.setCell ⟨fb, 2, none⟩ vc') := (Below.refl fb V).setCell (p := ⟨fb, 2, none⟩) (Nat.le_refl _) _
 refine ⟨(h.d.low hb (by omega)).low hbs (by omega), own_low (own_low h.oo (fun g hg => Nat.lt_succ_of_lt (h.ov g hg)) hb) h.ov hbs, h.ov, ⟨heap_setCell_same (i := 2) _ _ _ _ vc' hf.x⟩, ?_, (h.r.kp hk).kp hs, ((h.c.kp hk).snoc hz hx).kp hs, h1, h3⟩
 have := ownsRow_setCell_below ho (a := ⟨fb, 2, none⟩) (Nat.lt_succ_self fb) vc'
 simpa using this
/-- the function that has been copied, at rest -/
theorem CfAt.fn (h : CfAt w W m o0 o1 v1 v2 en B v fs xs sa ss ra us fb ps rs vc code ys) : FnV (KO (w.heap.size + 1)) W ⟨ps, rs, code⟩ (fun k => [Value.int .i64 ps, .int .i64 rs, vc][k]?) := by
 have h1 := h.hm
 have h2 := h.d.hm
 have h3 := h.hB
 rcases Nat.eq_zero_or_pos code.length with h0 | h0
 ·obtain rfl := List.length_eq_zero_iff.1 h0
  obtain ⟨a, cap, rfl, q1, q2⟩ := own_form h.o
  exact ⟨a, cap, rfl, rfl, rfl, q2, .inl rfl⟩
 ·obtain ⟨g, cap, cur, rfl, q1, q2, q3, q4, q5⟩ := own_parts h.o h0
  refine ⟨_, cap, rfl, rfl, rfl, q4, .inr ⟨g, cur, rfl, ⟨by omega, .inr (.inl rfl)⟩, q2, fun i x e => ?_⟩⟩
  have hi : i < code.length := by
   rcases Nat.lt_or_ge i code.length with hi | hi
   ·exact hi
   ·rw [List.getElem?_eq_none hi] at e; cases e
  exact ((h.c.2 i x e).wk (fun b _ k => ⟨k.1, .inl rfl⟩)).same (fun k hk => q5 _ (by omega))
theorem CfAt.rest (h : CfAt w W m o0 o1 v1 v2 en B v fs xs sa ss ra us fb ps rs vc code ys) : RsT (KO (w.heap.size + 1)) W fs xs sa ss ra us :=
 h.r.wk (fun b _ k => ⟨k.1, .inl rfl⟩) (fun b _ k => ⟨k.1, .inr (.inl rfl)⟩) (fun b _ k => ⟨k.1, .inr (.inr (.inl rfl))⟩) (fun b _ k => ⟨k.1, .inr (.inr (.inr rfl))⟩)
theorem CfAt.out (h : CfAt w W m o0 o1 v1 v2 en B v fs xs sa ss ra us fb ps rs vc code ys) : CoAt w W m o0 o1 v v1 v2 en B 48 3 v fs.length xs := ⟨h.d, h.oo, h.hm, Nat.le_trans h.hB (Nat.le_of_lt (heap_lt h.f.x))⟩
end
end Go.Proofs.YtokjkligechcoaaGreatDoor
