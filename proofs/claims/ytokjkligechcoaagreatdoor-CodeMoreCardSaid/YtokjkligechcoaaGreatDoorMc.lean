/- What CodeMore needs: a row of the call's own written in place; a string or a number behind a copy's row. -/
import Derived.Test.YtokjkligechcoaaGreatDoorMa
import Derived.Test.YtokjkligechcoaaGreatDoorKx
import Derived.Test.YtokjkligechcoaaGreatDoorKo
set_option linter.unusedVariables false
namespace Go.Proofs.YtokjkligechcoaaGreatDoor
open Go.RowKit
/-- a row of the call's own, carried where blocks of its kind are kept -/
theorem own_kp {K : Nat → TypeId → Prop} {W V : World} {B n size : Nat} {T : TypeId} {v : Value} {xs : List Value} (h : W.ownsRow B T size v n xs) (q : Kp K W V) (hK : ∀ b, B ≤ b → K b T) : V.ownsRow B T size v n xs := by
 refine ⟨h.1, ?_⟩
 rcases h.2 with p | ⟨g, cap, cur, p, q1, q2, q3⟩
 ·exact .inl p
 ·exact .inr ⟨g, cap, cur, p, q1, q.k g cur T (hK g q1) q2, q3⟩
theorem RowO.kp {K : Nat → TypeId → Prop} {W V : World} {B cap : Nat} {T : TypeId} {a : Option Addr} {xs : List Value} (h : RowO W B T a cap xs) (q : Kp K W V) (hK : ∀ b, B ≤ b → K b T) : RowO V B T a cap xs := by
 rcases h with h | ⟨g, cs, h1, h2, h3, h4⟩
 ·exact .inl h
 ·exact .inr ⟨g, cs, h1, h2, q.k g cs T (hK g h2) h3, h4⟩
/-- and written in place -/
theorem own_set {W : World} {B n size g cap i : Nat} {T : TypeId} {xs : List Value} (h : W.ownsRow B T size (.slice (some ⟨g, 0, none⟩) n cap) n xs) (hi : i < n * size) (u : Value) : (W.setCell ⟨g, i, none⟩ u).ownsRow B T size (.slice (some ⟨g, 0, none⟩) n cap) n (xs.set i u) := by
 refine ⟨by rw [List.length_set]; exact h.1, ?_⟩
 rcases h.2 with ⟨p, -⟩ | ⟨g', cap', cur, p, q1, q2, q3, q4, q5, q6⟩
 ·cases p
 ·cases p
  refine .inr ⟨g, cap, cur.setIfInBounds i u, rfl, q1, heap_setCell_same (i := i) _ _ _ _ u q2, q3, q4, by simp [q5], ?_⟩
  rw [Array.toList_setIfInBounds, List.take_set, q6]
theorem own_cell {W : World} {B n size g cap i : Nat} {T : TypeId} {xs : List Value} {v : Value} (h : W.ownsRow B T size (.slice (some ⟨g, 0, none⟩) n cap) n xs) (hi : i < n * size) (hv : xs[i]? = some v) : W.cell? ⟨g, i, none⟩ = some v ∧ W.frozen? ⟨g, i, none⟩ = false := by
 rcases h.2 with ⟨p, -⟩ | ⟨g', cap', cur, p, q1, q2, q3, q4, q5, q6⟩
 ·cases p
 ·cases p
  refine ⟨?_, frozen_of_row _ _ _ _ _ q2⟩
  rw [cell_of_row _ _ _ _ _ _ q2, ← Array.getElem?_toList, ← List.getElem?_take_of_lt hi, q6, hv]
/-- functions, one with another number of registers -/
theorem FnsV.reg {K : Nat → TypeId → Prop} {W : World} {fs : List Fu} {xs : List Value} {n : Nat} {f : Fu} (h : FnsV K W fs xs) (e : fs[n]? = some f) (r : Int) : FnsV K W (fs.set n ⟨f.ps, r, f.code⟩) (xs.set (n * 3 + 1) (.int .i64 r)) := by
 have hn : n < fs.length := (List.getElem?_eq_some_iff.1 e).1
 have hl := h.1
 refine ⟨by rw [List.length_set, List.length_set]; exact hl, fun i g eg => ?_⟩
 by_cases hi : i = n
 ·subst hi
  rw [List.getElem?_set_self hn] at eg
  obtain rfl := Option.some.inj eg
  obtain ⟨ca, cc, h0, h1, h2, h3⟩ := h.2 i f e
  dsimp only at h0 h1 h2
  refine ⟨ca, cc, ?_, ?_, ?_, h3⟩
  ·show (xs.set (i * 3 + 1) _)[i * 3 + 0]? = _
   rw [List.getElem?_set_ne (by omega)]; exact h0
  ·show (xs.set (i * 3 + 1) _)[i * 3 + 1]? = _
   rw [List.getElem?_set_self (by omega)]
  ·show (xs.set (i * 3 + 1) _)[i * 3 + 2]? = _
   rw [List.getElem?_set_ne (by omega)]; exact h2
 ·rw [List.getElem?_set_ne (Ne.symm hi)] at eg
  exact (h.2 i g eg).same (fun k hk => List.getElem?_set_ne (by omega))
/-- the first n functions with a register more -/
def upTo (n : Nat) (fs : List Fu) : List Fu := (fs.take n).map upF ++ fs.drop n
theorem upTo_zero (fs : List Fu) : upTo 0 fs = fs := by simp [upTo]
theorem upTo_all (fs : List Fu) : upTo fs.length fs = fs.map upF := by simp [upTo]
theorem upTo_get {n : Nat} {fs : List Fu} {f : Fu} (e : fs[n]? = some f) : (upTo n fs)[n]? = some f := by
 have hn : n < fs.length := (List.getElem?_eq_some_iff.1 e).1
 unfold upTo
 rw [List.getElem?_append_right (by rw [List.length_map, List.length_take]; exact Nat.min_le_left _ _), List.getElem?_drop, List.length_map, List.length_take, show min n fs.length = n from Nat.min_eq_left (Nat.le_of_lt hn), Nat.sub_self, Nat.add_zero]; exact e
theorem upTo_next {n : Nat} {fs : List Fu} {f : Fu} (e : fs[n]? = some f) : upTo (n + 1) fs = (upTo n fs).set n (upF f) := by
 have hn : n < fs.length := (List.getElem?_eq_some_iff.1 e).1
 obtain ⟨_, rfl⟩ := List.getElem?_eq_some_iff.1 e
 unfold upTo
 have h1 : (fs.take n).length = n := by rw [List.length_take]; exact Nat.min_eq_left (Nat.le_of_lt hn)
 rw [List.set_append_right _ _ (by rw [List.length_map, h1]; exact Nat.le_refl n), List.length_map, h1, Nat.sub_self, List.drop_eq_getElem_cons hn, List.set_cons_zero, List.take_add_one, List.getElem?_eq_getElem hn, List.map_append, List.append_assoc]
 rfl
theorem upTo_same {n : Nat} {fs : List Fu} {f : Fu} (e : fs[n]? = some f) (h : upF f = f) : upTo (n + 1) fs = upTo n fs := by
 rw [upTo_next e, h]
 apply List.ext_getElem?
 intro i
 by_cases hi : i = n
 ·subst hi
  have := upTo_get e
  rw [List.getElem?_set_self (List.getElem?_eq_some_iff.1 this).1, this]
 ·rw [List.getElem?_set_ne (Ne.symm hi)]
/-- functions in a row of the call's own, whatever their code lies in -/
theorem fns_own {W : World} {B n cap : Nat} {a : Option Addr} {xs : List Value} {fs : List Fu} (h : W.ownsRow B 48 3 (.slice a n cap) n xs) (hn : fs.length = n)
  (hx : ∀ i f, fs[i]? = some f → ∃ ca cc, xs[i * 3]? = some (.int .i64 f.ps) ∧ xs[i * 3 + 1]? = some (.int .i64 f.rs) ∧ xs[i * 3 + 2]? = some (.slice ca f.code.length cc) ∧ CdAt W ca f.code) : FnsAt W a fs := by
 rcases Nat.eq_zero_or_pos n with h0 | h0
 ·subst h0; exact ⟨by omega, .inl (List.length_eq_zero_iff.1 hn)⟩
 obtain ⟨g, cap', cur, hv, q1, q2, q3, q4, q5⟩ := own_parts h h0
 cases hv
 refine ⟨by omega, .inr ⟨g, 0, rfl, fun i f e => ?_⟩⟩
 have hi : i < fs.length := (List.getElem?_eq_some_iff.1 e).1
 obtain ⟨ca, cc, h1, h2, h3, h4⟩ := hx i f e
 have ec : ∀ k, k < n * 3 → W.cell? ⟨g, k, none⟩ = xs[k]? := fun k hk => by rw [cell_of_row _ _ _ _ _ _ q2]; exact q5 k hk
 rw [Nat.zero_add]
 exact ⟨ca, cc, by rw [ec _ (by omega)]; exact h1, by rw [ec _ (by omega)]; exact h2, by rw [ec _ (by omega)]; exact h3, h4⟩
theorem FnV.cd {K : Nat → TypeId → Prop} {W : World} {f : Fu} {r : Nat → Option Value} (h : FnV K W f r) : ∃ ca cc, r 0 = some (.int .i64 f.ps) ∧ r 1 = some (.int .i64 f.rs) ∧ r 2 = some (.slice ca f.code.length cc) ∧ CdAt W ca f.code := by
 obtain ⟨ca, cc, h0, h1, h2, h3, h4⟩ := h
 refine ⟨ca, cc, h0, h1, h2, h3, ?_⟩
 rcases h4 with h4 | ⟨b', cs', h4, h5, h6, h7⟩
 ·exact .inl h4
 ·exact .inr ⟨b', 0, h4, fun i x hx => by rw [Nat.zero_add]; exact (h7 i x hx).at h6⟩
theorem FnsV.own {K : Nat → TypeId → Prop} {W : World} {B n cap : Nat} {a : Option Addr} {xs : List Value} {fs : List Fu} (h : FnsV K W fs xs) (ho : W.ownsRow B 48 3 (.slice a n cap) n xs) (hn : fs.length = n) : FnsAt W a fs :=
 fns_own ho hn (fun i f e => (h.2 i f e).cd)
/-- and one function more, its code anywhere -/
theorem FnsV.own1 {K : Nat → TypeId → Prop} {W : World} {B n cap cc : Nat} {a ca : Option Addr} {xs : List Value} {fs : List Fu} {f : Fu} (h : FnsV K W fs xs) (hc : CdAt W ca f.code) (ho : W.ownsRow B 48 3 (.slice a (n + 1) cap) (n + 1) (xs ++ [.int .i64 f.ps, .int .i64 f.rs, .slice ca f.code.length cc])) (hn : fs.length = n) : FnsAt W a (fs ++ [f]) := by
 refine fns_own ho (by simp [hn]) (fun i g e => ?_)
 have hl := h.1
 rcases Nat.lt_or_ge i fs.length with hi | hi
 ·rw [List.getElem?_append_left hi] at e
  obtain ⟨ca', cc', h0, h1, h2, h3⟩ := (h.2 i g e).cd
  exact ⟨ca', cc', by rw [List.getElem?_append_left (by omega)]; exact h0, by rw [List.getElem?_append_left (by omega)]; exact h1, by rw [List.getElem?_append_left (by omega)]; exact h2, h3⟩
 ·rw [List.getElem?_append_right hi] at e
  have h0 : i - fs.length = 0 := by
   have := (List.getElem?_eq_some_iff.1 e).1; simp at this; omega
  rw [h0] at e
  obtain rfl : f = g := by simpa using e
  have hi2 : i = fs.length := by omega
  subst hi2
  refine ⟨ca, cc, ?_, ?_, ?_, hc⟩
  ·rw [List.getElem?_append_right (by omega), hl, Nat.sub_self]; rfl
  ·rw [List.getElem?_append_right (by omega), hl, show fs.length * 3 + 1 - fs.length * 3 = 1 by omega]; rfl
  ·rw [List.getElem?_append_right (by omega), hl, show fs.length * 3 + 2 - fs.length * 3 = 2 by omega]; rfl
/-- an append of one cell to a copy's row -/
theorem wp_oneO {W : World} {B n bytes cap0 : Nat} {T t : TypeId} {a0 : Option Addr} {z x0 : Value} {xs : List Value} {T2 : TypeId} {ops : Array Oper} {rest : List Oper} {o : Oper} {a : Act} {Q : Exit → Act → World → Prop}
  (hi : (Tryz.prog.info? T).map (fun i => (i.zero, i.size, i.bytes)) = some (some z, 1, bytes)) (ht : Tryz.prog.underlying t = some (.slice T)) (hzs : z.cells.size = 1)
  (ho : RowO W B T a0 cap0 xs) (hB : B ≤ W.heap.size) (hgd : o.guard = none) (s x : Operand) (hop : o.op = .call { callee := .builtin .append, args := #[s, x], argTypes := #[t, t] })
  (hnl : xs.length = n) (hs : a.eval s = .slice a0 n cap0) (H : Nat) (hH : W.heap.size = H) (hx : a.eval x = .slice (some ⟨H, 0, none⟩) 1 1) (h1 : x0.oneCell' = true) (hn : n + 1 ≤ maxLen) (hby : (n + 1) * bytes ≤ 140737488355328)
  (h : ∀ a1 cap V, RowK V B T a1 (xs ++ [x0]) → Below B W V → (∀ K', (∀ b, B ≤ b → ¬ K' b T) → Kp K' W V) → wpList Tryz.prog ops Q rest (a.put o.dst (.slice a1 (n + 1) cap)) V) :
  wpList Tryz.prog ops Q (o :: rest) a (W.alloc (.cells #[x0] T2)) := by
 subst hnl
 by_cases he : xs = []
 ·subst he
  rcases ho with ⟨-, rfl, g, rfl⟩ | ⟨g, cs, rfl, hg, hcs, ⟨hc1, hc2, hc3⟩, -⟩
  ·subst hH
   have hb0 : Below W.heap.size W (W.alloc (.cells #[x0] T2)) := (Below.refl _ _).alloc (Nat.le_refl _) _
   refine wpList_plain hgd fun K hK => wp_freshO hi ht hzs s x hop g hs [x0] (some ⟨W.heap.size, 0, none⟩) 1 1 rfl hx (.inr ⟨W.heap.size, 0, rfl, fun i v e => ?_⟩) (by simpa using h1) (by simpa using hn) (by simpa using hby) fun a1 cap V k1 _ k3 => hK _ _ ?_
   ·have := World.news_of_block (heap_alloc_new W (.cells #[x0] T2))
    rw [cell_of_row _ _ _ _ _ _ (heap_alloc_new W (.cells #[x0] T2))]
    simpa using e
   ·have k4 : Below W.heap.size W V := hb0.trans (k3.mono hb0.size)
    exact h a1 cap V (k1.k.mono (by have := hb0.size; omega)) (k4.mono hB) (fun K' hK' => Kp.below k4)
  ·refine wp_oneG (news := [x0]) hi ht hzs (by decide) (v := .slice (some ⟨g, 0, none⟩) 0 cap0) (n := 0) (xs := []) ⟨rfl, .inr ⟨g, cap0, cs, rfl, hg, hcs, Nat.zero_le _, hc3, by omega, by simp⟩⟩ hB hgd s x hop hs H hH hx rfl (by simpa using h1) hn hby ?_
   intro g1 cap V k1 k2 k3
   obtain ⟨g2, cap2, cur, hv, q1, q2, q3, q4, q5⟩ := own_parts k1 (Nat.succ_pos _)
   cases hv
   exact h _ cap V (.inr ⟨g1, cur, rfl, q1, q2, fun i hi => q5 i (by simpa using hi)⟩) k2 k3
 ·refine wp_oneG (news := [x0]) hi ht hzs (by decide) (ho.own he) hB hgd s x hop hs H hH hx rfl (by simpa using h1) hn hby ?_
  intro g1 cap V k1 k2 k3
  obtain ⟨g2, cap2, cur, hv, q1, q2, q3, q4, q5⟩ := own_parts k1 (Nat.succ_pos _)
  cases hv
  exact h _ cap V (.inr ⟨g1, cur, rfl, q1, q2, fun i hi => q5 i (by simpa using hi)⟩) k2 k3
attribute [local go_sem] ext_mk size_mk toList_mk get_mk take_drop_len take_tail_len ByteArray.mk_append_mk List.append_toArray
section
abbrev KM (B : Nat) : Nat → TypeId → Prop := fun b T => B ≤ b ∧ (T = 48 ∨ T = 3 ∨ T = 58)
abbrev KSt (B : Nat) : Nat → TypeId → Prop := fun b T => B ≤ b ∧ T = 9
abbrev KU (B : Nat) : Nat → TypeId → Prop := fun b T => B ≤ b ∧ T = 45
abbrev qBox (v0 v1 v2 : Value) (en : Int) : Obj := .cells #[v0, v1, v2, .int .i64 en] 26 (0, 0)
/-- what CodeMore keeps: the arguments' boxes, and the copy with its functions -/
structure MoK (w W : World) (B g h m : Nat) (po fo : Obj) (fs : List Fu) (fa : Option Addr) (n fc : Nat) (xs : List Value) : Prop where
 wB : w.heap.size ≤ B
 be : Below w.heap.size w W
 p : KAt W g po
 f : KAt W h fo
 gB : g < B
 hB : h < B
 bz : B ≤ W.heap.size
 mB : B ≤ m
 o : W.ownsRow B 48 3 (.slice fa n fc) n xs
 v : FnsV (KM B) W fs xs
 n : fs.length = n
section
variable {w W V : World} {B g h m n fc : Nat} {po fo : Obj} {fs : List Fu} {fa : Option Addr} {xs : List Value}
theorem MoK.step (k : MoK w W B g h m po fo fs fa n fc xs) (hb : Below B W V) (q : Kp (KM B) W V) : MoK w V B g h m po fo fs fa n fc xs :=
 ⟨k.wB, k.be.trans (hb.mono k.wB), ⟨by rw [hb.block _ k.gB]; exact k.p.x⟩, ⟨by rw [hb.block _ k.hB]; exact k.f.x⟩, k.gB, k.hB, Nat.le_trans k.bz hb.size, k.mB, own_kp k.o q (fun b hb => ⟨hb, .inl rfl⟩), k.v.kp q, k.n⟩
theorem MoK.below (k : MoK w W B g h m po fo fs fa n fc xs) (hb : Below W.heap.size W V) : MoK w V B g h m po fo fs fa n fc xs := k.step (hb.mono k.bz) (Kp.below hb)
theorem MoK.put {v0 v1 v2 : Value} {en : Int} (k : MoK w W B g h m po fo fs fa n fc xs) (q : KAt W m (qBox v0 v1 v2 en)) (i : Nat) (u : Value) : MoK w (W.setCell ⟨m, i, none⟩ u) B g h m po fo fs fa n fc xs :=
 k.step ((Below.refl B W).setCell (p := ⟨m, i, none⟩) k.mB u) (Kp.set2 q (fun c => by rcases c.2 with c | c | c <;> exact absurd c (by decide)) i u)
theorem KAt.kp {K : Nat → TypeId → Prop} {b : Nat} {cs : Array Value} {T : TypeId} (k : KAt W b (.cells cs T (0, 0))) (q : Kp K W V) (hK : K b T) : KAt V b (.cells cs T (0, 0)) := ⟨q.k b cs T hK k.x⟩
end
/-- and with its strings and reals -/
structure MoZ (w W : World) (B g h m : Nat) (po fo : Obj) (fs : List Fu) (fa : Option Addr) (n fc : Nat) (xs : List Value) (sa : Option Addr) (ns sc : Nat) (ss : List (List UInt8)) (ra : Option Addr) (nu rc : Nat) (us : List Int) (en : Int) : Prop where
 k : MoK w W B g h m po fo fs fa n fc xs
 q : KAt W m (qBox (.slice fa n fc) (.slice sa ns sc) (.slice ra nu rc) en)
 s : StrsK (KSt B) W sa ss
 u : NumsK (KU B) 45 .u64 W ra us
section
variable {w W V : World} {B g h m n fc : Nat} {po fo : Obj} {fs : List Fu} {fa : Option Addr} {xs : List Value} {sa : Option Addr} {ns sc : Nat} {ss : List (List UInt8)} {ra : Option Addr} {nu rc : Nat} {us : List Int} {en : Int}
theorem MoZ.below (k : MoZ w W B g h m po fo fs fa n fc xs sa ns sc ss ra nu rc us en) (hb : Below W.heap.size W V) : MoZ w V B g h m po fo fs fa n fc xs sa ns sc ss ra nu rc us en :=
 ⟨k.k.below hb, k.q.below hb, k.s.kp (Kp.below hb), k.u.kp (Kp.below hb)⟩
theorem MoZ.at (k : MoZ w W B g h m po fo fs fa n fc xs sa ns sc ss ra nu rc us en) (hz : ∀ u ∈ us, 0 ≤ u ∧ u < 18446744073709551616) : PgAt W fa sa ra ⟨fs, ss, us, en⟩ :=
 ⟨k.k.v.own k.k.o k.k.n, k.s.at, k.u.at, hz⟩
theorem MoZ.cells (k : MoZ w W B g h m po fo fs fa n fc xs sa ns sc ss ra nu rc us en) : W.cell? ⟨m, 0, none⟩ = some (.slice fa n fc) ∧ W.cell? ⟨m, 1, none⟩ = some (.slice sa ns sc) ∧ W.cell? ⟨m, 2, none⟩ = some (.slice ra nu rc) ∧ W.cell? ⟨m, 3, none⟩ = some (.int .i64 en) := pbox_cells k.q
/-- a function's registers raised in place -/
theorem MoZ.reg {i b : Nat} {f : Fu} (k : MoZ w W B g h m po fo fs fa n fc xs sa ns sc ss ra nu rc us en) (hf : fa = some ⟨b, 0, none⟩) (e : fs[i]? = some f) (r : Int) :
  MoZ w (W.setCell ⟨b, i * 3 + 1, none⟩ (.int .i64 r)) B g h m po fo (fs.set i ⟨f.ps, r, f.code⟩) fa n fc (xs.set (i * 3 + 1) (.int .i64 r)) sa ns sc ss ra nu rc us en := by
 subst hf
 have hi : i < fs.length := (List.getElem?_eq_some_iff.1 e).1
 have hn := k.k.n
 obtain ⟨g', cap', cur, hv, q1, q2, -⟩ := own_parts k.k.o (by omega)
 cases hv
 have hK : ∀ {K : Nat → TypeId → Prop}, ¬ K b 48 → Kp K W (W.setCell ⟨b, i * 3 + 1, none⟩ (.int .i64 r)) := fun hk => Kp.set2 (cs := cur) (fr := (0, 0)) ⟨q2⟩ hk _ _
 have hbB : Below B W (W.setCell ⟨b, i * 3 + 1, none⟩ (.int .i64 r)) := (Below.refl B W).setCell (p := ⟨b, i * 3 + 1, none⟩) q1 _
 have hv2 : FnsV (KM B) (W.setCell ⟨b, i * 3 + 1, none⟩ (.int .i64 r)) fs xs := by
  have h1 : FnsV (fun b T => B ≤ b ∧ (T = 3 ∨ T = 58)) W fs xs := k.k.v.wk (fun b _ h => ⟨h.1, .inl rfl⟩) (fun b _ h => ⟨h.1, .inr rfl⟩)
  exact (h1.kp (hK (fun c => by rcases c.2 with c | c <;> exact absurd c (by decide)))).wk (fun b _ h => ⟨h.1, .inr (.inl rfl)⟩) (fun b _ h => ⟨h.1, .inr (.inr rfl)⟩)
 have hmb : m ≠ b := by
  rintro rfl
  have e1 := k.q.x
  rw [q2] at e1
  exact absurd (Obj.cells.inj (Option.some.inj e1)).2.1 (by decide)
 exact ⟨⟨k.k.wB, k.k.be.trans (hbB.mono k.k.wB), ⟨by rw [hbB.block _ k.k.gB]; exact k.k.p.x⟩, ⟨by rw [hbB.block _ k.k.hB]; exact k.k.f.x⟩, k.k.gB, k.k.hB, Nat.le_trans k.k.bz hbB.size, k.k.mB, own_set k.k.o (by omega) _, hv2.reg e r, by rw [List.length_set]; exact hn⟩,
  ⟨by rw [Below.heap_setCell _ _ _ _ (by show m ≠ b; exact hmb)]; exact k.q.x⟩, k.s.kp (hK (fun c => absurd c.2 (by decide))), k.u.kp (hK (fun c => absurd c.2 (by decide)))⟩
end
/-- the copy, boxed -/
theorem more_start {w W V : World} {g h nf : Nat} {po fo : Obj} {P : Pg} {fa sa ra : Option Addr} {fc : Nat} {xs : List Value} (be : Below w.heap.size w W) (kp : KAt W g po) (kf : KAt W h fo) (hD : PgD false (KUp W.heap.size) V fa sa ra (cpP false P)) (hb : Below W.heap.size W V) (ho : V.ownsRow W.heap.size 48 3 (.slice fa nf fc) nf xs) (hn : P.fs.length = nf) (ob : Obj) :
  MoK w (V.alloc ob) W.heap.size g h V.heap.size po fo P.fs fa nf fc xs := by
 have hA : Below V.heap.size V (V.alloc ob) := (Below.refl _ _).alloc (Nat.le_refl _) _
 have hv : FnsV (KM W.heap.size) V P.fs xs := by
  have hf := hD.f.2
  rw [cpP_same] at hf
  refine ⟨by have := ho.1; omega, fun i f e => ?_⟩
  have hi : i < P.fs.length := (List.getElem?_eq_some_iff.1 e).1
  rcases hf with h0 | ⟨b, cs, h1, h2, h3, h4, -⟩
  ·rw [h0] at hi; exact absurd hi (Nat.not_lt_zero _)
  obtain ⟨g', cap', cur, hv, q1, q2, q3, q4, q5⟩ := own_parts ho (by omega)
  cases hv; cases h1
  rw [h3] at q2
  cases q2
  exact ((h4 i f e).wk (fun b _ h => ⟨Nat.le_of_lt h, .inr (.inl rfl)⟩) (fun b _ h => ⟨Nat.le_of_lt h, .inr (.inr rfl)⟩)).same (fun k hk => (q5 _ (by omega)).symm)
 have hk : MoK w V W.heap.size g h V.heap.size po fo P.fs fa nf fc xs :=
  ⟨be.size, be.trans (hb.mono be.size), kp.below hb, kf.below hb, heap_lt kp.x, heap_lt kf.x, hb.size, hb.size, ho, hv, hn⟩
 exact hk.below hA
theorem qset1 {W : World} {m : Nat} {v0 v1 v2 : Value} {en : Int} (h : KAt W m (qBox v0 v1 v2 en)) (u : Value) : KAt (W.setCell ⟨m, 1, none⟩ u) m (qBox v0 u v2 en) := ⟨heap_setCell_same (i := 1) _ _ _ _ u h.x⟩
theorem qset2 {W : World} {m : Nat} {v0 v1 v2 : Value} {en : Int} (h : KAt W m (qBox v0 v1 v2 en)) (u : Value) : KAt (W.setCell ⟨m, 2, none⟩ u) m (qBox v0 v1 u en) := ⟨heap_setCell_same (i := 2) _ _ _ _ u h.x⟩
theorem qset0 {W : World} {m : Nat} {v0 v1 v2 : Value} {en : Int} (h : KAt W m (qBox v0 v1 v2 en)) (u : Value) : KAt (W.setCell ⟨m, 0, none⟩ u) m (qBox u v1 v2 en) := ⟨heap_setCell_same (i := 0) _ _ _ _ u h.x⟩
/-- a string more -/
theorem more_str {w W V : World} {B g h m n fc ns sc nu rc : Nat} {po fo : Obj} {fs : List Fu} {fa : Option Addr} {xs : List Value} {sa ra a1 : Option Addr} {ss : List (List UInt8)} {us : List Int} {en : Int} {S : List UInt8}
  (k : MoK w W B g h m po fo fs fa n fc xs) (q : KAt W m (qBox (.slice fa n fc) (.slice sa ns sc) (.slice ra nu rc) en)) (hu : RowO W B 45 ra rc (u64C us))
  (r : RowK V B 9 a1 (strC ss ++ [.string ⟨S.toArray⟩])) (hb : Below B W V) (kp : ∀ K', (∀ b, B ≤ b → ¬ K' b 9) → Kp K' W V) (hn : ss.length + 1 ≤ maxLen) (hs : ∀ s ∈ ss, s.length ≤ maxLen) (hS : S.length ≤ maxLen) (v : Value) :
  MoK w (V.setCell ⟨m, 1, none⟩ v) B g h m po fo fs fa n fc xs ∧ KAt (V.setCell ⟨m, 1, none⟩ v) m (qBox (.slice fa n fc) v (.slice ra nu rc) en) ∧ RowO (V.setCell ⟨m, 1, none⟩ v) B 45 ra rc (u64C us) ∧ StrsK (KSt B) (V.setCell ⟨m, 1, none⟩ v) a1 (ss ++ [S]) ∧ V.frozen? ⟨m, 1, none⟩ = false ∧ V.cell? ⟨m, 1, none⟩ = some (.slice sa ns sc) := by
 have q2 : KAt V m (qBox (.slice fa n fc) (.slice sa ns sc) (.slice ra nu rc) en) := KAt.kp q (kp (fun b T => T = 26) (fun b _ c => absurd c (by decide))) rfl
 have e : strC (ss ++ [S]) = strC ss ++ [.string ⟨S.toArray⟩] := by simp [strC]
 rw [← e] at r
 have hs2 : StrsK (KSt B) V a1 (ss ++ [S]) := r.strs (by simpa using hn) (fun s hs' => by
  rcases List.mem_append.1 hs' with h | h
  ·exact hs s h
  ·obtain rfl : s = S := by simpa using h
   exact hS) (fun b h _ => ⟨h, rfl⟩)
 exact ⟨(k.step hb (kp (KM B) (fun b _ c => by rcases c.2 with c | c | c <;> exact absurd c (by decide)))).put q2 1 v, qset1 q2 v,
  (hu.kp (kp (KU B) (fun b _ c => absurd c.2 (by decide))) (fun b h => ⟨h, rfl⟩)).kp (Kp.set2 (K := KU B) q2 (fun c => absurd c.2 (by decide)) 1 v) (fun b h => ⟨h, rfl⟩),
  hs2.kp (Kp.set2 q2 (fun c => absurd c.2 (by decide)) 1 v), frozen_of_row _ _ _ _ _ q2.x, (pbox_cells q2).2.1⟩
/-- and a real -/
theorem more_real {w W V : World} {B g h m n fc ns sc nu rc : Nat} {po fo : Obj} {fs : List Fu} {fa : Option Addr} {xs : List Value} {sa ra a1 : Option Addr} {ss : List (List UInt8)} {us : List Int} {en u : Int}
  (k : MoK w W B g h m po fo fs fa n fc xs) (q : KAt W m (qBox (.slice fa n fc) (.slice sa ns sc) (.slice ra nu rc) en)) (hs : StrsK (KSt B) W sa ss)
  (r : RowK V B 45 a1 (u64C us ++ [.int .u64 u])) (hb : Below B W V) (kp : ∀ K', (∀ b, B ≤ b → ¬ K' b 45) → Kp K' W V) (hn : us.length + 1 ≤ maxLen) (c : Nat) (hc : nu = us.length) :
  MoZ w (V.setCell ⟨m, 2, none⟩ (.slice a1 (nu + 1) c)) B g h m po fo fs fa n fc xs sa ns sc ss a1 (nu + 1) c (us ++ [u]) en ∧ V.frozen? ⟨m, 2, none⟩ = false ∧ V.cell? ⟨m, 2, none⟩ = some (.slice ra nu rc) := by
 have q2 : KAt V m (qBox (.slice fa n fc) (.slice sa ns sc) (.slice ra nu rc) en) := KAt.kp q (kp (fun b T => T = 26) (fun b _ c => absurd c (by decide))) rfl
 have e : (us ++ [u]).map (Value.int .u64) = u64C us ++ [.int .u64 u] := by simp [u64C]
 rw [← e] at r
 have hs2 : NumsK (KU B) 45 .u64 V a1 (us ++ [u]) := r.nums (by simpa using hn) (fun b h _ => ⟨h, rfl⟩)
 exact ⟨⟨(k.step hb (kp (KM B) (fun b _ c => by rcases c.2 with c | c | c <;> exact absurd c (by decide)))).put q2 2 _, qset2 q2 _,
  (hs.kp (kp (KSt B) (fun b _ c => absurd c.2 (by decide)))).kp (Kp.set2 q2 (fun c => absurd c.2 (by decide)) 2 _),
  hs2.kp (Kp.set2 q2 (fun c => absurd c.2 (by decide)) 2 _)⟩, frozen_of_row _ _ _ _ _ q2.x, (pbox_cells q2).2.2.1⟩
/-- and a function -/
theorem more_fn {w W V : World} {B g h m n fc ns sc nu rc c7 g7 nc cc : Nat} {po fo : Obj} {fs : List Fu} {fa : Option Addr} {xs : List Value} {sa ra ca : Option Addr} {ss : List (List UInt8)} {us : List Int} {en : Int} {F : Fu}
  (k : MoZ w W B g h m po fo fs fa n fc xs sa ns sc ss ra nu rc us en) (hz : ∀ u ∈ us, 0 ≤ u ∧ u < 18446744073709551616) (hC : CdAt w ca F.code) (hl : F.code.length = nc)
  (ho : V.ownsRow B 48 3 (.slice (some ⟨g7, 0, none⟩) (n + 1) c7) (n + 1) (xs ++ [.int .i64 F.ps, .int .i64 F.rs, .slice ca nc cc])) (hb : Below B W V) (kp : ∀ K', (∀ b, B ≤ b → ¬ K' b 48) → Kp K' W V) (v : Value) :
  PgAt (V.setCell ⟨m, 0, none⟩ v) (some ⟨g7, 0, none⟩) sa ra ⟨fs ++ [F], ss, us, en⟩ ∧ Below w.heap.size w (V.setCell ⟨m, 0, none⟩ v) ∧ KAt (V.setCell ⟨m, 0, none⟩ v) m (qBox v (.slice sa ns sc) (.slice ra nu rc) en) ∧ KAt (V.setCell ⟨m, 0, none⟩ v) g po ∧ V.frozen? ⟨m, 0, none⟩ = false ∧ V.cell? ⟨m, 0, none⟩ = some (.slice fa n fc) := by
 subst hl
 have q2 : KAt V m (qBox (.slice fa n fc) (.slice sa ns sc) (.slice ra nu rc) en) := KAt.kp k.q (kp (fun b T => T = 26) (fun b _ c => absurd c (by decide))) rfl
 have hbm : Below B V (V.setCell ⟨m, 0, none⟩ v) := (Below.refl B V).setCell (p := ⟨m, 0, none⟩) k.k.mB v
 have hbe : Below w.heap.size w (V.setCell ⟨m, 0, none⟩ v) := k.k.be.trans ((hb.trans hbm).mono k.k.wB)
 have hkm : ∀ {K : Nat → TypeId → Prop}, ¬ K m 26 → Kp K V (V.setCell ⟨m, 0, none⟩ v) := fun hk => Kp.set2 q2 hk 0 v
 have h1 : FnsV (fun b T => B ≤ b ∧ (T = 3 ∨ T = 58)) W fs xs := k.k.v.wk (fun b _ h => ⟨h.1, .inl rfl⟩) (fun b _ h => ⟨h.1, .inr rfl⟩)
 have h2 := (h1.kp (kp _ (fun b _ c => by rcases c.2 with c | c <;> exact absurd c (by decide)))).kp (hkm (fun c => by rcases c.2 with c | c <;> exact absurd c (by decide)))
 have ho2 := own_kp ho (hkm (K := fun b T => T = 48) (fun c => absurd c (by decide))) (fun b _ => rfl)
 refine ⟨⟨h2.own1 (hC.below hbe) ho2 k.k.n, ((k.s.kp (kp (KSt B) (fun b _ c => absurd c.2 (by decide)))).kp (hkm (fun c => absurd c.2 (by decide)))).at, ((k.u.kp (kp (KU B) (fun b _ c => absurd c.2 (by decide)))).kp (hkm (fun c => absurd c.2 (by decide)))).at, hz⟩, hbe, qset0 q2 v, ⟨?_⟩, frozen_of_row _ _ _ _ _ q2.x, (pbox_cells q2).1⟩
 rw [(hb.trans hbm).block _ k.k.gB]; exact k.k.p.x
theorem mbx {W : World} {m : Nat} {a b c d e f g h i : Value} {T : TypeId} (k : KAt W m (.cells #[a, b, c, d, e, f, g, h, i] T (0, 0))) : W.cell? ⟨m, 0, none⟩ = some a ∧ W.cell? ⟨m, 1, none⟩ = some b ∧ W.cell? ⟨m, 2, none⟩ = some c ∧ W.cell? ⟨m, 3, none⟩ = some d ∧ W.cell? ⟨m, 4, none⟩ = some e ∧ W.cell? ⟨m, 5, none⟩ = some f ∧ W.cell? ⟨m, 6, none⟩ = some g ∧ W.cell? ⟨m, 7, none⟩ = some h ∧ W.cell? ⟨m, 8, none⟩ = some i := by
 refine ⟨?_, ?_, ?_, ?_, ?_, ?_, ?_, ?_, ?_⟩
 all_goals (rw [cell_of_row _ _ _ _ _ _ k.x]; rfl)
end
end Go.Proofs.YtokjkligechcoaaGreatDoor
