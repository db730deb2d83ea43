/- Walks of layer 16: a line of a program's text, of every instruction: it is written, and is not too long. -/
import Derived.Test.YtokjkligechcoaaGreatDoorNa
import Derived.Test.YtokjkligechcoaaGreatDoorNc
set_option linter.unusedVariables false
namespace Go.Proofs.YtokjkligechcoaaGreatDoor
open Go.RowKit
attribute [local go_sem] ext_mk size_mk toList_mk get_mk take_drop_len take_tail_len ByteArray.mk_append_mk List.append_toArray
/-- a line under way: some parts, none too long; the instruction's box -/
structure LnS (w : World) (B q x : Nat) (X : Obj) (n : Nat) (W : World) (g c N : Nat) (xs : List (List UInt8)) : Prop where
 l : LnAt B W q (.slice (some ⟨g, 0, none⟩) N c) xs
 eN : xs.length = N
 n0 : xs ≠ []
 bn : N ≤ n
 s : ∀ y ∈ xs, y.length ≤ 20
 b : Below w.heap.size w W
 bx : KAt W x X
 wB : w.heap.size ≤ B
 xB : x < B
section
variable {w W V : World} {B q x n g c N : Nat} {X : Obj} {xs : List (List UInt8)}
theorem LnS.below (h : LnS w B q x X n W g c N xs) (hb : Below W.heap.size W V) : LnS w B q x X n V g c N xs :=
 ⟨h.l.below hb, h.eN, h.n0, h.bn, h.s, h.b.trans (hb.mono h.b.size), h.bx.below hb, h.wB, h.xB⟩
theorem LnS.le {m : Nat} (h : LnS w B q x X n W g c N xs) (hm : n ≤ m) : LnS w B q x X m W g c N xs :=
 ⟨h.l, h.eN, h.n0, Nat.le_trans h.bn hm, h.s, h.b, h.bx, h.wB, h.xB⟩
theorem LnS.q0 (h : LnS w B q x X n W g c N xs) : W.cell? ⟨q, 0, none⟩ = some (.slice (some ⟨g, 0, none⟩) N c) := by
 rw [cell_of_row _ _ _ _ _ _ h.l.b.x]; rfl
theorem LnS.o (h : LnS w B q x X n W g c N xs) : W.ownsRow B 9 1 (.slice (some ⟨g, 0, none⟩) N c) N (strC xs) := h.eN ▸ h.l.o
/-- parts more -/
theorem LnS.app {g7 c7 m : Nat} {ys : List (List UInt8)} (h : LnS w B q x X n W g c N xs) (o : V.ownsRow B 9 1 (.slice (some ⟨g7, 0, none⟩) (N + m) c7) (N + m) (strC xs ++ strC ys)) (hb : Below B W V) (kp : Kp NoS W V) (hy : ∀ y ∈ ys, y.length ≤ 20) (hm : ys.length = m) :
  LnS w B q x X (n + m) (V.setCell ⟨q, 0, none⟩ (.slice (some ⟨g7, 0, none⟩) (N + m) c7)) g7 c7 (N + m) (xs ++ ys) ∧ V.cell? ⟨q, 0, none⟩ = some (.slice (some ⟨g, 0, none⟩) N c) ∧ V.frozen? ⟨q, 0, none⟩ = false := by
 have KQ : KAt V q (.cells #[.slice (some ⟨g, 0, none⟩) N c] 23 (0, 0)) := ⟨kp.k q _ _ (show 23 ≠ 9 by decide) h.l.b.x⟩
 have hl : (xs ++ ys).length = N + m := by rw [List.length_append, h.eN, hm]
 have hq : Below B V (V.setCell ⟨q, 0, none⟩ (.slice (some ⟨g7, 0, none⟩) (N + m) c7)) := (Below.refl _ _).setCell (p := ⟨q, 0, none⟩) h.l.h _
 have e : strC (xs ++ ys) = strC xs ++ strC ys := by unfold strC; rw [List.map_append]
 refine ⟨⟨LnAt.put KQ (ys := xs ++ ys) (by rw [hl, e]; exact o) h.l.h (Nat.le_trans h.l.hB hb.size), hl, fun q => h.n0 (List.append_eq_nil_iff.1 q).1, Nat.add_le_add_right h.bn m, fun y hy' => ?_, h.b.trans ((hb.trans hq).mono h.wB), ⟨by rw [(hb.trans hq).block _ h.xB]; exact h.bx.x⟩, h.wB, h.xB⟩, by rw [cell_of_row _ _ _ _ _ _ KQ.x]; rfl, frozen_of_row _ q 0 _ _ KQ.x⟩
 rcases List.mem_append.1 hy' with h1 | h1
 ·exact h.s y h1
 ·exact hy y h1
theorem numL_len {L : List Int} (hI : ∀ n ∈ L, I8b n) : ∀ y ∈ L.map numS, y.length ≤ 20 := by
 intro y hy
 obtain ⟨n, hn, rfl⟩ := List.mem_map.1 hy
 exact numS_len (hI n hn)
theorem addS (S : LnS w B q x X n W g c N xs) (hV : PrVars w) (r : Option Addr) (L : List Int) (cap : Nat) (hL : NumsK IntB 3 .i64 W r L) (hI : ∀ n ∈ L, I8b n) (hn : n + L.length ≤ 100000) :
  Calls Tryz.prog 113 #[.slice r L.length cap, .pointer (some ⟨q, 0, none⟩)] W fun e w' => (∃ u, e = .returned u) ∧ ∃ g c N xs, LnS w B q x X (n + L.length) w' g c N xs := by
 refine (add_any B q _ xs r L cap w W S.l hL hI hV S.wB S.b (by have := S.eN; have := S.bn; omega)).mono ?_
 rintro e w' ⟨hu, ⟨v', hl⟩, hb⟩
 have hne : xs ++ L.map numS ≠ [] := fun q => S.n0 (List.append_eq_nil_iff.1 q).1
 obtain ⟨g2, c2, rfl, -⟩ := hl.cells hne
 refine ⟨hu, g2, c2, _, _, hl, rfl, hne, ?_, fun y hy => ?_, S.b.trans (hb.mono S.wB), ⟨by rw [hb.block _ S.xB]; exact S.bx.x⟩, S.wB, S.xB⟩
 ·rw [List.length_append, List.length_map, S.eN]; exact Nat.add_le_add_right S.bn _
 ·rcases List.mem_append.1 hy with h1 | h1
  ·exact S.s y h1
  ·exact numL_len hI y h1
theorem ints1 (W : World) (a : Int) : NumsK IntB 3 .i64 (W.alloc (.cells #[.int .i64 a] 3)) (some ⟨W.heap.size, 0, none⟩) [a] := by
 refine ⟨show 1 ≤ maxLen by decide, .inr ⟨W.heap.size, _, rfl, rfl, heap_alloc_new _ _, fun i hi => ?_⟩⟩
 have hi : i < 1 := hi
 match i, hi with
 | 0, _ => rfl
theorem ints3 (W : World) (a b d : Int) : NumsK IntB 3 .i64 (W.alloc (.cells #[.int .i64 a, .int .i64 b, .int .i64 d] 3)) (some ⟨W.heap.size, 0, none⟩) [a, b, d] := by
 refine ⟨show 3 ≤ maxLen by decide, .inr ⟨W.heap.size, _, rfl, rfl, heap_alloc_new _ _, fun i hi => ?_⟩⟩
 have hi : i < 3 := hi
 match i, hi with
 | 0, _ => rfl
 | 1, _ => rfl
 | 2, _ => rfl
theorem add1 (S : LnS w B q x X n W g c N xs) (hV : PrVars w) (a : Int) (ha : I8b a) (hn : n ≤ 90000) :
  Calls Tryz.prog 113 #[.slice (some ⟨W.heap.size, 0, none⟩) 1 1, .pointer (some ⟨q, 0, none⟩)] (W.alloc (.cells #[.int .i64 a] 3)) fun e w' => (∃ u, e = .returned u) ∧ ∃ g c N xs, LnS w B q x X (n + 1) w' g c N xs :=
 addS (S.below ((Below.refl _ _).alloc (Nat.le_refl _) _)) hV _ [a] 1 (ints1 W a) (by simpa using ha) (by simp; omega)
theorem add1H (S : LnS w B q x X n W g c N xs) (hV : PrVars w) (a : Int) (ha : I8b a) (hn : n ≤ 90000) (H : Nat) (hH : W.heap.size = H) :
  Calls Tryz.prog 113 #[.slice (some ⟨H, 0, none⟩) 1 1, .pointer (some ⟨q, 0, none⟩)] (W.alloc (.cells #[.int .i64 a] 3)) fun e w' => (∃ u, e = .returned u) ∧ ∃ g c N xs, LnS w B q x X (n + 1) w' g c N xs := hH ▸ add1 S hV a ha hn
theorem add2 (S : LnS w B q x X n W g c N xs) (hV : PrVars w) (a b : Int) (ha : I8b a) (hb : I8b b) (hn : n ≤ 90000) :
  Calls Tryz.prog 113 #[.slice (some ⟨W.heap.size, 0, none⟩) 2 2, .pointer (some ⟨q, 0, none⟩)] (W.alloc (.cells #[.int .i64 a, .int .i64 b] 3)) fun e w' => (∃ u, e = .returned u) ∧ ∃ g c N xs, LnS w B q x X (n + 2) w' g c N xs :=
 addS (S.below ((Below.refl _ _).alloc (Nat.le_refl _) _)) hV _ [a, b] 2 (ints2 W a b) (by simpa using ⟨ha, hb⟩) (by simp; omega)
theorem add3 (S : LnS w B q x X n W g c N xs) (hV : PrVars w) (a b d : Int) (ha : I8b a) (hb : I8b b) (hd : I8b d) (hn : n ≤ 90000) :
  Calls Tryz.prog 113 #[.slice (some ⟨W.heap.size, 0, none⟩) 3 3, .pointer (some ⟨q, 0, none⟩)] (W.alloc (.cells #[.int .i64 a, .int .i64 b, .int .i64 d] 3)) fun e w' => (∃ u, e = .returned u) ∧ ∃ g c N xs, LnS w B q x X (n + 3) w' g c N xs :=
 addS (S.below ((Below.refl _ _).alloc (Nat.le_refl _) _)) hV _ [a, b, d] 3 (ints3 W a b d) (by simpa using ⟨ha, hb, hd⟩) (by simp; omega)
theorem joinS (S : LnS w B q x X n W g c N xs) (hn : n ≤ 100000) :
  Calls Tryz.prog 115 #[.slice (some ⟨g, 0, none⟩) N c, .string ⟨#[32]⟩] W fun e w' => ∃ s : List UInt8, e = .returned (.string ⟨s.toArray⟩) ∧ s.length ≤ 3000000 ∧ Below W.heap.size W w' := by
 have hN := S.eN
 obtain ⟨g', c', he, h1, h2, h3⟩ := S.l.cells S.n0
 simp only [Value.slice.injEq, Option.some.injEq, Addr.mk.injEq] at he
 obtain ⟨⟨rfl, -, -⟩, -, rfl⟩ := he
 refine (join_n g c N xs W hN S.n0 (Nat.le_trans S.bn hn) (hN ▸ h1) h2 h3 S.s).mono ?_
 rintro e w' ⟨rfl, hb⟩
 exact ⟨_, rfl, join_len S.s (by rw [hN]; exact Nat.le_trans S.bn hn), hb⟩
/-- the words' line, to begin with -/
theorem LnS.begin {v : Value} (a b : List UInt8) (h : LnAt B W q v [a, b]) (ha : a.length ≤ 20) (hb : b.length ≤ 20) (be : Below w.heap.size w W) (hx : KAt W x X) (wB : w.heap.size ≤ B) (xB : x < B) : ∃ g c, v = .slice (some ⟨g, 0, none⟩) 2 c ∧ LnS w B q x X 2 W g c 2 [a, b] := by
 obtain ⟨g, c, rfl, -⟩ := h.cells (by simp)
 refine ⟨g, c, rfl, h, rfl, by simp, Nat.le_refl _, fun y hy => ?_, be, hx, wB, xB⟩
 simp only [List.mem_cons, List.not_mem_nil, or_false] at hy
 rcases hy with rfl | rfl
 ·exact ha
 ·exact hb
theorem kindS_len (k : Int) : (kindS k).length ≤ 20 := by
 unfold kindS
 split <;> decide
end
end Go.Proofs.YtokjkligechcoaaGreatDoor
