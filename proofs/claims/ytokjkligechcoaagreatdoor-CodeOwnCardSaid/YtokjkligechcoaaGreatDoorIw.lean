/- Walks of layer 16: which primitives may allocate; the world of a program. -/
import Derived.Test.YtokjkligechcoaaGreatDoorIq
import Derived.Test.YtokjkligechcoaaGreatDoorShelf
import Derived.Lib.LastIndexLaws
import Derived.Deep.RegionLaw
import Derived.Deep.RegionHeldLaw
import Derived.Deep.RegionHeld3
import Derived.BigRegion
set_option linter.unusedVariables false
namespace Go.Proofs.YtokjkligechcoaaGreatDoor
open _root_.Go.Lib (hid)
open Go.RowKit
attribute [local go_sem] ext_mk size_mk toList_mk get_mk take_drop_len take_tail_len ByteArray.mk_append_mk List.append_toArray
def prT (i : Nat) : List UInt8 × Int × Nat := primT.getD i ([], 0, 0)
theorem okRow_get : ∀ (ps : List (List UInt8 × Int × Nat)) (cs : List Value), okRow cs ps → ∀ i, i < ps.length →
  cs[5 * i + 3]? = some (.string ⟨(ps.getD i ([], 0, 0)).1.toArray⟩) ∧ cs[5 * i + 2]? = some (.int .i64 (ps.getD i ([], 0, 0)).2.1) ∧ ∃ p cp, cs[5 * i + 4]? = some (.slice p (ps.getD i ([], 0, 0)).2.2 cp) ∧ (∃ s, cs[5 * i + 0]? = some (.string s)) ∧ ∃ z, cs[5 * i + 1]? = some (.int .i64 z) := by
 intro ps
 induction ps with
 | nil => intro cs _ i hi; simp at hi
 | cons q ps ih =>
  obtain ⟨ty, ar, ra⟩ := q
  intro cs h i hi
  match cs, h with
  | n :: c :: a :: t :: r :: rest, h =>
   obtain ⟨h1, h2, ⟨p, cp, h3⟩, ⟨⟨s, h5⟩, z, h6⟩, h4⟩ := h
   cases i with
   | zero => subst h1; subst h2; subst h3; subst h5; subst h6; exact ⟨rfl, rfl, p, cp, rfl, ⟨s, rfl⟩, z, rfl⟩
   | succ j =>
    have := ih rest h4 j (by simpa using hi)
    have e : ∀ k, (n :: c :: a :: t :: r :: rest)[5 * (j + 1) + k]? = rest[5 * j + k]? := fun k => by
     rw [show 5 * (j + 1) + k = (5 * j + k) + 5 by omega]; rfl
    simp only [e]
    simpa using this
  | [], h => exact absurd h (by simp [okRow])
  | [_], h => exact absurd h (by simp [okRow])
  | [_, _], h => exact absurd h (by simp [okRow])
  | [_, _, _], h => exact absurd h (by simp [okRow])
  | [_, _, _, _], h => exact absurd h (by simp [okRow])
theorem prim_len : primT.length = 61 := by decide +kernel
/-- a row of all primitives -/
def PrAt (w : World) (g : Nat) : Prop := g < w.heap.size ∧ ∀ i, i < 61 → w.cell? ⟨g, 5 * i + 3, none⟩ = some (.string ⟨(prT i).1.toArray⟩) ∧ w.cell? ⟨g, 5 * i + 2, none⟩ = some (.int .i64 (prT i).2.1) ∧ ∃ p cp, w.cell? ⟨g, 5 * i + 4, none⟩ = some (.slice p (prT i).2.2 cp) ∧ (∃ s, w.cell? ⟨g, 5 * i + 0, none⟩ = some (.string s)) ∧ ∃ z, w.cell? ⟨g, 5 * i + 1, none⟩ = some (.int .i64 z)
theorem PrAt.below {w w' : World} {g : Nat} (h : PrAt w g) (hb : Below w.heap.size w w') : PrAt w' g := by
 refine ⟨Nat.lt_of_lt_of_le h.1 hb.size, fun i hi => ?_⟩
 have e : ∀ k, w'.cell? ⟨g, k, none⟩ = w.cell? ⟨g, k, none⟩ := fun k => hb.cell (p := ⟨g, k, none⟩) h.1
 simp only [e]; exact h.2 i hi
theorem prAt_of {w : World} {g base cap : Nat} {cs : List Value} (h : w.ownsRow base 77 5 (.slice (some ⟨g, 0, none⟩) 61 cap) 61 cs) (ho : okRow cs primT) : PrAt w g := by
 refine ⟨(h.lt g rfl).2, fun i hi => ?_⟩
 obtain ⟨a1, a2, p, cp, a3, ⟨s, a4⟩, z, a5⟩ := okRow_get primT cs ho i (by rw [prim_len]; exact hi)
 have e : ∀ k v, cs[k]? = some v → w.cell? ⟨g, k, none⟩ = some v := fun k v hv => by
  have := h.cells (g := g) rfl k v hv
  have ha : (⟨g, 0, none⟩ : Addr).add k = ⟨g, k, none⟩ := by unfold Addr.add; split <;> simp_all
  rwa [ha] at this
 exact ⟨e _ _ a1, e _ _ a2, p, cp, e _ _ a3, ⟨s, e _ _ a4⟩, z, e _ _ a5⟩
theorem prims_at (w : World) : Calls Tryz.prog 35 #[] w fun e w' => ∃ g cap, e = .returned (.slice (some ⟨g, 0, none⟩) 61 cap) ∧ 61 ≤ cap ∧ PrAt w' g ∧ w.heap.size ≤ g ∧ Below w.heap.size w w' :=
 (prims_any w).mono fun e w' ⟨g, cap, cs, he, hO, hk, hb⟩ => ⟨g, cap, he, by
  rcases hO.2 with ⟨h, _⟩ | ⟨g2, cap2, cur, h, _, _, h4, _⟩
  ·cases h
  ·cases h; exact h4, prAt_of hO hk, (hO.lt g rfl).1, hb⟩
/-- the last type of a primitive's type -/
def resT (t : List UInt8) : List UInt8 := t.drop (Lib.lastIndex t [45, 62, 32] + 3).toNat
def plainT : List ByteArray := [⟨#[105, 110, 116]⟩, ⟨#[98, 111, 111, 108]⟩, ⟨#[99, 104, 97, 114]⟩, ⟨#[117, 110, 105, 116]⟩, ⟨#[39, 97]⟩]
def allocB (n : Int) : Bool := if 0 ≤ n ∧ n < 61 then !Lib.containsS plainT ⟨(resT (prT n.toNat).1).toArray⟩ else false
theorem prim_types : ∀ i, i < 61 → 0 ≤ Lib.lastIndex (prT i).1 [45, 62, 32] ∧ Lib.lastIndex (prT i).1 [45, 62, 32] + 3 ≤ ((prT i).1.length : Int) ∧ (prT i).1.length ≤ 100 := by decide +kernel
theorem plain_cells (w : World) : ∀ j, j < plainT.length → (w.alloc (.cells #[.string ⟨#[105, 110, 116]⟩, .string ⟨#[98, 111, 111, 108]⟩, .string ⟨#[99, 104, 97, 114]⟩, .string ⟨#[117, 110, 105, 116]⟩, .string ⟨#[39, 97]⟩] 9)).cell? ⟨w.heap.size, 0 + j, none⟩ = some (.string (plainT.getD j ByteArray.empty)) := by
 intro j hj
 have hj5 : j < 5 := hj
 rw [cell_of_row _ _ _ _ _ _ (heap_alloc_new _ _)]
 rcases (by omega : j = 0 ∨ j = 1 ∨ j = 2 ∨ j = 3 ∨ j = 4) with rfl | rfl | rfl | rfl | rfl <;> rfl
set_option maxHeartbeats 2000000 in
theorem allocates_any (n : Int) (w : World) : Calls Tryz.prog 14 #[.int .i64 n] w fun e w' => e = .returned (.bool (allocB n)) ∧ Below w.heap.size w w' := by
 have CP := hid (fun W => prims_at W)
 by_cases hn : 0 ≤ n ∧ n < 61
 ·obtain ⟨i, rfl⟩ := Int.eq_ofNat_of_zero_le hn.1
  have hi : i < 61 := by omega
  obtain ⟨p1, p2, p3⟩ := prim_types i hi
  have HB := hid (show allocB (i : Int) = !Lib.containsS plainT ⟨(resT (prT i).1).toArray⟩ by unfold allocB; rw [if_pos hn]; rfl)
  obtain ⟨T, hT⟩ : ∃ T, (prT i).1 = T := ⟨_, rfl⟩
  have cl := fun W => Tryz.strings_LastIndex ⟨T.toArray⟩ ⟨#[45, 62, 32]⟩ (by rw [size_mk, ← hT]; omega) W
  rw [hT] at p1 p2 p3 HB
  unfold resT at HB
  replace cl : ∀ W, Calls Tryz.prog 37 #[.string ⟨T.toArray⟩, .string ⟨#[45, 62, 32]⟩] W fun e w' => e = .returned (.int .i64 (Lib.lastIndex T [45, 62, 32])) ∧ w' = W := cl
  obtain ⟨q, hq⟩ := Int.eq_ofNat_of_zero_le p1
  rw [hq] at cl HB p2
  have hq3 : ((q : Int) + 3).toNat = q + 3 := by omega
  rw [hq3] at HB
  have CL := hid cl
  have HT := hid hT
  clear cl hT hn p1 hq hq3
  go_enter Tryz.func14, Tryz.ntmps14
  go_wp2_with (first
   | (go_at_call 35; (with_reducible refine (CP.out _).mono ?_); rintro e w1 ⟨g, cap, rfl, hcap, hP, hgw, hb1⟩; have e1 := (hP.2 i hi).1; rw [HT.out, Nat.mul_comm] at e1; clear hP)
   | (go_at_call 37; (with_reducible refine (CL.out _).mono ?_); rintro e w2 ⟨rfl, rfl⟩)
   | (go_at_call 36; refine (Tryz.slices_Contains_string w1.heap.size 0 5 5 plainT ⟨(T.drop (q + 3)).toArray⟩ _ (by decide) (by decide) (plain_cells w1)).mono ?_; rintro e w3 ⟨rfl, rfl⟩))
  go_ret
  exact ⟨ret_bool HB.out.symm, hb1.alloc hb1.size _⟩
 ·have HB := hid (show allocB n = false by unfold allocB; rw [if_neg hn])
  by_cases h0 : n < 0
  ·have k0 : decide (n < 0) = true := decide_eq_true h0
   clear hn h0
   go_enter Tryz.func14, Tryz.ntmps14
   go_wp2_with (go_at_call 35; (with_reducible refine (CP.out _).mono ?_); rintro e w1 ⟨g, cap, rfl, hcap, hP, hgw, hb1⟩; clear hP)
   go_ret
   exact ⟨ret_bool HB.out.symm, hb1⟩
  ·have k0 : decide (n < 0) = false := decide_eq_false h0
   have k1 : decide (61 ≤ n) = true := decide_eq_true (by omega)
   clear hn h0
   go_enter Tryz.func14, Tryz.ntmps14
   go_wp2_with (go_at_call 35; (with_reducible refine (CP.out _).mono ?_); rintro e w1 ⟨g, cap, rfl, hcap, hP, hgw, hb1⟩; clear hP)
   go_ret
   exact ⟨ret_bool HB.out.symm, hb1⟩
theorem infoBool : (Tryz.prog.info? 4).map (fun i => (i.zero, i.size, i.bytes)) = some (some (.bool false), 1, 1) := by kernel_rfl
/-- the block of a program's world -/
def WBlk (W : World) (b : Nat) (v0 v1 v2 v3 pr al : Value) : Prop := W.heap[b]? = some (.cells #[v0, v1, v2, v3, pr, al] 135 (0, 0))
/-- behind the first box -/
structure WS (w W : World) : Prop where
 lt : w.heap.size < W.heap.size
 be : Below w.heap.size w W
theorem WS.keep {w W V : World} (h : WS w W) (hb : Below W.heap.size W V) : WS w V := ⟨Nat.lt_of_lt_of_le h.lt hb.size, h.be.trans (hb.mono h.be.size)⟩
theorem WS.cell {w W V : World} {k : Nat} {v : Value} (h : WS w W) (hc : W.cell? ⟨w.heap.size, k, none⟩ = some v) (hb : Below W.heap.size W V) : V.cell? ⟨w.heap.size, k, none⟩ = some v := by
 rw [hb.cell (p := ⟨w.heap.size, k, none⟩) h.lt]; exact hc
theorem WBlk.cells {W : World} {b : Nat} {v0 v1 v2 v3 pr al : Value} (h : WBlk W b v0 v1 v2 v3 pr al) :
  (W.cell? ⟨b, 0, none⟩ = some v0 ∧ W.cell? ⟨b, 1, none⟩ = some v1 ∧ W.cell? ⟨b, 2, none⟩ = some v2 ∧ W.cell? ⟨b, 3, none⟩ = some v3 ∧ W.cell? ⟨b, 4, none⟩ = some pr ∧ W.cell? ⟨b, 5, none⟩ = some al) ∧ W.frozen? ⟨b, 5, none⟩ = false := by
 refine ⟨⟨?_, ?_, ?_, ?_, ?_, ?_⟩, frozen_of_row _ _ _ _ _ h⟩
 all_goals rw [cell_of_row _ _ _ _ _ _ h]; rfl
theorem WBlk.set5 {W : World} {b : Nat} {v0 v1 v2 v3 pr al : Value} (h : WBlk W b v0 v1 v2 v3 pr al) (x : Value) : WBlk (W.setCell ⟨b, 5, none⟩ x) b v0 v1 v2 v3 pr x := heap_setCell_same (i := 5) _ _ _ _ x h
theorem WBlk.lt {W : World} {b : Nat} {v0 v1 v2 v3 pr al : Value} (h : WBlk W b v0 v1 v2 v3 pr al) : b < W.heap.size := by
 rcases Nat.lt_or_ge b W.heap.size with g | g
 ·exact g
 ·unfold WBlk at h; rw [Array.getElem?_eq_none g] at h; cases h
theorem WBlk.below {W V : World} {b : Nat} {v0 v1 v2 v3 pr al : Value} (h : WBlk W b v0 v1 v2 v3 pr al) (hb : Below W.heap.size W V) : WBlk V b v0 v1 v2 v3 pr al := by
 unfold WBlk; rw [hb.block b h.lt]; exact h
theorem PrAt.belowB {w w' : World} {g b : Nat} (h : PrAt w g) (hg : g < b) (hb : Below b w w') : PrAt w' g := by
 refine ⟨Nat.lt_of_lt_of_le h.1 hb.size, fun i hi => ?_⟩
 have e : ∀ k, w'.cell? ⟨g, k, none⟩ = w.cell? ⟨g, k, none⟩ := fun k => hb.cell (p := ⟨g, k, none⟩) hg
 simp only [e]; exact h.2 i hi
theorem row_below {w w' : World} {base n : Nat} {e : TypeId} {size : Nat} {v : Value} {xs : List Value} (h : w.ownsRow base e size v n xs) (hb : Below w.heap.size w w') : w'.ownsRow base e size v n xs :=
 World.ownsRow.kept (row := none) h ⟨hb.os, hb.tape, hb.output, hb.size, fun k hk _ => hb.block k hk⟩ (by cases v.ownBlock <;> simp)
theorem wblk_grown {W V : World} {b k : Nat} {v0 v1 v2 v3 pr al : Value} {cs : List Value} {o : Obj} (h : WBlk W b v0 v1 v2 v3 pr al) (hown : W.ownsRow (b + 1) 4 1 al k cs) (hG : (W.alloc o).grownBy V al.ownBlock) : WBlk V b v0 v1 v2 v3 pr al := by
 unfold WBlk
 have hlt := h.lt
 rw [hG.block b (by simp; omega) (fun e => by have := (hown.lt b e.symm).1; omega)]
 exact h.below ((Below.refl _ _).alloc (Nat.le_refl _) _)
theorem step_bool {W : World} {b k : Nat} {v0 v1 v2 v3 pr al : Value} {cs : List Value} {bv : Bool} {T : TypeId} {ops : Array Oper} {o : Oper} {a : Act} {K : Act → World → Prop} {Q : Exit → Act → World → Prop} {E : Prop}
  (hW : WBlk W b v0 v1 v2 v3 pr al) (hown : W.ownsRow (b + 1) 4 1 al k cs) (hk : k < 61) (hgd : o.guard = none) (s x : Operand) (ho : o.op = .call { callee := .builtin .append, args := #[s, x], argTypes := #[133, 133] })
  (hs : a.eval s = al) (hx : a.eval x = .slice (some ⟨W.heap.size, 0, none⟩) 1 1)
  (h : ∀ g cap V, WBlk V b v0 v1 v2 v3 pr al → V.cell? ⟨b, 5, none⟩ = some al → V.frozen? ⟨b, 5, none⟩ = false → V.ownsRow (b + 1) 4 1 (.slice (some ⟨g, 0, none⟩) (k + 1) cap) (k + 1) (cs ++ [.bool bv]) → Below b W V → K (a.put o.dst (.slice (some ⟨g, 0, none⟩) (k + 1) cap)) V) :
  if Region.wanted o (yielded ops a.tmps) = true then Oper.wp Tryz.prog o a (W.alloc (.cells #[.bool bv] T)) K Q else E := by
 obtain ⟨i0, hi, hz0, hz1, hz2⟩ := info_parts infoBool
 have hlt := hW.lt
 have hb0 : Below W.heap.size W (W.alloc (.cells #[.bool bv] T)) := (Below.refl _ _).alloc (Nat.le_refl _) _
 have hown1 := row_below hown hb0
 refine step_append_lies _ hgd s x 133 ho (b + 1) 4 i0 (.bool false) 1 1 Tryz.underlying133 hi hz0 hz1 hz2 rfl (by decide) al k cs hs hown1 ⟨W.heap.size, 0, none⟩ 1 1 [.bool bv] hx rfl (World.news_of_block (heap_alloc_new _ _)) (by intro u hu; simp at hu; subst hu; rfl) (by decide) (by unfold maxLen; omega) (by omega) (by simp; omega) _ rfl ?_
 intro g cap V k1 k2 _ _
 have hV := wblk_grown hW hown k2
 refine h g cap V hV hV.cells.1.2.2.2.2.2 hV.cells.2 k1 ?_
 exact (hb0.mono (by omega)).trans ((Below.refl b _).grown k2 (by simp; omega) (fun j hj => by have := (hown1.lt j hj).1; omega))
end Go.Proofs.YtokjkligechcoaaGreatDoor
