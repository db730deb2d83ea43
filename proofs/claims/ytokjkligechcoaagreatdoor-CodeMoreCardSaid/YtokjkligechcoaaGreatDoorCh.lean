/- Walks of layer 16's reference: which primitives may allocate, Live at an instruction. -/
import Derived.Test.YtokjkligechcoaaGreatDoorCd
set_option linter.unusedVariables false
namespace Go.Proofs.YtokjkligechcoaaGreatDoor
open Go.RowKit
attribute [local go_sem] ext_mk size_mk toList_mk get_mk take_drop_len take_tail_len ByteArray.mk_append_mk List.append_toArray
def okR (l : List Int) (i : Nat) : Bool := i == 0 || decide (l.getD (i - 1) 0 < l.getD i 0)
def risingB (l : List Int) : Bool := (List.range l.length).all (okR l)
/-- is Live as said? -/
def liveB (op b : Int) (lv : List Int) (rs : Int) : Bool := if keepsI op b then regsB lv rs && risingB lv else (lv.length : Int) == 0
/-- an instruction -/
structure In where
 op : Int
 a : Int
 b : Int
 c : Int
 l : List Int
 lv : List Int
/-- the boxes of a function and of an instruction, the two lists behind it -/
structure FxAt (w W : World) (F X : Nat) (ps rs : Int) (ca : Option Addr) (cn cc : Nat) (x : In) (la : Option Addr) (lc : Nat) (va : Option Addr) (vc : Nat) : Prop where
 b : Below w.heap.size w W
 f : KAt W F (.cells #[.int .i64 ps, .int .i64 rs, .slice ca cn cc] 48 (0, 0))
 xk : KAt W X (.cells #[.int .i64 x.op, .int .i64 x.a, .int .i64 x.b, .int .i64 x.c, .slice la x.l.length lc, .slice va x.lv.length vc] 58 (0, 0))
 li : IntsAt .i64 W la x.l
 vi : IntsAt .i64 W va x.lv
theorem FxAt.below {w W V : World} {F X : Nat} {ps rs : Int} {ca : Option Addr} {cn cc : Nat} {x : In} {la : Option Addr} {lc : Nat} {va : Option Addr} {vc : Nat} (h : FxAt w W F X ps rs ca cn cc x la lc va vc) (hb : Below W.heap.size W V) : FxAt w V F X ps rs ca cn cc x la lc va vc :=
 ⟨h.b.trans (hb.mono h.b.size), h.f.below hb, h.xk.below hb, h.li.below hb, h.vi.below hb⟩
theorem FxAt.cells {w W : World} {F X : Nat} {ps rs : Int} {ca : Option Addr} {cn cc : Nat} {x : In} {la : Option Addr} {lc : Nat} {va : Option Addr} {vc : Nat} (h : FxAt w W F X ps rs ca cn cc x la lc va vc) :
  W.cell? ⟨F, 0, none⟩ = some (.int .i64 ps) ∧ W.cell? ⟨F, 1, none⟩ = some (.int .i64 rs) ∧ W.cell? ⟨F, 2, none⟩ = some (.slice ca cn cc) ∧
  W.cell? ⟨X, 0, none⟩ = some (.int .i64 x.op) ∧ W.cell? ⟨X, 1, none⟩ = some (.int .i64 x.a) ∧ W.cell? ⟨X, 2, none⟩ = some (.int .i64 x.b) ∧ W.cell? ⟨X, 3, none⟩ = some (.int .i64 x.c) ∧
  W.cell? ⟨X, 4, none⟩ = some (.slice la x.l.length lc) ∧ W.cell? ⟨X, 5, none⟩ = some (.slice va x.lv.length vc) := by
 refine ⟨?_, ?_, ?_, ?_, ?_, ?_, ?_, ?_, ?_⟩
 all_goals first
  | (rw [cell_of_row _ _ _ _ _ _ h.f.x]; rfl)
  | (rw [cell_of_row _ _ _ _ _ _ h.xk.x]; rfl)
theorem fx_start (w : World) (ps rs : Int) (ca : Option Addr) (cn cc : Nat) (x : In) (la : Option Addr) (lc : Nat) (va : Option Addr) (vc : Nat) (hl : IntsAt .i64 w la x.l) (hv : IntsAt .i64 w va x.lv) :
  FxAt w ((w.alloc (.cells #[.int .i64 ps, .int .i64 rs, .slice ca cn cc] 48)).alloc (.cells #[.int .i64 x.op, .int .i64 x.a, .int .i64 x.b, .int .i64 x.c, .slice la x.l.length lc, .slice va x.lv.length vc] 58)) w.heap.size (w.heap.size + 1) ps rs ca cn cc x la lc va vc := by
 have hb : Below w.heap.size w ((w.alloc (.cells #[.int .i64 ps, .int .i64 rs, .slice ca cn cc] 48)).alloc (.cells #[.int .i64 x.op, .int .i64 x.a, .int .i64 x.b, .int .i64 x.c, .slice la x.l.length lc, .slice va x.lv.length vc] 58)) := ((Below.refl _ _).alloc (Nat.le_refl _) _).alloc (by simp) _
 have k := KAt.new (w.alloc (.cells #[.int .i64 ps, .int .i64 rs, .slice ca cn cc] 48)) (.cells #[.int .i64 x.op, .int .i64 x.a, .int .i64 x.b, .int .i64 x.c, .slice la x.l.length lc, .slice va x.lv.length vc] 58 (0, 0))
 rw [show (w.alloc (.cells #[.int .i64 ps, .int .i64 rs, .slice ca cn cc] 48)).heap.size = w.heap.size + 1 from by simp] at k
 exact ⟨hb, (KAt.new w _).alloc _, k, hl.below hb, hv.below hb⟩
open Fx
/-- is an instruction as the table says? ns, nr: how many strings and reals; fp: the functions' numbers of parameters; cn: the code's length; rs: the registers -/
def formB (ns nr : Nat) (fp : List Int) (cn : Nat) (rs : Int) (op a b c : Int) (l : List Int) : Bool :=
 if op == 1 then insB a rs && rtB b && (c == 0) && ((l.length : Int) == 0)
 else if op == 2 then insB a rs && insB b ns && (c == 0) && ((l.length : Int) == 0)
 else if op == 3 then insB a rs && insB b nr && (c == 0) && ((l.length : Int) == 0)
 else if op == 4 then insB a rs && insB b rs && (c == 0) && ((l.length : Int) == 0)
 else if op == 5 then insB a rs && ((b == 1) || (b == 2) || (b == 4) || (b == 3)) && insB c 16777216 && ((c == 0) || (b == 3)) && regsB l rs
 else if op == 6 || op == 7 then insB a rs && insB b rs && insB c 4194305 && ((l.length : Int) == 0)
 else if op == 8 then insB a rs && insB b 61 && ((l.length : Int) == (prT b.toNat).2.1) && (if (prT b.toNat).2.2 = 0 then c == -1 else insB c cn) && regsB l rs
 else if op == 9 then (a == 0) && (b == 0) && insB c cn && ((l.length : Int) == 0)
 else if op == 10 then (a == 0) && insB b rs && insB c cn && casesB l cn
 else if op == 11 then insB a rs && (b == 0) && (c == 0) && regsB l rs
 else if op == 12 then (a == 0) && (c == 0) && insB b fp.length && regsB l rs && ((l.length : Int) == fp.getD b.toNat 0)
 else if op == 13 then insB a rs && ((b == 0) || (b == 1)) && (c == 0) && ((l.length : Int) == 0)
 else false
/-- the functions' numbers of parameters lie -/
def PsAt (w : World) (a : Option Addr) (fp : List Int) : Prop :=
 fp.length ≤ 65536 ∧ (fp = [] ∨ ∃ b off, a = some ⟨b, off, none⟩ ∧ ∀ i, i < fp.length → w.cell? ⟨b, off + 3 * i, none⟩ = some (.int .i64 (fp.getD i 0)))
theorem PsAt.below {w w' : World} {a : Option Addr} {fp : List Int} (h : PsAt w a fp) (hb : Below w.heap.size w w') : PsAt w' a fp := by
 obtain ⟨hm, h | ⟨b, off, ha, hc⟩⟩ := h
 ·exact ⟨hm, .inl h⟩
 ·exact ⟨hm, .inr ⟨b, off, ha, fun i hi => (hb.cell (p := ⟨b, off + 3 * i, none⟩) (World.block_lt_of_cell? w _ (hc i hi))).trans (hc i hi)⟩⟩
theorem ps_cell {w : World} {a : Option Addr} {fp : List Int} (h : PsAt w a fp) {i : Nat} (hi : i < fp.length) : ∃ b off, a = some ⟨b, off, none⟩ ∧ w.cell? ⟨b, off + 3 * i, none⟩ = some (.int .i64 (fp.getD i 0)) := by
 rcases h.2 with h | ⟨b, off, ha, hc⟩
 ·rw [h] at hi; simp at hi
 ·exact ⟨b, off, ha, hc i hi⟩
/-- the boxes of the program, of a function, of an instruction -/
structure FmAt (w W : World) (P F X : Nat) (fa sa ra : Option Addr) (sn rn fc sc rc : Nat) (en : Int) (fp : List Int) (ps rs : Int) (ca : Option Addr) (cn cc : Nat) (x : In) (la : Option Addr) (lc : Nat) (va : Option Addr) (vc : Nat) : Prop where
 p : KAt W P (.cells #[.slice fa fp.length fc, .slice sa sn sc, .slice ra rn rc, .int .i64 en] 26 (0, 0))
 fx : FxAt w W F X ps rs ca cn cc x la lc va vc
 fs : PsAt W fa fp
theorem FmAt.below {w W V : World} {P F X : Nat} {fa sa ra : Option Addr} {sn rn fc sc rc : Nat} {en : Int} {fp : List Int} {ps rs : Int} {ca : Option Addr} {cn cc : Nat} {x : In} {la : Option Addr} {lc : Nat} {va : Option Addr} {vc : Nat} (h : FmAt w W P F X fa sa ra sn rn fc sc rc en fp ps rs ca cn cc x la lc va vc) (hb : Below W.heap.size W V) : FmAt w V P F X fa sa ra sn rn fc sc rc en fp ps rs ca cn cc x la lc va vc :=
 ⟨h.p.below hb, h.fx.below hb, h.fs.below hb⟩
theorem FmAt.pcells {w W : World} {P F X : Nat} {fa sa ra : Option Addr} {sn rn fc sc rc : Nat} {en : Int} {fp : List Int} {ps rs : Int} {ca : Option Addr} {cn cc : Nat} {x : In} {la : Option Addr} {lc : Nat} {va : Option Addr} {vc : Nat} (h : FmAt w W P F X fa sa ra sn rn fc sc rc en fp ps rs ca cn cc x la lc va vc) :
  W.cell? ⟨P, 0, none⟩ = some (.slice fa fp.length fc) ∧ W.cell? ⟨P, 1, none⟩ = some (.slice sa sn sc) ∧ W.cell? ⟨P, 2, none⟩ = some (.slice ra rn rc) := by
 refine ⟨?_, ?_, ?_⟩
 all_goals (rw [cell_of_row _ _ _ _ _ _ h.p.x]; rfl)
end Go.Proofs.YtokjkligechcoaaGreatDoor
