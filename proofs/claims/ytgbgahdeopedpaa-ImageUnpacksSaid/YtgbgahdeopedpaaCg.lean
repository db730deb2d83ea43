/- Walks of layer 16's reference: Live at an instruction as said. -/
import Derived.Test.YtgbgahdeopedpaaCe
namespace Go.Proofs.Ytgbgahdeopedpaa
open Go.RowKit
set_option linter.unusedVariables false
attribute [local go_sem] ext_mk size_mk toList_mk get_mk take_drop_len take_tail_len ByteArray.mk_append_mk List.append_toArray

/-- an instruction -/
structure In where
  op : Int
  a : Int
  b : Int
  c : Int
  l : List Int
  lv : List Int

/-- the boxes of a function and of an instruction, the two lists behind it -/
structure FxAt (w W : World) (F X : Nat) (ps rs : Int) (ca : Option Addr) (cn cc : Nat) (x : In) (la : Option Addr) (lc : Nat) (va : Option Addr) (vc : Nat) : Prop where
  b : Below w.heap.size w W
  f : KAt W F (.cells #[.int .i64 ps, .int .i64 rs, .slice ca cn cc] 61 (0, 0))
  xk : KAt W X (.cells #[.int .i64 x.op, .int .i64 x.a, .int .i64 x.b, .int .i64 x.c, .slice la x.l.length lc, .slice va x.lv.length vc] 58 (0, 0))
  li : IntsAt .i64 W la x.l
  vi : IntsAt .i64 W va x.lv

theorem FxAt.below {w W V : World} {F X : Nat} {ps rs : Int} {ca : Option Addr} {cn cc : Nat} {x : In} {la : Option Addr} {lc : Nat} {va : Option Addr} {vc : Nat} (h : FxAt w W F X ps rs ca cn cc x la lc va vc) (hb : Below W.heap.size W V) : FxAt w V F X ps rs ca cn cc x la lc va vc :=
  ⟨h.b.trans (hb.mono h.b.size), h.f.below hb, h.xk.below hb, h.li.below hb, h.vi.below hb⟩

theorem FxAt.cells {w W : World} {F X : Nat} {ps rs : Int} {ca : Option Addr} {cn cc : Nat} {x : In} {la : Option Addr} {lc : Nat} {va : Option Addr} {vc : Nat} (h : FxAt w W F X ps rs ca cn cc x la lc va vc) :
    W.cell? ⟨F, 0, none⟩ = some (.int .i64 ps) ∧ W.cell? ⟨F, 1, none⟩ = some (.int .i64 rs) ∧ W.cell? ⟨F, 2, none⟩ = some (.slice ca cn cc) ∧
    W.cell? ⟨X, 0, none⟩ = some (.int .i64 x.op) ∧ W.cell? ⟨X, 1, none⟩ = some (.int .i64 x.a) ∧ W.cell? ⟨X, 2, none⟩ = some (.int .i64 x.b) ∧ W.cell? ⟨X, 3, none⟩ = some (.int .i64 x.c) ∧
    W.cell? ⟨X, 4, none⟩ = some (.slice la x.l.length lc) ∧ W.cell? ⟨X, 5, none⟩ = some (.slice va x.lv.length vc) := by
  refine ⟨?_, ?_, ?_, ?_, ?_, ?_, ?_, ?_, ?_⟩
  all_goals first
    | (rw [cell_of_row _ _ _ _ _ _ h.f.x]; rfl)
    | (rw [cell_of_row _ _ _ _ _ _ h.xk.x]; rfl)

theorem fx_start (w : World) (ps rs : Int) (ca : Option Addr) (cn cc : Nat) (x : In) (la : Option Addr) (lc : Nat) (va : Option Addr) (vc : Nat) (hl : IntsAt .i64 w la x.l) (hv : IntsAt .i64 w va x.lv) :
    FxAt w ((w.alloc (.cells #[.int .i64 ps, .int .i64 rs, .slice ca cn cc] 61)).alloc (.cells #[.int .i64 x.op, .int .i64 x.a, .int .i64 x.b, .int .i64 x.c, .slice la x.l.length lc, .slice va x.lv.length vc] 58)) w.heap.size (w.heap.size + 1) ps rs ca cn cc x la lc va vc := by
  have hb : Below w.heap.size w ((w.alloc (.cells #[.int .i64 ps, .int .i64 rs, .slice ca cn cc] 61)).alloc (.cells #[.int .i64 x.op, .int .i64 x.a, .int .i64 x.b, .int .i64 x.c, .slice la x.l.length lc, .slice va x.lv.length vc] 58)) := ((Below.refl _ _).alloc (Nat.le_refl _) _).alloc (by simp) _
  have k := KAt.new (w.alloc (.cells #[.int .i64 ps, .int .i64 rs, .slice ca cn cc] 61)) (.cells #[.int .i64 x.op, .int .i64 x.a, .int .i64 x.b, .int .i64 x.c, .slice la x.l.length lc, .slice va x.lv.length vc] 58 (0, 0))
  rw [show (w.alloc (.cells #[.int .i64 ps, .int .i64 rs, .slice ca cn cc] 61)).heap.size = w.heap.size + 1 from by simp] at k
  exact ⟨hb, (KAt.new w _).alloc _, k, hl.below hb, hv.below hb⟩

set_option maxHeartbeats 2000000 in
theorem rlive_any (ps rs : Int) (ca : Option Addr) (cn cc : Nat) (x : In) (la : Option Addr) (lc : Nat) (va : Option Addr) (vc : Nat) (w : World) (hl : IntsAt .i64 w la x.l) (hv : IntsAt .i64 w va x.lv) :
    Calls Try.prog 76 #[.agg #[.int .i64 ps, .int .i64 rs, .slice ca cn cc], .agg #[.int .i64 x.op, .int .i64 x.a, .int .i64 x.b, .int .i64 x.c, .slice la x.l.length lc, .slice va x.lv.length vc]] w fun e w' => e = .returned (.bool (liveB x.op x.b x.lv rs)) ∧ Below w.heap.size w w' := by
  have S := Lib.hid (fx_start w ps rs ca cn cc x la lc va vc hl hv)
  have CK := Lib.hid (fun op a b c la va ln lc vn vc W => rkeeps_any op a b c la va ln lc vn vc W)
  have CR := Lib.hid (fun a l cap ps n ca cn cc W h => rregs_any a l cap ps n ca cn cc W h)
  have CS := Lib.hid (fun a l cap W h => rising_any a l cap W h)
  obtain ⟨op, a, b, c, l, lv⟩ := x
  clear hl hv
  have hU : liveB op b lv rs = if keepsI op b then regsB lv rs && risingB lv else (lv.length : Int) == 0 := rfl
  have HU := Lib.hid hU
  clear hU
  cases hk : keepsI op b
  · go_enter Try.func76, Try.ntmps76
    go_wp2_with (first
      | (go_at_call 91; refine (CK.out _ _ _ _ _ _ _ _ _ _ _).mono ?_; rw [hk]; rintro e w1 ⟨rfl, hb⟩; have S1 := Lib.hid (S.out.below hb); clear hb; obtain ⟨f0, f1, f2, x0, x1, x2, x3, x4, x5⟩ := S1.out.cells; dsimp only at x0 x1 x2 x3 x4 x5))
    go_ret
    exact ⟨ret_bool (by rw [HU.out, hk]; simp), S1.out.b⟩
  · cases hr : regsB lv rs
    · go_enter Try.func76, Try.ntmps76
      go_wp2_with (first
        | (go_at_call 91; refine (CK.out _ _ _ _ _ _ _ _ _ _ _).mono ?_; rw [hk]; rintro e w1 ⟨rfl, hb⟩; have S1 := Lib.hid (S.out.below hb); clear hb; obtain ⟨f0, f1, f2, x0, x1, x2, x3, x4, x5⟩ := S1.out.cells; dsimp only at x0 x1 x2 x3 x4 x5)
        | (go_at_call 89; refine (CR.out _ lv _ _ _ _ _ _ _ S1.out.vi).mono ?_; rw [hr]; rintro e w2 ⟨rfl, hb⟩; have S2 := Lib.hid (S1.out.below hb); clear hb f0 f1 f2 x0 x1 x2 x3 x4 x5; obtain ⟨f0, f1, f2, x0, x1, x2, x3, x4, x5⟩ := S2.out.cells; dsimp only at x0 x1 x2 x3 x4 x5))
      go_ret
      exact ⟨ret_bool (by rw [HU.out, hk, hr]; simp), S2.out.b⟩
    · go_enter Try.func76, Try.ntmps76
      go_wp2_with (first
        | (go_at_call 91; refine (CK.out _ _ _ _ _ _ _ _ _ _ _).mono ?_; rw [hk]; rintro e w1 ⟨rfl, hb⟩; have S1 := Lib.hid (S.out.below hb); clear hb; obtain ⟨f0, f1, f2, x0, x1, x2, x3, x4, x5⟩ := S1.out.cells; dsimp only at x0 x1 x2 x3 x4 x5)
        | (go_at_call 89; refine (CR.out _ lv _ _ _ _ _ _ _ S1.out.vi).mono ?_; rw [hr]; rintro e w2 ⟨rfl, hb⟩; have S2 := Lib.hid (S1.out.below hb); clear hb f0 f1 f2 x0 x1 x2 x3 x4 x5; obtain ⟨f0, f1, f2, x0, x1, x2, x3, x4, x5⟩ := S2.out.cells; dsimp only at x0 x1 x2 x3 x4 x5)
        | (go_at_call 92; refine (CS.out _ lv _ _ S2.out.vi).mono ?_; rintro e w3 ⟨rfl, hb⟩; have S3 := Lib.hid (S2.out.below hb); clear hb f0 f1 f2 x0 x1 x2 x3 x4 x5))
      go_ret
      exact ⟨ret_bool (by rw [HU.out, hk, hr]; simp), S3.out.b⟩
end Go.Proofs.Ytgbgahdeopedpaa
