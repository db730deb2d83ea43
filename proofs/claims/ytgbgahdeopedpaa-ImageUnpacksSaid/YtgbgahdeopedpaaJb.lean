/- Walks of layer 16's reference: an instruction, read at any bytes. -/
import Derived.Test.YtgbgahdeopedpaaJa
namespace Go.Proofs.Ytgbgahdeopedpaa
open Go.RowKit
set_option linter.unusedVariables false
attribute [local go_sem] ext_mk size_mk toList_mk get_mk take_drop_len take_tail_len ByteArray.mk_append_mk List.append_toArray

def rnatI (l : List UInt8) (i : Nat) (bad : Bool) : Int × Nat × Bool := (((natL l i bad).1 : Nat), (natL l i bad).2)

/-- an instruction, read by the reference -/
def insnR (l : List UInt8) (i : Nat) (bad : Bool) : In × Nat × Bool :=
  let s := rnatI l i bad
  let ra := rsigL l s.2.1 s.2.2
  let rb := rsigL l ra.2.1 ra.2.2
  let rc := rsigL l rb.2.1 rb.2.2
  let rn := rcntL l rc.2.1 rc.2.2
  let L := listL (rsigL l) rn.1 rn.2.1 rn.2.2
  let rm := rcntL l L.2.1 L.2.2
  let V := listL (rnatI l) rm.1 rm.2.1 rm.2.2
  (⟨s.1, ra.1, rb.1, rc.1, L.1, V.1⟩, V.2)

theorem rnatI_le (l : List UInt8) (i : Nat) (b : Bool) (h : i ≤ l.length) : (rnatI l i b).2.1 ≤ l.length := natL_le l i b h

theorem insnR_le (l : List UInt8) (i : Nat) (b : Bool) (h : i ≤ l.length) : (insnR l i b).2.1 ≤ l.length := by
  unfold insnR
  dsimp only
  refine listL_le (fun i b hi => rnatI_le l i b hi) _ _ _ ?_
  refine rcntL_le l _ _ ?_
  refine listL_le (fun i b hi => rsigL_le l i b hi) _ _ _ ?_
  refine rcntL_le l _ _ ?_
  exact rsigL_le l _ _ (rsigL_le l _ _ (rsigL_le l _ _ (rnatI_le l _ _ h)))

/-- within the reading of an instruction: the reader, the result's box, the instruction's box -/
structure RMt (w W : World) (p : Nat) (sl : Value) (i : Nat) (bad : Bool) (m : Nat) (o : Obj) : Prop where
  b : BxAt w W p (rbBlk sl i bad)
  r : KAt W w.heap.size (xBlk 0)
  e : KAt W m o
  h : w.heap.size ≤ m
  hp : p < w.heap.size

theorem RMt.call {w W V : World} {p : Nat} {sl : Value} {i j m : Nat} {bad bad' : Bool} {o : Obj} (h : RMt w W p sl i bad m o) (k : BxAt W V p (rbBlk sl j bad')) : RMt w V p sl j bad' m o := by
  have h1 := h.h
  have h2 := h.hp
  exact ⟨h.b.trans k, k.blk h.r (by omega), k.blk h.e (by omega), h1, h2⟩

theorem RMt.below {w W V : World} {p : Nat} {sl : Value} {i m : Nat} {bad : Bool} {o : Obj} (h : RMt w W p sl i bad m o) (hb : Below W.heap.size W V) : RMt w V p sl i bad m o :=
  ⟨h.b.below hb, h.r.below hb, h.e.below hb, h.h, h.hp⟩

theorem RMt.box {w W : World} {p : Nat} {sl : Value} {i m : Nat} {bad : Bool} {o : Obj} (h : RMt w W p sl i bad m o) (q : Obj) : RMt w (W.alloc q) p sl i bad W.heap.size q := by
  have hb : Below W.heap.size W (W.alloc q) := (Below.refl _ _).alloc (Nat.le_refl _) q
  exact ⟨h.b.below hb, h.r.below hb, KAt.new _ _, h.b.be.size, h.hp⟩

theorem RMt.low {w W V : World} {p : Nat} {sl : Value} {i m B : Nat} {bad : Bool} {o : Obj} (h : RMt w W p sl i bad m o) (hb : Below B W V) (hm : m < B) : RMt w V p sl i bad m o := by
  have h1 := h.h
  have h2 := h.hp
  exact ⟨h.b.lowG hb (by omega) (by omega), ⟨by rw [hb.block _ (by omega)]; exact h.r.x⟩, ⟨by rw [hb.block _ hm]; exact h.e.x⟩, h1, h2⟩

/-- and its own row of numbers -/
structure RLt (w W : World) (p : Nat) (sl : Value) (i : Nat) (bad : Bool) (m : Nat) (o : Obj) (base : Nat) (v : Value) (L : List Int) : Prop where
  d : RMt w W p sl i bad m o
  o : W.ownsRow base 3 1 v L.length (ints L)
  h : m < base
  hb : base ≤ W.heap.size
  hr : w.heap.size < m

theorem RLt.call {w W V : World} {p : Nat} {sl : Value} {i j m base : Nat} {bad bad' : Bool} {o : Obj} {v : Value} {L : List Int} (h : RLt w W p sl i bad m o base v L) (k : BxAt W V p (rbBlk sl j bad')) : RLt w V p sl j bad' m o base v L := by
  have h1 := h.h
  have h2 := h.d.h
  have h3 := h.d.hp
  exact ⟨h.d.call k, row_bxG h.o (by omega) k, h.h, Nat.le_trans h.hb k.be.size, h.hr⟩

theorem RLt.below {w W V : World} {p : Nat} {sl : Value} {i m base : Nat} {bad : Bool} {o : Obj} {v : Value} {L : List Int} (h : RLt w W p sl i bad m o base v L) (hb : Below W.heap.size W V) : RLt w V p sl i bad m o base v L :=
  ⟨h.d.below hb, row_below h.o hb, h.h, Nat.le_trans h.hb hb.size, h.hr⟩

theorem RLt.start {w W : World} {p : Nat} {sl : Value} {i m : Nat} {bad : Bool} {o : Obj} (h : RMt w W p sl i bad m o) (hr : w.heap.size < m) : RLt w W p sl i bad m o W.heap.size (.slice none 0 0) [] :=
  ⟨h, World.ownsRow_nil _ _ _ _, heap_lt h.e.x, Nat.le_refl _, hr⟩

theorem RLt.put4 {w W : World} {p : Nat} {sl : Value} {i m base : Nat} {bad : Bool} {op a b c : Int} {v v4 v5 : Value} {L : List Int} (h : RLt w W p sl i bad m (xvBlk op a b c v4 v5) base v L) (u : Value) : RLt w (W.setCell ⟨m, 4, none⟩ u) p sl i bad m (xvBlk op a b c u v5) base v L := by
  have h1 := h.hr
  have h2 := h.d.hp
  exact ⟨⟨h.d.b.put h2 ⟨m, 4, none⟩ h.d.h (by show m ≠ p; omega) u, h.d.r.put ⟨m, 4, none⟩ (by show w.heap.size ≠ m; omega) u, ⟨heap_setCell_same (i := 4) _ _ _ _ u h.d.e.x⟩, h.d.h, h2⟩, ownsRow_setCell_below h.o (a := ⟨m, 4, none⟩) h.h u, h.h, by simpa [World.setCell] using h.hb, h1⟩

theorem RLt.put5 {w W : World} {p : Nat} {sl : Value} {i m base : Nat} {bad : Bool} {op a b c : Int} {v v4 v5 : Value} {L : List Int} (h : RLt w W p sl i bad m (xvBlk op a b c v4 v5) base v L) (u : Value) : RLt w (W.setCell ⟨m, 5, none⟩ u) p sl i bad m (xvBlk op a b c v4 u) base v L := by
  have h1 := h.hr
  have h2 := h.d.hp
  exact ⟨⟨h.d.b.put h2 ⟨m, 5, none⟩ h.d.h (by show m ≠ p; omega) u, h.d.r.put ⟨m, 5, none⟩ (by show w.heap.size ≠ m; omega) u, ⟨heap_setCell_same (i := 5) _ _ _ _ u h.d.e.x⟩, h.d.h, h2⟩, ownsRow_setCell_below h.o (a := ⟨m, 5, none⟩) h.h u, h.h, by simpa [World.setCell] using h.hb, h1⟩

/-- a number put behind the row -/
theorem step_numR {w W : World} {p : Nat} {sl : Value} {i m base : Nat} {bad : Bool} {o' : Obj} {v : Value} {L : List Int} {z : Int} {T : TypeId} {ops : Array Oper} {o : Oper} {a : Act} {K : Act → World → Prop} {Q : Exit → Act → World → Prop} {E : Prop}
    (hC : RLt w W p sl i bad m o' base v L) (hk : L.length ≤ 1000000000) (hgd : o.guard = none) (s x : Operand) (ho : o.op = .call { callee := .builtin .append, args := #[s, x], argTypes := #[56, 56] })
    (hs : a.eval s = v) (hx : a.eval x = .slice (some ⟨W.heap.size, 0, none⟩) 1 1)
    (h : ∀ g k cap V, RLt w V p sl i bad m o' base (.slice (some ⟨g, 0, none⟩) k cap) (L ++ [z]) → Below base W V → K (a.put o.dst (.slice (some ⟨g, 0, none⟩) k cap)) V) :
    if Region.wanted o (yielded ops a.tmps) = true then Oper.wp Try.prog o a (W.alloc (.cells #[.int .i64 z] T)) K Q else E := by
  obtain ⟨i0, hi, hz0, hz1, hz2⟩ := info_parts infoInt
  have hm := hC.h
  have hb0 : Below W.heap.size W (W.alloc (.cells #[.int .i64 z] T)) := (Below.refl _ _).alloc (Nat.le_refl _) _
  have hown1 := row_below hC.o hb0
  refine step_append_lies _ hgd s x 56 ho base 3 i0 (.int .i64 0) 1 8 Try.underlying56 hi hz0 hz1 hz2 rfl (by decide) v L.length (ints L) hs hown1 ⟨W.heap.size, 0, none⟩ 1 1 [.int .i64 z] hx rfl (World.news_of_block (heap_alloc_new _ _)) (by intro u hu; simp at hu; subst hu; rfl) (by decide) (by unfold maxLen; omega) (by omega) (Nat.le_trans hC.hb hb0.size) _ rfl ?_
  intro g cap V k1 k2 _ _
  have hbe : Below base W V := (hb0.mono hC.hb).trans ((Below.refl base _).grown k2 (Nat.le_trans hC.hb hb0.size) (fun j hj => (hown1.lt j hj).1))
  exact h _ _ _ V ⟨hC.d.low hbe hm, by simpa [ints] using k1, hm, Nat.le_trans hC.hb hbe.size, hC.hr⟩ hbe
section
variable (p : Nat) (a : Option Addr) (l : List UInt8) (cap i0 : Nat) (bad : Bool) (w0 w : World) (hk : KAt w p (rbBlk (.slice a l.length cap) i0 bad)) (hB : BysAt w0 a l) (h0 : w0.heap.size ≤ p) (hb0 : Below w0.heap.size w0 w) (hi : i0 ≤ l.length) (hl : l.length ≤ 16777216)
include hk hB h0 hb0 hi hl

set_option maxHeartbeats 4000000 in
set_option maxRecDepth 8000 in
theorem rinsn_rd :
    Calls Try.prog 47 #[.pointer (some ⟨p, 0, none⟩)] w fun x w' => ∃ la lc va vc, x = .returned (.agg #[.int .i64 (insnR l i0 bad).1.op, .int .i64 (insnR l i0 bad).1.a, .int .i64 (insnR l i0 bad).1.b, .int .i64 (insnR l i0 bad).1.c, .slice la (insnR l i0 bad).1.l.length lc, .slice va (insnR l i0 bad).1.lv.length vc]) ∧ BxAt w w' p (rbBlk (.slice a l.length cap) (insnR l i0 bad).2.1 (insnR l i0 bad).2.2) ∧ IntR w' w.heap.size w'.heap.size la (insnR l i0 bad).1.l ∧ IntR w' w.heap.size w'.heap.size va (insnR l i0 bad).1.lv := by
  have hp := heap_lt hk.x
  have CS := Lib.hid (fun i b W (h1 : BxAt w W p (rbBlk (.slice a l.length cap) i b)) h2 => rnat_rd p a l cap i b w0 W h1.k hB h0 (hb0.trans (h1.be.mono h0)) h2)
  have CG := Lib.hid (fun i b W (h1 : BxAt w W p (rbBlk (.slice a l.length cap) i b)) h2 => rsigned_rd p a l cap i b w0 W h1.k hB h0 (hb0.trans (h1.be.mono h0)) h2)
  have CC := Lib.hid (fun i b W (h1 : BxAt w W p (rbBlk (.slice a l.length cap) i b)) h2 => rcount_rd p a l cap i b w0 W h1.k hB h0 (hb0.trans (h1.be.mono h0)) h2)
  have M0 := Lib.hid (show RMt w (w.alloc (xBlk 0)) p (.slice a l.length cap) i0 bad w.heap.size (xBlk 0) from ⟨(BxAt.start hk).below ((Below.refl _ _).alloc (Nat.le_refl _) _), KAt.new _ _, KAt.new _ _, Nat.le_refl _, hp⟩)
  unfold insnR
  obtain ⟨s, hs⟩ : ∃ s, rnatI l i0 bad = s := ⟨_, rfl⟩
  obtain ⟨ra, hra⟩ : ∃ s', rsigL l s.2.1 s.2.2 = s' := ⟨_, rfl⟩
  obtain ⟨rb, hrb⟩ : ∃ s', rsigL l ra.2.1 ra.2.2 = s' := ⟨_, rfl⟩
  obtain ⟨rc, hrc⟩ : ∃ s', rsigL l rb.2.1 rb.2.2 = s' := ⟨_, rfl⟩
  obtain ⟨rn, hrn⟩ : ∃ s', rcntL l rc.2.1 rc.2.2 = s' := ⟨_, rfl⟩
  have l0 : s.2.1 ≤ l.length := by rw [← hs]; exact natL_le l i0 bad hi
  have l1 : ra.2.1 ≤ l.length := by rw [← hra]; exact rsigL_le l _ _ l0
  have l2 : rb.2.1 ≤ l.length := by rw [← hrb]; exact rsigL_le l _ _ l1
  have l3 : rc.2.1 ≤ l.length := by rw [← hrc]; exact rsigL_le l _ _ l2
  have l4 : rn.2.1 ≤ l.length := by rw [← hrn]; exact rcntL_le l _ _ l3
  have l5 : rn.1 ≤ l.length := by have := rcntL_fit l rc.2.1 rc.2.2; rw [hrn] at this; omega
  simp only [hs, hra, hrb, hrc, hrn]
  have C0 := Lib.hid (fun W h1 => (CS.out i0 bad W h1 hi))
  have C1 := Lib.hid (fun W h1 => (CG.out s.2.1 s.2.2 W h1 l0))
  have C2 := Lib.hid (fun W h1 => (CG.out ra.2.1 ra.2.2 W h1 l1))
  have C3 := Lib.hid (fun W h1 => (CG.out rb.2.1 rb.2.2 W h1 l2))
  have C4 := Lib.hid (fun W h1 => (CC.out rc.2.1 rc.2.2 W h1 l3))
  rw [hra] at C1
  rw [hrb] at C2
  rw [hrc] at C3
  rw [hrn] at C4
  have CS0 := Lib.hid (show ((natL l i0 bad).1 : Int) = s.1 ∧ (natL l i0 bad).2 = s.2 by rw [← hs]; exact ⟨rfl, rfl⟩)
  rw [CS0.out.1, CS0.out.2] at C0
  clear hk hB hb0 hi hs hra hrb hrc hrn CS0
  go_enter Try.func47, Try.ntmps47
  go_wp2_with (first
    | (go_at_call 45; (refine (C0.out _ M0.out.b).mono ?_); rintro e w1 ⟨rfl, h1⟩; have M1 := Lib.hid (M0.out.call h1); clear M0 h1)
    | (go_at_call 58; (with_reducible refine (C1.out _ M1.out.b).mono ?_); rintro e w2 ⟨rfl, h1⟩; have M2 := Lib.hid (M1.out.call h1); clear M1 h1)
    | (go_at_call 58; (with_reducible refine (C2.out _ M2.out.b).mono ?_); rintro e w3 ⟨rfl, h1⟩; have M3 := Lib.hid (M2.out.call h1); clear M2 h1)
    | (go_at_call 58; (with_reducible refine (C3.out _ M3.out.b).mono ?_); rintro e w4 ⟨rfl, h1⟩; have HM := Lib.hid (heap_lt (M3.out.call h1).r.x); have M4 := Lib.hid ((M3.out.call h1).box (xvBlk s.1 ra.1 rb.1 rc.1 (.slice none 0 0) (.slice none 0 0))); clear M3 h1)
    | (go_at_call 46; (refine (C4.out _ M4.out.b).mono ?_); rintro e w5 ⟨rfl, h1⟩; have M5 := Lib.hid (M4.out.call h1); clear M4 h1))
  obtain ⟨m, hm⟩ : ∃ m, w4.heap.size = m := ⟨_, rfl⟩
  rw [hm] at M5 HM ⊢
  have S5 := Lib.hid (RLt.start M5.out HM.out)
  obtain ⟨B5, hB5⟩ : ∃ B, w5.heap.size = B := ⟨_, rfl⟩
  rw [hB5] at S5
  clear M5 hm hB5
  have HRN := Lib.hid l5
  go_loopw [5] (fun v5 wr => ∃ (k i : Nat) (b : Bool) (v : Value) (M : List Int), v5 = .int .i64 (k : Int) ∧ i ≤ l.length ∧ (k ≤ rn.1 ∧ M.length = k) ∧ RLt w wr p (.slice a l.length cap) i b m (xvBlk s.1 ra.1 rb.1 rc.1 v (.slice none 0 0)) B5 v M ∧ listL (rsigL l) rn.1 rn.2.1 rn.2.2 = (M ++ (listL (rsigL l) (rn.1 - k) i b).1, (listL (rsigL l) (rn.1 - k) i b).2)) (fun v5 _ => rn.1 - (intOf v5).toNat)
  case atStart => exact ⟨0, rn.2.1, rn.2.2, _, [], rfl, l4, ⟨Nat.zero_le _, rfl⟩, S5.out, rfl⟩
  case round =>
    clear S5 l0 l1 l2 l3 l4 l5
    obtain ⟨k, i, b, v, M, rfl, hi, hn, hS, he⟩ := hrel
    have HE := Lib.hid he
    have S := Lib.hid hS
    have HN := Lib.hid hn
    have hk1 := hn.1
    have hrn := HRN.out
    obtain ⟨x0, x1, x2, x3, x4, x5, z4, z5⟩ := hS.d.e.xv
    obtain ⟨d0, d1, d2, -, -⟩ := hS.d.b.k.rbcells
    clear he
    by_cases hx : k < rn.1 ∧ b = false
    · obtain ⟨hn0, rfl⟩ := hx
      obtain ⟨n, hnk⟩ : ∃ n, rn.1 - k = n + 1 := ⟨rn.1 - k - 1, by omega⟩
      have HNK := Lib.hid (show rn.1 - (k + 1) = n by omega)
      rw [hnk] at HE
      have hkb : k < 16777216 := by omega
      clear hS hnk hn
      have k0 : decide ((k : Int) < (rn.1 : Int)) = true := decide_eq_true (by omega)
      obtain ⟨r, hr⟩ : ∃ r, rsigL l i false = r := ⟨_, rfl⟩
      have lr : r.2.1 ≤ l.length := by rw [← hr]; exact rsigL_le l _ _ hi
      have CN := Lib.hid (fun W h1 => CG.out i false W h1 hi)
      have HE2 := Lib.hid (show listL (rsigL l) rn.1 rn.2.1 rn.2.2 = (M ++ [r.1] ++ (listL (rsigL l) n r.2.1 r.2.2).1, (listL (rsigL l) n r.2.1 r.2.2).2) by
        rw [HE.out, listL_succ, hr]; simp)
      rw [hr] at CN
      clear hr
      go_upto_region 6 with (fail)
      go_region_law (first
        | (go_simp; go_at_call 58; refine (CN.out _ (S.out.below (Below.refl _ _).drew).d.b).mono ?_; rintro e w9 ⟨rfl, h1⟩; have S1 := Lib.hid ((S.out.below (Below.refl _ _).drew).call h1); have y4 := S1.out.d.e.xv.2.2.2.2.1; have y6 : ∀ o, (w9.alloc o).cell? ⟨m, 4, none⟩ = some v := fun o => (S1.out.below ((Below.refl _ _).alloc (Nat.le_refl _) o)).d.e.xv.2.2.2.2.1)
        | (refine step_numR S1.out (by have := HN.out.2; omega) rfl _ _ rfl rfl rfl ?_; intro g7 k7 c7 V r7 hb7; have y7 := r7.d.e.xv.2.2.2.2.1; have z7 := r7.d.e.xv.2.2.2.2.2.2.1))
      all_goals go_wp2_with fail
      all_goals go_roundw
      all_goals first
        | exact ⟨k + 1, r.2.1, r.2.2, _, M ++ [r.1], rfl, lr, ⟨by omega, by rw [List.length_append, HN.out.2]; rfl⟩, r7.put4 _, by rw [HNK.out]; exact HE2.out⟩
        | (simp only [intOf]; omega)
    · have hE2 : listL (rsigL l) rn.1 rn.2.1 rn.2.2 = (M, i, b) := by
        rw [HE.out]
        rcases Nat.eq_zero_or_pos (rn.1 - k) with h | h
        · rw [h, listL_zero]; simp
        · have hb : b = true := by
            cases b
            · exact absurd ⟨by omega, rfl⟩ hx
            · rfl
          rw [hb, listL_bad]; simp
      have kk : ¬ (k < rn.1) ∨ (k < rn.1 ∧ b = true) := by
        rcases Nat.eq_zero_or_pos (rn.1 - k) with h | h
        · left; omega
        · right; refine ⟨by omega, ?_⟩
          cases b
          · exact absurd ⟨by omega, rfl⟩ hx
          · rfl
      have HE2 := Lib.hid hE2
      obtain ⟨hML, ca, cc, rfl, hR⟩ := own_rest hS.o
      have hr1 : m < B5 := hS.h
      have hr2 := hS.hr
      have RR := Lib.hid (hR.wide (lo' := m + 1) (by omega) (Nat.le_refl _))
      have HR := Lib.hid hr2
      obtain ⟨rm, hrm⟩ : ∃ s', rcntL l i b = s' := ⟨_, rfl⟩
      have l6 : rm.2.1 ≤ l.length := by rw [← hrm]; exact rcntL_le l _ _ hi
      have l7 : rm.1 ≤ l.length := by have := rcntL_fit l i b; rw [hrm] at this; omega
      have C5 := Lib.hid (fun W h1 => CC.out i b W h1 hi)
      rw [hrm] at C5
      have HRM := Lib.hid hrm
      have HS0 := Lib.hid hS.d
      clear hS S HE hE2 hML hR hr1 hr2 hx hrm hn hi
      rcases kk with k0 | ⟨k0, rfl⟩
      all_goals
        go_wp2_with (first
          | (go_at_call 46; (refine (C5.out _ HS0.out.b).mono ?_); rintro e w7 ⟨rfl, h1⟩; have M7 := Lib.hid (HS0.out.call h1); have R7 := Lib.hid (RR.out.bx h1 (by have := HR.out; have := HS0.out.h; have := HS0.out.hp; omega)); have HZ := Lib.hid h1.be.size; clear HS0 RR h1))
        have S7 := Lib.hid (RLt.start M7.out HR.out)
        obtain ⟨B7, hB7⟩ : ∃ B, w7.heap.size = B := ⟨_, rfl⟩
        have R8 := Lib.hid (R7.out.wide (Nat.le_refl _) (hB7 ▸ HZ.out))
        rw [hB7] at S7
        clear M7 R7 HZ hB7
        have HRM2 := Lib.hid l7
        go_loopw [6] (fun v6 wr => ∃ (k i : Nat) (b : Bool) (v : Value) (N : List Int), v6 = .int .i64 (k : Int) ∧ i ≤ l.length ∧ (k ≤ rm.1 ∧ N.length = k) ∧ RLt w wr p (.slice a l.length cap) i b m (xvBlk s.1 ra.1 rb.1 rc.1 (.slice ca M.length cc) v) B7 v N ∧ IntR wr (m + 1) B7 ca M ∧ listL (rnatI l) rm.1 rm.2.1 rm.2.2 = (N ++ (listL (rnatI l) (rm.1 - k) i b).1, (listL (rnatI l) (rm.1 - k) i b).2)) (fun v6 _ => rm.1 - (intOf v6).toNat)
        case atStart => exact ⟨0, rm.2.1, rm.2.2, _, [], rfl, l6, ⟨Nat.zero_le _, rfl⟩, S7.out, R8.out, rfl⟩
        case round =>
          clear S7 R8 l6 l7 d0 d1 d2 x0 x1 x2 x3 x4 x5 z4 z5
          obtain ⟨k, i, b, v, N, rfl, hi, hn, hS, hR, he⟩ := hrel
          have HE := Lib.hid he
          have S := Lib.hid hS
          have RR := Lib.hid hR
          have HN := Lib.hid hn
          have hk1 := hn.1
          have hrm := HRM2.out
          obtain ⟨x0, x1, x2, x3, x4, x5, z4, z5⟩ := hS.d.e.xv
          obtain ⟨d0, d1, d2, -, -⟩ := hS.d.b.k.rbcells
          clear he hR
          by_cases hx : k < rm.1 ∧ b = false
          · obtain ⟨hn0, rfl⟩ := hx
            obtain ⟨n, hnk⟩ : ∃ n, rm.1 - k = n + 1 := ⟨rm.1 - k - 1, by omega⟩
            have HNK := Lib.hid (show rm.1 - (k + 1) = n by omega)
            rw [hnk] at HE
            have hkb : k < 16777216 := by omega
            clear hS hnk hn
            have k0 : decide ((k : Int) < (rm.1 : Int)) = true := decide_eq_true (by omega)
            obtain ⟨r, hr⟩ : ∃ r, natL l i false = r := ⟨_, rfl⟩
            have lr : r.2.1 ≤ l.length := by rw [← hr]; exact natL_le l _ _ hi
            have CN := Lib.hid (fun W h1 => CS.out i false W h1 hi)
            have HE2 := Lib.hid (show listL (rnatI l) rm.1 rm.2.1 rm.2.2 = (N ++ [(r.1 : Int)] ++ (listL (rnatI l) n r.2.1 r.2.2).1, (listL (rnatI l) n r.2.1 r.2.2).2) by
              rw [HE.out, listL_succ]; unfold rnatI; rw [hr]; simp)
            rw [hr] at CN
            clear hr
            go_upto_region 11 with (fail)
            go_region_law (first
              | (go_simp; go_at_call 45; refine (CN.out _ (S.out.below (Below.refl _ _).drew).d.b).mono ?_; rintro e w9 ⟨rfl, h1⟩; have S1 := Lib.hid ((S.out.below (Below.refl _ _).drew).call h1); have R1 := Lib.hid ((RR.out.low (Below.refl _ _).drew S.out.hb).bx h1 (by have := S.out.hr; have := S.out.d.hp; omega)); have y4 := S1.out.d.e.xv.2.2.2.2.2.1; have y6 : ∀ o, (w9.alloc o).cell? ⟨m, 5, none⟩ = some v := fun o => (S1.out.below ((Below.refl _ _).alloc (Nat.le_refl _) o)).d.e.xv.2.2.2.2.2.1)
              | (refine step_numR S1.out (by have := HN.out.2; omega) rfl _ _ rfl rfl rfl ?_; intro g7 k7 c7 V r7 hb7; have y7 := r7.d.e.xv.2.2.2.2.2.1; have z7 := r7.d.e.xv.2.2.2.2.2.2.2))
            all_goals go_wp2_with fail
            all_goals go_roundw
            all_goals first
              | exact ⟨k + 1, r.2.1, r.2.2, _, N ++ [(r.1 : Int)], rfl, lr, ⟨by omega, by rw [List.length_append, HN.out.2]; rfl⟩, r7.put5 _, (R1.out.low hb7 (Nat.le_refl _)).put _ (Nat.lt_succ_self _) _, by rw [HNK.out]; exact HE2.out⟩
              | (simp only [intOf]; omega)
          · have hE2 : listL (rnatI l) rm.1 rm.2.1 rm.2.2 = (N, i, b) := by
              rw [HE.out]
              rcases Nat.eq_zero_or_pos (rm.1 - k) with h | h
              · rw [h, listL_zero]; simp
              · have hb : b = true := by
                  cases b
                  · exact absurd ⟨by omega, rfl⟩ hx
                  · rfl
                rw [hb, listL_bad]; simp
            have kk : ¬ (k < rm.1) ∨ (k < rm.1 ∧ b = true) := by
              rcases Nat.eq_zero_or_pos (rm.1 - k) with h | h
              · left; omega
              · right; refine ⟨by omega, ?_⟩
                cases b
                · exact absurd ⟨by omega, rfl⟩ hx
                · rfl
            have HE3 := Lib.hid hE2
            obtain ⟨hML, va, vc, rfl, hR⟩ := own_rest hS.o
            have R9 := Lib.hid (hR.wide (lo' := m + 1) (by have := hS.h; omega) (Nat.le_refl _))
            obtain ⟨y0, y1, y2, y3, y4, y5⟩ := hS.d.r.xcells
            have z0 : wr.frozen? ⟨w.heap.size, 0, none⟩ = false := frozen_of_row _ _ _ _ _ hS.d.r.x
            have z1 : wr.frozen? ⟨w.heap.size, 1, none⟩ = false := frozen_of_row _ _ _ _ _ hS.d.r.x
            have z2 : wr.frozen? ⟨w.heap.size, 2, none⟩ = false := frozen_of_row _ _ _ _ _ hS.d.r.x
            have z3 : wr.frozen? ⟨w.heap.size, 3, none⟩ = false := frozen_of_row _ _ _ _ _ hS.d.r.x
            have z4 : wr.frozen? ⟨w.heap.size, 4, none⟩ = false := frozen_of_row _ _ _ _ _ hS.d.r.x
            have z5 : wr.frozen? ⟨w.heap.size, 5, none⟩ = false := frozen_of_row _ _ _ _ _ hS.d.r.x
            clear hS HE hE2 hML hR hx hn
            rcases kk with k0 | ⟨k0, rfl⟩
            all_goals
              go_wp2_with fail
              have hi' : (Try.prog.info? 58).map (·.size) = some 6 := by kernel_rfl
              (try simp only [Exit.inBlock, Exit.then]); refine bodyPost_ret (results_cell_row rfl _ _ w.heap.size 58 _ (0, 0) _ rfl (xv_put S.out.d.r s.1 ra.1 rb.1 rc.1 (.slice ca M.length cc) (.slice va N.length vc)) Try.underlying58 rfl hi') rfl ?_
              have hmr := S.out.hr
              have hmb := S.out.h
              have hBz := S.out.hb
              have hmz := S.out.d.hp
              have hzz := heap_lt S.out.d.e.x
              have hX := (((((S.out.d.b.put hp ⟨w.heap.size, 0, none⟩ (Nat.le_refl _) (Nat.ne_of_gt hp) (.int .i64 s.1)).put hp ⟨w.heap.size, 1, none⟩ (Nat.le_refl _) (Nat.ne_of_gt hp) (.int .i64 ra.1)).put hp ⟨w.heap.size, 2, none⟩ (Nat.le_refl _) (Nat.ne_of_gt hp) (.int .i64 rb.1)).put hp ⟨w.heap.size, 3, none⟩ (Nat.le_refl _) (Nat.ne_of_gt hp) (.int .i64 rc.1)).put hp ⟨w.heap.size, 4, none⟩ (Nat.le_refl _) (Nat.ne_of_gt hp) (.slice ca M.length cc)).put hp ⟨w.heap.size, 5, none⟩ (Nat.le_refl _) (Nat.ne_of_gt hp) (.slice va N.length vc)
              have hp6 : ∀ {lo hi : Nat} {a : Option Addr} {L : List Int}, IntR wr lo hi a L → w.heap.size < lo → IntR ((((((wr.setCell ⟨w.heap.size, 0, none⟩ (.int .i64 s.1)).setCell ⟨w.heap.size, 1, none⟩ (.int .i64 ra.1)).setCell ⟨w.heap.size, 2, none⟩ (.int .i64 rb.1)).setCell ⟨w.heap.size, 3, none⟩ (.int .i64 rc.1)).setCell ⟨w.heap.size, 4, none⟩ (.slice ca M.length cc)).setCell ⟨w.heap.size, 5, none⟩ (.slice va N.length vc)) lo hi a L :=
                fun h hl => (((((h.put ⟨_, 0, none⟩ hl _).put ⟨_, 1, none⟩ hl _).put ⟨_, 2, none⟩ hl _).put ⟨_, 3, none⟩ hl _).put ⟨_, 4, none⟩ hl _).put ⟨_, 5, none⟩ hl _
              rw [HE2.out]
              simp only []
              rw [HRM.out, HE3.out]
              exact ⟨ca, cc, va, vc, rfl, hX, (hp6 RR.out (by omega)).wide (by omega) (by simp [World.setCell]; exact hBz), (hp6 R9.out (by omega)).wide (by omega) (by simp [World.setCell])⟩
end
end Go.Proofs.Ytgbgahdeopedpaa
