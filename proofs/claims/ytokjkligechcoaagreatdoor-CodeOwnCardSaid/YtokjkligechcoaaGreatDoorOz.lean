/- Arguments opened: a program, with all that it holds. -/
import Derived.Test.YtokjkligechcoaaGreatDoorEf
import Derived.Test.YtokjkligechcoaaGreatDoorLi
import Derived.Test.YtokjkligechcoaaGreatDoorRows
set_option linter.unusedVariables false
namespace Go.Proofs.YtokjkligechcoaaGreatDoor
open Go.ChangeShapes Go.WideShapes Go.Deep Go.RowKit
open Opn
theorem choose_list {α : Type} (Q : Nat → α → Prop) : ∀ n : Nat, (∀ i, i < n → ∃ a, Q i a) → ∃ l : List α, l.length = n ∧ ∀ i x, l[i]? = some x → Q i x
 | 0, _ => ⟨[], rfl, fun i x hi => by simp at hi⟩
 | n + 1, h => by
  obtain ⟨l, hl, hq⟩ := choose_list Q n (fun i hi => h i (by omega))
  obtain ⟨a, ha⟩ := h n (by omega)
  refine ⟨l ++ [a], by simp [hl], fun i x hi => ?_⟩
  by_cases hin : i < l.length
  ·rw [List.getElem?_append_left hin] at hi; exact hq i x hi
  ·have hlt := (List.getElem?_eq_some_iff.1 hi).1
   have : i = l.length := by simp at hlt; omega
   subst this
   rw [List.getElem?_append_right (Nat.le_refl _)] at hi
   simp at hi
   subst hi
   rw [hl]; exact ha
/-- no part of a program takes more bytes than there are -/
structure PgR (P : Pg) : Prop where
 f : P.fs.length * 40 ≤ 140737488355328
 s : P.ss.length * 16 ≤ 140737488355328
 u : P.us.length * 8 ≤ 140737488355328
 c : ∀ f ∈ P.fs, f.code.length * 80 ≤ 140737488355328 ∧ ∀ x ∈ f.code, x.l.length * 8 ≤ 140737488355328 ∧ x.lv.length * 8 ≤ 140737488355328
theorem mem_get {α : Type} {l : List α} {Q : α → Prop} (h : ∀ (i : Nat) x, l[i]? = some x → Q x) : ∀ x ∈ l, Q x := fun x hx => by
 obtain ⟨i, hi, rfl⟩ := List.getElem_of_mem hx
 exact h i _ (List.getElem?_eq_getElem hi)
theorem reach_le {n : Nat} (h : n ≤ reachBytes) : n ≤ 140737488355328 := Nat.le_trans h (by decide)
section
variable {H : Type} {enc : TypeId × Value → H} {w : World}
abbrev Rd (enc : TypeId × Value → H) (w : World) (fuel : Nat) (t : TypeId) (cs : List Value) (x : DataW H × List MemPlace) : Prop := DataW.trod enc Tryz.prog w 0 (fun _ => true) true fuel t cs = some x
abbrev Wt (t : TypeId) (d : DataW H) : Prop := ∀ y ∈ DataW.weights Tryz.prog t d, y ≤ reachBytes
theorem reach_len {n k : Nat} (h : n * k ≤ reachBytes) (hk : 0 < k) : n ≤ maxLen := by
 have h1 : n ≤ n * k := Nat.le_mul_of_pos_right n hk
 have h2 : reachBytes = 140737488351232 := rfl
 unfold maxLen; omega
theorem open_intsK {t e : TypeId} {k : IntKind} {fuel bytes : Nat} {cs : List Value} {x : DataW H × List MemPlace} (ht : Tryz.prog.underlying t = some (.slice e)) (he : Tryz.prog.underlying e = some (.int k)) (hC : Tryz.prog.cellsOf e = 1) (hby : Tryz.prog.bytesOf e = bytes) (hb0 : 0 < bytes)
  (h : Rd enc w fuel t cs x) (hw : Wt t x.1) : ∃ (a : Option Addr) (l : List Int) (cap : Nat), cs = [.slice a l.length cap] ∧ IntsAt k w a l ∧ (∀ n ∈ l, k.min ≤ n ∧ n ≤ k.max) ∧ l.length * bytes ≤ 140737488355328 := by
 obtain ⟨a, len, cap, hcs, hl, hm, hb, hr⟩ := open_sl ht hC (by decide) h hw
 rw [hby] at hb
 have hlm := reach_len hb hb0
 rcases hr with rfl | ⟨b, off, rfl, hblt, hc⟩
 ·exact ⟨a, [], cap, hcs, ⟨by simp, .inl rfl⟩, by simp, by simp⟩
 ·obtain ⟨l, hls, hq⟩ := choose_list (fun i (n : Int) => w.cell? ⟨b, off + i, none⟩ = some (.int k n) ∧ k.min ≤ n ∧ n ≤ k.max) len (fun i hi => by
   obtain ⟨cs', y, n, h1, h2, h3, h4⟩ := hc i hi
   obtain ⟨z, rfl, hz⟩ := open_in he h3
   exact ⟨z, by have := h2 0 (by decide); simpa using this, hz⟩)
  subst hls
  refine ⟨_, l, cap, hcs, ⟨hlm, .inr ⟨b, off, rfl, fun i hi => ?_⟩⟩, fun n hn => ?_, reach_le hb⟩
  ·have := hq i l[i] (List.getElem?_eq_getElem hi)
   rw [this.1]; simp [List.getD, hi]
  ·obtain ⟨i, hi, rfl⟩ := List.getElem_of_mem hn
   exact (hq i _ (List.getElem?_eq_getElem hi)).2
theorem cell1 {l : List Value} {o : Nat} {v : Value} (h : (l.drop o).take 1 = [v]) : l[o]? = some v := by
 have := congrArg (fun z => z[0]?) h
 simpa [List.getElem?_take, List.getElem?_drop] using this
theorem open_code {fuel : Nat} {cs : List Value} {x : DataW H × List MemPlace} (h : Rd enc w fuel 46 cs x) (hw : Wt 46 x.1) : ∃ (a : Option Addr) (code : List In) (cap : Nat), cs = [.slice a code.length cap] ∧ CdAt w a code ∧ code.length * 80 ≤ 140737488355328 ∧ ∀ x ∈ code, x.l.length * 8 ≤ 140737488355328 ∧ x.lv.length * 8 ≤ 140737488355328 := by
 obtain ⟨a, len, cap, hcs, hl, hm, hb, hr⟩ := open_sl Tryz.underlying46 (show Tryz.prog.cellsOf 58 = 6 by kernel_rfl) (by decide) h hw
 rw [show Tryz.prog.bytesOf 58 = 80 by kernel_rfl] at hb
 have hlm := reach_len hb (by decide)
 rcases hr with rfl | ⟨b, off, rfl, hblt, hc⟩
 ·exact ⟨a, [], cap, hcs, ⟨by simp, .inl rfl⟩, by simp, by simp⟩
 ·obtain ⟨l, hls, hq⟩ := choose_list (fun i (x : In) => XAt w b (off + i * 6) x ∧ x.l.length * 8 ≤ 140737488355328 ∧ x.lv.length * 8 ≤ 140737488355328) len (fun i hi => by
   obtain ⟨cs', y, n, h1, h2, h3, h4⟩ := hc i hi
   obtain ⟨_, hfs⟩ := open_st Tryz.underlying58 h3 h4
   obtain ⟨y0, n0, r0, s0⟩ := hfs 0 _ rfl
   obtain ⟨y1, n1, r1, s1⟩ := hfs 1 _ rfl
   obtain ⟨y2, n2, r2, s2⟩ := hfs 2 _ rfl
   obtain ⟨y3, n3, r3, s3⟩ := hfs 3 _ rfl
   obtain ⟨y4, n4, r4, s4⟩ := hfs 4 _ rfl
   obtain ⟨y5, n5, r5, s5⟩ := hfs 5 _ rfl
   obtain ⟨op, e0, _⟩ := open_in (k := .i64) Tryz.underlying55 r0
   obtain ⟨xa, e1, _⟩ := open_in (k := .i64) Tryz.underlying3 r1
   obtain ⟨xb, e2, _⟩ := open_in (k := .i64) Tryz.underlying3 r2
   obtain ⟨xc, e3, _⟩ := open_in (k := .i64) Tryz.underlying3 r3
   obtain ⟨la, l, lc, e4, hil, _, hbl⟩ := open_intsK (k := .i64) Tryz.underlying56 Tryz.underlying3 (by kernel_rfl) (show Tryz.prog.bytesOf 3 = 8 by kernel_rfl) (by decide) r4 s4
   obtain ⟨va, lv, vc, e5, hiv, _, hbv⟩ := open_intsK (k := .i64) Tryz.underlying56 Tryz.underlying3 (by kernel_rfl) (show Tryz.prog.bytesOf 3 = 8 by kernel_rfl) (by decide) r5 s5
   have d0 : (cs'.drop 0).take (Tryz.prog.cellsOf 55) = [.int .i64 op] := e0
   have d1 : (cs'.drop 1).take (Tryz.prog.cellsOf 3) = [.int .i64 xa] := e1
   have d2 : (cs'.drop 2).take (Tryz.prog.cellsOf 3) = [.int .i64 xb] := e2
   have d3 : (cs'.drop 3).take (Tryz.prog.cellsOf 3) = [.int .i64 xc] := e3
   have d4 : (cs'.drop 4).take (Tryz.prog.cellsOf 56) = [.slice la l.length lc] := e4
   have d5 : (cs'.drop 5).take (Tryz.prog.cellsOf 56) = [.slice va lv.length vc] := e5
   rw [show Tryz.prog.cellsOf 55 = 1 by kernel_rfl] at d0
   rw [show Tryz.prog.cellsOf 3 = 1 by kernel_rfl] at d1 d2 d3
   rw [show Tryz.prog.cellsOf 56 = 1 by kernel_rfl] at d4 d5
   have f : ∀ j v, j < 6 → cs'[j]? = some v → w.cell? ⟨b, off + i * 6 + j, none⟩ = some v := fun j v hj hv => by rw [Nat.add_assoc, h2 j hj, hv]
   exact ⟨⟨op, xa, xb, xc, l, lv⟩, ⟨la, lc, va, vc, f 0 _ (by decide) (cell1 d0), f 1 _ (by decide) (cell1 d1), f 2 _ (by decide) (cell1 d2), f 3 _ (by decide) (cell1 d3), f 4 _ (by decide) (cell1 d4), f 5 _ (by decide) (cell1 d5), hil, hiv⟩, hbl, hbv⟩)
  subst hls
  exact ⟨_, l, cap, hcs, ⟨hlm, .inr ⟨b, off, rfl, fun i x e => (hq i x e).1⟩⟩, reach_le hb, mem_get (fun i x e => (hq i x e).2)⟩
theorem open_fns {fuel : Nat} {cs : List Value} {x : DataW H × List MemPlace} (h : Rd enc w fuel 22 cs x) (hw : Wt 22 x.1) : ∃ (a : Option Addr) (fs : List Fu) (cap : Nat), cs = [.slice a fs.length cap] ∧ FnsAt w a fs ∧ fs.length * 40 ≤ 140737488355328 ∧ ∀ f ∈ fs, f.code.length * 80 ≤ 140737488355328 ∧ ∀ x ∈ f.code, x.l.length * 8 ≤ 140737488355328 ∧ x.lv.length * 8 ≤ 140737488355328 := by
 obtain ⟨a, len, cap, hcs, hl, hm, hb, hr⟩ := open_sl Tryz.underlying22 (show Tryz.prog.cellsOf 48 = 3 by kernel_rfl) (by decide) h hw
 rw [show Tryz.prog.bytesOf 48 = 40 by kernel_rfl] at hb
 have hlm := reach_len hb (by decide)
 rcases hr with rfl | ⟨b, off, rfl, hblt, hc⟩
 ·exact ⟨a, [], cap, hcs, ⟨by simp, .inl rfl⟩, by simp, by simp⟩
 ·obtain ⟨l, hls, hq⟩ := choose_list (fun i (f : Fu) => FnAt w b (off + i * 3) f ∧ f.code.length * 80 ≤ 140737488355328 ∧ ∀ x ∈ f.code, x.l.length * 8 ≤ 140737488355328 ∧ x.lv.length * 8 ≤ 140737488355328) len (fun i hi => by
   obtain ⟨cs', y, n, h1, h2, h3, h4⟩ := hc i hi
   obtain ⟨_, hfs⟩ := open_st Tryz.underlying48 h3 h4
   obtain ⟨y0, n0, r0, s0⟩ := hfs 0 _ rfl
   obtain ⟨y1, n1, r1, s1⟩ := hfs 1 _ rfl
   obtain ⟨y2, n2, r2, s2⟩ := hfs 2 _ rfl
   obtain ⟨ps, e0, _⟩ := open_in (k := .i64) Tryz.underlying3 r0
   obtain ⟨rs, e1, _⟩ := open_in (k := .i64) Tryz.underlying3 r1
   obtain ⟨ca, code, cc, e2, hcd, hcb, hcx⟩ := open_code r2 s2
   have d0 : (cs'.drop 0).take (Tryz.prog.cellsOf 3) = [.int .i64 ps] := e0
   have d1 : (cs'.drop 1).take (Tryz.prog.cellsOf 3) = [.int .i64 rs] := e1
   have d2 : (cs'.drop 2).take (Tryz.prog.cellsOf 46) = [.slice ca code.length cc] := e2
   rw [show Tryz.prog.cellsOf 3 = 1 by kernel_rfl] at d0 d1
   rw [show Tryz.prog.cellsOf 46 = 1 by kernel_rfl] at d2
   have f : ∀ j v, j < 3 → cs'[j]? = some v → w.cell? ⟨b, off + i * 3 + j, none⟩ = some v := fun j v hj hv => by rw [Nat.add_assoc, h2 j hj, hv]
   exact ⟨⟨ps, rs, code⟩, ⟨ca, cc, f 0 _ (by decide) (cell1 d0), f 1 _ (by decide) (cell1 d1), f 2 _ (by decide) (cell1 d2), hcd⟩, hcb, hcx⟩)
  subst hls
  exact ⟨_, l, cap, hcs, ⟨hlm, .inr ⟨b, off, rfl, fun i x e => (hq i x e).1⟩⟩, reach_le hb, mem_get (fun i x e => (hq i x e).2)⟩
theorem open_strsA {fuel : Nat} {cs : List Value} {x : DataW H × List MemPlace} (h : Rd enc w fuel 23 cs x) (hw : Wt 23 x.1) : ∃ (a : Option Addr) (ss : List (List UInt8)) (cap : Nat), cs = [.slice a ss.length cap] ∧ StrsAt w a ss ∧ ss.length * 16 ≤ 140737488355328 := by
 obtain ⟨a, len, cap, hcs, hl, hm, hb, hr⟩ := open_sl Tryz.underlying23 (show Tryz.prog.cellsOf 9 = 1 by kernel_rfl) (by decide) h hw
 rw [show Tryz.prog.bytesOf 9 = 16 by kernel_rfl] at hb
 have hlm := reach_len hb (by decide)
 rcases hr with rfl | ⟨b, off, rfl, hblt, hc⟩
 ·exact ⟨a, [], cap, hcs, ⟨by simp, by simp, .inl rfl⟩, by simp⟩
 ·obtain ⟨ls, hls, hq⟩ := choose_list (fun i (l : List UInt8) => w.cell? ⟨b, off + i, none⟩ = some (.string ⟨l.toArray⟩) ∧ l.length ≤ 140737488351232) len (fun i hi => by
   obtain ⟨cs', y, n, h1, h2, h3, h4⟩ := hc i hi
   obtain ⟨l, rfl, hl2⟩ := open_str Tryz.underlying9 h3 h4
   exact ⟨l, by have := h2 0 (by decide); simpa using this, hl2⟩)
  subst hls
  refine ⟨_, ls, cap, hcs, ⟨hlm, fun s hs => ?_, .inr ⟨b, off, rfl, fun i s hi => (hq i s hi).1⟩⟩, reach_le hb⟩
  obtain ⟨i, hi, rfl⟩ := List.getElem_of_mem hs
  have := (hq i _ (List.getElem?_eq_getElem hi)).2
  unfold maxLen; omega
set_option maxRecDepth 100000 in
theorem open_prog {fuel : Nat} {cs : List Value} {x : DataW H × List MemPlace} (h : Rd enc w fuel 26 cs x) (hw : Wt 26 x.1) (hlen : cs.length = 4) : ∃ (fa sa ra : Option Addr) (fc sc rc : Nat) (P : Pg), cs = [.slice fa P.fs.length fc, .slice sa P.ss.length sc, .slice ra P.us.length rc, .int .i64 P.en] ∧ PgAt w fa sa ra P ∧ PgR P := by
 obtain ⟨hlen2, hps⟩ := open_st Tryz.underlying26 h hw
 obtain ⟨z0, m0, r0, q0⟩ := hps 0 _ rfl
 obtain ⟨z1, m1, r1, q1⟩ := hps 1 _ rfl
 obtain ⟨z2, m2, r2, q2⟩ := hps 2 _ rfl
 obtain ⟨z3, m3, r3, q3⟩ := hps 3 _ rfl
 obtain ⟨fa, fs, fc, g0, hF, hFb, hFx⟩ := open_fns r0 q0
 obtain ⟨sa, ss, sc, g1, hS, hSb⟩ := open_strsA r1 q1
 obtain ⟨ra, us, rc, g2, hU, hz, hUb⟩ := open_intsK (k := .u64) Tryz.underlying24 Tryz.underlying45 (by kernel_rfl) (show Tryz.prog.bytesOf 45 = 8 by kernel_rfl) (by decide) r2 q2
 obtain ⟨en, g3, _⟩ := open_in (k := .i64) Tryz.underlying3 r3
 have c2 : Tryz.prog.cellsOf 22 = 1 := by kernel_rfl
 have c3 : Tryz.prog.cellsOf 23 = 1 := by kernel_rfl
 have c4 : Tryz.prog.cellsOf 24 = 1 := by kernel_rfl
 have c5 : Tryz.prog.cellsOf 3 = 1 := by kernel_rfl
 have f2 : (cs.drop 0).take (Tryz.prog.cellsOf 22) = [.slice fa fs.length fc] := g0
 have f3 : (cs.drop 1).take (Tryz.prog.cellsOf 23) = [.slice sa ss.length sc] := g1
 have f4 : (cs.drop 2).take (Tryz.prog.cellsOf 24) = [.slice ra us.length rc] := g2
 have f5 : (cs.drop 3).take (Tryz.prog.cellsOf 3) = [.int .i64 en] := g3
 rw [c2] at f2
 rw [c3] at f3
 rw [c4] at f4
 rw [c5] at f5
 clear g0 g1 g2 g3 h hps r0 r1 r2 r3 hlen2
 match cs, hlen with
 | [v2, v3, v4, v5], _ =>
  simp only [List.drop_zero, List.drop_succ_cons, List.take_succ_cons, List.take_zero, List.cons.injEq, and_true] at f2 f3 f4 f5
  subst f2; subst f3; subst f4; subst f5
  refine ⟨fa, sa, ra, fc, sc, rc, ⟨fs, ss, us, en⟩, rfl, ⟨hF, hS, hU, fun u hu => ?_⟩, ⟨hFb, hSb, hUb, hFx⟩⟩
  have := hz u hu
  have e1 : IntKind.u64.min = 0 := rfl
  have e2 : IntKind.u64.max = 18446744073709551615 := rfl
  omega
end
end Go.Proofs.YtokjkligechcoaaGreatDoor
