/- Walks of layer 21: a report read, in the reference. -/
import Derived.Test.YtkjdigojajcgkaaGreatDoorPy
namespace Go.Proofs.YtkjdigojajcgkaaGreatDoor
open Go.RowKit
open Pt (Oc Rs)
set_option linter.unusedVariables false
attribute [local go_sem] ext_mk size_mk toList_mk get_mk take_drop_len take_tail_len ByteArray.mk_append_mk List.append_toArray

/-- the cells of a box behind calls -/
structure BoxAt (W : World) (d : Nat) (v0 v1 v2 v3 : Value) : Prop where
  lt : d < W.heap.size
  c0 : W.cell? ⟨d, 0, none⟩ = some v0
  c1 : W.cell? ⟨d, 1, none⟩ = some v1
  c2 : W.cell? ⟨d, 2, none⟩ = some v2
  c3 : W.cell? ⟨d, 3, none⟩ = some v3

theorem BoxAt.new (w : World) (v0 v1 v2 v3 : Value) (T : TypeId) : BoxAt (w.alloc (.cells #[v0, v1, v2, v3] T)) w.heap.size v0 v1 v2 v3 := ⟨by simp, by simp, by simp, by simp, by simp⟩

theorem BoxAt.below {W V : World} {d : Nat} {v0 v1 v2 v3 : Value} (h : BoxAt W d v0 v1 v2 v3) (hb : Below W.heap.size W V) : BoxAt V d v0 v1 v2 v3 := by
  have k : ∀ n v, W.cell? ⟨d, n, none⟩ = some v → V.cell? ⟨d, n, none⟩ = some v := fun n v hv => by rw [hb.cell (p := ⟨d, n, none⟩) h.lt]; exact hv
  exact ⟨Nat.lt_of_lt_of_le h.lt hb.size, k _ _ h.c0, k _ _ h.c1, k _ _ h.c2, k _ _ h.c3⟩

/-- the reference's outcome in the making -/
structure OSt (W : World) (b : Nat) (vo : Value) (o : Oc) : Prop where
  blk : ResB W b vo (.int .i64 o.st) (.string ⟨o.exn.toArray⟩) (.int .i64 o.steps)
  own : OwnS W (b + 1) vo o.out
  sz : b + 1 ≤ W.heap.size

theorem OSt.below {w w' : World} {b : Nat} {vo : Value} {o : Oc} (h : OSt w b vo o) (hb : Below w.heap.size w w') : OSt w' b vo o :=
  ⟨by unfold ResB; rw [hb.block b (by have := h.sz; omega)]; exact h.blk, h.own.below hb, Nat.le_trans h.sz hb.size⟩

theorem ResB.set0 {W : World} {d : Nat} {v0 v1 v2 v3 : Value} (h : ResB W d v0 v1 v2 v3) (x : Value) : ResB (W.setCell ⟨d, 0, none⟩ x) d x v1 v2 v3 := heap_setCell_same (i := 0) _ _ _ _ x h

theorem ResB.set1 {W : World} {d : Nat} {v0 v1 v2 v3 : Value} (h : ResB W d v0 v1 v2 v3) (x : Value) : ResB (W.setCell ⟨d, 1, none⟩ x) d v0 x v2 v3 := heap_setCell_same (i := 1) _ _ _ _ x h

theorem ResB.set2 {W : World} {d : Nat} {v0 v1 v2 v3 : Value} (h : ResB W d v0 v1 v2 v3) (x : Value) : ResB (W.setCell ⟨d, 2, none⟩ x) d v0 v1 x v3 := heap_setCell_same (i := 2) _ _ _ _ x h

theorem ResB.set3 {W : World} {d : Nat} {v0 v1 v2 v3 : Value} (h : ResB W d v0 v1 v2 v3) (x : Value) : ResB (W.setCell ⟨d, 3, none⟩ x) d v0 v1 v2 x := heap_setCell_same (i := 3) _ _ _ _ x h

theorem app_box2 {w : World} {ops : Array Oper} {rest : List Oper} {o : Oper} {a : Act} {Q : Exit → Act → World → Prop} {b : Nat} {vo : Value} {r : Oc} (hr : OSt w b vo r) (hgd : o.guard = none) (sl x : Operand)
    (ho : o.op = .call { callee := .builtin .append, args := #[sl, x], argTypes := #[22, 22] })
    (t : List UInt8) (T : TypeId) (hs : a.eval sl = vo) (hx : a.eval x = .slice (some ⟨w.heap.size, 0, none⟩) 1 1)
    (hb : r.out.length + 1 ≤ 8796093022208)
    (h : ∀ g n cap V, V.cell? ⟨b, 0, none⟩ = some vo → V.frozen? ⟨b, 0, none⟩ = false → OSt (V.setCell ⟨b, 0, none⟩ (.slice (some ⟨g, 0, none⟩) n cap)) b (.slice (some ⟨g, 0, none⟩) n cap) { r with out := r.out ++ [t] } → Tch (b + 1) b w (V.setCell ⟨b, 0, none⟩ (.slice (some ⟨g, 0, none⟩) n cap)) → wpList Tryz.prog ops Q rest (a.put o.dst (.slice (some ⟨g, 0, none⟩) n cap)) V) : wpList Tryz.prog ops Q (o :: rest) a (w.alloc (.cells #[.string ⟨t.toArray⟩] T)) := by
  obtain ⟨i0, hi, hz0, hz1, hz2⟩ := info_parts infoStr
  have hb0 : Below w.heap.size w (w.alloc (.cells #[.string ⟨t.toArray⟩] T)) := (Below.refl _ _).alloc (Nat.le_refl _) _
  have hr1 := hr.below hb0
  have hsz := hr.sz
  refine wpList_append_lies _ hgd sl x 22 ho (b + 1) 9 i0 (.string ByteArray.empty) 1 16 Tryz.underlying22 hi hz0 hz1 hz2 rfl (by decide) vo r.out.length (strCells r.out) hs hr1.own ⟨w.heap.size, 0, none⟩ 1 1 [.string ⟨t.toArray⟩] hx rfl ?_ (by intro u hu; simp at hu; subst hu; rfl) (by decide) ?_ ?_ hr1.sz _ rfl ?_
  · intro j u hj
    match j, hj with
    | 0, hj => simp at hj; subst hj; simp [Addr.add]
    | j + 1, hj => simp at hj
  · unfold maxLen; omega
  · omega
  · intro g cap V h1 h2 _ _
    have hne : ∀ k, k < b + 1 → some k ≠ vo.ownBlock := fun k hk e => by have := (hr1.own.lt k e.symm).1; omega
    have hblk : ResB V b vo (.int .i64 r.st) (.string ⟨r.exn.toArray⟩) (.int .i64 r.steps) := by
      unfold ResB; rw [h2.block b (by have := hr1.sz; omega) (hne b (by omega))]; exact hr1.blk
    refine h g _ cap V hblk.cells.1.1 hblk.cells.2.1 ⟨hblk.set0 _, ?_, ?_⟩ ?_
    · refine OwnS.set (b := b) ?_ (by omega)
      unfold OwnS; rw [strCells_app, List.length_append]; exact h1
    · have := h2.size; have := hb0.size; simp; omega
    · exact (Tch.of (hb0.mono hsz)).trans (Tch.trans ⟨h2.os, h2.tape, h2.output, h2.size, fun k hk hn => h2.block k (by have := hr1.sz; omega) (hne k hk)⟩ (Tch.set _ b 0 V _))

/-- what is known behind the reference's cut into lines -/
structure RCut (w w1 : World) (l : List UInt8) (L : List (List UInt8)) (a : Option Addr) : Prop where
  res : ResB w1 w.heap.size (.slice none 0 0) (.int .i64 0) (.string ⟨#[]⟩) (.int .i64 0)
  be : Below w.heap.size w w1
  lt : w.heap.size < w1.heap.size
  strs : StrsAt w1 a L
  lines : Pt.linesL l = L
  len : ∀ k, k < L.length → (L.getD k []).length ≤ l.length

theorem RCut.mk1 {w w1 : World} {l : List UInt8} {d : List (List UInt8)} {f : Nat} {L : List (List UInt8)} {a : Option Addr} (hS : SplitAt l l.length f d) (hL : Pt.linesL l = L)
    (hb : Below (w.heap.size + 1) (w.alloc (.cells #[.slice none 0 0, .int .i64 0, .string ⟨#[]⟩, .int .i64 0] 25)) w1) (hs : StrsAt w1 a L) : RCut w w1 l L a := by
  have hz := hb.size
  simp at hz
  obtain ⟨P, L', last, hP, hc⟩ := pcIs l
  have e : L' = L := hc.lines.symm.trans hL
  subst e
  refine ⟨?_, ((Below.refl _ _).alloc (Nat.le_refl _) _).trans (hb.mono (by omega)), by omega, hs, hL, fun k hk => (hc.get k hk).2⟩
  unfold ResB; rw [hb.block _ (by omega)]; exact heap_alloc_new _ _

/-- the reader's state in the reference's loop -/
structure RLp (w w1 wr : World) (vo : Value) (o : Oc) : Prop where
  st : OSt wr w1.heap.size vo o
  be : Tch (w1.heap.size + 1) w1.heap.size w1 wr

theorem RLp.start (w w1 : World) : RLp w w1 (w1.alloc (.cells #[.slice none 0 0, .int .i64 0, .string ⟨#[]⟩, .int .i64 0] 25)) (.slice none 0 0) Pt.oc0 :=
  ⟨⟨heap_alloc_new _ _, OwnS.nil _ _, by simp⟩, by
    have h : Below w1.heap.size w1 (w1.alloc (.cells #[.slice none 0 0, .int .i64 0, .string ⟨#[]⟩, .int .i64 0] 25)) := (Below.refl _ _).alloc (Nat.le_refl _) _
    exact ⟨h.os, h.tape, h.output, h.size, fun k hk hn => h.block k (by omega)⟩⟩

theorem RLp.call {w w1 wr wq : World} {vo : Value} {o : Oc} (h : RLp w w1 wr vo o) (hb : Below wr.heap.size wr wq) : RLp w w1 wq vo o := ⟨h.st.below hb, h.be.trans (Tch.of (hb.mono h.st.sz))⟩

theorem RLp.cell {w w1 wr : World} {vo : Value} {o : Oc} {l : List UInt8} {L : List (List UInt8)} {a : Option Addr} (h : RLp w w1 wr vo o) (hc : RCut w w1 l L a) {k : Nat} (hk : k < L.length) :
    ∃ b off, a = some ⟨b, off, none⟩ ∧ b < w1.heap.size ∧ wr.cell? ⟨b, off + k, none⟩ = some (.string ⟨(L.getD k []).toArray⟩) := by
  obtain ⟨b, off, ha, hb, h1⟩ := strs_cell hc.strs hk
  exact ⟨b, off, ha, hb, by rw [← h1]; exact World.cell?_of_block (h.be.block b (by omega) (by omega))⟩

theorem RLp.res {w w1 wr : World} {vo : Value} {o : Oc} {l : List UInt8} {L : List (List UInt8)} {a : Option Addr} (h : RLp w w1 wr vo o) (hc : RCut w w1 l L a) : ResB wr w.heap.size (.slice none 0 0) (.int .i64 0) (.string ⟨#[]⟩) (.int .i64 0) := by
  unfold ResB; rw [h.be.block _ (by have := hc.lt; omega) (by have := hc.lt; omega)]; exact hc.res

theorem RLp.below {w w1 wr : World} {vo : Value} {o : Oc} {l : List UInt8} {L : List (List UInt8)} {a : Option Addr} (h : RLp w w1 wr vo o) (hc : RCut w w1 l L a) : Below w.heap.size w wr := hc.be.trans (h.be.below (by have := hc.lt; omega) (by have := hc.lt; omega))

theorem RLp.cell2 {w w1 wr : World} {vo : Value} {o : Oc} {l : List UInt8} {L : List (List UInt8)} {b off : Nat} (h : RLp w w1 wr vo o) (hc : RCut w w1 l L (some ⟨b, off, none⟩)) {k : Nat} (hk : k < L.length) :
    wr.cell? ⟨b, off + k, none⟩ = some (.string ⟨(L.getD k []).toArray⟩) := by
  obtain ⟨b', off', ha, _, h1⟩ := h.cell hc hk
  injection ha with ha; injection ha with e1 e2; subst e1; subst e2; exact h1

theorem RLp.put {w w1 wr wq : World} {vo vo' : Value} {o o' : Oc} (h : RLp w w1 wr vo o) (hs : OSt wq w1.heap.size vo' o') (ht : Tch (w1.heap.size + 1) w1.heap.size wr wq) : RLp w w1 wq vo' o' := ⟨hs, h.be.trans ht⟩

theorem oc_box3 {W : World} {b d n : Nat} {vo : Value} {o : Oc} (h : OSt W b vo o) (hl : o.out.length ≤ n) (hn : n ≤ 1048577) (hd : d < b) {x0 x1 x2 x3 : Value} : OcAt ((((W.setCell ⟨d, 0, none⟩ x0).setCell ⟨d, 1, none⟩ x1).setCell ⟨d, 2, none⟩ x2).setCell ⟨d, 3, none⟩ x3) (.agg #[vo, .int .i64 o.st, .string ⟨o.exn.toArray⟩, .int .i64 o.steps]) o := by
  obtain ⟨a, cap, rfl, hc, hs⟩ := ((((h.own.set (i := 0) (u := x0) (show d < b + 1 by omega)).set (i := 1) (u := x1) (show d < b + 1 by omega)).set (i := 2) (u := x2) (show d < b + 1 by omega)).set (i := 3) (u := x3) (show d < b + 1 by omega)).form (by omega)
  exact ⟨a, cap, rfl, hs, hc⟩

theorem lv_end {r : Rs} {s : List UInt8} {K : Int} {X : List UInt8} (h0 : r.part = 0) (h : Pt.quB Pt.outW s = none) (hk : Pt.endK s = K) (hx : Pt.endX s = X) (hn : K ≠ 0) : Pt.lineV r s = some ⟨{ r.o with st := K, exn := X }, 1⟩ := by
  rw [line_end h0 h, hk, hx, if_neg hn]

theorem lv_noend {r : Rs} {s : List UInt8} {K : Int} (h0 : r.part = 0) (h : Pt.quB Pt.outW s = none) (hk : Pt.endK s = K) (hn : K = 0) : Pt.lineV r s = none := by
  rw [line_end h0 h, hk, if_pos hn]

theorem lv_step {r : Rs} {s : List UInt8} {S : Int} (h0 : r.part = 1) (hk : Pt.stepV s = S) (hn : ¬ S < 0) : Pt.lineV r s = some ⟨{ r.o with steps := S }, 2⟩ := by
  unfold Pt.lineV; rw [if_neg (by omega), if_pos h0, hk, if_neg hn]

theorem lv_nostep {r : Rs} {s : List UInt8} {S : Int} (h0 : r.part = 1) (hk : Pt.stepV s = S) (hn : S < 0) : Pt.lineV r s = none := by
  unfold Pt.lineV; rw [if_neg (by omega), if_pos h0, hk, if_pos hn]

theorem lv_two {r : Rs} {s : List UInt8} (h0 : r.part = 2) : Pt.lineV r s = none := by
  unfold Pt.lineV; rw [if_neg (by omega), if_neg (by omega)]

set_option maxHeartbeats 4000000 in
set_option maxRecDepth 8000 in
theorem rread_any (l : List UInt8) (w : World) (hl0 : l.length ≤ 140737488351232) : Calls Tryz.prog 6 #[.string ⟨l.toArray⟩] w (RdR w l) := by
  by_cases h1 : 1048576 < l.length
  · have HE := Lib.hid (Pt.rr_long h1)
    have k1 : decide ((1048576 : Int) < (l.length : Int)) = true := decide_eq_true (by omega)
    clear h1 hl0
    go_enter Tryz.func6, Tryz.ntmps6
    go_wp2_with fail
    (try simp only [Exit.inBlock, Exit.then]); refine bodyPost_ret (results_cell3 rfl _ _ w.heap.size 25 #[.slice none 0 0, .int .i64 0, .string ⟨#[]⟩, .int .i64 0] (0, 0) _ rfl (heap_alloc_new _ _) rfl rfl rfl) rfl ?_
    exact RdR.bad HE.out.1 HE.out.2.1 HE.out.2.2 ((Below.refl _ _).alloc (Nat.le_refl _) _)
  · have k1 : decide ((1048576 : Int) < (l.length : Int)) = false := decide_eq_false (by omega)
    have HL := Lib.hid (show l.length ≤ 1048576 by omega)
    have hlm : l.length ≤ 1048576 := by omega
    clear h1 hl0
    go_enter Tryz.func6, Tryz.ntmps6
    go_wp2_with fail
    go_loopw [5, 6, 7] (fun vl vf vi wr => ∃ (k f : Nat) (d : List (List UInt8)), vi = .int .i64 k ∧ vf = .int .i64 f ∧ k ≤ l.length ∧ f ≤ k ∧ d.length ≤ k ∧ OwnS wr (w.heap.size + 1) vl d ∧ Below (w.heap.size + 1) (w.alloc (.cells #[.slice none 0 0, .int .i64 0, .string ⟨#[]⟩, .int .i64 0] 25)) wr ∧ Hid (SplitAt l k f d)) (fun _ _ vi _ => l.length - (intOf vi).toNat)
    case atStart => exact ⟨0, 0, [], rfl, rfl, by omega, by omega, by simp, OwnS.nil _ _, Below.refl _ _, Lib.hid (SplitAt.start l)⟩
    case round =>
      obtain ⟨k, f, d, rfl, rfl, hk, hf, hd, hown, hbw, HS⟩ := hrel
      have hsz := hbw.size
      simp only [World.size_alloc] at hsz
      by_cases hlt : k < l.length
      · obtain ⟨x, hxl⟩ : ∃ x, l[k] = x := ⟨_, rfl⟩
        have hx : l[k]? = some x := by rw [List.getElem?_eq_getElem hlt, hxl]
        by_cases h10 : x = 10
        · subst h10
          have hn := HS.out.nl hx
          rw [drop_take_eq] at hn
          have HN := Lib.hid hn
          clear hx hn
          go_wp2_with (at_builtin; refine app_strs hown rfl _ _ rfl ((l.drop f).take (k - f)) _ rfl rfl (by omega) hsz ?_; intro v' w1 hown1 hb1)
          go_roundw
          case rel => exact ⟨k + 1, k + 1, _, by go_num, by go_num, by omega, by omega, by simp; omega, hown1, hbw.trans hb1, HN⟩
          case measure => simp [intOf]; omega
        · have HN := Lib.hid (HS.out.no hx h10)
          have k1 : ((x.toNat : Int) == 10) = false := St.nbeq (y := 10) h10
          clear hx h10
          go_wp2_with fail
          go_roundw
          case rel => exact ⟨k + 1, f, d, by go_num, rfl, by omega, by omega, by omega, hown, hbw, HN⟩
          case measure => simp [intOf]; omega
      · obtain rfl : k = l.length := by omega
        have hp := HS.out.2
        rw [List.take_length] at hp
        have hll := Pt.linesL_of hp
        have hwh := Pt.whole_of hp
        have hdn : d.length ≤ 1048576 := by omega
        by_cases hfl : f < l.length
        · have hne : l.drop f ≠ [] := by intro e; have := congrArg List.length e; simp at this; omega
          rw [if_neg hne] at hll
          rw [decide_eq_false hne] at hwh
          have HW := Lib.hid hwh
          have HLL := Lib.hid hll
          have kf : ((f : Int) == (l.length : Int)) = false := by simp; omega
          clear hp hll hwh hne hlt
          go_wp2_with (at_builtin; refine app_strs hown rfl _ _ rfl (l.drop f) _ rfl rfl (by omega) hsz ?_; intro v' w1 hown1 hb1; obtain ⟨L, hLe⟩ : ∃ L, d ++ [l.drop f] = L := ⟨_, rfl⟩; rw [hLe] at hown1 HLL; have hLn : L.length ≤ 1048577 := (by rw [← hLe]; simp; omega); obtain ⟨a, cap, rfl, hcap, hst⟩ := hown1.form (by omega); have HCut := Lib.hid (RCut.mk1 HS.out HLL.out (hbw.trans hb1) hst); clear hLe hst hown1)
          go_loopw [10, 11] (fun va vi wq => ∃ (k : Nat) (vo : Value) (r : Rs), va = .int .i64 r.part ∧ vi = .int .i64 k ∧ k ≤ L.length ∧ RLp w w1 wq vo r.o ∧ Hid (Pt.ReadAt l L k r)) (fun _ vi _ => L.length - (intOf vi).toNat)
          case atStart => exact ⟨0, _, Pt.rs0, rfl, rfl, Nat.zero_le _, RLp.start w w1, Lib.hid (Pt.ReadAt.start HCut.out.lines)⟩
          case round =>
            obtain ⟨k, vo, ⟨⟨ro, rst, rx, rn⟩, rp⟩, rfl, rfl, hk, hRL, HRA⟩ := hrel
            obtain ⟨q1, q2, q3, q4, q5, q6, q7⟩ := HRA.out
            by_cases hlt : k < L.length
            · obtain ⟨bL, off, rfl, _, hcell⟩ := hRL.cell HCut.out hlt
              obtain ⟨x, hx⟩ : ∃ x, L.getD k [] = x := ⟨_, rfl⟩
              rw [hx] at hcell
              have hxl := HCut.out.len k hlt
              rw [hx] at hxl
              have hxm : x.length ≤ 1048576 := by have := HL.out; omega
              have HX := Lib.hid hx
              have HLT := Lib.hid hlt
              have HOL := Lib.hid (show ro.length + 1 ≤ 8796093022208 by have := hLn; have h7 : ro.length ≤ k := q7; omega)
              have ce := fun W => rended_line x W hxm
              have cs := fun W => rsteps_any x W hxm
              obtain ⟨K, hKK⟩ : ∃ K, Pt.endK x = K := ⟨_, rfl⟩
              obtain ⟨X, hXX⟩ : ∃ K, Pt.endX x = K := ⟨_, rfl⟩
              obtain ⟨S, hSS⟩ : ∃ K, Pt.stepV x = K := ⟨_, rfl⟩
              rw [hKK, hXX] at ce
              rw [hSS] at cs
              have CE := Lib.hid ce
              have CS := Lib.hid cs
              have HKK := Lib.hid hKK
              have HXX := Lib.hid hXX
              have HSS := Lib.hid hSS
              have hq := quB_ref Pt.outW x
              replace q4 : 0 ≤ rp := q4
              replace q5 : rp ≤ 2 := q5
              clear ce cs hKK hXX hSS hx hxl q1 q2 q3 q6 q7
              cases hp : List.isPrefixOf [111, 117, 116, 32] x
              · rw [if_neg (by rw [show Pt.outW ++ [32] = [111, 117, 116, 32] from rfl, hp]; decide)] at hq
                have HNQ := Lib.hid hq
                have HCB := Lib.hid (fun W => bh_out_no x W hp)
                have hR0 := hRL
                clear hq hp hxm
                rcases (show rp = 0 ∨ rp = 1 ∨ rp = 2 by omega) with rfl | rfl | rfl
                · by_cases hK : K = 0
                  · have HQ := Lib.hid (Pt.rr_bad HRA.out HL.out HLT.out HX.out (lv_noend rfl HNQ.out HKK.out hK))
                    have kK : (K == 0) = true := by simp [hK]
                    have kL : (K != 0) = false := by simp [hK]
                    clear hK q4 q5
                    go_wp2_with (first
                      | (go_at_call 15; refine (HCB.out _).mono ?_; rintro e w' ⟨rfl, rfl⟩)
                      | (go_at_call 17; refine (CE.out _).mono ?_; rintro e wa ⟨rfl, hba⟩; have hRa := hR0.call hba; have hca := hRa.cell2 HCut.out HLT.out; rw [HX.out] at hca)
                      | (go_at_call 18; refine (CS.out _).mono ?_; rintro e wb ⟨rfl, hbb⟩; have hRb := hRa.call hbb; obtain ⟨⟨b0, b1, b2, b3⟩, x0, x1, x2, x3⟩ := hRb.st.blk.cells; have hrb := hRb.res HCut.out; obtain ⟨⟨d0, d1, d2, d3⟩, u0, u1, u2, u3⟩ := hrb.cells)
                      )
                    (try simp only [Exit.inBlock, Exit.then]); refine bodyPost_ret (results_cell3 rfl _ _ w.heap.size 25 _ (0, 0) _ rfl (res_set hrb _ _ _ _) rfl rfl rfl) rfl ?_
                    exact RdR.bad HQ.out.1 (by have := HQ.out.2.1; omega) HQ.out.2.2 (res_below (hRb.below HCut.out))
                  · have HN := Lib.hid (HRA.out.next HLT.out HX.out (lv_end rfl HNQ.out HKK.out HXX.out hK))
                    have kK : (K == 0) = false := by simp [hK]
                    have kL : (K != 0) = true := by simp [hK]
                    clear hK q4 q5
                    go_wp2_with (first
                      | (go_at_call 15; refine (HCB.out _).mono ?_; rintro e w' ⟨rfl, rfl⟩)
                      | (go_at_call 17; refine (CE.out _).mono ?_; rintro e wa ⟨rfl, hba⟩; have hRa := hR0.call hba; have hca := hRa.cell2 HCut.out HLT.out; rw [HX.out] at hca)
                      | (go_at_call 18; refine (CS.out _).mono ?_; rintro e wb ⟨rfl, hbb⟩; have hRb := hRa.call hbb; obtain ⟨⟨b0, b1, b2, b3⟩, x0, x1, x2, x3⟩ := hRb.st.blk.cells; have hrb := hRb.res HCut.out; obtain ⟨⟨d0, d1, d2, d3⟩, u0, u1, u2, u3⟩ := hrb.cells)
                      )
                    go_roundw
                    case rel => exact ⟨k + 1, _, _, rfl, by go_num, HLT.out, hRb.put ⟨(hRb.st.blk.set1 _).set2 _, (hRb.st.own.set (by omega)).set (by omega), by simp; exact hRb.st.sz⟩ ((Tch.set _ _ 1 _ _).trans (Tch.set _ _ 2 _ _)), HN⟩
                    case measure => have := HLT.out; simp [intOf]; omega
                · by_cases hS : S < 0
                  · have HQ := Lib.hid (Pt.rr_bad HRA.out HL.out HLT.out HX.out (lv_nostep rfl HSS.out hS))
                    have kS : decide (0 ≤ S) = false := decide_eq_false (by omega)
                    clear hS
                    go_wp2_with (first
                      | (go_at_call 15; refine (HCB.out _).mono ?_; rintro e w' ⟨rfl, rfl⟩)
                      | (go_at_call 17; refine (CE.out _).mono ?_; rintro e wa ⟨rfl, hba⟩; have hRa := hR0.call hba; have hca := hRa.cell2 HCut.out HLT.out; rw [HX.out] at hca)
                      | (go_at_call 18; refine (CS.out _).mono ?_; rintro e wb ⟨rfl, hbb⟩; have hRb := hRa.call hbb; obtain ⟨⟨b0, b1, b2, b3⟩, x0, x1, x2, x3⟩ := hRb.st.blk.cells; have hrb := hRb.res HCut.out; obtain ⟨⟨d0, d1, d2, d3⟩, u0, u1, u2, u3⟩ := hrb.cells)
                      )
                    (try simp only [Exit.inBlock, Exit.then]); refine bodyPost_ret (results_cell3 rfl _ _ w.heap.size 25 _ (0, 0) _ rfl (res_set hrb _ _ _ _) rfl rfl rfl) rfl ?_
                    exact RdR.bad HQ.out.1 (by have := HQ.out.2.1; omega) HQ.out.2.2 (res_below (hRb.below HCut.out))
                  · have HN := Lib.hid (HRA.out.next HLT.out HX.out (lv_step rfl HSS.out hS))
                    have kS : decide (0 ≤ S) = true := decide_eq_true (by omega)
                    clear hS
                    go_wp2_with (first
                      | (go_at_call 15; refine (HCB.out _).mono ?_; rintro e w' ⟨rfl, rfl⟩)
                      | (go_at_call 17; refine (CE.out _).mono ?_; rintro e wa ⟨rfl, hba⟩; have hRa := hR0.call hba; have hca := hRa.cell2 HCut.out HLT.out; rw [HX.out] at hca)
                      | (go_at_call 18; refine (CS.out _).mono ?_; rintro e wb ⟨rfl, hbb⟩; have hRb := hRa.call hbb; obtain ⟨⟨b0, b1, b2, b3⟩, x0, x1, x2, x3⟩ := hRb.st.blk.cells; have hrb := hRb.res HCut.out; obtain ⟨⟨d0, d1, d2, d3⟩, u0, u1, u2, u3⟩ := hrb.cells)
                      )
                    go_roundw
                    case rel => exact ⟨k + 1, _, _, rfl, by go_num, HLT.out, hRb.put ⟨hRb.st.blk.set3 _, hRb.st.own.set (by omega), by simp; exact hRb.st.sz⟩ (Tch.set _ _ 3 _ _), HN⟩
                    case measure => have := HLT.out; simp [intOf]; omega
                · have HQ := Lib.hid (Pt.rr_bad HRA.out HL.out HLT.out HX.out (lv_two rfl))
                  go_wp2_with (first
                    | (go_at_call 15; refine (HCB.out _).mono ?_; rintro e w' ⟨rfl, rfl⟩)
                    | (go_at_call 17; refine (CE.out _).mono ?_; rintro e wa ⟨rfl, hba⟩; have hRa := hR0.call hba; have hca := hRa.cell2 HCut.out HLT.out; rw [HX.out] at hca)
                    | (go_at_call 18; refine (CS.out _).mono ?_; rintro e wb ⟨rfl, hbb⟩; have hRb := hRa.call hbb; obtain ⟨⟨b0, b1, b2, b3⟩, x0, x1, x2, x3⟩ := hRb.st.blk.cells; have hrb := hRb.res HCut.out; obtain ⟨⟨d0, d1, d2, d3⟩, u0, u1, u2, u3⟩ := hrb.cells)
                    )
                  (try simp only [Exit.inBlock, Exit.then]); refine bodyPost_ret (results_cell3 rfl _ _ w.heap.size 25 _ (0, 0) _ rfl (res_set hrb _ _ _ _) rfl rfl rfl) rfl ?_
                  exact RdR.bad HQ.out.1 (by have := HQ.out.2.1; omega) HQ.out.2.2 (res_below (hRb.below HCut.out))
              · rw [if_pos (by rw [show Pt.outW ++ [32] = [111, 117, 116, 32] from rfl, hp])] at hq
                have HCB := Lib.hid (fun W => bh_out_yes x W hp)
                have cq := fun W => rquoted_any (x.drop 4) W (by simp; omega)
                replace hq : Pt.quB Pt.outW x = quRef (x.drop 4) := hq
                rw [← hq] at cq
                have hR00 := hRL
                cases hr : Pt.quB Pt.outW x with
                | none =>
                  rw [hr] at cq
                  have CQ := Lib.hid cq
                  have HNQ := Lib.hid hr
                  clear cq hq hp hxm hr
                  rcases (show rp = 0 ∨ rp = 1 ∨ rp = 2 by omega) with rfl | rfl | rfl
                  · by_cases hK : K = 0
                    · have HQ := Lib.hid (Pt.rr_bad HRA.out HL.out HLT.out HX.out (lv_noend rfl HNQ.out HKK.out hK))
                      have kK : (K == 0) = true := by simp [hK]
                      have kL : (K != 0) = false := by simp [hK]
                      clear hK q4 q5
                      go_wp2_with (first
                        | (go_at_call 15; refine (HCB.out _).mono ?_; rintro e w' ⟨rfl, rfl⟩)
                        | (go_at_call 16; refine (CQ.out _).mono ?_; rintro e wc ⟨⟨x', rfl, _⟩, hbc⟩; have hR0 := hR00.call hbc; have hcc := hR0.cell2 HCut.out HLT.out; rw [HX.out] at hcc; simp only [Option.isSome_none])
                        | (go_at_call 17; refine (CE.out _).mono ?_; rintro e wa ⟨rfl, hba⟩; have hRa := hR0.call hba; have hca := hRa.cell2 HCut.out HLT.out; rw [HX.out] at hca)
                        | (go_at_call 18; refine (CS.out _).mono ?_; rintro e wb ⟨rfl, hbb⟩; have hRb := hRa.call hbb; obtain ⟨⟨b0, b1, b2, b3⟩, x0, x1, x2, x3⟩ := hRb.st.blk.cells; have hrb := hRb.res HCut.out; obtain ⟨⟨d0, d1, d2, d3⟩, u0, u1, u2, u3⟩ := hrb.cells)
                        )
                      (try simp only [Exit.inBlock, Exit.then]); refine bodyPost_ret (results_cell3 rfl _ _ w.heap.size 25 _ (0, 0) _ rfl (res_set hrb _ _ _ _) rfl rfl rfl) rfl ?_
                      exact RdR.bad HQ.out.1 (by have := HQ.out.2.1; omega) HQ.out.2.2 (res_below (hRb.below HCut.out))
                    · have HN := Lib.hid (HRA.out.next HLT.out HX.out (lv_end rfl HNQ.out HKK.out HXX.out hK))
                      have kK : (K == 0) = false := by simp [hK]
                      have kL : (K != 0) = true := by simp [hK]
                      clear hK q4 q5
                      go_wp2_with (first
                        | (go_at_call 15; refine (HCB.out _).mono ?_; rintro e w' ⟨rfl, rfl⟩)
                        | (go_at_call 16; refine (CQ.out _).mono ?_; rintro e wc ⟨⟨x', rfl, _⟩, hbc⟩; have hR0 := hR00.call hbc; have hcc := hR0.cell2 HCut.out HLT.out; rw [HX.out] at hcc; simp only [Option.isSome_none])
                        | (go_at_call 17; refine (CE.out _).mono ?_; rintro e wa ⟨rfl, hba⟩; have hRa := hR0.call hba; have hca := hRa.cell2 HCut.out HLT.out; rw [HX.out] at hca)
                        | (go_at_call 18; refine (CS.out _).mono ?_; rintro e wb ⟨rfl, hbb⟩; have hRb := hRa.call hbb; obtain ⟨⟨b0, b1, b2, b3⟩, x0, x1, x2, x3⟩ := hRb.st.blk.cells; have hrb := hRb.res HCut.out; obtain ⟨⟨d0, d1, d2, d3⟩, u0, u1, u2, u3⟩ := hrb.cells)
                        )
                      go_roundw
                      case rel => exact ⟨k + 1, _, _, rfl, by go_num, HLT.out, hRb.put ⟨(hRb.st.blk.set1 _).set2 _, (hRb.st.own.set (by omega)).set (by omega), by simp; exact hRb.st.sz⟩ ((Tch.set _ _ 1 _ _).trans (Tch.set _ _ 2 _ _)), HN⟩
                      case measure => have := HLT.out; simp [intOf]; omega
                  · by_cases hS : S < 0
                    · have HQ := Lib.hid (Pt.rr_bad HRA.out HL.out HLT.out HX.out (lv_nostep rfl HSS.out hS))
                      have kS : decide (0 ≤ S) = false := decide_eq_false (by omega)
                      clear hS
                      go_wp2_with (first
                        | (go_at_call 15; refine (HCB.out _).mono ?_; rintro e w' ⟨rfl, rfl⟩)
                        | (go_at_call 16; refine (CQ.out _).mono ?_; rintro e wc ⟨⟨x', rfl, _⟩, hbc⟩; have hR0 := hR00.call hbc; have hcc := hR0.cell2 HCut.out HLT.out; rw [HX.out] at hcc; simp only [Option.isSome_none])
                        | (go_at_call 17; refine (CE.out _).mono ?_; rintro e wa ⟨rfl, hba⟩; have hRa := hR0.call hba; have hca := hRa.cell2 HCut.out HLT.out; rw [HX.out] at hca)
                        | (go_at_call 18; refine (CS.out _).mono ?_; rintro e wb ⟨rfl, hbb⟩; have hRb := hRa.call hbb; obtain ⟨⟨b0, b1, b2, b3⟩, x0, x1, x2, x3⟩ := hRb.st.blk.cells; have hrb := hRb.res HCut.out; obtain ⟨⟨d0, d1, d2, d3⟩, u0, u1, u2, u3⟩ := hrb.cells)
                        )
                      (try simp only [Exit.inBlock, Exit.then]); refine bodyPost_ret (results_cell3 rfl _ _ w.heap.size 25 _ (0, 0) _ rfl (res_set hrb _ _ _ _) rfl rfl rfl) rfl ?_
                      exact RdR.bad HQ.out.1 (by have := HQ.out.2.1; omega) HQ.out.2.2 (res_below (hRb.below HCut.out))
                    · have HN := Lib.hid (HRA.out.next HLT.out HX.out (lv_step rfl HSS.out hS))
                      have kS : decide (0 ≤ S) = true := decide_eq_true (by omega)
                      clear hS
                      go_wp2_with (first
                        | (go_at_call 15; refine (HCB.out _).mono ?_; rintro e w' ⟨rfl, rfl⟩)
                        | (go_at_call 16; refine (CQ.out _).mono ?_; rintro e wc ⟨⟨x', rfl, _⟩, hbc⟩; have hR0 := hR00.call hbc; have hcc := hR0.cell2 HCut.out HLT.out; rw [HX.out] at hcc; simp only [Option.isSome_none])
                        | (go_at_call 17; refine (CE.out _).mono ?_; rintro e wa ⟨rfl, hba⟩; have hRa := hR0.call hba; have hca := hRa.cell2 HCut.out HLT.out; rw [HX.out] at hca)
                        | (go_at_call 18; refine (CS.out _).mono ?_; rintro e wb ⟨rfl, hbb⟩; have hRb := hRa.call hbb; obtain ⟨⟨b0, b1, b2, b3⟩, x0, x1, x2, x3⟩ := hRb.st.blk.cells; have hrb := hRb.res HCut.out; obtain ⟨⟨d0, d1, d2, d3⟩, u0, u1, u2, u3⟩ := hrb.cells)
                        )
                      go_roundw
                      case rel => exact ⟨k + 1, _, _, rfl, by go_num, HLT.out, hRb.put ⟨hRb.st.blk.set3 _, hRb.st.own.set (by omega), by simp; exact hRb.st.sz⟩ (Tch.set _ _ 3 _ _), HN⟩
                      case measure => have := HLT.out; simp [intOf]; omega
                  · have HQ := Lib.hid (Pt.rr_bad HRA.out HL.out HLT.out HX.out (lv_two rfl))
                    go_wp2_with (first
                      | (go_at_call 15; refine (HCB.out _).mono ?_; rintro e w' ⟨rfl, rfl⟩)
                      | (go_at_call 16; refine (CQ.out _).mono ?_; rintro e wc ⟨⟨x', rfl, _⟩, hbc⟩; have hR0 := hR00.call hbc; have hcc := hR0.cell2 HCut.out HLT.out; rw [HX.out] at hcc; simp only [Option.isSome_none])
                      | (go_at_call 17; refine (CE.out _).mono ?_; rintro e wa ⟨rfl, hba⟩; have hRa := hR0.call hba; have hca := hRa.cell2 HCut.out HLT.out; rw [HX.out] at hca)
                      | (go_at_call 18; refine (CS.out _).mono ?_; rintro e wb ⟨rfl, hbb⟩; have hRb := hRa.call hbb; obtain ⟨⟨b0, b1, b2, b3⟩, x0, x1, x2, x3⟩ := hRb.st.blk.cells; have hrb := hRb.res HCut.out; obtain ⟨⟨d0, d1, d2, d3⟩, u0, u1, u2, u3⟩ := hrb.cells)
                      )
                    (try simp only [Exit.inBlock, Exit.then]); refine bodyPost_ret (results_cell3 rfl _ _ w.heap.size 25 _ (0, 0) _ rfl (res_set hrb _ _ _ _) rfl rfl rfl) rfl ?_
                    exact RdR.bad HQ.out.1 (by have := HQ.out.2.1; omega) HQ.out.2.2 (res_below (hRb.below HCut.out))
                | some t =>
                  rw [hr] at cq
                  have CQ := Lib.hid cq
                  have HNQ := Lib.hid hr
                  clear cq hq hp hxm hr
                  rcases (show rp = 0 ∨ rp = 1 ∨ rp = 2 by omega) with rfl | rfl | rfl
                  · have HN := Lib.hid (HRA.out.next HLT.out HX.out (line_out rfl HNQ.out))
                    clear q4 q5
                    go_wp2_with (first
                      | (go_at_call 15; refine (HCB.out _).mono ?_; rintro e w' ⟨rfl, rfl⟩)
                      | (go_at_call 16; refine (CQ.out _).mono ?_; rintro e wc ⟨⟨x', rfl, hx2⟩, hbc⟩; obtain rfl := hx2 _ rfl; have hR0 := hR00.call hbc; have hcc := hR0.cell2 HCut.out HLT.out; rw [HX.out] at hcc; simp only [Option.isSome_some])
                      | (go_at_call 17; refine (CE.out _).mono ?_; rintro e wa ⟨rfl, hba⟩; have hRa := hR0.call hba; have hca := hRa.cell2 HCut.out HLT.out; rw [HX.out] at hca)
                      | (go_at_call 18; refine (CS.out _).mono ?_; rintro e wb ⟨rfl, hbb⟩; have hRb := hRa.call hbb; obtain ⟨⟨b0, b1, b2, b3⟩, x0, x1, x2, x3⟩ := hRb.st.blk.cells; have hrb := hRb.res HCut.out; obtain ⟨⟨d0, d1, d2, d3⟩, u0, u1, u2, u3⟩ := hrb.cells)
                      | (at_builtin; refine app_box2 hRb.st rfl _ _ rfl x' _ rfl rfl HOL.out ?_; intro g n cap V z0 z1 hO2 hT2)
                      )
                    go_roundw
                    case rel => exact ⟨k + 1, _, _, rfl, by go_num, HLT.out, hRb.put hO2 hT2, HN⟩
                    case measure => have := HLT.out; simp [intOf]; omega
                  · by_cases hS : S < 0
                    · have HQ := Lib.hid (Pt.rr_bad HRA.out HL.out HLT.out HX.out (lv_nostep rfl HSS.out hS))
                      have kS : decide (0 ≤ S) = false := decide_eq_false (by omega)
                      clear hS
                      go_wp2_with (first
                        | (go_at_call 15; refine (HCB.out _).mono ?_; rintro e w' ⟨rfl, rfl⟩)
                        | (go_at_call 16; refine (CQ.out _).mono ?_; rintro e wc ⟨⟨x', rfl, hx2⟩, hbc⟩; obtain rfl := hx2 _ rfl; have hR0 := hR00.call hbc; have hcc := hR0.cell2 HCut.out HLT.out; rw [HX.out] at hcc; simp only [Option.isSome_some])
                        | (go_at_call 17; refine (CE.out _).mono ?_; rintro e wa ⟨rfl, hba⟩; have hRa := hR0.call hba; have hca := hRa.cell2 HCut.out HLT.out; rw [HX.out] at hca)
                        | (go_at_call 18; refine (CS.out _).mono ?_; rintro e wb ⟨rfl, hbb⟩; have hRb := hRa.call hbb; obtain ⟨⟨b0, b1, b2, b3⟩, x0, x1, x2, x3⟩ := hRb.st.blk.cells; have hrb := hRb.res HCut.out; obtain ⟨⟨d0, d1, d2, d3⟩, u0, u1, u2, u3⟩ := hrb.cells)
                        | (at_builtin; refine app_box2 hRb.st rfl _ _ rfl x' _ rfl rfl HOL.out ?_; intro g n cap V z0 z1 hO2 hT2)
                        )
                      (try simp only [Exit.inBlock, Exit.then]); refine bodyPost_ret (results_cell3 rfl _ _ w.heap.size 25 _ (0, 0) _ rfl (res_set hrb _ _ _ _) rfl rfl rfl) rfl ?_
                      exact RdR.bad HQ.out.1 (by have := HQ.out.2.1; omega) HQ.out.2.2 (res_below (hRb.below HCut.out))
                    · have HN := Lib.hid (HRA.out.next HLT.out HX.out (lv_step rfl HSS.out hS))
                      have kS : decide (0 ≤ S) = true := decide_eq_true (by omega)
                      clear hS
                      go_wp2_with (first
                        | (go_at_call 15; refine (HCB.out _).mono ?_; rintro e w' ⟨rfl, rfl⟩)
                        | (go_at_call 16; refine (CQ.out _).mono ?_; rintro e wc ⟨⟨x', rfl, hx2⟩, hbc⟩; obtain rfl := hx2 _ rfl; have hR0 := hR00.call hbc; have hcc := hR0.cell2 HCut.out HLT.out; rw [HX.out] at hcc; simp only [Option.isSome_some])
                        | (go_at_call 17; refine (CE.out _).mono ?_; rintro e wa ⟨rfl, hba⟩; have hRa := hR0.call hba; have hca := hRa.cell2 HCut.out HLT.out; rw [HX.out] at hca)
                        | (go_at_call 18; refine (CS.out _).mono ?_; rintro e wb ⟨rfl, hbb⟩; have hRb := hRa.call hbb; obtain ⟨⟨b0, b1, b2, b3⟩, x0, x1, x2, x3⟩ := hRb.st.blk.cells; have hrb := hRb.res HCut.out; obtain ⟨⟨d0, d1, d2, d3⟩, u0, u1, u2, u3⟩ := hrb.cells)
                        | (at_builtin; refine app_box2 hRb.st rfl _ _ rfl x' _ rfl rfl HOL.out ?_; intro g n cap V z0 z1 hO2 hT2)
                        )
                      go_roundw
                      case rel => exact ⟨k + 1, _, _, rfl, by go_num, HLT.out, hRb.put ⟨hRb.st.blk.set3 _, hRb.st.own.set (by omega), by simp; exact hRb.st.sz⟩ (Tch.set _ _ 3 _ _), HN⟩
                      case measure => have := HLT.out; simp [intOf]; omega
                  · have HQ := Lib.hid (Pt.rr_bad HRA.out HL.out HLT.out HX.out (lv_two rfl))
                    go_wp2_with (first
                      | (go_at_call 15; refine (HCB.out _).mono ?_; rintro e w' ⟨rfl, rfl⟩)
                      | (go_at_call 16; refine (CQ.out _).mono ?_; rintro e wc ⟨⟨x', rfl, hx2⟩, hbc⟩; obtain rfl := hx2 _ rfl; have hR0 := hR00.call hbc; have hcc := hR0.cell2 HCut.out HLT.out; rw [HX.out] at hcc; simp only [Option.isSome_some])
                      | (go_at_call 17; refine (CE.out _).mono ?_; rintro e wa ⟨rfl, hba⟩; have hRa := hR0.call hba; have hca := hRa.cell2 HCut.out HLT.out; rw [HX.out] at hca)
                      | (go_at_call 18; refine (CS.out _).mono ?_; rintro e wb ⟨rfl, hbb⟩; have hRb := hRa.call hbb; obtain ⟨⟨b0, b1, b2, b3⟩, x0, x1, x2, x3⟩ := hRb.st.blk.cells; have hrb := hRb.res HCut.out; obtain ⟨⟨d0, d1, d2, d3⟩, u0, u1, u2, u3⟩ := hrb.cells)
                      | (at_builtin; refine app_box2 hRb.st rfl _ _ rfl x' _ rfl rfl HOL.out ?_; intro g n cap V z0 z1 hO2 hT2)
                      )
                    (try simp only [Exit.inBlock, Exit.then]); refine bodyPost_ret (results_cell3 rfl _ _ w.heap.size 25 _ (0, 0) _ rfl (res_set hrb _ _ _ _) rfl rfl rfl) rfl ?_
                    exact RdR.bad HQ.out.1 (by have := HQ.out.2.1; omega) HQ.out.2.2 (res_below (hRb.below HCut.out))
            · obtain rfl : k = L.length := by omega
              have h7 : ro.length ≤ L.length := q7
              have h5 : rp ≤ 2 := q5
              obtain ⟨pa, pc, rfl, _, _⟩ := hRL.st.own.form (show ro.length ≤ _ by have := hLn; omega)
              have hres := hRL.res HCut.out
              obtain ⟨⟨d0, d1, d2, d3⟩, u0, u1, u2, u3⟩ := hres.cells
              obtain ⟨⟨b0, b1, b2, b3⟩, x0, x1, x2, x3⟩ := hRL.st.blk.cells
              have HRB := Lib.hid hres
              have HRL := Lib.hid hRL
              have H7 := Lib.hid h7
              have HLn := Lib.hid hLn
              by_cases hp : rp = 2 ∧ false = true
              · first
                | (exact absurd hp.2 (by decide))
                | (have HQ := Lib.hid (Pt.rr_fine HRA.out HL.out (HW.out.trans hp.2) hp.1)
                   obtain rfl := hp.1
                   clear hres hRL hp q1 q2 q3 q4 q5 q6 q7 h7 h5
                   go_wp2_with fail
                   (try simp only [Exit.inBlock, Exit.then]); refine bodyPost_ret (results_cell3 rfl _ _ w.heap.size 25 _ (0, 0) _ rfl (res_set HRB.out _ _ _ _) rfl rfl rfl) rfl ?_
                   exact RdR.good HQ.out.1 HQ.out.2.1 HQ.out.2.2 (oc_box3 HRL.out.st H7.out HLn.out HCut.out.lt) (res_below (HRL.out.below HCut.out)))
              · have HQ := Lib.hid (Pt.rr_stop HRA.out HL.out (by
                  by_cases h : rp = 2
                  · exact .inl (HW.out.trans (Bool.eq_false_iff.2 (fun g => hp ⟨h, g⟩)))
                  · exact .inr h))
                have kp : (false = true) → (rp != 2) = true := fun h => by
                  have : rp ≠ 2 := fun g => hp ⟨g, h⟩
                  simpa using this
                have kq : (false = true) → (rp == 2) = false := fun h => by
                  have : rp ≠ 2 := fun g => hp ⟨g, h⟩
                  simpa using this
                clear hres hRL hp q1 q2 q3 q4 q5 q6 q7 h7 h5
                skip
                by_cases hz : L.length = 0
                · rw [if_pos hz] at HQ
                  have kz : ((L.length : Int) == 0) = true := by rw [beq_iff_eq]; omega
                  go_wp2_with fail
                  all_goals ((try simp only [Exit.inBlock, Exit.then]); refine bodyPost_ret (results_cell3 rfl _ _ w.heap.size 25 _ (0, 0) _ rfl (res_set HRB.out _ _ _ _) rfl rfl rfl) rfl ?_)
                  all_goals exact RdR.bad HQ.out.1 HQ.out.2.1 HQ.out.2.2 (res_below (HRL.out.below HCut.out))
                · rw [if_neg hz] at HQ
                  have kz : ((L.length : Int) == 0) = false := by rw [beq_eq_false_iff_ne]; omega
                  go_wp2_with fail
                  all_goals ((try simp only [Exit.inBlock, Exit.then]); refine bodyPost_ret (results_cell3 rfl _ _ w.heap.size 25 _ (0, 0) _ rfl (res_set HRB.out _ _ _ _) rfl rfl rfl) rfl ?_)
                  all_goals exact RdR.bad HQ.out.1 HQ.out.2.1 HQ.out.2.2 (res_below (HRL.out.below HCut.out))
        · obtain rfl : f = l.length := by omega
          have hne : l.drop l.length = [] := List.drop_length
          rw [if_pos hne] at hll
          rw [decide_eq_true hne] at hwh
          have HW := Lib.hid hwh
          have kf : ((l.length : Int) == (l.length : Int)) = true := by simp
          have HLL := Lib.hid hll
          obtain ⟨L, hLe⟩ : ∃ L, L = d := ⟨_, rfl⟩
          subst hLe
          obtain ⟨w1, hwe⟩ : ∃ W, W = wr := ⟨_, rfl⟩
          subst hwe
          have hLn : L.length ≤ 1048577 := by omega
          obtain ⟨a, cap, rfl, hcap, hst⟩ := hown.form (by omega)
          have HCut := Lib.hid (RCut.mk1 HS.out HLL.out hbw hst)
          clear hp hll hwh hne hlt hst hown hfl hf hk hd
          go_wp2_with fail
          go_loopw [10, 11] (fun va vi wq => ∃ (k : Nat) (vo : Value) (r : Rs), va = .int .i64 r.part ∧ vi = .int .i64 k ∧ k ≤ L.length ∧ RLp w w1 wq vo r.o ∧ Hid (Pt.ReadAt l L k r)) (fun _ vi _ => L.length - (intOf vi).toNat)
          case atStart => exact ⟨0, _, Pt.rs0, rfl, rfl, Nat.zero_le _, RLp.start w w1, Lib.hid (Pt.ReadAt.start HCut.out.lines)⟩
          case round =>
            obtain ⟨k, vo, ⟨⟨ro, rst, rx, rn⟩, rp⟩, rfl, rfl, hk, hRL, HRA⟩ := hrel
            obtain ⟨q1, q2, q3, q4, q5, q6, q7⟩ := HRA.out
            by_cases hlt : k < L.length
            · obtain ⟨bL, off, rfl, _, hcell⟩ := hRL.cell HCut.out hlt
              obtain ⟨x, hx⟩ : ∃ x, L.getD k [] = x := ⟨_, rfl⟩
              rw [hx] at hcell
              have hxl := HCut.out.len k hlt
              rw [hx] at hxl
              have hxm : x.length ≤ 1048576 := by have := HL.out; omega
              have HX := Lib.hid hx
              have HLT := Lib.hid hlt
              have HOL := Lib.hid (show ro.length + 1 ≤ 8796093022208 by have := hLn; have h7 : ro.length ≤ k := q7; omega)
              have ce := fun W => rended_line x W hxm
              have cs := fun W => rsteps_any x W hxm
              obtain ⟨K, hKK⟩ : ∃ K, Pt.endK x = K := ⟨_, rfl⟩
              obtain ⟨X, hXX⟩ : ∃ K, Pt.endX x = K := ⟨_, rfl⟩
              obtain ⟨S, hSS⟩ : ∃ K, Pt.stepV x = K := ⟨_, rfl⟩
              rw [hKK, hXX] at ce
              rw [hSS] at cs
              have CE := Lib.hid ce
              have CS := Lib.hid cs
              have HKK := Lib.hid hKK
              have HXX := Lib.hid hXX
              have HSS := Lib.hid hSS
              have hq := quB_ref Pt.outW x
              replace q4 : 0 ≤ rp := q4
              replace q5 : rp ≤ 2 := q5
              clear ce cs hKK hXX hSS hx hxl q1 q2 q3 q6 q7
              cases hp : List.isPrefixOf [111, 117, 116, 32] x
              · rw [if_neg (by rw [show Pt.outW ++ [32] = [111, 117, 116, 32] from rfl, hp]; decide)] at hq
                have HNQ := Lib.hid hq
                have HCB := Lib.hid (fun W => bh_out_no x W hp)
                have hR0 := hRL
                clear hq hp hxm
                rcases (show rp = 0 ∨ rp = 1 ∨ rp = 2 by omega) with rfl | rfl | rfl
                · by_cases hK : K = 0
                  · have HQ := Lib.hid (Pt.rr_bad HRA.out HL.out HLT.out HX.out (lv_noend rfl HNQ.out HKK.out hK))
                    have kK : (K == 0) = true := by simp [hK]
                    have kL : (K != 0) = false := by simp [hK]
                    clear hK q4 q5
                    go_wp2_with (first
                      | (go_at_call 15; refine (HCB.out _).mono ?_; rintro e w' ⟨rfl, rfl⟩)
                      | (go_at_call 17; refine (CE.out _).mono ?_; rintro e wa ⟨rfl, hba⟩; have hRa := hR0.call hba; have hca := hRa.cell2 HCut.out HLT.out; rw [HX.out] at hca)
                      | (go_at_call 18; refine (CS.out _).mono ?_; rintro e wb ⟨rfl, hbb⟩; have hRb := hRa.call hbb; obtain ⟨⟨b0, b1, b2, b3⟩, x0, x1, x2, x3⟩ := hRb.st.blk.cells; have hrb := hRb.res HCut.out; obtain ⟨⟨d0, d1, d2, d3⟩, u0, u1, u2, u3⟩ := hrb.cells)
                      )
                    (try simp only [Exit.inBlock, Exit.then]); refine bodyPost_ret (results_cell3 rfl _ _ w.heap.size 25 _ (0, 0) _ rfl (res_set hrb _ _ _ _) rfl rfl rfl) rfl ?_
                    exact RdR.bad HQ.out.1 (by have := HQ.out.2.1; omega) HQ.out.2.2 (res_below (hRb.below HCut.out))
                  · have HN := Lib.hid (HRA.out.next HLT.out HX.out (lv_end rfl HNQ.out HKK.out HXX.out hK))
                    have kK : (K == 0) = false := by simp [hK]
                    have kL : (K != 0) = true := by simp [hK]
                    clear hK q4 q5
                    go_wp2_with (first
                      | (go_at_call 15; refine (HCB.out _).mono ?_; rintro e w' ⟨rfl, rfl⟩)
                      | (go_at_call 17; refine (CE.out _).mono ?_; rintro e wa ⟨rfl, hba⟩; have hRa := hR0.call hba; have hca := hRa.cell2 HCut.out HLT.out; rw [HX.out] at hca)
                      | (go_at_call 18; refine (CS.out _).mono ?_; rintro e wb ⟨rfl, hbb⟩; have hRb := hRa.call hbb; obtain ⟨⟨b0, b1, b2, b3⟩, x0, x1, x2, x3⟩ := hRb.st.blk.cells; have hrb := hRb.res HCut.out; obtain ⟨⟨d0, d1, d2, d3⟩, u0, u1, u2, u3⟩ := hrb.cells)
                      )
                    go_roundw
                    case rel => exact ⟨k + 1, _, _, rfl, by go_num, HLT.out, hRb.put ⟨(hRb.st.blk.set1 _).set2 _, (hRb.st.own.set (by omega)).set (by omega), by simp; exact hRb.st.sz⟩ ((Tch.set _ _ 1 _ _).trans (Tch.set _ _ 2 _ _)), HN⟩
                    case measure => have := HLT.out; simp [intOf]; omega
                · by_cases hS : S < 0
                  · have HQ := Lib.hid (Pt.rr_bad HRA.out HL.out HLT.out HX.out (lv_nostep rfl HSS.out hS))
                    have kS : decide (0 ≤ S) = false := decide_eq_false (by omega)
                    clear hS
                    go_wp2_with (first
                      | (go_at_call 15; refine (HCB.out _).mono ?_; rintro e w' ⟨rfl, rfl⟩)
                      | (go_at_call 17; refine (CE.out _).mono ?_; rintro e wa ⟨rfl, hba⟩; have hRa := hR0.call hba; have hca := hRa.cell2 HCut.out HLT.out; rw [HX.out] at hca)
                      | (go_at_call 18; refine (CS.out _).mono ?_; rintro e wb ⟨rfl, hbb⟩; have hRb := hRa.call hbb; obtain ⟨⟨b0, b1, b2, b3⟩, x0, x1, x2, x3⟩ := hRb.st.blk.cells; have hrb := hRb.res HCut.out; obtain ⟨⟨d0, d1, d2, d3⟩, u0, u1, u2, u3⟩ := hrb.cells)
                      )
                    (try simp only [Exit.inBlock, Exit.then]); refine bodyPost_ret (results_cell3 rfl _ _ w.heap.size 25 _ (0, 0) _ rfl (res_set hrb _ _ _ _) rfl rfl rfl) rfl ?_
                    exact RdR.bad HQ.out.1 (by have := HQ.out.2.1; omega) HQ.out.2.2 (res_below (hRb.below HCut.out))
                  · have HN := Lib.hid (HRA.out.next HLT.out HX.out (lv_step rfl HSS.out hS))
                    have kS : decide (0 ≤ S) = true := decide_eq_true (by omega)
                    clear hS
                    go_wp2_with (first
                      | (go_at_call 15; refine (HCB.out _).mono ?_; rintro e w' ⟨rfl, rfl⟩)
                      | (go_at_call 17; refine (CE.out _).mono ?_; rintro e wa ⟨rfl, hba⟩; have hRa := hR0.call hba; have hca := hRa.cell2 HCut.out HLT.out; rw [HX.out] at hca)
                      | (go_at_call 18; refine (CS.out _).mono ?_; rintro e wb ⟨rfl, hbb⟩; have hRb := hRa.call hbb; obtain ⟨⟨b0, b1, b2, b3⟩, x0, x1, x2, x3⟩ := hRb.st.blk.cells; have hrb := hRb.res HCut.out; obtain ⟨⟨d0, d1, d2, d3⟩, u0, u1, u2, u3⟩ := hrb.cells)
                      )
                    go_roundw
                    case rel => exact ⟨k + 1, _, _, rfl, by go_num, HLT.out, hRb.put ⟨hRb.st.blk.set3 _, hRb.st.own.set (by omega), by simp; exact hRb.st.sz⟩ (Tch.set _ _ 3 _ _), HN⟩
                    case measure => have := HLT.out; simp [intOf]; omega
                · have HQ := Lib.hid (Pt.rr_bad HRA.out HL.out HLT.out HX.out (lv_two rfl))
                  go_wp2_with (first
                    | (go_at_call 15; refine (HCB.out _).mono ?_; rintro e w' ⟨rfl, rfl⟩)
                    | (go_at_call 17; refine (CE.out _).mono ?_; rintro e wa ⟨rfl, hba⟩; have hRa := hR0.call hba; have hca := hRa.cell2 HCut.out HLT.out; rw [HX.out] at hca)
                    | (go_at_call 18; refine (CS.out _).mono ?_; rintro e wb ⟨rfl, hbb⟩; have hRb := hRa.call hbb; obtain ⟨⟨b0, b1, b2, b3⟩, x0, x1, x2, x3⟩ := hRb.st.blk.cells; have hrb := hRb.res HCut.out; obtain ⟨⟨d0, d1, d2, d3⟩, u0, u1, u2, u3⟩ := hrb.cells)
                    )
                  (try simp only [Exit.inBlock, Exit.then]); refine bodyPost_ret (results_cell3 rfl _ _ w.heap.size 25 _ (0, 0) _ rfl (res_set hrb _ _ _ _) rfl rfl rfl) rfl ?_
                  exact RdR.bad HQ.out.1 (by have := HQ.out.2.1; omega) HQ.out.2.2 (res_below (hRb.below HCut.out))
              · rw [if_pos (by rw [show Pt.outW ++ [32] = [111, 117, 116, 32] from rfl, hp])] at hq
                have HCB := Lib.hid (fun W => bh_out_yes x W hp)
                have cq := fun W => rquoted_any (x.drop 4) W (by simp; omega)
                replace hq : Pt.quB Pt.outW x = quRef (x.drop 4) := hq
                rw [← hq] at cq
                have hR00 := hRL
                cases hr : Pt.quB Pt.outW x with
                | none =>
                  rw [hr] at cq
                  have CQ := Lib.hid cq
                  have HNQ := Lib.hid hr
                  clear cq hq hp hxm hr
                  rcases (show rp = 0 ∨ rp = 1 ∨ rp = 2 by omega) with rfl | rfl | rfl
                  · by_cases hK : K = 0
                    · have HQ := Lib.hid (Pt.rr_bad HRA.out HL.out HLT.out HX.out (lv_noend rfl HNQ.out HKK.out hK))
                      have kK : (K == 0) = true := by simp [hK]
                      have kL : (K != 0) = false := by simp [hK]
                      clear hK q4 q5
                      go_wp2_with (first
                        | (go_at_call 15; refine (HCB.out _).mono ?_; rintro e w' ⟨rfl, rfl⟩)
                        | (go_at_call 16; refine (CQ.out _).mono ?_; rintro e wc ⟨⟨x', rfl, _⟩, hbc⟩; have hR0 := hR00.call hbc; have hcc := hR0.cell2 HCut.out HLT.out; rw [HX.out] at hcc; simp only [Option.isSome_none])
                        | (go_at_call 17; refine (CE.out _).mono ?_; rintro e wa ⟨rfl, hba⟩; have hRa := hR0.call hba; have hca := hRa.cell2 HCut.out HLT.out; rw [HX.out] at hca)
                        | (go_at_call 18; refine (CS.out _).mono ?_; rintro e wb ⟨rfl, hbb⟩; have hRb := hRa.call hbb; obtain ⟨⟨b0, b1, b2, b3⟩, x0, x1, x2, x3⟩ := hRb.st.blk.cells; have hrb := hRb.res HCut.out; obtain ⟨⟨d0, d1, d2, d3⟩, u0, u1, u2, u3⟩ := hrb.cells)
                        )
                      (try simp only [Exit.inBlock, Exit.then]); refine bodyPost_ret (results_cell3 rfl _ _ w.heap.size 25 _ (0, 0) _ rfl (res_set hrb _ _ _ _) rfl rfl rfl) rfl ?_
                      exact RdR.bad HQ.out.1 (by have := HQ.out.2.1; omega) HQ.out.2.2 (res_below (hRb.below HCut.out))
                    · have HN := Lib.hid (HRA.out.next HLT.out HX.out (lv_end rfl HNQ.out HKK.out HXX.out hK))
                      have kK : (K == 0) = false := by simp [hK]
                      have kL : (K != 0) = true := by simp [hK]
                      clear hK q4 q5
                      go_wp2_with (first
                        | (go_at_call 15; refine (HCB.out _).mono ?_; rintro e w' ⟨rfl, rfl⟩)
                        | (go_at_call 16; refine (CQ.out _).mono ?_; rintro e wc ⟨⟨x', rfl, _⟩, hbc⟩; have hR0 := hR00.call hbc; have hcc := hR0.cell2 HCut.out HLT.out; rw [HX.out] at hcc; simp only [Option.isSome_none])
                        | (go_at_call 17; refine (CE.out _).mono ?_; rintro e wa ⟨rfl, hba⟩; have hRa := hR0.call hba; have hca := hRa.cell2 HCut.out HLT.out; rw [HX.out] at hca)
                        | (go_at_call 18; refine (CS.out _).mono ?_; rintro e wb ⟨rfl, hbb⟩; have hRb := hRa.call hbb; obtain ⟨⟨b0, b1, b2, b3⟩, x0, x1, x2, x3⟩ := hRb.st.blk.cells; have hrb := hRb.res HCut.out; obtain ⟨⟨d0, d1, d2, d3⟩, u0, u1, u2, u3⟩ := hrb.cells)
                        )
                      go_roundw
                      case rel => exact ⟨k + 1, _, _, rfl, by go_num, HLT.out, hRb.put ⟨(hRb.st.blk.set1 _).set2 _, (hRb.st.own.set (by omega)).set (by omega), by simp; exact hRb.st.sz⟩ ((Tch.set _ _ 1 _ _).trans (Tch.set _ _ 2 _ _)), HN⟩
                      case measure => have := HLT.out; simp [intOf]; omega
                  · by_cases hS : S < 0
                    · have HQ := Lib.hid (Pt.rr_bad HRA.out HL.out HLT.out HX.out (lv_nostep rfl HSS.out hS))
                      have kS : decide (0 ≤ S) = false := decide_eq_false (by omega)
                      clear hS
                      go_wp2_with (first
                        | (go_at_call 15; refine (HCB.out _).mono ?_; rintro e w' ⟨rfl, rfl⟩)
                        | (go_at_call 16; refine (CQ.out _).mono ?_; rintro e wc ⟨⟨x', rfl, _⟩, hbc⟩; have hR0 := hR00.call hbc; have hcc := hR0.cell2 HCut.out HLT.out; rw [HX.out] at hcc; simp only [Option.isSome_none])
                        | (go_at_call 17; refine (CE.out _).mono ?_; rintro e wa ⟨rfl, hba⟩; have hRa := hR0.call hba; have hca := hRa.cell2 HCut.out HLT.out; rw [HX.out] at hca)
                        | (go_at_call 18; refine (CS.out _).mono ?_; rintro e wb ⟨rfl, hbb⟩; have hRb := hRa.call hbb; obtain ⟨⟨b0, b1, b2, b3⟩, x0, x1, x2, x3⟩ := hRb.st.blk.cells; have hrb := hRb.res HCut.out; obtain ⟨⟨d0, d1, d2, d3⟩, u0, u1, u2, u3⟩ := hrb.cells)
                        )
                      (try simp only [Exit.inBlock, Exit.then]); refine bodyPost_ret (results_cell3 rfl _ _ w.heap.size 25 _ (0, 0) _ rfl (res_set hrb _ _ _ _) rfl rfl rfl) rfl ?_
                      exact RdR.bad HQ.out.1 (by have := HQ.out.2.1; omega) HQ.out.2.2 (res_below (hRb.below HCut.out))
                    · have HN := Lib.hid (HRA.out.next HLT.out HX.out (lv_step rfl HSS.out hS))
                      have kS : decide (0 ≤ S) = true := decide_eq_true (by omega)
                      clear hS
                      go_wp2_with (first
                        | (go_at_call 15; refine (HCB.out _).mono ?_; rintro e w' ⟨rfl, rfl⟩)
                        | (go_at_call 16; refine (CQ.out _).mono ?_; rintro e wc ⟨⟨x', rfl, _⟩, hbc⟩; have hR0 := hR00.call hbc; have hcc := hR0.cell2 HCut.out HLT.out; rw [HX.out] at hcc; simp only [Option.isSome_none])
                        | (go_at_call 17; refine (CE.out _).mono ?_; rintro e wa ⟨rfl, hba⟩; have hRa := hR0.call hba; have hca := hRa.cell2 HCut.out HLT.out; rw [HX.out] at hca)
                        | (go_at_call 18; refine (CS.out _).mono ?_; rintro e wb ⟨rfl, hbb⟩; have hRb := hRa.call hbb; obtain ⟨⟨b0, b1, b2, b3⟩, x0, x1, x2, x3⟩ := hRb.st.blk.cells; have hrb := hRb.res HCut.out; obtain ⟨⟨d0, d1, d2, d3⟩, u0, u1, u2, u3⟩ := hrb.cells)
                        )
                      go_roundw
                      case rel => exact ⟨k + 1, _, _, rfl, by go_num, HLT.out, hRb.put ⟨hRb.st.blk.set3 _, hRb.st.own.set (by omega), by simp; exact hRb.st.sz⟩ (Tch.set _ _ 3 _ _), HN⟩
                      case measure => have := HLT.out; simp [intOf]; omega
                  · have HQ := Lib.hid (Pt.rr_bad HRA.out HL.out HLT.out HX.out (lv_two rfl))
                    go_wp2_with (first
                      | (go_at_call 15; refine (HCB.out _).mono ?_; rintro e w' ⟨rfl, rfl⟩)
                      | (go_at_call 16; refine (CQ.out _).mono ?_; rintro e wc ⟨⟨x', rfl, _⟩, hbc⟩; have hR0 := hR00.call hbc; have hcc := hR0.cell2 HCut.out HLT.out; rw [HX.out] at hcc; simp only [Option.isSome_none])
                      | (go_at_call 17; refine (CE.out _).mono ?_; rintro e wa ⟨rfl, hba⟩; have hRa := hR0.call hba; have hca := hRa.cell2 HCut.out HLT.out; rw [HX.out] at hca)
                      | (go_at_call 18; refine (CS.out _).mono ?_; rintro e wb ⟨rfl, hbb⟩; have hRb := hRa.call hbb; obtain ⟨⟨b0, b1, b2, b3⟩, x0, x1, x2, x3⟩ := hRb.st.blk.cells; have hrb := hRb.res HCut.out; obtain ⟨⟨d0, d1, d2, d3⟩, u0, u1, u2, u3⟩ := hrb.cells)
                      )
                    (try simp only [Exit.inBlock, Exit.then]); refine bodyPost_ret (results_cell3 rfl _ _ w.heap.size 25 _ (0, 0) _ rfl (res_set hrb _ _ _ _) rfl rfl rfl) rfl ?_
                    exact RdR.bad HQ.out.1 (by have := HQ.out.2.1; omega) HQ.out.2.2 (res_below (hRb.below HCut.out))
                | some t =>
                  rw [hr] at cq
                  have CQ := Lib.hid cq
                  have HNQ := Lib.hid hr
                  clear cq hq hp hxm hr
                  rcases (show rp = 0 ∨ rp = 1 ∨ rp = 2 by omega) with rfl | rfl | rfl
                  · have HN := Lib.hid (HRA.out.next HLT.out HX.out (line_out rfl HNQ.out))
                    clear q4 q5
                    go_wp2_with (first
                      | (go_at_call 15; refine (HCB.out _).mono ?_; rintro e w' ⟨rfl, rfl⟩)
                      | (go_at_call 16; refine (CQ.out _).mono ?_; rintro e wc ⟨⟨x', rfl, hx2⟩, hbc⟩; obtain rfl := hx2 _ rfl; have hR0 := hR00.call hbc; have hcc := hR0.cell2 HCut.out HLT.out; rw [HX.out] at hcc; simp only [Option.isSome_some])
                      | (go_at_call 17; refine (CE.out _).mono ?_; rintro e wa ⟨rfl, hba⟩; have hRa := hR0.call hba; have hca := hRa.cell2 HCut.out HLT.out; rw [HX.out] at hca)
                      | (go_at_call 18; refine (CS.out _).mono ?_; rintro e wb ⟨rfl, hbb⟩; have hRb := hRa.call hbb; obtain ⟨⟨b0, b1, b2, b3⟩, x0, x1, x2, x3⟩ := hRb.st.blk.cells; have hrb := hRb.res HCut.out; obtain ⟨⟨d0, d1, d2, d3⟩, u0, u1, u2, u3⟩ := hrb.cells)
                      | (at_builtin; refine app_box2 hRb.st rfl _ _ rfl x' _ rfl rfl HOL.out ?_; intro g n cap V z0 z1 hO2 hT2)
                      )
                    go_roundw
                    case rel => exact ⟨k + 1, _, _, rfl, by go_num, HLT.out, hRb.put hO2 hT2, HN⟩
                    case measure => have := HLT.out; simp [intOf]; omega
                  · by_cases hS : S < 0
                    · have HQ := Lib.hid (Pt.rr_bad HRA.out HL.out HLT.out HX.out (lv_nostep rfl HSS.out hS))
                      have kS : decide (0 ≤ S) = false := decide_eq_false (by omega)
                      clear hS
                      go_wp2_with (first
                        | (go_at_call 15; refine (HCB.out _).mono ?_; rintro e w' ⟨rfl, rfl⟩)
                        | (go_at_call 16; refine (CQ.out _).mono ?_; rintro e wc ⟨⟨x', rfl, hx2⟩, hbc⟩; obtain rfl := hx2 _ rfl; have hR0 := hR00.call hbc; have hcc := hR0.cell2 HCut.out HLT.out; rw [HX.out] at hcc; simp only [Option.isSome_some])
                        | (go_at_call 17; refine (CE.out _).mono ?_; rintro e wa ⟨rfl, hba⟩; have hRa := hR0.call hba; have hca := hRa.cell2 HCut.out HLT.out; rw [HX.out] at hca)
                        | (go_at_call 18; refine (CS.out _).mono ?_; rintro e wb ⟨rfl, hbb⟩; have hRb := hRa.call hbb; obtain ⟨⟨b0, b1, b2, b3⟩, x0, x1, x2, x3⟩ := hRb.st.blk.cells; have hrb := hRb.res HCut.out; obtain ⟨⟨d0, d1, d2, d3⟩, u0, u1, u2, u3⟩ := hrb.cells)
                        | (at_builtin; refine app_box2 hRb.st rfl _ _ rfl x' _ rfl rfl HOL.out ?_; intro g n cap V z0 z1 hO2 hT2)
                        )
                      (try simp only [Exit.inBlock, Exit.then]); refine bodyPost_ret (results_cell3 rfl _ _ w.heap.size 25 _ (0, 0) _ rfl (res_set hrb _ _ _ _) rfl rfl rfl) rfl ?_
                      exact RdR.bad HQ.out.1 (by have := HQ.out.2.1; omega) HQ.out.2.2 (res_below (hRb.below HCut.out))
                    · have HN := Lib.hid (HRA.out.next HLT.out HX.out (lv_step rfl HSS.out hS))
                      have kS : decide (0 ≤ S) = true := decide_eq_true (by omega)
                      clear hS
                      go_wp2_with (first
                        | (go_at_call 15; refine (HCB.out _).mono ?_; rintro e w' ⟨rfl, rfl⟩)
                        | (go_at_call 16; refine (CQ.out _).mono ?_; rintro e wc ⟨⟨x', rfl, hx2⟩, hbc⟩; obtain rfl := hx2 _ rfl; have hR0 := hR00.call hbc; have hcc := hR0.cell2 HCut.out HLT.out; rw [HX.out] at hcc; simp only [Option.isSome_some])
                        | (go_at_call 17; refine (CE.out _).mono ?_; rintro e wa ⟨rfl, hba⟩; have hRa := hR0.call hba; have hca := hRa.cell2 HCut.out HLT.out; rw [HX.out] at hca)
                        | (go_at_call 18; refine (CS.out _).mono ?_; rintro e wb ⟨rfl, hbb⟩; have hRb := hRa.call hbb; obtain ⟨⟨b0, b1, b2, b3⟩, x0, x1, x2, x3⟩ := hRb.st.blk.cells; have hrb := hRb.res HCut.out; obtain ⟨⟨d0, d1, d2, d3⟩, u0, u1, u2, u3⟩ := hrb.cells)
                        | (at_builtin; refine app_box2 hRb.st rfl _ _ rfl x' _ rfl rfl HOL.out ?_; intro g n cap V z0 z1 hO2 hT2)
                        )
                      go_roundw
                      case rel => exact ⟨k + 1, _, _, rfl, by go_num, HLT.out, hRb.put ⟨hRb.st.blk.set3 _, hRb.st.own.set (by omega), by simp; exact hRb.st.sz⟩ (Tch.set _ _ 3 _ _), HN⟩
                      case measure => have := HLT.out; simp [intOf]; omega
                  · have HQ := Lib.hid (Pt.rr_bad HRA.out HL.out HLT.out HX.out (lv_two rfl))
                    go_wp2_with (first
                      | (go_at_call 15; refine (HCB.out _).mono ?_; rintro e w' ⟨rfl, rfl⟩)
                      | (go_at_call 16; refine (CQ.out _).mono ?_; rintro e wc ⟨⟨x', rfl, hx2⟩, hbc⟩; obtain rfl := hx2 _ rfl; have hR0 := hR00.call hbc; have hcc := hR0.cell2 HCut.out HLT.out; rw [HX.out] at hcc; simp only [Option.isSome_some])
                      | (go_at_call 17; refine (CE.out _).mono ?_; rintro e wa ⟨rfl, hba⟩; have hRa := hR0.call hba; have hca := hRa.cell2 HCut.out HLT.out; rw [HX.out] at hca)
                      | (go_at_call 18; refine (CS.out _).mono ?_; rintro e wb ⟨rfl, hbb⟩; have hRb := hRa.call hbb; obtain ⟨⟨b0, b1, b2, b3⟩, x0, x1, x2, x3⟩ := hRb.st.blk.cells; have hrb := hRb.res HCut.out; obtain ⟨⟨d0, d1, d2, d3⟩, u0, u1, u2, u3⟩ := hrb.cells)
                      | (at_builtin; refine app_box2 hRb.st rfl _ _ rfl x' _ rfl rfl HOL.out ?_; intro g n cap V z0 z1 hO2 hT2)
                      )
                    (try simp only [Exit.inBlock, Exit.then]); refine bodyPost_ret (results_cell3 rfl _ _ w.heap.size 25 _ (0, 0) _ rfl (res_set hrb _ _ _ _) rfl rfl rfl) rfl ?_
                    exact RdR.bad HQ.out.1 (by have := HQ.out.2.1; omega) HQ.out.2.2 (res_below (hRb.below HCut.out))
            · obtain rfl : k = L.length := by omega
              have h7 : ro.length ≤ L.length := q7
              have h5 : rp ≤ 2 := q5
              obtain ⟨pa, pc, rfl, _, _⟩ := hRL.st.own.form (show ro.length ≤ _ by have := hLn; omega)
              have hres := hRL.res HCut.out
              obtain ⟨⟨d0, d1, d2, d3⟩, u0, u1, u2, u3⟩ := hres.cells
              obtain ⟨⟨b0, b1, b2, b3⟩, x0, x1, x2, x3⟩ := hRL.st.blk.cells
              have HRB := Lib.hid hres
              have HRL := Lib.hid hRL
              have H7 := Lib.hid h7
              have HLn := Lib.hid hLn
              by_cases hp : rp = 2 ∧ true = true
              · first
                | (exact absurd hp.2 (by decide))
                | (have HQ := Lib.hid (Pt.rr_fine HRA.out HL.out (HW.out.trans hp.2) hp.1)
                   obtain rfl := hp.1
                   clear hres hRL hp q1 q2 q3 q4 q5 q6 q7 h7 h5
                   go_wp2_with fail
                   (try simp only [Exit.inBlock, Exit.then]); refine bodyPost_ret (results_cell3 rfl _ _ w.heap.size 25 _ (0, 0) _ rfl (res_set HRB.out _ _ _ _) rfl rfl rfl) rfl ?_
                   exact RdR.good HQ.out.1 HQ.out.2.1 HQ.out.2.2 (oc_box3 HRL.out.st H7.out HLn.out HCut.out.lt) (res_below (HRL.out.below HCut.out)))
              · have HQ := Lib.hid (Pt.rr_stop HRA.out HL.out (by
                  by_cases h : rp = 2
                  · exact .inl (HW.out.trans (Bool.eq_false_iff.2 (fun g => hp ⟨h, g⟩)))
                  · exact .inr h))
                have kp : (true = true) → (rp != 2) = true := fun h => by
                  have : rp ≠ 2 := fun g => hp ⟨g, h⟩
                  simpa using this
                have kq : (true = true) → (rp == 2) = false := fun h => by
                  have : rp ≠ 2 := fun g => hp ⟨g, h⟩
                  simpa using this
                clear hres hRL hp q1 q2 q3 q4 q5 q6 q7 h7 h5
                (replace kp := kp rfl ; replace kq := kq rfl)
                by_cases hz : L.length = 0
                · rw [if_pos hz] at HQ
                  have kz : ((L.length : Int) == 0) = true := by rw [beq_iff_eq]; omega
                  go_wp2_with fail
                  all_goals ((try simp only [Exit.inBlock, Exit.then]); refine bodyPost_ret (results_cell3 rfl _ _ w.heap.size 25 _ (0, 0) _ rfl (res_set HRB.out _ _ _ _) rfl rfl rfl) rfl ?_)
                  all_goals exact RdR.bad HQ.out.1 HQ.out.2.1 HQ.out.2.2 (res_below (HRL.out.below HCut.out))
                · rw [if_neg hz] at HQ
                  have kz : ((L.length : Int) == 0) = false := by rw [beq_eq_false_iff_ne]; omega
                  go_wp2_with fail
                  all_goals ((try simp only [Exit.inBlock, Exit.then]); refine bodyPost_ret (results_cell3 rfl _ _ w.heap.size 25 _ (0, 0) _ rfl (res_set HRB.out _ _ _ _) rfl rfl rfl) rfl ?_)
                  all_goals exact RdR.bad HQ.out.1 HQ.out.2.1 HQ.out.2.2 (res_below (HRL.out.below HCut.out))
end Go.Proofs.YtkjdigojajcgkaaGreatDoor
