/- R16.Copy once more: the copy's rows are the call's own. -/
import Derived.Test.YtokjkligechcoaaGreatDoorHb
set_option linter.unusedVariables false
namespace Go.Proofs.YtokjkligechcoaaGreatDoor
open _root_.Go.Lib (hid)
open Go.RowKit
attribute [local go_sem] ext_mk size_mk toList_mk get_mk take_drop_len take_tail_len ByteArray.mk_append_mk List.append_toArray
theorem own_mono {W : World} {B B' n size : Nat} {T : TypeId} {v : Value} {xs : List Value} (h : W.ownsRow B T size v n xs) (hB : B' ≤ B) : W.ownsRow B' T size v n xs := by
 refine ⟨h.1, ?_⟩
 rcases h.2 with q | ⟨g, cap, cur, q, q1, q2⟩
 ·exact .inl q
 ·exact .inr ⟨g, cap, cur, q, Nat.le_trans hB q1, q2⟩
/-- blocks below B, one apart, are as they were -/
def KeepB (B m : Nat) (Wc W : World) : Prop := ∀ b, b < B → b ≠ m → W.heap[b]? = Wc.heap[b]?
theorem KeepB.refl {B m : Nat} {W : World} : KeepB B m W W := fun _ _ _ => rfl
theorem KeepB.low {B m C : Nat} {Wc W V : World} (h : KeepB B m Wc W) (hC : B ≤ C) (hb : Below C W V) : KeepB B m Wc V := fun b h1 h2 => by rw [hb.block b (by omega)]; exact h b h1 h2
theorem KeepB.below {B m : Nat} {Wc W V : World} (h : KeepB B m Wc W) (hC : B ≤ W.heap.size) (hb : Below W.heap.size W V) : KeepB B m Wc V := h.low hC hb
theorem KeepB.put {B m q : Nat} {Wc W : World} (h : KeepB B m Wc W) (hq : B ≤ q) (i : Nat) (v : Value) : KeepB B m Wc (W.setCell ⟨q, i, none⟩ v) := fun b h1 h2 => by
 rw [Below.heap_setCell _ _ _ _ (by show b ≠ q; omega)]; exact h b h1 h2
theorem KeepB.putm {B m : Nat} {Wc W : World} (h : KeepB B m Wc W) (i : Nat) (v : Value) : KeepB B m Wc (W.setCell ⟨m, i, none⟩ v) := fun b h1 h2 => by
 rw [Below.heap_setCell _ _ _ _ (by show b ≠ m; exact h2)]; exact h b h1 h2
/-- a row of the call's own, with its room -/
def RowO (V : World) (B : Nat) (T : TypeId) (a : Option Addr) (cap : Nat) (xs : List Value) : Prop := (xs = [] ∧ cap = 0 ∧ ∃ g, a = some ⟨g, 0, none⟩) ∨ ∃ g cs, a = some ⟨g, 0, none⟩ ∧ B ≤ g ∧ V.heap[g]? = some (.cells cs T (0, 0)) ∧ (cs.size = cap ∧ xs.length ≤ cap ∧ cap ≤ maxLen) ∧ ∀ i, i < xs.length → cs[i]? = xs[i]?
section
variable {W V : World} {B B' m cap : Nat} {T T0 : TypeId} {a : Option Addr} {xs : List Value}
theorem RowO.k (h : RowO W B T a cap xs) : RowK W B T a xs := by
 rcases h with h | ⟨g, cs, h1, h2, h3, -, h4⟩
 ·exact .inl h.1
 ·exact .inr ⟨g, cs, h1, h2, h3, h4⟩
theorem RowO.below (h : RowO W B T a cap xs) (hb : Below W.heap.size W V) : RowO V B T a cap xs := by
 rcases h with h | ⟨g, cs, h1, h2, h3, h4⟩
 ·exact .inl h
 ·exact .inr ⟨g, cs, h1, h2, by rw [hb.block g (heap_lt h3)]; exact h3, h4⟩
theorem RowO.mono (h : RowO W B T a cap xs) (hB : B' ≤ B) : RowO W B' T a cap xs := by
 rcases h with h | ⟨g, cs, h1, h2, h3, h4⟩
 ·exact .inl h
 ·exact .inr ⟨g, cs, h1, Nat.le_trans hB h2, h3, h4⟩
theorem RowO.put (h : RowO W B T a cap xs) (hm : m < B) (i : Nat) (v : Value) : RowO (W.setCell ⟨m, i, none⟩ v) B T a cap xs := by
 rcases h with h | ⟨g, cs, h1, h2, h3, h4⟩
 ·exact .inl h
 ·exact .inr ⟨g, cs, h1, h2, by rw [Below.heap_setCell _ _ _ _ (by show g ≠ m; omega)]; exact h3, h4⟩
theorem RowO.alloc (h : RowO W B T a cap xs) (o : Obj) : RowO (W.alloc o) B T a cap xs := h.below ((Below.refl _ _).alloc (Nat.le_refl _) _)
theorem RowO.put4q {cs0 : Array Value} (h : RowO W B T a cap xs) (k : KAt W m (.cells cs0 T0 (0, 0))) (hT : T0 ≠ T) (v0 v1 v2 v3 : Value) : RowO ((((W.setCell ⟨m, 0, none⟩ v0).setCell ⟨m, 1, none⟩ v1).setCell ⟨m, 2, none⟩ v2).setCell ⟨m, 3, none⟩ v3) B T a cap xs := by
 rcases h with h | ⟨g, cs, h1, h2, h3, h4⟩
 ·exact .inl h
 ·have hn : g ≠ m := by
   rintro rfl
   have e := k.x
   rw [h3] at e
   exact hT (Obj.cells.inj (Option.some.inj e)).2.1.symm
  exact .inr ⟨g, cs, h1, h2, by
   rw [Below.heap_setCell _ _ _ _ (by show g ≠ m; exact hn), Below.heap_setCell _ _ _ _ (by show g ≠ m; exact hn), Below.heap_setCell _ _ _ _ (by show g ≠ m; exact hn), Below.heap_setCell _ _ _ _ (by show g ≠ m; exact hn)]; exact h3, h4⟩
theorem RowO.keep {Wc : World} {cs0 : Array Value} (h : RowO Wc B T a cap xs) (k : KAt Wc m (.cells cs0 T0 (0, 0))) (hT : T0 ≠ T) (q : KeepB Wc.heap.size m Wc W) : RowO W B T a cap xs := by
 rcases h with h | ⟨g, cs, h1, h2, h3, h4⟩
 ·exact .inl h
 ·have hn : g ≠ m := by
   rintro rfl
   have e := k.x
   rw [h3] at e
   exact hT (Obj.cells.inj (Option.some.inj e)).2.1.symm
  exact .inr ⟨g, cs, h1, h2, by rw [q g (heap_lt h3) hn]; exact h3, h4⟩
theorem RowO.own (h : RowO W B T a cap xs) (hx : xs ≠ []) : W.ownsRow B T 1 (.slice a xs.length cap) xs.length xs := by
 rcases h with h | ⟨g, cs, rfl, h2, h3, ⟨h4, h5, h6⟩, h7⟩
 ·exact absurd h.1 hx
 ·refine ⟨by omega, .inr ⟨g, cap, cs, rfl, h2, h3, h5, h6, by omega, ?_⟩⟩
  apply List.ext_getElem?
  intro i
  rw [Nat.mul_one]
  by_cases hi : i < xs.length
  ·rw [List.getElem?_take_of_lt hi, Array.getElem?_toList, h7 i hi]
  ·rw [List.getElem?_eq_none (by simp; omega), List.getElem?_eq_none (by omega)]
end
theorem wp_freshO {w : World} {o : Oper} {a : Act} {K : Act → World → Prop} {Q : Exit → Act → World → Prop} {T t : TypeId} {z : Value} {bytes : Nat}
  (hi : (Tryz.prog.info? T).map (fun i => (i.zero, i.size, i.bytes)) = some (some z, 1, bytes)) (ht : Tryz.prog.underlying t = some (.slice T)) (hzs : z.cells.size = 1)
  (sl x : Operand) (ho : o.op = .call { callee := .builtin .append, args := #[sl, x], argTypes := #[t, t] })
  (g : Nat) (hs : a.eval sl = .slice (some ⟨g, 0, none⟩) 0 0) (vs : List Value) (ra : Option Addr) (n rc : Nat) (hn : vs.length = n) (hx : a.eval x = .slice ra n rc) (hI : SrcAt w ra vs) (h1 : ∀ u ∈ vs, u.oneCell' = true) (hm : n ≤ maxLen) (hb : n * bytes ≤ 140737488355328)
  (h : ∀ a' cap V, RowO V w.heap.size T a' cap vs → n ≤ cap → Below w.heap.size w V → K (a.put o.dst (.slice a' n cap)) V) : Oper.wp Tryz.prog o a w K Q := by
 obtain ⟨i0, hi, hz0, hz1, hz2⟩ := info_parts hi
 subst hn
 by_cases he : vs = []
 ·subst he
  have hrun := run_append_empty (P := Tryz.prog) (w := w) t o.type T i0 ht hi g ra rc
  unfold Oper.wp
  simp only [List.length_nil] at hx
  simp [execOp, ho, resolve, invoke, builtin, hs, hx, hrun, Result.andThen]
  exact h _ _ w (.inl ⟨rfl, rfl, g, rfl⟩) (Nat.le_refl _) (Below.refl _ _)
 ·rcases hI with hI | ⟨b, off, rfl, hc⟩
  ·exact absurd hI he
  have hl : 0 < vs.length := List.length_pos_iff.2 he
  obtain ⟨v', w', hrun, r1, r2⟩ := run_append_arg_grows (P := Tryz.prog) w t o.type T i0 z 1 bytes ht hi hz0 hz1 hz2 hzs (by decide) ⟨g, 0, none⟩ 0 0 [] (by simp) (fun j u hj => by simp at hj) ⟨b, off, none⟩ vs.length rc vs (by simp)
   (fun j u hj => by rw [show (⟨b, off, none⟩ : Addr).add j = ⟨b, off + j, none⟩ from by (unfold Addr.add; by_cases h0 : j = 0 <;> simp [h0])]; exact hc j u hj) (by omega) (by omega) (by simpa using hb)
  unfold Oper.wp
  simp [execOp, ho, resolve, invoke, builtin, hs, hx, hrun, Result.andThen]
  simp only [Nat.zero_add, List.nil_append] at r1
  rcases r1.2 with ⟨_, q⟩ | ⟨g', cap, cur, rfl, q1, q2, q3, q4, q5, q6⟩
  ·omega
  refine h _ cap w' (.inr ⟨g', cur, rfl, q1, q2, ⟨by omega, q3, q4⟩, fun i hi => ?_⟩) q3 ((Below.refl w.heap.size w).grown r2 (Nat.le_refl _) (fun k hk => nomatch hk))
  rw [← Array.getElem?_toList, ← List.getElem?_take_of_lt (show i < vs.length * 1 by omega), q6]
theorem step_freshO {w : World} {ops : Array Oper} {o : Oper} {a : Act} {K : Act → World → Prop} {Q : Exit → Act → World → Prop} {E : Prop} {T t : TypeId} {z : Value} {bytes : Nat}
  (hi : (Tryz.prog.info? T).map (fun i => (i.zero, i.size, i.bytes)) = some (some z, 1, bytes)) (ht : Tryz.prog.underlying t = some (.slice T)) (hzs : z.cells.size = 1) (hgd : o.guard = none)
  (sl x : Operand) (ho : o.op = .call { callee := .builtin .append, args := #[sl, x], argTypes := #[t, t] })
  (g : Nat) (hs : a.eval sl = .slice (some ⟨g, 0, none⟩) 0 0) (vs : List Value) (ra : Option Addr) (n rc : Nat) (hn : vs.length = n) (hx : a.eval x = .slice ra n rc) (hI : SrcAt w ra vs) (h1 : ∀ u ∈ vs, u.oneCell' = true) (hm : n ≤ maxLen) (hb : n * bytes ≤ 140737488355328)
  (h : ∀ a' cap V, RowO V w.heap.size T a' cap vs → n ≤ cap → Below w.heap.size w V → K (a.put o.dst (.slice a' n cap)) V) : if Region.wanted o (yielded ops a.tmps) = true then Oper.wp Tryz.prog o a w K Q else E := by
 have hw : Region.wanted o (yielded ops a.tmps) = true := by simp [Region.wanted, hgd]
 rw [if_pos hw]
 exact wp_freshO hi ht hzs sl x ho g hs vs ra n rc hn hx hI h1 hm hb h
/-- what Copy answers: its rows are the call's own -/
def CpO (bare : Bool) (P : Pg) (w : World) (e : Ending) (w' : World) : Prop :=
 ∃ fa fc sa sc ra rc, e = .returned (.agg #[.slice fa P.fs.length fc, .slice sa P.ss.length sc, .slice ra P.us.length rc, .int .i64 P.en]) ∧ PgD bare (KUp w.heap.size) w' fa sa ra (cpP bare P) ∧ Below w.heap.size w w' ∧ RowO w' w.heap.size 9 sa sc (strC P.ss) ∧ RowO w' w.heap.size 45 ra rc (u64C P.us) ∧ ∃ xs, w'.ownsRow w.heap.size 48 3 (.slice fa P.fs.length fc) P.fs.length xs
set_option maxHeartbeats 20000000 in
set_option maxRecDepth 8000 in
theorem rcopy_own (bare : Bool) (fa sa ra : Option Addr) (fc sc rc : Nat) (P : Pg) (w : World) (hP : PgAt w fa sa ra P) (hR : PgR P) :
  Calls Tryz.prog 21 #[.agg #[.slice fa P.fs.length fc, .slice sa P.ss.length sc, .slice ra P.us.length rc, .int .i64 P.en], .bool bare] w (CpO bare P w) := by
 obtain ⟨W0, hW0⟩ : ∃ W, (w.alloc (.cells #[.slice fa P.fs.length fc, .slice sa P.ss.length sc, .slice ra P.us.length rc, .int .i64 P.en] 26)).alloc rzBlk = W := ⟨_, rfl⟩
 have hb0 : Below w.heap.size w W0 := by rw [← hW0]; exact ((Below.refl _ _).alloc (Nat.le_refl _) _).alloc (by simp) _
 have k0 : KAt W0 w.heap.size (pgBlk (.slice fa P.fs.length fc) (.slice sa P.ss.length sc) (.slice ra P.us.length rc) P.en) := by rw [← hW0]; exact (KAt.new w _).alloc _
 have k1 : KAt W0 (w.heap.size + 1) rzBlk := by
  have h := KAt.new (w.alloc (.cells #[.slice fa P.fs.length fc, .slice sa P.ss.length sc, .slice ra P.us.length rc, .int .i64 P.en] 26)) rzBlk
  rw [show (w.alloc (.cells #[.slice fa P.fs.length fc, .slice sa P.ss.length sc, .slice ra P.us.length rc, .int .i64 P.en] 26)).heap.size = w.heap.size + 1 from by simp] at h
  rw [← hW0]; exact h
 have z0 : W0.heap.size = w.heap.size + 2 := by rw [← hW0]; simp
 have HP := hid (hP.below hb0)
 have HR := hid hR
 have HPW := hid hP
 have K0 := hid k0
 have K1 := hid k1
 have HB0 := hid hb0
 have HZ0 := hid z0
 obtain ⟨nf, hnf⟩ : ∃ n, P.fs.length = n := ⟨_, rfl⟩
 obtain ⟨ns, hns⟩ : ∃ n, P.ss.length = n := ⟨_, rfl⟩
 obtain ⟨nu, hnu⟩ : ∃ n, P.us.length = n := ⟨_, rfl⟩
 obtain ⟨en, hen⟩ : ∃ n, P.en = n := ⟨_, rfl⟩
 have m1 : nf ≤ maxLen := by rw [← hnf]; exact hP.f.1
 have m2 : ns ≤ maxLen := by rw [← hns]; exact hP.s.1
 have m3 : nu ≤ maxLen := by rw [← hnu]; exact hP.u.1
 have MS := hid m2
 have MU := hid m3
 have BS := hid (show ns * 16 ≤ 140737488355328 by rw [← hns]; exact hR.s)
 have BU := hid (show nu * 8 ≤ 140737488355328 by rw [← hnu]; exact hR.u)
 have LS := hid (show (strC P.ss).length = ns by rw [← hns]; simp [strC])
 have LU := hid (show (u64C P.us).length = nu by rw [← hnu]; simp [u64C])
 unfold maxLen at m1 m2 m3
 obtain ⟨SS, hSS⟩ : ∃ SS : World → Prop, SS = fun V => Below W0.heap.size W0 V := ⟨_, rfl⟩
 have SB : Hid (∀ V, SS V → Below W0.heap.size W0 V) := hid (by rw [hSS]; exact fun V h => h)
 have SC : Hid (∀ V, SS V → SrcAt V sa (strC P.ss) ∧ SrcAt V ra (u64C P.us)) := hid (by rw [hSS]; exact fun V h => ⟨(HP.out.s.src).below h, (HP.out.u.src).below h⟩)
 unfold CpO
 rw [hnf, hns, hnu, hen] at hW0 K0 ⊢
 have SK : Hid (∀ V, Below W0.heap.size W0 V → (V.cell? ⟨w.heap.size, 1, none⟩ = some (.slice sa ns sc) ∧ V.cell? ⟨w.heap.size, 2, none⟩ = some (.slice ra nu rc) ∧ V.cell? ⟨w.heap.size, 3, none⟩ = some (.int .i64 en)) ∧ SS V) := hid (by
  rw [hSS]
  intro V h
  have := (K0.out.below h).pg
  exact ⟨⟨this.2.1, this.2.2.1, this.2.2.2.1⟩, h⟩)
 have HNF := hid hnf
 have HEN := hid hen
 clear hP hR hb0 k0 k1 hnf hns hnu hen hSS z0
 unfold rzBlk at hW0
 go_enter Tryz.func21, Tryz.ntmps21
 go_wp2_with fail
 try rw [hW0]
 have S0 : Hid (SS W0.drew) := hid (SK.out _ (Below.refl _ _).drew).2
 have SA : Hid (∀ V o, SS V → SS (V.alloc o)) := hid (fun V o h => (SK.out _ ((SB.out V h).alloc (SB.out V h).size o)).2)
 have SD : Hid (∀ (V : World) (o : Obj), SS V.drew → SS (V.alloc o).drew) := hid (fun V o h => SA.out V.drew o h)
 have SP : Hid (∀ (V : World) (q : Nat) (a b c d : Value), SS V → W0.heap.size ≤ q → SS ((((V.setCell ⟨q, 0, none⟩ a).setCell ⟨q, 1, none⟩ b).setCell ⟨q, 2, none⟩ c).setCell ⟨q, 3, none⟩ d)) := hid (fun V q a b c d h hq =>
  (SK.out _ (((((SB.out V h).setCell (p := ⟨q, 0, none⟩) hq a).setCell (p := ⟨q, 1, none⟩) hq b).setCell (p := ⟨q, 2, none⟩) hq c).setCell (p := ⟨q, 3, none⟩) hq d)).2)
 have ST : Hid (∀ V V', SS V → Below V.heap.size V V' → SS V') := hid (fun V V' h hb => (SK.out _ ((SB.out V h).trans (hb.mono (SB.out V h).size))).2)
 have SX : Hid (∀ V, SS V → V.cell? ⟨w.heap.size, 1, none⟩ = some (.slice sa ns sc) ∧ V.cell? ⟨w.heap.size, 2, none⟩ = some (.slice ra nu rc) ∧ V.cell? ⟨w.heap.size, 3, none⟩ = some (.int .i64 en) ∧ SS V) := hid (fun V h => by
  obtain ⟨⟨h1, h2, h3⟩, h4⟩ := SK.out V (SB.out V h)
  exact ⟨h1, h2, h3, h4⟩)
 go_cut [5] from 10 to 85 (fun v5 wx => ∃ m sa' sc' ra' rc', v5 = .pointer (some ⟨m, 0, none⟩) ∧ W0.heap.size ≤ m ∧ Below W0.heap.size W0 wx ∧ KAt wx m (.cells #[.slice none 0 0, .slice sa' ns sc', .slice ra' nu rc', .int .i64 en] 26 (0, 0)) ∧ RowO wx W0.heap.size 9 sa' sc' (strC P.ss) ∧ RowO wx W0.heap.size 45 ra' rc' (u64C P.us))
 case first =>
  go_region_held_law (fun w' => w'.cell? ⟨w.heap.size, 1, none⟩ = some (.slice sa ns sc) ∧ w'.cell? ⟨w.heap.size, 2, none⟩ = some (.slice ra nu rc) ∧ w'.cell? ⟨w.heap.size, 3, none⟩ = some (.int .i64 en) ∧ SS w')
   (first
    | with_reducible exact SX.out _ S0.out
    | with_reducible exact SX.out _ HS.out
    | with_reducible exact SX.out _ (SA.out _ _ HS.out)
    | with_reducible exact SX.out _ (SP.out _ _ _ _ _ _ HS.out (by omega))
    | (go_split_ands; with_reducible exact SX.out _ (SA.out _ _ (by assumption)))
    | (go_split_ands; with_reducible exact SX.out _ (SD.out _ _ (by assumption))))
   (first
    | (refine step_freshO infoStr Tryz.underlying23 rfl rfl _ _ rfl _ rfl (strC P.ss) sa ns sc LS.out rfl (SC.out _ (by go_split_ands; assumption)).1 (one_str _) MS.out BS.out ?_; intro a1 c1 V1 k1 _ hbx; have HS := hid (ST.out _ _ (by go_split_ands; assumption) hbx); have hz1 := (SB.out _ HS.out).size; have k1 := RowO.mono k1 (SB.out _ (by go_split_ands; assumption)).size; (first | (have hbp : Below V2.heap.size V2 V1 := (by first | with_reducible exact hbx | with_reducible exact ((Below.refl _ _).alloc (Nat.le_refl _) _).trans (hbx.mono (by (simp; done))) | with_reducible exact (((Below.refl _ _).alloc (Nat.le_refl _) _).alloc (by simp) _).trans (hbx.mono (by simp; omega))); have k2 := k2.below hbp; (first | (have kq := kq.below hbp) | skip); (first | (with_reducible have kq := (KAt.new V2 (.cells #[.slice none 0 0, .slice none 0 0, .slice none 0 0, .int .i64 0] 26 (0, 0))).below hbx) | (with_reducible have kq := ((KAt.new V2 (.cells #[.slice none 0 0, .slice none 0 0, .slice none 0 0, .int .i64 0] 26 (0, 0))).alloc _).below hbx) | (with_reducible have kq := (((KAt.new V2 (.cells #[.slice none 0 0, .slice none 0 0, .slice none 0 0, .int .i64 0] 26 (0, 0))).alloc _).alloc _).below hbx) | (with_reducible have kq := (kat_new1 V2 _ (.cells #[.slice none 0 0, .slice none 0 0, .slice none 0 0, .int .i64 0] 26 (0, 0))).below hbx) | (with_reducible have kq := ((kat_new1 V2 _ (.cells #[.slice none 0 0, .slice none 0 0, .slice none 0 0, .int .i64 0] 26 (0, 0))).alloc _).below hbx) | (with_reducible have kq := (kat_new2 V2 _ _ (.cells #[.slice none 0 0, .slice none 0 0, .slice none 0 0, .int .i64 0] 26 (0, 0))).below hbx) | skip)) | (first | (with_reducible have kq := (KAt.new W0 (.cells #[.slice none 0 0, .slice none 0 0, .slice none 0 0, .int .i64 0] 26 (0, 0))).drew.below hbx) | (with_reducible have kq := ((KAt.new W0 (.cells #[.slice none 0 0, .slice none 0 0, .slice none 0 0, .int .i64 0] 26 (0, 0))).alloc _).drew.below hbx) | (with_reducible have kq := (((KAt.new W0 (.cells #[.slice none 0 0, .slice none 0 0, .slice none 0 0, .int .i64 0] 26 (0, 0))).alloc _).alloc _).drew.below hbx) | (with_reducible have kq := (kat_new1 W0 _ (.cells #[.slice none 0 0, .slice none 0 0, .slice none 0 0, .int .i64 0] 26 (0, 0))).drew.below hbx) | (with_reducible have kq := ((kat_new1 W0 _ (.cells #[.slice none 0 0, .slice none 0 0, .slice none 0 0, .int .i64 0] 26 (0, 0))).alloc _).drew.below hbx) | (with_reducible have kq := (kat_new2 W0 _ _ (.cells #[.slice none 0 0, .slice none 0 0, .slice none 0 0, .int .i64 0] 26 (0, 0))).drew.below hbx) | skip)); (first | (have hq := pbx kq; have hf := frz4 kq; obtain ⟨q0, q1, q2, q3⟩ := hq; obtain ⟨f0, f1, f2, f3⟩ := hf) | skip))
    | (refine step_freshO infoU64 Tryz.underlying24 rfl rfl _ _ rfl _ rfl (u64C P.us) ra nu rc LU.out rfl (SC.out _ (by go_split_ands; assumption)).2 (one_int _) MU.out BU.out ?_; intro a2 c2 V2 k2 _ hbx; have HS := hid (ST.out _ _ (by go_split_ands; assumption) hbx); have hz2 := (SB.out _ HS.out).size; have k2 := RowO.mono k2 (SB.out _ (by go_split_ands; assumption)).size; (first | (have hbp : Below V1.heap.size V1 V2 := (by first | with_reducible exact hbx | with_reducible exact ((Below.refl _ _).alloc (Nat.le_refl _) _).trans (hbx.mono (by (simp; done))) | with_reducible exact (((Below.refl _ _).alloc (Nat.le_refl _) _).alloc (by simp) _).trans (hbx.mono (by simp; omega))); have k1 := k1.below hbp; (first | (have kq := kq.below hbp) | skip); (first | (with_reducible have kq := (KAt.new V1 (.cells #[.slice none 0 0, .slice none 0 0, .slice none 0 0, .int .i64 0] 26 (0, 0))).below hbx) | (with_reducible have kq := ((KAt.new V1 (.cells #[.slice none 0 0, .slice none 0 0, .slice none 0 0, .int .i64 0] 26 (0, 0))).alloc _).below hbx) | (with_reducible have kq := (((KAt.new V1 (.cells #[.slice none 0 0, .slice none 0 0, .slice none 0 0, .int .i64 0] 26 (0, 0))).alloc _).alloc _).below hbx) | (with_reducible have kq := (kat_new1 V1 _ (.cells #[.slice none 0 0, .slice none 0 0, .slice none 0 0, .int .i64 0] 26 (0, 0))).below hbx) | (with_reducible have kq := ((kat_new1 V1 _ (.cells #[.slice none 0 0, .slice none 0 0, .slice none 0 0, .int .i64 0] 26 (0, 0))).alloc _).below hbx) | (with_reducible have kq := (kat_new2 V1 _ _ (.cells #[.slice none 0 0, .slice none 0 0, .slice none 0 0, .int .i64 0] 26 (0, 0))).below hbx) | skip)) | (first | (with_reducible have kq := (KAt.new W0 (.cells #[.slice none 0 0, .slice none 0 0, .slice none 0 0, .int .i64 0] 26 (0, 0))).drew.below hbx) | (with_reducible have kq := ((KAt.new W0 (.cells #[.slice none 0 0, .slice none 0 0, .slice none 0 0, .int .i64 0] 26 (0, 0))).alloc _).drew.below hbx) | (with_reducible have kq := (((KAt.new W0 (.cells #[.slice none 0 0, .slice none 0 0, .slice none 0 0, .int .i64 0] 26 (0, 0))).alloc _).alloc _).drew.below hbx) | (with_reducible have kq := (kat_new1 W0 _ (.cells #[.slice none 0 0, .slice none 0 0, .slice none 0 0, .int .i64 0] 26 (0, 0))).drew.below hbx) | (with_reducible have kq := ((kat_new1 W0 _ (.cells #[.slice none 0 0, .slice none 0 0, .slice none 0 0, .int .i64 0] 26 (0, 0))).alloc _).drew.below hbx) | (with_reducible have kq := (kat_new2 W0 _ _ (.cells #[.slice none 0 0, .slice none 0 0, .slice none 0 0, .int .i64 0] 26 (0, 0))).drew.below hbx) | skip)); (first | (have hq := pbx kq; have hf := frz4 kq; obtain ⟨q0, q1, q2, q3⟩ := hq; obtain ⟨f0, f1, f2, f3⟩ := hf) | skip)))
  all_goals go_wp2_with fail
  all_goals go_meet
  all_goals go_split_ands
  all_goals first
   | (refine ⟨_, a1, c1, a2, c2, rfl, (by omega), (SB.out _ (by assumption)), ?_, ?_, ?_⟩; (with_reducible exact KAt.new _ _); (with_reducible exact k1.alloc _); (with_reducible exact k2.alloc _))
   | (refine ⟨_, a1, c1, a2, c2, rfl, (by omega), (SB.out _ (by assumption)), ?_, ?_, ?_⟩; (with_reducible exact kq.set4 _ _ _ _); (with_reducible exact k1.put4q kq (by decide) _ _ _ _); (with_reducible exact k2.put4q kq (by decide) _ _ _ _))
 case rest =>
  clear S0 SA SD SP ST SX SK SB SC hW0
  obtain ⟨m, sa', sc', ra', rc', rfl, hm, hbx, hk, hs, hu⟩ := hcut
  have hz := HZ0.out
  obtain ⟨PB, hPB⟩ : ∃ o, pgBlk (.slice fa nf fc) (.slice sa ns sc) (.slice ra nu rc) en = o := ⟨_, rfl⟩
  have HPB := hid hPB
  rw [hPB] at K0
  have C0 := hid (show CcAt w wc m PB rzBlk (.slice none 0 0) (.slice sa' ns sc') (.slice ra' nu rc') en from ⟨HB0.out.trans (hbx.mono HB0.out.size), K0.out.below hbx, K1.out.below hbx, hk, by omega⟩)
  have R0 := hid (show RsT (KO (w.heap.size + 1)) wc [] [] sa' P.ss ra' P.us from ⟨FnsV.nil _ _, hs.k.strs (by rw [show P.ss.length = ns by have := LS.out; simpa [strC] using this]; exact MS.out) HPW.out.s.2.1 (fun b hb _ => ⟨by omega, .inr (.inr (.inl rfl))⟩), hu.k.nums (by rw [show P.us.length = nu by have := LU.out; simpa [u64C] using this]; exact MU.out) (fun b hb _ => ⟨by omega, .inr (.inr (.inr rfl))⟩)⟩)
  have D0 := hid (CoAt.start C0.out 48 3)
  obtain ⟨B3, hB3⟩ : ∃ B, wc.heap.size = B := ⟨_, rfl⟩
  rw [hB3] at D0
  have HKW := hid (show ∀ W, KeepB B3 m wc W → RowO W (w.heap.size + 2) 9 sa' sc' (strC P.ss) ∧ RowO W (w.heap.size + 2) 45 ra' rc' (u64C P.us) from fun W q => ⟨(hs.keep hk (by decide) (by rw [← hB3] at q; exact q)).mono (by omega), (hu.keep hk (by decide) (by rw [← hB3] at q; exact q)).mono (by omega)⟩)
  clear hPB hm hbx hk hs hu hz hB3 C0 HP K0 K1 HB0 HZ0 LS LU MS MU BS BU
  go_wp2_with fail
  go_loopw [6] (fun v6 wr => ∃ (k : Nat) (v : Value) (fs : List Fu) (xs : List Value), k ≤ nf ∧ v6 = .int .i64 (k : Int) ∧ fs = (P.fs.take k).map (cpF bare) ∧ CoAt w wr m PB rzBlk v (.slice sa' ns sc') (.slice ra' nu rc') en B3 48 3 v fs.length xs ∧ RsT (KO (w.heap.size + 1)) wr fs xs sa' P.ss ra' P.us ∧ Srt fs xs ∧ (bare = true → FnsN wr fs xs) ∧ KeepB B3 m wc wr) (fun v6 _ => nf - (intOf v6).toNat)
  case atStart => exact ⟨0, _, [], [], Nat.zero_le _, rfl, rfl, D0.out, R0.out, Srt.nil, (fun _ => FnsN.nil _), KeepB.refl⟩
  case round =>
   clear D0 R0
   obtain ⟨k, v, fs, xs, hk, rfl, hfs, hC, hRs, hSr, hFN, hKB⟩ := hrel
   have HKB := hid hKB
   clear hKB
   have HSr := hid hSr
   have HFN := hid hFN
   clear hSr hFN
   have C := hid hC
   have R := hid hRs
   have HFS := hid hfs
   obtain ⟨p0, p1, p2, p3, -, -, -, -⟩ := (show KAt wr w.heap.size _ by rw [← HPB.out] at hC; exact hC.d.r).pg
   by_cases hkn : k < nf
   ·obtain ⟨ga, oa, f, rfl, es, ca, ccp, x0, x1, x2, xc⟩ := fns_cell HPW.out.f (show k < P.fs.length by rw [HNF.out]; exact hkn)
    obtain ⟨ps, rs, code⟩ := f
    dsimp only at x0 x1 x2 xc
    have XC := hid xc
    have ES := hid es
    have kt : ((k : Int)).toNat = k := Int.toNat_natCast k
    have HRC := hid (HR.out.c _ (List.mem_of_getElem? es))
    have HFL := hid (show fs.length = k by rw [hfs]; simp; rw [HNF.out]; omega)
    obtain ⟨nc, hnc⟩ : ∃ n, code.length = n := ⟨_, rfl⟩
    have HNC := hid hnc
    have m4 : nc ≤ maxLen := by rw [← hnc]; exact xc.1
    unfold maxLen at m4
    rw [hnc] at x2
    have X2 := hid x2
    have x0 := cell_bw x0 hC.d.be
    have x1 := cell_bw x1 hC.d.be
    have x2 := cell_bw x2 hC.d.be
    clear hC hRs hfs xc es hnc
    have p0p := cell_a1 p0; have x0p := cell_a1 x0; have x1p := cell_a1 x1
    go_upto_region 5 with (fail)
    go_cut [7] from 21 to 84 (fun v7 wx => v7 = .pointer (some ⟨wr.heap.size, 0, none⟩) ∧ wx = (wr.alloc (fbBlk ps rs (.slice none 0 0))).drew)
    case first =>
     go_region
     all_goals go_wp2_with fail
     all_goals go_meet
     all_goals exact ⟨rfl, rfl⟩
    case rest =>
     obtain ⟨rfl, rfl⟩ := hcut
     have hcd : Below wr.heap.size wr wr.drew := (Below.refl _ _).drew
     have F0 := hid (CfAt.start (C.out.below hcd) (R.out.kp (Kp.below hcd)) ps rs)
     have HFB := hid (show B3 ≤ wr.heap.size from C.out.hB)
     obtain ⟨fb, hfb⟩ : ∃ b, wr.heap.size = b := ⟨_, rfl⟩
     obtain ⟨W5, hW5⟩ : ∃ W, (wr.alloc (fbBlk ps rs (.slice none 0 0))).drew = W := ⟨_, rfl⟩
     have F1 : CfAt w W5 m PB rzBlk (.slice sa' ns sc') (.slice ra' nu rc') en B3 v fs xs sa' P.ss ra' P.us fb ps rs (.slice none 0 0) [] [] := by rw [← hW5, ← hfb]; exact F0.out
     rw [hfb, hW5]
     have F5 := hid F1
     have HF5 := hid (fun hb => (show FnsN W5 fs xs from (HFN.out hb).kp R.out.f (by rw [← hW5]; exact Kp.below (((Below.refl _ _).alloc (Nat.le_refl _) _).drew))))
     have HK5 := hid (show KeepB B3 m wc W5 from by rw [← hW5]; exact HKB.out.below HFB.out (((Below.refl _ _).alloc (Nat.le_refl _) _).drew))
     clear p0 p0p p1 p2 p3 x0 x0p x1 x1p x2 F0 F1 hfb hW5 hcd C R
     go_wp2_with fail
     go_loopw [8] (fun v8 wr => ∃ (j : Nat) (vc : Value) (cd : List In) (ys : List Value), j ≤ nc ∧ v8 = .int .i64 (j : Int) ∧ cd = (code.take j).map (cpI bare) ∧ CfAt w wr m PB rzBlk (.slice sa' ns sc') (.slice ra' nu rc') en B3 v fs xs sa' P.ss ra' P.us fb ps rs vc cd ys ∧ (bare = true → N5 cd.length ys ∧ FnsN wr fs xs) ∧ KeepB B3 m wc wr) (fun v8 _ => nc - (intOf v8).toNat)
     case atStart => exact ⟨0, _, [], [], Nat.zero_le _, rfl, rfl, F5.out, (fun hb => ⟨⟨rfl, fun k hk => absurd hk (Nat.not_lt_zero _)⟩, HF5.out hb⟩), HK5.out⟩
     case round =>
      clear F5
      obtain ⟨j, vc, cd, ys, hj, rfl, hcd, hF, hN5, hKC⟩ := hrel
      have HKC := hid hKC
      have HN5 := hid hN5
      clear hN5 HF5 hKC HK5
      have F := hid hF
      have HCD := hid hcd
      obtain ⟨p0, p1, p2, p3, -, -, -, -⟩ := (show KAt wr w.heap.size _ by rw [← HPB.out] at hF; exact hF.d.r).pg
      have x2 := cell_bw X2.out hF.d.be
      have HFZ := hid (heap_lt hF.f.x)
      by_cases hjn : j < nc
      ·obtain ⟨gc, oc, x, rfl, ex, la, lc, va, vc', q0, q1, q2, q3, q4, q5, pl, pv⟩ := cd_cell (XC.out.below hF.d.be) (show j < code.length by rw [HNC.out]; exact hjn)
       have HX := hid (HRC.out.2 _ (List.mem_of_getElem? ex))
       have EX := hid ex
       have jt : ((j : Int)).toNat = j := Int.toNat_natCast j
       obtain ⟨xo, xa, xb, xc, xl, xv⟩ := x
       dsimp only at q0 q1 q2 q3 q4 q5 pl pv HX
       have PL := hid pl
       have PV := hid pv
       have HCL := hid (show cd.length = j by rw [hcd]; simp; rw [HNC.out]; omega)
       obtain ⟨nl, hnl⟩ : ∃ n, xl.length = n := ⟨_, rfl⟩
       obtain ⟨nv, hnv⟩ : ∃ n, xv.length = n := ⟨_, rfl⟩
       rw [hnl] at q4
       rw [hnv] at q5
       have HNL := hid hnl
       have HNV := hid hnv
       have HXL := hid (show nl ≤ maxLen ∧ nl * 8 ≤ 140737488355328 by rw [← hnl]; exact ⟨pl.1, HX.out.1⟩)
       have HXV := hid (show nv ≤ maxLen ∧ nv * 8 ≤ 140737488355328 by rw [← hnv]; exact ⟨pv.1, HX.out.2⟩)
       clear hF hcd ex pl pv hnl hnv
       obtain ⟨W9, hW9⟩ : ∃ W, wr.alloc (.cells #[.int .i64 xo, .int .i64 xa, .int .i64 xb, .int .i64 xc, .slice la nl lc, .slice va nv vc'] 58) = W := ⟨_, rfl⟩
       have H9 := hid hW9
       have K9 := hid (KAt.new wr (.cells #[.int .i64 xo, .int .i64 xa, .int .i64 xb, .int .i64 xc, .slice la nl lc, .slice va nv vc'] 58 (0, 0)))
       clear hW9
       have BX2 := hid (fun o1 o2 => (show Below wr.heap.size wr ((wr.alloc o1).alloc o2) from ((Below.refl _ _).alloc (Nat.le_refl _) _).alloc (by simp) _))
       have hfx : fb ≠ wr.heap.size := Nat.ne_of_lt HFZ.out
       have hfx2 : wr.heap.size ≠ fb := Ne.symm hfx
       clear p1 p2 p3
       rcases bare with _ | _
       ·go_wp2_with (first
         | (at_builtin; (refine app_fresh infoInt Tryz.underlying56 rfl rfl _ _ rfl _ rfl (xl.map (Value.int .i64)) la nl lc (by rw [List.length_map]; exact HNL.out) rfl (PL.out.below (BX2.out _ _)).src (one_int _) HXL.out.1 HXL.out.2 ?_); (intro a1 c1 V1 r1 n1 hb1; have B1 := hid ((BX2.out _ _).trans (hb1.mono (BX2.out _ _).size)); have KX := hid ((K9.out.alloc _).below hb1); have R1 := hid (r1.mono (B' := wr.heap.size + 1) (by simp)); obtain ⟨y0, y1, y2, y3, y4, y5⟩ := xbx KX.out; have z4 : V1.frozen? ⟨wr.heap.size, 4, none⟩ = false := frozen_of_row _ _ _ _ _ KX.out.x; have y5p : ∀ o, ((V1.setCell ⟨wr.heap.size, 4, none⟩ (.slice a1 nl c1)).alloc o).cell? ⟨wr.heap.size, 5, none⟩ = some (.slice va nv vc') := (fun o => (xbx ((KX.out.set6_4 (.slice a1 nl c1)).alloc o)).2.2.2.2.2); clear r1 n1 hb1))
         | (at_builtin; (refine app_fresh (w := (V1.setCell ⟨wr.heap.size, 4, none⟩ (.slice a1 nl c1)).alloc (.cells #[] 3)) infoInt Tryz.underlying56 rfl rfl _ _ rfl _ rfl (xv.map (Value.int .i64)) va nv vc' (by rw [List.length_map]; exact HNV.out) rfl (PV.out.below ((B1.out.setCell (p := ⟨wr.heap.size, 4, none⟩) (Nat.le_refl _) _).alloc (by simp [World.setCell]; exact B1.out.size) _)).src (one_int _) HXV.out.1 HXV.out.2 ?_); (intro a2 c2 V2 r2 n2 hb2; have bs : Below wr.heap.size wr ((V1.setCell ⟨wr.heap.size, 4, none⟩ (.slice a1 nl c1)).alloc (.cells #[] 3)) := ((B1.out.setCell (p := ⟨wr.heap.size, 4, none⟩) (Nat.le_refl _) _).alloc (by simp [World.setCell]; exact B1.out.size) _); have B2 := hid (bs.trans (hb2.mono bs.size)); have KY := hid ((((KX.out.set6_4 (.slice a1 nl c1)).alloc _).below hb2)); have R2 := hid (r2.mono (B' := wr.heap.size + 1) (by simp [World.setCell]; have := heap_lt KX.out.x; omega)); have R1 := hid (((R1.out.put (Nat.lt_succ_self _) 4 (.slice a1 nl c1)).alloc _).below hb2); clear y0 y1 y2 y3 y4 y5 z4 y5p; obtain ⟨y0, y1, y2, y3, y4, y5⟩ := xbx KY.out; have z5 : V2.frozen? ⟨wr.heap.size, 5, none⟩ = false := frozen_of_row _ _ _ _ _ KY.out.x; have A3 := hid (F.out.below (B2.out.setCell (p := ⟨wr.heap.size, 5, none⟩) (Nat.le_refl _) (.slice a2 nv c2))); have y6 := F.out.below B2.out; have y7 := y6.f.fb.2.2.1; clear y6 r2 n2 hb2 bs))
         | (at_builtin; go_loud (refine wp_oneG (W := V2.setCell ⟨wr.heap.size, 5, none⟩ (.slice a2 nv c2)) (news := [.int .i64 xo, .int .i64 xa, .int .i64 xb, .int .i64 xc, .slice a1 nl c1, .slice a2 nv c2]) infoInsn Tryz.underlying46 rfl (by decide) A3.out.o (heap_lt A3.out.f.x) rfl _ _ rfl rfl V2.heap.size (by simp [World.setCell]) rfl rfl (by intro u hu; simp at hu; rcases hu with rfl | rfl | rfl | rfl | rfl | rfl <;> rfl) (by have := HCL.out; unfold maxLen; omega) (by have := HCL.out; have := HRC.out.1; have := HNC.out; omega) ?_); (intro g7 c7 V o7 hb7 kp7; have O7 := hid o7; have B7 := hid hb7; have K7 := hid kp7; have F7 := (show KAt V fb (fbBlk ps rs vc) from ⟨by rw [hb7.block fb (Nat.lt_succ_self _)]; exact A3.out.f.x⟩); have y8 := F7.fb.2.2.1; have z8 := F7.fb.2.2.2; clear F7 o7 hb7 kp7)))
        go_roundw
        case rel =>
         have hm1 := A3.out.hm
         have hm2 := A3.out.d.hm
         have hm3 := A3.out.hB
         have hm4 := HFZ.out
         have hk9 : ∀ b, wr.heap.size + 1 ≤ b → KI (w.heap.size + 1) fb b 3 := fun b h1 => ⟨by omega, by omega, .inl rfl⟩
         have hK := K7.out (KI (w.heap.size + 1) fb) (fun b hb h => by
          rcases h.2.2 with q | q | q | q
          ·exact absurd q (by decide)
          ·exact absurd q (by decide)
          ·exact absurd q (by decide)
          ·have := q.2; omega)
         have n1 := ((R1.out.put (Nat.lt_succ_self _) 5 (.slice a2 nv c2)).nums (K := KI (w.heap.size + 1) fb) (by rw [HNL.out]; exact HXL.out.1) (fun b h _ => hk9 b h)).kp hK
         have n2 := ((R2.out.put (Nat.lt_succ_self _) 5 (.slice a2 nv c2)).nums (K := KI (w.heap.size + 1) fb) (by rw [HNV.out]; exact HXV.out.1) (fun b h _ => hk9 b h)).kp hK
         have A4 := A3.out.app O7.out B7.out hK rfl (x := ⟨xo, xa, xb, xc, xl, xv⟩) ⟨a1, c1, a2, c2, rfl, rfl, rfl, rfl, by rw [HNL.out]; rfl, by rw [HNV.out]; rfl, n1, n2⟩
         exact ⟨j + 1, _, cd ++ [⟨xo, xa, xb, xc, xl, xv⟩], _, by omega, rfl, by rw [HCD.out, List.take_add_one, EX.out]; simp [cpI], A4, (fun hb => by cases hb), ((HKC.out.below (by omega) (B2.out.setCell (p := ⟨wr.heap.size, 5, none⟩) (Nat.le_refl _) (.slice a2 nv c2))).low (by omega) B7.out).put hm3 2 _⟩
        case measure => simp only [intOf]; omega
       ·go_wp2_with (first
         | (at_builtin; (refine app_fresh infoInt Tryz.underlying56 rfl rfl _ _ rfl _ rfl (xl.map (Value.int .i64)) la nl lc (by rw [List.length_map]; exact HNL.out) rfl (PL.out.below (BX2.out _ _)).src (one_int _) HXL.out.1 HXL.out.2 ?_); (intro a1 c1 V1 r1 n1 hb1; have B1 := hid ((BX2.out _ _).trans (hb1.mono (BX2.out _ _).size)); have KX := hid ((K9.out.alloc _).below hb1); have R1 := hid (r1.mono (B' := wr.heap.size + 1) (by simp)); obtain ⟨y0, y1, y2, y3, y4, y5⟩ := xbx KX.out; have z4 : V1.frozen? ⟨wr.heap.size, 4, none⟩ = false := frozen_of_row _ _ _ _ _ KX.out.x; have y5p : ∀ o, ((V1.setCell ⟨wr.heap.size, 4, none⟩ (.slice a1 nl c1)).alloc o).cell? ⟨wr.heap.size, 5, none⟩ = some (.slice va nv vc') := (fun o => (xbx ((KX.out.set6_4 (.slice a1 nl c1)).alloc o)).2.2.2.2.2); clear r1 n1 hb1))
         | (at_builtin; (refine app_fresh (w := (V1.setCell ⟨wr.heap.size, 4, none⟩ (.slice a1 nl c1)).alloc (.cells #[] 3)) infoInt Tryz.underlying56 rfl rfl _ _ rfl _ rfl (xv.map (Value.int .i64)) va nv vc' (by rw [List.length_map]; exact HNV.out) rfl (PV.out.below ((B1.out.setCell (p := ⟨wr.heap.size, 4, none⟩) (Nat.le_refl _) _).alloc (by simp [World.setCell]; exact B1.out.size) _)).src (one_int _) HXV.out.1 HXV.out.2 ?_); (intro a2 c2 V2 r2 n2 hb2; have bs : Below wr.heap.size wr ((V1.setCell ⟨wr.heap.size, 4, none⟩ (.slice a1 nl c1)).alloc (.cells #[] 3)) := ((B1.out.setCell (p := ⟨wr.heap.size, 4, none⟩) (Nat.le_refl _) _).alloc (by simp [World.setCell]; exact B1.out.size) _); have B2 := hid (bs.trans (hb2.mono bs.size)); have KY := hid ((((KX.out.set6_4 (.slice a1 nl c1)).alloc _).below hb2)); have R2 := hid (r2.mono (B' := wr.heap.size + 1) (by simp [World.setCell]; have := heap_lt KX.out.x; omega)); have R1 := hid (((R1.out.put (Nat.lt_succ_self _) 4 (.slice a1 nl c1)).alloc _).below hb2); clear y0 y1 y2 y3 y4 y5 z4 y5p; obtain ⟨y0, y1, y2, y3, y4, y5⟩ := xbx KY.out; have z5 : V2.frozen? ⟨wr.heap.size, 5, none⟩ = false := frozen_of_row _ _ _ _ _ KY.out.x; have A3 := hid (F.out.below ((B2.out.setCell (p := ⟨wr.heap.size, 5, none⟩) (Nat.le_refl _) (.slice a2 nv c2)).setCell (p := ⟨wr.heap.size, 5, none⟩) (Nat.le_refl _) (.slice none 0 0))); have y6 := F.out.below B2.out; have y7 := y6.f.fb.2.2.1; clear y6 r2 n2 hb2 bs))
         | (at_builtin; go_loud (refine wp_oneG (W := (V2.setCell ⟨wr.heap.size, 5, none⟩ (.slice a2 nv c2)).setCell ⟨wr.heap.size, 5, none⟩ (.slice none 0 0)) (news := [.int .i64 xo, .int .i64 xa, .int .i64 xb, .int .i64 xc, .slice a1 nl c1, .slice none 0 0]) infoInsn Tryz.underlying46 rfl (by decide) A3.out.o (heap_lt A3.out.f.x) rfl _ _ rfl rfl V2.heap.size (by simp [World.setCell]) rfl rfl (by intro u hu; simp at hu; rcases hu with rfl | rfl | rfl | rfl | rfl | rfl <;> rfl) (by have := HCL.out; unfold maxLen; omega) (by have := HCL.out; have := HRC.out.1; have := HNC.out; omega) ?_); (intro g7 c7 V o7 hb7 kp7; have O7 := hid o7; have B7 := hid hb7; have K7 := hid kp7; have F7 := (show KAt V fb (fbBlk ps rs vc) from ⟨by rw [hb7.block fb (Nat.lt_succ_self _)]; exact A3.out.f.x⟩); have y8 := F7.fb.2.2.1; have z8 := F7.fb.2.2.2; clear F7 o7 hb7 kp7)))
        go_roundw
        case rel =>
         have hm1 := A3.out.hm
         have hm2 := A3.out.d.hm
         have hm3 := A3.out.hB
         have hm4 := HFZ.out
         have hk9 : ∀ b, wr.heap.size + 1 ≤ b → KI (w.heap.size + 1) fb b 3 := fun b h1 => ⟨by omega, by omega, .inl rfl⟩
         have hK := K7.out (KI (w.heap.size + 1) fb) (fun b hb h => by
          rcases h.2.2 with q | q | q | q
          ·exact absurd q (by decide)
          ·exact absurd q (by decide)
          ·exact absurd q (by decide)
          ·have := q.2; omega)
         have n1 := (((R1.out.put (Nat.lt_succ_self _) 5 (.slice a2 nv c2)).put (Nat.lt_succ_self _) 5 (.slice none 0 0)).nums (K := KI (w.heap.size + 1) fb) (by rw [HNL.out]; exact HXL.out.1) (fun b h _ => hk9 b h)).kp hK
         have A4 := A3.out.app O7.out B7.out hK rfl (x := ⟨xo, xa, xb, xc, xl, []⟩) ⟨a1, c1, none, 0, rfl, rfl, rfl, rfl, by rw [HNL.out]; rfl, rfl, n1, NumsK.nil _ _ _ _⟩
         have n5 := HN5.out rfl
         have fn1 := n5.2.kp F.out.r.f (Kp.below (show Below wr.heap.size wr _ from (B2.out.setCell (p := ⟨wr.heap.size, 5, none⟩) (Nat.le_refl _) (.slice a2 nv c2)).setCell (p := ⟨wr.heap.size, 5, none⟩) (Nat.le_refl _) (.slice none 0 0)))
         have fn2 := fn1.kp A3.out.r.f hK
         have hf7 : KAt V fb (fbBlk ps rs vc) := ⟨by rw [B7.out.block fb (Nat.lt_succ_self _)]; exact A3.out.f.x⟩
         have fn3 := fn2.kp (A3.out.r.f.kp hK) (Kp.set2 hf7 (fun k => k.2.1 rfl) 2 (.slice (some ⟨g7, 0, none⟩) (cd.length + 1) c7))
         exact ⟨j + 1, _, cd ++ [⟨xo, xa, xb, xc, xl, []⟩], _, by omega, rfl, by rw [HCD.out, List.take_add_one, EX.out]; simp [cpI], A4, (fun _ => ⟨by rw [List.length_append]; exact n5.1.snoc, fn3⟩), ((HKC.out.below (by omega) ((B2.out.setCell (p := ⟨wr.heap.size, 5, none⟩) (Nat.le_refl _) (.slice a2 nv c2)).setCell (p := ⟨wr.heap.size, 5, none⟩) (Nat.le_refl _) (.slice none 0 0))).low (by omega) B7.out).put hm3 2 _⟩
        case measure => simp only [intOf]; omega
      ·have hjn2 : j = nc := by omega
       have HCE := hid (show cd = code.map (cpI bare) by rw [hcd, hjn2, ← HNC.out, List.take_length])
       obtain ⟨ca2, cc2, rfl, -, -⟩ := own_form hF.o
       have hfl := HFL.out
       have x7 := hF.f.fb.1
       have x8 := hF.f.fb.2.1
       have x9 := hF.f.fb.2.2.1
       have HQ := hid hF.out
       obtain ⟨s0, s1, s2, s3, w0, w1, w2, w3⟩ := hF.d.q.pg
       clear hF hcd p1 p2 p3
       go_wp2_with (first
        | (at_builtin; (refine wp_oneG (W := wr) (news := [.int .i64 ps, .int .i64 rs, .slice ca2 cd.length cc2]) infoFunc Tryz.underlying22 rfl (by decide) F.out.out.o F.out.out.hB rfl _ _ rfl rfl _ rfl rfl rfl (by intro u hu; simp at hu; rcases hu with rfl | rfl | rfl <;> rfl) (by rw [hfl]; unfold maxLen; omega) (by have := HR.out.f; rw [HNF.out] at this; rw [hfl]; omega) ?_); (intro g7 c7 V o7 hb7 kp7; have HB7 := hid hb7; have S6 := hid (F.out.out.grown o7 hb7); have KP7 := hid (kp7 (KO (w.heap.size + 1)) (fun b _ h => absurd h.2 (by decide))); clear s0 s1 s2 s3 w0 w1 w2 w3; obtain ⟨s0, s1, s2, s3, w0, w1, w2, w3⟩ := S6.out.d.q.pg)))
       go_roundw
       case rel =>
        have hSn : Srt (fs ++ [⟨ps, rs, cd⟩]) (xs ++ [.int .i64 ps, .int .i64 rs, .slice ca2 cd.length cc2]) := HSr.out.snoc (fb := fb) F.out.r.f (fun b h => by
         rcases h.2.2 with q | q | q | q
         ·exact absurd q (by decide)
         ·exact absurd q (by decide)
         ·exact absurd q (by decide)
         ·exact q.2) (fun a' ea hne => by
         obtain ⟨g, cap', cur, hv, q1, -⟩ := own_parts F.out.o (List.length_pos_iff.2 hne)
         cases hv; cases ea; exact q1)
        have hf := (F.out.fn.kp KP7.out)
        have hR := ((F.out.rest.kp KP7.out))
        have hR2 : RsT (KO (w.heap.size + 1)) V (fs ++ [⟨ps, rs, cd⟩]) (xs ++ [.int .i64 ps, .int .i64 rs, .slice ca2 cd.length cc2]) sa' P.ss ra' P.us := ⟨hR.f.snoc rfl hf, hR.s, hR.u⟩
        have hFn : ∀ u, bare = true → FnsN (V.setCell ⟨m, 0, none⟩ u) (fs ++ [⟨ps, rs, cd⟩]) (xs ++ [.int .i64 ps, .int .i64 rs, .slice ca2 cd.length cc2]) := fun u hb => by
         have a1 := (HN5.out hb).2.kp F.out.rest.f KP7.out
         have a2 := ((HN5.out hb).1.fn (f := ⟨ps, rs, cd⟩) (u := .int .i64 ps) (v := .int .i64 rs) F.out.o rfl).kp F.out.fn KP7.out
         exact (a1.snoc hR.f a2).kp hR2.f (Kp.set2 S6.out.d.q (fun h => absurd h.2 (by decide)) 0 _)
        refine ⟨k + 1, .slice (some ⟨g7, 0, none⟩) (fs.length + 1) c7, fs ++ [⟨ps, rs, cd⟩], _, by omega, rfl, ?_, ?_, hR2.kp (Kp.set2 S6.out.d.q (fun h => absurd h.2 (by decide)) 0 _), hSn, hFn _, (HKC.out.low (Nat.le_refl _) HB7.out).putm 0 _⟩
        ·rw [HFS.out, List.take_add_one, ES.out, HCE.out]; simp [cpF]
        ·have := S6.out.put0 (.slice (some ⟨g7, 0, none⟩) (fs.length + 1) c7)
         simpa [hfl] using this
       case measure => simp only [intOf]; omega
   ·have hk2 : k = nf := by omega
    have HFE := hid (show fs = P.fs.map (cpF bare) by rw [hfs, hk2, ← HNF.out, List.take_length])
    have hlen : fs.length = nf := by rw [HFE.out, List.length_map]; exact HNF.out
    obtain ⟨fa2, fc2, rfl, -, -⟩ := own_form hC.o
    rw [hlen] at hC
    have HL := hid hlen
    have C2 := hid hC
    obtain ⟨s0, s1, s2, s3, -, -, -, -⟩ := hC.d.q.pg
    have w0 : wr.frozen? ⟨w.heap.size + 1, 0, none⟩ = false := frozen_of_row _ _ _ _ _ hC.d.b.x
    have w1 : wr.frozen? ⟨w.heap.size + 1, 1, none⟩ = false := frozen_of_row _ _ _ _ _ hC.d.b.x
    have w2 : wr.frozen? ⟨w.heap.size + 1, 2, none⟩ = false := frozen_of_row _ _ _ _ _ hC.d.b.x
    have w3 : wr.frozen? ⟨w.heap.size + 1, 3, none⟩ = false := frozen_of_row _ _ _ _ _ hC.d.b.x
    obtain ⟨t0, t1, t2, t3⟩ := pbx hC.d.b
    clear hC hRs hfs p1 p2 p3 C
    go_wp2_with fail
    have hi' : (Tryz.prog.info? 26).map (·.size) = some 4 := by kernel_rfl
    (try simp only [Exit.inBlock, Exit.then]); refine bodyPost_ret (results_cell_row rfl _ _ (w.heap.size + 1) 26 _ (0, 0) _ rfl (p_set C2.out.d.b _ _ _ _) Tryz.underlying26 rfl hi') rfl ?_
    have hm1 := C2.out.d.hm
    have hm2 := C2.out.h
    have ho := C2.out.o
    rw [← HL.out] at ho
    have hpk := pg_put5 (S := w.heap.size + 1) ho R.out HSr.out HFN.out (by omega) HPW.out.z en (.slice fa2 nf fc2) (.slice sa' ns sc') (.slice ra' nu rc') (.int .i64 en)
    have hlt : w.heap.size + 1 < w.heap.size + 2 := Nat.lt_succ_self _
    have hl3 : w.heap.size + 1 < B3 := by omega
    have hko := HKW.out _ HKB.out
    refine ⟨fa2, fc2, sa', sc', ra', rc', rfl, ?_, ((((C2.out.d.be.setCell (p := ⟨w.heap.size + 1, 0, none⟩) (Nat.le_succ _) _).setCell (p := ⟨w.heap.size + 1, 1, none⟩) (Nat.le_succ _) _).setCell (p := ⟨w.heap.size + 1, 2, none⟩) (Nat.le_succ _) _).setCell (p := ⟨w.heap.size + 1, 3, none⟩) (Nat.le_succ _) _), ((((hko.1.put hlt 0 _).put hlt 1 _).put hlt 2 _).put hlt 3 _).mono (by omega), ((((hko.2.put hlt 0 _).put hlt 1 _).put hlt 2 _).put hlt 3 _).mono (by omega), xs, own_mono (ownsRow_setCell_below (ownsRow_setCell_below (ownsRow_setCell_below (ownsRow_setCell_below C2.out.o (a := ⟨w.heap.size + 1, 0, none⟩) hl3 _) (a := ⟨w.heap.size + 1, 1, none⟩) hl3 _) (a := ⟨w.heap.size + 1, 2, none⟩) hl3 _) (a := ⟨w.heap.size + 1, 3, none⟩) hl3 _) (by omega)⟩
    rw [HFE.out] at hpk
    have := hpk.wk (K' := KUp w.heap.size) (fun b T _ h => Nat.lt_of_succ_lt h)
    unfold cpP
    rw [HEN.out]
    exact this
end Go.Proofs.YtokjkligechcoaaGreatDoor
