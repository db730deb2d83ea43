/- Walks of layer 16: a line of a program's text. -/
import Derived.Test.YtokjkligechcoaaGreatDoorKo
import Derived.Test.YtokjkligechcoaaGreatDoorHb
set_option linter.unusedVariables false
namespace Go.Proofs.YtokjkligechcoaaGreatDoor
open _root_.Go.Lib (hid)
open Go.RowKit
attribute [local go_sem] ext_mk size_mk toList_mk get_mk take_drop_len take_tail_len ByteArray.mk_append_mk List.append_toArray
section
/-- a block of numbers -/
abbrev IntB : Nat → TypeId → Prop := fun _ T => T = 3
abbrev NoS : Nat → TypeId → Prop := fun _ T => T ≠ 9
theorem ints_c0 {k : IntKind} {W : World} {a : Option Addr} {l : List Int} (h : IntsAt k W a l) {i : Nat} (hi : i < l.length) : ∃ b o, a = some ⟨b, o, none⟩ ∧ W.cell? ⟨b, o + i, none⟩ = some (.int k (l.getD i 0)) := by
 rcases h.2 with q | ⟨b, o, q1, q2⟩
 ·subst q; exact absurd hi (Nat.not_lt_zero _)
 ·exact ⟨b, o, q1, q2 i hi⟩
theorem getD_mem {l : List Int} {i : Nat} (hi : i < l.length) : l.getD i 0 ∈ l := by
 rw [List.getD_eq_getElem?_getD, List.getElem?_eq_getElem hi]; exact List.getElem_mem hi
theorem take_num {l : List Int} {i : Nat} (hi : i < l.length) : (l.take (i + 1)).map numS = (l.take i).map numS ++ [numS (l.getD i 0)] := by
 rw [List.take_add_one, List.getElem?_eq_getElem hi, List.map_append, List.getD_eq_getElem?_getD, List.getElem?_eq_getElem hi]; rfl
/-- a box that holds a row of strings of the call's own -/
structure LnAt (B : Nat) (W : World) (q : Nat) (v : Value) (xs : List (List UInt8)) : Prop where
 b : KAt W q (.cells #[v] 23 (0, 0))
 o : W.ownsRow B 9 1 v xs.length (strC xs)
 h : B ≤ q
 hB : B ≤ W.heap.size
section
variable {B : Nat} {W V : World} {q : Nat} {v : Value} {xs : List (List UInt8)}
theorem LnAt.below (h : LnAt B W q v xs) (hb : Below W.heap.size W V) : LnAt B V q v xs := ⟨h.b.below hb, row_below h.o hb, h.h, Nat.le_trans h.hB hb.size⟩
theorem LnAt.put {v' : Value} {ys : List (List UInt8)} (hb : KAt V q (.cells #[v] 23 (0, 0))) (ho : V.ownsRow B 9 1 v' ys.length (strC ys)) (h : B ≤ q) (hB : B ≤ V.heap.size) : LnAt B (V.setCell ⟨q, 0, none⟩ v') q v' ys := by
 refine ⟨⟨heap_setCell_same (i := 0) _ _ _ _ _ hb.x⟩, ?_, h, by simpa [World.setCell] using hB⟩
 refine ho.kept (row := some q) ⟨rfl, rfl, rfl, by simp [World.setCell], fun k _ hk => Below.heap_setCell _ _ _ _ (fun e => hk (by rw [show k = q from e]))⟩ (.inr ?_)
 intro e
 rcases ho.2 with ⟨rfl, -⟩ | ⟨g, cap, cur, rfl, -, hg, -⟩
 ·simp [Value.ownBlock] at e
 ·simp [Value.ownBlock] at e
  subst e
  rw [hb.x] at hg
  simp only [Option.some.injEq, Obj.cells.injEq] at hg
  exact absurd hg.2.1 (by decide)
end
set_option maxHeartbeats 2000000 in
set_option maxRecDepth 4000 in
theorem numbers_any (hd : List UInt8) (r : Option Addr) (L : List Int) (cap : Nat) (w : World) (hL : IntsAt .i64 w r L) (hI : ∀ n ∈ L, I8b n) (hV : PrVars w) (hn : L.length ≤ 100000) :
  Calls Tryz.prog 114 #[.string ⟨hd.toArray⟩, .slice r L.length cap] w fun e w' => ∃ g c, e = .returned (.slice (some ⟨g, 0, none⟩) (L.length + 1) c) ∧ w.heap.size ≤ g ∧ g < w'.heap.size ∧ (∀ i u, (strC (hd :: L.map numS))[i]? = some u → w'.cell? ⟨g, i, none⟩ = some u) ∧ Below w.heap.size w w' := by
 have HL := hid hL
 have HI := hid hI
 have HV := hid hV
 obtain ⟨n, hnn⟩ : ∃ n, L.length = n := ⟨_, rfl⟩
 have HN := hid hnn
 have hown := World.ownsRow_lit (base := w.heap.size) (e := 9) (size := 1) w #[.string ⟨hd.toArray⟩] 1 (Nat.le_refl _) (by decide) rfl
 have hb0 : Below w.heap.size w (w.alloc (.cells #[.string ⟨hd.toArray⟩] 9)) := (Below.refl _ _).alloc (Nat.le_refl _) _
 have OW := hid hown
 have HB0 := hid hb0
 clear hL hI hV hown hb0
 rw [hnn] at hn ⊢
 clear hnn
 go_enter Tryz.func114, Tryz.ntmps114
 go_wp2_with fail
 go_loopw [5, 12] (fun v5 v12 wr => ∃ k : Nat, v12 = .int .i64 (k : Int) ∧ k ≤ n ∧ Below w.heap.size w wr ∧ wr.ownsRow w.heap.size 9 1 v5 (k + 1) (strC (hd :: (L.take k).map numS))) (fun _ v12 _ => n - (intOf v12).toNat)
 case atStart => exact ⟨0, rfl, Nat.zero_le _, HB0.out, OW.out⟩
 case round =>
  clear OW HB0
  obtain ⟨k, rfl, hk, hb, ho⟩ := hrel
  have HB := hid hb
  have HO := hid ho
  by_cases hlt : k < n
  ·obtain ⟨b, o, rfl, c0⟩ := ints_c0 (HL.out.below hb) (show k < L.length by rw [HN.out]; exact hlt)
   have hz := HI.out _ (getD_mem (show k < L.length by rw [HN.out]; exact hlt))
   have HT := hid (take_num (show k < L.length by rw [HN.out]; exact hlt))
   obtain ⟨z, hze⟩ : ∃ z, L.getD k 0 = z := ⟨_, rfl⟩
   rw [hze] at c0 hz HT
   have CN := hid (number_any z wr hz (HV.out.below hb))
   have it : ((k : Int)).toNat = k := Int.toNat_natCast k
   clear hb ho hz hze
   go_wp2_with (first
    | (go_at_call 49; refine CN.out.mono ?_; rintro e w1 ⟨rfl, hb1⟩; have B1 := hid hb1; have O1 := hid (row_below HO.out hb1); have HB1 := hid (HB.out.trans (hb1.mono HB.out.size)); clear hb1)
    | (at_builtin; (refine wp_one (W := w1) (news := [.string ⟨(numS z).toArray⟩]) infoStr Tryz.underlying23 rfl (by decide) O1.out HB1.out.size rfl _ _ rfl rfl _ rfl rfl rfl (by intro u hu; simp at hu; subst hu; rfl) (by omega) (by decide) ?_); (intro g7 c7 V o7 hb7 kp7; have O7 := hid o7; have B7 := hid (HB1.out.trans hb7); clear o7 hb7 kp7)))
   go_roundw
   case rel => exact ⟨k + 1, by go_num, hlt, B7.out, by rw [HT.out]; have := O7.out; simpa [strC] using this⟩
   case measure => simp only [intOf]; omega
  ·obtain rfl : k = n := by omega
   obtain ⟨g, cap', cur, rfl, q1, q2, q3, q4, q5⟩ := own_parts ho (Nat.succ_pos _)
   have HE := hid (show L.take k = L by rw [← HN.out, List.take_length])
   have Q2 := hid q2
   have Q5 := hid q5
   clear hb ho q2 q5
   go_wp2_with fail
   go_ret
   refine ⟨g, cap', rfl, q1, heap_lt Q2.out, fun i u e => ?_, HB.out⟩
   have hl : (strC (hd :: L.map numS)).length = k + 1 := by simp [strC]; exact HN.out
   have hi : i < k + 1 := by rw [← hl]; exact (List.getElem?_eq_some_iff.1 e).1
   rw [cell_of_row _ _ _ _ _ _ Q2.out, Q5.out i (by omega), HE.out]
   exact e
set_option maxHeartbeats 2000000 in
set_option maxRecDepth 4000 in
theorem add_any (B q : Nat) (v : Value) (xs : List (List UInt8)) (r : Option Addr) (L : List Int) (cap : Nat) (w0 w : World) (h : LnAt B w q v xs) (hL : NumsK IntB 3 .i64 w r L) (hI : ∀ n ∈ L, I8b n) (hV : PrVars w0) (h0 : w0.heap.size ≤ B) (hb : Below w0.heap.size w0 w) (hn : xs.length + L.length ≤ 100000) :
  Calls Tryz.prog 113 #[.slice r L.length cap, .pointer (some ⟨q, 0, none⟩)] w fun e w' => (∃ u, e = .returned u) ∧ (∃ v', LnAt B w' q v' (xs ++ L.map numS)) ∧ Below B w w' := by
 have HL := hid hL
 have HI := hid hI
 have HV := hid hV
 have HB0 := hid hb
 have HH := hid h
 obtain ⟨n, hnn⟩ : ∃ n, L.length = n := ⟨_, rfl⟩
 have HN := hid hnn
 clear hL hI hV h hb
 rw [hnn] at hn ⊢
 clear hnn
 go_enter Tryz.func113, Tryz.ntmps113
 go_wp2_with fail
 go_loopw [7] (fun v7 wr => ∃ (k : Nat) (v' : Value), v7 = .int .i64 (k : Int) ∧ k ≤ n ∧ Below B w wr ∧ LnAt B wr q v' (xs ++ (L.take k).map numS) ∧ NumsK IntB 3 .i64 wr r L) (fun v7 _ => n - (intOf v7).toNat)
 case atStart => exact ⟨0, v, rfl, Nat.zero_le _, Below.refl _ _, by simpa using HH.out, HL.out⟩
 case round =>
  obtain ⟨k, v', rfl, hk, hb, hl, hN⟩ := hrel
  have HB := hid hb
  have HLn := hid hl
  have HNu := hid hN
  by_cases hlt : k < n
  ·obtain ⟨b, o, rfl, c0⟩ := ints_c0 hN.at (show k < L.length by rw [HN.out]; exact hlt)
   have hz := HI.out _ (getD_mem (show k < L.length by rw [HN.out]; exact hlt))
   have HT := hid (take_num (show k < L.length by rw [HN.out]; exact hlt))
   obtain ⟨z, hze⟩ : ∃ z, L.getD k 0 = z := ⟨_, rfl⟩
   rw [hze] at c0 hz HT
   have CN := hid (fun W (hW : Below wr.heap.size wr W) => number_any z W hz (HV.out.below (HB0.out.trans ((hb.mono h0).trans (hW.mono (Nat.le_trans h0 hl.hB))))))
   have it : ((k : Int)).toNat = k := Int.toNat_natCast k
   obtain ⟨ys, hys⟩ : ∃ ys, xs ++ (L.take k).map numS = ys := ⟨_, rfl⟩
   have HYS := hid hys
   have HYL := hid (show ys.length ≤ 100000 by rw [← hys]; simp; rw [HN.out]; omega)
   rw [hys] at HLn
   have q0 : wr.cell? ⟨q, 0, none⟩ = some v' := by rw [cell_of_row _ _ _ _ _ _ hl.b.x]; rfl
   have hle : wr.heap.size ≤ wr.heap.size := Nat.le_refl _
   clear hb hl hN hz hze hys
   go_wp2_with fail
   go_region_law (first
    | (go_simp; go_at_call 49; refine (CN.out _ (by first | exact Below.refl _ _ | exact (Below.refl _ _).drew)).mono ?_; rintro e w1 ⟨rfl, hb1⟩; have B1 := hid (show Below wr.heap.size wr w1 from by first | exact hb1 | exact ((Below.refl wr.heap.size wr).drew).trans hb1); have L1 := hid (HLn.out.below B1.out); have N1 := hid (HNu.out.kp (Kp.below B1.out)); have q1 : w1.cell? ⟨q, 0, none⟩ = some v' := (by rw [cell_of_row _ _ _ _ _ _ L1.out.b.x]; rfl); have q1p := cell_a1 q1; clear hb1)
    | (refine step_one (W := w1) (news := [.string ⟨(numS z).toArray⟩]) infoStr Tryz.underlying23 rfl (by decide) L1.out.o L1.out.hB rfl _ _ rfl rfl rfl rfl (by intro u hu; simp at hu; subst hu; rfl) (by have := HYL.out; omega) (by decide) ?_; intro g7 c7 V o7 hb7 kp7; have O7 := hid o7; have B7 := hid ((B1.out.mono HLn.out.hB).trans hb7); have K7 := hid (kp7 NoS (fun b _ h => h rfl)); have K8 := hid (kp7 IntB (fun b _ h => absurd (show 9 = 3 from h) (by decide))); have KQ : KAt V q (.cells #[v'] 23 (0, 0)) := ⟨K7.out.k q _ _ (show 23 ≠ 9 by decide) L1.out.b.x⟩; have q7 : V.cell? ⟨q, 0, none⟩ = some v' := (by rw [cell_of_row _ _ _ _ _ _ KQ.x]; rfl); have q8 := frozen_of_row _ q 0 _ _ KQ.x; have KQ7 := hid KQ; clear o7 hb7 kp7 KQ))
   all_goals go_wp2_with fail
   all_goals
    go_roundw
    case rel =>
     refine ⟨k + 1, .slice (some ⟨g7, 0, none⟩) (ys.length + 1) c7, by go_num, hlt, (HB.out.trans (B7.out.setCell (p := ⟨q, 0, none⟩) L1.out.h _)), ?_, ((N1.out.kp K8.out).kp (Kp.set2 KQ7.out (show ¬ 23 = 3 by decide) 0 _))⟩
     rw [HT.out, ← List.append_assoc, HYS.out]
     exact LnAt.put KQ7.out (by have := O7.out; simpa [strC] using this) L1.out.h (Nat.le_trans HLn.out.hB B7.out.size)
    case measure => simp only [intOf]; omega
  ·obtain rfl : k = n := by omega
   have HE := hid (show L.take k = L by rw [← HN.out, List.take_length])
   clear hb hl hN
   go_wp2_with fail
   go_end0
   exact ⟨⟨_, rfl⟩, ⟨v', by rw [← HE.out]; exact HLn.out⟩, HB.out⟩
end
/-- the parts of a line -/
def lineP (op a b : Int) (lv : List Int) : List (List UInt8) := [[], wordS op, numS a, numS b] ++ (if op = 2 then [108, 105, 118, 101] :: lv.map numS else [])
def lineS (op a b : Int) (lv : List Int) : List UInt8 := Lib.join (lineP op a b lv) [32] ++ [10]
theorem words_ex (W : World) : Calls Tryz.prog 63 #[] W fun e w' => ∃ M, e = .returned (.map (some M)) ∧ Below W.heap.size W w' ∧ ∀ op, 0 ≤ op ∧ op ≤ 13 → ∀ V, Below w'.heap.size w' V → (Instr.lookup 120 (.map (some M)) (.int .i64 op) false).run Tryz.prog V = .ok (.string ⟨(wordS op).toArray⟩) V :=
 (words_any W).mono (by rintro e w' ⟨rfl, hb, hm⟩; exact ⟨_, rfl, hb, hm⟩)
theorem step_many {W : World} {B n m c g : Nat} {t : TypeId} {v : Value} {xs news : List Value} {ops : Array Oper} {o : Oper} {a : Act} {K : Act → World → Prop} {Q : Exit → Act → World → Prop} {E : Prop}
  (ht : Tryz.prog.underlying t = some (.slice 9)) (ho : W.ownsRow B 9 1 v n xs) (hB : B ≤ W.heap.size) (hgd : o.guard = none) (s x : Operand) (hop : o.op = .call { callee := .builtin .append, args := #[s, x], argTypes := #[t, t] })
  (hs : a.eval s = v) (hx : a.eval x = .slice (some ⟨g, 0, none⟩) m c) (hl : news.length = m) (hc : ∀ i u, news[i]? = some u → W.cell? ⟨g, i, none⟩ = some u) (h1 : ∀ u ∈ news, u.oneCell' = true) (hm : 0 < m) (N : Nat) (hNN : n + m = N) (hn : N ≤ 100000000)
  (h : ∀ g cap V, V.ownsRow B 9 1 (.slice (some ⟨g, 0, none⟩) N cap) N (xs ++ news) → Below B W V → Kp NoS W V → K (a.put o.dst (.slice (some ⟨g, 0, none⟩) N cap)) V) :
  if Region.wanted o (yielded ops a.tmps) = true then Oper.wp Tryz.prog o a W K Q else E := by
 subst hNN
 obtain ⟨i0, hi, hz0, hz1, hz2⟩ := info_parts infoStr
 refine step_append_lies (w := W) hgd s x t hop B 9 i0 (Value.string ⟨#[]⟩) 1 16 ht hi hz0 hz1 hz2 rfl (by decide) v n xs hs ho ⟨g, 0, none⟩ m c news hx (by omega) (fun j u e => ?_) h1 hm (by unfold maxLen; omega) (by omega) hB _ rfl ?_
 ·rw [show (⟨g, 0, none⟩ : Addr).add j = ⟨g, j, none⟩ from by (unfold Addr.add; by_cases h0 : j = 0 <;> simp [h0])]; exact hc j u e
 intro g2 cap V k1 k2 _ _
 exact h _ _ V k1 ((Below.refl B _).grown k2 hB (fun j hj => (ho.lt j hj).1)) (Kp.grown ho k2 (fun b _ h => h rfl))
theorem ints2 (W : World) (a b : Int) : NumsK IntB 3 .i64 (W.alloc (.cells #[.int .i64 a, .int .i64 b] 3)) (some ⟨W.heap.size, 0, none⟩) [a, b] := by
 refine ⟨show 2 ≤ maxLen by decide, .inr ⟨W.heap.size, _, rfl, rfl, heap_alloc_new _ _, fun i hi => ?_⟩⟩
 have hi : i < 2 := hi
 match i, hi with
 | 0, _ => rfl
 | 1, _ => rfl
theorem LnAt.cells {B : Nat} {W : World} {q : Nat} {v : Value} {xs : List (List UInt8)} (h : LnAt B W q v xs) (hn : xs ≠ []) : ∃ g c, v = .slice (some ⟨g, 0, none⟩) xs.length c ∧ xs.length ≤ c ∧ g < W.heap.size ∧ ∀ (j : Nat) x, (xs.map (fun l => (⟨l.toArray⟩ : ByteArray)))[j]? = some x → W.cell? ⟨g, 0 + j, none⟩ = some (.string x) := by
 obtain ⟨g, cap, cur, rfl, q1, q2, q3, q4, q5⟩ := own_parts h.o (List.length_pos_iff.2 hn)
 refine ⟨g, cap, rfl, q3, heap_lt q2, fun j x e => ?_⟩
 have hj : j < xs.length := by
  have := (List.getElem?_eq_some_iff.1 e).1
  simpa using this
 rw [Nat.zero_add, cell_of_row _ _ _ _ _ _ q2, q5 j (by omega)]
 rw [List.getElem?_map] at e
 rw [strC, List.getElem?_map]
 cases h2 : xs[j]? with
 | none => rw [h2] at e; cases e
 | some l => rw [h2] at e; cases e; rfl
theorem ln_A {W : World} {B q : Nat} {z : Value} (a b : List UInt8) (kq : KAt W q (.cells #[z] 23 (0, 0))) (h : B ≤ q) (hB : B ≤ W.heap.size) : LnAt B ((W.alloc (.cells #[.string ⟨a.toArray⟩, .string ⟨b.toArray⟩] 9)).setCell ⟨q, 0, none⟩ (.slice (some ⟨W.heap.size, 0, none⟩) 2 2)) q (.slice (some ⟨W.heap.size, 0, none⟩) 2 2) [a, b] :=
 LnAt.put (kq.alloc _) (World.ownsRow_lit (size := 1) W #[.string ⟨a.toArray⟩, .string ⟨b.toArray⟩] 2 hB (by decide) rfl) h (Nat.le_trans hB (by simp))
theorem ln_B {W : World} {B : Nat} (a b : List UInt8) (hB : B ≤ W.heap.size) : LnAt B ((W.alloc (.cells #[.slice (some ⟨W.heap.size + 1, 0, none⟩) 2 2] 23)).alloc (.cells #[.string ⟨a.toArray⟩, .string ⟨b.toArray⟩] 9)) W.heap.size (.slice (some ⟨W.heap.size + 1, 0, none⟩) 2 2) [a, b] := by
 have h := World.ownsRow_lit (base := B) (e := 9) (size := 1) (W.alloc (.cells #[.slice (some ⟨W.heap.size + 1, 0, none⟩) 2 2] 23)) #[.string ⟨a.toArray⟩, .string ⟨b.toArray⟩] 2 (Nat.le_trans hB (by simp)) (by decide) rfl
 rw [show (W.alloc (.cells #[.slice (some ⟨W.heap.size + 1, 0, none⟩) 2 2] 23)).heap.size = W.heap.size + 1 from by simp] at h
 exact ⟨(KAt.new _ _).alloc _, h, hB, Nat.le_trans hB (by simp; omega)⟩
theorem ln_C {W : World} {B : Nat} (a b : List UInt8) (hB : B ≤ W.heap.size) : LnAt B ((W.alloc (.cells #[.string ⟨a.toArray⟩, .string ⟨b.toArray⟩] 9)).alloc (.cells #[.slice (some ⟨W.heap.size, 0, none⟩) 2 2] 23)) (W.heap.size + 1) (.slice (some ⟨W.heap.size, 0, none⟩) 2 2) [a, b] := by
 have h := World.ownsRow_lit (base := B) (e := 9) (size := 1) W #[.string ⟨a.toArray⟩, .string ⟨b.toArray⟩] 2 hB (by decide) rfl
 have k := KAt.new (W.alloc (.cells #[.string ⟨a.toArray⟩, .string ⟨b.toArray⟩] 9)) (.cells #[.slice (some ⟨W.heap.size, 0, none⟩) 2 2] 23 (0, 0))
 rw [show (W.alloc (.cells #[.string ⟨a.toArray⟩, .string ⟨b.toArray⟩] 9)).heap.size = W.heap.size + 1 from by simp] at k
 exact ⟨k, row_below h ((Below.refl _ _).alloc (Nat.le_refl _) _), Nat.le_succ_of_le hB, Nat.le_trans hB (by simp; omega)⟩
theorem xbx6 {W : World} {q : Nat} {a b c d e f : Value} (h : KAt W q (.cells #[a, b, c, d, e, f] 58 (0, 0))) : W.cell? ⟨q, 0, none⟩ = some a ∧ W.cell? ⟨q, 1, none⟩ = some b ∧ W.cell? ⟨q, 2, none⟩ = some c ∧ W.cell? ⟨q, 3, none⟩ = some d ∧ W.cell? ⟨q, 4, none⟩ = some e ∧ W.cell? ⟨q, 5, none⟩ = some f := by
 refine ⟨?_, ?_, ?_, ?_, ?_, ?_⟩ <;> (rw [cell_of_row _ _ _ _ _ _ h.x]; rfl)
theorem lens_le {xs : List (List UInt8)} (h : ∀ x ∈ xs, x.length ≤ 20) : Lib.lens xs ≤ 20 * xs.length := by
 induction xs with
 | nil => simp [Lib.lens]
 | cons x r ih =>
  have h1 := h x List.mem_cons_self
  have h2 := ih (fun y hy => h y (List.mem_cons_of_mem _ hy))
  simp only [Lib.lens, List.map_cons, List.sum_cons, List.length_cons] at h2 ⊢
  omega
theorem join_n (g c N : Nat) (xs : List (List UInt8)) (W : World) (hN : xs.length = N) (h0 : xs ≠ []) (hN2 : N ≤ 100000) (hc : N ≤ c) (hg : g < W.heap.size) (hcells : ∀ (j : Nat) x, (xs.map (fun l => (⟨l.toArray⟩ : ByteArray)))[j]? = some x → W.cell? ⟨g, 0 + j, none⟩ = some (.string x)) (hlen : ∀ x ∈ xs, x.length ≤ 20) :
  Calls Tryz.prog 115 #[.slice (some ⟨g, 0, none⟩) N c, .string ⟨#[32]⟩] W fun e w' => e = .returned (.string ⟨(Lib.join xs [32]).toArray⟩) ∧ Below W.heap.size W w' := by
 have e1 : (xs.map (fun l => (⟨l.toArray⟩ : ByteArray))).map (·.data.toList) = xs := by
  rw [List.map_map]
  exact List.map_id'' (fun _ => rfl) xs
 have hl : (Lib.join xs [32]).length ≤ 140737488355328 := by
  cases xs with
  | nil => exact absurd rfl h0
  | cons x r =>
   rw [Lib.join_length]
   have := lens_le hlen
   simp only [List.length_cons, List.length_nil] at this hN ⊢
   omega
 have h := Tryz.strings_Join g 0 c (xs.map (fun l => (⟨l.toArray⟩ : ByteArray))) ⟨#[32]⟩ W hcells hg (by rw [List.length_map]; omega) (by rw [List.length_map]; omega) (by rw [e1]; exact hl)
 rw [e1, List.length_map, hN] at h
 exact h
theorem join_len {xs : List (List UInt8)} (h : ∀ x ∈ xs, x.length ≤ 20) (hn : xs.length ≤ 100000) : (Lib.join xs [32]).length ≤ 3000000 := by
 cases xs with
 | nil => simp [Lib.join_nil]
 | cons x r =>
  rw [Lib.join_length]
  have := lens_le h
  simp only [List.length_cons, List.length_nil] at this hn ⊢
  omega
theorem wordS_len (op : Int) : (wordS op).length ≤ 20 := by
 unfold wordS
 split <;> decide
theorem lineP_len {op a b : Int} {lv : List Int} (ha : I8b a) (hb : I8b b) (hl : ∀ n ∈ lv, I8b n) : ∀ x ∈ lineP op a b lv, x.length ≤ 20 := by
 intro x hx
 unfold lineP at hx
 rcases List.mem_append.1 hx with hx | hx
 ·simp only [List.mem_cons, List.not_mem_nil, or_false] at hx
  rcases hx with rfl | rfl | rfl | rfl
  ·decide
  ·exact wordS_len op
  ·exact numS_len ha
  ·exact numS_len hb
 ·split at hx
  ·rcases List.mem_cons.1 hx with rfl | hx
   ·decide
   ·obtain ⟨n, hn, rfl⟩ := List.mem_map.1 hx
    exact numS_len (hl n hn)
  ·cases hx
theorem mkfun (fn : Fn) (first cap : Array Value) (w : World) : (Instr.makeFunc fn first cap).run Tryz.prog w = .ok (.func fn first cap) w := rfl
set_option maxHeartbeats 8000000 in
set_option maxRecDepth 8000 in
theorem line_three (pw : Nat) (fa sa ra : Option Addr) (fn sn rn fc sc rc : Nat) (en : Int) (op xa xb xc : Int) (la va : Option Addr) (ll lc vc : Nat) (lv : List Int) (w : World) (hop : op = 1 ∨ op = 2 ∨ op = 13) (ha : I8b xa) (hb : I8b xb) (hlv : IntsAt .i64 w va lv) (hvI : ∀ n ∈ lv, I8b n) (hvl : lv.length ≤ 5000) (hV : PrVars w) (hW : WoAt w pw fa sa ra fn sn rn fc sc rc en) :
  Calls Tryz.prog 55 #[.pointer (some ⟨pw, 0, none⟩), .agg #[.int .i64 op, .int .i64 xa, .int .i64 xb, .int .i64 xc, .slice la ll lc, .slice va lv.length vc]] w fun e w' => e = .returned (.string ⟨(lineS op xa xb lv).toArray⟩) ∧ Below w.heap.size w w' := by
 have PV := hid hV
 have WO := hid hW
 have VL := hid hlv
 have VI := hid hvI
 have HA := hid ha
 have HB := hid hb
 have HLL := hid (lineP_len (op := op) ha hb hvI)
 obtain ⟨nv, hnv⟩ : ∃ n, lv.length = n := ⟨_, rfl⟩
 have HNV := hid hnv
 rw [hnv] at hvl ⊢
 clear hV hW hlv hvI ha hb hnv
 obtain ⟨X, hX⟩ : ∃ X, Obj.cells #[.int .i64 op, .int .i64 xa, .int .i64 xb, .int .i64 xc, .slice la ll lc, .slice va nv vc] 58 (0, 0) = X := ⟨_, rfl⟩
 obtain ⟨W0, hW0⟩ : ∃ W, w.alloc (.cells #[.int .i64 op, .int .i64 xa, .int .i64 xb, .int .i64 xc, .slice la ll lc, .slice va nv vc] 58) = W := ⟨_, rfl⟩
 have hz0 : W0.heap.size = w.heap.size + 1 := by rw [← hW0]; simp
 have KX := hid (show KAt W0 w.heap.size (.cells #[.int .i64 op, .int .i64 xa, .int .i64 xb, .int .i64 xc, .slice la ll lc, .slice va nv vc] 58 (0, 0)) by rw [← hW0]; exact KAt.new _ _)
 have B0 := hid (show Below w.heap.size w W0 by rw [← hW0]; exact (Below.refl _ _).alloc (Nat.le_refl _) _)
 have HZ0 := hid hz0
 have hop2 : 0 ≤ op ∧ op ≤ 13 := by omega
 have HOP := hid hop2
 obtain ⟨x0, x1, x2, x3, x4, x5⟩ := xbx6 KX.out
 have hH := hid hop
 obtain ⟨SS, hSS⟩ : ∃ SS : World → Prop, SS = fun V => Below W0.heap.size W0 V := ⟨_, rfl⟩
 have SB : Hid (∀ V, SS V → Below W0.heap.size W0 V) := hid (by rw [hSS]; exact fun V h => h)
 have SX : Hid (∀ V, SS V → V.cell? ⟨w.heap.size, 0, none⟩ = some (.int .i64 op) ∧ SS V) := hid (by rw [hSS]; exact fun V h => ⟨(xbx6 (KX.out.below h)).1, h⟩)
 have S0 : Hid (SS W0.drew) := hid (by rw [hSS]; exact (Below.refl _ _).drew)
 have SA : Hid (∀ V o, SS V → SS (V.alloc o)) := hid (by rw [hSS]; exact fun V o h => h.alloc h.size o)
 have SD : Hid (∀ (V : World) (o : Obj), SS V.drew → SS (V.alloc o).drew) := hid (fun V o h => SA.out V.drew o h)
 have ST : Hid (∀ V V', SS V → Below V.heap.size V V' → SS V') := hid (by rw [hSS]; exact fun V V' h hb => h.trans (hb.mono h.size))
 have hmf := mkfun
 clear hX hz0 hop2 hop hSS
 go_enter Tryz.func55, Tryz.ntmps55
 go_wp2_with fail
 try rw [hW0]
 go_cut [5] from 7 to 119 (fun v5 wx => ∃ q v, v5 = .pointer (some ⟨q, 0, none⟩) ∧ LnAt W0.heap.size wx q v [[], wordS op] ∧ Below W0.heap.size W0 wx)
 case first =>
  have x0d : ∀ o, (W0.alloc o).drew.cell? ⟨w.heap.size, 0, none⟩ = some (.int .i64 op) := fun o => cell_a1 x0 o
  go_region_law (go_simp; go_at_call 63; refine (words_ex _).mono ?_; rintro e w1 ⟨M, rfl, hb1, hm⟩; have lk := hm op HOP.out w1 (Below.refl _ _); have lk1 := fun o => hm op HOP.out (w1.alloc o) ((Below.refl _ _).alloc (Nat.le_refl _) o); have hs : Below W0.heap.size W0 w1 := (by first | exact ((Below.refl _ _).drew).trans hb1 | exact (((Below.refl _ _).drew).alloc (Nat.le_refl _) _).trans (hb1.mono (by simp))); have y0 := (xbx6 (KX.out.below hs)).1; have y0p := cell_a1 y0; have HB1 := hid hs; (first | (have kq : KAt w1 W0.heap.size (.cells #[.slice none 0 0] 23 (0, 0)) := (KAt.new W0.drew (.cells #[.slice none 0 0] 23 (0, 0))).below hb1; have q0 : w1.cell? ⟨W0.heap.size, 0, none⟩ = some (.slice none 0 0) := (by rw [cell_of_row _ _ _ _ _ _ kq.x]; rfl); have q0p := cell_a1 q0; have q1p := fun o => frozen_of_row _ W0.heap.size 0 _ _ (kq.alloc o).x) | skip); clear hm hb1 hs)
  all_goals go_wp2_with fail
  all_goals go_meet
  all_goals first
   | exact ⟨_, _, rfl, ln_A [] (wordS op) kq (Nat.le_refl _) HB1.out.size, ((HB1.out.alloc HB1.out.size _).setCell (p := ⟨W0.heap.size, 0, none⟩) (Nat.le_refl _) _)⟩
   | exact ⟨_, _, rfl, ln_B [] (wordS op) HB1.out.size, ((HB1.out.alloc HB1.out.size _).alloc (Nat.le_trans HB1.out.size (by simp)) _)⟩
   | exact ⟨_, _, rfl, ln_C [] (wordS op) HB1.out.size, ((HB1.out.alloc HB1.out.size _).alloc (Nat.le_trans HB1.out.size (by simp)) _)⟩
 case rest =>
  obtain ⟨q, v, rfl, hl, hbx⟩ := hcut
  have L := hid hl
  have BX := hid hbx
  have hq0 : wc.cell? ⟨q, 0, none⟩ = some v := by rw [cell_of_row _ _ _ _ _ _ hl.b.x]; rfl
  have KXc := hid (KX.out.below hbx)
  clear x0 x1 x2 x3 x4 x5 hl hbx S0 SA SD ST SX SB hW0
  obtain ⟨x0, x1, x2, x3, x4, x5⟩ := xbx6 KXc.out
  have BW := hid (B0.out.trans (BX.out.mono B0.out.size))
  have AD := hid (add_any W0.heap.size q v [[], wordS op] (some ⟨wc.heap.size, 0, none⟩) [xa, xb] 2 w (wc.alloc (.cells #[.int .i64 xa, .int .i64 xb] 3)) (L.out.below ((Below.refl _ _).alloc (Nat.le_refl _) _)) (ints2 wc xa xb) (by
   intro n hn
   simp only [List.mem_cons, List.not_mem_nil, or_false] at hn
   rcases hn with rfl | rfl
   ·exact HA.out
   ·exact HB.out) PV.out B0.out.size (BW.out.alloc BW.out.size _) (show 2 + 2 ≤ 100000 by decide))
  have CK := hid (fun W (h : Below w.heap.size w W) => keeps_any pw fa sa ra fn sn rn fc sc rc en op xa xb xc la va ll lc nv vc W (WO.out.below h))
  have CJ := hid join_n
  have hJl := join_len HLL.out (by unfold lineP; split <;> simp <;> rw [HNV.out] <;> omega)
  obtain ⟨J, hJ⟩ : ∃ J, Lib.join (lineP op xa xb lv) [32] = J := ⟨_, rfl⟩
  have HJ0 := hid hJ
  rw [hJ] at hJl
  have hJl2 : (J.length : Int) ≤ 8388608 := by omega
  clear hJ
  have hle := HZ0.out
  rcases hH.out with rfl | rfl | rfl
  ·have k1 : keepsI 1 xb = false := rfl
   rw [k1] at CK
   go_wp2_with (first
    | (go_at_call 113; refine AD.out.mono ?_; rintro e w4 ⟨⟨u, rfl⟩, ⟨v2, hl2⟩, hb4⟩; have L4 := hid hl2; have B4 := hid (BW.out.trans (((Below.refl wc.heap.size wc).alloc (Nat.le_refl _) _ |>.mono BX.out.size |>.trans hb4).mono B0.out.size)); have KX4 := hid (show KAt w4 w.heap.size _ from ⟨(hb4.block w.heap.size (by omega)).trans (KXc.out.alloc _).x⟩); clear hl2 hb4 x0 x1 x2 x3 x4 x5 hq0; obtain ⟨x0, x1, x2, x3, x4, x5⟩ := xbx6 KX4.out)
    | (go_at_call 77; refine (CK.out _ B4.out).mono ?_; rintro e w5 ⟨rfl, hb5⟩; have L5 := hid (L4.out.below hb5); have B5 := hid (B4.out.trans (hb5.mono B4.out.size)); clear x0 x1 x2 x3 x4 x5; obtain ⟨x0, x1, x2, x3, x4, x5⟩ := xbx6 (KX4.out.below hb5); clear hb5; obtain ⟨g5, c5, rfl, hc5, hg5, hce5⟩ := L5.out.cells (by simp); have q5 : w5.cell? ⟨q, 0, none⟩ = some _ := (by rw [cell_of_row _ _ _ _ _ _ L5.out.b.x]; rfl); have HJ := hid (HJ0.out ▸ (CJ.out g5 c5 4 (lineP 1 xa xb lv) w5 rfl (by simp [lineP]) (by decide) hc5 hg5 hce5 HLL.out)); clear hc5 hg5 hce5)
    | (go_at_call 115; refine HJ.out.mono ?_; rintro e w6 ⟨rfl, hb6⟩; have B6 := hid (B5.out.trans (hb6.mono B5.out.size)); clear hb6))
   go_ret
   exact ⟨by unfold lineS; rw [HJ0.out]; rfl, B6.out⟩
  ·have k1 : keepsI 2 xb = true := rfl
   rw [k1] at CK
   have CN := hid (fun W (h : Below w.heap.size w W) => numbers_any [108, 105, 118, 101] va lv vc W (VL.out.below h) VI.out (PV.out.below h) (by rw [HNV.out]; omega))
   rw [HNV.out] at CN
   go_wp2_with (first
    | (go_at_call 113; refine AD.out.mono ?_; rintro e w4 ⟨⟨u, rfl⟩, ⟨v2, hl2⟩, hb4⟩; have L4 := hid hl2; have B4 := hid (BW.out.trans (((Below.refl wc.heap.size wc).alloc (Nat.le_refl _) _ |>.mono BX.out.size |>.trans hb4).mono B0.out.size)); have KX4 := hid (show KAt w4 w.heap.size _ from ⟨(hb4.block w.heap.size (by omega)).trans (KXc.out.alloc _).x⟩); clear hl2 hb4 x0 x1 x2 x3 x4 x5 hq0; obtain ⟨x0, x1, x2, x3, x4, x5⟩ := xbx6 KX4.out)
    | (go_at_call 77; refine (CK.out _ B4.out).mono ?_; rintro e w5 ⟨rfl, hb5⟩; have L5 := hid (L4.out.below hb5); have B5 := hid (B4.out.trans (hb5.mono B4.out.size)); clear x0 x1 x2 x3 x4 x5; obtain ⟨x0, x1, x2, x3, x4, x5⟩ := xbx6 (KX4.out.below hb5); clear hb5; have q5 : w5.cell? ⟨q, 0, none⟩ = some v2 := (by rw [cell_of_row _ _ _ _ _ _ L5.out.b.x]; rfl)))
   go_region_law (first
    | (go_simp; go_at_call 114; refine (CN.out _ (by first | exact B5.out | exact B5.out.drew)).mono ?_; rintro e w6 ⟨g6, c6, rfl, h6a, h6b, h6c, hb6⟩; have hb7 : Below w5.heap.size w5 w6 := (by first | exact hb6 | exact ((Below.refl w5.heap.size w5).drew).trans hb6); have L6 := hid (L5.out.below hb7); have B6 := hid (B5.out.trans (hb7.mono B5.out.size)); have H6 := hid h6c; have q6 : w6.cell? ⟨q, 0, none⟩ = some v2 := (by rw [cell_of_row _ _ _ _ _ _ L6.out.b.x]; rfl); clear h6a h6b h6c hb6 hb7)
    | (refine step_many (W := w6) (n := 4) (xs := strC [[], wordS 2, numS xa, numS xb]) (news := strC ([108, 105, 118, 101] :: lv.map numS)) Tryz.underlying23 L6.out.o L6.out.hB rfl _ _ rfl rfl rfl (by simp [strC]; exact HNV.out) H6.out (one_str _) (Nat.succ_pos _) (nv + 5) (by omega) (by omega) ?_; intro g7 c7 V o7 hb7 kp7; have KQ : KAt V q (.cells #[v2] 23 (0, 0)) := ⟨kp7.k q _ _ (show 23 ≠ 9 by decide) L6.out.b.x⟩; have q7 : V.cell? ⟨q, 0, none⟩ = some v2 := (by rw [cell_of_row _ _ _ _ _ _ KQ.x]; rfl); have q8 := frozen_of_row _ q 0 _ _ KQ.x; have LE := hid (show (lineP 2 xa xb lv).length = nv + 5 by unfold lineP; rw [if_pos rfl]; simp; rw [HNV.out]); have L7 := hid (LnAt.put KQ (ys := lineP 2 xa xb lv) (by rw [LE.out]; exact (show strC (lineP 2 xa xb lv) = strC [[], wordS 2, numS xa, numS xb] ++ strC ([108, 105, 118, 101] :: lv.map numS) by unfold lineP strC; rw [if_pos rfl, List.map_append]) ▸ o7) L6.out.h (Nat.le_trans L6.out.hB (Nat.le_trans (Nat.le_refl _) hb7.size))); have B7 := hid ((B6.out.trans (hb7.mono B0.out.size)).setCell (p := ⟨q, 0, none⟩) (Nat.le_trans B0.out.size L6.out.h) (.slice (some ⟨g7, 0, none⟩) (nv + 5) c7)); clear o7 hb7 kp7 KQ))
   all_goals
    obtain ⟨g', c', he, hc7, hg7, hce7⟩ := L7.out.cells (by simp [lineP])
    simp only [Value.slice.injEq, Option.some.injEq, Addr.mk.injEq] at he
    obtain ⟨⟨rfl, -, -⟩, -, rfl⟩ := he
    have q9 := cell_of_row _ q 0 _ _ _ L7.out.b.x
    have HJ := hid (HJ0.out ▸ (CJ.out g7 c7 (nv + 5) (lineP 2 xa xb lv) _ LE.out (by simp [lineP]) (by omega) (by rw [← LE.out]; exact hc7) hg7 hce7 HLL.out))
    clear hc7 hg7 hce7
    go_wp2_with (go_at_call 115; refine HJ.out.mono ?_; rintro e w8 ⟨rfl, hb8⟩; have B8 := hid (B7.out.trans (hb8.mono B7.out.size)); clear hb8)
    go_ret
    exact ⟨by unfold lineS; rw [HJ0.out]; rfl, B8.out⟩
  ·have k1 : keepsI 13 xb = false := rfl
   rw [k1] at CK
   go_wp2_with (first
    | (go_at_call 113; refine AD.out.mono ?_; rintro e w4 ⟨⟨u, rfl⟩, ⟨v2, hl2⟩, hb4⟩; have L4 := hid hl2; have B4 := hid (BW.out.trans (((Below.refl wc.heap.size wc).alloc (Nat.le_refl _) _ |>.mono BX.out.size |>.trans hb4).mono B0.out.size)); have KX4 := hid (show KAt w4 w.heap.size _ from ⟨(hb4.block w.heap.size (by omega)).trans (KXc.out.alloc _).x⟩); clear hl2 hb4 x0 x1 x2 x3 x4 x5 hq0; obtain ⟨x0, x1, x2, x3, x4, x5⟩ := xbx6 KX4.out)
    | (go_at_call 77; refine (CK.out _ B4.out).mono ?_; rintro e w5 ⟨rfl, hb5⟩; have L5 := hid (L4.out.below hb5); have B5 := hid (B4.out.trans (hb5.mono B4.out.size)); clear x0 x1 x2 x3 x4 x5; obtain ⟨x0, x1, x2, x3, x4, x5⟩ := xbx6 (KX4.out.below hb5); clear hb5; obtain ⟨g5, c5, rfl, hc5, hg5, hce5⟩ := L5.out.cells (by simp); have q5 : w5.cell? ⟨q, 0, none⟩ = some _ := (by rw [cell_of_row _ _ _ _ _ _ L5.out.b.x]; rfl); have HJ := hid (HJ0.out ▸ (CJ.out g5 c5 4 (lineP 13 xa xb lv) w5 rfl (by simp [lineP]) (by decide) hc5 hg5 hce5 HLL.out)); clear hc5 hg5 hce5)
    | (go_at_call 115; refine HJ.out.mono ?_; rintro e w6 ⟨rfl, hb6⟩; have B6 := hid (B5.out.trans (hb6.mono B5.out.size)); clear hb6))
   go_ret
   exact ⟨by unfold lineS; rw [HJ0.out]; rfl, B6.out⟩
end Go.Proofs.YtokjkligechcoaaGreatDoor
