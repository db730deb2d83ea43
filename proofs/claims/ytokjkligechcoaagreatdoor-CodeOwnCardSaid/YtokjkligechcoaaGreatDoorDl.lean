/- Walks of layer 16's reference: the lowest instruction that reads a register that may not be set. -/
import Derived.Test.YtokjkligechcoaaGreatDoorDa
set_option linter.unusedVariables false
namespace Go.Proofs.YtokjkligechcoaaGreatDoor
open _root_.Go.Lib (hid)
open Go.RowKit
attribute [local go_sem] ext_mk size_mk toList_mk get_mk take_drop_len take_tail_len ByteArray.mk_append_mk List.append_toArray
theorem infoBools : (Tryz.prog.info? 133).map (fun i => (i.zero, i.size, i.bytes)) = some (some (.slice none 0 0), 1, 24) := by kernel_rfl
def RRel (w : World) (A rs : Nat) (fo : Obj) (code : List In) (ps m : Nat) (v6 : Value) (wr : World) : Prop := ∃ j st t tc slots, st = iterS code j (startS code.length ps) ∧ OkS code.length rs st ∧ meaS rs st = m ∧ m ≤ 600000000 ∧ v6 = .slice (some ⟨t, 0, none⟩) st.2.length tc ∧ RUn w wr A t tc rs fo slots st
theorem code_cells {w : World} {ca : Option Addr} {code : List In} (h : CodeAt w ca code) {k : Nat} {x : In} (hx : code[k]? = some x) : ∃ b o, ca = some ⟨b, o, none⟩ ∧ XAt w b (o + k * 6) x := by
 obtain ⟨_, h | ⟨b, o, ha, hc⟩⟩ := h
 ·rw [h] at hx; cases hx
 ·exact ⟨b, o, ha, hc k x hx⟩
theorem neqn_some (T : TypeId) (e : TypeId) (hu : Tryz.prog.underlying T = some (.slice e)) (x : Addr) (n c : Nat) (W : World) : (binOp .neq T (.slice (some x) n c) (.slice none 0 0)).run Tryz.prog W = .ok (.bool true) W := by
 have h : (Op.equal T (.slice (some x) n c) (.slice none 0 0)).run Tryz.prog W = .ok false W := by
  unfold Op.equal
  rw [show Op.maxDepth = (Op.maxDepth - 1) + 1 from rfl]
  simp only [Op.equalIn, Sem.run_bind, run_underlying hu, Result.andThen_ok]
  first | rfl | simp
 simp [binOp, h]
theorem neqn_none (T : TypeId) (e : TypeId) (hu : Tryz.prog.underlying T = some (.slice e)) (W : World) : (binOp .neq T (.slice none 0 0) (.slice none 0 0)).run Tryz.prog W = .ok (.bool false) W := by
 have h : (Op.equal T (.slice none 0 0) (.slice none 0 0)).run Tryz.prog W = .ok true W := by
  unfold Op.equal
  rw [show Op.maxDepth = (Op.maxDepth - 1) + 1 from rfl]
  simp only [Op.equalIn, Sem.run_bind, run_underlying hu, Result.andThen_ok]
  first | rfl | simp
 simp [binOp, h]
theorem rboth_eq (g1 g2 c1 c2 rs S T : Nat) (v : Bool) (hv : decide (S &&& T ≠ S) = v) (w : World) (h1 : OwnAt w g1 c1 4 (setB rs S)) (h2 : OwnAt w g2 c2 4 (setB rs T)) (hS : S < 2 ^ rs) (hrs : rs ≤ 1000000000) :
  Calls Tryz.prog 88 #[.slice (some ⟨g1, 0, none⟩) rs c1, .slice (some ⟨g2, 0, none⟩) rs c2] w fun e w' => ∃ k c, e = .returned (.tuple #[.slice (some ⟨k, 0, none⟩) rs c, .bool v]) ∧ w.heap.size ≤ k ∧ OwnAt w' k c 4 (setB rs (S &&& T)) ∧ Below w.heap.size w w' := by
 have := rboth_any g1 g2 c1 c2 rs S T w h1 h2 hS hrs
 rwa [hv] at this
/-- in the midst of an instruction's targets -/
structure RMid (w wr : World) (A t tc rs : Nat) (fo : Obj) (slots : List Value) (cur : StS) (out gs cs : Nat) (r : Option Addr) (L : List Int) : Prop where
 run : RUn w wr A t tc rs fo slots cur
 out : OwnAt wr gs cs 4 (setB rs out)
 ga : A < gs
 gt : gs ≠ t
 li : IntsAt .i64 wr r L
 lo : ∀ b o, r = some ⟨b, o, none⟩ → A < b ∧ b ≠ t
section
variable {w V V' : World} {A t tc rs : Nat} {fo : Obj} {slots : List Value} {cur : StS} {out gs cs : Nat} {r : Option Addr} {L : List Int}
theorem RMid.same (h : RMid w V A t tc rs fo slots cur out gs cs r L) (hb : Below V.heap.size V V') : RMid w V' A t tc rs fo slots cur out gs cs r L :=
 ⟨h.run.same hb, h.out.below hb h.out.lt, h.ga, h.gt, h.li.below hb, h.lo⟩
theorem ints_other {W W' : World} {p : Nat} {a : Option Addr} {l : List Int} {k : IntKind} (h : IntsAt k W a l) (hg : W.grownBy W' (some p)) (ho : ∀ b o, a = some ⟨b, o, none⟩ → b ≠ p) : IntsAt k W' a l := by
 obtain ⟨hm, hI | ⟨b, o, ha, hc⟩⟩ := h
 ·exact ⟨hm, .inl hI⟩
 ·refine ⟨hm, .inr ⟨b, o, ha, fun i hi => ?_⟩⟩
  have h1 := hc i hi
  exact (World.cell?_of_block (a := ⟨b, o + i, none⟩) (hg.block b (World.block_lt_of_cell? _ _ h1) (by intro q; injection q with q; exact ho b o ha q))).trans h1
theorem RMid.put (h : RMid w V A t tc rs fo slots cur out gs cs r L) {k g c S : Nat} (hk : k < cur.1.length) (hg : A < g) (ht : g ≠ t) (hs : OwnAt V g c 4 (setB rs S)) : RMid w (V.setCell ⟨A, k, none⟩ (.slice (some ⟨g, 0, none⟩) rs c)) A t tc rs fo (slots.set k (.slice (some ⟨g, 0, none⟩) rs c)) (cur.1.set k (some S), cur.2) out gs cs r L :=
 ⟨h.run.put hk hg ht hs, h.out.other _ (by have := h.ga; show gs ≠ A; omega) _, h.ga, h.gt, ints_other h.li (grown_set _ _ _ _) (fun b o q => by have := (h.lo b o q).1; omega), h.lo⟩
theorem RMid.push (h : RMid w V A t tc rs fo slots cur out gs cs r L) (hg : V.grownBy V' (some t)) {t' tc' : Nat} {L' : List Nat} (ht : t' = t ∨ V.heap.size ≤ t') (hd : OwnAt V' t' tc' 3 (nats L')) (hr : ∀ b o, r = some ⟨b, o, none⟩ → b < V.heap.size) : RMid w V' A t' tc' rs fo slots (cur.1, L') out gs cs r L :=
 ⟨h.run.push hg ht hd, h.out.grown hg h.gt, h.ga, by have := h.gt; have := h.out.lt; rcases ht with rfl | ht <;> omega, ints_other h.li hg (fun b o q => (h.lo b o q).2), fun b o q => ⟨(h.lo b o q).1, by have := (h.lo b o q).2; have := hr b o q; rcases ht with rfl | ht <;> omega⟩⟩
end
def curS (out : Nat) (T : List Nat) (st : StS) (i : Nat) : StS := (T.take i).foldl (metS out) st
theorem curS_next {out : Nat} {T : List Nat} {st : StS} {i : Nat} (h : i < T.length) : curS out T st (i + 1) = metS out (curS out T st i) T[i] := by
 unfold curS
 rw [List.take_succ_eq_append_getElem h, List.foldl_append]
 rfl
theorem curS_ok {n rs out : Nat} {T : List Nat} {st : StS} (ho : out < 2 ^ rs) (hO : OkS n rs st) (hT : ∀ t ∈ T, t < n) (i : Nat) : OkS n rs (curS out T st i) ∧ meaS rs (curS out T st i) ≤ meaS rs st :=
 mets_ok ho _ _ hO (fun t ht => hT t (List.mem_of_mem_take ht))
theorem metS_none {out t : Nat} {st : StS} (h : setOf st.1 t = none) : metS out st t = (st.1.set t (some out), st.2 ++ [t]) := by unfold metS; rw [h]
theorem metS_some {out t S : Nat} {st : StS} (h : setOf st.1 t = some S) : metS out st t = (st.1.set t (some (S &&& out)), if S &&& out = S then st.2 else st.2 ++ [t]) := by unfold metS; rw [h]
set_option maxHeartbeats 4000000 in
set_option maxRecDepth 8000 in
theorem runset_any (ps rs : Nat) (ca : Option Addr) (cc : Nat) (code : List In) (w : World) (hC : CodeAt w ca code) (hok : OkC rs code) (hne : code ≠ []) (hps : ps ≤ rs) (hrs : rs ≤ 4096) (hcn : code.length ≤ 65536) :
  Calls Tryz.prog 33 #[.agg #[.int .i64 (ps : Int), .int .i64 (rs : Int), .slice ca code.length cc]] w fun e w' => e = .returned (.int .i64 (unsetS code ps)) ∧ Below w.heap.size w w' := by
 have hn : 0 < code.length := List.length_pos_iff.2 hne
 obtain ⟨n, hnn⟩ : ∃ n, code.length = n := ⟨_, rfl⟩
 have hmA : ∀ W, (Instr.makeSlice 148 (.int .i64 (n : Int)) (.int .i64 (n : Int))).run Tryz.prog W = .ok (.slice (some ⟨W.heap.size, 0, none⟩) n n) (W.alloc (.cells (madeCells #[.slice none 0 0] n) 133)) := fun W => run_make_row' (P := Tryz.prog) 148 133 (.slice none 0 0) 24 Tryz.underlying148 infoBools rfl .i64 .i64 n (by omega) (by omega) W
 have hmB : ∀ W, (Instr.makeSlice 133 (.int .i64 (rs : Int)) (.int .i64 (rs : Int))).run Tryz.prog W = .ok (.slice (some ⟨W.heap.size, 0, none⟩) rs rs) (W.alloc (.cells (madeCells #[.bool false] rs) 4)) := fun W => run_make_row' (P := Tryz.prog) 133 4 (.bool false) 1 Tryz.underlying133 infoBool rfl .i64 .i64 rs (by omega) (by omega) W
 obtain ⟨fo, hfo⟩ : ∃ fo, Obj.cells #[.int .i64 (ps : Int), .int .i64 (rs : Int), .slice ca n cc] 48 (0, 0) = fo := ⟨_, rfl⟩
 have HC := hid hC
 have HK := hid hok
 have HN := hid hnn
 have HFC : Hid (∀ V, KAt V w.heap.size fo → V.cell? ⟨w.heap.size, 0, none⟩ = some (.int .i64 (ps : Int)) ∧ V.cell? ⟨w.heap.size, 1, none⟩ = some (.int .i64 (rs : Int)) ∧ V.cell? ⟨w.heap.size, 2, none⟩ = some (.slice ca n cc)) := hid (by
  rw [← hfo]
  intro V h
  refine ⟨?_, ?_, ?_⟩ <;> (rw [cell_of_row _ _ _ _ _ _ h.x]; rfl))
 obtain ⟨W1, hW1⟩ : ∃ W1, ((w.alloc (.cells #[.int .i64 (ps : Int), .int .i64 (rs : Int), .slice ca n cc] 48)).alloc (.cells (madeCells #[.slice none 0 0] n) 133)).alloc (.cells (madeCells #[.bool false] rs) 4) = W1 := ⟨_, rfl⟩
 have F1 : Hid (KAt W1 w.heap.size fo ∧ Below w.heap.size w W1 ∧ OwnAt W1 (w.heap.size + 1) n 133 (List.replicate n (.slice none 0 0)) ∧ OwnAt W1 (w.heap.size + 1 + 1) rs 4 (setB rs 0)) := hid (by
  rw [← hW1]
  obtain ⟨X, hX⟩ : ∃ X, w.alloc (.cells #[.int .i64 (ps : Int), .int .i64 (rs : Int), .slice ca n cc] 48) = X := ⟨_, rfl⟩
  have kX : KAt X w.heap.size fo := by rw [← hX, ← hfo]; exact KAt.new _ _
  have zX : X.heap.size = w.heap.size + 1 := by rw [← hX]; simp
  have bX : Below w.heap.size w X := by rw [← hX]; exact (Below.refl _ _).alloc (Nat.le_refl _) _
  rw [hX]
  have o1 := OwnAt.new X (madeCells #[.slice none 0 0] n) 133 (by rw [size_madeCells]; unfold maxLen; omega)
  rw [size_madeCells, made_toList, zX] at o1
  obtain ⟨Y, hY⟩ : ∃ Y, X.alloc (.cells (madeCells #[.slice none 0 0] n) 133) = Y := ⟨_, rfl⟩
  rw [hY] at o1
  have zY : Y.heap.size = w.heap.size + 1 + 1 := by rw [← hY]; simp [zX]
  have bY : Below X.heap.size X Y := by rw [← hY]; exact (Below.refl _ _).alloc (Nat.le_refl _) _
  rw [hY]
  have o2 := OwnAt.new Y (madeCells #[.bool false] rs) 4 (by rw [size_madeCells]; unfold maxLen; omega)
  rw [size_madeCells, made_toList, ← setB_zero, zY] at o2
  have kY := kX.below bY
  have bZ : ∀ o, Below Y.heap.size Y (Y.alloc o) := fun o => (Below.refl _ _).alloc (Nat.le_refl _) _
  exact ⟨kY.below (bZ _), (bX.trans (bY.mono bX.size)).trans ((bZ _).mono (by omega)), o1.alloc _, o2⟩)
 clear hC hok hfo
 rw [hnn] at hn hcn ⊢
 go_enter Tryz.func33, Tryz.ntmps33
 go_wp2_with fail
 (try rw [hW1])
 clear hmA hmB hW1
 go_loopw [5] (fun v5 wr => ∃ i : Nat, v5 = .int .i64 i ∧ i ≤ ps ∧ KAt wr w.heap.size fo ∧ Below w.heap.size w wr ∧ OwnAt wr (w.heap.size + 1) n 133 (List.replicate n (.slice none 0 0)) ∧ OwnAt wr (w.heap.size + 1 + 1) rs 4 (setB rs (2 ^ i - 1))) (fun v5 _ => ps - (intOf v5).toNat)
 case atStart => exact ⟨0, rfl, Nat.zero_le _, F1.out.1, F1.out.2.1, F1.out.2.2.1, F1.out.2.2.2⟩
 case round =>
  obtain ⟨i, rfl, hi, r1, r2, r3, r4⟩ := hrel
  obtain ⟨c0, c1, c2⟩ := HFC.out _ r1
  by_cases hlt : i < ps
  ·have x0 := r4.cell (setB_get (show i < rs by omega))
   have f0 := r4.frozen i
   have R1 := hid r1
   have R2 := hid r2
   have R3 := hid r3
   have R4 := hid r4
   clear r1 r2 r3 r4
   go_wp2_with fail
   go_roundw
   case rel => exact ⟨i + 1, by go_num, hlt, R1.out.put _ (by show w.heap.size ≠ w.heap.size + 1 + 1; omega) _, R2.out.setCell (p := ⟨w.heap.size + 1 + 1, i, none⟩) (by show w.heap.size ≤ w.heap.size + 1 + 1; omega) _, R3.out.other _ (by show w.heap.size + 1 ≠ w.heap.size + 1 + 1; omega) _, by have := R4.out.set i (.bool true); rw [setB_put (show i < rs by omega), pow_fill] at this; exact this⟩
   case measure => simp [intOf]; omega
  ·obtain rfl : i = ps := by omega
   have R := hid (run_start r1 r2 r3 (Nat.lt_succ_self _) (Nat.lt_succ_self _) r4 hn)
   have x0 := r3.cell (j := 0) (v := .slice none 0 0) (by simp [hn])
   have f0 := r3.frozen 0
   have hn0 : ((n : Int) == 0) = false := by simp; omega
   have hn1 : (0 : Int) < (n : Int) := by omega
   have HS := hid (start_ok (rs := rs) hn hps)
   have HM := hid (start_mea (ps := i) hcn hrs)
   clear r1 r2 r3 r4 F1
   go_wp2_with fail
   clear x0 f0 c0 c1 c2
   go_loopw [6] (fun v6 wr => ∃ m, RRel w (w.heap.size + 1) rs fo code i m v6 wr) (fun v6 wr => leastOf fun m => RRel w (w.heap.size + 1) rs fo code i m v6 wr)
   case atStart => exact ⟨_, 0, startS code.length i, wr.heap.size, 1, _, rfl, by rw [HN.out]; exact HS.out, rfl, by rw [HN.out]; exact HM.out, rfl, by rw [HN.out]; exact R.out⟩
   case round =>
    clear R HS HM
    obtain ⟨j, st, t, tc, slots, hst, hO, hm, hmb, rfl, hR⟩ := leastOf_spec hrel
    obtain ⟨al, td⟩ := st
    by_cases hemp : td = []
    ·subst hemp
     rw [List.length_nil]
     have hfin : (al, []) = finS code i := by rw [hst]; exact finS_eq (by rw [← hst])
     have HF := hid (show (finS code i).1 = al by rw [← hfin])
     have R := hid hR
     have HO := hid hO
     clear hfin hR hst hO hm hmb hrel
     go_wp2_with fail
     go_loopw [12] (fun v12 wq => ∃ q : Nat, v12 = .int .i64 q ∧ q ≤ n ∧ (∀ j, j < q → badK code al j = false) ∧ RUn w wq (w.heap.size + 1) t tc rs fo slots (al, [])) (fun v12 _ => n - (intOf v12).toNat)
     case atStart => exact ⟨0, rfl, Nat.zero_le _, (fun _ h => absurd h (Nat.not_lt_zero _)), R.out⟩
     case round =>
      clear R
      obtain ⟨q, rfl, hq, hall, hR⟩ := hrel
      obtain ⟨-, -, c2⟩ := HFC.out _ hR.f
      by_cases hlt : q < n
      ·have hx : code[q]? = some code[q] := List.getElem?_eq_getElem (by rw [HN.out]; exact hlt)
       obtain ⟨x, hxe⟩ : ∃ x, code[q]'(by rw [HN.out]; exact hlt) = x := ⟨_, rfl⟩
       rw [hxe] at hx
       have HX := hid (HK.out q x hx)
       have HBK := hid (badK_at (al := al) hx)
       obtain ⟨cb, co, rfl, hXA⟩ := code_cells (HC.out.below hR.b) hx
       obtain ⟨op, xa, xb, xc, l, lv⟩ := x
       obtain ⟨la, lc, va, vc, h0, h1, h2, h3, h4, h5, h6, h7⟩ := hXA
       dsimp only at h0 h1 h2 h3 h4 h5 h6 h7
       obtain ⟨L, hL⟩ : ∃ L, readsI ⟨op, xa, xb, xc, l, lv⟩ ++ lv = L := ⟨_, rfl⟩
       have CR : Hid (∀ W, IntsAt .i64 W la l → IntsAt .i64 W va lv → Calls Tryz.prog 89 #[.agg #[.int .i64 op, .int .i64 xa, .int .i64 xb, .int .i64 xc, .slice la l.length lc, .slice va lv.length vc], .bool false] W fun e w' => RdR W L e w') := hid (fun W h1 h2 => by rw [← hL]; exact rreads_any false op xa xb xc l lv la va lc vc W h1 h2 HX.out.ll HX.out.vl)
       have HRD := hid (show ∀ z ∈ L, 0 ≤ z ∧ z < (rs : Int) by rw [← hL]; exact HX.out.rd)
       have HBD := hid (show ∀ s, badS ⟨op, xa, xb, xc, l, lv⟩ s = (match s with | none => false | some S => L.any fun r => !S.testBit r.toNat) by intro s; cases s <;> (rw [← hL]; rfl))
       have R := hid hR
       have LI := hid (And.intro h6 h7)
       have HAll := hid hall
       have hql : q < al.length := by have := HO.out.len; dsimp only at this; rw [this, HN.out]; exact hlt
       have hrow := hR.rows q hql
       dsimp only at hrow
       clear hR h6 h7 hx hxe hall hL
       go_wp2_with (go_at_call 89; refine (CR.out _ LI.out.1 LI.out.2).mono ?_; rintro e w2 ⟨r, rcap, rfl, q1, q2⟩; have N1 := hid q1; have R2 := hid (R.out.same q2); have B2 := hid q2; clear q1 q2 h0 h1 h2 h3 h4 h5 c2)
       have hLM := N1.out.1
       have hLm : (L.length : Int) ≤ 9223372036854775807 := by unfold maxLen at hLM; omega
       cases hs : setOf al q with
       | none =>
        rw [hs] at hrow
        have hrow : slots.getD q undef = .slice none 0 0 := hrow
        have HBF := hid (show badK code al q = false by rw [HBK.out, hs, HBD.out])
        have hqn := fun W => neqn_none 133 _ Tryz.underlying133 W
        clear hs hLM
        go_loopw [14] (fun v14 wy => ∃ y : Nat, v14 = .int .i64 y ∧ y ≤ L.length ∧ RUn w wy (w.heap.size + 1) t tc rs fo slots (al, [])) (fun v14 _ => L.length - (intOf v14).toNat)
        case atStart => exact ⟨0, rfl, Nat.zero_le _, R2.out⟩
        case round =>
         obtain ⟨y, rfl, hy, hR⟩ := hrel
         have s0 := (hR.slot hql).1
         rw [hrow] at s0
         have R3 := hid hR
         clear hR
         by_cases hly : y < L.length
         ·clear hrow
          go_wp2_with fail
          go_quiet (fail)
          go_wp2_with fail
          go_roundw
          case rel => exact ⟨y + 1, by go_num, hly, R3.out.same (below_drewN (Below.refl _ _) _)⟩
          case measure => simp [intOf]; omega
         ·clear hrow s0
          go_wp2_with fail
          go_roundw
          case rel => exact ⟨q + 1, by go_num, hlt, fun j hj => by
           by_cases e : j = q
           ·rw [e]; exact HBF.out
           ·exact HAll.out j (by omega), R3.out⟩
          case measure => simp [intOf]; omega
       | some R0 =>
        rw [hs] at hrow
        obtain ⟨g, c, hsl, r1, r2, r3⟩ := hrow
        have HS := hid (show badK code al q = L.any (fun r => !R0.testBit r.toNat) by rw [HBK.out, hs, HBD.out])
        have HG := hid (r3.below B2.out r3.lt)
        have hqs := fun W => neqn_some 133 _ Tryz.underlying133 ⟨g, 0, none⟩ rs c W
        clear hs hLM r1 r2 r3
        go_loopw [14] (fun v14 wy => ∃ y : Nat, v14 = .int .i64 y ∧ y ≤ L.length ∧ (∀ z, z < y → R0.testBit (L.getD z 0).toNat = true) ∧ Below w2.heap.size w2 wy) (fun v14 _ => L.length - (intOf v14).toNat)
        case atStart => exact ⟨0, rfl, Nat.zero_le _, (fun _ h => absurd h (Nat.not_lt_zero _)), Below.refl _ _⟩
        case round =>
         obtain ⟨y, rfl, hy, hgood, hB⟩ := hrel
         have s0 := ((R2.out.same hB).slot hql).1
         rw [hsl] at s0
         have HB := hid hB
         have HGD := hid hgood
         by_cases hly : y < L.length
         ·obtain ⟨rb, ro, rfl, rc0⟩ := ints_cell (N1.out.below hB) hly
          obtain ⟨z0, z1⟩ := HRD.out (L.getD y 0) (by simp [List.getD, hly])
          obtain ⟨rr, hrr⟩ := Int.eq_ofNat_of_zero_le z0
          rw [hrr] at rc0 z1
          have hrr2 : rr < rs := by omega
          have y0 := (HG.out.below hB HG.out.lt).cell (setB_get hrr2)
          have HRR := hid hrr
          clear hrr hgood hB z0
          cases ht : R0.testBit rr
          ·rw [ht] at y0
           have HT := hid ht
           clear ht hsl
           go_wp2_with fail
           go_quiet (fail)
           go_wp2_with fail
           go_ret
           exact ⟨ret_int (by rw [unset_found (q := q) (by rw [HN.out]; exact hlt) (by rw [HF.out, HS.out, List.any_eq_true]; exact ⟨L[y], List.getElem_mem hly, by have := HRR.out; simp [List.getD, hly] at this; simp [this, HT.out]⟩) (by rw [HF.out]; exact HAll.out)]), below_drewN (R2.out.same HB.out).b _⟩
          ·rw [ht] at y0
           have HT := hid ht
           clear ht hsl
           go_wp2_with fail
           go_quiet (fail)
           go_wp2_with fail
           go_roundw
           case rel => exact ⟨y + 1, by go_num, hly, fun z hz => by
            by_cases e : z = y
            ·rw [e, HRR.out, Int.toNat_natCast]; exact HT.out
            ·exact HGD.out z (by omega), below_drewN HB.out _⟩
           case measure => simp [intOf]; omega
         ·have HBF := hid (show badK code al q = false by
           rw [HS.out, List.any_eq_false]
           intro z hz
           obtain ⟨iz, hiz, rfl⟩ := List.getElem_of_mem hz
           have := hgood iz (by omega)
           simp [List.getD, hiz] at this
           simp [this])
          clear hsl s0 hgood hB
          go_wp2_with fail
          go_roundw
          case rel => exact ⟨q + 1, by go_num, hlt, fun j hj => by
           by_cases e : j = q
           ·rw [e]; exact HBF.out
           ·exact HAll.out j (by omega), R2.out.same HB.out⟩
          case measure => simp [intOf]; omega
      ·obtain rfl : q = n := by omega
       have HE := hid (unset_none (code := code) (ps := i) (by rw [HF.out, HN.out]; exact hall))
       have R := hid hR
       clear hR hall
       go_wp2_with fail
       go_ret
       exact ⟨ret_int HE.out.symm, R.out.b⟩
    ·obtain ⟨k, x, S, hk, hx, hS, hSl, hX, hstep, hO2, hm2⟩ := step_ok HK.out hO hemp
     obtain ⟨d1, d2⟩ := drop_ok hO hemp
     obtain ⟨pre, rfl⟩ := List.getLast?_eq_some_iff.1 hk
     dsimp only at hS hstep hR hk ⊢
     rw [List.dropLast_concat] at hstep d1 d2
     rw [HN.out] at d1
     have hkl : k < al.length := by have := hO.len; dsimp only at this; rw [this]; exact (hO.todo k (by simp)).1
     have hkn : k < n := by have := (hO.todo k (by simp)).1; rw [HN.out] at this; exact this
     obtain ⟨cb, co, rfl, hXA⟩ := code_cells HC.out hx
     have hrow := hR.rows k hkl
     dsimp only at hrow
     rw [hS] at hrow
     obtain ⟨g, c, hsl, hg1, hg2, hg3⟩ := hrow
     obtain ⟨op, xa, xb, xc, l, lv⟩ := x
     have hp : pre.length ≤ 600000000 := by
      have : meaS rs (al, pre ++ [k]) ≤ 600000000 := by rw [hm]; exact hmb
      unfold meaS at this
      dsimp only at this
      simp at this
      omega
     have htc := hR.td.le
     simp only [nats, List.length_map] at htc
     have t0 := hR.td.cell (j := pre.length) (v := .int .i64 (k : Int)) (by simp [nats])
     have HO0 := hid (show OkS n rs (al, pre) ∧ meaS rs (al, pre) ≤ 600000000 from ⟨d1, Nat.le_of_lt (Nat.lt_of_lt_of_le d2 (by rw [hm]; exact hmb))⟩)
     clear d1 d2
     have R := hid hR
     have HX := hid hX
     have HXA := hid hXA
     have HST := hid hstep
     have HG := hid (And.intro hg1 (And.intro hg2 hg3))
     have HSL := hid hsl
     have HSS := hid hSl
     have HO := hid hO2
     have HMM := hid hm2
     have HM := hid hm
     have HMB := hid hmb
     have HT := hid hst
     have HAL := hid hkl
     have hlen : (pre ++ [k]).length = pre.length + 1 := by simp
     obtain ⟨p, hpe⟩ : ∃ p, pre.length = p := ⟨_, rfl⟩
     have HP := hid hpe
     rw [hpe] at t0 hp hlen
     rw [hlen] at htc
     rw [hlen]
     have m1 : IntKind.i64.wrap (((p + 1 : Nat) : Int) - 1) = (p : Int) := by rw [IntWalk.i64_in _ (by omega)]; omega
     have m2 : (0 : Int) < ((p + 1 : Nat) : Int) := by omega
     have m3 : (k : Int) < (n : Int) := by omega
     have m4 : (p : Int) ≤ (tc : Int) := by omega
     clear hR hX hXA hstep hg1 hg2 hg3 hsl hSl hO hO2 hm hm2 hmb hst hrel hk hx hS hkl hemp hpe
     go_wp2_with (at_builtin; refine app_copyn rfl _ _ rfl _ rfl rfl rfl R.out.td (by simp; have := HP.out; omega) (by omega) ?_; intro t2 tc2 V k1 k2 k3; rw [← HP.out, List.take_left] at k2; have R2 := hid (R.out.todo k3 k1 k2); have HG2 := hid (HG.out.2.2.below k3 HG.out.2.2.lt); obtain ⟨c0, c1, c2⟩ := HFC.out _ R2.out.f; obtain ⟨la, lc, va, vc, h0, h1, h2, h3, h4, h5, h6, h7⟩ := HXA.out.below R2.out.b; dsimp only at h0 h1 h2 h3 h4 h5 h6 h7; have s0 := (R2.out.slot HAL.out).1; rw [HSL.out] at s0; clear k1 k2 k3 t0 c0 c1)
     have CB := hid (fun W h1 h2 h3 => rbehind_any op xa xb xc l lv la va lc vc g c rs S W h1 h2 (by omega) h3 (fun _ r hr => HX.out.rd r (by simp [hr])) HX.out.sa)
     have CN := hid (fun W h1 => rnext_any (k : Int) op xa xb xc l la va lc lv.length vc W h1 (by omega) (by omega) HX.out.ll)
     obtain ⟨SS, hSS⟩ : ∃ SS : World → Prop, SS = fun X => RUn w X (w.heap.size + 1) t2 tc2 rs fo slots (al, pre) ∧ OwnAt X g c 4 (setB rs S) ∧ IntsAt .i64 X la l ∧ IntsAt .i64 X va lv ∧ (X.cell? ⟨w.heap.size, 2, none⟩ = some (.slice (some ⟨cb, co, none⟩) n cc) ∧ X.cell? ⟨cb, co + k * 6, none⟩ = some (.int .i64 op) ∧ X.cell? ⟨cb, co + k * 6 + 1, none⟩ = some (.int .i64 xa) ∧ X.cell? ⟨cb, co + k * 6 + 2, none⟩ = some (.int .i64 xb) ∧ X.cell? ⟨cb, co + k * 6 + 3, none⟩ = some (.int .i64 xc) ∧ X.cell? ⟨cb, co + k * 6 + 4, none⟩ = some (.slice la l.length lc) ∧ X.cell? ⟨cb, co + k * 6 + 5, none⟩ = some (.slice va lv.length vc) ∧ X.cell? ⟨w.heap.size + 1, k, none⟩ = some (.slice (some ⟨g, 0, none⟩) rs c)) := ⟨_, rfl⟩
     have SK : Hid (∀ A B, SS A → Below A.heap.size A B → (B.cell? ⟨w.heap.size, 2, none⟩ = some (.slice (some ⟨cb, co, none⟩) n cc) ∧ B.cell? ⟨cb, co + k * 6, none⟩ = some (.int .i64 op) ∧ B.cell? ⟨cb, co + k * 6 + 1, none⟩ = some (.int .i64 xa) ∧ B.cell? ⟨cb, co + k * 6 + 2, none⟩ = some (.int .i64 xb) ∧ B.cell? ⟨cb, co + k * 6 + 3, none⟩ = some (.int .i64 xc) ∧ B.cell? ⟨cb, co + k * 6 + 4, none⟩ = some (.slice la l.length lc) ∧ B.cell? ⟨cb, co + k * 6 + 5, none⟩ = some (.slice va lv.length vc) ∧ B.cell? ⟨w.heap.size + 1, k, none⟩ = some (.slice (some ⟨g, 0, none⟩) rs c)) ∧ SS B) := hid (by
      rw [hSS]
      rintro A B ⟨q1, q2, q3, q4, z0, z1, z2, z3, z4, z5, z6, z7⟩ hb
      have e : ∀ (p : Addr) v, A.cell? p = some v → B.cell? p = some v := fun p v h => (hb.cell (p := p) (World.block_lt_of_cell? _ _ h)).trans h
      have z : B.cell? ⟨w.heap.size, 2, none⟩ = some (.slice (some ⟨cb, co, none⟩) n cc) ∧ B.cell? ⟨cb, co + k * 6, none⟩ = some (.int .i64 op) ∧ B.cell? ⟨cb, co + k * 6 + 1, none⟩ = some (.int .i64 xa) ∧ B.cell? ⟨cb, co + k * 6 + 2, none⟩ = some (.int .i64 xb) ∧ B.cell? ⟨cb, co + k * 6 + 3, none⟩ = some (.int .i64 xc) ∧ B.cell? ⟨cb, co + k * 6 + 4, none⟩ = some (.slice la l.length lc) ∧ B.cell? ⟨cb, co + k * 6 + 5, none⟩ = some (.slice va lv.length vc) ∧ B.cell? ⟨w.heap.size + 1, k, none⟩ = some (.slice (some ⟨g, 0, none⟩) rs c) := ⟨e _ _ z0, e _ _ z1, e _ _ z2, e _ _ z3, e _ _ z4, e _ _ z5, e _ _ z6, e _ _ z7⟩
      exact ⟨z, q1.same hb, q2.below hb q2.lt, q3.below hb, q4.below hb, z⟩)
     have hS0 : SS V.drew := by rw [hSS]; exact ⟨R2.out.drew, HG2.out.drew, h6.below (Below.refl _ _).drew, h7.below (Below.refl _ _).drew, by simpa using c2, by simpa using h0, by simpa using h1, by simpa using h2, by simpa using h3, by simpa using h4, by simpa using h5, by simpa using s0⟩
     have CB2 : Hid (∀ X, SS X → Calls Tryz.prog 87 #[.agg #[.int .i64 op, .int .i64 xa, .int .i64 xb, .int .i64 xc, .slice la l.length lc, .slice va lv.length vc], .slice (some ⟨g, 0, none⟩) rs c] X fun e w' => ∃ k cap, e = .returned (.slice (some ⟨k, 0, none⟩) rs cap) ∧ w.heap.size + 1 < k ∧ t2 < k ∧ OwnAt w' k cap 4 (setB rs (behS ⟨op, xa, xb, xc, l, lv⟩ S)) ∧ Below X.heap.size X w') := hid (by
      rw [hSS]
      rintro X ⟨q1, q2, q3, q4, _⟩
      refine (CB.out X q2 q4 HX.out.vl).mono ?_
      rintro e w' ⟨k, cap, e1, e2, e3, e4⟩
      exact ⟨k, cap, e1, Nat.lt_trans q1.a.lt e2, Nat.lt_trans q1.td.lt e2, e3, e4⟩)
     have SO : Hid (∀ X, SS X → RUn w X (w.heap.size + 1) t2 tc2 rs fo slots (al, pre) ∧ IntsAt .i64 X la l ∧ w.heap.size + 1 < X.heap.size ∧ t2 < X.heap.size) := hid (by
      rw [hSS]
      rintro X ⟨q1, q2, q3, q4, _⟩
      exact ⟨q1, q3, q1.a.lt, q1.td.lt⟩)
     clear hSS h6 h7 R2 HG2 CB
     go_region_held3 (fun X => X.cell? ⟨w.heap.size, 2, none⟩ = some (.slice (some ⟨cb, co, none⟩) n cc) ∧ X.cell? ⟨cb, co + k * 6, none⟩ = some (.int .i64 op) ∧ X.cell? ⟨cb, co + k * 6 + 1, none⟩ = some (.int .i64 xa) ∧ X.cell? ⟨cb, co + k * 6 + 2, none⟩ = some (.int .i64 xb) ∧ X.cell? ⟨cb, co + k * 6 + 3, none⟩ = some (.int .i64 xc) ∧ X.cell? ⟨cb, co + k * 6 + 4, none⟩ = some (.slice la l.length lc) ∧ X.cell? ⟨cb, co + k * 6 + 5, none⟩ = some (.slice va lv.length vc) ∧ X.cell? ⟨w.heap.size + 1, k, none⟩ = some (.slice (some ⟨g, 0, none⟩) rs c) ∧ SS X)
      (first
       | (go_keep; done)
       | (refine ⟨?_, ?_, ?_, ?_, ?_, ?_, ?_, ?_, hS0⟩ <;> (go_keep; done))
       | (go_split_ands; obtain ⟨⟨z0, z1, z2, z3, z4, z5, z6, z7⟩, z8⟩ := SK.out _ _ (by assumption) q3; exact ⟨z0, z1, z2, z3, z4, z5, z6, z7, z8⟩))
       (first
       | (go_at_call 87; (with_reducible refine (CB2.out _ ?_).mono ?_); (go_split_ands; assumption); rintro e w2 ⟨gs, cs, rfl, q1, q1b, q2, q3⟩))
     go_split_ands
     obtain ⟨o1, o2, o3, o4⟩ := SO.out _ (by assumption)
     have Q1 := hid (And.intro q1 q1b)
     have Q2 := hid q2
     have R3 := hid o1
     have LI := hid o2
     clear q1 q1b q2 q3 o1 o2 o3 o4 hS0 SK SO CB2 c2 h0 h1 h2 h3 h4 h5 s0
     go_wp2_with (go_at_call 86; refine (CN.out _ LI.out).mono ?_; rintro e w3 ⟨r, rcap, rfl, q1, q2, q4⟩; have N1 := hid q1; have R4 := hid (R3.out.same q2); have Q3 := hid (Q2.out.below q2 Q2.out.lt); have N2 := hid (show ∀ b o, r = some ⟨b, o, none⟩ → w.heap.size + 1 < b ∧ b ≠ t2 from fun b o q => ⟨Nat.lt_of_lt_of_le R3.out.a.lt (q4 b o q), by have := R3.out.td.lt; have := q4 b o q; omega⟩); clear q1 q2 q4)
     obtain ⟨L, hL⟩ : ∃ L, nextL (k : Int) op xc l = L := ⟨_, rfl⟩
     obtain ⟨T, hT⟩ : ∃ T, toS k ⟨op, xa, xb, xc, l, lv⟩ = T := ⟨_, rfl⟩
     obtain ⟨ou, hou⟩ : ∃ ou, behS ⟨op, xa, xb, xc, l, lv⟩ S = ou := ⟨_, rfl⟩
     have HTL := hid (show T = L.map Int.toNat by rw [← hT, ← hL]; rfl)
     have HGO := hid (show ∀ z ∈ L, 0 ≤ z ∧ z < (n : Int) by rw [← hL, ← HN.out]; exact HX.out.go)
     have HOU := hid (show ou < 2 ^ rs by rw [← hou]; exact beh_lt HX.out HSS.out)
     have n1 := N1.out
     have q3 := Q3.out
     have hst2 := HST.out
     rw [hL] at n1
     rw [hou] at q3
     rw [hT, hou] at hst2
     rw [hL]
     have M0 := hid (show RMid w w3 (w.heap.size + 1) t2 tc2 rs fo slots (curS ou T (al, pre) 0) ou gs cs r L from ⟨R4.out, q3, Q1.out.1, by have := Q1.out.2; omega, n1, N2.out⟩)
     have HST := hid hst2
     have HLM := hid n1.1
     clear n1 q3 hst2 hL hT hou N1 Q3 Q1 R4 R3 Q2 LI CN N2 HXA
     go_loopw [6, 10] (fun v6 v10 wr => ∃ (y : Nat) (t' tc' : Nat) (sl' : List Value), v10 = .int .i64 y ∧ y ≤ L.length ∧ v6 = .slice (some ⟨t', 0, none⟩) (curS ou T (al, pre) y).2.length tc' ∧ RMid w wr (w.heap.size + 1) t' tc' rs fo sl' (curS ou T (al, pre) y) ou gs cs r L) (fun _ v10 _ => L.length - (intOf v10).toNat)
     case atStart => exact ⟨0, t2, tc2, slots, rfl, Nat.zero_le _, by rw [← HP.out]; rfl, M0.out⟩
     case round =>
      clear M0
      obtain ⟨y, t', tc', sl', rfl, hy, rfl, hM⟩ := hrel
      have hTl : T.length = L.length := by rw [HTL.out]; simp
      by_cases hlt : y < L.length
      ·have hyT : y < T.length := by omega
       obtain ⟨rb, ro, rfl, rc0⟩ := ints_cell hM.li hlt
       obtain ⟨z0, z1⟩ := HGO.out (L.getD y 0) (by simp [List.getD, hlt])
       obtain ⟨tt, htt⟩ := Int.eq_ofNat_of_zero_le z0
       have hTy : T[y] = tt := by
        have : T[y] = (L.getD y 0).toNat := by simp [HTL.out, List.getD, hlt]
        rw [this, htt, Int.toNat_natCast]
       have hnx := curS_next (out := ou) (st := (al, pre)) hyT
       rw [hTy] at hnx
       obtain ⟨k1, k2⟩ := curS_ok (T := T) HOU.out HO0.out.1 (fun t ht => by rw [HTL.out] at ht; obtain ⟨z, hz, rfl⟩ := List.mem_map.1 ht; have := HGO.out z hz; omega) y
       rw [htt] at rc0 z1
       obtain ⟨cur, hcur⟩ : ∃ cur, curS ou T (al, pre) y = cur := ⟨_, rfl⟩
       rw [hcur] at hM hnx k1 k2 ⊢
       have htl : tt < cur.1.length := by rw [k1.len]; omega
       obtain ⟨s0, f0⟩ := hM.run.slot htl
       have hrow := hM.run.rows tt htl
       have hcl : cur.2.length ≤ 600000000 := by
        have := HO0.out.2
        unfold meaS at this k2
        omega
       have hrb : rb < wr.heap.size := World.block_lt_of_cell? _ _ rc0
       have M := hid hM
       have HNX := hid hnx
       have HTL2 := hid htl
       have hLM := HLM.out
       have hLm : (L.length : Int) ≤ 9223372036854775807 := by unfold maxLen at hLM; omega
       have KO := hid k1
       have rc1 : ∀ v, (wr.setCell ⟨w.heap.size + 1, tt, none⟩ v).cell? ⟨rb, ro + y, none⟩ = some (.int .i64 (tt : Int)) := fun v => (World.cell?_setCell_other wr ⟨w.heap.size + 1, tt, none⟩ ⟨rb, ro + y, none⟩ v (by intro q; have := (hM.lo rb ro rfl).1; injection q; omega)).trans rc0
       cases hs : setOf cur.1 tt with
       | none =>
        rw [hs] at hrow
        have hrow : sl'.getD tt undef = .slice none 0 0 := hrow
        rw [hrow] at s0
        have HS := hid hs
        have hqn := fun W => eqn_none 133 _ Tryz.underlying133 W
        have M1 := hid (hM.put htl hM.ga hM.gt hM.out)
        clear hs hrow hM htl hnx k1 k2 hcur hLM htt hTy z0
        go_wp2_with (at_builtin; refine app_push M1.out.run.td rfl _ _ rfl rfl rfl tt _ (by simp) rfl (by show cur.2.length ≤ _; omega) ?_; intro t3 tc3 V3 k1 k2 k3; have M2 := hid (M1.out.push k2 k3 k1 (fun b o q => by cases q; simpa using hrb)); clear k1 k2 k3)
        go_roundw
        case rel => exact ⟨y + 1, t3, tc3, _, by go_num, hlt, by rw [HNX.out, metS_none HS.out]; simp, by rw [HNX.out, metS_none HS.out]; exact M2.out⟩
        case measure => simp [intOf]; omega
       | some R =>
        rw [hs] at hrow
        obtain ⟨g', c', hsl, r1, r2, r3⟩ := hrow
        rw [hsl] at s0
        have HS := hid hs
        have HR := hid r3
        have HRl := hid (k1.set tt R hs)
        have hqs := fun W => eqn_some 133 _ Tryz.underlying133 ⟨g', 0, none⟩ rs c' W
        by_cases hle : R &&& ou = R
        ·have CB := hid (fun W h1 h2 => rboth_eq g' gs c' cs rs R ou false (by simp [hle]) W h1 h2 HRl.out (by omega))
         have HLE := hid hle
         clear hs hsl r1 r2 r3 hM htl hnx k1 k2 hcur hLM htt hTy z0 rc1 hle
         go_wp2_with fail
         go_region_law (go_simp; go_at_call 88; refine (CB.out _ HR.out.drew M.out.out.drew).mono ?_; rintro e w4 ⟨kb, kc, rfl, q1, q2, q3⟩; have hb4 : Below wr.heap.size wr w4 := ((Below.refl _ _).drew).trans q3; have M3 := hid (M.out.same hb4); have s4 := (M3.out.run.slot HTL2.out).1; have f4 := (M3.out.run.slot HTL2.out).2; have rc4 := (hb4.cell (p := ⟨rb, ro + y, none⟩) hrb).trans rc0; have M4 := hid (M3.out.put HTL2.out (Nat.lt_of_lt_of_le M.out.run.a.lt q1) (by have := M.out.run.td.lt; have q1' : wr.heap.size ≤ kb := q1; omega) q2); clear q1 q2 q3 hb4)
         all_goals go_wp2_with fail
         all_goals go_roundw
         all_goals first
          | exact ⟨y + 1, t', tc', _, by go_num, hlt, by rw [HNX.out, metS_some HS.out, if_pos HLE.out], by rw [HNX.out, metS_some HS.out, if_pos HLE.out]; exact M4.out⟩
          | (simp [intOf]; omega)
        ·have CB := hid (fun W h1 h2 => rboth_eq g' gs c' cs rs R ou true (by simp [hle]) W h1 h2 HRl.out (by omega))
         have HLE := hid hle
         clear hs hsl r1 r2 r3 hM htl hnx k1 k2 hcur hLM htt hTy z0 rc1 hle
         go_wp2_with fail
         go_region_law (go_simp; go_at_call 88; refine (CB.out _ HR.out.drew M.out.out.drew).mono ?_; rintro e w4 ⟨kb, kc, rfl, q1, q2, q3⟩; have hb4 : Below wr.heap.size wr w4 := ((Below.refl _ _).drew).trans q3; have M3 := hid (M.out.same hb4); have s4 := (M3.out.run.slot HTL2.out).1; have f4 := (M3.out.run.slot HTL2.out).2; have rc4 := (hb4.cell (p := ⟨rb, ro + y, none⟩) hrb).trans rc0; have hrb4 := Nat.lt_of_lt_of_le hrb hb4.size; have rc5 : ∀ v, (w4.setCell ⟨w.heap.size + 1, tt, none⟩ v).cell? ⟨rb, ro + y, none⟩ = some (.int .i64 (tt : Int)) := (fun v => (World.cell?_setCell_other w4 ⟨w.heap.size + 1, tt, none⟩ ⟨rb, ro + y, none⟩ v (by intro q; have := (M3.out.lo rb ro rfl).1; injection q; omega)).trans rc4); have M4 := hid (M3.out.put HTL2.out (Nat.lt_of_lt_of_le M.out.run.a.lt q1) (by have := M.out.run.td.lt; have q1' : wr.heap.size ≤ kb := q1; omega) q2); clear q1 q2 q3 hb4)
         all_goals go_wp2_with (at_builtin; refine app_push M4.out.run.td rfl _ _ rfl rfl rfl tt _ (by simp) rfl (by show cur.2.length ≤ _; omega) ?_; intro t3 tc3 V3 k1 k2 k3; have M5 := hid (M4.out.push k2 k3 k1 (fun b o q => by cases q; simpa using hrb4)); clear k1 k2 k3)
         all_goals go_roundw
         all_goals first
          | exact ⟨y + 1, t3, tc3, _, by go_num, hlt, by rw [HNX.out, metS_some HS.out, if_neg HLE.out]; simp, by rw [HNX.out, metS_some HS.out, if_neg HLE.out]; exact M5.out⟩
          | (simp [intOf]; omega)
      ·obtain rfl : y = L.length := by omega
       obtain ⟨st2, he2⟩ : ∃ st2, stepS code (al, pre ++ [k]) = st2 := ⟨_, rfl⟩
       have he : curS ou T (al, pre) L.length = st2 := by
        rw [← he2, HST.out]
        unfold curS
        rw [← hTl, List.take_length]
       rw [he] at hM ⊢
       have HREL := hid (show RRel w (w.heap.size + 1) rs fo code i (meaS rs st2) (.slice (some ⟨t', 0, none⟩) st2.2.length tc') wr from ⟨j + 1, st2, t', tc', sl', by rw [← he2, iterS_succ, ← HT.out], by rw [← he2]; exact HO.out, rfl, by rw [← he2]; exact Nat.le_of_lt (Nat.lt_of_lt_of_le HMM.out (by rw [HM.out]; exact HMB.out)), rfl, hM.run⟩)
       have HLT := hid (show meaS rs st2 < _ from by rw [← he2]; exact Nat.lt_of_lt_of_le HMM.out (Nat.le_of_eq HM.out))
       clear hM he he2 HST
       go_wp2_with fail
       go_roundw
       case rel => exact ⟨_, HREL.out⟩
       case measure => exact Nat.lt_of_le_of_lt (leastOf_le HREL.out) (by have h := HLT.out; simp only [List.length_append, List.length_singleton, HP.out] at h; exact h)
end Go.Proofs.YtokjkligechcoaaGreatDoor
