/- Walks of layer 16: passes over the code till nothing changes. -/
import Derived.Test.YtokjkligechcoaaGreatDoorKf
set_option linter.unusedVariables false
namespace Go.Proofs.YtokjkligechcoaaGreatDoor
open _root_.Go.Lib (hid)
open Go.RowKit
attribute [local go_sem] ext_mk size_mk toList_mk get_mk take_drop_len take_tail_len ByteArray.mk_append_mk List.append_toArray
theorem words_ext {m S T : Nat} (hS : S < 2 ^ (64 * m)) (hT : T < 2 ^ (64 * m)) (h : ∀ j, j < m → wordN S j = wordN T j) : S = T := by
 apply Nat.eq_of_testBit_eq
 intro i
 by_cases q : i < 64 * m
 ·rw [← word_bit S i, ← word_bit T i, h (i / 64) (by omega)]
 ·rw [Nat.testBit_lt_two_pow (Nat.lt_of_lt_of_le hS (Nat.pow_le_pow_right (by decide) (by omega))), Nat.testBit_lt_two_pow (Nat.lt_of_lt_of_le hT (Nat.pow_le_pow_right (by decide) (by omega)))]
set_option maxHeartbeats 2000000 in
set_option maxRecDepth 8000 in
theorem equal_any (g1 g2 c1 c2 m S T : Nat) (w : World) (h1 : OwnAt w g1 c1 45 (u64s (wordsOf m S))) (h2 : OwnAt w g2 c2 45 (u64s (wordsOf m T))) (hm : m ≤ 64) (hS : S < 2 ^ (64 * m)) (hT : T < 2 ^ (64 * m)) :
  Calls Tryz.prog 98 #[.slice (some ⟨g1, 0, none⟩) m c1, .slice (some ⟨g2, 0, none⟩) m c2] w fun e w' => e = .returned (.bool (decide (S = T))) ∧ Below w.heap.size w w' := by
 have H1 := hid h1
 have H2 := hid h2
 have HE := hid (fun (h : ∀ j, j < m → wordN S j = wordN T j) => words_ext hS hT h)
 clear h1 h2 hS hT
 go_enter Tryz.func98, Tryz.ntmps98
 go_wp2_with fail
 go_loopw [13] (fun v13 wr => ∃ i : Nat, v13 = .int .i64 (i : Int) ∧ i ≤ m ∧ Below w.heap.size w wr ∧ ∀ j, j < i → wordN S j = wordN T j) (fun v13 _ => m - (intOf v13).toNat)
 case atStart => exact ⟨0, rfl, Nat.zero_le _, Below.refl _ _, fun j hj => absurd hj (Nat.not_lt_zero _)⟩
 case round =>
  obtain ⟨i, rfl, hi, hb, hall⟩ := hrel
  have HA := hid hall
  have HB := hid hb
  by_cases hlt : i < m
  ·have u0 : wr.cell? ⟨g1, i, none⟩ = some (.int .u64 ((wordN S i : Nat) : Int)) := (H1.out.below hb H1.out.lt).cell (by simp [wordsOf, hlt])
   have u1 : wr.cell? ⟨g2, i, none⟩ = some (.int .u64 ((wordN T i : Nat) : Int)) := (H2.out.below hb H2.out.lt).cell (by simp [wordsOf, hlt])
   have it : ((i : Int)).toNat = i := Int.toNat_natCast i
   obtain ⟨a, ha⟩ : ∃ a, wordN S i = a := ⟨_, rfl⟩
   obtain ⟨b, hb2⟩ : ∃ b, wordN T i = b := ⟨_, rfl⟩
   rw [ha] at u0
   rw [hb2] at u1
   have HAB := hid (And.intro ha hb2)
   clear ha hb2 hall hb
   by_cases hab : a = b
   ·have q0 : ((a : Int) == (b : Int)) = true := by rw [beq_iff_eq]; omega
    have HQ := hid hab
    clear hab
    go_wp2_with fail
    go_quiet (fail)
    go_wp2_with fail
    go_roundw
    case rel => exact ⟨i + 1, by go_num, hlt, below_drewN HB.out _, fun j hj => by
     by_cases e : j = i
     ·subst e; rw [HAB.out.1, HAB.out.2]; exact HQ.out
     ·exact HA.out j (by omega)⟩
    case measure => simp only [intOf]; omega
   ·have q0 : ((a : Int) == (b : Int)) = false := by rw [beq_eq_false_iff_ne]; omega
    have HQ := hid hab
    clear hab
    go_wp2_with fail
    go_quiet (fail)
    go_wp2_with fail
    go_ret
    exact ⟨by rw [show decide (S = T) = false from decide_eq_false (fun q => HQ.out (by rw [← HAB.out.1, ← HAB.out.2, q]))]; rfl, below_drewN HB.out _⟩
  ·obtain rfl : i = m := by omega
   clear hall
   go_wp2_with fail
   go_ret
   exact ⟨by rw [show decide (S = T) = true from decide_eq_true (HE.out HA.out)]; rfl, HB.out⟩
theorem WoAt.grown {W V : World} {b c : Nat} {fa sa ra : Option Addr} {fn sn rn fc sc rc : Nat} {en : Int} (h : WoAt W b fa sa ra fn sn rn fc sc rc en) (hg : W.grownBy V (some c)) {cs : Array Value} (ht : W.heap[c]? = some (.cells cs 58 (0, 0))) {z : Int} (hz : cs[0]? = some (.int .i64 z)) : WoAt V b fa sa ra fn sn rn fc sc rc en := by
 obtain ⟨g, cap, k, c2, h1, h2, h3, h4⟩ := h
 have hc0 : W.cell? ⟨c, 0, none⟩ = some (.int .i64 z) := by rw [cell_of_row _ _ _ _ _ _ ht]; exact hz
 have hb : b ≠ c := by
  rintro rfl
  unfold WBlk at h1
  rw [ht] at h1
  simp only [Option.some.injEq, Obj.cells.injEq] at h1
  exact absurd h1.2.1 (by decide)
 have hgc : g ≠ c := by
  rintro rfl
  obtain ⟨-, -, p, cp, -, ⟨s, hs⟩, -⟩ := h2.2 0 (by decide)
  rw [show 5 * 0 + 0 = 0 from rfl, hc0] at hs
  cases hs
 have hk : k ≠ c := by
  rintro rfl
  have := h4 0 (by decide)
  rw [hc0] at this
  cases this
 have e : ∀ (q j : Nat), q < W.heap.size → q ≠ c → V.cell? ⟨q, j, none⟩ = W.cell? ⟨q, j, none⟩ := fun q j q1 q2 => hg.cell_far ⟨q, j, none⟩ q1 (by intro r; injection r with r; exact q2 r)
 refine ⟨g, cap, k, c2, ?_, ⟨Nat.lt_of_lt_of_le h2.1 hg.size, fun i hi => ?_⟩, Nat.lt_of_lt_of_le h3 hg.size, fun i hi => (e k i h3 hk).trans (h4 i hi)⟩
 ·unfold WBlk at h1 ⊢
  rw [hg.block b (heap_lt h1) (by intro r; injection r with r; exact hb r)]; exact h1
 ·have e2 := fun j => e g j h2.1 hgc
  simp only [e2]; exact h2.2 i hi
/-- what code's passes keep -/
structure RqC (w W : World) (p : Value) (m n : Nat) (fo : Obj) (slots : List Value) (st : List Nat) : Prop where
 b : Below w.heap.size w W
 p : KAt W w.heap.size (.cells #[p] 67 (0, 0))
 f : KAt W (w.heap.size + 1) fo
 i : KAt W (w.heap.size + 1 + 1 + 1) (.cells #[.slice (some ⟨w.heap.size + 1 + 1, 0, none⟩) (n + 1) (n + 1)] 139 (0, 0))
 r : RtR W (w.heap.size + 1 + 1) m n slots st
section
variable {w W V : World} {p : Value} {m n : Nat} {fo : Obj} {slots : List Value} {st : List Nat}
theorem RqC.below (h : RqC w W p m n fo slots st) (hb : Below W.heap.size W V) : RqC w V p m n fo slots st := ⟨h.b.trans (hb.mono h.b.size), h.p.below hb, h.f.below hb, h.i.below hb, h.r.below hb⟩
theorem RqC.put (h : RqC w W p m n fo slots st) {k g c S : Nat} (hk : k < n) (hg : w.heap.size + 1 + 1 + 1 < g) (hs : OwnAt W g c 45 (u64s (wordsOf m S))) : RqC w (W.setCell ⟨w.heap.size + 1 + 1, k, none⟩ (.slice (some ⟨g, 0, none⟩) m c)) p m n fo (slots.set k (.slice (some ⟨g, 0, none⟩) m c)) (st.set k S) :=
 ⟨h.b.setCell (p := ⟨w.heap.size + 1 + 1, k, none⟩) (by show w.heap.size ≤ w.heap.size + 1 + 1; omega) _, h.p.put _ (by show w.heap.size ≠ w.heap.size + 1 + 1; omega) _, h.f.put _ (by show w.heap.size + 1 ≠ w.heap.size + 1 + 1; omega) _, h.i.put _ (by show w.heap.size + 1 + 1 + 1 ≠ w.heap.size + 1 + 1; omega) _, h.r.put hk (by omega) hs⟩
end
theorem RtR.same {W : World} {A m n k : Nat} {slots : List Value} {st : List Nat} (h : RtR W A m n slots st) (hk : k < n) : st.set k (st.getD k 0) = st := set_getD (by rw [h.sl]; exact hk)
theorem RtR.grown {W V : World} {A m n c : Nat} {slots : List Value} {st : List Nat} (h : RtR W A m n slots st) (hg : W.grownBy V (some c)) (hc : c < A) : RtR V A m n slots st :=
 ⟨h.a.grown hg (by omega), h.len, h.sl, fun k hk => by obtain ⟨g, c2, h1, h2, h3⟩ := h.rows k hk; exact ⟨g, c2, h1, h2, h3.grown hg (by omega)⟩⟩
/-- the rows while they are made -/
def MkR (W : World) (A m n i : Nat) : Prop := ∃ slots, OwnAt W A (n + 1) 140 slots ∧ slots.length = n + 1 ∧ (∀ k, k < i → ∃ g c, slots[k]? = some (Value.slice (some ⟨g, 0, none⟩) m c) ∧ A < g ∧ OwnAt W g c 45 (u64s (wordsOf m 0))) ∧ ∀ k, i ≤ k → k < n + 1 → slots[k]? = some (Value.slice none 0 0)
theorem MkR.below {W V : World} {A m n i : Nat} (h : MkR W A m n i) (hb : Below W.heap.size W V) : MkR V A m n i := by
 obtain ⟨slots, h1, h2, h3, h4⟩ := h
 exact ⟨slots, h1.below hb h1.lt, h2, fun k hk => by obtain ⟨g, c, q1, q2, q3⟩ := h3 k hk; exact ⟨g, c, q1, q2, q3.below hb q3.lt⟩, h4⟩
theorem MkR.cell {W : World} {A m n i : Nat} (h : MkR W A m n i) (hi : i < n + 1) : W.cell? ⟨A, i, none⟩ = some (.slice none 0 0) ∧ W.frozen? ⟨A, i, none⟩ = false := by
 obtain ⟨slots, h1, h2, h3, h4⟩ := h
 exact ⟨h1.cell (h4 i (Nat.le_refl _) hi), h1.frozen i⟩
theorem MkR.put {W : World} {A m n i g c : Nat} (h : MkR W A m n i) (hi : i < n + 1) (hg : A < g) (ho : OwnAt W g c 45 (u64s (wordsOf m 0))) : MkR (W.setCell ⟨A, i, none⟩ (.slice (some ⟨g, 0, none⟩) m c)) A m n (i + 1) := by
 obtain ⟨slots, h1, h2, h3, h4⟩ := h
 refine ⟨_, h1.set i _, by rw [List.length_set]; exact h2, fun k hk => ?_, fun k q1 q2 => ?_⟩
 ·rw [List.getElem?_set]
  by_cases e : i = k
  ·subst e
   rw [if_pos rfl, if_pos (by rw [h2]; exact hi)]
   exact ⟨g, c, rfl, hg, ho.other _ (by show g ≠ A; omega) _⟩
  ·rw [if_neg e]
   obtain ⟨g2, c2, q1, q2, q3⟩ := h3 k (by omega)
   exact ⟨g2, c2, q1, q2, q3.other _ (by show g2 ≠ A; omega) _⟩
 ·rw [List.getElem?_set, if_neg (by omega)]; exact h4 k (by omega) q2
theorem MkR.done {W : World} {A m n : Nat} (h : MkR W A m n (n + 1)) : ∃ slots, RtR W A m n slots (zeroP n) := by
 obtain ⟨slots, h1, h2, h3, h4⟩ := h
 exact ⟨slots, h1, h2, by simp [zeroP], fun k hk => by rw [zeroP_get]; exact h3 k (by omega)⟩
def CoR (w : World) (p : Value) (m n rs : Nat) (fo : Obj) (code : List In) (q : Nat) (v7 : Value) (wr : World) : Prop := ∃ (st : List Nat) (slots : List Value) (more : Bool), v7 = .bool more ∧ PsR code rs st more ∧ RqC w wr p m n fo slots st ∧ q = mea2 n rs st more
set_option maxHeartbeats 4000000 in
set_option maxRecDepth 8000 in
theorem croots_any (pw : Nat) (fa sa ra : Option Addr) (fn sn rn fc sc rc : Nat) (en : Int) (lo c cc : Nat) (ps : Int) (rs : Nat) (code : List In) (w : World) (hW : WoAt w pw fa sa ra fn sn rn fc sc rc en) (hcb : CbK lo w.heap.size w c code 0) (hlo : lo ≤ w.heap.size) (hok : OkQ rs code) (hlv0 : ∀ x ∈ code, x.lv = []) (hrs : rs ≤ 4096) (hcn : code.length ≤ 65536) :
  Calls Tryz.prog 39 #[.pointer (some ⟨pw, 0, none⟩), .agg #[.int .i64 ps, .int .i64 (rs : Int), .slice (some ⟨c, 0, none⟩) code.length cc]] w fun e w' => (∃ v, e = .returned v) ∧ w.grownBy w' (some c) ∧ CbK lo w'.heap.size w' c (rootsC rs code) code.length := by
 have hC := hcb.at (by omega)
 have HCB := hid hcb
 have HCL := hid hcb.lt
 have HWO := hid hW
 obtain ⟨n, hnn⟩ : ∃ n, code.length = n := ⟨_, rfl⟩
 obtain ⟨m, hmm⟩ : ∃ m, wn rs = m := ⟨_, rfl⟩
 have hml : m ≤ 64 := by rw [← hmm]; unfold wn; omega
 have hmA : ∀ W, (Instr.makeSlice 139 (.int .i64 ((n : Int) + 1)) (.int .i64 ((n : Int) + 1))).run Tryz.prog W = .ok (.slice (some ⟨W.heap.size, 0, none⟩) (n + 1) (n + 1)) (W.alloc (.cells (madeCells #[.slice none 0 0] (n + 1)) 140)) := fun W => run_make_row' (P := Tryz.prog) 139 140 (.slice none 0 0) 24 Tryz.underlying139 infoRow rfl .i64 .i64 (n + 1) (by omega) (by omega) W
 have hmf : ∀ (fn : Fn) (first cap : Array Value) (w : World), (Instr.makeFunc fn first cap).run Tryz.prog w = .ok (.func fn first cap) w := fun _ _ _ _ => rfl
 have CNR : Hid (∀ W : World, Calls Tryz.prog 74 #[.int .i64 (rs : Int)] W fun e w' => ∃ g, e = .returned (.slice (some ⟨g, 0, none⟩) m m) ∧ W.heap.size ≤ g ∧ OwnAt w' g m 45 (u64s (wordsOf m 0)) ∧ Below W.heap.size W w') := hid (fun W => by rw [← hmm]; exact newRow_any rs (by omega) W)
 obtain ⟨fo, hfo⟩ : ∃ fo, Obj.cells #[.int .i64 ps, .int .i64 (rs : Int), .slice (some ⟨c, 0, none⟩) n cc] 48 (0, 0) = fo := ⟨_, rfl⟩
 obtain ⟨p, hp⟩ : ∃ p : Value, Value.pointer (some ⟨pw, 0, none⟩) = p := ⟨_, rfl⟩
 have HFO := hid hfo
 have HC := hid hC
 have HK := hid hok
 have HN := hid hnn
 have HM := hid hmm
 obtain ⟨W1, hW1⟩ : ∃ W1, (((w.alloc (.cells #[.pointer (some ⟨pw, 0, none⟩)] 67)).alloc (.cells #[.int .i64 ps, .int .i64 (rs : Int), .slice (some ⟨c, 0, none⟩) n cc] 48)).alloc (.cells (madeCells #[.slice none 0 0] (n + 1)) 140)).alloc (.cells #[.slice (some ⟨w.heap.size + 1 + 1, 0, none⟩) (n + 1) (n + 1)] 139) = W1 := ⟨_, rfl⟩
 have hb0 : Below w.heap.size w W1 := by rw [← hW1]; exact ((((Below.refl _ _).alloc (Nat.le_refl _) _).alloc (by simp) _).alloc (by simp; omega) _).alloc (by simp; omega) _
 have kp : KAt W1 w.heap.size (.cells #[p] 67 (0, 0)) := by rw [← hW1, ← hp]; exact (((KAt.new w _).alloc _).alloc _).alloc _
 have kf : KAt W1 (w.heap.size + 1) fo := by
  have h := ((KAt.new (w.alloc (.cells #[.pointer (some ⟨pw, 0, none⟩)] 67)) (.cells #[.int .i64 ps, .int .i64 (rs : Int), .slice (some ⟨c, 0, none⟩) n cc] 48)).alloc (.cells (madeCells #[.slice none 0 0] (n + 1)) 140)).alloc (.cells #[.slice (some ⟨w.heap.size + 1 + 1, 0, none⟩) (n + 1) (n + 1)] 139)
  rw [hW1, show (w.alloc (.cells #[.pointer (some ⟨pw, 0, none⟩)] 67)).heap.size = w.heap.size + 1 from by simp] at h
  rw [← hfo]; exact h
 obtain ⟨Y, hY⟩ : ∃ Y, (w.alloc (.cells #[.pointer (some ⟨pw, 0, none⟩)] 67)).alloc (.cells #[.int .i64 ps, .int .i64 (rs : Int), .slice (some ⟨c, 0, none⟩) n cc] 48) = Y := ⟨_, rfl⟩
 have zY : Y.heap.size = w.heap.size + 1 + 1 := by rw [← hY]; simp
 have ki : KAt W1 (w.heap.size + 1 + 1 + 1) (.cells #[.slice (some ⟨w.heap.size + 1 + 1, 0, none⟩) (n + 1) (n + 1)] 139 (0, 0)) := by
  have h := KAt.new (Y.alloc (.cells (madeCells #[.slice none 0 0] (n + 1)) 140)) (.cells #[.slice (some ⟨w.heap.size + 1 + 1, 0, none⟩) (n + 1) (n + 1)] 139)
  rw [show (Y.alloc (.cells (madeCells #[.slice none 0 0] (n + 1)) 140)).heap.size = w.heap.size + 1 + 1 + 1 from by simp [zY]] at h
  rw [← hY, hW1] at h; exact h
 have ko : MkR W1 (w.heap.size + 1 + 1) m n 0 := by
  have o1 := (OwnAt.new Y (madeCells #[.slice none 0 0] (n + 1)) 140 (by rw [size_madeCells]; unfold maxLen; omega)).alloc (.cells #[.slice (some ⟨w.heap.size + 1 + 1, 0, none⟩) (n + 1) (n + 1)] 139)
  rw [size_madeCells, made_toList, zY, ← hY, hW1] at o1
  exact ⟨_, o1, by simp, fun k hk => absurd hk (Nat.not_lt_zero _), fun k _ hk => by simp [hk]⟩
 have S1 := hid (And.intro hb0 (And.intro kp (And.intro kf (And.intro ki ko))))
 have HFC : Hid (∀ V, KAt V (w.heap.size + 1) fo → V.cell? ⟨w.heap.size + 1, 0, none⟩ = some (.int .i64 ps) ∧ V.cell? ⟨w.heap.size + 1, 1, none⟩ = some (.int .i64 (rs : Int)) ∧ V.cell? ⟨w.heap.size + 1, 2, none⟩ = some (.slice (some ⟨c, 0, none⟩) n cc)) := hid (by rw [← hfo]; exact fun V h => fboxc h)
 have hrs0 : (0 : Int) ≤ (rs : Int) := by omega
 have HP := hid hp
 clear hC hcb hok hfo hb0 kp kf ki ko hY zY hW hp hmm
 rw [hnn] at hcn ⊢
 have j0 := pbox1 S1.out.2.2.2.1
 go_enter Tryz.func39, Tryz.ntmps39
 go_wp2_with fail
 (try rw [hW1])
 go_loopw [22] (fun v22 wr => ∃ i : Nat, v22 = .int .i64 (i : Int) ∧ i ≤ n + 1 ∧ Below w.heap.size w wr ∧ KAt wr w.heap.size (.cells #[p] 67 (0, 0)) ∧ KAt wr (w.heap.size + 1) fo ∧ KAt wr (w.heap.size + 1 + 1 + 1) (.cells #[.slice (some ⟨w.heap.size + 1 + 1, 0, none⟩) (n + 1) (n + 1)] 139 (0, 0)) ∧ MkR wr (w.heap.size + 1 + 1) m n i) (fun v22 _ => n + 1 - (intOf v22).toNat)
 case atStart => exact ⟨0, rfl, Nat.zero_le _, S1.out.1, S1.out.2.1, S1.out.2.2.1, S1.out.2.2.2.1, S1.out.2.2.2.2⟩
 case round =>
  clear S1 j0
  obtain ⟨i, rfl, hi, hb, kp, kf, ki, ko⟩ := hrel
  have HB := hid hb
  have KP := hid kp
  have KF := hid kf
  have KI := hid ki
  have KO := hid ko
  by_cases hlt : i < n + 1
  ·obtain ⟨f0, f1, f2⟩ := HFC.out _ kf
   have i0 := pbox1 ki
   obtain ⟨a0, a1⟩ := ko.cell hlt
   have it : ((i : Int)).toNat = i := Int.toNat_natCast i
   have hin : (i : Int) < (n : Int) + 1 := by omega
   clear hb kp kf ki ko
   go_wp2_with fail
   go_region_law (go_simp; go_at_call 74; refine (CNR.out _).mono ?_; rintro e w2 ⟨g, rfl, g1, g2, g3⟩; have hb2 : Below wr.heap.size wr w2 := (by first | exact g3 | exact ((Below.refl wr.heap.size wr).drew).trans g3); have B2 := hid hb2; have O2 := hid g2; have G2 := hid (show wr.heap.size ≤ g from g1); obtain ⟨p0, p1, p2⟩ := HFC.out _ (KF.out.below hb2); have q0 := pbox1 (KI.out.below hb2); obtain ⟨r0, r1⟩ := (KO.out.below hb2).cell hlt; clear g1 g2 g3 hb2)
   all_goals go_wp2_with fail
   all_goals
    go_roundw
    case rel => exact ⟨i + 1, by go_num, hlt, (HB.out.trans (B2.out.mono HB.out.size)).setCell (p := ⟨w.heap.size + 1 + 1, i, none⟩) (by show w.heap.size ≤ w.heap.size + 1 + 1; omega) _, (KP.out.below B2.out).put _ (by show w.heap.size ≠ w.heap.size + 1 + 1; omega) _, (KF.out.below B2.out).put _ (by show w.heap.size + 1 ≠ w.heap.size + 1 + 1; omega) _, (KI.out.below B2.out).put _ (by show w.heap.size + 1 + 1 + 1 ≠ w.heap.size + 1 + 1; omega) _, (KO.out.below B2.out).put hlt (by have := heap_lt KI.out.x; have := G2.out; omega) O2.out⟩
    case measure => simp only [intOf]; omega
  ·obtain rfl : i = n + 1 := by omega
   rw [show (((n + 1 : Nat)) : Int) = (n : Int) + 1 from rfl]
   obtain ⟨slots, hR⟩ := ko.done
   have HQ0 := hid (show RqC w wr p m n fo slots (zeroP n) from ⟨hb, kp, kf, ki, hR⟩)
   have hP0 := PsR.start HK.out
   rw [HN.out] at hP0
   have HP0 := hid hP0
   clear hb kp kf ki ko hR hP0 hmA hlt hi HB KP KF KI KO
   go_wp2_with fail
   go_loopw [7] (fun v7 wr => ∃ q, CoR w p m n rs fo code q v7 wr) (fun v7 wr => leastOf fun q => CoR w p m n rs fo code q v7 wr)
   case atStart => exact ⟨_, _, slots, true, rfl, HP0.out, HQ0.out, rfl⟩
   case round =>
    clear HQ0 HP0
    obtain ⟨st, slots, more, rfl, hP, hQ, hm⟩ := leastOf_spec hrel
    have HPS := hid hP
    have HM2 := hid hm
    obtain ⟨wo, hwo⟩ : ∃ wo, wo = wr := ⟨_, rfl⟩
    subst hwo
    have HQ := hid hQ
    obtain ⟨f0, f1, f2⟩ := HFC.out _ hQ.f
    cases more
    ·have hst : st = finC code := by
      rcases hP.2 with q | q
      ·exact absurd q.1 (by decide)
      ·exact q.2
     obtain ⟨X, hX⟩ : ∃ X, rootsC rs code = X := ⟨_, rfl⟩
     have hXl : X.length = code.length := by rw [← hX]; simp [rootsC]
     have hXg : ∀ k x, code[k]? = some x → X[k]? = some (rootI rs code k x) := fun k x e => by rw [← hX]; simp [rootsC, List.getElem?_mapIdx, e]
     have HXL := hid hXl
     have HXG := hid hXg
     have HST := hid hst
     have HXX := hid hX
     have CB0 := hid ((HCB.out.below hQ.b).wk (hi' := wo.heap.size) hQ.b.size)
     have HSZ := hid hQ.b.size
     have HWW := hid (HWO.out.below hQ.b)
     clear hP hQ hm hrel hst hX hXl hXg HM2 HPS
     go_wp2_with fail
     clear f0 f1 f2
     go_loopw [74] (fun v74 wz => ∃ k : Nat, v74 = .int .i64 (k : Int) ∧ k ≤ n ∧ wo.grownBy wz (some c) ∧ CbK lo wz.heap.size wz c (mixC X code k) k) (fun v74 _ => n - (intOf v74).toNat)
     case atStart => exact ⟨0, rfl, Nat.zero_le _, ⟨rfl, rfl, rfl, Nat.le_refl _, fun _ _ _ => rfl⟩, by rw [mixC_zero]; exact CB0.out⟩
     case round =>
      obtain ⟨k, rfl, hk, hG, hCB⟩ := hrel
      obtain ⟨wk, hwk⟩ : ∃ wk, wk = wr := ⟨_, rfl⟩
      subst hwk
      have HG := hid hG
      have HCK := hid hCB
      have hfk : KAt wk (w.heap.size + 1) fo := HQ.out.f.grown hG (by have := HCL.out; omega)
      have hpk := HQ.out.p.grown hG (by have := HCL.out; omega)
      have hik := HQ.out.i.grown hG (by have := HCL.out; omega)
      obtain ⟨f0, f1, f2⟩ := HFC.out _ hfk
      have p0 := pbox1 hpk
      by_cases hki : k < n
      ·have hkl : k < code.length := by rw [HN.out]; exact hki
       have hx : code[k]? = some code[k] := List.getElem?_eq_getElem hkl
       obtain ⟨x, hxe⟩ : ∃ x, code[k] = x := ⟨_, rfl⟩
       rw [hxe] at hx
       have hxm : (mixC X code k)[k]? = some x := by rw [mixC_get HXL.out hkl]; exact hx
       have hml2 : (mixC X code k).length = n := by rw [mixC_len HXL.out (by omega)]; exact HN.out
       obtain ⟨cd, hcd⟩ : ∃ cd, mixC X code k = cd := ⟨_, rfl⟩
       have HXI := hid (HXG.out k x hx)
       have HX := hid (show OkP n rs k x by have := HK.out k x hx; rwa [HN.out] at this)
       have hlv := hlv0 x (List.mem_of_getElem? hx)
       have HNX := hid (fun y (e : X[k]? = some y) => mixC_next HXL.out hkl e)
       have HBK := hid (show behK code (finC code) k = dropA x (orL st (toS k x)) by unfold behK; rw [hx, HST.out])
       rw [hcd] at hxm hml2 hCB HNX HCK
       obtain ⟨cb, co, hce, hXc⟩ := code_cells (hCB.at (by omega)) hxm
       cases hce
       have hWk : WoAt wk pw fa sa ra fn sn rn fc sc rc en := by
        obtain ⟨cs, q1, q2, -⟩ := CB0.out
        obtain ⟨x0, hx0⟩ : ∃ x0, code[0]? = some x0 := ⟨_, List.getElem?_eq_getElem (by omega)⟩
        obtain ⟨-, -, -, -, r0, -⟩ := q2 0 x0 hx0
        exact HWW.out.grown hG q1 (by simpa using r0)
       obtain ⟨op, xa, xb, xc, l, lv⟩ := x
       obtain ⟨la, lc, va, vc, h0, h1, h2, h3, h4, h5, h6, h7⟩ := hXc
       dsimp only at h0 h1 h2 h3 h4 h5 h6 h7 hlv
       subst hlv
       rw [Nat.zero_add] at h0 h1 h2 h3 h4 h5
       have hkt : ((k : Int)).toNat = k := Int.toNat_natCast k
       have HXM := hid hxm
       have HML := hid hml2
       have HFK := hid hfk
       have HWK := hid hWk
       have CKP := hid (fun W (h : WoAt W pw fa sa ra fn sn rn fc sc rc en) => (show Calls Tryz.prog 77 #[p, .agg #[.int .i64 op, .int .i64 xa, .int .i64 xb, .int .i64 xc, .slice la l.length lc, .slice va 0 vc]] W fun x w' => x = .returned (.bool (keepsI op xb)) ∧ Below W.heap.size W w' by rw [← HP.out]; exact keeps_any pw fa sa ra fn sn rn fc sc rc en op xa xb xc la va l.length lc 0 vc W h))
       clear hG hCB hfk hpk hik hkl hx hxe hxm hml2 hcd h6 h7 hWk
       go_upto_region 26 with (fail)
       go_cut [12, 74, 84] from 74 to 111 (fun v12 v74 v84 wx => v12 = .int .i64 (k : Int) ∧ v74 = .int .i64 (k : Int) ∧ v84 = .bool (!keepsI op xb) ∧ Below wk.heap.size wk wx)
       case first =>
        go_region_law (go_simp; go_at_call 77; refine (CKP.out _ (by first | exact HWK.out | exact HWK.out.below (Below.refl _ _).drew)).mono ?_; rintro e w5 ⟨rfl, hb⟩; have B5 := hid (show Below wk.heap.size wk w5 from by first | exact hb | exact ((Below.refl wk.heap.size wk).drew).trans hb); clear hb)
        all_goals go_wp2_with fail
        all_goals go_meet
        all_goals exact ⟨rfl, rfl, rfl, B5.out⟩
       case rest =>
        obtain ⟨rfl, rfl, rfl, hb5⟩ := hcut
        have G5 := hid (HG.out.trans ⟨hb5.os, hb5.tape, hb5.output, hb5.size, fun b hb' _ => hb5.block b hb'⟩)
        have C5 := hid ((HCK.out.below hb5).wk (hi' := wc.heap.size) hb5.size)
        clear hb5 h0 h1 h2 h3 h4 h5 f0 f1 f2 p0
        cases hkp : keepsI op xb
        ·have HSK := hid (show mixC X code (k + 1) = cd by
          rw [← HNX.out ⟨op, xa, xb, xc, l, []⟩ (by rw [HXI.out]; simp [rootI, hkp])]
          exact set_at HXM.out)
         clear hkp
         go_wp2_with fail
         go_roundw
         case rel => exact ⟨k + 1, by go_num, hki, G5.out, by rw [HSK.out]; exact C5.out.skip⟩
         case measure => simp only [intOf]; omega
        ·obtain ⟨D, hD⟩ : ∃ D, dropA ⟨op, xa, xb, xc, l, []⟩ (orL st (toS k ⟨op, xa, xb, xc, l, []⟩)) = D := ⟨_, rfl⟩
         have HBD := hid (show behK code (finC code) k = D by rw [HBK.out, hD])
         have HSK := hid (show cd.set k ⟨op, xa, xb, xc, l, regsT rs D⟩ = mixC X code (k + 1) from HNX.out _ (by rw [HXI.out]; unfold rootI; dsimp only; rw [if_pos hkp, HBD.out]; rfl))
         have HKL := hid (show k < cd.length by rw [HML.out]; exact hki)
         have kf5 := HQ.out.f.grown G5.out (by have := HCL.out; omega)
         have kp5 := HQ.out.p.grown G5.out (by have := HCL.out; omega)
         have ki5 := HQ.out.i.grown G5.out (by have := HCL.out; omega)
         have hr5 := HQ.out.r.grown G5.out (by have := HCL.out; omega)
         have CWN := hid (wanted_any p (w.heap.size + 1) w.heap.size (w.heap.size + 1 + 1 + 1) (w.heap.size + 1 + 1) m n ps rs (some ⟨c, 0, none⟩) cc cd slots st k ⟨op, xa, xb, xc, l, []⟩ wc (by rw [HFO.out]; exact kf5) kp5 ki5 hr5 (C5.out.at (by have := HML.out; omega)) HML.out HXM.out HX.out HM.out hrs hcn)
         rw [hD] at CWN
         have K5 := hid kf5
         obtain ⟨f0, f1, f2⟩ := HFC.out _ kf5
         clear hkp hD kf5 kp5 ki5 hr5
         go_wp2_with (go_at_call 96; refine (CWN.out).mono ?_; rintro e w6 ⟨g, rfl, g1, g2, g3⟩; have C6 := hid ((C5.out.below g3).wk (hi' := w6.heap.size) g3.size); have K6 := hid (K5.out.below g3); have O6 := hid g2; have HGC := hid (Nat.lt_of_lt_of_le C5.out.lt g1); have G6 := hid (G5.out.trans ⟨g3.os, g3.tape, g3.output, g3.size, fun b hb' _ => g3.block b hb'⟩); clear g1 g2 g3 f0 f1 f2; obtain ⟨f0, f1, f2⟩ := HFC.out _ K6.out)
         have hi6 : c < w6.heap.size := C6.out.lt
         have HI6 := hid hi6
         have HLO6 := hid (show lo ≤ w6.heap.size by have := HSZ.out; have := G6.out.size; omega)
         have FL0 := hid (C6.out.fill HKL.out)
         clear hi6 f0 f1 f2
         go_loopw [90] (fun v90 wz => ∃ (y : Nat) (v : Value), v90 = .int .i64 (y : Int) ∧ y ≤ rs ∧ FlK lo w6.heap.size wz c cd k v ∧ wz.ownsRow w6.heap.size 3 1 v (regsT y D).length (ints (regsT y D)) ∧ w6.grownBy wz (some c)) (fun v90 _ => rs - (intOf v90).toNat)
         case atStart => exact ⟨0, _, rfl, Nat.zero_le _, FL0.out, World.ownsRow_nil _ _ _ _, ⟨rfl, rfl, rfl, Nat.le_refl _, fun _ _ _ => rfl⟩⟩
         case round =>
          clear FL0
          obtain ⟨y, v, rfl, hy, hF, hO, hG⟩ := hrel
          have HF := hid hF
          have HO := hid hO
          have HG6 := hid hG
          obtain ⟨f0, f1, f2⟩ := HFC.out _ (K6.out.grown hG (by have := HCL.out; omega))
          by_cases hyr : y < rs
          ·have o7 := O6.out.grown hG (by have := HGC.out; omega)
           have hym : y / 64 < m := by rw [← HM.out]; exact wn_lt hyr
           have CHA := hid (has_any (some ⟨g, 0, none⟩) m D m y wr (own_ints o7) hym (by omega))
           obtain ⟨u1, u2⟩ := hF.cells
           have yt : ((y : Int)).toNat = y := Int.toNat_natCast y
           have kt : ((k : Int)).toNat = k := Int.toNat_natCast k
           cases hz : D.testBit y
           ·rw [hz] at CHA
            have HRT := hid (regsT_no (y := y) (S := D) hz)
            clear hF hO hG o7 hz
            go_wp2_with (go_at_call 78; refine (CHA.out).mono ?_; rintro e w8 ⟨rfl, rfl⟩)
            go_roundw
            case rel => exact ⟨y + 1, v, by go_num, hyr, HF.out, by rw [HRT.out]; exact HO.out, HG6.out⟩
            case measure => simp only [intOf]; omega
           ·rw [hz] at CHA
            have HRT := hid (regsT_yes (y := y) (S := D) hz)
            have HRL := hid (regsT_len y D)
            clear hF hO hG o7 hz
            go_upto_region 32 with (go_at_call 78; refine (CHA.out).mono ?_; rintro e w8 ⟨rfl, rfl⟩)
            have HAB := hid (fun o => (show Below w8.heap.size w8 (w8.alloc o) from (Below.refl _ _).alloc (Nat.le_refl _) _))
            have HRR := hid (show w6.heap.size ≤ w8.heap.size from HG6.out.size)
            have u1a : ∀ o, (w8.alloc o).cell? ⟨c, k * 6 + 5, none⟩ = some v := fun o => ((HAB.out o).cell (p := ⟨c, k * 6 + 5, none⟩) (World.block_lt_of_cell? _ _ u1)).trans u1
            have f2a : ∀ o, (w8.alloc o).cell? ⟨w.heap.size + 1, 2, none⟩ = some (.slice (some ⟨c, 0, none⟩) n cc) := fun o => ((HAB.out o).cell (p := ⟨w.heap.size + 1, 2, none⟩) (World.block_lt_of_cell? _ _ f2)).trans f2
            go_region_law (refine step_app_list (row_below HO.out (by first | exact HAB.out _ | exact (HAB.out _).drew | exact (Below.refl _ _).drew)) rfl _ _ rfl [(y : Int)] _ _ rfl rfl (ints_new1 (by simp)) (by have := HRL.out; simp; omega) (by have := HRR.out; simp; omega) ?_; intro v' V k1 k2 k3 k4; (obtain ⟨g7, c7, cur7, rfl, -⟩ := own_parts k1 (Nat.succ_pos _)); have B9 := hid (show Below w6.heap.size w8 V from (((by first | exact (HAB.out _).mono HRR.out | exact ((HAB.out _).mono HRR.out).drew) : Below w6.heap.size w8 _).trans k2)); have F9 := hid (HF.out.low B9.out HI6.out); have O9 := hid k1; obtain ⟨p1, p2⟩ := F9.out.cells; have f2v : V.cell? ⟨w.heap.size + 1, 2, none⟩ = some (.slice (some ⟨c, 0, none⟩) n cc) := (B9.out.cell (p := ⟨w.heap.size + 1, 2, none⟩) (heap_lt K6.out.x)).trans f2; clear k1 k2 k3 k4)
            all_goals go_wp2_with fail
            all_goals
             go_roundw
             case rel => exact ⟨y + 1, .slice (some ⟨g7, 0, none⟩) ((regsT y D).length + 1) c7, by go_num, hyr, F9.out.put _, by
              have q := ownsRow_setCell_below O9.out (a := ⟨c, k * 6 + 5, none⟩) HI6.out (.slice (some ⟨g7, 0, none⟩) ((regsT y D).length + 1) c7)
              rw [HRT.out, List.length_append]
              unfold ints
              rw [List.map_append]
              exact q, (grown_below HG6.out B9.out).trans (grown_set _ c (k * 6 + 5) _)⟩
             case measure => simp only [intOf]; omega
          ·obtain rfl : y = rs := by omega
           obtain ⟨-, a9, cap9, hv9, hI9⟩ := own_rest hO
           have C9 := hid (hF.done HXM.out hG.size hv9 (hI9.rest (fun b q1 q2 => ⟨by have := HLO6.out; omega, q2, rfl⟩)))
           have G9 := hid (G6.out.trans hG)
           clear hF hO hG hv9 hI9
           go_wp2_with fail
           go_roundw
           case rel => exact ⟨k + 1, by go_num, hki, G9.out, by rw [← HSK.out]; exact C9.out⟩
           case measure => simp only [intOf]; omega
      ·obtain rfl : k = n := by omega
       rw [← HN.out, mixC_end HXL.out] at hCB
       have HC9 := hid hCB
       have HGW := hid (World.grownBy.trans ⟨HQ.out.b.os, HQ.out.b.tape, HQ.out.b.output, HQ.out.b.size, fun b hb' _ => HQ.out.b.block b hb'⟩ hG)
       clear hG hCB hfk hpk hik
       go_wp2_with fail
       go_end0
       exact ⟨⟨_, rfl⟩, HGW.out, by have q := HC9.out; rw [HN.out] at q; rw [HXX.out]; exact q⟩
    ·have HJ0 := hid (PaR.start code st)
     rw [HN.out] at HJ0
     have HI0 := hid hP.1
     clear hP hQ hm hrel
     go_wp2_with fail
     go_loopw [7, 8] (fun v7 v8 wz => ∃ (j : Nat) (st' : List Nat) (slots' : List Value) (bm : Bool), v8 = .int .i64 ((j : Int) - 1) ∧ v7 = .bool bm ∧ j ≤ n ∧ PaR code st j st' bm ∧ InvP (ahdK code) code.length rs st' ∧ RqC w wz p m n fo slots' st') (fun _ v8 _ => (intOf v8 + 1).toNat)
     case atStart => exact ⟨n, st, slots, false, rfl, rfl, Nat.le_refl _, HJ0.out, HI0.out, HQ.out⟩
     case round =>
      clear HQ HI0 HJ0 f0 f1 f2
      obtain ⟨j, st', slots', bm, rfl, rfl, hj, hPa, hIn, hQ⟩ := hrel
      obtain ⟨wm, hwm⟩ : ∃ wm, wm = wr := ⟨_, rfl⟩
      subst hwm
      have HPa := hid hPa
      have HIn := hid hIn
      have HQ := hid hQ
      obtain ⟨f0, f1, f2⟩ := HFC.out _ hQ.f
      cases j with
      | zero =>
       rw [show (((0 : Nat) : Int) - 1) = -1 from rfl]
       clear hPa hIn hQ
       go_wp2_with fail
       go_roundw
       case rel => exact ⟨_, st', slots', bm, rfl, (PsR.pass HK.out HPS.out HPa.out).1, HQ.out, rfl⟩
       case measure =>
        refine Nat.lt_of_le_of_lt (leastOf_le (n := mea2 n rs st' bm) ⟨st', slots', bm, rfl, (PsR.pass HK.out HPS.out HPa.out).1, HQ.out, rfl⟩) ?_
        have := mea_lt HK.out HPS.out HPa.out
        rw [HN.out] at this
        rw [HM2.out]; exact this
      | succ j =>
       rw [show (((j + 1 : Nat) : Int) - 1) = (j : Int) by omega]
       have hjl : j < code.length := by rw [HN.out]; omega
       have hx : code[j]? = some code[j] := List.getElem?_eq_getElem hjl
       obtain ⟨x, hxe⟩ : ∃ x, code[j] = x := ⟨_, rfl⟩
       rw [hxe] at hx
       have HX := hid (show OkP n rs j x by have := HK.out j x hx; rwa [HN.out] at this)
       have HXA := hid (ahdK_at hx st')
       have CWN := hid (fun W (q : RqC w W p m n fo slots' st') (h2 : CodeAt W (some ⟨c, 0, none⟩) code) => wanted_any p (w.heap.size + 1) w.heap.size (w.heap.size + 1 + 1 + 1) (w.heap.size + 1 + 1) m n ps rs (some ⟨c, 0, none⟩) cc code slots' st' j x W (by rw [HFO.out]; exact q.f) q.p q.i q.r h2 HN.out hx HX.out HM.out hrs hcn)
       obtain ⟨cb, co, hce, hXc⟩ := code_cells (HC.out.below hQ.b) hx
       cases hce
       have hlv := hlv0 x (List.mem_of_getElem? hx)
       obtain ⟨op, xa, xb, xc, l, lv⟩ := x
       obtain ⟨la, lc, va, vc, h0, h1, h2, h3, h4, h5, h6, h7⟩ := hXc
       dsimp only at h0 h1 h2 h3 h4 h5 h6 h7 hlv
       subst hlv
       rw [Nat.zero_add] at h0 h1 h2 h3 h4 h5
       have HLI := hid h6
       have HXC : Hid (∀ V, Below wm.heap.size wm V → V.cell? ⟨c, j * 6, none⟩ = some (.int .i64 op) ∧ V.cell? ⟨c, j * 6 + 1, none⟩ = some (.int .i64 xa) ∧ V.cell? ⟨c, j * 6 + 2, none⟩ = some (.int .i64 xb) ∧ V.cell? ⟨c, j * 6 + 3, none⟩ = some (.int .i64 xc) ∧ V.cell? ⟨c, j * 6 + 4, none⟩ = some (.slice la l.length lc) ∧ V.cell? ⟨c, j * 6 + 5, none⟩ = some (.slice va ([] : List Int).length vc) ∧ V.cell? ⟨w.heap.size + 1, 2, none⟩ = some (.slice (some ⟨c, 0, none⟩) n cc)) := hid (by
        intro V hb
        have hl := World.block_lt_of_cell? _ _ h0
        exact ⟨(hb.cell (p := ⟨c, j * 6, none⟩) hl).trans h0, (hb.cell (p := ⟨c, j * 6 + 1, none⟩) hl).trans h1, (hb.cell (p := ⟨c, j * 6 + 2, none⟩) hl).trans h2, (hb.cell (p := ⟨c, j * 6 + 3, none⟩) hl).trans h3, (hb.cell (p := ⟨c, j * 6 + 4, none⟩) hl).trans h4, (hb.cell (p := ⟨c, j * 6 + 5, none⟩) hl).trans h5, (hb.cell (p := ⟨w.heap.size + 1, 2, none⟩) (heap_lt HQ.out.f.x)).trans f2⟩)
       have jt : ((j : Int)).toNat = j := Int.toNat_natCast j
       have hji : j < n := by omega
       obtain ⟨RL, hRL⟩ : ∃ RL, readsI ⟨op, xa, xb, xc, l, []⟩ = RL := ⟨_, rfl⟩
       obtain ⟨N0, hN0⟩ : ∃ N0, dropA ⟨op, xa, xb, xc, l, []⟩ (orL st' (toS j ⟨op, xa, xb, xc, l, []⟩)) = N0 := ⟨_, rfl⟩
       have HNN := hid (show ahdK code st' j = addR N0 RL by rw [HXA.out, hN0, hRL])
       have hxr := HX.out.rd
       have hxl := HX.out.ll
       dsimp only at hxl
       have CRD := hid (fun W h1 => reads_any op xa xb xc l [] la va lc 0 vc W h1 hxl)
       rw [hRL] at CRD hxr
       rw [hN0] at CWN
       have HRD := hid hxr
       have HCM := hid (HC.out.below hQ.b)
       clear hPa hIn hQ hx hxe hjl h6 h7 hRL hN0 hxr hxl h0 h1 h2 h3 h4 h5
       go_wp2_with (first
        | (go_at_call 96; refine (CWN.out _ HQ.out HCM.out).mono ?_; rintro e w4 ⟨g, rfl, g1, g2, g3⟩; have G4 := hid g1; have O4 := hid g2; have B4 := hid g3; clear g1 g2 g3 f0 f1 f2; obtain ⟨x0, x1, x2, x3, x4, x5, x6⟩ := HXC.out _ B4.out)
        | (go_at_call 82; (with_reducible refine (CRD.out _ (HLI.out.below B4.out)).mono ?_); rintro e w7 ⟨r, rcap, rfl, q1, q2⟩; have I7 := hid q1; have O7 := hid (O4.out.below q2 O4.out.lt); have B7 := hid (B4.out.trans (q2.mono B4.out.size)); clear q1 q2 x0 x1 x2 x3 x4 x5 x6))
       have HRG := hid (fun (h : RL ≠ []) => ints_ne_own I7.out O7.out (by simp [wordsOf]) (by intro v hv z e; obtain ⟨y, _, rfl⟩ := List.mem_map.1 hv; cases e) h)
       have hRl : (RL.length : Int) ≤ 9223372036854775807 := by have := I7.out.1; unfold maxLen at this; omega
       go_loopw [52] (fun v52 wz => ∃ y : Nat, v52 = .int .i64 (y : Int) ∧ y ≤ RL.length ∧ OwnAt wz g m 45 (u64s (wordsOf m (addR N0 (RL.take y)))) ∧ IntsAt .i64 wz r RL ∧ Below wm.heap.size wm wz) (fun v52 _ => RL.length - (intOf v52).toNat)
       case atStart => exact ⟨0, rfl, Nat.zero_le _, O7.out, I7.out, B7.out⟩
       case round =>
        clear O7 I7 B7
        obtain ⟨y, rfl, hy, hO, hI, hB⟩ := hrel
        have O8 := hid hO
        have I8 := hid hI
        have B8 := hid hB
        by_cases hly : y < RL.length
        ·obtain ⟨rb, ro, rfl, rc0⟩ := ints_cell hI hly
         obtain ⟨z0, z1⟩ := HRD.out (RL.getD y 0) (by simp [List.getD, hly])
         obtain ⟨rr, hrr⟩ := Int.eq_ofNat_of_zero_le z0
         have HAD := hid (show addR N0 (RL.take (y + 1)) = addR N0 (RL.take y) ||| 2 ^ rr by
          have e : RL[y] = (rr : Int) := by rw [← hrr]; simp [List.getD, hly]
          rw [List.take_succ_eq_append_getElem hly, e]; simp [addR])
         rw [hrr] at rc0 z1
         have hrm : rr / 64 < m := by rw [← HM.out]; exact wn_lt (by omega)
         have CPU := hid (put_any g m (addR N0 (RL.take y)) m rr wr hO hrm (by omega))
         clear hO hI hB hrr z0 z1
         go_wp2_with (go_at_call 75; refine (CPU.out).mono ?_; rintro e w9 ⟨⟨v, rfl⟩, rfl⟩)
         go_roundw
         case rel => exact ⟨y + 1, by go_num, hly, by rw [HAD.out]; exact put_own O8.out hrm, (ints_keep I8.out (grown_set _ g (rr / 64) _) HRG.out).below (Below.refl _ _).drew, (B8.out.setCell (p := ⟨g, rr / 64, none⟩) (by show wm.heap.size ≤ g; exact G4.out) _).drew⟩
         case measure => simp only [intOf]; omega
        ·obtain rfl : y = RL.length := by omega
         rw [List.take_length, ← HNN.out] at hO
         have hNlt : ahdK code st' j < 2 ^ rs := (ahd_ok HK.out).lt st' j HIn.out.lt
         obtain ⟨NN, hNN⟩ : ∃ NN, ahdK code st' j = NN := ⟨_, rfl⟩
         obtain ⟨S0, hS0⟩ : ∃ S0, st'.getD j 0 = S0 := ⟨_, rfl⟩
         have hQ8 := HQ.out.below hB
         obtain ⟨gj, cj, hsl, hgj, hoj⟩ := hQ8.r.rows j (by omega)
         rw [hS0] at hoj
         rw [hNN] at hO hNlt
         have hS0lt : S0 < 2 ^ rs := by rw [← hS0]; exact HIn.out.lt j
         have CEQ := hid (equal_any g gj m cj m NN S0 wr hO hoj hml (by rw [← HM.out]; exact wn_pow hNlt) (by rw [← HM.out]; exact wn_pow hS0lt))
         have a0 := hQ8.r.a.cell hsl
         have a1 := hQ8.r.a.frozen j
         have i0 := pbox1 hQ8.i
         have HP2 := HPa.out.next
         have HI2 := HIn.out.step (ahd_ok HK.out) (k := j) (by rw [HN.out]; exact hji)
         rw [hNN] at HP2 HI2
         rw [hS0] at HP2
         have HP3 := hid HP2
         have HI3 := hid HI2
         have O9 := hid hO
         have HSV := hid (show st'.set j S0 = st' by rw [← hS0]; exact hQ8.r.same hji)
         have HQ8 := hid hQ8
         have hjn : (j : Int) < (n : Int) + 1 := by omega
         by_cases hne : NN = S0
         ·have HE := hid hne
          rw [show decide (NN = S0) = true from decide_eq_true hne] at CEQ
          clear hO hI hB hNN hS0 hQ8 hsl hgj hoj HP2 HI2 hne hNlt hS0lt
          go_wp2_with (go_at_call 98; refine (CEQ.out).mono ?_; rintro e w9 ⟨rfl, hb⟩; have Q9 := hid (HQ8.out.below hb); clear hb)
          go_roundw
          case rel => exact ⟨j, st', slots', bm, rfl, rfl, by omega, by have q := HP3.out; rw [HE.out, HSV.out, show decide (S0 ≠ S0) = false from decide_eq_false (fun q => q rfl), Bool.or_false] at q; exact q, by have q := HI3.out; rw [HE.out, HSV.out] at q; exact q, Q9.out⟩
          case measure => simp only [intOf]; omega
         ·have HE := hid hne
          rw [show decide (NN = S0) = false from decide_eq_false hne] at CEQ
          clear hO hI hB hNN hS0 hQ8 hsl hgj hoj HP2 HI2 hne hNlt hS0lt
          go_wp2_with (go_at_call 98; refine (CEQ.out).mono ?_; rintro e w9 ⟨rfl, hb⟩; have Q9 := hid (HQ8.out.below hb); have OA := hid (O9.out.below hb O9.out.lt); have i9 := pbox1 Q9.out.i; have a8 := (hb.cell (p := ⟨w.heap.size + 1 + 1, j, none⟩) (World.block_lt_of_cell? _ _ a0)).trans a0; have a9 := Q9.out.r.a.frozen j; clear hb a0 a1 i0)
          go_roundw
          case rel => exact ⟨j, st'.set j NN, _, true, rfl, rfl, by omega, by have q := HP3.out; rw [show decide (NN ≠ S0) = true from decide_eq_true HE.out, Bool.or_true] at q; exact q, HI3.out, Q9.out.put hji (by have := G4.out; have := heap_lt HQ.out.i.x; omega) OA.out⟩
          case measure => simp only [intOf]; omega
end Go.Proofs.YtokjkligechcoaaGreatDoor
