/- Walks of layer 16's reference: which primitives may allocate, Live at an instruction. -/
import Derived.Test.YtokjkligechcoaaGreatDoorCd
set_option linter.unusedVariables false
namespace Go.Proofs.YtokjkligechcoaaGreatDoor
open _root_.Go.Lib (hid)
open Go.RowKit
attribute [local go_sem] ext_mk size_mk toList_mk get_mk take_drop_len take_tail_len ByteArray.mk_append_mk List.append_toArray
/-- behind the last arrow ahead of a place -/
def atK (t : List UInt8) : Nat → Nat
 | 0 => 0
 | k + 1 => if ((t.drop k).take 3 == [45, 62, 32]) then k + 3 else atK t k
def lastB (r : List UInt8) : Bool := !(r == [105, 110, 116]) && !(r == [98, 111, 111, 108]) && !(r == [99, 104, 97, 114]) && !(r == [117, 110, 105, 116]) && !(r == [39, 97])
theorem ralloc_eq : ∀ i, i < 61 → lastB ((prT i).1.drop (atK (prT i).1 ((prT i).1.length - 2))) = allocB (i : Nat) ∧ 3 ≤ (prT i).1.length ∧ (prT i).1.length ≤ 100 := by decide +kernel
theorem atK_le (t : List UInt8) (k : Nat) : atK t k ≤ k + 2 := by
 induction k with
 | zero => exact Nat.zero_le _
 | succ k ih => unfold atK; split <;> omega
set_option maxHeartbeats 4000000 in
set_option maxRecDepth 8000 in
theorem rallocates_any (n : Int) (w : World) : Calls Tryz.prog 15 #[.int .i64 n] w fun e w' => e = .returned (.bool (allocB n)) ∧ Below w.heap.size w w' := by
 have CP := hid (fun W => prims_at W)
 by_cases hn : 0 ≤ n ∧ n < 61
 ·obtain ⟨i, rfl⟩ := Int.eq_ofNat_of_zero_le hn.1
  have hi : i < 61 := by omega
  obtain ⟨p1, p2, p3⟩ := ralloc_eq i hi
  obtain ⟨T, hT⟩ : ∃ T, (prT i).1 = T := ⟨_, rfl⟩
  rw [hT] at p1 p2 p3
  have HB := hid p1
  have HT := hid hT
  clear p1 hT hn
  go_enter Tryz.func15, Tryz.ntmps15
  go_wp2_with (first
   | (go_at_call 35; (with_reducible refine (CP.out _).mono ?_); rintro e w1 ⟨g, cap, rfl, hcap, hP, hgw, hb1⟩; have e1 := (hP.2 i hi).1; rw [HT.out, Nat.mul_comm] at e1; clear hP))
  go_loopw [5, 6] (fun va vi wr => ∃ k : Nat, vi = .int .i64 k ∧ k + 2 ≤ T.length ∧ va = .int .i64 (atK T k) ∧ wr = w1) (fun _ vi _ => T.length - (intOf vi).toNat)
  case atStart => exact ⟨0, rfl, by omega, rfl, rfl⟩
  case round =>
   obtain ⟨k, rfl, hk, rfl, rfl⟩ := hrel
   have ha := atK_le T k
   by_cases hlt : k + 3 ≤ T.length
   ·have m1 : ((k : Int) + 3).toNat = k + 3 := by omega
    have HK := hid (show atK T (k + 1) = if ((T.drop k).take 3 == [45, 62, 32]) then k + 3 else atK T k from rfl)
    cases hc : ((T.drop k).take 3 == [45, 62, 32])
    all_goals
     go_wp2_with fail
     go_roundw
    all_goals first
     | exact ⟨k + 1, by go_num, by omega, by rw [HK.out, hc]; first | rfl | simp, by trivial⟩
     | (simp [intOf]; omega)
   ·obtain rfl : k = T.length - 2 := by omega
    have m1 : decide (((T.length - 2 : Nat) : Int) + 3 ≤ (T.length : Int)) = false := decide_eq_false (by omega)
    have m2 : IntKind.i64.wrap (((T.length - 2 : Nat) : Int) + 3) = ((T.length - 2 : Nat) : Int) + 3 := IntWalk.i64_in _ (by omega)
    obtain ⟨q, hq⟩ : ∃ q, atK T (T.length - 2) = q := ⟨_, rfl⟩
    obtain ⟨z, hz⟩ : ∃ z, T.length - 2 = z := ⟨_, rfl⟩
    have hB := HB.out
    rw [hq] at ha hB ⊢
    rw [hz] at m1 m2 ha ⊢
    have HB := hid hB
    clear hB hq
    go_wp2_with fail
    all_goals go_ret
    all_goals exact ⟨ret_bool (by rw [← HB.out]; simp [lastB, *]), hb1⟩
 ·have HB := hid (show allocB n = false by unfold allocB; rw [if_neg hn])
  by_cases h0 : n < 0
  ·have k0 : decide (n < 0) = true := decide_eq_true h0
   clear hn h0
   go_enter Tryz.func15, Tryz.ntmps15
   go_wp2_with (go_at_call 35; (with_reducible refine (CP.out _).mono ?_); rintro e w1 ⟨g, cap, rfl, hcap, hP, hgw, hb1⟩; clear hP)
   go_ret
   exact ⟨ret_bool HB.out.symm, hb1⟩
  ·have k0 : decide (n < 0) = false := decide_eq_false h0
   have k1 : decide (61 ≤ n) = true := decide_eq_true (by omega)
   clear hn h0
   go_enter Tryz.func15, Tryz.ntmps15
   go_wp2_with (go_at_call 35; (with_reducible refine (CP.out _).mono ?_); rintro e w1 ⟨g, cap, rfl, hcap, hP, hgw, hb1⟩; clear hP)
   go_ret
   exact ⟨ret_bool HB.out.symm, hb1⟩
theorem rkeeps_any (op a b c : Int) (la va : Option Addr) (ln lc vn vc : Nat) (w : World) :
  Calls Tryz.prog 101 #[.agg #[.int .i64 op, .int .i64 a, .int .i64 b, .int .i64 c, .slice la ln lc, .slice va vn vc]] w fun x w' => x = .returned (.bool (keepsI op b)) ∧ Below w.heap.size w w' := by
 have CA := hid (fun W => rallocates_any b W)
 have HA : ∀ o, Hid (Below w.heap.size w (w.alloc o)) := fun o => hid ((Below.refl _ _).alloc (Nat.le_refl _) _)
 rcases op_2358 op with rfl | rfl | rfl | rfl | ⟨k2, k3, k5, k8⟩
 ·go_enter Tryz.func101, Tryz.ntmps101
  go_wp2
  go_ret
  exact ⟨rfl, (Below.refl _ _).alloc (Nat.le_refl _) _⟩
 ·go_enter Tryz.func101, Tryz.ntmps101
  go_wp2
  go_ret
  exact ⟨rfl, (Below.refl _ _).alloc (Nat.le_refl _) _⟩
 ·go_enter Tryz.func101, Tryz.ntmps101
  go_wp2
  go_ret
  exact ⟨rfl, (Below.refl _ _).alloc (Nat.le_refl _) _⟩
 ·go_enter Tryz.func101, Tryz.ntmps101
  go_wp2_with (first | (go_at_call 15; refine (CA.out _).mono ?_; rintro e w1 ⟨rfl, hb⟩))
  go_ret
  exact ⟨ret_bool (by simp [keepsI]), (HA _).out.trans (hb.mono (HA _).out.size)⟩
 ·go_enter Tryz.func101, Tryz.ntmps101
  go_wp2
  go_ret
  exact ⟨by simp [keepsI, k2, k3, k5, k8], (Below.refl _ _).alloc (Nat.le_refl _) _⟩
def okR (l : List Int) (i : Nat) : Bool := i == 0 || decide (l.getD (i - 1) 0 < l.getD i 0)
def risingB (l : List Int) : Bool := (List.range l.length).all (okR l)
theorem risingB_bad {l : List Int} {i : Nat} (hi : i < l.length) (h : okR l i = false) : risingB l = false := by
 unfold risingB
 rw [List.all_eq_false]
 exact ⟨i, by simpa using hi, by simp [h]⟩
theorem risingB_good {l : List Int} {i : Nat} (hi : l.length ≤ i) (h : (List.range i).all (okR l) = true) : risingB l = true := by
 unfold risingB
 rw [List.all_eq_true] at h ⊢
 intro x hx
 simp at hx
 exact h x (by simp; omega)
theorem rising_any (a : Option Addr) (l : List Int) (cap : Nat) (w : World) (h : IntsAt .i64 w a l) :
  Calls Tryz.prog 143 #[.slice a l.length cap] w fun x w' => x = .returned (.bool (risingB l)) ∧ Below w.heap.size w w' := by
 have hm := h.1
 have hm2 : (l.length : Int) ≤ 9223372036854775807 := by unfold maxLen at hm; omega
 have H0 := hid h
 clear h hm
 go_enter Tryz.func143, Tryz.ntmps143
 go_wp2_with fail
 go_loopw [3] (fun vi wr => ∃ i : Nat, vi = .int .i64 i ∧ 1 ≤ i ∧ i ≤ l.length + 1 ∧ (List.range i).all (okR l) = true ∧ IntsAt .i64 wr a l ∧ Below w.heap.size w wr) (fun vi _ => l.length + 1 - (intOf vi).toNat)
 case atStart => exact ⟨1, rfl, by omega, by omega, rfl, H0.out, Below.refl _ _⟩
 case round =>
  obtain ⟨i, rfl, h1, hi, hall, hI, hb⟩ := hrel
  have HL := hid hall
  have HI := hid hI
  have HB := hid hb
  clear hall hb
  by_cases hlt : i < l.length
  ·obtain ⟨b, off, ha, c0⟩ := ints_cell hI hlt
   obtain ⟨b', off', ha', c1⟩ := ints_cell hI (i := i - 1) (by omega)
   rw [ha] at ha'
   injection ha' with ha'
   injection ha' with q1 q2 _
   subst q1; subst q2; subst ha
   obtain ⟨v, hv⟩ : ∃ v, l.getD i 0 = v := ⟨_, rfl⟩
   obtain ⟨u, hu⟩ : ∃ u, l.getD (i - 1) 0 = u := ⟨_, rfl⟩
   rw [hv] at c0
   rw [hu] at c1
   have m1 : IntKind.i64.wrap ((i : Int) - 1) = (i : Int) - 1 := IntWalk.i64_in _ (by omega)
   have m2 : ((i : Int) - 1).toNat = i - 1 := by omega
   have m3 : (i : Int) - 1 < (l.length : Int) := by omega
   have m4 : (0 : Int) ≤ (i : Int) - 1 := by omega
   have m5 : (1 : Int) ≤ (i : Int) := by omega
   have HV := hid hv
   have HU := hid hu
   clear hv hu hI
   cases hc : decide (v ≤ u)
   ·go_wp2_with fail
    go_quiet (fail)
    go_wp2_with fail
    go_roundw
    case rel => exact ⟨i + 1, by go_num, by omega, by omega, by rw [List.range_succ, List.all_append, HL.out]; simp only [List.all_cons, List.all_nil, Bool.and_true, Bool.true_and]; unfold okR; rw [HV.out, HU.out]; have := of_decide_eq_false hc; simp; omega, HI.out.below (below_drewN (Below.refl _ _) _), below_drewN HB.out _⟩
    case measure => simp [intOf]; omega
   ·go_wp2_with fail
    go_quiet (fail)
    go_wp2_with fail
    go_ret
    exact ⟨ret_bool (risingB_bad (i := i) (by omega) (by unfold okR; rw [HV.out, HU.out]; have := of_decide_eq_true hc; simp; omega)).symm, below_drewN HB.out _⟩
  ·clear hI
   go_wp2_with fail
   go_ret
   exact ⟨ret_bool (risingB_good (i := i) (by omega) HL.out).symm, HB.out⟩
/-- is Live as said? -/
def liveB (op b : Int) (lv : List Int) (rs : Int) : Bool := if keepsI op b then regsB lv rs && risingB lv else (lv.length : Int) == 0
/-- an instruction -/
structure In where
 op : Int
 a : Int
 b : Int
 c : Int
 l : List Int
 lv : List Int
/-- the boxes of a function and of an instruction, the two lists behind it -/
structure FxAt (w W : World) (F X : Nat) (ps rs : Int) (ca : Option Addr) (cn cc : Nat) (x : In) (la : Option Addr) (lc : Nat) (va : Option Addr) (vc : Nat) : Prop where
 b : Below w.heap.size w W
 f : KAt W F (.cells #[.int .i64 ps, .int .i64 rs, .slice ca cn cc] 48 (0, 0))
 xk : KAt W X (.cells #[.int .i64 x.op, .int .i64 x.a, .int .i64 x.b, .int .i64 x.c, .slice la x.l.length lc, .slice va x.lv.length vc] 58 (0, 0))
 li : IntsAt .i64 W la x.l
 vi : IntsAt .i64 W va x.lv
theorem FxAt.below {w W V : World} {F X : Nat} {ps rs : Int} {ca : Option Addr} {cn cc : Nat} {x : In} {la : Option Addr} {lc : Nat} {va : Option Addr} {vc : Nat} (h : FxAt w W F X ps rs ca cn cc x la lc va vc) (hb : Below W.heap.size W V) : FxAt w V F X ps rs ca cn cc x la lc va vc :=
 ⟨h.b.trans (hb.mono h.b.size), h.f.below hb, h.xk.below hb, h.li.below hb, h.vi.below hb⟩
theorem FxAt.cells {w W : World} {F X : Nat} {ps rs : Int} {ca : Option Addr} {cn cc : Nat} {x : In} {la : Option Addr} {lc : Nat} {va : Option Addr} {vc : Nat} (h : FxAt w W F X ps rs ca cn cc x la lc va vc) :
  W.cell? ⟨F, 0, none⟩ = some (.int .i64 ps) ∧ W.cell? ⟨F, 1, none⟩ = some (.int .i64 rs) ∧ W.cell? ⟨F, 2, none⟩ = some (.slice ca cn cc) ∧
  W.cell? ⟨X, 0, none⟩ = some (.int .i64 x.op) ∧ W.cell? ⟨X, 1, none⟩ = some (.int .i64 x.a) ∧ W.cell? ⟨X, 2, none⟩ = some (.int .i64 x.b) ∧ W.cell? ⟨X, 3, none⟩ = some (.int .i64 x.c) ∧
  W.cell? ⟨X, 4, none⟩ = some (.slice la x.l.length lc) ∧ W.cell? ⟨X, 5, none⟩ = some (.slice va x.lv.length vc) := by
 refine ⟨?_, ?_, ?_, ?_, ?_, ?_, ?_, ?_, ?_⟩
 all_goals first
  | (rw [cell_of_row _ _ _ _ _ _ h.f.x]; rfl)
  | (rw [cell_of_row _ _ _ _ _ _ h.xk.x]; rfl)
theorem fx_start (w : World) (ps rs : Int) (ca : Option Addr) (cn cc : Nat) (x : In) (la : Option Addr) (lc : Nat) (va : Option Addr) (vc : Nat) (hl : IntsAt .i64 w la x.l) (hv : IntsAt .i64 w va x.lv) :
  FxAt w ((w.alloc (.cells #[.int .i64 ps, .int .i64 rs, .slice ca cn cc] 48)).alloc (.cells #[.int .i64 x.op, .int .i64 x.a, .int .i64 x.b, .int .i64 x.c, .slice la x.l.length lc, .slice va x.lv.length vc] 58)) w.heap.size (w.heap.size + 1) ps rs ca cn cc x la lc va vc := by
 have hb : Below w.heap.size w ((w.alloc (.cells #[.int .i64 ps, .int .i64 rs, .slice ca cn cc] 48)).alloc (.cells #[.int .i64 x.op, .int .i64 x.a, .int .i64 x.b, .int .i64 x.c, .slice la x.l.length lc, .slice va x.lv.length vc] 58)) := ((Below.refl _ _).alloc (Nat.le_refl _) _).alloc (by simp) _
 have k := KAt.new (w.alloc (.cells #[.int .i64 ps, .int .i64 rs, .slice ca cn cc] 48)) (.cells #[.int .i64 x.op, .int .i64 x.a, .int .i64 x.b, .int .i64 x.c, .slice la x.l.length lc, .slice va x.lv.length vc] 58 (0, 0))
 rw [show (w.alloc (.cells #[.int .i64 ps, .int .i64 rs, .slice ca cn cc] 48)).heap.size = w.heap.size + 1 from by simp] at k
 exact ⟨hb, (KAt.new w _).alloc _, k, hl.below hb, hv.below hb⟩
set_option maxHeartbeats 2000000 in
theorem rlive_any (ps rs : Int) (ca : Option Addr) (cn cc : Nat) (x : In) (la : Option Addr) (lc : Nat) (va : Option Addr) (vc : Nat) (w : World) (hl : IntsAt .i64 w la x.l) (hv : IntsAt .i64 w va x.lv) :
  Calls Tryz.prog 85 #[.agg #[.int .i64 ps, .int .i64 rs, .slice ca cn cc], .agg #[.int .i64 x.op, .int .i64 x.a, .int .i64 x.b, .int .i64 x.c, .slice la x.l.length lc, .slice va x.lv.length vc]] w fun e w' => e = .returned (.bool (liveB x.op x.b x.lv rs)) ∧ Below w.heap.size w w' := by
 have S := hid (fx_start w ps rs ca cn cc x la lc va vc hl hv)
 have CK := hid (fun op a b c la va ln lc vn vc W => rkeeps_any op a b c la va ln lc vn vc W)
 have CR := hid (fun a l cap ps n ca cn cc W h => rregs_any a l cap ps n ca cn cc W h)
 have CS := hid (fun a l cap W h => rising_any a l cap W h)
 obtain ⟨op, a, b, c, l, lv⟩ := x
 clear hl hv
 have hU : liveB op b lv rs = if keepsI op b then regsB lv rs && risingB lv else (lv.length : Int) == 0 := rfl
 have HU := hid hU
 clear hU
 cases hk : keepsI op b
 ·go_enter Tryz.func85, Tryz.ntmps85
  go_wp2_with (first
   | (go_at_call 101; refine (CK.out _ _ _ _ _ _ _ _ _ _ _).mono ?_; rw [hk]; rintro e w1 ⟨rfl, hb⟩; have S1 := hid (S.out.below hb); clear hb; obtain ⟨f0, f1, f2, x0, x1, x2, x3, x4, x5⟩ := S1.out.cells; dsimp only at x0 x1 x2 x3 x4 x5))
  go_ret
  exact ⟨ret_bool (by rw [HU.out, hk]; simp), S1.out.b⟩
 ·cases hr : regsB lv rs
  ·go_enter Tryz.func85, Tryz.ntmps85
   go_wp2_with (first
    | (go_at_call 101; refine (CK.out _ _ _ _ _ _ _ _ _ _ _).mono ?_; rw [hk]; rintro e w1 ⟨rfl, hb⟩; have S1 := hid (S.out.below hb); clear hb; obtain ⟨f0, f1, f2, x0, x1, x2, x3, x4, x5⟩ := S1.out.cells; dsimp only at x0 x1 x2 x3 x4 x5)
    | (go_at_call 141; refine (CR.out _ lv _ _ _ _ _ _ _ S1.out.vi).mono ?_; rw [hr]; rintro e w2 ⟨rfl, hb⟩; have S2 := hid (S1.out.below hb); clear hb f0 f1 f2 x0 x1 x2 x3 x4 x5; obtain ⟨f0, f1, f2, x0, x1, x2, x3, x4, x5⟩ := S2.out.cells; dsimp only at x0 x1 x2 x3 x4 x5))
   go_ret
   exact ⟨ret_bool (by rw [HU.out, hk, hr]; simp), S2.out.b⟩
  ·go_enter Tryz.func85, Tryz.ntmps85
   go_wp2_with (first
    | (go_at_call 101; refine (CK.out _ _ _ _ _ _ _ _ _ _ _).mono ?_; rw [hk]; rintro e w1 ⟨rfl, hb⟩; have S1 := hid (S.out.below hb); clear hb; obtain ⟨f0, f1, f2, x0, x1, x2, x3, x4, x5⟩ := S1.out.cells; dsimp only at x0 x1 x2 x3 x4 x5)
    | (go_at_call 141; refine (CR.out _ lv _ _ _ _ _ _ _ S1.out.vi).mono ?_; rw [hr]; rintro e w2 ⟨rfl, hb⟩; have S2 := hid (S1.out.below hb); clear hb f0 f1 f2 x0 x1 x2 x3 x4 x5; obtain ⟨f0, f1, f2, x0, x1, x2, x3, x4, x5⟩ := S2.out.cells; dsimp only at x0 x1 x2 x3 x4 x5)
    | (go_at_call 143; refine (CS.out _ lv _ _ S2.out.vi).mono ?_; rintro e w3 ⟨rfl, hb⟩; have S3 := hid (S2.out.below hb); clear hb f0 f1 f2 x0 x1 x2 x3 x4 x5))
   go_ret
   exact ⟨ret_bool (by rw [HU.out, hk, hr]; simp), S3.out.b⟩
open Fx
/-- is an instruction as the table says? ns, nr: how many strings and reals; fp: the functions' numbers of parameters; cn: the code's length; rs: the registers -/
def formB (ns nr : Nat) (fp : List Int) (cn : Nat) (rs : Int) (op a b c : Int) (l : List Int) : Bool :=
 if op == 1 then insB a rs && rtB b && (c == 0) && ((l.length : Int) == 0)
 else if op == 2 then insB a rs && insB b ns && (c == 0) && ((l.length : Int) == 0)
 else if op == 3 then insB a rs && insB b nr && (c == 0) && ((l.length : Int) == 0)
 else if op == 4 then insB a rs && insB b rs && (c == 0) && ((l.length : Int) == 0)
 else if op == 5 then insB a rs && ((b == 1) || (b == 2) || (b == 4) || (b == 3)) && insB c 16777216 && ((c == 0) || (b == 3)) && regsB l rs
 else if op == 6 || op == 7 then insB a rs && insB b rs && insB c 4194305 && ((l.length : Int) == 0)
 else if op == 8 then insB a rs && insB b 61 && ((l.length : Int) == (prT b.toNat).2.1) && (if (prT b.toNat).2.2 = 0 then c == -1 else insB c cn) && regsB l rs
 else if op == 9 then (a == 0) && (b == 0) && insB c cn && ((l.length : Int) == 0)
 else if op == 10 then (a == 0) && insB b rs && insB c cn && casesB l cn
 else if op == 11 then insB a rs && (b == 0) && (c == 0) && regsB l rs
 else if op == 12 then (a == 0) && (c == 0) && insB b fp.length && regsB l rs && ((l.length : Int) == fp.getD b.toNat 0)
 else if op == 13 then insB a rs && ((b == 0) || (b == 1)) && (c == 0) && ((l.length : Int) == 0)
 else false
/-- the functions' numbers of parameters lie -/
def PsAt (w : World) (a : Option Addr) (fp : List Int) : Prop :=
 fp.length ≤ 65536 ∧ (fp = [] ∨ ∃ b off, a = some ⟨b, off, none⟩ ∧ ∀ i, i < fp.length → w.cell? ⟨b, off + 3 * i, none⟩ = some (.int .i64 (fp.getD i 0)))
theorem PsAt.below {w w' : World} {a : Option Addr} {fp : List Int} (h : PsAt w a fp) (hb : Below w.heap.size w w') : PsAt w' a fp := by
 obtain ⟨hm, h | ⟨b, off, ha, hc⟩⟩ := h
 ·exact ⟨hm, .inl h⟩
 ·exact ⟨hm, .inr ⟨b, off, ha, fun i hi => (hb.cell (p := ⟨b, off + 3 * i, none⟩) (World.block_lt_of_cell? w _ (hc i hi))).trans (hc i hi)⟩⟩
theorem ps_cell {w : World} {a : Option Addr} {fp : List Int} (h : PsAt w a fp) {i : Nat} (hi : i < fp.length) : ∃ b off, a = some ⟨b, off, none⟩ ∧ w.cell? ⟨b, off + 3 * i, none⟩ = some (.int .i64 (fp.getD i 0)) := by
 rcases h.2 with h | ⟨b, off, ha, hc⟩
 ·rw [h] at hi; simp at hi
 ·exact ⟨b, off, ha, hc i hi⟩
/-- the boxes of the program, of a function, of an instruction -/
structure FmAt (w W : World) (P F X : Nat) (fa sa ra : Option Addr) (sn rn fc sc rc : Nat) (en : Int) (fp : List Int) (ps rs : Int) (ca : Option Addr) (cn cc : Nat) (x : In) (la : Option Addr) (lc : Nat) (va : Option Addr) (vc : Nat) : Prop where
 p : KAt W P (.cells #[.slice fa fp.length fc, .slice sa sn sc, .slice ra rn rc, .int .i64 en] 26 (0, 0))
 fx : FxAt w W F X ps rs ca cn cc x la lc va vc
 fs : PsAt W fa fp
theorem FmAt.below {w W V : World} {P F X : Nat} {fa sa ra : Option Addr} {sn rn fc sc rc : Nat} {en : Int} {fp : List Int} {ps rs : Int} {ca : Option Addr} {cn cc : Nat} {x : In} {la : Option Addr} {lc : Nat} {va : Option Addr} {vc : Nat} (h : FmAt w W P F X fa sa ra sn rn fc sc rc en fp ps rs ca cn cc x la lc va vc) (hb : Below W.heap.size W V) : FmAt w V P F X fa sa ra sn rn fc sc rc en fp ps rs ca cn cc x la lc va vc :=
 ⟨h.p.below hb, h.fx.below hb, h.fs.below hb⟩
theorem FmAt.pcells {w W : World} {P F X : Nat} {fa sa ra : Option Addr} {sn rn fc sc rc : Nat} {en : Int} {fp : List Int} {ps rs : Int} {ca : Option Addr} {cn cc : Nat} {x : In} {la : Option Addr} {lc : Nat} {va : Option Addr} {vc : Nat} (h : FmAt w W P F X fa sa ra sn rn fc sc rc en fp ps rs ca cn cc x la lc va vc) :
  W.cell? ⟨P, 0, none⟩ = some (.slice fa fp.length fc) ∧ W.cell? ⟨P, 1, none⟩ = some (.slice sa sn sc) ∧ W.cell? ⟨P, 2, none⟩ = some (.slice ra rn rc) := by
 refine ⟨?_, ?_, ?_⟩
 all_goals (rw [cell_of_row _ _ _ _ _ _ h.p.x]; rfl)
theorem fm_start (w : World) (fa sa ra : Option Addr) (sn rn fc sc rc : Nat) (en : Int) (fp : List Int) (ps rs : Int) (ca : Option Addr) (cn cc : Nat) (x : In) (la : Option Addr) (lc : Nat) (va : Option Addr) (vc : Nat) (hf : PsAt w fa fp) (hl : IntsAt .i64 w la x.l) (hv : IntsAt .i64 w va x.lv) :
  FmAt w (((w.alloc (.cells #[.slice fa fp.length fc, .slice sa sn sc, .slice ra rn rc, .int .i64 en] 26)).alloc (.cells #[.int .i64 ps, .int .i64 rs, .slice ca cn cc] 48)).alloc (.cells #[.int .i64 x.op, .int .i64 x.a, .int .i64 x.b, .int .i64 x.c, .slice la x.l.length lc, .slice va x.lv.length vc] 58)) w.heap.size (w.heap.size + 1) (w.heap.size + 1 + 1) fa sa ra sn rn fc sc rc en fp ps rs ca cn cc x la lc va vc := by
 obtain ⟨A, hA⟩ : ∃ A, w.alloc (.cells #[.slice fa fp.length fc, .slice sa sn sc, .slice ra rn rc, .int .i64 en] 26) = A := ⟨_, rfl⟩
 have hb : Below w.heap.size w A := by rw [← hA]; exact (Below.refl _ _).alloc (Nat.le_refl _) _
 have kp : KAt A w.heap.size (.cells #[.slice fa fp.length fc, .slice sa sn sc, .slice ra rn rc, .int .i64 en] 26 (0, 0)) := by rw [← hA]; exact KAt.new _ _
 have zA : A.heap.size = w.heap.size + 1 := by rw [← hA]; simp
 rw [hA, ← zA]
 have h := fx_start A ps rs ca cn cc x la lc va vc (hl.below hb) (hv.below hb)
 exact ⟨kp.below h.b, ⟨hb.trans (h.b.mono (by omega)), h.f, h.xk, h.li, h.vi⟩, (hf.below hb).below h.b⟩
set_option maxHeartbeats 4000000 in
set_option maxRecDepth 8000 in
theorem rform_1 (fa sa ra : Option Addr) (sn rn fc sc rc : Nat) (en : Int) (fp : List Int) (ps rs : Int) (ca : Option Addr) (cn cc : Nat) (a b c : Int) (l lv : List Int) (la : Option Addr) (lc : Nat) (va : Option Addr) (vc : Nat) (w : World) (hf : PsAt w fa fp) (hl : IntsAt .i64 w la l) (hv : IntsAt .i64 w va lv) :
  Calls Tryz.prog 84 #[.agg #[.slice fa fp.length fc, .slice sa sn sc, .slice ra rn rc, .int .i64 en], .agg #[.int .i64 ps, .int .i64 rs, .slice ca cn cc], .agg #[.int .i64 1, .int .i64 a, .int .i64 b, .int .i64 c, .slice la l.length lc, .slice va lv.length vc]] w fun e w' => e = .returned (.bool (formB sn rn fp cn rs 1 a b c l)) ∧ Below w.heap.size w w' := by
 have S := hid (fm_start w fa sa ra sn rn fc sc rc en fp ps rs ca cn cc ⟨1, a, b, c, l, lv⟩ la lc va vc hf hl hv)
 have CI := hid (fun n e W => within_any n e W)
 clear hf hl hv
 go_enter Tryz.func84, Tryz.ntmps84
 go_wp2_with fail
 go_quiet (first | (go_at_call 83; refine Calls.quiet_of_same (CI.out _ _ _)))
 obtain ⟨W, hW⟩ : ∃ W, (((w.alloc (.cells #[.slice fa fp.length fc, .slice sa sn sc, .slice ra rn rc, .int .i64 en] 26)).alloc (.cells #[.int .i64 ps, .int .i64 rs, .slice ca cn cc] 48)).alloc (.cells #[.int .i64 1, .int .i64 a, .int .i64 b, .int .i64 c, .slice la l.length lc, .slice va lv.length vc] 58)).drewN nq = W := ⟨_, rfl⟩
 have S1 := S.out.below (below_drewN (Below.refl _ _) nq)
 try dsimp only at S1
 rw [hW] at S1
 rw [hW]
 clear hW
 obtain ⟨f0, f1, f2, x0, x1, x2, x3, x4, x5⟩ := S1.fx.cells
 obtain ⟨p0, p1, p2⟩ := S1.pcells
 dsimp only at x0 x1 x2 x3 x4 x5
 have S := hid S1
 clear S1
 have HU := hid (show formB sn rn fp cn rs 1 a b c l = (insB a rs && rtB b && (c == 0) && ((l.length : Int) == 0)) from rfl)
 have CR := hid (fun n W => rright_any n W)
 have CG := hid (fun W h => rregs_any la l lc ps rs ca cn cc W h)
 go_wp2_with (first
  | (go_at_call 140; refine (CR.out _ _).mono ?_; rintro e w1 ⟨rfl, rfl⟩)
  | (go_at_call 83; refine (CI.out _ _ _).mono ?_; rintro e w1 ⟨rfl, rfl⟩)
  | (go_at_call 141; refine (CG.out _ S.out.fx.li).mono ?_; rintro e w1 ⟨rfl, hb⟩; have S := hid (S.out.below hb); clear hb f0 f1 f2 x0 x1 x2 x3 x4 x5 p0 p1 p2; obtain ⟨f0, f1, f2, x0, x1, x2, x3, x4, x5⟩ := S.out.fx.cells; obtain ⟨p0, p1, p2⟩ := S.out.pcells; dsimp only at x0 x1 x2 x3 x4 x5))
 all_goals (go_ret; exact ⟨ret_bool (by rw [HU.out]; simp [*]), S.out.fx.b⟩)
set_option maxHeartbeats 4000000 in
set_option maxRecDepth 8000 in
theorem rform_2 (fa sa ra : Option Addr) (sn rn fc sc rc : Nat) (en : Int) (fp : List Int) (ps rs : Int) (ca : Option Addr) (cn cc : Nat) (a b c : Int) (l lv : List Int) (la : Option Addr) (lc : Nat) (va : Option Addr) (vc : Nat) (w : World) (hf : PsAt w fa fp) (hl : IntsAt .i64 w la l) (hv : IntsAt .i64 w va lv) :
  Calls Tryz.prog 84 #[.agg #[.slice fa fp.length fc, .slice sa sn sc, .slice ra rn rc, .int .i64 en], .agg #[.int .i64 ps, .int .i64 rs, .slice ca cn cc], .agg #[.int .i64 2, .int .i64 a, .int .i64 b, .int .i64 c, .slice la l.length lc, .slice va lv.length vc]] w fun e w' => e = .returned (.bool (formB sn rn fp cn rs 2 a b c l)) ∧ Below w.heap.size w w' := by
 have S := hid (fm_start w fa sa ra sn rn fc sc rc en fp ps rs ca cn cc ⟨2, a, b, c, l, lv⟩ la lc va vc hf hl hv)
 have CI := hid (fun n e W => within_any n e W)
 clear hf hl hv
 go_enter Tryz.func84, Tryz.ntmps84
 go_wp2_with fail
 go_quiet (first | (go_at_call 83; refine Calls.quiet_of_same (CI.out _ _ _)))
 obtain ⟨W, hW⟩ : ∃ W, (((w.alloc (.cells #[.slice fa fp.length fc, .slice sa sn sc, .slice ra rn rc, .int .i64 en] 26)).alloc (.cells #[.int .i64 ps, .int .i64 rs, .slice ca cn cc] 48)).alloc (.cells #[.int .i64 2, .int .i64 a, .int .i64 b, .int .i64 c, .slice la l.length lc, .slice va lv.length vc] 58)).drewN nq = W := ⟨_, rfl⟩
 have S1 := S.out.below (below_drewN (Below.refl _ _) nq)
 try dsimp only at S1
 rw [hW] at S1
 rw [hW]
 clear hW
 obtain ⟨f0, f1, f2, x0, x1, x2, x3, x4, x5⟩ := S1.fx.cells
 obtain ⟨p0, p1, p2⟩ := S1.pcells
 dsimp only at x0 x1 x2 x3 x4 x5
 have S := hid S1
 clear S1
 have HU := hid (show formB sn rn fp cn rs 2 a b c l = (insB a rs && insB b sn && (c == 0) && ((l.length : Int) == 0)) from rfl)
 have CR := hid (fun n W => rright_any n W)
 have CG := hid (fun W h => rregs_any la l lc ps rs ca cn cc W h)
 go_wp2_with (first
  | (go_at_call 140; refine (CR.out _ _).mono ?_; rintro e w1 ⟨rfl, rfl⟩)
  | (go_at_call 83; refine (CI.out _ _ _).mono ?_; rintro e w1 ⟨rfl, rfl⟩)
  | (go_at_call 141; refine (CG.out _ S.out.fx.li).mono ?_; rintro e w1 ⟨rfl, hb⟩; have S := hid (S.out.below hb); clear hb f0 f1 f2 x0 x1 x2 x3 x4 x5 p0 p1 p2; obtain ⟨f0, f1, f2, x0, x1, x2, x3, x4, x5⟩ := S.out.fx.cells; obtain ⟨p0, p1, p2⟩ := S.out.pcells; dsimp only at x0 x1 x2 x3 x4 x5))
 all_goals (go_ret; exact ⟨ret_bool (by rw [HU.out]; simp [*]), S.out.fx.b⟩)
set_option maxHeartbeats 4000000 in
set_option maxRecDepth 8000 in
theorem rform_3 (fa sa ra : Option Addr) (sn rn fc sc rc : Nat) (en : Int) (fp : List Int) (ps rs : Int) (ca : Option Addr) (cn cc : Nat) (a b c : Int) (l lv : List Int) (la : Option Addr) (lc : Nat) (va : Option Addr) (vc : Nat) (w : World) (hf : PsAt w fa fp) (hl : IntsAt .i64 w la l) (hv : IntsAt .i64 w va lv) :
  Calls Tryz.prog 84 #[.agg #[.slice fa fp.length fc, .slice sa sn sc, .slice ra rn rc, .int .i64 en], .agg #[.int .i64 ps, .int .i64 rs, .slice ca cn cc], .agg #[.int .i64 3, .int .i64 a, .int .i64 b, .int .i64 c, .slice la l.length lc, .slice va lv.length vc]] w fun e w' => e = .returned (.bool (formB sn rn fp cn rs 3 a b c l)) ∧ Below w.heap.size w w' := by
 have S := hid (fm_start w fa sa ra sn rn fc sc rc en fp ps rs ca cn cc ⟨3, a, b, c, l, lv⟩ la lc va vc hf hl hv)
 have CI := hid (fun n e W => within_any n e W)
 clear hf hl hv
 go_enter Tryz.func84, Tryz.ntmps84
 go_wp2_with fail
 go_quiet (first | (go_at_call 83; refine Calls.quiet_of_same (CI.out _ _ _)))
 obtain ⟨W, hW⟩ : ∃ W, (((w.alloc (.cells #[.slice fa fp.length fc, .slice sa sn sc, .slice ra rn rc, .int .i64 en] 26)).alloc (.cells #[.int .i64 ps, .int .i64 rs, .slice ca cn cc] 48)).alloc (.cells #[.int .i64 3, .int .i64 a, .int .i64 b, .int .i64 c, .slice la l.length lc, .slice va lv.length vc] 58)).drewN nq = W := ⟨_, rfl⟩
 have S1 := S.out.below (below_drewN (Below.refl _ _) nq)
 try dsimp only at S1
 rw [hW] at S1
 rw [hW]
 clear hW
 obtain ⟨f0, f1, f2, x0, x1, x2, x3, x4, x5⟩ := S1.fx.cells
 obtain ⟨p0, p1, p2⟩ := S1.pcells
 dsimp only at x0 x1 x2 x3 x4 x5
 have S := hid S1
 clear S1
 have HU := hid (show formB sn rn fp cn rs 3 a b c l = (insB a rs && insB b rn && (c == 0) && ((l.length : Int) == 0)) from rfl)
 have CR := hid (fun n W => rright_any n W)
 have CG := hid (fun W h => rregs_any la l lc ps rs ca cn cc W h)
 go_wp2_with (first
  | (go_at_call 140; refine (CR.out _ _).mono ?_; rintro e w1 ⟨rfl, rfl⟩)
  | (go_at_call 83; refine (CI.out _ _ _).mono ?_; rintro e w1 ⟨rfl, rfl⟩)
  | (go_at_call 141; refine (CG.out _ S.out.fx.li).mono ?_; rintro e w1 ⟨rfl, hb⟩; have S := hid (S.out.below hb); clear hb f0 f1 f2 x0 x1 x2 x3 x4 x5 p0 p1 p2; obtain ⟨f0, f1, f2, x0, x1, x2, x3, x4, x5⟩ := S.out.fx.cells; obtain ⟨p0, p1, p2⟩ := S.out.pcells; dsimp only at x0 x1 x2 x3 x4 x5))
 all_goals (go_ret; exact ⟨ret_bool (by rw [HU.out]; simp [*]), S.out.fx.b⟩)
set_option maxHeartbeats 4000000 in
set_option maxRecDepth 8000 in
theorem rform_4 (fa sa ra : Option Addr) (sn rn fc sc rc : Nat) (en : Int) (fp : List Int) (ps rs : Int) (ca : Option Addr) (cn cc : Nat) (a b c : Int) (l lv : List Int) (la : Option Addr) (lc : Nat) (va : Option Addr) (vc : Nat) (w : World) (hf : PsAt w fa fp) (hl : IntsAt .i64 w la l) (hv : IntsAt .i64 w va lv) :
  Calls Tryz.prog 84 #[.agg #[.slice fa fp.length fc, .slice sa sn sc, .slice ra rn rc, .int .i64 en], .agg #[.int .i64 ps, .int .i64 rs, .slice ca cn cc], .agg #[.int .i64 4, .int .i64 a, .int .i64 b, .int .i64 c, .slice la l.length lc, .slice va lv.length vc]] w fun e w' => e = .returned (.bool (formB sn rn fp cn rs 4 a b c l)) ∧ Below w.heap.size w w' := by
 have S := hid (fm_start w fa sa ra sn rn fc sc rc en fp ps rs ca cn cc ⟨4, a, b, c, l, lv⟩ la lc va vc hf hl hv)
 have CI := hid (fun n e W => within_any n e W)
 clear hf hl hv
 go_enter Tryz.func84, Tryz.ntmps84
 go_wp2_with fail
 go_quiet (first | (go_at_call 83; refine Calls.quiet_of_same (CI.out _ _ _)))
 obtain ⟨W, hW⟩ : ∃ W, (((w.alloc (.cells #[.slice fa fp.length fc, .slice sa sn sc, .slice ra rn rc, .int .i64 en] 26)).alloc (.cells #[.int .i64 ps, .int .i64 rs, .slice ca cn cc] 48)).alloc (.cells #[.int .i64 4, .int .i64 a, .int .i64 b, .int .i64 c, .slice la l.length lc, .slice va lv.length vc] 58)).drewN nq = W := ⟨_, rfl⟩
 have S1 := S.out.below (below_drewN (Below.refl _ _) nq)
 try dsimp only at S1
 rw [hW] at S1
 rw [hW]
 clear hW
 obtain ⟨f0, f1, f2, x0, x1, x2, x3, x4, x5⟩ := S1.fx.cells
 obtain ⟨p0, p1, p2⟩ := S1.pcells
 dsimp only at x0 x1 x2 x3 x4 x5
 have S := hid S1
 clear S1
 have HU := hid (show formB sn rn fp cn rs 4 a b c l = (insB a rs && insB b rs && (c == 0) && ((l.length : Int) == 0)) from rfl)
 have CR := hid (fun n W => rright_any n W)
 have CG := hid (fun W h => rregs_any la l lc ps rs ca cn cc W h)
 go_wp2_with (first
  | (go_at_call 140; refine (CR.out _ _).mono ?_; rintro e w1 ⟨rfl, rfl⟩)
  | (go_at_call 83; refine (CI.out _ _ _).mono ?_; rintro e w1 ⟨rfl, rfl⟩)
  | (go_at_call 141; refine (CG.out _ S.out.fx.li).mono ?_; rintro e w1 ⟨rfl, hb⟩; have S := hid (S.out.below hb); clear hb f0 f1 f2 x0 x1 x2 x3 x4 x5 p0 p1 p2; obtain ⟨f0, f1, f2, x0, x1, x2, x3, x4, x5⟩ := S.out.fx.cells; obtain ⟨p0, p1, p2⟩ := S.out.pcells; dsimp only at x0 x1 x2 x3 x4 x5))
 all_goals (go_ret; exact ⟨ret_bool (by rw [HU.out]; simp [*]), S.out.fx.b⟩)
set_option maxHeartbeats 4000000 in
set_option maxRecDepth 8000 in
theorem rform_6 (fa sa ra : Option Addr) (sn rn fc sc rc : Nat) (en : Int) (fp : List Int) (ps rs : Int) (ca : Option Addr) (cn cc : Nat) (a b c : Int) (l lv : List Int) (la : Option Addr) (lc : Nat) (va : Option Addr) (vc : Nat) (w : World) (hf : PsAt w fa fp) (hl : IntsAt .i64 w la l) (hv : IntsAt .i64 w va lv) :
  Calls Tryz.prog 84 #[.agg #[.slice fa fp.length fc, .slice sa sn sc, .slice ra rn rc, .int .i64 en], .agg #[.int .i64 ps, .int .i64 rs, .slice ca cn cc], .agg #[.int .i64 6, .int .i64 a, .int .i64 b, .int .i64 c, .slice la l.length lc, .slice va lv.length vc]] w fun e w' => e = .returned (.bool (formB sn rn fp cn rs 6 a b c l)) ∧ Below w.heap.size w w' := by
 have S := hid (fm_start w fa sa ra sn rn fc sc rc en fp ps rs ca cn cc ⟨6, a, b, c, l, lv⟩ la lc va vc hf hl hv)
 have CI := hid (fun n e W => within_any n e W)
 clear hf hl hv
 go_enter Tryz.func84, Tryz.ntmps84
 go_wp2_with fail
 go_quiet (first | (go_at_call 83; refine Calls.quiet_of_same (CI.out _ _ _)))
 obtain ⟨W, hW⟩ : ∃ W, (((w.alloc (.cells #[.slice fa fp.length fc, .slice sa sn sc, .slice ra rn rc, .int .i64 en] 26)).alloc (.cells #[.int .i64 ps, .int .i64 rs, .slice ca cn cc] 48)).alloc (.cells #[.int .i64 6, .int .i64 a, .int .i64 b, .int .i64 c, .slice la l.length lc, .slice va lv.length vc] 58)).drewN nq = W := ⟨_, rfl⟩
 have S1 := S.out.below (below_drewN (Below.refl _ _) nq)
 try dsimp only at S1
 rw [hW] at S1
 rw [hW]
 clear hW
 obtain ⟨f0, f1, f2, x0, x1, x2, x3, x4, x5⟩ := S1.fx.cells
 obtain ⟨p0, p1, p2⟩ := S1.pcells
 dsimp only at x0 x1 x2 x3 x4 x5
 have S := hid S1
 clear S1
 have HU := hid (show formB sn rn fp cn rs 6 a b c l = (insB a rs && insB b rs && insB c 4194305 && ((l.length : Int) == 0)) from rfl)
 have CR := hid (fun n W => rright_any n W)
 have CG := hid (fun W h => rregs_any la l lc ps rs ca cn cc W h)
 go_wp2_with (first
  | (go_at_call 140; refine (CR.out _ _).mono ?_; rintro e w1 ⟨rfl, rfl⟩)
  | (go_at_call 83; refine (CI.out _ _ _).mono ?_; rintro e w1 ⟨rfl, rfl⟩)
  | (go_at_call 141; refine (CG.out _ S.out.fx.li).mono ?_; rintro e w1 ⟨rfl, hb⟩; have S := hid (S.out.below hb); clear hb f0 f1 f2 x0 x1 x2 x3 x4 x5 p0 p1 p2; obtain ⟨f0, f1, f2, x0, x1, x2, x3, x4, x5⟩ := S.out.fx.cells; obtain ⟨p0, p1, p2⟩ := S.out.pcells; dsimp only at x0 x1 x2 x3 x4 x5))
 all_goals (go_ret; exact ⟨ret_bool (by rw [HU.out]; simp [*]), S.out.fx.b⟩)
set_option maxHeartbeats 4000000 in
set_option maxRecDepth 8000 in
theorem rform_7 (fa sa ra : Option Addr) (sn rn fc sc rc : Nat) (en : Int) (fp : List Int) (ps rs : Int) (ca : Option Addr) (cn cc : Nat) (a b c : Int) (l lv : List Int) (la : Option Addr) (lc : Nat) (va : Option Addr) (vc : Nat) (w : World) (hf : PsAt w fa fp) (hl : IntsAt .i64 w la l) (hv : IntsAt .i64 w va lv) :
  Calls Tryz.prog 84 #[.agg #[.slice fa fp.length fc, .slice sa sn sc, .slice ra rn rc, .int .i64 en], .agg #[.int .i64 ps, .int .i64 rs, .slice ca cn cc], .agg #[.int .i64 7, .int .i64 a, .int .i64 b, .int .i64 c, .slice la l.length lc, .slice va lv.length vc]] w fun e w' => e = .returned (.bool (formB sn rn fp cn rs 7 a b c l)) ∧ Below w.heap.size w w' := by
 have S := hid (fm_start w fa sa ra sn rn fc sc rc en fp ps rs ca cn cc ⟨7, a, b, c, l, lv⟩ la lc va vc hf hl hv)
 have CI := hid (fun n e W => within_any n e W)
 clear hf hl hv
 go_enter Tryz.func84, Tryz.ntmps84
 go_wp2_with fail
 go_quiet (first | (go_at_call 83; refine Calls.quiet_of_same (CI.out _ _ _)))
 obtain ⟨W, hW⟩ : ∃ W, (((w.alloc (.cells #[.slice fa fp.length fc, .slice sa sn sc, .slice ra rn rc, .int .i64 en] 26)).alloc (.cells #[.int .i64 ps, .int .i64 rs, .slice ca cn cc] 48)).alloc (.cells #[.int .i64 7, .int .i64 a, .int .i64 b, .int .i64 c, .slice la l.length lc, .slice va lv.length vc] 58)).drewN nq = W := ⟨_, rfl⟩
 have S1 := S.out.below (below_drewN (Below.refl _ _) nq)
 try dsimp only at S1
 rw [hW] at S1
 rw [hW]
 clear hW
 obtain ⟨f0, f1, f2, x0, x1, x2, x3, x4, x5⟩ := S1.fx.cells
 obtain ⟨p0, p1, p2⟩ := S1.pcells
 dsimp only at x0 x1 x2 x3 x4 x5
 have S := hid S1
 clear S1
 have HU := hid (show formB sn rn fp cn rs 7 a b c l = (insB a rs && insB b rs && insB c 4194305 && ((l.length : Int) == 0)) from rfl)
 have CR := hid (fun n W => rright_any n W)
 have CG := hid (fun W h => rregs_any la l lc ps rs ca cn cc W h)
 go_wp2_with (first
  | (go_at_call 140; refine (CR.out _ _).mono ?_; rintro e w1 ⟨rfl, rfl⟩)
  | (go_at_call 83; refine (CI.out _ _ _).mono ?_; rintro e w1 ⟨rfl, rfl⟩)
  | (go_at_call 141; refine (CG.out _ S.out.fx.li).mono ?_; rintro e w1 ⟨rfl, hb⟩; have S := hid (S.out.below hb); clear hb f0 f1 f2 x0 x1 x2 x3 x4 x5 p0 p1 p2; obtain ⟨f0, f1, f2, x0, x1, x2, x3, x4, x5⟩ := S.out.fx.cells; obtain ⟨p0, p1, p2⟩ := S.out.pcells; dsimp only at x0 x1 x2 x3 x4 x5))
 all_goals (go_ret; exact ⟨ret_bool (by rw [HU.out]; simp [*]), S.out.fx.b⟩)
set_option maxHeartbeats 4000000 in
set_option maxRecDepth 8000 in
theorem rform_9 (fa sa ra : Option Addr) (sn rn fc sc rc : Nat) (en : Int) (fp : List Int) (ps rs : Int) (ca : Option Addr) (cn cc : Nat) (a b c : Int) (l lv : List Int) (la : Option Addr) (lc : Nat) (va : Option Addr) (vc : Nat) (w : World) (hf : PsAt w fa fp) (hl : IntsAt .i64 w la l) (hv : IntsAt .i64 w va lv) :
  Calls Tryz.prog 84 #[.agg #[.slice fa fp.length fc, .slice sa sn sc, .slice ra rn rc, .int .i64 en], .agg #[.int .i64 ps, .int .i64 rs, .slice ca cn cc], .agg #[.int .i64 9, .int .i64 a, .int .i64 b, .int .i64 c, .slice la l.length lc, .slice va lv.length vc]] w fun e w' => e = .returned (.bool (formB sn rn fp cn rs 9 a b c l)) ∧ Below w.heap.size w w' := by
 have S := hid (fm_start w fa sa ra sn rn fc sc rc en fp ps rs ca cn cc ⟨9, a, b, c, l, lv⟩ la lc va vc hf hl hv)
 have CI := hid (fun n e W => within_any n e W)
 clear hf hl hv
 go_enter Tryz.func84, Tryz.ntmps84
 go_wp2_with fail
 go_quiet (first | (go_at_call 83; refine Calls.quiet_of_same (CI.out _ _ _)))
 obtain ⟨W, hW⟩ : ∃ W, (((w.alloc (.cells #[.slice fa fp.length fc, .slice sa sn sc, .slice ra rn rc, .int .i64 en] 26)).alloc (.cells #[.int .i64 ps, .int .i64 rs, .slice ca cn cc] 48)).alloc (.cells #[.int .i64 9, .int .i64 a, .int .i64 b, .int .i64 c, .slice la l.length lc, .slice va lv.length vc] 58)).drewN nq = W := ⟨_, rfl⟩
 have S1 := S.out.below (below_drewN (Below.refl _ _) nq)
 try dsimp only at S1
 rw [hW] at S1
 rw [hW]
 clear hW
 obtain ⟨f0, f1, f2, x0, x1, x2, x3, x4, x5⟩ := S1.fx.cells
 obtain ⟨p0, p1, p2⟩ := S1.pcells
 dsimp only at x0 x1 x2 x3 x4 x5
 have S := hid S1
 clear S1
 have HU := hid (show formB sn rn fp cn rs 9 a b c l = ((a == 0) && (b == 0) && insB c cn && ((l.length : Int) == 0)) from rfl)
 have CR := hid (fun n W => rright_any n W)
 have CG := hid (fun W h => rregs_any la l lc ps rs ca cn cc W h)
 go_wp2_with (first
  | (go_at_call 140; refine (CR.out _ _).mono ?_; rintro e w1 ⟨rfl, rfl⟩)
  | (go_at_call 83; refine (CI.out _ _ _).mono ?_; rintro e w1 ⟨rfl, rfl⟩)
  | (go_at_call 141; refine (CG.out _ S.out.fx.li).mono ?_; rintro e w1 ⟨rfl, hb⟩; have S := hid (S.out.below hb); clear hb f0 f1 f2 x0 x1 x2 x3 x4 x5 p0 p1 p2; obtain ⟨f0, f1, f2, x0, x1, x2, x3, x4, x5⟩ := S.out.fx.cells; obtain ⟨p0, p1, p2⟩ := S.out.pcells; dsimp only at x0 x1 x2 x3 x4 x5))
 all_goals (go_ret; exact ⟨ret_bool (by rw [HU.out]; simp [*]), S.out.fx.b⟩)
set_option maxHeartbeats 4000000 in
set_option maxRecDepth 8000 in
theorem rform_11 (fa sa ra : Option Addr) (sn rn fc sc rc : Nat) (en : Int) (fp : List Int) (ps rs : Int) (ca : Option Addr) (cn cc : Nat) (a b c : Int) (l lv : List Int) (la : Option Addr) (lc : Nat) (va : Option Addr) (vc : Nat) (w : World) (hf : PsAt w fa fp) (hl : IntsAt .i64 w la l) (hv : IntsAt .i64 w va lv) :
  Calls Tryz.prog 84 #[.agg #[.slice fa fp.length fc, .slice sa sn sc, .slice ra rn rc, .int .i64 en], .agg #[.int .i64 ps, .int .i64 rs, .slice ca cn cc], .agg #[.int .i64 11, .int .i64 a, .int .i64 b, .int .i64 c, .slice la l.length lc, .slice va lv.length vc]] w fun e w' => e = .returned (.bool (formB sn rn fp cn rs 11 a b c l)) ∧ Below w.heap.size w w' := by
 have S := hid (fm_start w fa sa ra sn rn fc sc rc en fp ps rs ca cn cc ⟨11, a, b, c, l, lv⟩ la lc va vc hf hl hv)
 have CI := hid (fun n e W => within_any n e W)
 clear hf hl hv
 go_enter Tryz.func84, Tryz.ntmps84
 go_wp2_with fail
 go_quiet (first | (go_at_call 83; refine Calls.quiet_of_same (CI.out _ _ _)))
 obtain ⟨W, hW⟩ : ∃ W, (((w.alloc (.cells #[.slice fa fp.length fc, .slice sa sn sc, .slice ra rn rc, .int .i64 en] 26)).alloc (.cells #[.int .i64 ps, .int .i64 rs, .slice ca cn cc] 48)).alloc (.cells #[.int .i64 11, .int .i64 a, .int .i64 b, .int .i64 c, .slice la l.length lc, .slice va lv.length vc] 58)).drewN nq = W := ⟨_, rfl⟩
 have S1 := S.out.below (below_drewN (Below.refl _ _) nq)
 try dsimp only at S1
 rw [hW] at S1
 rw [hW]
 clear hW
 obtain ⟨f0, f1, f2, x0, x1, x2, x3, x4, x5⟩ := S1.fx.cells
 obtain ⟨p0, p1, p2⟩ := S1.pcells
 dsimp only at x0 x1 x2 x3 x4 x5
 have S := hid S1
 clear S1
 have HU := hid (show formB sn rn fp cn rs 11 a b c l = (insB a rs && (b == 0) && (c == 0) && regsB l rs) from rfl)
 have CR := hid (fun n W => rright_any n W)
 have CG := hid (fun W h => rregs_any la l lc ps rs ca cn cc W h)
 go_wp2_with (first
  | (go_at_call 140; refine (CR.out _ _).mono ?_; rintro e w1 ⟨rfl, rfl⟩)
  | (go_at_call 83; refine (CI.out _ _ _).mono ?_; rintro e w1 ⟨rfl, rfl⟩)
  | (go_at_call 141; refine (CG.out _ S.out.fx.li).mono ?_; rintro e w1 ⟨rfl, hb⟩; have S := hid (S.out.below hb); clear hb f0 f1 f2 x0 x1 x2 x3 x4 x5 p0 p1 p2; obtain ⟨f0, f1, f2, x0, x1, x2, x3, x4, x5⟩ := S.out.fx.cells; obtain ⟨p0, p1, p2⟩ := S.out.pcells; dsimp only at x0 x1 x2 x3 x4 x5))
 all_goals (go_ret; exact ⟨ret_bool (by rw [HU.out]; simp [*]), S.out.fx.b⟩)
set_option maxHeartbeats 4000000 in
set_option maxRecDepth 8000 in
theorem rform_13 (fa sa ra : Option Addr) (sn rn fc sc rc : Nat) (en : Int) (fp : List Int) (ps rs : Int) (ca : Option Addr) (cn cc : Nat) (a b c : Int) (l lv : List Int) (la : Option Addr) (lc : Nat) (va : Option Addr) (vc : Nat) (w : World) (hf : PsAt w fa fp) (hl : IntsAt .i64 w la l) (hv : IntsAt .i64 w va lv) :
  Calls Tryz.prog 84 #[.agg #[.slice fa fp.length fc, .slice sa sn sc, .slice ra rn rc, .int .i64 en], .agg #[.int .i64 ps, .int .i64 rs, .slice ca cn cc], .agg #[.int .i64 13, .int .i64 a, .int .i64 b, .int .i64 c, .slice la l.length lc, .slice va lv.length vc]] w fun e w' => e = .returned (.bool (formB sn rn fp cn rs 13 a b c l)) ∧ Below w.heap.size w w' := by
 have S := hid (fm_start w fa sa ra sn rn fc sc rc en fp ps rs ca cn cc ⟨13, a, b, c, l, lv⟩ la lc va vc hf hl hv)
 have CI := hid (fun n e W => within_any n e W)
 clear hf hl hv
 go_enter Tryz.func84, Tryz.ntmps84
 go_wp2_with fail
 go_quiet (first | (go_at_call 83; refine Calls.quiet_of_same (CI.out _ _ _)))
 obtain ⟨W, hW⟩ : ∃ W, (((w.alloc (.cells #[.slice fa fp.length fc, .slice sa sn sc, .slice ra rn rc, .int .i64 en] 26)).alloc (.cells #[.int .i64 ps, .int .i64 rs, .slice ca cn cc] 48)).alloc (.cells #[.int .i64 13, .int .i64 a, .int .i64 b, .int .i64 c, .slice la l.length lc, .slice va lv.length vc] 58)).drewN nq = W := ⟨_, rfl⟩
 have S1 := S.out.below (below_drewN (Below.refl _ _) nq)
 try dsimp only at S1
 rw [hW] at S1
 rw [hW]
 clear hW
 obtain ⟨f0, f1, f2, x0, x1, x2, x3, x4, x5⟩ := S1.fx.cells
 obtain ⟨p0, p1, p2⟩ := S1.pcells
 dsimp only at x0 x1 x2 x3 x4 x5
 have S := hid S1
 clear S1
 have HU := hid (show formB sn rn fp cn rs 13 a b c l = (insB a rs && ((b == 0) || (b == 1)) && (c == 0) && ((l.length : Int) == 0)) from rfl)
 have CR := hid (fun n W => rright_any n W)
 have CG := hid (fun W h => rregs_any la l lc ps rs ca cn cc W h)
 go_wp2_with (first
  | (go_at_call 140; refine (CR.out _ _).mono ?_; rintro e w1 ⟨rfl, rfl⟩)
  | (go_at_call 83; refine (CI.out _ _ _).mono ?_; rintro e w1 ⟨rfl, rfl⟩)
  | (go_at_call 141; refine (CG.out _ S.out.fx.li).mono ?_; rintro e w1 ⟨rfl, hb⟩; have S := hid (S.out.below hb); clear hb f0 f1 f2 x0 x1 x2 x3 x4 x5 p0 p1 p2; obtain ⟨f0, f1, f2, x0, x1, x2, x3, x4, x5⟩ := S.out.fx.cells; obtain ⟨p0, p1, p2⟩ := S.out.pcells; dsimp only at x0 x1 x2 x3 x4 x5))
 all_goals (go_ret; exact ⟨ret_bool (by rw [HU.out]; simp [*]), S.out.fx.b⟩)
end Go.Proofs.YtokjkligechcoaaGreatDoor
