/- Walks of layer 16: the world of a program, which primitives allocate with it. -/
import Derived.Test.YtokjkligechcoaaGreatDoorIm
set_option linter.unusedVariables false
namespace Go.Proofs.YtokjkligechcoaaGreatDoor
open _root_.Go.Lib (hid)
open Go.RowKit
attribute [local go_sem] ext_mk size_mk toList_mk get_mk take_drop_len take_tail_len ByteArray.mk_append_mk List.append_toArray
def allocL (k : Nat) : List Value := (List.range k).map fun (i : Nat) => Value.bool (allocB (i : Int))
theorem allocL_succ (k : Nat) : allocL k ++ [Value.bool (allocB k)] = allocL (k + 1) := by simp [allocL, List.range_succ]
theorem addr_plain (g j : Nat) : (⟨g, 0, none⟩ : Addr).add j = ⟨g, j, none⟩ := by
 unfold Addr.add
 by_cases h0 : j = 0
 ·subst h0; rfl
 ·rw [if_neg h0]; simp
/-- a program's world: its box, the primitives, which of them allocate -/
def WoAt (w : World) (b : Nat) (fa sa ra : Option Addr) (fn sn rn fc sc rc : Nat) (en : Int) : Prop :=
 ∃ g cap h c, WBlk w b (.slice fa fn fc) (.slice sa sn sc) (.slice ra rn rc) (.int .i64 en) (.slice (some ⟨g, 0, none⟩) 61 cap) (.slice (some ⟨h, 0, none⟩) 61 c) ∧ PrAt w g ∧ h < w.heap.size ∧ ∀ i, i < 61 → w.cell? ⟨h, i, none⟩ = some (.bool (allocB (i : Nat)))
theorem WoAt.below {w V : World} {b : Nat} {fa sa ra : Option Addr} {fn sn rn fc sc rc : Nat} {en : Int} (h : WoAt w b fa sa ra fn sn rn fc sc rc en) (hb : Below w.heap.size w V) : WoAt V b fa sa ra fn sn rn fc sc rc en := by
 obtain ⟨g, cap, k, c, h1, h2, h3, h4⟩ := h
 exact ⟨g, cap, k, c, h1.below hb, h2.below hb, Nat.lt_of_lt_of_le h3 hb.size, fun i hi => (hb.cell (p := ⟨k, i, none⟩) h3).trans (h4 i hi)⟩
set_option maxHeartbeats 4000000 in
set_option maxRecDepth 8000 in
theorem worldOf_full (fa sa ra : Option Addr) (fn sn rn fc sc rc : Nat) (en : Int) (w : World) :
  Calls Tryz.prog 27 #[.agg #[.slice fa fn fc, .slice sa sn sc, .slice ra rn rc, .int .i64 en]] w fun e w' =>
   ∃ b, e = .returned (.pointer (some ⟨b, 0, none⟩)) ∧ WoAt w' b fa sa ra fn sn rn fc sc rc en ∧ Below w.heap.size w w' := by
 have CP := hid (fun W => prims_at W)
 have CA := hid (fun n W => allocates_any n W)
 have hS0 : ∀ o, WS w (w.alloc o).drew := fun o => ⟨by simp, ((Below.refl _ _).alloc (Nat.le_refl _) _).drew⟩
 go_enter Tryz.func27, Tryz.ntmps27
 go_wp2_with fail
 go_region_held3 (fun w' => w'.cell? ⟨w.heap.size, 0, none⟩ = some (.slice fa fn fc) ∧ w'.cell? ⟨w.heap.size, 1, none⟩ = some (.slice sa sn sc) ∧ w'.cell? ⟨w.heap.size, 2, none⟩ = some (.slice ra rn rc) ∧ w'.cell? ⟨w.heap.size, 3, none⟩ = some (.int .i64 en) ∧ WS w w')
  (first
   | (go_keep; done)
   | (refine ⟨?_, ?_, ?_, ?_, hS0 _⟩ <;> (go_keep; done))
   | (go_split_ands; exact ⟨WS.cell (by assumption) (by assumption) hbx, WS.cell (by assumption) (by assumption) hbx, WS.cell (by assumption) (by assumption) hbx, WS.cell (by assumption) (by assumption) hbx, WS.keep (by assumption) hbx⟩)
   | (go_split_ands; exact ⟨WS.cell (by assumption) (by assumption) ((Below.refl _ _).alloc (Nat.le_refl _) _), WS.cell (by assumption) (by assumption) ((Below.refl _ _).alloc (Nat.le_refl _) _), WS.cell (by assumption) (by assumption) ((Below.refl _ _).alloc (Nat.le_refl _) _), WS.cell (by assumption) (by assumption) ((Below.refl _ _).alloc (Nat.le_refl _) _), WS.keep (by assumption) ((Below.refl _ _).alloc (Nat.le_refl _) _)⟩))
  (first | (go_at_call 35; (with_reducible refine (CP.out _).mono ?_); rintro e w1 ⟨g, cap, rfl, hcap, hP, hgw, hbx⟩))
 obtain ⟨b, hbe⟩ : ∃ b, w1.heap.size = b := ⟨_, rfl⟩
 obtain ⟨w2, hw2⟩ : ∃ W, w1.alloc (.cells #[.slice fa fn fc, .slice sa sn sc, .slice ra rn rc, .int .i64 en, .slice (some ⟨g, 0, none⟩) 61 cap, .slice none 0 0] 135) = W := ⟨_, rfl⟩
 have hW2 : WBlk w2 b (.slice fa fn fc) (.slice sa sn sc) (.slice ra rn rc) (.int .i64 en) (.slice (some ⟨g, 0, none⟩) 61 cap) (.slice none 0 0) := by subst hw2; subst hbe; exact heap_alloc_new _ _
 have hB2 : Below b w1 w2 := by subst hw2; subst hbe; exact (Below.refl _ _).alloc (Nat.le_refl _) _
 have hS2 : WS w w2 := by rw [← hw2]; go_split_ands; assumption
 have hgb : g < b := by rw [← hbe]; exact hP.1
 have hP2 : PrAt w2 g := hP.below (by subst hbe; exact hB2)
 have hb1 : w.heap.size ≤ b := by have := hS2.be.size; have h2 := hW2.lt; rw [← hw2] at this; have h3 : (w1.alloc (.cells #[.slice fa fn fc, .slice sa sn sc, .slice ra rn rc, .int .i64 en, .slice (some ⟨g, 0, none⟩) 61 cap, .slice none 0 0] 135)).heap.size = b + 1 := (by simp [hbe]); have h4 := hS2.lt; rw [← hw2, h3] at h4; omega
 rw [hbe, hw2]
 have hl2 := hW2.lt
 obtain ⟨⟨e0, e1, e2, e3, e4, e5⟩, f5⟩ := hW2.cells
 have HW2 := hid hW2
 clear hW2 hw2 hP hgw hS0 CP hcap
 go_wp2_with fail
 go_loopw [14] (fun vi wr => ∃ (k : Nat) (al : Value) (cs : List Value), vi = .int .i64 k ∧ k ≤ 61 ∧ WBlk wr b (.slice fa fn fc) (.slice sa sn sc) (.slice ra rn rc) (.int .i64 en) (.slice (some ⟨g, 0, none⟩) 61 cap) al ∧ wr.ownsRow (b + 1) 4 1 al k cs ∧ cs = allocL k ∧ Below b w2 wr) (fun vi _ => 61 - (intOf vi).toNat)
 case atStart => exact ⟨0, _, [], rfl, by decide, HW2.out, World.ownsRow_nil _ _ _ _, rfl, Below.refl _ _⟩
 case round =>
  obtain ⟨k, al, cs, rfl, hk, hWr, hown, hcs, hbr⟩ := hrel
  have hlr := hWr.lt
  obtain ⟨⟨r0, r1, r2, r3, r4, r5⟩, q5⟩ := hWr.cells
  by_cases hlt : k < 61
  ·have HWr := hid hWr
   have HOwn := hid hown
   clear hWr hown hP2 hS2 hB2 e0 e1 e2 e3 e4 e5 f5 hl2
   go_wp2_with fail
   go_region_law (first
    | (go_simp; go_at_call 14; refine (CA.out _ _).mono ?_; rintro e w3 ⟨rfl, hb3⟩; have hb3w : Below wr.heap.size wr w3 := ((Below.refl _ _).drew).trans hb3; have hW3 := HWr.out.below hb3w; have hown3 := row_below HOwn.out hb3w; have r53 := hW3.cells.1.2.2.2.2.2; have q53 := hW3.cells.2; have r5a : ∀ o, (w3.alloc o).cell? ⟨b, 5, none⟩ = some al := fun o => (hW3.below ((Below.refl _ _).alloc (Nat.le_refl _) o)).cells.1.2.2.2.2.2)
    | (refine step_bool hW3 hown3 hlt rfl _ _ rfl rfl rfl ?_; intro g' cap' V hWv r5v q5v hownV hBv))
   all_goals go_wp2_with fail
   all_goals go_roundw
   all_goals first
    | exact ⟨k + 1, _, _, by go_num, hlt, hWv.set5 _, ownsRow_setCell_below hownV (a := ⟨b, 5, none⟩) (Nat.lt_succ_self b) _, by rw [hcs]; exact allocL_succ k, ((hbr.trans (hb3w.mono (Nat.le_of_lt hlr))).trans hBv).setCell (p := ⟨b, 5, none⟩) (Nat.le_refl _) _⟩
    | (simp [intOf]; omega)
  ·obtain rfl : k = 61 := by omega
   go_wp2_with fail
   go_ret
   refine ⟨b, rfl, ?_, hS2.be.trans (hbr.mono hb1)⟩
   obtain ⟨h, c, rfl, h1, h2⟩ := hown.form (by decide)
   refine ⟨g, cap, h, c, hWr, hP2.belowB hgb hbr, h2, fun i hi => ?_⟩
   have := hown.cells (g := h) rfl i (.bool (allocB (i : Int))) (by rw [hcs]; simp [allocL, hi])
   rwa [addr_plain] at this
/-- what an instruction does next: it goes on, leaves, or jumps -/
def onI (op : Int) : Int := if op == 9 || op == 10 then 2 else if op == 11 || op == 12 || op == 13 then 1 else 0
/-- does an instruction set its register A? -/
def setsI (op : Int) : Bool := op == 1 || op == 2 || op == 3 || op == 4 || op == 5 || op == 6 || op == 8
theorem on_any (op a b c : Int) (la ra : Option Addr) (ln lc rn rc : Nat) (w : World) : Calls Tryz.prog 29 #[.agg #[.int .i64 op, .int .i64 a, .int .i64 b, .int .i64 c, .slice la ln lc, .slice ra rn rc]] w fun x w' => x = .returned (.int .i64 (onI op)) ∧ Below w.heap.size w w' := by
 go_enter Tryz.func29, Tryz.ntmps29
 go_wp2
 all_goals go_ret
 all_goals refine ⟨?_, (Below.refl _ _).alloc (Nat.le_refl _) _⟩
 all_goals (simp only [onI, *, Bool.true_or, Bool.or_true, Bool.or_false, if_true, if_false, Bool.false_eq_true]; rfl)
theorem sets_any (op a b c : Int) (la ra : Option Addr) (ln lc rn rc : Nat) (w : World) : Calls Tryz.prog 79 #[.agg #[.int .i64 op, .int .i64 a, .int .i64 b, .int .i64 c, .slice la ln lc, .slice ra rn rc]] w fun x w' => x = .returned (.bool (setsI op)) ∧ Below w.heap.size w w' := by
 go_enter Tryz.func79, Tryz.ntmps79
 go_wp2
 all_goals go_ret
 all_goals refine ⟨?_, (Below.refl _ _).alloc (Nat.le_refl _) _⟩
 all_goals (simp only [setsI, *, Bool.true_or, Bool.or_true, Bool.or_false]; first | done | rfl)
def insB (n e : Int) : Bool := decide (0 ≤ n) && decide (n < e)
theorem insB_true {n e : Int} (h : insB n e = true) : 0 ≤ n ∧ n < e := by simpa [insB] using h
theorem inside_any (n e : Int) (w : World) : Calls Tryz.prog 72 #[.int .i64 n, .int .i64 e] w fun x w' => x = .returned (.bool (insB n e)) ∧ w' = w := by
 cases k0 : decide (0 ≤ n)
 all_goals
  go_enter Tryz.func72, Tryz.ntmps72
  go_wp2
  go_ret
  exact ⟨by simp [insB, k0], rfl⟩
theorem within_any (n e : Int) (w : World) : Calls Tryz.prog 83 #[.int .i64 n, .int .i64 e] w fun x w' => x = .returned (.bool (insB n e)) ∧ w' = w := by
 cases k0 : decide (0 ≤ n)
 all_goals
  go_enter Tryz.func83, Tryz.ntmps83
  go_wp2
  go_ret
  exact ⟨by simp [insB, k0], rfl⟩
def keepsI (op b : Int) : Bool := op == 2 || op == 3 || op == 5 || (op == 8 && allocB b)
theorem allocB_out {b : Int} (h : insB b 61 = false) : allocB b = false := by
 unfold allocB
 rw [if_neg]
 intro q
 simp [insB] at h
 omega
theorem inside_eq {n e : Int} {v : Bool} (h : insB n e = v) (w : World) : Calls Tryz.prog 72 #[.int .i64 n, .int .i64 e] w fun x w' => x = .returned (.bool v) ∧ w' = w := by
 have := inside_any n e w
 rwa [h] at this
theorem within_eq {n e : Int} {v : Bool} (h : insB n e = v) (w : World) : Calls Tryz.prog 83 #[.int .i64 n, .int .i64 e] w fun x w' => x = .returned (.bool v) ∧ w' = w := by
 have := within_any n e w
 rwa [h] at this
theorem op_2358 (op : Int) : op = 2 ∨ op = 3 ∨ op = 5 ∨ op = 8 ∨ ((op == 2) = false ∧ (op == 3) = false ∧ (op == 5) = false ∧ (op == 8) = false) := by
 simp only [beq_eq_false_iff_ne, ne_eq]; omega
set_option maxHeartbeats 4000000 in
set_option maxRecDepth 8000 in
theorem keeps_any (p : Nat) (fa sa ra : Option Addr) (fn sn rn fc sc rc : Nat) (en : Int) (op a b c : Int) (la va : Option Addr) (ln lc vn vc : Nat) (w : World) (hW : WoAt w p fa sa ra fn sn rn fc sc rc en) :
  Calls Tryz.prog 77 #[.pointer (some ⟨p, 0, none⟩), .agg #[.int .i64 op, .int .i64 a, .int .i64 b, .int .i64 c, .slice la ln lc, .slice va vn vc]] w fun x w' => x = .returned (.bool (keepsI op b)) ∧ Below w.heap.size w w' := by
 rcases op_2358 op with rfl | rfl | rfl | rfl | ⟨k2, k3, k5, k8⟩
 ·go_enter Tryz.func77, Tryz.ntmps77
  go_wp2
  go_ret
  exact ⟨rfl, (Below.refl _ _).alloc (Nat.le_refl _) _⟩
 ·go_enter Tryz.func77, Tryz.ntmps77
  go_wp2
  go_ret
  exact ⟨rfl, (Below.refl _ _).alloc (Nat.le_refl _) _⟩
 ·go_enter Tryz.func77, Tryz.ntmps77
  go_wp2
  go_ret
  exact ⟨rfl, (Below.refl _ _).alloc (Nat.le_refl _) _⟩
 ·obtain ⟨g, cap, h, ac, hB, hP, hh, hal⟩ := hW
  have e1 : ∀ o, (w.alloc o).cell? ⟨p, 4, none⟩ = some (.slice (some ⟨g, 0, none⟩) 61 cap) := fun o => (hB.below ((Below.refl _ _).alloc (Nat.le_refl _) o)).cells.1.2.2.2.2.1
  have e2 : ∀ o, (w.alloc o).cell? ⟨p, 5, none⟩ = some (.slice (some ⟨h, 0, none⟩) 61 ac) := fun o => (hB.below ((Below.refl _ _).alloc (Nat.le_refl _) o)).cells.1.2.2.2.2.2
  cases hi : insB b 61
  ·have hk := allocB_out hi
   have CI := hid (fun W => inside_eq hi W)
   clear hal hP
   go_enter Tryz.func77, Tryz.ntmps77
   go_wp2_with fail
   go_quiet (first | (go_at_call 72; refine Calls.quiet_of_same (CI.out _)))
   go_wp2_with fail
   go_ret
   exact ⟨by simp [keepsI, hk], below_drewN ((Below.refl _ _).alloc (Nat.le_refl _) _) _⟩
  ·obtain ⟨h0, h1⟩ := insB_true hi
   obtain ⟨n, rfl⟩ := Int.eq_ofNat_of_zero_le h0
   have hc : ∀ o, (w.alloc o).cell? ⟨h, n, none⟩ = some (.bool (allocB (n : Int))) := fun o => (((Below.refl w.heap.size w).alloc (Nat.le_refl _) o).cell (p := ⟨h, n, none⟩) hh).trans (hal n (by omega))
   have k1 : decide ((n : Int) < 61) = true := decide_eq_true h1
   have CI := hid (fun W => inside_eq hi W)
   clear hal hP
   go_enter Tryz.func77, Tryz.ntmps77
   go_wp2_with fail
   go_quiet (first | (go_at_call 72; refine Calls.quiet_of_same (CI.out _)))
   go_wp2_with fail
   go_ret
   exact ⟨by simp [keepsI], below_drewN ((Below.refl _ _).alloc (Nat.le_refl _) _) _⟩
 ·go_enter Tryz.func77, Tryz.ntmps77
  go_wp2
  go_ret
  exact ⟨by simp [keepsI, k2, k3, k5, k8], (Below.refl _ _).alloc (Nat.le_refl _) _⟩
theorem IntsAt.below {k : IntKind} {w w' : World} {a : Option Addr} {l : List Int} (h : IntsAt k w a l) (hb : Below w.heap.size w w') : IntsAt k w' a l := by
 obtain ⟨hm, h | ⟨b, off, ha, hc⟩⟩ := h
 ·exact ⟨hm, .inl h⟩
 ·exact ⟨hm, .inr ⟨b, off, ha, fun i hi => (hb.cell (p := ⟨b, off + i, none⟩) (World.block_lt_of_cell? w _ (hc i hi))).trans (hc i hi)⟩⟩
theorem ints_cell {k : IntKind} {w : World} {a : Option Addr} {l : List Int} (h : IntsAt k w a l) {i : Nat} (hi : i < l.length) : ∃ b off, a = some ⟨b, off, none⟩ ∧ w.cell? ⟨b, off + i, none⟩ = some (.int k (l.getD i 0)) := by
 rcases h.2 with h | ⟨b, off, ha, hc⟩
 ·rw [h] at hi; simp at hi
 ·exact ⟨b, off, ha, hc i hi⟩
def regsB (l : List Int) (n : Int) : Bool := decide (l.length ≤ 1024) && l.all (fun v => insB v n)
theorem all_take_succ {f : Int → Bool} {l : List Int} {k : Nat} (hk : k < l.length) : (l.take (k + 1)).all f = ((l.take k).all f && f (l.getD k 0)) := by
 rw [List.take_succ_eq_append_getElem hk, List.all_append]
 simp [List.getD, hk]
theorem not_all {f : Int → Bool} {l : List Int} {k : Nat} (hk : k < l.length) (h : f (l.getD k 0) = false) : l.all f = false := by
 rw [List.all_eq_false]
 refine ⟨l[k], List.getElem_mem hk, ?_⟩
 simpa [List.getD, hk] using h
theorem regs1_any (v n : Int) (q : Nat) (w : World) (hq : w.cell? ⟨q, 1, none⟩ = some (.int .i64 n)) :
  Calls Tryz.prog 180 #[.int .i64 v, .pointer (some ⟨q, 0, none⟩)] w fun x w' => x = .returned (.bool !(insB v n)) ∧ w' = w := by
 have CI := hid (fun W => inside_any v n W)
 go_enter Tryz.func180, Tryz.ntmps180
 go_wp2_with (first | (go_at_call 72; refine (CI.out _).mono ?_; rintro e w1 ⟨rfl, rfl⟩))
 go_ret
 exact ⟨rfl, rfl⟩
set_option maxHeartbeats 2000000 in
theorem idxregs_any (a : Option Addr) (l : List Int) (cap : Nat) (n : Int) (q : Nat) (w : World) (h : IntsAt .i64 w a l) (hq : w.cell? ⟨q, 1, none⟩ = some (.int .i64 n)) :
  Calls Tryz.prog 206 #[.slice a l.length cap, .func (.func 180) #[] #[.pointer (some ⟨q, 0, none⟩)]] w fun x w' => (∃ r : Int, x = .returned (.int .i64 r) ∧ decide (0 ≤ r) = !(l.all fun v => insB v n)) ∧ w' = w := by
 have hm := h.1
 have hm2 : (l.length : Int) ≤ 9223372036854775807 := by unfold maxLen at hm; omega
 have HA := hid h
 clear h
 go_enter Tryz.func206, Tryz.ntmps206
 go_wp2_with fail
 go_loopw [8] (fun vi wr => ∃ k : Nat, vi = .int .i64 k ∧ k ≤ l.length ∧ (l.take k).all (fun v => insB v n) = true ∧ wr = w) (fun vi _ => l.length - (intOf vi).toNat)
 case atStart => exact ⟨0, rfl, Nat.zero_le _, by simp, rfl⟩
 case round =>
  obtain ⟨k, rfl, hk, hall, rfl⟩ := hrel
  by_cases hlt : k < l.length
  ·obtain ⟨b, off, ha, hc⟩ := ints_cell HA.out hlt
   obtain ⟨v, hv⟩ : ∃ v, l.getD k 0 = v := ⟨_, rfl⟩
   rw [hv] at hc
   subst ha
   have HL := hid hall
   have HV := hid hv
   clear hall hv
   cases hi : insB v n
   ·have CR := hid (fun W hq => regs1_any v n q W hq)
    go_wp2_with (first | (go_at_call 180; refine (CR.out _ hq).mono ?_; rw [hi]; rintro e w1 ⟨rfl, rfl⟩))
    go_ret
    exact ⟨⟨_, rfl, by rw [not_all hlt (by rw [HV.out]; exact hi)]; simp⟩, by trivial⟩
   ·have CR := hid (fun W hq => regs1_any v n q W hq)
    go_wp2_with (first | (go_at_call 180; refine (CR.out _ hq).mono ?_; rw [hi]; rintro e w1 ⟨rfl, rfl⟩))
    go_roundw
    case rel => exact ⟨k + 1, by go_num, hlt, by rw [all_take_succ hlt, HL.out, HV.out, hi]; rfl, by trivial⟩
    case measure => simp [intOf]; omega
  ·obtain rfl : k = l.length := by omega
   go_wp2_with fail
   go_ret
   exact ⟨⟨_, rfl, by rw [List.take_length] at hall; rw [hall]; rfl⟩, by trivial⟩
theorem conregs_any (a : Option Addr) (l : List Int) (cap : Nat) (n : Int) (q : Nat) (w : World) (h : IntsAt .i64 w a l) (hq : w.cell? ⟨q, 1, none⟩ = some (.int .i64 n)) :
  Calls Tryz.prog 179 #[.slice a l.length cap, .func (.func 180) #[] #[.pointer (some ⟨q, 0, none⟩)]] w fun x w' => x = .returned (.bool !(l.all fun v => insB v n)) ∧ w' = w := by
 have C := hid (idxregs_any a l cap n q w h hq)
 clear h hq
 go_enter Tryz.func179, Tryz.ntmps179
 go_wp2_with (first | (go_at_call 206; refine C.out.mono ?_; rintro e w1 ⟨⟨r, rfl, hr⟩, rfl⟩))
 go_ret
 exact ⟨rfl, rfl⟩
theorem KAt.fcell1 {W : World} {m : Nat} {ps n : Int} {v : Value} (h : KAt W m (.cells #[.int .i64 ps, .int .i64 n, v] 48 (0, 0))) : W.cell? ⟨m, 1, none⟩ = some (.int .i64 n) := by rw [cell_of_row _ _ _ _ _ _ h.x]; rfl
theorem regs_any (a : Option Addr) (l : List Int) (cap : Nat) (ps n : Int) (ca : Option Addr) (cn cc : Nat) (w : World) (h : IntsAt .i64 w a l) :
  Calls Tryz.prog 137 #[.slice a l.length cap, .agg #[.int .i64 ps, .int .i64 n, .slice ca cn cc]] w fun x w' => x = .returned (.bool (regsB l n)) ∧ Below w.heap.size w w' := by
 have hmf : ∀ (fn : Fn) (first cap : Array Value) (w : World), (Instr.makeFunc fn first cap).run Tryz.prog w = .ok (.func fn first cap) w := fun _ _ _ _ => rfl
 have CC := hid (fun W q h hq => conregs_any a l cap n q W h hq)
 have hA : ∀ o, Below w.heap.size w (w.alloc o) := fun o => (Below.refl _ _).alloc (Nat.le_refl _) _
 have HA := hid hA
 have H := hid h
 have hm := h.1
 have hm2 : (l.length : Int) ≤ 9223372036854775807 := by unfold maxLen at hm; omega
 clear hA h hm
 by_cases hl : l.length ≤ 1024
 ·have k1 : decide ((l.length : Int) ≤ 1024) = true := decide_eq_true (by omega)
  go_enter Tryz.func137, Tryz.ntmps137
  go_wp2_with (first | (go_at_call 179; refine (CC.out _ _ (H.out.below (HA.out _)) (KAt.fcell1 (KAt.new _ _))).mono ?_; rintro e w1 ⟨rfl, rfl⟩))
  go_ret
  exact ⟨by simp [regsB, hl], HA.out _⟩
 ·have k1 : decide ((l.length : Int) ≤ 1024) = false := decide_eq_false (by omega)
  go_enter Tryz.func137, Tryz.ntmps137
  go_wp2_with fail
  go_ret
  exact ⟨by simp [regsB, hl], HA.out _⟩
set_option maxHeartbeats 2000000 in
theorem rregs_any (a : Option Addr) (l : List Int) (cap : Nat) (ps n : Int) (ca : Option Addr) (cn cc : Nat) (w : World) (h : IntsAt .i64 w a l) :
  Calls Tryz.prog 141 #[.slice a l.length cap, .agg #[.int .i64 ps, .int .i64 n, .slice ca cn cc]] w fun x w' => x = .returned (.bool (regsB l n)) ∧ Below w.heap.size w w' := by
 have hA : ∀ o, Below w.heap.size w (w.alloc o) := fun o => (Below.refl _ _).alloc (Nat.le_refl _) _
 have HA := hid (h.below (hA (.cells #[.int .i64 ps, .int .i64 n, .slice ca cn cc] 48)))
 have hB := hA (.cells #[.int .i64 ps, .int .i64 n, .slice ca cn cc] 48)
 have K := KAt.new w (.cells #[.int .i64 ps, .int .i64 n, .slice ca cn cc] 48 (0, 0))
 have hq : (w.alloc (.cells #[.int .i64 ps, .int .i64 n, .slice ca cn cc] 48)).cell? ⟨w.heap.size, 1, none⟩ = some (.int .i64 n) := by rw [cell_of_row _ _ _ _ _ _ K.x]; rfl
 have hm := h.1
 have hm2 : (l.length : Int) ≤ 9223372036854775807 := by unfold maxLen at hm; omega
 obtain ⟨W, hW⟩ : ∃ W, w.alloc (.cells #[.int .i64 ps, .int .i64 n, .slice ca cn cc] 48) = W := ⟨_, rfl⟩
 rw [hW] at HA hB hq
 have HB := hid hB
 clear hA h K hB
 go_enter Tryz.func141, Tryz.ntmps141
 go_wp2_with fail
 go_loopw [5] (fun vi wr => ∃ k : Nat, vi = .int .i64 k ∧ k ≤ l.length ∧ (l.take k).all (fun v => insB v n) = true ∧ IntsAt .i64 wr a l ∧ wr.cell? ⟨w.heap.size, 1, none⟩ = some (.int .i64 n) ∧ Below w.heap.size w wr) (fun vi _ => l.length - (intOf vi).toNat)
 case atStart => exact ⟨0, rfl, Nat.zero_le _, by simp, HA.out, hq, HB.out⟩
 case round =>
  obtain ⟨k, rfl, hk, hall, hI, hqr, hbr⟩ := hrel
  have HI := hid hI
  have HBR := hid hbr
  clear hq hbr hW HA HB
  by_cases hlt : k < l.length
  ·obtain ⟨b, off, ha, hc⟩ := ints_cell hI hlt
   obtain ⟨v, hv⟩ : ∃ v, l.getD k 0 = v := ⟨_, rfl⟩
   rw [hv] at hc
   subst ha
   have HL := hid hall
   have HV := hid hv
   clear hall hv hI
   cases hi : insB v n
   ·have CI := hid (fun W => within_eq hi W)
    go_wp2_with fail
    go_quiet (first | (go_at_call 83; refine Calls.quiet_of_same (CI.out _)))
    go_wp2_with fail
    go_ret
    exact ⟨by simp [regsB, not_all hlt (f := fun v => insB v n) (by rw [HV.out]; exact hi)], below_drewN HBR.out _⟩
   ·have CI := hid (fun W => within_eq hi W)
    go_wp2_with fail
    go_quiet (first | (go_at_call 83; refine Calls.quiet_of_same (CI.out _)))
    go_wp2_with fail
    go_roundw
    case rel => exact ⟨k + 1, by go_num, hlt, by rw [all_take_succ hlt, HL.out, HV.out, hi]; rfl, HI.out.below (below_drewN (Below.refl _ _) _), by simpa using hqr, below_drewN HBR.out _⟩
    case measure => simp [intOf]; omega
  ·obtain rfl : k = l.length := by omega
   rw [List.take_length] at hall
   have HL := hid hall
   clear hall hI
   go_wp2_with fail
   go_ret
   exact ⟨ret_bool (by rw [regsB, HL.out, Bool.and_true]; exact decide_eq_decide.2 (by omega)), HBR.out⟩
open Fx
def okC (l : List Int) (n : Int) (j : Nat) : Bool := rtB (l.getD (2 * j) 0) && (j == 0 || decide (l.getD (2 * j - 2) 0 < l.getD (2 * j) 0)) && insB (l.getD (2 * j + 1) 0) n
def casesB (l : List Int) (n : Int) : Bool := decide (l.length % 2 = 0) && decide (l.length ≤ 2048) && (List.range (l.length / 2)).all (okC l n)
theorem casesB_bad {l : List Int} {n : Int} {j : Nat} (hj : 2 * j < l.length) (he : l.length % 2 = 0) (h : okC l n j = false) : casesB l n = false := by
 have : (List.range (l.length / 2)).all (okC l n) = false := by
  rw [List.all_eq_false]
  exact ⟨j, by simp; omega, by simp [h]⟩
 simp [casesB, this]
theorem casesB_good {l : List Int} {n : Int} {j : Nat} (hj : l.length ≤ 2 * j) (he : l.length % 2 = 0) (hl : l.length ≤ 2048) (h : (List.range j).all (okC l n) = true) : casesB l n = true := by
 have : (List.range (l.length / 2)).all (okC l n) = true := by
  rw [List.all_eq_true] at h ⊢
  intro x hx
  simp at hx
  exact h x (by simp; omega)
 simp [casesB, this, he, hl]
theorem right_eq {n : Int} {v : Bool} (h : rtB n = v) (w : World) : Calls Tryz.prog 138 #[.int .i64 n] w fun x w' => x = .returned (.bool v) ∧ w' = w := by
 have := right_any n w
 rw [h] at this
 refine this.mono ?_
 rintro e w' ⟨rfl, rfl⟩
 exact ⟨rfl, rfl⟩
theorem rright_eq {n : Int} {v : Bool} (h : rtB n = v) (w : World) : Calls Tryz.prog 140 #[.int .i64 n] w fun x w' => x = .returned (.bool v) ∧ w' = w := by
 have := rright_any n w
 rw [h] at this
 refine this.mono ?_
 rintro e w' ⟨rfl, rfl⟩
 exact ⟨rfl, rfl⟩
/-- what the loop over a switch's list keeps -/
structure CsAt (w W : World) (a : Option Addr) (l : List Int) (cn : Nat) : Prop where
 i : IntsAt .i64 W a l
 c : ∃ ca cc, W.cell? ⟨w.heap.size, 2, none⟩ = some (.slice ca cn cc)
 b : Below w.heap.size w W
theorem CsAt.drewN {w W : World} {a : Option Addr} {l : List Int} {cn : Nat} (h : CsAt w W a l cn) (d : Nat) : CsAt w (W.drewN d) a l cn := by
 obtain ⟨ca, cc, hc⟩ := h.c
 exact ⟨h.i.below (below_drewN (Below.refl _ _) _), ⟨ca, cc, by simpa using hc⟩, below_drewN h.b _⟩
set_option maxHeartbeats 4000000 in
set_option maxRecDepth 8000 in
theorem cases_any (a : Option Addr) (l : List Int) (cap : Nat) (ps n : Int) (ca : Option Addr) (cn cc : Nat) (w : World) (h : IntsAt .i64 w a l) (hcn : cn ≤ 1000000000) :
  Calls Tryz.prog 181 #[.slice a l.length cap, .agg #[.int .i64 ps, .int .i64 n, .slice ca cn cc]] w fun x w' => x = .returned (.bool (casesB l cn)) ∧ Below w.heap.size w w' := by
 have hA : Below w.heap.size w (w.alloc (.cells #[.int .i64 ps, .int .i64 n, .slice ca cn cc] 48)) := (Below.refl _ _).alloc (Nat.le_refl _) _
 have K := KAt.new w (.cells #[.int .i64 ps, .int .i64 n, .slice ca cn cc] 48 (0, 0))
 have hq : (w.alloc (.cells #[.int .i64 ps, .int .i64 n, .slice ca cn cc] 48)).cell? ⟨w.heap.size, 2, none⟩ = some (.slice ca cn cc) := by rw [cell_of_row _ _ _ _ _ _ K.x]; rfl
 have HA := hid hA
 have H0 := hid (CsAt.mk (w := w) (cn := cn) (h.below hA) ⟨ca, cc, hq⟩ hA)
 have hm := h.1
 have hm2 : (l.length : Int) ≤ 9223372036854775807 := by unfold maxLen at hm; omega
 clear hA K hq h hm
 by_cases he : l.length % 2 = 0
 rotate_left
 ·have k1 : ((l.length : Int) % 2 == 1) = true := by
   have : (l.length : Int) % 2 = 1 := by omega
   simp [this]
  go_enter Tryz.func181, Tryz.ntmps181
  go_wp2_with fail
  go_ret
  exact ⟨by simp [casesB, he], HA.out⟩
 have k1 : ((l.length : Int) % 2 == 1) = false := by
  have : (l.length : Int) % 2 = 0 := by omega
  simp [this]
 by_cases hl : l.length ≤ 2048
 rotate_left
 ·have k2 : decide (2048 < (l.length : Int)) = true := decide_eq_true (by omega)
  go_enter Tryz.func181, Tryz.ntmps181
  go_wp2_with fail
  go_ret
  exact ⟨by simp [casesB, hl], HA.out⟩
 have k2 : decide (2048 < (l.length : Int)) = false := decide_eq_false (by omega)
 go_enter Tryz.func181, Tryz.ntmps181
 go_wp2_with fail
 have HE := hid he
 clear k1 k2
 go_loopw [5] (fun vi wr => ∃ j : Nat, vi = .int .i64 (2 * j : Nat) ∧ 2 * j ≤ l.length ∧ (List.range j).all (okC l cn) = true ∧ CsAt w wr a l cn) (fun vi _ => l.length - (intOf vi).toNat)
 case atStart => exact ⟨0, rfl, Nat.zero_le _, rfl, H0.out⟩
 case round =>
  obtain ⟨j, rfl, hj, hall, hC⟩ := hrel
  have H := hid hC
  have HL := hid hall
  obtain ⟨ca2, cc2, hq⟩ := hC.c
  clear hC hall
  by_cases hlt : 2 * j < l.length
  ·obtain ⟨i, hi⟩ : ∃ i, 2 * j = i := ⟨_, rfl⟩
   rw [hi] at hlt
   rw [hi]
   have hlt1 : i + 1 < l.length := by omega
   obtain ⟨b, off, ha, c0⟩ := ints_cell H.out.i hlt
   obtain ⟨b', off', ha', c1⟩ := ints_cell H.out.i hlt1
   rw [ha] at ha'
   injection ha' with ha'
   injection ha' with q1 q2 _
   subst q1; subst q2; subst ha
   obtain ⟨v, hv⟩ : ∃ v, l.getD i 0 = v := ⟨_, rfl⟩
   obtain ⟨t, ht⟩ : ∃ t, l.getD (i + 1) 0 = t := ⟨_, rfl⟩
   rw [hv] at c0
   rw [ht] at c1
   have m1 : IntKind.i64.wrap ((i : Int) + 1) = (i : Int) + 1 := IntWalk.i64_in _ (by omega)
   have m2 : ((i : Int) + 1).toNat = i + 1 := by omega
   have m3 : decide ((i : Int) + 1 < (l.length : Int)) = true := decide_eq_true (by omega)
   have HI := hid hi
   have HV := hid hv
   have HT := hid ht
   clear hi hv ht
   cases hr : rtB v
   ·have CR := hid (fun W => right_eq hr W)
    have CI := CR
    go_wp2_with fail
    go_quiet (first | (go_at_call 138; refine Calls.quiet_of_same (CR.out _)) | (go_at_call 138; refine Calls.quiet_of_same (CI.out _)))
    go_wp2_with fail
    go_ret
    exact ⟨ret_bool (casesB_bad (j := j) (by have := HI.out; omega) HE.out (by unfold okC; rw [HI.out, HV.out, hr]; rfl)).symm, below_drewN H.out.b _⟩
   ·have CR := hid (fun W => right_eq hr W)
    cases ht2 : insB t cn
    ·have CI := hid (fun W => inside_eq ht2 W)
     by_cases hj0 : j = 0
     ·have kj : decide (0 < i) = false := decide_eq_false (by have := HI.out; omega)
      go_wp2_with fail
      go_quiet (first | (go_at_call 138; refine Calls.quiet_of_same (CR.out _)) | (go_at_call 72; refine Calls.quiet_of_same (CI.out _)))
      go_wp2_with fail
      go_ret
      exact ⟨ret_bool (casesB_bad (j := j) (by have := HI.out; omega) HE.out (by unfold okC; rw [HI.out, HV.out, HT.out, hr, ht2]; simp)).symm, below_drewN H.out.b _⟩
     ·have kj : decide (0 < i) = true := decide_eq_true (by have := HI.out; omega)
      obtain ⟨u, hu⟩ : ∃ u, l.getD (i - 2) 0 = u := ⟨_, rfl⟩
      obtain ⟨b', off', ha', c2⟩ := ints_cell H.out.i (i := i - 2) (by omega)
      injection ha' with ha'
      injection ha' with q1 q2 _
      subst q1; subst q2
      rw [hu] at c2
      have m4 : IntKind.i64.wrap ((i : Int) - 2) = (i : Int) - 2 := IntWalk.i64_in _ (by omega)
      have m5 : ((i : Int) - 2).toNat = i - 2 := by omega
      have m6 : decide ((i : Int) - 2 < (l.length : Int)) = true := decide_eq_true (by omega)
      have m7 : (2 : Int) ≤ (i : Int) := by have := HI.out; omega
      have m8 : 2 ≤ i := by have := HI.out; omega
      have m9 : (i : Int) - 2 < (l.length : Int) := by omega
      have m10 : (0 : Int) ≤ (i : Int) - 2 := by omega
      have HU := hid hu
      clear hu
      cases hc : decide (v ≤ u)
      ·
       go_wp2_with fail
       go_quiet (first | (go_at_call 138; refine Calls.quiet_of_same (CR.out _)) | (go_at_call 72; refine Calls.quiet_of_same (CI.out _)))
       go_wp2_with fail
       go_ret
       exact ⟨ret_bool (casesB_bad (j := j) (by have := HI.out; omega) HE.out (by unfold okC; rw [HI.out, HV.out, HT.out, HU.out, hr, ht2]; simp)).symm, below_drewN H.out.b _⟩
      ·
       go_wp2_with fail
       go_quiet (first | (go_at_call 138; refine Calls.quiet_of_same (CR.out _)) | (go_at_call 72; refine Calls.quiet_of_same (CI.out _)))
       go_wp2_with fail
       go_ret
       exact ⟨ret_bool (casesB_bad (j := j) (by have := HI.out; omega) HE.out (by unfold okC; rw [HI.out, HV.out, HT.out, HU.out, hr, ht2]; simp)).symm, below_drewN H.out.b _⟩
    ·have CI := hid (fun W => inside_eq ht2 W)
     have m11 : IntKind.i64.wrap ((i : Int) + 2) = (i : Int) + 2 := IntWalk.i64_in _ (by omega)
     by_cases hj0 : j = 0
     ·have kj : decide (0 < i) = false := decide_eq_false (by have := HI.out; omega)
      go_wp2_with fail
      go_quiet (first | (go_at_call 138; refine Calls.quiet_of_same (CR.out _)) | (go_at_call 72; refine Calls.quiet_of_same (CI.out _)))
      go_wp2_with fail
      go_roundw
      case rel => exact ⟨j + 1, by (have := HI.out); congr 1; omega, by have := HI.out; have := HE.out; omega, by rw [List.range_succ, List.all_append, HL.out]; simp only [List.all_cons, List.all_nil, Bool.and_true, Bool.true_and]; exact by unfold okC; rw [HI.out, HV.out, HT.out, hr, ht2, hj0]; simp, H.out.drewN _⟩
      case measure => simp [intOf]; omega
     ·have kj : decide (0 < i) = true := decide_eq_true (by have := HI.out; omega)
      obtain ⟨u, hu⟩ : ∃ u, l.getD (i - 2) 0 = u := ⟨_, rfl⟩
      obtain ⟨b', off', ha', c2⟩ := ints_cell H.out.i (i := i - 2) (by omega)
      injection ha' with ha'
      injection ha' with q1 q2 _
      subst q1; subst q2
      rw [hu] at c2
      have m4 : IntKind.i64.wrap ((i : Int) - 2) = (i : Int) - 2 := IntWalk.i64_in _ (by omega)
      have m5 : ((i : Int) - 2).toNat = i - 2 := by omega
      have m6 : decide ((i : Int) - 2 < (l.length : Int)) = true := decide_eq_true (by omega)
      have m7 : (2 : Int) ≤ (i : Int) := by have := HI.out; omega
      have m8 : 2 ≤ i := by have := HI.out; omega
      have m9 : (i : Int) - 2 < (l.length : Int) := by omega
      have m10 : (0 : Int) ≤ (i : Int) - 2 := by omega
      have HU := hid hu
      clear hu
      cases hc : decide (v ≤ u)
      ·
       go_wp2_with fail
       go_quiet (first | (go_at_call 138; refine Calls.quiet_of_same (CR.out _)) | (go_at_call 72; refine Calls.quiet_of_same (CI.out _)))
       go_wp2_with fail
       go_roundw
       case rel => exact ⟨j + 1, by (have := HI.out); congr 1; omega, by have := HI.out; have := HE.out; omega, by rw [List.range_succ, List.all_append, HL.out]; simp only [List.all_cons, List.all_nil, Bool.and_true, Bool.true_and]; exact by unfold okC; rw [HI.out, HV.out, HT.out, HU.out, hr, ht2]; have := of_decide_eq_false hc; simp; omega, H.out.drewN _⟩
       case measure => simp [intOf]; omega
      ·
       go_wp2_with fail
       go_quiet (first | (go_at_call 138; refine Calls.quiet_of_same (CR.out _)) | (go_at_call 72; refine Calls.quiet_of_same (CI.out _)))
       go_wp2_with fail
       go_ret
       exact ⟨ret_bool (casesB_bad (j := j) (by have := HI.out; omega) HE.out (by unfold okC; rw [HI.out, HV.out, HT.out, HU.out, hr, ht2]; have := of_decide_eq_true hc; simp; omega)).symm, below_drewN H.out.b _⟩
  ·go_wp2_with fail
   go_ret
   exact ⟨ret_bool (casesB_good (by omega) HE.out hl HL.out).symm, H.out.b⟩
set_option maxHeartbeats 4000000 in
set_option maxRecDepth 8000 in
theorem rcases_any (a : Option Addr) (l : List Int) (cap : Nat) (ps n : Int) (ca : Option Addr) (cn cc : Nat) (w : World) (h : IntsAt .i64 w a l) (hcn : cn ≤ 1000000000) :
  Calls Tryz.prog 142 #[.slice a l.length cap, .agg #[.int .i64 ps, .int .i64 n, .slice ca cn cc]] w fun x w' => x = .returned (.bool (casesB l cn)) ∧ Below w.heap.size w w' := by
 have hA : Below w.heap.size w (w.alloc (.cells #[.int .i64 ps, .int .i64 n, .slice ca cn cc] 48)) := (Below.refl _ _).alloc (Nat.le_refl _) _
 have K := KAt.new w (.cells #[.int .i64 ps, .int .i64 n, .slice ca cn cc] 48 (0, 0))
 have hq : (w.alloc (.cells #[.int .i64 ps, .int .i64 n, .slice ca cn cc] 48)).cell? ⟨w.heap.size, 2, none⟩ = some (.slice ca cn cc) := by rw [cell_of_row _ _ _ _ _ _ K.x]; rfl
 have HA := hid hA
 have H0 := hid (CsAt.mk (w := w) (cn := cn) (h.below hA) ⟨ca, cc, hq⟩ hA)
 have hm := h.1
 have hm2 : (l.length : Int) ≤ 9223372036854775807 := by unfold maxLen at hm; omega
 clear hA K hq h hm
 by_cases he : l.length % 2 = 0
 rotate_left
 ·have k1 : ((l.length : Int) % 2 == 1) = true := by
   have : (l.length : Int) % 2 = 1 := by omega
   simp [this]
  go_enter Tryz.func142, Tryz.ntmps142
  go_wp2_with fail
  go_ret
  exact ⟨by simp [casesB, he], HA.out⟩
 have k1 : ((l.length : Int) % 2 == 1) = false := by
  have : (l.length : Int) % 2 = 0 := by omega
  simp [this]
 by_cases hl : l.length ≤ 2048
 rotate_left
 ·have k2 : decide (2048 < (l.length : Int)) = true := decide_eq_true (by omega)
  go_enter Tryz.func142, Tryz.ntmps142
  go_wp2_with fail
  go_ret
  exact ⟨by simp [casesB, hl], HA.out⟩
 have k2 : decide (2048 < (l.length : Int)) = false := decide_eq_false (by omega)
 go_enter Tryz.func142, Tryz.ntmps142
 go_wp2_with fail
 have HE := hid he
 clear k1 k2
 go_loopw [5] (fun vi wr => ∃ j : Nat, vi = .int .i64 (2 * j : Nat) ∧ 2 * j ≤ l.length ∧ (List.range j).all (okC l cn) = true ∧ CsAt w wr a l cn) (fun vi _ => l.length - (intOf vi).toNat)
 case atStart => exact ⟨0, rfl, Nat.zero_le _, rfl, H0.out⟩
 case round =>
  obtain ⟨j, rfl, hj, hall, hC⟩ := hrel
  have H := hid hC
  have HL := hid hall
  obtain ⟨ca2, cc2, hq⟩ := hC.c
  clear hC hall
  by_cases hlt : 2 * j < l.length
  ·obtain ⟨i, hi⟩ : ∃ i, 2 * j = i := ⟨_, rfl⟩
   rw [hi] at hlt
   rw [hi]
   have hlt1 : i + 1 < l.length := by omega
   obtain ⟨b, off, ha, c0⟩ := ints_cell H.out.i hlt
   obtain ⟨b', off', ha', c1⟩ := ints_cell H.out.i hlt1
   rw [ha] at ha'
   injection ha' with ha'
   injection ha' with q1 q2 _
   subst q1; subst q2; subst ha
   obtain ⟨v, hv⟩ : ∃ v, l.getD i 0 = v := ⟨_, rfl⟩
   obtain ⟨t, ht⟩ : ∃ t, l.getD (i + 1) 0 = t := ⟨_, rfl⟩
   rw [hv] at c0
   rw [ht] at c1
   have m1 : IntKind.i64.wrap ((i : Int) + 1) = (i : Int) + 1 := IntWalk.i64_in _ (by omega)
   have m2 : ((i : Int) + 1).toNat = i + 1 := by omega
   have m3 : decide ((i : Int) + 1 < (l.length : Int)) = true := decide_eq_true (by omega)
   have HI := hid hi
   have HV := hid hv
   have HT := hid ht
   clear hi hv ht
   cases hr : rtB v
   ·have CR := hid (fun W => rright_eq hr W)
    have CI := CR
    go_wp2_with fail
    go_quiet (first | (go_at_call 140; refine Calls.quiet_of_same (CR.out _)) | (go_at_call 140; refine Calls.quiet_of_same (CI.out _)))
    go_wp2_with fail
    go_ret
    exact ⟨ret_bool (casesB_bad (j := j) (by have := HI.out; omega) HE.out (by unfold okC; rw [HI.out, HV.out, hr]; rfl)).symm, below_drewN H.out.b _⟩
   ·have CR := hid (fun W => rright_eq hr W)
    cases ht2 : insB t cn
    ·have CI := hid (fun W => within_eq ht2 W)
     by_cases hj0 : j = 0
     ·have kj : decide (0 < i) = false := decide_eq_false (by have := HI.out; omega)
      go_wp2_with fail
      go_quiet (first | (go_at_call 140; refine Calls.quiet_of_same (CR.out _)) | (go_at_call 83; refine Calls.quiet_of_same (CI.out _)))
      go_wp2_with fail
      go_ret
      exact ⟨ret_bool (casesB_bad (j := j) (by have := HI.out; omega) HE.out (by unfold okC; rw [HI.out, HV.out, HT.out, hr, ht2]; simp)).symm, below_drewN H.out.b _⟩
     ·have kj : decide (0 < i) = true := decide_eq_true (by have := HI.out; omega)
      obtain ⟨u, hu⟩ : ∃ u, l.getD (i - 2) 0 = u := ⟨_, rfl⟩
      obtain ⟨b', off', ha', c2⟩ := ints_cell H.out.i (i := i - 2) (by omega)
      injection ha' with ha'
      injection ha' with q1 q2 _
      subst q1; subst q2
      rw [hu] at c2
      have m4 : IntKind.i64.wrap ((i : Int) - 2) = (i : Int) - 2 := IntWalk.i64_in _ (by omega)
      have m5 : ((i : Int) - 2).toNat = i - 2 := by omega
      have m6 : decide ((i : Int) - 2 < (l.length : Int)) = true := decide_eq_true (by omega)
      have m7 : (2 : Int) ≤ (i : Int) := by have := HI.out; omega
      have m8 : 2 ≤ i := by have := HI.out; omega
      have m9 : (i : Int) - 2 < (l.length : Int) := by omega
      have m10 : (0 : Int) ≤ (i : Int) - 2 := by omega
      have HU := hid hu
      clear hu
      cases hc : decide (v ≤ u)
      ·
       go_wp2_with fail
       go_quiet (first | (go_at_call 140; refine Calls.quiet_of_same (CR.out _)) | (go_at_call 83; refine Calls.quiet_of_same (CI.out _)))
       go_wp2_with fail
       go_ret
       exact ⟨ret_bool (casesB_bad (j := j) (by have := HI.out; omega) HE.out (by unfold okC; rw [HI.out, HV.out, HT.out, HU.out, hr, ht2]; simp)).symm, below_drewN H.out.b _⟩
      ·
       go_wp2_with fail
       go_quiet (first | (go_at_call 140; refine Calls.quiet_of_same (CR.out _)) | (go_at_call 83; refine Calls.quiet_of_same (CI.out _)))
       go_wp2_with fail
       go_ret
       exact ⟨ret_bool (casesB_bad (j := j) (by have := HI.out; omega) HE.out (by unfold okC; rw [HI.out, HV.out, HT.out, HU.out, hr, ht2]; simp)).symm, below_drewN H.out.b _⟩
    ·have CI := hid (fun W => within_eq ht2 W)
     have m11 : IntKind.i64.wrap ((i : Int) + 2) = (i : Int) + 2 := IntWalk.i64_in _ (by omega)
     by_cases hj0 : j = 0
     ·have kj : decide (0 < i) = false := decide_eq_false (by have := HI.out; omega)
      go_wp2_with fail
      go_quiet (first | (go_at_call 140; refine Calls.quiet_of_same (CR.out _)) | (go_at_call 83; refine Calls.quiet_of_same (CI.out _)))
      go_wp2_with fail
      go_roundw
      case rel => exact ⟨j + 1, by (have := HI.out); congr 1; omega, by have := HI.out; have := HE.out; omega, by rw [List.range_succ, List.all_append, HL.out]; simp only [List.all_cons, List.all_nil, Bool.and_true, Bool.true_and]; exact by unfold okC; rw [HI.out, HV.out, HT.out, hr, ht2, hj0]; simp, H.out.drewN _⟩
      case measure => simp [intOf]; omega
     ·have kj : decide (0 < i) = true := decide_eq_true (by have := HI.out; omega)
      obtain ⟨u, hu⟩ : ∃ u, l.getD (i - 2) 0 = u := ⟨_, rfl⟩
      obtain ⟨b', off', ha', c2⟩ := ints_cell H.out.i (i := i - 2) (by omega)
      injection ha' with ha'
      injection ha' with q1 q2 _
      subst q1; subst q2
      rw [hu] at c2
      have m4 : IntKind.i64.wrap ((i : Int) - 2) = (i : Int) - 2 := IntWalk.i64_in _ (by omega)
      have m5 : ((i : Int) - 2).toNat = i - 2 := by omega
      have m6 : decide ((i : Int) - 2 < (l.length : Int)) = true := decide_eq_true (by omega)
      have m7 : (2 : Int) ≤ (i : Int) := by have := HI.out; omega
      have m8 : 2 ≤ i := by have := HI.out; omega
      have m9 : (i : Int) - 2 < (l.length : Int) := by omega
      have m10 : (0 : Int) ≤ (i : Int) - 2 := by omega
      have HU := hid hu
      clear hu
      cases hc : decide (v ≤ u)
      ·
       go_wp2_with fail
       go_quiet (first | (go_at_call 140; refine Calls.quiet_of_same (CR.out _)) | (go_at_call 83; refine Calls.quiet_of_same (CI.out _)))
       go_wp2_with fail
       go_roundw
       case rel => exact ⟨j + 1, by (have := HI.out); congr 1; omega, by have := HI.out; have := HE.out; omega, by rw [List.range_succ, List.all_append, HL.out]; simp only [List.all_cons, List.all_nil, Bool.and_true, Bool.true_and]; exact by unfold okC; rw [HI.out, HV.out, HT.out, HU.out, hr, ht2]; have := of_decide_eq_false hc; simp; omega, H.out.drewN _⟩
       case measure => simp [intOf]; omega
      ·
       go_wp2_with fail
       go_quiet (first | (go_at_call 140; refine Calls.quiet_of_same (CR.out _)) | (go_at_call 83; refine Calls.quiet_of_same (CI.out _)))
       go_wp2_with fail
       go_ret
       exact ⟨ret_bool (casesB_bad (j := j) (by have := HI.out; omega) HE.out (by unfold okC; rw [HI.out, HV.out, HT.out, HU.out, hr, ht2]; have := of_decide_eq_true hc; simp; omega)).symm, below_drewN H.out.b _⟩
  ·go_wp2_with fail
   go_ret
   exact ⟨ret_bool (casesB_good (by omega) HE.out hl HL.out).symm, H.out.b⟩
end Go.Proofs.YtokjkligechcoaaGreatDoor
