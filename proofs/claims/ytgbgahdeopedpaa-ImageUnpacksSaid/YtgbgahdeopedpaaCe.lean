/- Walks of layer 16's reference: which primitives may allocate, Live at an instruction. -/
import Derived.Test.YtgbgahdeopedpaaCd
namespace Go.Proofs.Ytgbgahdeopedpaa
open Go.RowKit
set_option linter.unusedVariables false
attribute [local go_sem] ext_mk size_mk toList_mk get_mk take_drop_len take_tail_len ByteArray.mk_append_mk List.append_toArray

/-- behind the last arrow ahead of a place -/
def atK (t : List UInt8) : Nat → Nat
  | 0 => 0
  | k + 1 => if ((t.drop k).take 3 == [45, 62, 32]) then k + 3 else atK t k

def lastB (r : List UInt8) : Bool := !(r == [105, 110, 116]) && !(r == [98, 111, 111, 108]) && !(r == [99, 104, 97, 114]) && !(r == [117, 110, 105, 116]) && !(r == [39, 97])

theorem ralloc_eq : ∀ i, i < 61 → lastB ((prT i).1.drop (atK (prT i).1 ((prT i).1.length - 2))) = allocB (i : Nat) ∧ 3 ≤ (prT i).1.length ∧ (prT i).1.length ≤ 100 := by decide +kernel

theorem atK_le (t : List UInt8) (k : Nat) : atK t k ≤ k + 2 := by
  induction k with
  | zero => exact Nat.zero_le _
  | succ k ih => unfold atK; split <;> omega

set_option maxHeartbeats 4000000 in
set_option maxRecDepth 8000 in
theorem rallocates_any (n : Int) (w : World) : Calls Try.prog 100 #[.int .i64 n] w fun e w' => e = .returned (.bool (allocB n)) ∧ Below w.heap.size w w' := by
  have CP := Lib.hid (fun W => prims_at W)
  by_cases hn : 0 ≤ n ∧ n < 61
  · obtain ⟨i, rfl⟩ := Int.eq_ofNat_of_zero_le hn.1
    have hi : i < 61 := by omega
    obtain ⟨p1, p2, p3⟩ := ralloc_eq i hi
    obtain ⟨T, hT⟩ : ∃ T, (prT i).1 = T := ⟨_, rfl⟩
    rw [hT] at p1 p2 p3
    have HB := Lib.hid p1
    have HT := Lib.hid hT
    clear p1 hT hn
    go_enter Try.func100, Try.ntmps100
    go_wp2_with (first
      | (go_at_call 59; (with_reducible refine (CP.out _).mono ?_); rintro e w1 ⟨g, cap, rfl, hcap, hP, hgw, hb1⟩; have e1 := (hP.2 i hi).1; rw [HT.out, Nat.mul_comm] at e1; clear hP))
    go_loopw [5, 6] (fun va vi wr => ∃ k : Nat, vi = .int .i64 k ∧ k + 2 ≤ T.length ∧ va = .int .i64 (atK T k) ∧ wr = w1) (fun _ vi _ => T.length - (intOf vi).toNat)
    case atStart => exact ⟨0, rfl, by omega, rfl, rfl⟩
    case round =>
      obtain ⟨k, rfl, hk, rfl, rfl⟩ := hrel
      have ha := atK_le T k
      by_cases hlt : k + 3 ≤ T.length
      · have m1 : ((k : Int) + 3).toNat = k + 3 := by omega
        have HK := Lib.hid (show atK T (k + 1) = if ((T.drop k).take 3 == [45, 62, 32]) then k + 3 else atK T k from rfl)
        cases hc : ((T.drop k).take 3 == [45, 62, 32])
        all_goals
          go_wp2_with fail
          go_roundw
        all_goals first
          | exact ⟨k + 1, by go_num, by omega, by rw [HK.out, hc]; first | rfl | simp, by trivial⟩
          | (simp [intOf]; omega)
      · obtain rfl : k = T.length - 2 := by omega
        have m1 : decide (((T.length - 2 : Nat) : Int) + 3 ≤ (T.length : Int)) = false := decide_eq_false (by omega)
        have m2 : IntKind.i64.wrap (((T.length - 2 : Nat) : Int) + 3) = ((T.length - 2 : Nat) : Int) + 3 := IntWalk.i64_in _ (by omega)
        obtain ⟨q, hq⟩ : ∃ q, atK T (T.length - 2) = q := ⟨_, rfl⟩
        obtain ⟨z, hz⟩ : ∃ z, T.length - 2 = z := ⟨_, rfl⟩
        have hB := HB.out
        rw [hq] at ha hB ⊢
        rw [hz] at m1 m2 ha ⊢
        have HB := Lib.hid hB
        clear hB hq
        go_wp2_with fail
        all_goals go_ret
        all_goals exact ⟨ret_bool (by rw [← HB.out]; simp [lastB, *]), hb1⟩
  · have HB := Lib.hid (show allocB n = false by unfold allocB; rw [if_neg hn])
    by_cases h0 : n < 0
    · have k0 : decide (n < 0) = true := decide_eq_true h0
      clear hn h0
      go_enter Try.func100, Try.ntmps100
      go_wp2_with (go_at_call 59; (with_reducible refine (CP.out _).mono ?_); rintro e w1 ⟨g, cap, rfl, hcap, hP, hgw, hb1⟩; clear hP)
      go_ret
      exact ⟨ret_bool HB.out.symm, hb1⟩
    · have k0 : decide (n < 0) = false := decide_eq_false h0
      have k1 : decide (61 ≤ n) = true := decide_eq_true (by omega)
      clear hn h0
      go_enter Try.func100, Try.ntmps100
      go_wp2_with (go_at_call 59; (with_reducible refine (CP.out _).mono ?_); rintro e w1 ⟨g, cap, rfl, hcap, hP, hgw, hb1⟩; clear hP)
      go_ret
      exact ⟨ret_bool HB.out.symm, hb1⟩

theorem rkeeps_any (op a b c : Int) (la va : Option Addr) (ln lc vn vc : Nat) (w : World) :
    Calls Try.prog 91 #[.agg #[.int .i64 op, .int .i64 a, .int .i64 b, .int .i64 c, .slice la ln lc, .slice va vn vc]] w fun x w' => x = .returned (.bool (keepsI op b)) ∧ Below w.heap.size w w' := by
  have CA := Lib.hid (fun W => rallocates_any b W)
  have HA : ∀ o, Hid (Below w.heap.size w (w.alloc o)) := fun o => Lib.hid ((Below.refl _ _).alloc (Nat.le_refl _) _)
  rcases op_2358 op with rfl | rfl | rfl | rfl | ⟨k2, k3, k5, k8⟩
  · go_enter Try.func91, Try.ntmps91
    go_wp2
    go_ret
    exact ⟨rfl, (Below.refl _ _).alloc (Nat.le_refl _) _⟩
  · go_enter Try.func91, Try.ntmps91
    go_wp2
    go_ret
    exact ⟨rfl, (Below.refl _ _).alloc (Nat.le_refl _) _⟩
  · go_enter Try.func91, Try.ntmps91
    go_wp2
    go_ret
    exact ⟨rfl, (Below.refl _ _).alloc (Nat.le_refl _) _⟩
  · go_enter Try.func91, Try.ntmps91
    go_wp2_with (first | (go_at_call 100; refine (CA.out _).mono ?_; rintro e w1 ⟨rfl, hb⟩))
    go_ret
    exact ⟨ret_bool (by simp [keepsI]), (HA _).out.trans (hb.mono (HA _).out.size)⟩
  · go_enter Try.func91, Try.ntmps91
    go_wp2
    go_ret
    exact ⟨by simp [keepsI, k2, k3, k5, k8], (Below.refl _ _).alloc (Nat.le_refl _) _⟩

def okR (l : List Int) (i : Nat) : Bool := i == 0 || decide (l.getD (i - 1) 0 < l.getD i 0)

def risingB (l : List Int) : Bool := (List.range l.length).all (okR l)

theorem risingB_bad {l : List Int} {i : Nat} (hi : i < l.length) (h : okR l i = false) : risingB l = false := by
  unfold risingB
  rw [List.all_eq_false]
  exact ⟨i, by simpa using hi, by simp [h]⟩

theorem risingB_good {l : List Int} {i : Nat} (hi : l.length ≤ i) (h : (List.range i).all (okR l) = true) : risingB l = true := by
  unfold risingB
  rw [List.all_eq_true] at h ⊢
  intro x hx
  simp at hx
  exact h x (by simp; omega)

theorem rising_any (a : Option Addr) (l : List Int) (cap : Nat) (w : World) (h : IntsAt .i64 w a l) :
    Calls Try.prog 92 #[.slice a l.length cap] w fun x w' => x = .returned (.bool (risingB l)) ∧ Below w.heap.size w w' := by
  have hm := h.1
  have hm2 : (l.length : Int) ≤ 9223372036854775807 := by unfold maxLen at hm; omega
  have H0 := Lib.hid h
  clear h hm
  go_enter Try.func92, Try.ntmps92
  go_wp2_with fail
  go_loopw [3] (fun vi wr => ∃ i : Nat, vi = .int .i64 i ∧ 1 ≤ i ∧ i ≤ l.length + 1 ∧ (List.range i).all (okR l) = true ∧ IntsAt .i64 wr a l ∧ Below w.heap.size w wr) (fun vi _ => l.length + 1 - (intOf vi).toNat)
  case atStart => exact ⟨1, rfl, by omega, by omega, rfl, H0.out, Below.refl _ _⟩
  case round =>
    obtain ⟨i, rfl, h1, hi, hall, hI, hb⟩ := hrel
    have HL := Lib.hid hall
    have HI := Lib.hid hI
    have HB := Lib.hid hb
    clear hall hb
    by_cases hlt : i < l.length
    · obtain ⟨b, off, ha, c0⟩ := ints_cell hI hlt
      obtain ⟨b', off', ha', c1⟩ := ints_cell hI (i := i - 1) (by omega)
      rw [ha] at ha'
      injection ha' with ha'
      injection ha' with q1 q2 _
      subst q1; subst q2; subst ha
      obtain ⟨v, hv⟩ : ∃ v, l.getD i 0 = v := ⟨_, rfl⟩
      obtain ⟨u, hu⟩ : ∃ u, l.getD (i - 1) 0 = u := ⟨_, rfl⟩
      rw [hv] at c0
      rw [hu] at c1
      have m1 : IntKind.i64.wrap ((i : Int) - 1) = (i : Int) - 1 := IntWalk.i64_in _ (by omega)
      have m2 : ((i : Int) - 1).toNat = i - 1 := by omega
      have m3 : (i : Int) - 1 < (l.length : Int) := by omega
      have m4 : (0 : Int) ≤ (i : Int) - 1 := by omega
      have m5 : (1 : Int) ≤ (i : Int) := by omega
      have HV := Lib.hid hv
      have HU := Lib.hid hu
      clear hv hu hI
      cases hc : decide (v ≤ u)
      · go_wp2_with fail
        go_quiet (fail)
        go_wp2_with fail
        go_roundw
        case rel => exact ⟨i + 1, by go_num, by omega, by omega, by rw [List.range_succ, List.all_append, HL.out]; simp only [List.all_cons, List.all_nil, Bool.and_true, Bool.true_and]; unfold okR; rw [HV.out, HU.out]; have := of_decide_eq_false hc; simp; omega, HI.out.below (below_drewN (Below.refl _ _) _), below_drewN HB.out _⟩
        case measure => simp [intOf]; omega
      · go_wp2_with fail
        go_quiet (fail)
        go_wp2_with fail
        go_ret
        exact ⟨ret_bool (risingB_bad (i := i) (by omega) (by unfold okR; rw [HV.out, HU.out]; have := of_decide_eq_true hc; simp; omega)).symm, below_drewN HB.out _⟩
    · clear hI
      go_wp2_with fail
      go_ret
      exact ⟨ret_bool (risingB_good (i := i) (by omega) HL.out).symm, HB.out⟩

/-- is Live as said? -/
def liveB (op b : Int) (lv : List Int) (rs : Int) : Bool := if keepsI op b then regsB lv rs && risingB lv else (lv.length : Int) == 0
end Go.Proofs.Ytgbgahdeopedpaa
