/- Walks of layer 16: the list of a switch, on both sides. -/
import Derived.Test.YtgbgahdeopedpaaCc
import Derived.Test.YtgbgahdeopedpaaFx
namespace Go.Proofs.Ytgbgahdeopedpaa
open Go.RowKit
open Fx
set_option linter.unusedVariables false
attribute [local go_sem] ext_mk size_mk toList_mk get_mk take_drop_len take_tail_len ByteArray.mk_append_mk List.append_toArray

def okC (l : List Int) (n : Int) (j : Nat) : Bool := rtB (l.getD (2 * j) 0) && (j == 0 || decide (l.getD (2 * j - 2) 0 < l.getD (2 * j) 0)) && insB (l.getD (2 * j + 1) 0) n

def casesB (l : List Int) (n : Int) : Bool := decide (l.length % 2 = 0) && decide (l.length ≤ 2048) && (List.range (l.length / 2)).all (okC l n)

theorem casesB_bad {l : List Int} {n : Int} {j : Nat} (hj : 2 * j < l.length) (he : l.length % 2 = 0) (h : okC l n j = false) : casesB l n = false := by
  have : (List.range (l.length / 2)).all (okC l n) = false := by
    rw [List.all_eq_false]
    exact ⟨j, by simp; omega, by simp [h]⟩
  simp [casesB, this]

theorem casesB_good {l : List Int} {n : Int} {j : Nat} (hj : l.length ≤ 2 * j) (he : l.length % 2 = 0) (hl : l.length ≤ 2048) (h : (List.range j).all (okC l n) = true) : casesB l n = true := by
  have : (List.range (l.length / 2)).all (okC l n) = true := by
    rw [List.all_eq_true] at h ⊢
    intro x hx
    simp at hx
    exact h x (by simp; omega)
  simp [casesB, this, he, hl]

theorem right_eq {n : Int} {v : Bool} (h : rtB n = v) (w : World) : Calls Try.prog 86 #[.int .i64 n] w fun x w' => x = .returned (.bool v) ∧ w' = w := by
  have := right_any n w
  rw [h] at this
  refine this.mono ?_
  rintro e w' ⟨rfl, rfl⟩
  exact ⟨rfl, rfl⟩

theorem rright_eq {n : Int} {v : Bool} (h : rtB n = v) (w : World) : Calls Try.prog 88 #[.int .i64 n] w fun x w' => x = .returned (.bool v) ∧ w' = w := by
  have := rright_any n w
  rw [h] at this
  refine this.mono ?_
  rintro e w' ⟨rfl, rfl⟩
  exact ⟨rfl, rfl⟩

/-- what the loop over a switch's list keeps -/
structure CsAt (w W : World) (a : Option Addr) (l : List Int) (cn : Nat) : Prop where
  i : IntsAt .i64 W a l
  c : ∃ ca cc, W.cell? ⟨w.heap.size, 2, none⟩ = some (.slice ca cn cc)
  b : Below w.heap.size w W

theorem CsAt.drewN {w W : World} {a : Option Addr} {l : List Int} {cn : Nat} (h : CsAt w W a l cn) (d : Nat) : CsAt w (W.drewN d) a l cn := by
  obtain ⟨ca, cc, hc⟩ := h.c
  exact ⟨h.i.below (below_drewN (Below.refl _ _) _), ⟨ca, cc, by simpa using hc⟩, below_drewN h.b _⟩

set_option maxHeartbeats 4000000 in
set_option maxRecDepth 8000 in
theorem cases_any (a : Option Addr) (l : List Int) (cap : Nat) (ps n : Int) (ca : Option Addr) (cn cc : Nat) (w : World) (h : IntsAt .i64 w a l) (hcn : cn ≤ 1000000000) :
    Calls Try.prog 99 #[.slice a l.length cap, .agg #[.int .i64 ps, .int .i64 n, .slice ca cn cc]] w fun x w' => x = .returned (.bool (casesB l cn)) ∧ Below w.heap.size w w' := by
  have hA : Below w.heap.size w (w.alloc (.cells #[.int .i64 ps, .int .i64 n, .slice ca cn cc] 61)) := (Below.refl _ _).alloc (Nat.le_refl _) _
  have K := KAt.new w (.cells #[.int .i64 ps, .int .i64 n, .slice ca cn cc] 61 (0, 0))
  have hq : (w.alloc (.cells #[.int .i64 ps, .int .i64 n, .slice ca cn cc] 61)).cell? ⟨w.heap.size, 2, none⟩ = some (.slice ca cn cc) := by rw [cell_of_row _ _ _ _ _ _ K.x]; rfl
  have HA := Lib.hid hA
  have H0 := Lib.hid (CsAt.mk (w := w) (cn := cn) (h.below hA) ⟨ca, cc, hq⟩ hA)
  have hm := h.1
  have hm2 : (l.length : Int) ≤ 9223372036854775807 := by unfold maxLen at hm; omega
  clear hA K hq h hm
  by_cases he : l.length % 2 = 0
  rotate_left
  · have k1 : ((l.length : Int) % 2 == 1) = true := by
      have : (l.length : Int) % 2 = 1 := by omega
      simp [this]
    go_enter Try.func99, Try.ntmps99
    go_wp2_with fail
    go_ret
    exact ⟨by simp [casesB, he], HA.out⟩
  have k1 : ((l.length : Int) % 2 == 1) = false := by
    have : (l.length : Int) % 2 = 0 := by omega
    simp [this]
  by_cases hl : l.length ≤ 2048
  rotate_left
  · have k2 : decide (2048 < (l.length : Int)) = true := decide_eq_true (by omega)
    go_enter Try.func99, Try.ntmps99
    go_wp2_with fail
    go_ret
    exact ⟨by simp [casesB, hl], HA.out⟩
  have k2 : decide (2048 < (l.length : Int)) = false := decide_eq_false (by omega)
  go_enter Try.func99, Try.ntmps99
  go_wp2_with fail
  have HE := Lib.hid he
  clear k1 k2
  go_loopw [5] (fun vi wr => ∃ j : Nat, vi = .int .i64 (2 * j : Nat) ∧ 2 * j ≤ l.length ∧ (List.range j).all (okC l cn) = true ∧ CsAt w wr a l cn) (fun vi _ => l.length - (intOf vi).toNat)
  case atStart => exact ⟨0, rfl, Nat.zero_le _, rfl, H0.out⟩
  case round =>
    obtain ⟨j, rfl, hj, hall, hC⟩ := hrel
    have H := Lib.hid hC
    have HL := Lib.hid hall
    obtain ⟨ca2, cc2, hq⟩ := hC.c
    clear hC hall
    by_cases hlt : 2 * j < l.length
    · obtain ⟨i, hi⟩ : ∃ i, 2 * j = i := ⟨_, rfl⟩
      rw [hi] at hlt
      rw [hi]
      have hlt1 : i + 1 < l.length := by omega
      obtain ⟨b, off, ha, c0⟩ := ints_cell H.out.i hlt
      obtain ⟨b', off', ha', c1⟩ := ints_cell H.out.i hlt1
      rw [ha] at ha'
      injection ha' with ha'
      injection ha' with q1 q2 _
      subst q1; subst q2; subst ha
      obtain ⟨v, hv⟩ : ∃ v, l.getD i 0 = v := ⟨_, rfl⟩
      obtain ⟨t, ht⟩ : ∃ t, l.getD (i + 1) 0 = t := ⟨_, rfl⟩
      rw [hv] at c0
      rw [ht] at c1
      have m1 : IntKind.i64.wrap ((i : Int) + 1) = (i : Int) + 1 := IntWalk.i64_in _ (by omega)
      have m2 : ((i : Int) + 1).toNat = i + 1 := by omega
      have m3 : decide ((i : Int) + 1 < (l.length : Int)) = true := decide_eq_true (by omega)
      have HI := Lib.hid hi
      have HV := Lib.hid hv
      have HT := Lib.hid ht
      clear hi hv ht
      cases hr : rtB v
      · have CR := Lib.hid (fun W => right_eq hr W)
        have CI := CR
        go_wp2_with fail
        go_quiet (first | (go_at_call 86; refine Calls.quiet_of_same (CR.out _)) | (go_at_call 86; refine Calls.quiet_of_same (CI.out _)))
        go_wp2_with fail
        go_ret
        exact ⟨ret_bool (casesB_bad (j := j) (by have := HI.out; omega) HE.out (by unfold okC; rw [HI.out, HV.out, hr]; rfl)).symm, below_drewN H.out.b _⟩
      · have CR := Lib.hid (fun W => right_eq hr W)
        cases ht2 : insB t cn
        · have CI := Lib.hid (fun W => inside_eq ht2 W)
          by_cases hj0 : j = 0
          · have kj : decide (0 < i) = false := decide_eq_false (by have := HI.out; omega)
            go_wp2_with fail
            go_quiet (first | (go_at_call 86; refine Calls.quiet_of_same (CR.out _)) | (go_at_call 63; refine Calls.quiet_of_same (CI.out _)))
            go_wp2_with fail
            go_ret
            exact ⟨ret_bool (casesB_bad (j := j) (by have := HI.out; omega) HE.out (by unfold okC; rw [HI.out, HV.out, HT.out, hr, ht2]; simp)).symm, below_drewN H.out.b _⟩
          · have kj : decide (0 < i) = true := decide_eq_true (by have := HI.out; omega)
            obtain ⟨u, hu⟩ : ∃ u, l.getD (i - 2) 0 = u := ⟨_, rfl⟩
            obtain ⟨b', off', ha', c2⟩ := ints_cell H.out.i (i := i - 2) (by omega)
            injection ha' with ha'
            injection ha' with q1 q2 _
            subst q1; subst q2
            rw [hu] at c2
            have m4 : IntKind.i64.wrap ((i : Int) - 2) = (i : Int) - 2 := IntWalk.i64_in _ (by omega)
            have m5 : ((i : Int) - 2).toNat = i - 2 := by omega
            have m6 : decide ((i : Int) - 2 < (l.length : Int)) = true := decide_eq_true (by omega)
            have m7 : (2 : Int) ≤ (i : Int) := by have := HI.out; omega
            have m8 : 2 ≤ i := by have := HI.out; omega
            have m9 : (i : Int) - 2 < (l.length : Int) := by omega
            have m10 : (0 : Int) ≤ (i : Int) - 2 := by omega
            have HU := Lib.hid hu
            clear hu
            cases hc : decide (v ≤ u)
            ·
              go_wp2_with fail
              go_quiet (first | (go_at_call 86; refine Calls.quiet_of_same (CR.out _)) | (go_at_call 63; refine Calls.quiet_of_same (CI.out _)))
              go_wp2_with fail
              go_ret
              exact ⟨ret_bool (casesB_bad (j := j) (by have := HI.out; omega) HE.out (by unfold okC; rw [HI.out, HV.out, HT.out, HU.out, hr, ht2]; simp)).symm, below_drewN H.out.b _⟩
            ·
              go_wp2_with fail
              go_quiet (first | (go_at_call 86; refine Calls.quiet_of_same (CR.out _)) | (go_at_call 63; refine Calls.quiet_of_same (CI.out _)))
              go_wp2_with fail
              go_ret
              exact ⟨ret_bool (casesB_bad (j := j) (by have := HI.out; omega) HE.out (by unfold okC; rw [HI.out, HV.out, HT.out, HU.out, hr, ht2]; simp)).symm, below_drewN H.out.b _⟩
        · have CI := Lib.hid (fun W => inside_eq ht2 W)
          have m11 : IntKind.i64.wrap ((i : Int) + 2) = (i : Int) + 2 := IntWalk.i64_in _ (by omega)
          by_cases hj0 : j = 0
          · have kj : decide (0 < i) = false := decide_eq_false (by have := HI.out; omega)
            go_wp2_with fail
            go_quiet (first | (go_at_call 86; refine Calls.quiet_of_same (CR.out _)) | (go_at_call 63; refine Calls.quiet_of_same (CI.out _)))
            go_wp2_with fail
            go_roundw
            case rel => exact ⟨j + 1, by (have := HI.out); congr 1; omega, by have := HI.out; have := HE.out; omega, by rw [List.range_succ, List.all_append, HL.out]; simp only [List.all_cons, List.all_nil, Bool.and_true, Bool.true_and]; exact by unfold okC; rw [HI.out, HV.out, HT.out, hr, ht2, hj0]; simp, H.out.drewN _⟩
            case measure => simp [intOf]; omega
          · have kj : decide (0 < i) = true := decide_eq_true (by have := HI.out; omega)
            obtain ⟨u, hu⟩ : ∃ u, l.getD (i - 2) 0 = u := ⟨_, rfl⟩
            obtain ⟨b', off', ha', c2⟩ := ints_cell H.out.i (i := i - 2) (by omega)
            injection ha' with ha'
            injection ha' with q1 q2 _
            subst q1; subst q2
            rw [hu] at c2
            have m4 : IntKind.i64.wrap ((i : Int) - 2) = (i : Int) - 2 := IntWalk.i64_in _ (by omega)
            have m5 : ((i : Int) - 2).toNat = i - 2 := by omega
            have m6 : decide ((i : Int) - 2 < (l.length : Int)) = true := decide_eq_true (by omega)
            have m7 : (2 : Int) ≤ (i : Int) := by have := HI.out; omega
            have m8 : 2 ≤ i := by have := HI.out; omega
            have m9 : (i : Int) - 2 < (l.length : Int) := by omega
            have m10 : (0 : Int) ≤ (i : Int) - 2 := by omega
            have HU := Lib.hid hu
            clear hu
            cases hc : decide (v ≤ u)
            ·
              go_wp2_with fail
              go_quiet (first | (go_at_call 86; refine Calls.quiet_of_same (CR.out _)) | (go_at_call 63; refine Calls.quiet_of_same (CI.out _)))
              go_wp2_with fail
              go_roundw
              case rel => exact ⟨j + 1, by (have := HI.out); congr 1; omega, by have := HI.out; have := HE.out; omega, by rw [List.range_succ, List.all_append, HL.out]; simp only [List.all_cons, List.all_nil, Bool.and_true, Bool.true_and]; exact by unfold okC; rw [HI.out, HV.out, HT.out, HU.out, hr, ht2]; have := of_decide_eq_false hc; simp; omega, H.out.drewN _⟩
              case measure => simp [intOf]; omega
            ·
              go_wp2_with fail
              go_quiet (first | (go_at_call 86; refine Calls.quiet_of_same (CR.out _)) | (go_at_call 63; refine Calls.quiet_of_same (CI.out _)))
              go_wp2_with fail
              go_ret
              exact ⟨ret_bool (casesB_bad (j := j) (by have := HI.out; omega) HE.out (by unfold okC; rw [HI.out, HV.out, HT.out, HU.out, hr, ht2]; have := of_decide_eq_true hc; simp; omega)).symm, below_drewN H.out.b _⟩
    · go_wp2_with fail
      go_ret
      exact ⟨ret_bool (casesB_good (by omega) HE.out hl HL.out).symm, H.out.b⟩

set_option maxHeartbeats 4000000 in
set_option maxRecDepth 8000 in
theorem rcases_any (a : Option Addr) (l : List Int) (cap : Nat) (ps n : Int) (ca : Option Addr) (cn cc : Nat) (w : World) (h : IntsAt .i64 w a l) (hcn : cn ≤ 1000000000) :
    Calls Try.prog 90 #[.slice a l.length cap, .agg #[.int .i64 ps, .int .i64 n, .slice ca cn cc]] w fun x w' => x = .returned (.bool (casesB l cn)) ∧ Below w.heap.size w w' := by
  have hA : Below w.heap.size w (w.alloc (.cells #[.int .i64 ps, .int .i64 n, .slice ca cn cc] 61)) := (Below.refl _ _).alloc (Nat.le_refl _) _
  have K := KAt.new w (.cells #[.int .i64 ps, .int .i64 n, .slice ca cn cc] 61 (0, 0))
  have hq : (w.alloc (.cells #[.int .i64 ps, .int .i64 n, .slice ca cn cc] 61)).cell? ⟨w.heap.size, 2, none⟩ = some (.slice ca cn cc) := by rw [cell_of_row _ _ _ _ _ _ K.x]; rfl
  have HA := Lib.hid hA
  have H0 := Lib.hid (CsAt.mk (w := w) (cn := cn) (h.below hA) ⟨ca, cc, hq⟩ hA)
  have hm := h.1
  have hm2 : (l.length : Int) ≤ 9223372036854775807 := by unfold maxLen at hm; omega
  clear hA K hq h hm
  by_cases he : l.length % 2 = 0
  rotate_left
  · have k1 : ((l.length : Int) % 2 == 1) = true := by
      have : (l.length : Int) % 2 = 1 := by omega
      simp [this]
    go_enter Try.func90, Try.ntmps90
    go_wp2_with fail
    go_ret
    exact ⟨by simp [casesB, he], HA.out⟩
  have k1 : ((l.length : Int) % 2 == 1) = false := by
    have : (l.length : Int) % 2 = 0 := by omega
    simp [this]
  by_cases hl : l.length ≤ 2048
  rotate_left
  · have k2 : decide (2048 < (l.length : Int)) = true := decide_eq_true (by omega)
    go_enter Try.func90, Try.ntmps90
    go_wp2_with fail
    go_ret
    exact ⟨by simp [casesB, hl], HA.out⟩
  have k2 : decide (2048 < (l.length : Int)) = false := decide_eq_false (by omega)
  go_enter Try.func90, Try.ntmps90
  go_wp2_with fail
  have HE := Lib.hid he
  clear k1 k2
  go_loopw [5] (fun vi wr => ∃ j : Nat, vi = .int .i64 (2 * j : Nat) ∧ 2 * j ≤ l.length ∧ (List.range j).all (okC l cn) = true ∧ CsAt w wr a l cn) (fun vi _ => l.length - (intOf vi).toNat)
  case atStart => exact ⟨0, rfl, Nat.zero_le _, rfl, H0.out⟩
  case round =>
    obtain ⟨j, rfl, hj, hall, hC⟩ := hrel
    have H := Lib.hid hC
    have HL := Lib.hid hall
    obtain ⟨ca2, cc2, hq⟩ := hC.c
    clear hC hall
    by_cases hlt : 2 * j < l.length
    · obtain ⟨i, hi⟩ : ∃ i, 2 * j = i := ⟨_, rfl⟩
      rw [hi] at hlt
      rw [hi]
      have hlt1 : i + 1 < l.length := by omega
      obtain ⟨b, off, ha, c0⟩ := ints_cell H.out.i hlt
      obtain ⟨b', off', ha', c1⟩ := ints_cell H.out.i hlt1
      rw [ha] at ha'
      injection ha' with ha'
      injection ha' with q1 q2 _
      subst q1; subst q2; subst ha
      obtain ⟨v, hv⟩ : ∃ v, l.getD i 0 = v := ⟨_, rfl⟩
      obtain ⟨t, ht⟩ : ∃ t, l.getD (i + 1) 0 = t := ⟨_, rfl⟩
      rw [hv] at c0
      rw [ht] at c1
      have m1 : IntKind.i64.wrap ((i : Int) + 1) = (i : Int) + 1 := IntWalk.i64_in _ (by omega)
      have m2 : ((i : Int) + 1).toNat = i + 1 := by omega
      have m3 : decide ((i : Int) + 1 < (l.length : Int)) = true := decide_eq_true (by omega)
      have HI := Lib.hid hi
      have HV := Lib.hid hv
      have HT := Lib.hid ht
      clear hi hv ht
      cases hr : rtB v
      · have CR := Lib.hid (fun W => rright_eq hr W)
        have CI := CR
        go_wp2_with fail
        go_quiet (first | (go_at_call 88; refine Calls.quiet_of_same (CR.out _)) | (go_at_call 88; refine Calls.quiet_of_same (CI.out _)))
        go_wp2_with fail
        go_ret
        exact ⟨ret_bool (casesB_bad (j := j) (by have := HI.out; omega) HE.out (by unfold okC; rw [HI.out, HV.out, hr]; rfl)).symm, below_drewN H.out.b _⟩
      · have CR := Lib.hid (fun W => rright_eq hr W)
        cases ht2 : insB t cn
        · have CI := Lib.hid (fun W => within_eq ht2 W)
          by_cases hj0 : j = 0
          · have kj : decide (0 < i) = false := decide_eq_false (by have := HI.out; omega)
            go_wp2_with fail
            go_quiet (first | (go_at_call 88; refine Calls.quiet_of_same (CR.out _)) | (go_at_call 74; refine Calls.quiet_of_same (CI.out _)))
            go_wp2_with fail
            go_ret
            exact ⟨ret_bool (casesB_bad (j := j) (by have := HI.out; omega) HE.out (by unfold okC; rw [HI.out, HV.out, HT.out, hr, ht2]; simp)).symm, below_drewN H.out.b _⟩
          · have kj : decide (0 < i) = true := decide_eq_true (by have := HI.out; omega)
            obtain ⟨u, hu⟩ : ∃ u, l.getD (i - 2) 0 = u := ⟨_, rfl⟩
            obtain ⟨b', off', ha', c2⟩ := ints_cell H.out.i (i := i - 2) (by omega)
            injection ha' with ha'
            injection ha' with q1 q2 _
            subst q1; subst q2
            rw [hu] at c2
            have m4 : IntKind.i64.wrap ((i : Int) - 2) = (i : Int) - 2 := IntWalk.i64_in _ (by omega)
            have m5 : ((i : Int) - 2).toNat = i - 2 := by omega
            have m6 : decide ((i : Int) - 2 < (l.length : Int)) = true := decide_eq_true (by omega)
            have m7 : (2 : Int) ≤ (i : Int) := by have := HI.out; omega
            have m8 : 2 ≤ i := by have := HI.out; omega
            have m9 : (i : Int) - 2 < (l.length : Int) := by omega
            have m10 : (0 : Int) ≤ (i : Int) - 2 := by omega
            have HU := Lib.hid hu
            clear hu
            cases hc : decide (v ≤ u)
            ·
              go_wp2_with fail
              go_quiet (first | (go_at_call 88; refine Calls.quiet_of_same (CR.out _)) | (go_at_call 74; refine Calls.quiet_of_same (CI.out _)))
              go_wp2_with fail
              go_ret
              exact ⟨ret_bool (casesB_bad (j := j) (by have := HI.out; omega) HE.out (by unfold okC; rw [HI.out, HV.out, HT.out, HU.out, hr, ht2]; simp)).symm, below_drewN H.out.b _⟩
            ·
              go_wp2_with fail
              go_quiet (first | (go_at_call 88; refine Calls.quiet_of_same (CR.out _)) | (go_at_call 74; refine Calls.quiet_of_same (CI.out _)))
              go_wp2_with fail
              go_ret
              exact ⟨ret_bool (casesB_bad (j := j) (by have := HI.out; omega) HE.out (by unfold okC; rw [HI.out, HV.out, HT.out, HU.out, hr, ht2]; simp)).symm, below_drewN H.out.b _⟩
        · have CI := Lib.hid (fun W => within_eq ht2 W)
          have m11 : IntKind.i64.wrap ((i : Int) + 2) = (i : Int) + 2 := IntWalk.i64_in _ (by omega)
          by_cases hj0 : j = 0
          · have kj : decide (0 < i) = false := decide_eq_false (by have := HI.out; omega)
            go_wp2_with fail
            go_quiet (first | (go_at_call 88; refine Calls.quiet_of_same (CR.out _)) | (go_at_call 74; refine Calls.quiet_of_same (CI.out _)))
            go_wp2_with fail
            go_roundw
            case rel => exact ⟨j + 1, by (have := HI.out); congr 1; omega, by have := HI.out; have := HE.out; omega, by rw [List.range_succ, List.all_append, HL.out]; simp only [List.all_cons, List.all_nil, Bool.and_true, Bool.true_and]; exact by unfold okC; rw [HI.out, HV.out, HT.out, hr, ht2, hj0]; simp, H.out.drewN _⟩
            case measure => simp [intOf]; omega
          · have kj : decide (0 < i) = true := decide_eq_true (by have := HI.out; omega)
            obtain ⟨u, hu⟩ : ∃ u, l.getD (i - 2) 0 = u := ⟨_, rfl⟩
            obtain ⟨b', off', ha', c2⟩ := ints_cell H.out.i (i := i - 2) (by omega)
            injection ha' with ha'
            injection ha' with q1 q2 _
            subst q1; subst q2
            rw [hu] at c2
            have m4 : IntKind.i64.wrap ((i : Int) - 2) = (i : Int) - 2 := IntWalk.i64_in _ (by omega)
            have m5 : ((i : Int) - 2).toNat = i - 2 := by omega
            have m6 : decide ((i : Int) - 2 < (l.length : Int)) = true := decide_eq_true (by omega)
            have m7 : (2 : Int) ≤ (i : Int) := by have := HI.out; omega
            have m8 : 2 ≤ i := by have := HI.out; omega
            have m9 : (i : Int) - 2 < (l.length : Int) := by omega
            have m10 : (0 : Int) ≤ (i : Int) - 2 := by omega
            have HU := Lib.hid hu
            clear hu
            cases hc : decide (v ≤ u)
            ·
              go_wp2_with fail
              go_quiet (first | (go_at_call 88; refine Calls.quiet_of_same (CR.out _)) | (go_at_call 74; refine Calls.quiet_of_same (CI.out _)))
              go_wp2_with fail
              go_roundw
              case rel => exact ⟨j + 1, by (have := HI.out); congr 1; omega, by have := HI.out; have := HE.out; omega, by rw [List.range_succ, List.all_append, HL.out]; simp only [List.all_cons, List.all_nil, Bool.and_true, Bool.true_and]; exact by unfold okC; rw [HI.out, HV.out, HT.out, HU.out, hr, ht2]; have := of_decide_eq_false hc; simp; omega, H.out.drewN _⟩
              case measure => simp [intOf]; omega
            ·
              go_wp2_with fail
              go_quiet (first | (go_at_call 88; refine Calls.quiet_of_same (CR.out _)) | (go_at_call 74; refine Calls.quiet_of_same (CI.out _)))
              go_wp2_with fail
              go_ret
              exact ⟨ret_bool (casesB_bad (j := j) (by have := HI.out; omega) HE.out (by unfold okC; rw [HI.out, HV.out, HT.out, HU.out, hr, ht2]; have := of_decide_eq_true hc; simp; omega)).symm, below_drewN H.out.b _⟩
    · go_wp2_with fail
      go_ret
      exact ⟨ret_bool (casesB_good (by omega) HE.out hl HL.out).symm, H.out.b⟩
end Go.Proofs.Ytgbgahdeopedpaa
