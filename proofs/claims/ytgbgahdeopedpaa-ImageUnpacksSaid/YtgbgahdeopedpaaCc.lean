/- Walks of layer 16: lists of registers, on both sides. -/
import Derived.Test.YtgbgahdeopedpaaCb
import Derived.Test.YtgbgahdeopedpaaIm
namespace Go.Proofs.Ytgbgahdeopedpaa
open Go.RowKit
set_option linter.unusedVariables false
attribute [local go_sem] ext_mk size_mk toList_mk get_mk take_drop_len take_tail_len ByteArray.mk_append_mk List.append_toArray

theorem IntsAt.below {k : IntKind} {w w' : World} {a : Option Addr} {l : List Int} (h : IntsAt k w a l) (hb : Below w.heap.size w w') : IntsAt k w' a l := by
  obtain ⟨hm, h | ⟨b, off, ha, hc⟩⟩ := h
  · exact ⟨hm, .inl h⟩
  · exact ⟨hm, .inr ⟨b, off, ha, fun i hi => (hb.cell (p := ⟨b, off + i, none⟩) (World.block_lt_of_cell? w _ (hc i hi))).trans (hc i hi)⟩⟩

theorem ints_cell {k : IntKind} {w : World} {a : Option Addr} {l : List Int} (h : IntsAt k w a l) {i : Nat} (hi : i < l.length) : ∃ b off, a = some ⟨b, off, none⟩ ∧ w.cell? ⟨b, off + i, none⟩ = some (.int k (l.getD i 0)) := by
  rcases h.2 with h | ⟨b, off, ha, hc⟩
  · rw [h] at hi; simp at hi
  · exact ⟨b, off, ha, hc i hi⟩

def regsB (l : List Int) (n : Int) : Bool := decide (l.length ≤ 1024) && l.all (fun v => insB v n)

theorem all_take_succ {f : Int → Bool} {l : List Int} {k : Nat} (hk : k < l.length) : (l.take (k + 1)).all f = ((l.take k).all f && f (l.getD k 0)) := by
  rw [List.take_succ_eq_append_getElem hk, List.all_append]
  simp [List.getD, hk]

theorem not_all {f : Int → Bool} {l : List Int} {k : Nat} (hk : k < l.length) (h : f (l.getD k 0) = false) : l.all f = false := by
  rw [List.all_eq_false]
  refine ⟨l[k], List.getElem_mem hk, ?_⟩
  simpa [List.getD, hk] using h

theorem regs1_any (v n : Int) (q : Nat) (w : World) (hq : w.cell? ⟨q, 1, none⟩ = some (.int .i64 n)) :
    Calls Try.prog 98 #[.int .i64 v, .pointer (some ⟨q, 0, none⟩)] w fun x w' => x = .returned (.bool !(insB v n)) ∧ w' = w := by
  have CI := Lib.hid (fun W => inside_any v n W)
  go_enter Try.func98, Try.ntmps98
  go_wp2_with (first | (go_at_call 63; refine (CI.out _).mono ?_; rintro e w1 ⟨rfl, rfl⟩))
  go_ret
  exact ⟨rfl, rfl⟩

set_option maxHeartbeats 2000000 in
theorem idxregs_any (a : Option Addr) (l : List Int) (cap : Nat) (n : Int) (q : Nat) (w : World) (h : IntsAt .i64 w a l) (hq : w.cell? ⟨q, 1, none⟩ = some (.int .i64 n)) :
    Calls Try.prog 102 #[.slice a l.length cap, .func (.func 98) #[] #[.pointer (some ⟨q, 0, none⟩)]] w fun x w' => (∃ r : Int, x = .returned (.int .i64 r) ∧ decide (0 ≤ r) = !(l.all fun v => insB v n)) ∧ w' = w := by
  have hm := h.1
  have hm2 : (l.length : Int) ≤ 9223372036854775807 := by unfold maxLen at hm; omega
  have HA := Lib.hid h
  clear h
  go_enter Try.func102, Try.ntmps102
  go_wp2_with fail
  go_loopw [8] (fun vi wr => ∃ k : Nat, vi = .int .i64 k ∧ k ≤ l.length ∧ (l.take k).all (fun v => insB v n) = true ∧ wr = w) (fun vi _ => l.length - (intOf vi).toNat)
  case atStart => exact ⟨0, rfl, Nat.zero_le _, by simp, rfl⟩
  case round =>
    obtain ⟨k, rfl, hk, hall, rfl⟩ := hrel
    by_cases hlt : k < l.length
    · obtain ⟨b, off, ha, hc⟩ := ints_cell HA.out hlt
      obtain ⟨v, hv⟩ : ∃ v, l.getD k 0 = v := ⟨_, rfl⟩
      rw [hv] at hc
      subst ha
      have HL := Lib.hid hall
      have HV := Lib.hid hv
      clear hall hv
      cases hi : insB v n
      · have CR := Lib.hid (fun W hq => regs1_any v n q W hq)
        go_wp2_with (first | (go_at_call 98; refine (CR.out _ hq).mono ?_; rw [hi]; rintro e w1 ⟨rfl, rfl⟩))
        go_ret
        exact ⟨⟨_, rfl, by rw [not_all hlt (by rw [HV.out]; exact hi)]; simp⟩, by trivial⟩
      · have CR := Lib.hid (fun W hq => regs1_any v n q W hq)
        go_wp2_with (first | (go_at_call 98; refine (CR.out _ hq).mono ?_; rw [hi]; rintro e w1 ⟨rfl, rfl⟩))
        go_roundw
        case rel => exact ⟨k + 1, by go_num, hlt, by rw [all_take_succ hlt, HL.out, HV.out, hi]; rfl, by trivial⟩
        case measure => simp [intOf]; omega
    · obtain rfl : k = l.length := by omega
      go_wp2_with fail
      go_ret
      exact ⟨⟨_, rfl, by rw [List.take_length] at hall; rw [hall]; rfl⟩, by trivial⟩

theorem conregs_any (a : Option Addr) (l : List Int) (cap : Nat) (n : Int) (q : Nat) (w : World) (h : IntsAt .i64 w a l) (hq : w.cell? ⟨q, 1, none⟩ = some (.int .i64 n)) :
    Calls Try.prog 97 #[.slice a l.length cap, .func (.func 98) #[] #[.pointer (some ⟨q, 0, none⟩)]] w fun x w' => x = .returned (.bool !(l.all fun v => insB v n)) ∧ w' = w := by
  have C := Lib.hid (idxregs_any a l cap n q w h hq)
  clear h hq
  go_enter Try.func97, Try.ntmps97
  go_wp2_with (first | (go_at_call 102; refine C.out.mono ?_; rintro e w1 ⟨⟨r, rfl, hr⟩, rfl⟩))
  go_ret
  exact ⟨rfl, rfl⟩

theorem KAt.fcell1 {W : World} {m : Nat} {ps n : Int} {v : Value} (h : KAt W m (.cells #[.int .i64 ps, .int .i64 n, v] 61 (0, 0))) : W.cell? ⟨m, 1, none⟩ = some (.int .i64 n) := by rw [cell_of_row _ _ _ _ _ _ h.x]; rfl

theorem regs_any (a : Option Addr) (l : List Int) (cap : Nat) (ps n : Int) (ca : Option Addr) (cn cc : Nat) (w : World) (h : IntsAt .i64 w a l) :
    Calls Try.prog 85 #[.slice a l.length cap, .agg #[.int .i64 ps, .int .i64 n, .slice ca cn cc]] w fun x w' => x = .returned (.bool (regsB l n)) ∧ Below w.heap.size w w' := by
  have hmf : ∀ (fn : Fn) (first cap : Array Value) (w : World), (Instr.makeFunc fn first cap).run Try.prog w = .ok (.func fn first cap) w := fun _ _ _ _ => rfl
  have CC := Lib.hid (fun W q h hq => conregs_any a l cap n q W h hq)
  have hA : ∀ o, Below w.heap.size w (w.alloc o) := fun o => (Below.refl _ _).alloc (Nat.le_refl _) _
  have HA := Lib.hid hA
  have H := Lib.hid h
  have hm := h.1
  have hm2 : (l.length : Int) ≤ 9223372036854775807 := by unfold maxLen at hm; omega
  clear hA h hm
  by_cases hl : l.length ≤ 1024
  · have k1 : decide ((l.length : Int) ≤ 1024) = true := decide_eq_true (by omega)
    go_enter Try.func85, Try.ntmps85
    go_wp2_with (first | (go_at_call 97; refine (CC.out _ _ (H.out.below (HA.out _)) (KAt.fcell1 (KAt.new _ _))).mono ?_; rintro e w1 ⟨rfl, rfl⟩))
    go_ret
    exact ⟨by simp [regsB, hl], HA.out _⟩
  · have k1 : decide ((l.length : Int) ≤ 1024) = false := decide_eq_false (by omega)
    go_enter Try.func85, Try.ntmps85
    go_wp2_with fail
    go_ret
    exact ⟨by simp [regsB, hl], HA.out _⟩

set_option maxHeartbeats 2000000 in
theorem rregs_any (a : Option Addr) (l : List Int) (cap : Nat) (ps n : Int) (ca : Option Addr) (cn cc : Nat) (w : World) (h : IntsAt .i64 w a l) :
    Calls Try.prog 89 #[.slice a l.length cap, .agg #[.int .i64 ps, .int .i64 n, .slice ca cn cc]] w fun x w' => x = .returned (.bool (regsB l n)) ∧ Below w.heap.size w w' := by
  have hA : ∀ o, Below w.heap.size w (w.alloc o) := fun o => (Below.refl _ _).alloc (Nat.le_refl _) _
  have HA := Lib.hid (h.below (hA (.cells #[.int .i64 ps, .int .i64 n, .slice ca cn cc] 61)))
  have hB := hA (.cells #[.int .i64 ps, .int .i64 n, .slice ca cn cc] 61)
  have K := KAt.new w (.cells #[.int .i64 ps, .int .i64 n, .slice ca cn cc] 61 (0, 0))
  have hq : (w.alloc (.cells #[.int .i64 ps, .int .i64 n, .slice ca cn cc] 61)).cell? ⟨w.heap.size, 1, none⟩ = some (.int .i64 n) := by rw [cell_of_row _ _ _ _ _ _ K.x]; rfl
  have hm := h.1
  have hm2 : (l.length : Int) ≤ 9223372036854775807 := by unfold maxLen at hm; omega
  obtain ⟨W, hW⟩ : ∃ W, w.alloc (.cells #[.int .i64 ps, .int .i64 n, .slice ca cn cc] 61) = W := ⟨_, rfl⟩
  rw [hW] at HA hB hq
  have HB := Lib.hid hB
  clear hA h K hB
  go_enter Try.func89, Try.ntmps89
  go_wp2_with fail
  go_loopw [5] (fun vi wr => ∃ k : Nat, vi = .int .i64 k ∧ k ≤ l.length ∧ (l.take k).all (fun v => insB v n) = true ∧ IntsAt .i64 wr a l ∧ wr.cell? ⟨w.heap.size, 1, none⟩ = some (.int .i64 n) ∧ Below w.heap.size w wr) (fun vi _ => l.length - (intOf vi).toNat)
  case atStart => exact ⟨0, rfl, Nat.zero_le _, by simp, HA.out, hq, HB.out⟩
  case round =>
    obtain ⟨k, rfl, hk, hall, hI, hqr, hbr⟩ := hrel
    have HI := Lib.hid hI
    have HBR := Lib.hid hbr
    clear hq hbr hW HA HB
    by_cases hlt : k < l.length
    · obtain ⟨b, off, ha, hc⟩ := ints_cell hI hlt
      obtain ⟨v, hv⟩ : ∃ v, l.getD k 0 = v := ⟨_, rfl⟩
      rw [hv] at hc
      subst ha
      have HL := Lib.hid hall
      have HV := Lib.hid hv
      clear hall hv hI
      cases hi : insB v n
      · have CI := Lib.hid (fun W => within_eq hi W)
        go_wp2_with fail
        go_quiet (first | (go_at_call 74; refine Calls.quiet_of_same (CI.out _)))
        go_wp2_with fail
        go_ret
        exact ⟨by simp [regsB, not_all hlt (f := fun v => insB v n) (by rw [HV.out]; exact hi)], below_drewN HBR.out _⟩
      · have CI := Lib.hid (fun W => within_eq hi W)
        go_wp2_with fail
        go_quiet (first | (go_at_call 74; refine Calls.quiet_of_same (CI.out _)))
        go_wp2_with fail
        go_roundw
        case rel => exact ⟨k + 1, by go_num, hlt, by rw [all_take_succ hlt, HL.out, HV.out, hi]; rfl, HI.out.below (below_drewN (Below.refl _ _) _), by simpa using hqr, below_drewN HBR.out _⟩
        case measure => simp [intOf]; omega
    · obtain rfl : k = l.length := by omega
      rw [List.take_length] at hall
      have HL := Lib.hid hall
      clear hall hI
      go_wp2_with fail
      go_ret
      exact ⟨ret_bool (by rw [regsB, HL.out, Bool.and_true]; exact decide_eq_decide.2 (by omega)), HBR.out⟩
end Go.Proofs.Ytgbgahdeopedpaa
