/- Walks of layer 16 at any instruction: whether Live stands at it; bounds; registers; rows of registers. -/
import Derived.Test.YtgbgahdeopedpaaCw
import Derived.Test.YtgbgahdeopedpaaCa
import Derived.BigQuiet
namespace Go.Proofs.Ytgbgahdeopedpaa
open Go.RowKit
set_option linter.unusedVariables false
attribute [local go_sem] ext_mk size_mk toList_mk get_mk take_drop_len take_tail_len ByteArray.mk_append_mk List.append_toArray

def insB (n e : Int) : Bool := decide (0 ≤ n) && decide (n < e)

theorem insB_true {n e : Int} (h : insB n e = true) : 0 ≤ n ∧ n < e := by simpa [insB] using h

theorem inside_any (n e : Int) (w : World) : Calls Try.prog 63 #[.int .i64 n, .int .i64 e] w fun x w' => x = .returned (.bool (insB n e)) ∧ w' = w := by
  cases k0 : decide (0 ≤ n)
  all_goals
    go_enter Try.func63, Try.ntmps63
    go_wp2
    go_ret
    exact ⟨by simp [insB, k0], rfl⟩

theorem within_any (n e : Int) (w : World) : Calls Try.prog 74 #[.int .i64 n, .int .i64 e] w fun x w' => x = .returned (.bool (insB n e)) ∧ w' = w := by
  cases k0 : decide (0 ≤ n)
  all_goals
    go_enter Try.func74, Try.ntmps74
    go_wp2
    go_ret
    exact ⟨by simp [insB, k0], rfl⟩

def keepsI (op b : Int) : Bool := op == 2 || op == 3 || op == 5 || (op == 8 && allocB b)

theorem allocB_out {b : Int} (h : insB b 61 = false) : allocB b = false := by
  unfold allocB
  rw [if_neg]
  intro q
  simp [insB] at h
  omega

theorem inside_eq {n e : Int} {v : Bool} (h : insB n e = v) (w : World) : Calls Try.prog 63 #[.int .i64 n, .int .i64 e] w fun x w' => x = .returned (.bool v) ∧ w' = w := by
  have := inside_any n e w
  rwa [h] at this

theorem within_eq {n e : Int} {v : Bool} (h : insB n e = v) (w : World) : Calls Try.prog 74 #[.int .i64 n, .int .i64 e] w fun x w' => x = .returned (.bool v) ∧ w' = w := by
  have := within_any n e w
  rwa [h] at this

theorem op_2358 (op : Int) : op = 2 ∨ op = 3 ∨ op = 5 ∨ op = 8 ∨ ((op == 2) = false ∧ (op == 3) = false ∧ (op == 5) = false ∧ (op == 8) = false) := by
  simp only [beq_eq_false_iff_ne, ne_eq]; omega

set_option maxHeartbeats 4000000 in
set_option maxRecDepth 8000 in
theorem keeps_any (p : Nat) (fa sa ra : Option Addr) (fn sn rn fc sc rc : Nat) (en : Int) (op a b c : Int) (la va : Option Addr) (ln lc vn vc : Nat) (w : World) (hW : WoAt w p fa sa ra fn sn rn fc sc rc en) :
    Calls Try.prog 68 #[.pointer (some ⟨p, 0, none⟩), .agg #[.int .i64 op, .int .i64 a, .int .i64 b, .int .i64 c, .slice la ln lc, .slice va vn vc]] w fun x w' => x = .returned (.bool (keepsI op b)) ∧ Below w.heap.size w w' := by
  rcases op_2358 op with rfl | rfl | rfl | rfl | ⟨k2, k3, k5, k8⟩
  · go_enter Try.func68, Try.ntmps68
    go_wp2
    go_ret
    exact ⟨rfl, (Below.refl _ _).alloc (Nat.le_refl _) _⟩
  · go_enter Try.func68, Try.ntmps68
    go_wp2
    go_ret
    exact ⟨rfl, (Below.refl _ _).alloc (Nat.le_refl _) _⟩
  · go_enter Try.func68, Try.ntmps68
    go_wp2
    go_ret
    exact ⟨rfl, (Below.refl _ _).alloc (Nat.le_refl _) _⟩
  · obtain ⟨g, cap, h, ac, hB, hP, hh, hal⟩ := hW
    have e1 : ∀ o, (w.alloc o).cell? ⟨p, 4, none⟩ = some (.slice (some ⟨g, 0, none⟩) 61 cap) := fun o => (hB.below ((Below.refl _ _).alloc (Nat.le_refl _) o)).cells.1.2.2.2.2.1
    have e2 : ∀ o, (w.alloc o).cell? ⟨p, 5, none⟩ = some (.slice (some ⟨h, 0, none⟩) 61 ac) := fun o => (hB.below ((Below.refl _ _).alloc (Nat.le_refl _) o)).cells.1.2.2.2.2.2
    cases hi : insB b 61
    · have hk := allocB_out hi
      have CI := Lib.hid (fun W => inside_eq hi W)
      clear hal hP
      go_enter Try.func68, Try.ntmps68
      go_wp2_with fail
      go_quiet (first | (go_at_call 63; refine Calls.quiet_of_same (CI.out _)))
      go_wp2_with fail
      go_ret
      exact ⟨by simp [keepsI, hk], below_drewN ((Below.refl _ _).alloc (Nat.le_refl _) _) _⟩
    · obtain ⟨h0, h1⟩ := insB_true hi
      obtain ⟨n, rfl⟩ := Int.eq_ofNat_of_zero_le h0
      have hc : ∀ o, (w.alloc o).cell? ⟨h, n, none⟩ = some (.bool (allocB (n : Int))) := fun o => (((Below.refl w.heap.size w).alloc (Nat.le_refl _) o).cell (p := ⟨h, n, none⟩) hh).trans (hal n (by omega))
      have k1 : decide ((n : Int) < 61) = true := decide_eq_true h1
      have CI := Lib.hid (fun W => inside_eq hi W)
      clear hal hP
      go_enter Try.func68, Try.ntmps68
      go_wp2_with fail
      go_quiet (first | (go_at_call 63; refine Calls.quiet_of_same (CI.out _)))
      go_wp2_with fail
      go_ret
      exact ⟨by simp [keepsI], below_drewN ((Below.refl _ _).alloc (Nat.le_refl _) _) _⟩
  · go_enter Try.func68, Try.ntmps68
    go_wp2
    go_ret
    exact ⟨by simp [keepsI, k2, k3, k5, k8], (Below.refl _ _).alloc (Nat.le_refl _) _⟩
end Go.Proofs.Ytgbgahdeopedpaa
