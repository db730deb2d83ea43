/- Walks of layer 24: the check sum's table. -/
import Derived.Test.YtgbgahdeopedpaaChecked
import Derived.Test.YtgbgahdeopedpaaBase
import Derived.Test.YtgbgahdeopedpaaIs
import Derived.Deep.WholeRow
import Derived.Deep.MidRow
import Derived.Laws.BitsAllLaws
import Derived.KernelRfl
import Derived.Laws.CopyOwn
namespace Go.Proofs.Ytgbgahdeopedpaa
open Go.RowKit
open Im
set_option linter.unusedVariables false

theorem info53 : (Try.prog.info? 53).map (fun i => (i.zero, i.size)) = some (some (.agg (Array.replicate 256 (.int .u32 0))), 256) := by kernel_rfl

/-- the table, so far -/
def tabP (i : Nat) : Array Value := ((List.range 256).map fun j => Value.int .u32 ((if j < i then stK 8 j else 0 : Nat) : Int)).toArray

theorem tabP_size (i : Nat) : (tabP i).size = 256 := by simp [tabP]

theorem tabP_one (i : Nat) : (tabP i).all (·.oneCell') = true := by
  rw [Array.all_eq_true]
  intro j hj
  simp [tabP]; rfl

theorem tabP_get (i j : Nat) (h : j < 256) : (tabP i)[j]? = some (.int .u32 ((if j < i then stK 8 j else 0 : Nat) : Int)) := by
  simp [tabP, h]

theorem tabP_zero : tabP 0 = Array.replicate 256 (.int .u32 0) := by
  apply Array.ext_getElem?
  intro j
  by_cases hj : j < 256
  · rw [tabP_get _ _ hj, if_neg (by omega)]; simp [hj]
  · rw [Array.getElem?_eq_none (by rw [tabP_size]; omega), Array.getElem?_eq_none (by simp; omega)]

theorem tabP_next (i : Nat) (h : i < 256) : (tabP i).setIfInBounds i (.int .u32 ((stK 8 i : Nat) : Int)) = tabP (i + 1) := by
  apply Array.ext_getElem?
  intro j
  rw [Array.getElem?_setIfInBounds]
  by_cases hj : j < 256
  · rw [tabP_get _ _ hj, tabP_get _ _ hj]
    by_cases e : i = j
    · subst e; simp [tabP_size, h]
    · rw [if_neg e]
      by_cases hl : j < i
      · rw [if_pos hl, if_pos (by omega)]
      · rw [if_neg hl, if_neg (by omega)]
  · have e : i ≠ j := by omega
    rw [if_neg e, Array.getElem?_eq_none (by rw [tabP_size]; omega), Array.getElem?_eq_none (by rw [tabP_size]; omega)]

theorem st1_odd {x : Nat} (h : x % 2 = 1) : st1 x = x / 2 ^^^ 3988292384 := if_pos h

theorem st1_ev {x : Nat} (h : ¬ x % 2 = 1) : st1 x = x / 2 := if_neg h

set_option maxHeartbeats 2000000 in
set_option maxRecDepth 100000 in
theorem table_any (w : World) : Calls Try.prog 21 #[] w fun e w' => e = .returned (.agg (tabP 256)) ∧ Below w.heap.size w w' := by
  obtain ⟨hz, hi⟩ := zero_of_info (P := Try.prog) info53
  rw [← tabP_zero] at hz
  have hsz := tabP_size 0
  go_enter Try.func21, Try.ntmps21
  go_wp2
  go_loopw [4] (fun vi wr => ∃ i : Nat, vi = .int .i64 i ∧ i ≤ 256 ∧ wr = (w.alloc (.cells (tabP 0) 53)).alloc (.cells (tabP i) 53)) (fun vi _ => 256 - (intOf vi).toNat)
  case atStart => exact ⟨0, rfl, by decide, rfl⟩
  case round =>
    obtain ⟨i, rfl, hi2, rfl⟩ := hrel
    by_cases hlt : i < 256
    · go_wp2
      go_loopw [3, 9] (fun vx vj wq => ∃ j : Nat, vj = .int .i64 j ∧ j ≤ 8 ∧ vx = .int .u32 ((stK j i : Nat) : Int) ∧ wq = (w.alloc (.cells (tabP 0) 53)).alloc (.cells (tabP i) 53)) (fun _ vj _ => 8 - (intOf vj).toNat)
      case atStart => exact ⟨0, rfl, by decide, by simp [stK], rfl⟩
      case round =>
        obtain ⟨j, rfl, hj, rfl, rfl⟩ := hrel
        obtain ⟨X, hX⟩ : ∃ X, stK j i = X := ⟨_, rfl⟩
        have hx : X < 4294967296 := by rw [← hX]; exact stK_lt (x := i) (by omega) j
        have hgi := tabP_get i i hlt
        rw [hX]
        by_cases hlj : j < 8
        · have hn : stK (j + 1) i = st1 X := by rw [← hX]; rfl
          have b1 : bits .and .u32 (X : Int) 1 = ((X % 2 : Nat) : Int) := by have := u32_and_nat X 1 hx (by decide); rw [nat_mask1] at this; exact this
          have b2 : bits .xor .u32 ((X / 2 : Nat) : Int) 3988292384 = ((X / 2 ^^^ 3988292384 : Nat) : Int) := u32_xor_nat (X / 2) 3988292384 (by omega) (by decide)
          by_cases hodd : X % 2 = 1
          · rw [st1_odd hodd] at hn
            have HN := Lib.hid hn
            clear hn hX
            go_wp2
            go_roundw
            case rel => exact ⟨j + 1, by go_num, by omega, by rw [HN.out]; exact congrArg (Value.int .u32) b2, trivial⟩
            case measure => simp [intOf]; omega
          · rw [st1_ev hodd] at hn
            have HN := Lib.hid hn
            have hev : X % 2 = 0 := by omega
            clear hn hX
            go_wp2
            go_roundw
            case rel => exact ⟨j + 1, by go_num, by omega, by rw [HN.out]; rfl, trivial⟩
            case measure => simp [intOf]; omega
        · obtain rfl : j = 8 := by omega
          have HX := Lib.hid hX
          clear hX
          go_wp2
          go_roundw
          case rel => exact ⟨i + 1, by go_num, by omega, by rw [← HX.out, tabP_next i hlt]⟩
          case measure => simp [intOf]; omega
    · obtain rfl : i = 256 := by omega
      have hi' : (Try.prog.info? 53).map (·.size) = some (tabP 256).size := by rw [tabP_size]; exact hi
      have hs0 : (tabP 0).size = (tabP 256).size := by rw [tabP_size, tabP_size]
      go_wp2
      refine wp_load_row 53 _ rfl (w.heap.size + 1) rfl 53 (tabP 256) (0, 0) _ (heap_alloc2_new _ _ _) Try.underlying53 rfl hi' ?_
      go_at_K
      go_wp2
      have hg : ((w.alloc (.cells (tabP 0) 53)).alloc (.cells (tabP 256) 53)).heap[w.heap.size]? = some (.cells (tabP 0) 53 (0, 0)) := by rw [heap_alloc_old]; exact heap_alloc_new _ _; simp
      have hsc := run_storeCells_from (P := Try.prog) w.heap.size 53 (tabP 256).toList 0 (tabP 0) _ hg (by simp [tabP_size]) (fun v hv => (Array.all_eq_true_iff_forall_mem.1 (tabP_one 256)) v (by simpa using hv))
      simp only [hsc, Result.andThen]
      rw [Oper.upon_skip]
      go_at_K
      go_wp2
      (try simp only [Exit.inBlock, Exit.then]); refine bodyPost_ret (results_cell_row rfl _ _ w.heap.size 53 (tabP 256) (0, 0) _ rfl (setRow_heap _ _ _ _ _ _ hg) Try.underlying53 rfl hi') rfl ?_
      exact ⟨rfl, below_setRow (((Below.refl _ _).alloc (Nat.le_refl _) _).alloc (by simp) _) (Nat.le_refl _) _⟩
end Go.Proofs.Ytgbgahdeopedpaa
