/- Walks of layer 16: a small program's instructions, one by one. -/
import Derived.Test.YtgbgahdeopedpaaIw
import Derived.Test.YtgbgahdeopedpaaFw1
namespace Go.Proofs.Ytgbgahdeopedpaa
open Go.RowKit
set_option linter.unusedVariables false
attribute [local go_sem] ext_mk size_mk toList_mk get_mk take_drop_len take_tail_len ByteArray.mk_append_mk List.append_toArray

theorem ins_any (n e : Int) (h0 : 0 ≤ n) (h1 : n < e) (w : World) : Calls Try.prog 63 #[.int .i64 n, .int .i64 e] w fun x w' => x = .returned (.bool true) ∧ w' = w := by
  have k0 : decide (0 ≤ n) = true := decide_eq_true h0
  have k1 : decide (n < e) = true := decide_eq_true h1
  go_enter Try.func63, Try.ntmps63
  go_wp2
  go_ret
  exact ⟨rfl, rfl⟩

/-- the two instructions and the function -/
def xFix : Value := .agg #[.int .i64 1, .int .i64 0, .int .i64 0, .int .i64 0, .slice none 0 0, .slice none 0 0]

def xHalt : Value := .agg #[.int .i64 13, .int .i64 0, .int .i64 0, .int .i64 0, .slice none 0 0, .slice none 0 0]

def fOne (C cc : Nat) : Value := .agg #[.int .i64 0, .int .i64 1, .slice (some ⟨C, 0, none⟩) 2 cc]

theorem keeps_fix (p : Value) (w : World) : Calls Try.prog 68 #[p, .agg #[.int .i64 1, .int .i64 0, .int .i64 0, .int .i64 0, .slice none 0 0, .slice none 0 0]] w fun x w' => x = .returned (.bool false) ∧ Below w.heap.size w w' := by
  go_enter Try.func68, Try.ntmps68
  go_wp2
  go_ret
  exact ⟨rfl, (Below.refl _ _).alloc (Nat.le_refl _) _⟩

theorem keeps_halt (p : Value) (w : World) : Calls Try.prog 68 #[p, .agg #[.int .i64 13, .int .i64 0, .int .i64 0, .int .i64 0, .slice none 0 0, .slice none 0 0]] w fun x w' => x = .returned (.bool false) ∧ Below w.heap.size w w' := by
  go_enter Try.func68, Try.ntmps68
  go_wp2
  go_ret
  exact ⟨rfl, (Below.refl _ _).alloc (Nat.le_refl _) _⟩

theorem on_fix (w : World) : Calls Try.prog 50 #[.agg #[.int .i64 1, .int .i64 0, .int .i64 0, .int .i64 0, .slice none 0 0, .slice none 0 0]] w fun x w' => x = .returned (.int .i64 0) ∧ Below w.heap.size w w' := by
  go_enter Try.func50, Try.ntmps50
  go_wp2
  go_ret
  exact ⟨rfl, (Below.refl _ _).alloc (Nat.le_refl _) _⟩

theorem on_halt (w : World) : Calls Try.prog 50 #[.agg #[.int .i64 13, .int .i64 0, .int .i64 0, .int .i64 0, .slice none 0 0, .slice none 0 0]] w fun x w' => x = .returned (.int .i64 1) ∧ Below w.heap.size w w' := by
  go_enter Try.func50, Try.ntmps50
  go_wp2
  go_ret
  exact ⟨rfl, (Below.refl _ _).alloc (Nat.le_refl _) _⟩

set_option maxHeartbeats 2000000 in
theorem ending_halt (p : Value) (C cc : Nat) (w : World) : Calls Try.prog 87 #[p, .agg #[.int .i64 0, .int .i64 1, .slice (some ⟨C, 0, none⟩) 2 cc], .agg #[.int .i64 13, .int .i64 0, .int .i64 0, .int .i64 0, .slice none 0 0, .slice none 0 0]] w fun x w' => x = .returned (.bool true) ∧ Below w.heap.size w w' := by
  have CI := Lib.hid (fun n e h0 h1 W => ins_any n e h0 h1 W)
  go_enter Try.func87, Try.ntmps87
  go_wp2_with fail
  go_quiet (first | (go_at_call 63; refine Calls.quiet_of_same (CI.out _ _ (by decide) (by decide) _)))
  go_wp2_with fail
  go_ret
  exact ⟨rfl, below_drewN (((Below.refl _ _).alloc (Nat.le_refl _) _).alloc (by simp) _) _⟩

theorem frm_cells {w w1 : World} {n : Nat} {a0 a1 a2 x0 x1 x2 x3 x4 x5 : Value} {T U : TypeId} (h : Below (((w.alloc (.cells #[a0, a1, a2] T)).alloc (.cells #[x0, x1, x2, x3, x4, x5] U)).drewN n).heap.size (((w.alloc (.cells #[a0, a1, a2] T)).alloc (.cells #[x0, x1, x2, x3, x4, x5] U)).drewN n) w1) :
    w1.cell? ⟨w.heap.size + 1, 0, none⟩ = some x0 ∧ w1.cell? ⟨w.heap.size + 1, 1, none⟩ = some x1 ∧ w1.cell? ⟨w.heap.size + 1, 2, none⟩ = some x2 ∧ w1.cell? ⟨w.heap.size + 1, 3, none⟩ = some x3 ∧ w1.cell? ⟨w.heap.size + 1, 4, none⟩ = some x4 ∧ w1.cell? ⟨w.heap.size + 1, 5, none⟩ = some x5 ∧
    w1.cell? ⟨w.heap.size, 0, none⟩ = some a0 ∧ w1.cell? ⟨w.heap.size, 1, none⟩ = some a1 ∧ w1.cell? ⟨w.heap.size, 2, none⟩ = some a2 := by
  have hs : (((w.alloc (.cells #[a0, a1, a2] T)).alloc (.cells #[x0, x1, x2, x3, x4, x5] U)).drewN n).heap.size = w.heap.size + 2 := by
    show ((w.alloc (.cells #[a0, a1, a2] T)).alloc (.cells #[x0, x1, x2, x3, x4, x5] U)).heap.size = _
    simp
  have hX : w1.heap[w.heap.size + 1]? = some (.cells #[x0, x1, x2, x3, x4, x5] U (0, 0)) := by
    rw [h.block _ (by rw [hs]; omega)]; exact heap_alloc2_new _ _ _
  have hA : w1.heap[w.heap.size]? = some (.cells #[a0, a1, a2] T (0, 0)) := by
    rw [h.block _ (by rw [hs]; omega)]
    show ((w.alloc (.cells #[a0, a1, a2] T)).alloc (.cells #[x0, x1, x2, x3, x4, x5] U)).heap[w.heap.size]? = _
    rw [heap_alloc_old]; exact heap_alloc_new _ _
    simp
  refine ⟨?_, ?_, ?_, ?_, ?_, ?_, ?_, ?_, ?_⟩
  all_goals first
    | (rw [cell_of_row _ _ _ _ _ _ hX]; rfl)
    | (rw [cell_of_row _ _ _ _ _ _ hA]; rfl)

set_option maxHeartbeats 2000000 in
set_option maxRecDepth 8000 in
theorem form_fix (p : Value) (C cc : Nat) (w : World) : Calls Try.prog 64 #[p, .agg #[.int .i64 0, .int .i64 1, .slice (some ⟨C, 0, none⟩) 2 cc], .agg #[.int .i64 1, .int .i64 0, .int .i64 0, .int .i64 0, .slice none 0 0, .slice none 0 0]] w fun x w' => x = .returned (.bool true) ∧ Below w.heap.size w w' := by
  have CI := Lib.hid (fun n e h0 h1 W => ins_any n e h0 h1 W)
  have CK := Lib.hid (fun W => keeps_fix p W)
  have CE := Lib.hid (fun W => ending_halt p C cc W)
  have hb0 : Below w.heap.size w ((w.alloc (.cells #[.int .i64 0, .int .i64 1, .slice (some ⟨C, 0, none⟩) 2 cc] 61)).alloc (.cells #[.int .i64 1, .int .i64 0, .int .i64 0, .int .i64 0, .slice none 0 0, .slice none 0 0] 58)) := ((Below.refl _ _).alloc (Nat.le_refl _) _).alloc (by simp) _
  have HB := Lib.hid hb0
  clear hb0
  go_enter Try.func64, Try.ntmps64
  go_wp2_with fail
  go_quiet (first | (go_at_call 63; refine Calls.quiet_of_same (CI.out _ _ (by decide) (by decide) _)))
  have hb1 := below_drewN HB.out nq
  go_wp2_with (first
    | (go_at_call 68; refine (CK.out _).mono ?_; rintro e w1 ⟨rfl, hb2⟩; have hb3 := hb1.trans (hb2.mono hb1.size); have HC := Lib.hid (frm_cells hb2); have c0 := HC.out.1; have c1 := HC.out.2.1; have c2 := HC.out.2.2.1; have c3 := HC.out.2.2.2.1; have c4 := HC.out.2.2.2.2.1; have c5 := HC.out.2.2.2.2.2.1; have f0 := HC.out.2.2.2.2.2.2.1; have f1 := HC.out.2.2.2.2.2.2.2.1; have f2 := HC.out.2.2.2.2.2.2.2.2)
    | (go_at_call 86; refine (right_any _ _).mono ?_; rintro e w2 ⟨rfl, rfl⟩)
    | (go_at_call 87; refine (CE.out _).mono ?_; rintro e w2 ⟨rfl, hb4⟩; have hb3 := hb3.trans (hb4.mono hb3.size)))
  go_ret
  exact ⟨rfl, hb3⟩

set_option maxHeartbeats 2000000 in
set_option maxRecDepth 8000 in
theorem form_halt (p : Value) (C cc : Nat) (w : World) : Calls Try.prog 64 #[p, .agg #[.int .i64 0, .int .i64 1, .slice (some ⟨C, 0, none⟩) 2 cc], .agg #[.int .i64 13, .int .i64 0, .int .i64 0, .int .i64 0, .slice none 0 0, .slice none 0 0]] w fun x w' => x = .returned (.bool true) ∧ Below w.heap.size w w' := by
  have CI := Lib.hid (fun n e h0 h1 W => ins_any n e h0 h1 W)
  have CK := Lib.hid (fun W => keeps_halt p W)
  have CE := Lib.hid (fun W => ending_halt p C cc W)
  have hb0 : Below w.heap.size w ((w.alloc (.cells #[.int .i64 0, .int .i64 1, .slice (some ⟨C, 0, none⟩) 2 cc] 61)).alloc (.cells #[.int .i64 13, .int .i64 0, .int .i64 0, .int .i64 0, .slice none 0 0, .slice none 0 0] 58)) := ((Below.refl _ _).alloc (Nat.le_refl _) _).alloc (by simp) _
  have HB := Lib.hid hb0
  clear hb0
  go_enter Try.func64, Try.ntmps64
  go_wp2_with fail
  go_quiet (first | (go_at_call 63; refine Calls.quiet_of_same (CI.out _ _ (by decide) (by decide) _)))
  have hb1 := below_drewN HB.out nq
  go_wp2_with (first
    | (go_at_call 68; refine (CK.out _).mono ?_; rintro e w1 ⟨rfl, hb2⟩; have hb3 := hb1.trans (hb2.mono hb1.size); have HC := Lib.hid (frm_cells hb2); have c0 := HC.out.1; have c1 := HC.out.2.1; have c2 := HC.out.2.2.1; have c3 := HC.out.2.2.2.1; have c4 := HC.out.2.2.2.2.1; have c5 := HC.out.2.2.2.2.2.1; have f0 := HC.out.2.2.2.2.2.2.1; have f1 := HC.out.2.2.2.2.2.2.2.1; have f2 := HC.out.2.2.2.2.2.2.2.2)
    | (go_at_call 86; refine (right_any _ _).mono ?_; rintro e w2 ⟨rfl, rfl⟩)
    | (go_at_call 87; refine (CE.out _).mono ?_; rintro e w2 ⟨rfl, hb4⟩; have hb3 := hb3.trans (hb4.mono hb3.size)))
  go_ret
  exact ⟨rfl, hb3⟩
end Go.Proofs.Ytgbgahdeopedpaa
