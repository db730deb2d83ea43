/- Walks of layer 16: where an instruction goes on, the program's side. -/
import Derived.Test.YtgbgahdeopedpaaCo
namespace Go.Proofs.Ytgbgahdeopedpaa
open Go.RowKit
set_option linter.unusedVariables false
attribute [local go_sem] ext_mk size_mk toList_mk get_mk take_drop_len take_tail_len ByteArray.mk_append_mk List.append_toArray

theorem on_eq (op a b c v : Int) (hv : onI op = v) (la ra : Option Addr) (ln lc rn rc : Nat) (w : World) : Calls Try.prog 50 #[.agg #[.int .i64 op, .int .i64 a, .int .i64 b, .int .i64 c, .slice la ln lc, .slice ra rn rc]] w fun x w' => x = .returned (.int .i64 v) ∧ Below w.heap.size w w' := by
  have := on_any op a b c la ra ln lc rn rc w
  rwa [hv] at this

/-- behind 'on': the instruction's box -/
structure NyAt (w V : World) (xo : Obj) : Prop where
  x : KAt V w.heap.size xo
  b : Below w.heap.size w V

theorem ny_start (w : World) (xo : Array Value) (T : TypeId) : NyAt w (w.alloc (.cells xo T)) (.cells xo T (0, 0)) := ⟨KAt.new w _, (Below.refl _ _).alloc (Nat.le_refl _) _⟩

theorem NyAt.below {w V V' : World} {xo : Obj} (h : NyAt w V xo) (hb : Below V.heap.size V V') : NyAt w V' xo := ⟨h.x.below hb, h.b.trans (hb.mono h.b.size)⟩

theorem ny_loop {w V : World} {c : Int} {l : List Int} {xo : Obj} (h : NyAt w V xo) : NxAt w (V.alloc (.cells #[.int .i64 c] 3)) c l xo 0 (.slice (some ⟨V.heap.size, 0, none⟩) 1 1) := by
  have hbV : Below V.heap.size V (V.alloc (.cells #[.int .i64 c] 3)) := (Below.refl _ _).alloc (Nat.le_refl _) _
  have hz := heap_lt h.x.x
  exact ⟨h.x.below hbV, ⟨by simp [ints], .inr ⟨_, 1, #[.int .i64 c], rfl, by omega, (KAt.new V (.cells #[.int .i64 c] 3 (0, 0))).x, Nat.le_refl _, by unfold maxLen; omega, rfl, rfl⟩⟩, h.b.trans (hbV.mono h.b.size)⟩

set_option maxHeartbeats 4000000 in
set_option maxRecDepth 8000 in
theorem next_any (p : Value) (k op a b c : Int) (l : List Int) (la va : Option Addr) (lc vn vc : Nat) (w : World) (hl : IntsAt .i64 w la l) (hk0 : 0 ≤ k) (hk1 : k < 4611686018427387904) (hll : l.length ≤ 1000000000) (h9l : op = 9 → l = []) :
    Calls Try.prog 71 #[p, .int .i64 k, .agg #[.int .i64 op, .int .i64 a, .int .i64 b, .int .i64 c, .slice la l.length lc, .slice va vn vc]] w fun e w' => NxR w (nextL k op c l) e w' := by
  have m1 : IntKind.i64.wrap (k + 1) = k + 1 := IntWalk.i64_in _ (by omega)
  have HI := Lib.hid hl
  clear hl
  have HB : ∀ W, Hid (NyAt w W (.cells #[.int .i64 op, .int .i64 a, .int .i64 b, .int .i64 c, .slice la l.length lc, .slice va vn vc] 58 (0, 0)) → ∀ o, Below w.heap.size w (W.alloc o)) := fun W => Lib.hid (fun h o => h.b.alloc h.b.size _)
  by_cases h11 : op = 11
  · subst h11
    have CO := Lib.hid (fun W => on_eq 11 a b c 1 rfl la va l.length lc vn vc W)
    have N0 := Lib.hid (ny_start w #[.int .i64 11, .int .i64 a, .int .i64 b, .int .i64 c, .slice la l.length lc, .slice va vn vc] 58)
    go_enter Try.func71, Try.ntmps71
    go_wp2_with (first
      | (go_at_call 50; refine (CO.out _).mono ?_; rintro e w1 ⟨rfl, hb⟩; have N := Lib.hid (N0.out.below hb); clear hb; have x0 : w1.cell? ⟨w.heap.size, 0, none⟩ = some (.int .i64 11) := (by rw [cell_of_row _ _ _ _ _ _ N.out.x.x]; rfl); have x3 : w1.cell? ⟨w.heap.size, 3, none⟩ = some (.int .i64 c) := (by rw [cell_of_row _ _ _ _ _ _ N.out.x.x]; rfl); have x4 : w1.cell? ⟨w.heap.size, 4, none⟩ = some (.slice la l.length lc) := (by rw [cell_of_row _ _ _ _ _ _ N.out.x.x]; rfl)))
    go_ret
    exact NxR.mk rfl (ints_nil _) N.out.b nx_none
  by_cases h12 : op = 12
  · subst h12
    have CO := Lib.hid (fun W => on_eq 12 a b c 1 rfl la va l.length lc vn vc W)
    have N0 := Lib.hid (ny_start w #[.int .i64 12, .int .i64 a, .int .i64 b, .int .i64 c, .slice la l.length lc, .slice va vn vc] 58)
    go_enter Try.func71, Try.ntmps71
    go_wp2_with (first
      | (go_at_call 50; refine (CO.out _).mono ?_; rintro e w1 ⟨rfl, hb⟩; have N := Lib.hid (N0.out.below hb); clear hb; have x0 : w1.cell? ⟨w.heap.size, 0, none⟩ = some (.int .i64 12) := (by rw [cell_of_row _ _ _ _ _ _ N.out.x.x]; rfl); have x3 : w1.cell? ⟨w.heap.size, 3, none⟩ = some (.int .i64 c) := (by rw [cell_of_row _ _ _ _ _ _ N.out.x.x]; rfl); have x4 : w1.cell? ⟨w.heap.size, 4, none⟩ = some (.slice la l.length lc) := (by rw [cell_of_row _ _ _ _ _ _ N.out.x.x]; rfl)))
    go_ret
    exact NxR.mk rfl (ints_nil _) N.out.b nx_none
  by_cases h13 : op = 13
  · subst h13
    have CO := Lib.hid (fun W => on_eq 13 a b c 1 rfl la va l.length lc vn vc W)
    have N0 := Lib.hid (ny_start w #[.int .i64 13, .int .i64 a, .int .i64 b, .int .i64 c, .slice la l.length lc, .slice va vn vc] 58)
    go_enter Try.func71, Try.ntmps71
    go_wp2_with (first
      | (go_at_call 50; refine (CO.out _).mono ?_; rintro e w1 ⟨rfl, hb⟩; have N := Lib.hid (N0.out.below hb); clear hb; have x0 : w1.cell? ⟨w.heap.size, 0, none⟩ = some (.int .i64 13) := (by rw [cell_of_row _ _ _ _ _ _ N.out.x.x]; rfl); have x3 : w1.cell? ⟨w.heap.size, 3, none⟩ = some (.int .i64 c) := (by rw [cell_of_row _ _ _ _ _ _ N.out.x.x]; rfl); have x4 : w1.cell? ⟨w.heap.size, 4, none⟩ = some (.slice la l.length lc) := (by rw [cell_of_row _ _ _ _ _ _ N.out.x.x]; rfl)))
    go_ret
    exact NxR.mk rfl (ints_nil _) N.out.b nx_none
  by_cases h9 : op = 9
  · subst h9
    have hl0 := h9l rfl
    have e : nextL k 9 c l = c :: oddL l := by rw [hl0]; rfl
    rw [e]
    clear hl0 h9l e
    have CO := Lib.hid (fun W => on_eq 9 a b c 2 rfl la va l.length lc vn vc W)
    have N0 := Lib.hid (ny_start w #[.int .i64 9, .int .i64 a, .int .i64 b, .int .i64 c, .slice la l.length lc, .slice va vn vc] 58)
    go_enter Try.func71, Try.ntmps71
    go_wp2_with (first
      | (go_at_call 50; refine (CO.out _).mono ?_; rintro e w1 ⟨rfl, hb⟩; have N := Lib.hid (N0.out.below hb); clear hb; have x0 : w1.cell? ⟨w.heap.size, 0, none⟩ = some (.int .i64 9) := (by rw [cell_of_row _ _ _ _ _ _ N.out.x.x]; rfl); have x3 : w1.cell? ⟨w.heap.size, 3, none⟩ = some (.int .i64 c) := (by rw [cell_of_row _ _ _ _ _ _ N.out.x.x]; rfl); have x4 : w1.cell? ⟨w.heap.size, 4, none⟩ = some (.slice la l.length lc) := (by rw [cell_of_row _ _ _ _ _ _ N.out.x.x]; rfl)))
    have NL := Lib.hid (ny_loop (c := c) (l := l) N.out)
    go_loopw [7, 8] (fun v7 v8 wr => ∃ j : Nat, v8 = .int .i64 (2 * j + 1 : Nat) ∧ j ≤ l.length / 2 ∧ NxAt w wr c l (.cells #[.int .i64 9, .int .i64 a, .int .i64 b, .int .i64 c, .slice la l.length lc, .slice va vn vc] 58 (0, 0)) j v7) (fun _ v8 _ => l.length + 2 - (intOf v8).toNat)
    case atStart => exact ⟨0, rfl, Nat.zero_le _, NL.out⟩
    case round =>
      obtain ⟨j, rfl, hj, hN⟩ := hrel
      have x4 : wr.cell? ⟨w.heap.size, 4, none⟩ = some (.slice la l.length lc) := by rw [cell_of_row _ _ _ _ _ _ hN.x.x]; rfl
      obtain ⟨i, hi⟩ : ∃ i, 2 * j + 1 = i := ⟨_, rfl⟩
      rw [hi]
      have N := Lib.hid hN
      have HJ := Lib.hid hi
      by_cases hlt : i < l.length
      · obtain ⟨lb, lo, rfl, c0⟩ := ints_cell (HI.out.below hN.b) hlt
        obtain ⟨z, hz⟩ : ∃ z, l.getD i 0 = z := ⟨_, rfl⟩
        rw [hz] at c0
        have m2 : IntKind.i64.wrap ((i : Int) + 2) = (i : Int) + 2 := IntWalk.i64_in _ (by omega)
        have HZ := Lib.hid hz
        clear hz hi hN
        go_wp2_with (first
          | (at_builtin; refine app_int N.out.o rfl _ _ rfl z rfl _ rfl rfl (by have := HJ.out; omega) (heap_lt N.out.x.x) ?_; intro g cap V ho hb; have HO := Lib.hid ho; have HBV := Lib.hid hb; clear ho hb))
        go_roundw
        case rel => exact ⟨j + 1, by (have := HJ.out); congr 1; omega, by have := HJ.out; omega, nx_next N.out HO.out HBV.out (by have := HJ.out; omega) (by rw [HJ.out]; exact HZ.out)⟩
        case measure => simp [intOf]; omega
      · obtain ⟨g, cap, rfl, hg1, hg2⟩ := hN.o.form (by omega)
        have hjl : j = l.length / 2 := by omega
        have ho := hN.o
        rw [List.take_of_length_le (by rw [oddL_length]; omega), hjl, show l.length / 2 + 1 = (c :: oddL l).length by simp [oddL_length]] at ho
        have HO := Lib.hid (ints_own ho)
        have HL := Lib.hid hjl
        clear hN hi ho hjl
        go_wp2_with fail
        go_ret
        exact NxR.mk (by rw [HL.out]; simp [oddL_length]) HO.out N.out.b (nx_some (Nat.le_of_succ_le hg1))
  by_cases h10 : op = 10
  · subst h10
    have e : nextL k 10 c l = c :: oddL l := rfl
    rw [e]
    clear e
    have CO := Lib.hid (fun W => on_eq 10 a b c 2 rfl la va l.length lc vn vc W)
    have N0 := Lib.hid (ny_start w #[.int .i64 10, .int .i64 a, .int .i64 b, .int .i64 c, .slice la l.length lc, .slice va vn vc] 58)
    go_enter Try.func71, Try.ntmps71
    go_wp2_with (first
      | (go_at_call 50; refine (CO.out _).mono ?_; rintro e w1 ⟨rfl, hb⟩; have N := Lib.hid (N0.out.below hb); clear hb; have x0 : w1.cell? ⟨w.heap.size, 0, none⟩ = some (.int .i64 10) := (by rw [cell_of_row _ _ _ _ _ _ N.out.x.x]; rfl); have x3 : w1.cell? ⟨w.heap.size, 3, none⟩ = some (.int .i64 c) := (by rw [cell_of_row _ _ _ _ _ _ N.out.x.x]; rfl); have x4 : w1.cell? ⟨w.heap.size, 4, none⟩ = some (.slice la l.length lc) := (by rw [cell_of_row _ _ _ _ _ _ N.out.x.x]; rfl)))
    have NL := Lib.hid (ny_loop (c := c) (l := l) N.out)
    go_loopw [7, 8] (fun v7 v8 wr => ∃ j : Nat, v8 = .int .i64 (2 * j + 1 : Nat) ∧ j ≤ l.length / 2 ∧ NxAt w wr c l (.cells #[.int .i64 10, .int .i64 a, .int .i64 b, .int .i64 c, .slice la l.length lc, .slice va vn vc] 58 (0, 0)) j v7) (fun _ v8 _ => l.length + 2 - (intOf v8).toNat)
    case atStart => exact ⟨0, rfl, Nat.zero_le _, NL.out⟩
    case round =>
      obtain ⟨j, rfl, hj, hN⟩ := hrel
      have x4 : wr.cell? ⟨w.heap.size, 4, none⟩ = some (.slice la l.length lc) := by rw [cell_of_row _ _ _ _ _ _ hN.x.x]; rfl
      obtain ⟨i, hi⟩ : ∃ i, 2 * j + 1 = i := ⟨_, rfl⟩
      rw [hi]
      have N := Lib.hid hN
      have HJ := Lib.hid hi
      by_cases hlt : i < l.length
      · obtain ⟨lb, lo, rfl, c0⟩ := ints_cell (HI.out.below hN.b) hlt
        obtain ⟨z, hz⟩ : ∃ z, l.getD i 0 = z := ⟨_, rfl⟩
        rw [hz] at c0
        have m2 : IntKind.i64.wrap ((i : Int) + 2) = (i : Int) + 2 := IntWalk.i64_in _ (by omega)
        have HZ := Lib.hid hz
        clear hz hi hN
        go_wp2_with (first
          | (at_builtin; refine app_int N.out.o rfl _ _ rfl z rfl _ rfl rfl (by have := HJ.out; omega) (heap_lt N.out.x.x) ?_; intro g cap V ho hb; have HO := Lib.hid ho; have HBV := Lib.hid hb; clear ho hb))
        go_roundw
        case rel => exact ⟨j + 1, by (have := HJ.out); congr 1; omega, by have := HJ.out; omega, nx_next N.out HO.out HBV.out (by have := HJ.out; omega) (by rw [HJ.out]; exact HZ.out)⟩
        case measure => simp [intOf]; omega
      · obtain ⟨g, cap, rfl, hg1, hg2⟩ := hN.o.form (by omega)
        have hjl : j = l.length / 2 := by omega
        have ho := hN.o
        rw [List.take_of_length_le (by rw [oddL_length]; omega), hjl, show l.length / 2 + 1 = (c :: oddL l).length by simp [oddL_length]] at ho
        have HO := Lib.hid (ints_own ho)
        have HL := Lib.hid hjl
        clear hN hi ho hjl
        go_wp2_with fail
        go_ret
        exact NxR.mk (by rw [HL.out]; simp [oddL_length]) HO.out N.out.b (nx_some (Nat.le_of_succ_le hg1))
  by_cases h8 : op = 8
  · subst h8
    by_cases hc : 0 ≤ c
    · have hc' : decide (0 ≤ c) = true := decide_eq_true hc
      have e : nextL k 8 c l = [k + 1, c] := by simp [nextL, hc]
      rw [e]
      have CO := Lib.hid (fun W => on_eq 8 a b c 0 rfl la va l.length lc vn vc W)
      have N0 := Lib.hid (ny_start w #[.int .i64 8, .int .i64 a, .int .i64 b, .int .i64 c, .slice la l.length lc, .slice va vn vc] 58)
      go_enter Try.func71, Try.ntmps71
      go_wp2_with (first
        | (go_at_call 50; refine (CO.out _).mono ?_; rintro e w1 ⟨rfl, hb⟩; have N := Lib.hid (N0.out.below hb); clear hb; have x0 : w1.cell? ⟨w.heap.size, 0, none⟩ = some (.int .i64 8) := (by rw [cell_of_row _ _ _ _ _ _ N.out.x.x]; rfl); have x3 : w1.cell? ⟨w.heap.size, 3, none⟩ = some (.int .i64 c) := (by rw [cell_of_row _ _ _ _ _ _ N.out.x.x]; rfl); have x4 : w1.cell? ⟨w.heap.size, 4, none⟩ = some (.slice la l.length lc) := (by rw [cell_of_row _ _ _ _ _ _ N.out.x.x]; rfl)))
      go_ret
      exact NxR.mk rfl (ints_new2 rfl) (N.out.b.alloc N.out.b.size _) (nx_some N.out.b.size)
    · have hc' : decide (0 ≤ c) = false := decide_eq_false hc
      have e : nextL k 8 c l = [k + 1] := by simp [nextL, hc]
      rw [e]
      have CO := Lib.hid (fun W => on_eq 8 a b c 0 rfl la va l.length lc vn vc W)
      have N0 := Lib.hid (ny_start w #[.int .i64 8, .int .i64 a, .int .i64 b, .int .i64 c, .slice la l.length lc, .slice va vn vc] 58)
      go_enter Try.func71, Try.ntmps71
      go_wp2_with (first
        | (go_at_call 50; refine (CO.out _).mono ?_; rintro e w1 ⟨rfl, hb⟩; have N := Lib.hid (N0.out.below hb); clear hb; have x0 : w1.cell? ⟨w.heap.size, 0, none⟩ = some (.int .i64 8) := (by rw [cell_of_row _ _ _ _ _ _ N.out.x.x]; rfl); have x3 : w1.cell? ⟨w.heap.size, 3, none⟩ = some (.int .i64 c) := (by rw [cell_of_row _ _ _ _ _ _ N.out.x.x]; rfl); have x4 : w1.cell? ⟨w.heap.size, 4, none⟩ = some (.slice la l.length lc) := (by rw [cell_of_row _ _ _ _ _ _ N.out.x.x]; rfl)))
      go_ret
      exact NxR.mk rfl (ints_new1 rfl) (N.out.b.alloc N.out.b.size _) (nx_some N.out.b.size)
  have q8 : (op == 8) = false := by simpa using h8
  have q9 : (op == 9) = false := by simpa using h9
  have q10 : (op == 10) = false := by simpa using h10
  have q11 : (op == 11) = false := by simpa using h11
  have q12 : (op == 12) = false := by simpa using h12
  have q13 : (op == 13) = false := by simpa using h13
  have e : nextL k op c l = [k + 1] := by simp [nextL, q8, q9, q10, q11, q12, q13]
  have e0 : onI op = 0 := by simp [onI, q9, q10, q11, q12, q13]
  rw [e]
  clear h8 h9 h10 h11 h12 h13 e h9l
  have CO := Lib.hid (fun W => on_eq op a b c 0 e0 la va l.length lc vn vc W)
  have N0 := Lib.hid (ny_start w #[.int .i64 op, .int .i64 a, .int .i64 b, .int .i64 c, .slice la l.length lc, .slice va vn vc] 58)
  go_enter Try.func71, Try.ntmps71
  go_wp2_with (first
    | (go_at_call 50; refine (CO.out _).mono ?_; rintro e w1 ⟨rfl, hb⟩; have N := Lib.hid (N0.out.below hb); clear hb; have x0 : w1.cell? ⟨w.heap.size, 0, none⟩ = some (.int .i64 op) := (by rw [cell_of_row _ _ _ _ _ _ N.out.x.x]; rfl); have x3 : w1.cell? ⟨w.heap.size, 3, none⟩ = some (.int .i64 c) := (by rw [cell_of_row _ _ _ _ _ _ N.out.x.x]; rfl); have x4 : w1.cell? ⟨w.heap.size, 4, none⟩ = some (.slice la l.length lc) := (by rw [cell_of_row _ _ _ _ _ _ N.out.x.x]; rfl)))
  go_ret
  exact NxR.mk rfl (ints_new1 rfl) (N.out.b.alloc N.out.b.size _) (nx_some N.out.b.size)
end Go.Proofs.Ytgbgahdeopedpaa
