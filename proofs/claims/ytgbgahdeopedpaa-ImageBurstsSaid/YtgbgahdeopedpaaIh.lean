/- Walks of layer 16: rows of registers of a small program. -/
import Derived.Test.YtgbgahdeopedpaaIg
import Derived.Deep.OwnRows
namespace Go.Proofs.Ytgbgahdeopedpaa
open Go.RowKit
set_option linter.unusedVariables false
attribute [local go_sem] ext_mk size_mk toList_mk get_mk take_drop_len take_tail_len ByteArray.mk_append_mk List.append_toArray

theorem infoU64 : (Try.prog.info? 83).map (fun i => (i.zero, i.size, i.bytes)) = some (some (.int .u64 0), 1, 8) := by kernel_rfl

theorem infoRow : (Try.prog.info? 121).map (fun i => (i.zero, i.size, i.bytes)) = some (some (.slice none 0 0), 1, 24) := by kernel_rfl

theorem range1 : Array.range 1 = #[0] := by decide

theorem range2 : Array.range 2 = #[0, 1] := by decide

theorem make_row (W : World) : (Instr.makeSlice 121 (.int .i64 1) (.int .i64 1)).run Try.prog W = .ok (.slice (some ⟨W.heap.size, 0, none⟩) 1 1) (W.alloc (.cells #[.int .u64 0] 83)) :=
  (run_make_row' (P := Try.prog) 121 83 (.int .u64 0) 8 Try.underlying121 infoU64 rfl .i64 .i64 1 (by decide) (by decide) W).trans (by rw [show madeCells #[Value.int .u64 0] 1 = #[.int .u64 0] from by simp [madeCells, range1]])

theorem make_rows (W : World) : (Instr.makeSlice 120 (.int .i64 2) (.int .i64 2)).run Try.prog W = .ok (.slice (some ⟨W.heap.size, 0, none⟩) 2 2) (W.alloc (.cells #[.slice none 0 0, .slice none 0 0] 121)) :=
  (run_make_row' (P := Try.prog) 120 121 (.slice none 0 0) 24 Try.underlying120 infoRow rfl .i64 .i64 2 (by decide) (by decide) W).trans (by rw [show madeCells #[Value.slice none 0 0] 2 = #[.slice none 0 0, .slice none 0 0] from by simp [madeCells, range2]])

theorem newRow_1 (w : World) : Calls Try.prog 65 #[.int .i64 1] w fun x w' => x = .returned (.slice (some ⟨w.heap.size, 0, none⟩) 1 1) ∧ w' = w.alloc (.cells #[.int .u64 0] 83) := by
  have hmk := make_row
  go_enter Try.func65, Try.ntmps65
  go_wp2
  go_ret
  exact ⟨rfl, rfl⟩

theorem has_1 (g cap : Nat) (w : World) (h : w.cell? ⟨g, 0, none⟩ = some (.int .u64 1)) : Calls Try.prog 69 #[.slice (some ⟨g, 0, none⟩) 1 cap, .int .i64 0] w fun x w' => x = .returned (.bool true) ∧ w' = w := by
  go_enter Try.func69, Try.ntmps69
  go_wp2
  go_ret
  exact ⟨rfl, rfl⟩

theorem put_0 (g cap : Nat) (w : World) (h : w.cell? ⟨g, 0, none⟩ = some (.int .u64 0)) (hf : w.frozen? ⟨g, 0, none⟩ = false) : Calls Try.prog 66 #[.slice (some ⟨g, 0, none⟩) 1 cap, .int .i64 0] w fun x w' => (∃ v, x = .returned v) ∧ w' = (w.setCell ⟨g, 0, none⟩ (.int .u64 1)).drew := by
  go_enter Try.func66, Try.ntmps66
  go_wp2
  go_region
  go_wp2
  go_end0
  exact ⟨⟨_, rfl⟩, rfl⟩

theorem sets_fix (w : World) : Calls Try.prog 70 #[.agg #[.int .i64 1, .int .i64 0, .int .i64 0, .int .i64 0, .slice none 0 0, .slice none 0 0]] w fun x w' => x = .returned (.bool true) ∧ Below w.heap.size w w' := by
  go_enter Try.func70, Try.ntmps70
  go_wp2
  go_ret
  exact ⟨rfl, (Below.refl _ _).alloc (Nat.le_refl _) _⟩

theorem sets_halt (w : World) : Calls Try.prog 70 #[.agg #[.int .i64 13, .int .i64 0, .int .i64 0, .int .i64 0, .slice none 0 0, .slice none 0 0]] w fun x w' => x = .returned (.bool false) ∧ Below w.heap.size w w' := by
  go_enter Try.func70, Try.ntmps70
  go_wp2
  go_ret
  exact ⟨rfl, (Below.refl _ _).alloc (Nat.le_refl _) _⟩

theorem reads_fix (w : World) : Calls Try.prog 73 #[.agg #[.int .i64 1, .int .i64 0, .int .i64 0, .int .i64 0, .slice none 0 0, .slice none 0 0]] w fun x w' => x = .returned (.slice none 0 0) ∧ Below w.heap.size w w' := by
  go_enter Try.func73, Try.ntmps73
  go_wp2
  go_ret
  exact ⟨rfl, (Below.refl _ _).alloc (Nat.le_refl _) _⟩

theorem reads_halt (w : World) : Calls Try.prog 73 #[.agg #[.int .i64 13, .int .i64 0, .int .i64 0, .int .i64 0, .slice none 0 0, .slice none 0 0]] w fun x w' => ∃ g, x = .returned (.slice (some ⟨g, 0, none⟩) 1 1) ∧ g < w'.heap.size ∧ w'.cell? ⟨g, 0, none⟩ = some (.int .i64 0) ∧ Below w.heap.size w w' := by
  go_enter Try.func73, Try.ntmps73
  go_wp2
  go_ret
  exact ⟨_, rfl, by simp, by simp, ((Below.refl _ _).alloc (Nat.le_refl _) _).alloc (by simp) _⟩

theorem next_fix (p : Value) (w : World) : Calls Try.prog 71 #[p, .int .i64 0, .agg #[.int .i64 1, .int .i64 0, .int .i64 0, .int .i64 0, .slice none 0 0, .slice none 0 0]] w fun x w' => ∃ g, x = .returned (.slice (some ⟨g, 0, none⟩) 1 1) ∧ g < w'.heap.size ∧ w'.cell? ⟨g, 0, none⟩ = some (.int .i64 1) ∧ Below w.heap.size w w' := by
  have CO := Lib.hid (fun W => on_fix W)
  have hb0 : Below w.heap.size w (w.alloc (.cells #[.int .i64 1, .int .i64 0, .int .i64 0, .int .i64 0, .slice none 0 0, .slice none 0 0] 58)) := (Below.refl _ _).alloc (Nat.le_refl _) _
  have HB0 := Lib.hid hb0
  clear hb0
  go_enter Try.func71, Try.ntmps71
  go_wp2_with (go_at_call 50; refine (CO.out _).mono ?_; rintro e w1 ⟨rfl, hb1⟩; have hz := HB0.out.trans (hb1.mono HB0.out.size); have c0 : w1.cell? ⟨w.heap.size, 0, none⟩ = some (.int .i64 1) := by rw [hb1.cell (p := ⟨w.heap.size, 0, none⟩) (by simp)]; simp)
  go_ret
  exact ⟨_, rfl, by simp, by simp, hz.alloc hz.size _⟩

theorem next_halt (p : Value) (w : World) : Calls Try.prog 71 #[p, .int .i64 1, .agg #[.int .i64 13, .int .i64 0, .int .i64 0, .int .i64 0, .slice none 0 0, .slice none 0 0]] w fun x w' => x = .returned (.slice none 0 0) ∧ Below w.heap.size w w' := by
  have CO := Lib.hid (fun W => on_halt W)
  have hb0 : Below w.heap.size w (w.alloc (.cells #[.int .i64 13, .int .i64 0, .int .i64 0, .int .i64 0, .slice none 0 0, .slice none 0 0] 58)) := (Below.refl _ _).alloc (Nat.le_refl _) _
  have HB0 := Lib.hid hb0
  clear hb0
  go_enter Try.func71, Try.ntmps71
  go_wp2_with (go_at_call 50; refine (CO.out _).mono ?_; rintro e w1 ⟨rfl, hb1⟩; have hz := HB0.out.trans (hb1.mono HB0.out.size))
  go_ret
  exact ⟨rfl, hz⟩

theorem eqn_some (T : TypeId) (e : TypeId) (hu : Try.prog.underlying T = some (.slice e)) (x : Addr) (n c : Nat) (W : World) : (binOp .eql T (.slice (some x) n c) (.slice none 0 0)).run Try.prog W = .ok (.bool false) W := by
  have h : (Op.equal T (.slice (some x) n c) (.slice none 0 0)).run Try.prog W = .ok false W := by
    unfold Op.equal
    rw [show Op.maxDepth = (Op.maxDepth - 1) + 1 from rfl]
    simp only [Op.equalIn, Sem.run_bind, run_underlying hu, Result.andThen_ok]
    first | rfl | simp
  simp [binOp, h]

theorem eqn_none (T : TypeId) (e : TypeId) (hu : Try.prog.underlying T = some (.slice e)) (W : World) : (binOp .eql T (.slice none 0 0) (.slice none 0 0)).run Try.prog W = .ok (.bool true) W := by
  have h : (Op.equal T (.slice none 0 0) (.slice none 0 0)).run Try.prog W = .ok true W := by
    unfold Op.equal
    rw [show Op.maxDepth = (Op.maxDepth - 1) + 1 from rfl]
    simp only [Op.equalIn, Sem.run_bind, run_underlying hu, Result.andThen_ok]
    first | rfl | simp
  simp [binOp, h]

theorem infoInt : (Try.prog.info? 3).map (fun i => (i.zero, i.size, i.bytes)) = some (some (.int .i64 0), 1, 8) := by kernel_rfl

/-- an append of one number to an empty row that was just built -/
theorem app_row {w : World} {ops : Array Oper} {rest : List Oper} {o : Oper} {a : Act} {Q : Exit → Act → World → Prop} {g cap : Nat} {v : Int} (hgd : o.guard = none) (sl x : Operand)
    (ho : o.op = .call { callee := .builtin .append, args := #[sl, x], argTypes := #[121, 121] })
    (hs : a.eval sl = .slice (some ⟨w.heap.size, 0, none⟩) 0 0) (hx : a.eval x = .slice (some ⟨g, 0, none⟩) 1 cap) (hl : g < w.heap.size) (hc : w.cell? ⟨g, 0, none⟩ = some (.int .u64 v))
    (h : ∀ k c V, 1 ≤ c → w.heap.size ≤ k → k < V.heap.size → V.heap[k]? = some (.cells #[.int .u64 v] 83 (0, 0)) ∨ V.cell? ⟨k, 0, none⟩ = some (.int .u64 v) ∧ V.frozen? ⟨k, 0, none⟩ = false → Below w.heap.size w V → wpList Try.prog ops Q rest (a.put o.dst (.slice (some ⟨k, 0, none⟩) 1 c)) V) : wpList Try.prog ops Q (o :: rest) a (w.alloc (.cells #[] 83)) := by
  obtain ⟨i0, hi, hz0, hz1, hz2⟩ := info_parts infoU64
  have hb0 : Below w.heap.size w (w.alloc (.cells #[] 83)) := (Below.refl _ _).alloc (Nat.le_refl _) _
  have hown : (w.alloc (.cells #[] 83)).ownsRow w.heap.size 83 1 (.slice (some ⟨w.heap.size, 0, none⟩) 0 0) 0 [] :=
    ⟨rfl, .inr ⟨w.heap.size, 0, #[], rfl, Nat.le_refl _, heap_alloc_new _ _, Nat.le_refl _, by unfold maxLen; omega, rfl, rfl⟩⟩
  refine wpList_append_lies _ hgd sl x 121 ho w.heap.size 83 i0 (.int .u64 0) 1 8 Try.underlying121 hi hz0 hz1 hz2 rfl (by decide) _ 0 [] hs hown ⟨g, 0, none⟩ 1 cap [.int .u64 v] hx rfl ?_ (by intro u hu; simp at hu; subst hu; rfl) (by decide) (by unfold maxLen; omega) (by omega) hb0.size _ rfl ?_
  · intro j u hj
    match j, hj with
    | 0, hj =>
      simp at hj; subst hj
      rw [show (⟨g, 0, none⟩ : Addr).add 0 = ⟨g, 0, none⟩ by simp [Addr.add], hb0.cell (p := ⟨g, 0, none⟩) hl]; exact hc
    | j + 1, hj => simp at hj
  · intro k c V k1 k2 _ k4
    have hcell : V.cell? ⟨k, 0, none⟩ = some (.int .u64 v) := by
      have := k1.cells (g := k) rfl 0 (.int .u64 v) rfl
      rwa [show (⟨k, 0, none⟩ : Addr).add 0 = ⟨k, 0, none⟩ by simp [Addr.add]] at this
    have hk := (k1.lt k rfl).1
    have hfz : V.frozen? ⟨k, 0, none⟩ = false := by
      rcases k1.2 with ⟨q, _⟩ | ⟨g2, cap2, cur, q, _, q3, _⟩
      · cases q
      · cases q; exact frozen_of_row _ _ _ _ _ q3
    have hc1 : 1 ≤ c := by
      rcases k1.2 with ⟨q, _⟩ | ⟨g2, cap2, cur, q, _, q3, q4, _⟩
      · cases q
      · cases q; simpa using q4
    exact h k c V hc1 hk k4 (.inr ⟨hcell, hfz⟩) (hb0.trans ((Below.refl w.heap.size _).grown k2 hb0.size (fun j hj => (hown.lt j hj).1)))

theorem app_ints {w : World} {ops : Array Oper} {rest : List Oper} {o : Oper} {a : Act} {Q : Exit → Act → World → Prop} {g cap : Nat} {v : Int} (hgd : o.guard = none) (sl x : Operand)
    (ho : o.op = .call { callee := .builtin .append, args := #[sl, x], argTypes := #[56, 56] })
    (hs : a.eval sl = .slice (some ⟨w.heap.size, 0, none⟩) 0 0) (hx : a.eval x = .slice (some ⟨g, 0, none⟩) 1 cap) (hl : g < w.heap.size) (hc : w.cell? ⟨g, 0, none⟩ = some (.int .i64 v))
    (h : ∀ k c V, 1 ≤ c → w.heap.size ≤ k → k < V.heap.size → V.heap[k]? = some (.cells #[.int .i64 v] 3 (0, 0)) ∨ V.cell? ⟨k, 0, none⟩ = some (.int .i64 v) ∧ V.frozen? ⟨k, 0, none⟩ = false → Below w.heap.size w V → wpList Try.prog ops Q rest (a.put o.dst (.slice (some ⟨k, 0, none⟩) 1 c)) V) : wpList Try.prog ops Q (o :: rest) a (w.alloc (.cells #[] 3)) := by
  obtain ⟨i0, hi, hz0, hz1, hz2⟩ := info_parts infoInt
  have hb0 : Below w.heap.size w (w.alloc (.cells #[] 3)) := (Below.refl _ _).alloc (Nat.le_refl _) _
  have hown : (w.alloc (.cells #[] 3)).ownsRow w.heap.size 3 1 (.slice (some ⟨w.heap.size, 0, none⟩) 0 0) 0 [] :=
    ⟨rfl, .inr ⟨w.heap.size, 0, #[], rfl, Nat.le_refl _, heap_alloc_new _ _, Nat.le_refl _, by unfold maxLen; omega, rfl, rfl⟩⟩
  refine wpList_append_lies _ hgd sl x 56 ho w.heap.size 3 i0 (.int .i64 0) 1 8 Try.underlying56 hi hz0 hz1 hz2 rfl (by decide) _ 0 [] hs hown ⟨g, 0, none⟩ 1 cap [.int .i64 v] hx rfl ?_ (by intro u hu; simp at hu; subst hu; rfl) (by decide) (by unfold maxLen; omega) (by omega) hb0.size _ rfl ?_
  · intro j u hj
    match j, hj with
    | 0, hj =>
      simp at hj; subst hj
      rw [show (⟨g, 0, none⟩ : Addr).add 0 = ⟨g, 0, none⟩ by simp [Addr.add], hb0.cell (p := ⟨g, 0, none⟩) hl]; exact hc
    | j + 1, hj => simp at hj
  · intro k c V k1 k2 _ k4
    have hcell : V.cell? ⟨k, 0, none⟩ = some (.int .i64 v) := by
      have := k1.cells (g := k) rfl 0 (.int .i64 v) rfl
      rwa [show (⟨k, 0, none⟩ : Addr).add 0 = ⟨k, 0, none⟩ by simp [Addr.add]] at this
    have hk := (k1.lt k rfl).1
    have hfz : V.frozen? ⟨k, 0, none⟩ = false := by
      rcases k1.2 with ⟨q, _⟩ | ⟨g2, cap2, cur, q, _, q3, _⟩
      · cases q
      · cases q; exact frozen_of_row _ _ _ _ _ q3
    have hc1 : 1 ≤ c := by
      rcases k1.2 with ⟨q, _⟩ | ⟨g2, cap2, cur, q, _, q3, q4, _⟩
      · cases q
      · cases q; simpa using q4
    exact h k c V hc1 hk k4 (.inr ⟨hcell, hfz⟩) (hb0.trans ((Below.refl w.heap.size _).grown k2 hb0.size (fun j hj => (hown.lt j hj).1)))

set_option maxRecDepth 8000 in
theorem clone_row (g cap : Nat) (v : Int) (w : World) (hl : g < w.heap.size) (hc : w.cell? ⟨g, 0, none⟩ = some (.int .u64 v)) : Calls Try.prog 67 #[.slice (some ⟨g, 0, none⟩) 1 cap] w fun x w' => ∃ k c, x = .returned (.slice (some ⟨k, 0, none⟩) 1 c) ∧ w.heap.size ≤ k ∧ k < w'.heap.size ∧ w'.cell? ⟨k, 0, none⟩ = some (.int .u64 v) ∧ w'.frozen? ⟨k, 0, none⟩ = false ∧ Below w.heap.size w w' := by
  have HL := Lib.hid hl
  have HC := Lib.hid hc
  clear hl hc
  have hq := fun W => eqn_some 121 _ Try.underlying121 ⟨g, 0, none⟩ 1 cap W
  go_enter Try.func67, Try.ntmps67
  go_wp2_with (at_builtin; refine app_row rfl _ _ rfl rfl rfl HL.out HC.out ?_; intro k c V k0 k1 k2 k3 k4)
  go_ret
  rcases k3 with k3 | ⟨k5, k6⟩
  · exact ⟨k, c, rfl, k1, k2, by rw [cell_of_row _ _ _ _ _ _ k3]; rfl, frozen_of_row _ _ _ _ _ k3, k4⟩
  · exact ⟨k, c, rfl, k1, k2, k5, k6, k4⟩
set_option maxRecDepth 8000 in
theorem clone_ints (g cap : Nat) (v : Int) (w : World) (hl : g < w.heap.size) (hc : w.cell? ⟨g, 0, none⟩ = some (.int .i64 v)) : Calls Try.prog 72 #[.slice (some ⟨g, 0, none⟩) 1 cap] w fun x w' => ∃ k c, x = .returned (.slice (some ⟨k, 0, none⟩) 1 c) ∧ 1 ≤ c ∧ w.heap.size ≤ k ∧ k < w'.heap.size ∧ w'.cell? ⟨k, 0, none⟩ = some (.int .i64 v) ∧ w'.frozen? ⟨k, 0, none⟩ = false ∧ Below w.heap.size w w' := by
  have HL := Lib.hid hl
  have HC := Lib.hid hc
  clear hl hc
  have hq := fun W => eqn_some 56 _ Try.underlying56 ⟨g, 0, none⟩ 1 cap W
  go_enter Try.func72, Try.ntmps72
  go_wp2_with (at_builtin; refine app_ints rfl _ _ rfl rfl rfl HL.out HC.out ?_; intro k c V k0 k1 k2 k3 k4)
  go_ret
  rcases k3 with k3 | ⟨k5, k6⟩
  · exact ⟨k, c, rfl, k0, k1, k2, by rw [cell_of_row _ _ _ _ _ _ k3]; rfl, frozen_of_row _ _ _ _ _ k3, k4⟩
  · exact ⟨k, c, rfl, k0, k1, k2, k5, k6, k4⟩
set_option maxRecDepth 8000 in
theorem clone_nil (w : World) : Calls Try.prog 72 #[.slice none 0 0] w fun x w' => x = .returned (.slice none 0 0) ∧ w' = w := by
  have hq := fun W => eqn_none 56 _ Try.underlying56 W
  go_enter Try.func72, Try.ntmps72
  go_wp2
  go_ret
  exact ⟨rfl, rfl⟩
end Go.Proofs.Ytgbgahdeopedpaa
