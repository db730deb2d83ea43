/- Walks of layer 16: where an instruction goes on, on both sides. -/
import Derived.Test.YtokjkligechcoaaGreatDoorCn
set_option linter.unusedVariables false
namespace Go.Proofs.YtokjkligechcoaaGreatDoor
open _root_.Go.Lib (hid)
open Go.RowKit
attribute [local go_sem] ext_mk size_mk toList_mk get_mk take_drop_len take_tail_len ByteArray.mk_append_mk List.append_toArray
def oddL (l : List Int) : List Int := (List.range (l.length / 2)).map fun j => l.getD (2 * j + 1) 0
theorem oddL_length (l : List Int) : (oddL l).length = l.length / 2 := by simp [oddL]
def nextL (k op c : Int) (l : List Int) : List Int :=
 if op == 11 || op == 12 || op == 13 then [] else if op == 9 then [c] else if op == 10 then c :: oddL l else if op == 8 && decide (0 ≤ c) then [k + 1, c] else [k + 1]
abbrev ints (l : List Int) : List Value := l.map (Value.int .i64)
theorem ints_own {W : World} {base g cap : Nat} {L : List Int} (h : W.ownsRow base 3 1 (.slice (some ⟨g, 0, none⟩) L.length cap) L.length (ints L)) : IntsAt .i64 W (some ⟨g, 0, none⟩) L := by
 have hc := fun j u hu => h.cells (g := g) rfl j u hu
 have hm : L.length ≤ maxLen := by
  rcases h.2 with ⟨q, _⟩ | ⟨_, _, _, q, _, _, q1, q2, _⟩
  ·cases q
  ·cases q; exact Nat.le_trans q1 q2
 refine ⟨hm, .inr ⟨g, 0, rfl, fun i hi => ?_⟩⟩
 have := hc i (.int .i64 (L.getD i 0)) (by simp [ints, List.getD, hi])
 rw [addr_plain] at this
 rwa [Nat.zero_add]
theorem ints_new1 {W : World} {H : Nat} {v : Int} {T : TypeId} (hH : H = W.heap.size) : IntsAt .i64 (W.alloc (.cells #[.int .i64 v] T)) (some ⟨H, 0, none⟩) [v] := by
 subst hH
 refine ⟨by unfold maxLen; simp, .inr ⟨_, 0, rfl, fun i hi => ?_⟩⟩
 obtain rfl : i = 0 := by simp at hi; omega
 rw [cell_of_row _ _ _ _ _ _ (heap_alloc_new W _)]; rfl
theorem ints_new2 {W : World} {H : Nat} {u v : Int} {T : TypeId} (hH : H = W.heap.size) : IntsAt .i64 (W.alloc (.cells #[.int .i64 u, .int .i64 v] T)) (some ⟨H, 0, none⟩) [u, v] := by
 subst hH
 refine ⟨by unfold maxLen; simp, .inr ⟨_, 0, rfl, fun i hi => ?_⟩⟩
 rw [cell_of_row _ _ _ _ _ _ (heap_alloc_new W _)]
 have hi : i < 2 := hi
 match i, hi with
 | 0, _ | 1, _ => rfl
theorem ints_nil (w : World) : IntsAt .i64 w none [] := ⟨by decide, .inl rfl⟩
/-- one number more behind a row of the call's own -/
theorem app_int {w : World} {ops : Array Oper} {rest : List Oper} {o : Oper} {a : Act} {Q : Exit → Act → World → Prop} {base n : Nat} {v : Value} {xs : List Value} {T : TypeId} (hown : w.ownsRow base 3 1 v n xs) (hgd : o.guard = none) (sl x : Operand)
  (ho : o.op = .call { callee := .builtin .append, args := #[sl, x], argTypes := #[56, 56] })
  (z : Int) (hs : a.eval sl = v) (H : Nat) (hH : w.heap.size = H) (hx : a.eval x = .slice (some ⟨H, 0, none⟩) 1 1) (hn : n ≤ 1000000000) (hbase : base ≤ w.heap.size)
  (h : ∀ g cap V, V.ownsRow base 3 1 (.slice (some ⟨g, 0, none⟩) (n + 1) cap) (n + 1) (xs ++ [.int .i64 z]) → Below base w V → wpList Tryz.prog ops Q rest (a.put o.dst (.slice (some ⟨g, 0, none⟩) (n + 1) cap)) V) :
  wpList Tryz.prog ops Q (o :: rest) a (w.alloc (.cells #[.int .i64 z] T)) := by
 obtain ⟨i0, hi, hz0, hz1, hz2⟩ := info_parts infoInt
 subst hH
 have hb0 : Below w.heap.size w (w.alloc (.cells #[.int .i64 z] T)) := (Below.refl _ _).alloc (Nat.le_refl _) _
 have hown1 := row_below hown hb0
 refine wpList_append_lies _ hgd sl x 56 ho base 3 i0 (.int .i64 0) 1 8 Tryz.underlying56 hi hz0 hz1 hz2 rfl (by decide) v n xs hs hown1 ⟨w.heap.size, 0, none⟩ 1 1 [.int .i64 z] hx rfl (World.news_of_block (heap_alloc_new _ _)) (by intro u hu; simp at hu; subst hu; rfl) (by decide) (by unfold maxLen; omega) (by omega) (Nat.le_trans hbase hb0.size) _ rfl ?_
 intro g cap V k1 k2 _ _
 exact h g cap V k1 ((hb0.mono hbase).trans ((Below.refl base _).grown k2 (Nat.le_trans hbase hb0.size) (fun j hj => (hown1.lt j hj).1)))
/-- a list of numbers is told -/
def NxR (w : World) (L : List Int) (e : Ending) (w' : World) : Prop := ∃ r cap, e = .returned (.slice r L.length cap) ∧ IntsAt .i64 w' r L ∧ Below w.heap.size w w' ∧ ∀ b o, r = some ⟨b, o, none⟩ → w.heap.size ≤ b
theorem NxR.mk {w : World} {L : List Int} {w' : World} {r : Option Addr} {n cap : Nat} (hn : n = L.length) (h1 : IntsAt .i64 w' r L) (h2 : Below w.heap.size w w') (h3 : ∀ b o, r = some ⟨b, o, none⟩ → w.heap.size ≤ b) : NxR w L (.returned (.slice r n cap)) w' := ⟨r, cap, by rw [hn], h1, h2, h3⟩
theorem nx_none {m : Nat} : ∀ b o, (none : Option Addr) = some ⟨b, o, none⟩ → m ≤ b := fun _ _ q => by cases q
theorem nx_some {m H : Nat} (h : m ≤ H) : ∀ b o, some (⟨H, 0, none⟩ : Addr) = some ⟨b, o, none⟩ → m ≤ b := fun _ _ q => by cases q; exact h
structure NxAt (w V : World) (c : Int) (l : List Int) (xo : Obj) (j : Nat) (v : Value) : Prop where
 x : KAt V w.heap.size xo
 o : V.ownsRow (w.heap.size + 1) 3 1 v (j + 1) (ints (c :: (oddL l).take j))
 b : Below w.heap.size w V
theorem nx_next {w V V' : World} {c z : Int} {l : List Int} {xo : Obj} {j g cap : Nat} {v : Value} (h : NxAt w V c l xo j v) (ho : V'.ownsRow (w.heap.size + 1) 3 1 (.slice (some ⟨g, 0, none⟩) (j + 1 + 1) cap) (j + 1 + 1) (ints (c :: (oddL l).take j) ++ [.int .i64 z])) (hb : Below (w.heap.size + 1) V V') (hj : 2 * j + 1 < l.length) (hz : l.getD (2 * j + 1) 0 = z) :
  NxAt w V' c l xo (j + 1) (.slice (some ⟨g, 0, none⟩) (j + 1 + 1) cap) := by
 have hjo : j < (oddL l).length := by rw [oddL_length]; omega
 have e : ints (c :: (oddL l).take (j + 1)) = ints (c :: (oddL l).take j) ++ [.int .i64 z] := by
  rw [List.take_succ_eq_append_getElem hjo]
  simp [ints, oddL, ← hz]
 exact ⟨⟨by rw [hb.block _ (Nat.lt_succ_self _)]; exact h.x.x⟩, by rw [e]; exact ho, h.b.trans (hb.mono (Nat.le_succ _))⟩
theorem on_eq (op a b c v : Int) (hv : onI op = v) (la ra : Option Addr) (ln lc rn rc : Nat) (w : World) : Calls Tryz.prog 29 #[.agg #[.int .i64 op, .int .i64 a, .int .i64 b, .int .i64 c, .slice la ln lc, .slice ra rn rc]] w fun x w' => x = .returned (.int .i64 v) ∧ Below w.heap.size w w' := by
 have := on_any op a b c la ra ln lc rn rc w
 rwa [hv] at this
/-- behind 'on': the instruction's box -/
structure NyAt (w V : World) (xo : Obj) : Prop where
 x : KAt V w.heap.size xo
 b : Below w.heap.size w V
theorem ny_start (w : World) (xo : Array Value) (T : TypeId) : NyAt w (w.alloc (.cells xo T)) (.cells xo T (0, 0)) := ⟨KAt.new w _, (Below.refl _ _).alloc (Nat.le_refl _) _⟩
theorem NyAt.below {w V V' : World} {xo : Obj} (h : NyAt w V xo) (hb : Below V.heap.size V V') : NyAt w V' xo := ⟨h.x.below hb, h.b.trans (hb.mono h.b.size)⟩
theorem ny_loop {w V : World} {c : Int} {l : List Int} {xo : Obj} (h : NyAt w V xo) : NxAt w (V.alloc (.cells #[.int .i64 c] 3)) c l xo 0 (.slice (some ⟨V.heap.size, 0, none⟩) 1 1) := by
 have hbV : Below V.heap.size V (V.alloc (.cells #[.int .i64 c] 3)) := (Below.refl _ _).alloc (Nat.le_refl _) _
 have hz := heap_lt h.x.x
 exact ⟨h.x.below hbV, ⟨by simp [ints], .inr ⟨_, 1, #[.int .i64 c], rfl, by omega, (KAt.new V (.cells #[.int .i64 c] 3 (0, 0))).x, Nat.le_refl _, by unfold maxLen; omega, rfl, rfl⟩⟩, h.b.trans (hbV.mono h.b.size)⟩
set_option maxHeartbeats 4000000 in
set_option maxRecDepth 8000 in
theorem next_any (p : Value) (k op a b c : Int) (l : List Int) (la va : Option Addr) (lc vn vc : Nat) (w : World) (hl : IntsAt .i64 w la l) (hk0 : 0 ≤ k) (hk1 : k < 4611686018427387904) (hll : l.length ≤ 1000000000) (h9l : op = 9 → l = []) :
  Calls Tryz.prog 80 #[p, .int .i64 k, .agg #[.int .i64 op, .int .i64 a, .int .i64 b, .int .i64 c, .slice la l.length lc, .slice va vn vc]] w fun e w' => NxR w (nextL k op c l) e w' := by
 have m1 : IntKind.i64.wrap (k + 1) = k + 1 := IntWalk.i64_in _ (by omega)
 have HI := hid hl
 clear hl
 have HB : ∀ W, Hid (NyAt w W (.cells #[.int .i64 op, .int .i64 a, .int .i64 b, .int .i64 c, .slice la l.length lc, .slice va vn vc] 58 (0, 0)) → ∀ o, Below w.heap.size w (W.alloc o)) := fun W => hid (fun h o => h.b.alloc h.b.size _)
 by_cases h11 : op = 11
 ·subst h11
  have CO := hid (fun W => on_eq 11 a b c 1 rfl la va l.length lc vn vc W)
  have N0 := hid (ny_start w #[.int .i64 11, .int .i64 a, .int .i64 b, .int .i64 c, .slice la l.length lc, .slice va vn vc] 58)
  go_enter Tryz.func80, Tryz.ntmps80
  go_wp2_with (first
   | (go_at_call 29; refine (CO.out _).mono ?_; rintro e w1 ⟨rfl, hb⟩; have N := hid (N0.out.below hb); clear hb; have x0 : w1.cell? ⟨w.heap.size, 0, none⟩ = some (.int .i64 11) := (by rw [cell_of_row _ _ _ _ _ _ N.out.x.x]; rfl); have x3 : w1.cell? ⟨w.heap.size, 3, none⟩ = some (.int .i64 c) := (by rw [cell_of_row _ _ _ _ _ _ N.out.x.x]; rfl); have x4 : w1.cell? ⟨w.heap.size, 4, none⟩ = some (.slice la l.length lc) := (by rw [cell_of_row _ _ _ _ _ _ N.out.x.x]; rfl)))
  go_ret
  exact NxR.mk rfl (ints_nil _) N.out.b nx_none
 by_cases h12 : op = 12
 ·subst h12
  have CO := hid (fun W => on_eq 12 a b c 1 rfl la va l.length lc vn vc W)
  have N0 := hid (ny_start w #[.int .i64 12, .int .i64 a, .int .i64 b, .int .i64 c, .slice la l.length lc, .slice va vn vc] 58)
  go_enter Tryz.func80, Tryz.ntmps80
  go_wp2_with (first
   | (go_at_call 29; refine (CO.out _).mono ?_; rintro e w1 ⟨rfl, hb⟩; have N := hid (N0.out.below hb); clear hb; have x0 : w1.cell? ⟨w.heap.size, 0, none⟩ = some (.int .i64 12) := (by rw [cell_of_row _ _ _ _ _ _ N.out.x.x]; rfl); have x3 : w1.cell? ⟨w.heap.size, 3, none⟩ = some (.int .i64 c) := (by rw [cell_of_row _ _ _ _ _ _ N.out.x.x]; rfl); have x4 : w1.cell? ⟨w.heap.size, 4, none⟩ = some (.slice la l.length lc) := (by rw [cell_of_row _ _ _ _ _ _ N.out.x.x]; rfl)))
  go_ret
  exact NxR.mk rfl (ints_nil _) N.out.b nx_none
 by_cases h13 : op = 13
 ·subst h13
  have CO := hid (fun W => on_eq 13 a b c 1 rfl la va l.length lc vn vc W)
  have N0 := hid (ny_start w #[.int .i64 13, .int .i64 a, .int .i64 b, .int .i64 c, .slice la l.length lc, .slice va vn vc] 58)
  go_enter Tryz.func80, Tryz.ntmps80
  go_wp2_with (first
   | (go_at_call 29; refine (CO.out _).mono ?_; rintro e w1 ⟨rfl, hb⟩; have N := hid (N0.out.below hb); clear hb; have x0 : w1.cell? ⟨w.heap.size, 0, none⟩ = some (.int .i64 13) := (by rw [cell_of_row _ _ _ _ _ _ N.out.x.x]; rfl); have x3 : w1.cell? ⟨w.heap.size, 3, none⟩ = some (.int .i64 c) := (by rw [cell_of_row _ _ _ _ _ _ N.out.x.x]; rfl); have x4 : w1.cell? ⟨w.heap.size, 4, none⟩ = some (.slice la l.length lc) := (by rw [cell_of_row _ _ _ _ _ _ N.out.x.x]; rfl)))
  go_ret
  exact NxR.mk rfl (ints_nil _) N.out.b nx_none
 by_cases h9 : op = 9
 ·subst h9
  have hl0 := h9l rfl
  have e : nextL k 9 c l = c :: oddL l := by rw [hl0]; rfl
  rw [e]
  clear hl0 h9l e
  have CO := hid (fun W => on_eq 9 a b c 2 rfl la va l.length lc vn vc W)
  have N0 := hid (ny_start w #[.int .i64 9, .int .i64 a, .int .i64 b, .int .i64 c, .slice la l.length lc, .slice va vn vc] 58)
  go_enter Tryz.func80, Tryz.ntmps80
  go_wp2_with (first
   | (go_at_call 29; refine (CO.out _).mono ?_; rintro e w1 ⟨rfl, hb⟩; have N := hid (N0.out.below hb); clear hb; have x0 : w1.cell? ⟨w.heap.size, 0, none⟩ = some (.int .i64 9) := (by rw [cell_of_row _ _ _ _ _ _ N.out.x.x]; rfl); have x3 : w1.cell? ⟨w.heap.size, 3, none⟩ = some (.int .i64 c) := (by rw [cell_of_row _ _ _ _ _ _ N.out.x.x]; rfl); have x4 : w1.cell? ⟨w.heap.size, 4, none⟩ = some (.slice la l.length lc) := (by rw [cell_of_row _ _ _ _ _ _ N.out.x.x]; rfl)))
  have NL := hid (ny_loop (c := c) (l := l) N.out)
  go_loopw [7, 8] (fun v7 v8 wr => ∃ j : Nat, v8 = .int .i64 (2 * j + 1 : Nat) ∧ j ≤ l.length / 2 ∧ NxAt w wr c l (.cells #[.int .i64 9, .int .i64 a, .int .i64 b, .int .i64 c, .slice la l.length lc, .slice va vn vc] 58 (0, 0)) j v7) (fun _ v8 _ => l.length + 2 - (intOf v8).toNat)
  case atStart => exact ⟨0, rfl, Nat.zero_le _, NL.out⟩
  case round =>
   obtain ⟨j, rfl, hj, hN⟩ := hrel
   have x4 : wr.cell? ⟨w.heap.size, 4, none⟩ = some (.slice la l.length lc) := by rw [cell_of_row _ _ _ _ _ _ hN.x.x]; rfl
   obtain ⟨i, hi⟩ : ∃ i, 2 * j + 1 = i := ⟨_, rfl⟩
   rw [hi]
   have N := hid hN
   have HJ := hid hi
   by_cases hlt : i < l.length
   ·obtain ⟨lb, lo, rfl, c0⟩ := ints_cell (HI.out.below hN.b) hlt
    obtain ⟨z, hz⟩ : ∃ z, l.getD i 0 = z := ⟨_, rfl⟩
    rw [hz] at c0
    have m2 : IntKind.i64.wrap ((i : Int) + 2) = (i : Int) + 2 := IntWalk.i64_in _ (by omega)
    have HZ := hid hz
    clear hz hi hN
    go_wp2_with (first
     | (at_builtin; refine app_int N.out.o rfl _ _ rfl z rfl _ rfl rfl (by have := HJ.out; omega) (heap_lt N.out.x.x) ?_; intro g cap V ho hb; have HO := hid ho; have HBV := hid hb; clear ho hb))
    go_roundw
    case rel => exact ⟨j + 1, by (have := HJ.out); congr 1; omega, by have := HJ.out; omega, nx_next N.out HO.out HBV.out (by have := HJ.out; omega) (by rw [HJ.out]; exact HZ.out)⟩
    case measure => simp [intOf]; omega
   ·obtain ⟨g, cap, rfl, hg1, hg2⟩ := hN.o.form (by omega)
    have hjl : j = l.length / 2 := by omega
    have ho := hN.o
    rw [List.take_of_length_le (by rw [oddL_length]; omega), hjl, show l.length / 2 + 1 = (c :: oddL l).length by simp [oddL_length]] at ho
    have HO := hid (ints_own ho)
    have HL := hid hjl
    clear hN hi ho hjl
    go_wp2_with fail
    go_ret
    exact NxR.mk (by rw [HL.out]; simp [oddL_length]) HO.out N.out.b (nx_some (Nat.le_of_succ_le hg1))
 by_cases h10 : op = 10
 ·subst h10
  have e : nextL k 10 c l = c :: oddL l := rfl
  rw [e]
  clear e
  have CO := hid (fun W => on_eq 10 a b c 2 rfl la va l.length lc vn vc W)
  have N0 := hid (ny_start w #[.int .i64 10, .int .i64 a, .int .i64 b, .int .i64 c, .slice la l.length lc, .slice va vn vc] 58)
  go_enter Tryz.func80, Tryz.ntmps80
  go_wp2_with (first
   | (go_at_call 29; refine (CO.out _).mono ?_; rintro e w1 ⟨rfl, hb⟩; have N := hid (N0.out.below hb); clear hb; have x0 : w1.cell? ⟨w.heap.size, 0, none⟩ = some (.int .i64 10) := (by rw [cell_of_row _ _ _ _ _ _ N.out.x.x]; rfl); have x3 : w1.cell? ⟨w.heap.size, 3, none⟩ = some (.int .i64 c) := (by rw [cell_of_row _ _ _ _ _ _ N.out.x.x]; rfl); have x4 : w1.cell? ⟨w.heap.size, 4, none⟩ = some (.slice la l.length lc) := (by rw [cell_of_row _ _ _ _ _ _ N.out.x.x]; rfl)))
  have NL := hid (ny_loop (c := c) (l := l) N.out)
  go_loopw [7, 8] (fun v7 v8 wr => ∃ j : Nat, v8 = .int .i64 (2 * j + 1 : Nat) ∧ j ≤ l.length / 2 ∧ NxAt w wr c l (.cells #[.int .i64 10, .int .i64 a, .int .i64 b, .int .i64 c, .slice la l.length lc, .slice va vn vc] 58 (0, 0)) j v7) (fun _ v8 _ => l.length + 2 - (intOf v8).toNat)
  case atStart => exact ⟨0, rfl, Nat.zero_le _, NL.out⟩
  case round =>
   obtain ⟨j, rfl, hj, hN⟩ := hrel
   have x4 : wr.cell? ⟨w.heap.size, 4, none⟩ = some (.slice la l.length lc) := by rw [cell_of_row _ _ _ _ _ _ hN.x.x]; rfl
   obtain ⟨i, hi⟩ : ∃ i, 2 * j + 1 = i := ⟨_, rfl⟩
   rw [hi]
   have N := hid hN
   have HJ := hid hi
   by_cases hlt : i < l.length
   ·obtain ⟨lb, lo, rfl, c0⟩ := ints_cell (HI.out.below hN.b) hlt
    obtain ⟨z, hz⟩ : ∃ z, l.getD i 0 = z := ⟨_, rfl⟩
    rw [hz] at c0
    have m2 : IntKind.i64.wrap ((i : Int) + 2) = (i : Int) + 2 := IntWalk.i64_in _ (by omega)
    have HZ := hid hz
    clear hz hi hN
    go_wp2_with (first
     | (at_builtin; refine app_int N.out.o rfl _ _ rfl z rfl _ rfl rfl (by have := HJ.out; omega) (heap_lt N.out.x.x) ?_; intro g cap V ho hb; have HO := hid ho; have HBV := hid hb; clear ho hb))
    go_roundw
    case rel => exact ⟨j + 1, by (have := HJ.out); congr 1; omega, by have := HJ.out; omega, nx_next N.out HO.out HBV.out (by have := HJ.out; omega) (by rw [HJ.out]; exact HZ.out)⟩
    case measure => simp [intOf]; omega
   ·obtain ⟨g, cap, rfl, hg1, hg2⟩ := hN.o.form (by omega)
    have hjl : j = l.length / 2 := by omega
    have ho := hN.o
    rw [List.take_of_length_le (by rw [oddL_length]; omega), hjl, show l.length / 2 + 1 = (c :: oddL l).length by simp [oddL_length]] at ho
    have HO := hid (ints_own ho)
    have HL := hid hjl
    clear hN hi ho hjl
    go_wp2_with fail
    go_ret
    exact NxR.mk (by rw [HL.out]; simp [oddL_length]) HO.out N.out.b (nx_some (Nat.le_of_succ_le hg1))
 by_cases h8 : op = 8
 ·subst h8
  by_cases hc : 0 ≤ c
  ·have hc' : decide (0 ≤ c) = true := decide_eq_true hc
   have e : nextL k 8 c l = [k + 1, c] := by simp [nextL, hc]
   rw [e]
   have CO := hid (fun W => on_eq 8 a b c 0 rfl la va l.length lc vn vc W)
   have N0 := hid (ny_start w #[.int .i64 8, .int .i64 a, .int .i64 b, .int .i64 c, .slice la l.length lc, .slice va vn vc] 58)
   go_enter Tryz.func80, Tryz.ntmps80
   go_wp2_with (first
    | (go_at_call 29; refine (CO.out _).mono ?_; rintro e w1 ⟨rfl, hb⟩; have N := hid (N0.out.below hb); clear hb; have x0 : w1.cell? ⟨w.heap.size, 0, none⟩ = some (.int .i64 8) := (by rw [cell_of_row _ _ _ _ _ _ N.out.x.x]; rfl); have x3 : w1.cell? ⟨w.heap.size, 3, none⟩ = some (.int .i64 c) := (by rw [cell_of_row _ _ _ _ _ _ N.out.x.x]; rfl); have x4 : w1.cell? ⟨w.heap.size, 4, none⟩ = some (.slice la l.length lc) := (by rw [cell_of_row _ _ _ _ _ _ N.out.x.x]; rfl)))
   go_ret
   exact NxR.mk rfl (ints_new2 rfl) (N.out.b.alloc N.out.b.size _) (nx_some N.out.b.size)
  ·have hc' : decide (0 ≤ c) = false := decide_eq_false hc
   have e : nextL k 8 c l = [k + 1] := by simp [nextL, hc]
   rw [e]
   have CO := hid (fun W => on_eq 8 a b c 0 rfl la va l.length lc vn vc W)
   have N0 := hid (ny_start w #[.int .i64 8, .int .i64 a, .int .i64 b, .int .i64 c, .slice la l.length lc, .slice va vn vc] 58)
   go_enter Tryz.func80, Tryz.ntmps80
   go_wp2_with (first
    | (go_at_call 29; refine (CO.out _).mono ?_; rintro e w1 ⟨rfl, hb⟩; have N := hid (N0.out.below hb); clear hb; have x0 : w1.cell? ⟨w.heap.size, 0, none⟩ = some (.int .i64 8) := (by rw [cell_of_row _ _ _ _ _ _ N.out.x.x]; rfl); have x3 : w1.cell? ⟨w.heap.size, 3, none⟩ = some (.int .i64 c) := (by rw [cell_of_row _ _ _ _ _ _ N.out.x.x]; rfl); have x4 : w1.cell? ⟨w.heap.size, 4, none⟩ = some (.slice la l.length lc) := (by rw [cell_of_row _ _ _ _ _ _ N.out.x.x]; rfl)))
   go_ret
   exact NxR.mk rfl (ints_new1 rfl) (N.out.b.alloc N.out.b.size _) (nx_some N.out.b.size)
 have q8 : (op == 8) = false := by simpa using h8
 have q9 : (op == 9) = false := by simpa using h9
 have q10 : (op == 10) = false := by simpa using h10
 have q11 : (op == 11) = false := by simpa using h11
 have q12 : (op == 12) = false := by simpa using h12
 have q13 : (op == 13) = false := by simpa using h13
 have e : nextL k op c l = [k + 1] := by simp [nextL, q8, q9, q10, q11, q12, q13]
 have e0 : onI op = 0 := by simp [onI, q9, q10, q11, q12, q13]
 rw [e]
 clear h8 h9 h10 h11 h12 h13 e h9l
 have CO := hid (fun W => on_eq op a b c 0 e0 la va l.length lc vn vc W)
 have N0 := hid (ny_start w #[.int .i64 op, .int .i64 a, .int .i64 b, .int .i64 c, .slice la l.length lc, .slice va vn vc] 58)
 go_enter Tryz.func80, Tryz.ntmps80
 go_wp2_with (first
  | (go_at_call 29; refine (CO.out _).mono ?_; rintro e w1 ⟨rfl, hb⟩; have N := hid (N0.out.below hb); clear hb; have x0 : w1.cell? ⟨w.heap.size, 0, none⟩ = some (.int .i64 op) := (by rw [cell_of_row _ _ _ _ _ _ N.out.x.x]; rfl); have x3 : w1.cell? ⟨w.heap.size, 3, none⟩ = some (.int .i64 c) := (by rw [cell_of_row _ _ _ _ _ _ N.out.x.x]; rfl); have x4 : w1.cell? ⟨w.heap.size, 4, none⟩ = some (.slice la l.length lc) := (by rw [cell_of_row _ _ _ _ _ _ N.out.x.x]; rfl)))
 go_ret
 exact NxR.mk rfl (ints_new1 rfl) (N.out.b.alloc N.out.b.size _) (nx_some N.out.b.size)
/-- an instruction lies from this cell on -/
def XAt (w : World) (b o : Nat) (x : In) : Prop := ∃ la lc va vc,
 w.cell? ⟨b, o, none⟩ = some (.int .i64 x.op) ∧ w.cell? ⟨b, o + 1, none⟩ = some (.int .i64 x.a) ∧ w.cell? ⟨b, o + 2, none⟩ = some (.int .i64 x.b) ∧ w.cell? ⟨b, o + 3, none⟩ = some (.int .i64 x.c) ∧
 w.cell? ⟨b, o + 4, none⟩ = some (.slice la x.l.length lc) ∧ w.cell? ⟨b, o + 5, none⟩ = some (.slice va x.lv.length vc) ∧ IntsAt .i64 w la x.l ∧ IntsAt .i64 w va x.lv
theorem XAt.below {w w' : World} {b o : Nat} {x : In} (h : XAt w b o x) (hb : Below w.heap.size w w') : XAt w' b o x := by
 obtain ⟨la, lc, va, vc, h0, h1, h2, h3, h4, h5, h6, h7⟩ := h
 have hl : b < w.heap.size := World.block_lt_of_cell? w _ h0
 have e : ∀ k, w'.cell? ⟨b, k, none⟩ = w.cell? ⟨b, k, none⟩ := fun k => hb.cell (p := ⟨b, k, none⟩) hl
 exact ⟨la, lc, va, vc, by rw [e]; exact h0, by rw [e]; exact h1, by rw [e]; exact h2, by rw [e]; exact h3, by rw [e]; exact h4, by rw [e]; exact h5, h6.below hb, h7.below hb⟩
/-- a function's code lies -/
def CodeAt (w : World) (ca : Option Addr) (code : List In) : Prop :=
 code.length ≤ 1000000000 ∧ (code = [] ∨ ∃ b o, ca = some ⟨b, o, none⟩ ∧ ∀ i x, code[i]? = some x → XAt w b (o + i * 6) x)
theorem CodeAt.below {w w' : World} {ca : Option Addr} {code : List In} (h : CodeAt w ca code) (hb : Below w.heap.size w w') : CodeAt w' ca code := by
 obtain ⟨hm, h | ⟨b, o, ha, hc⟩⟩ := h
 ·exact ⟨hm, .inl h⟩
 ·exact ⟨hm, .inr ⟨b, o, ha, fun i x hx => (hc i x hx).below hb⟩⟩
def flowsB (code : List In) : Bool := match code.getLast? with
 | none => true
 | some x => (nextL ((code.length : Int) - 1) x.op x.c x.l).any (fun t => t == (code.length : Int))
end Go.Proofs.YtokjkligechcoaaGreatDoor
