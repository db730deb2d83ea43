/- Walks of layer 16: where an instruction goes on, on both sides. -/
import Derived.Test.YtokjkligechcoaaGreatDoorCn
set_option linter.unusedVariables false
namespace Go.Proofs.YtokjkligechcoaaGreatDoor
open _root_.Go.Lib (hid)
open Go.RowKit
attribute [local go_sem] ext_mk size_mk toList_mk get_mk take_drop_len take_tail_len ByteArray.mk_append_mk List.append_toArray
def oddL (l : List Int) : List Int := (List.range (l.length / 2)).map fun j => l.getD (2 * j + 1) 0
theorem oddL_length (l : List Int) : (oddL l).length = l.length / 2 := by simp [oddL]
def nextL (k op c : Int) (l : List Int) : List Int :=
 if op == 11 || op == 12 || op == 13 then [] else if op == 9 then [c] else if op == 10 then c :: oddL l else if op == 8 && decide (0 ≤ c) then [k + 1, c] else [k + 1]
abbrev ints (l : List Int) : List Value := l.map (Value.int .i64)
theorem ints_own {W : World} {base g cap : Nat} {L : List Int} (h : W.ownsRow base 3 1 (.slice (some ⟨g, 0, none⟩) L.length cap) L.length (ints L)) : IntsAt .i64 W (some ⟨g, 0, none⟩) L := by
 have hc := fun j u hu => h.cells (g := g) rfl j u hu
 have hm : L.length ≤ maxLen := by
  rcases h.2 with ⟨q, _⟩ | ⟨_, _, _, q, _, _, q1, q2, _⟩
  ·cases q
  ·cases q; exact Nat.le_trans q1 q2
 refine ⟨hm, .inr ⟨g, 0, rfl, fun i hi => ?_⟩⟩
 have := hc i (.int .i64 (L.getD i 0)) (by simp [ints, List.getD, hi])
 rw [addr_plain] at this
 rwa [Nat.zero_add]
theorem ints_new1 {W : World} {H : Nat} {v : Int} {T : TypeId} (hH : H = W.heap.size) : IntsAt .i64 (W.alloc (.cells #[.int .i64 v] T)) (some ⟨H, 0, none⟩) [v] := by
 subst hH
 refine ⟨by unfold maxLen; simp, .inr ⟨_, 0, rfl, fun i hi => ?_⟩⟩
 obtain rfl : i = 0 := by simp at hi; omega
 rw [cell_of_row _ _ _ _ _ _ (heap_alloc_new W _)]; rfl
theorem ints_new2 {W : World} {H : Nat} {u v : Int} {T : TypeId} (hH : H = W.heap.size) : IntsAt .i64 (W.alloc (.cells #[.int .i64 u, .int .i64 v] T)) (some ⟨H, 0, none⟩) [u, v] := by
 subst hH
 refine ⟨by unfold maxLen; simp, .inr ⟨_, 0, rfl, fun i hi => ?_⟩⟩
 rw [cell_of_row _ _ _ _ _ _ (heap_alloc_new W _)]
 have hi : i < 2 := hi
 match i, hi with
 | 0, _ | 1, _ => rfl
theorem ints_nil (w : World) : IntsAt .i64 w none [] := ⟨by decide, .inl rfl⟩
/-- one number more behind a row of the call's own -/
theorem app_int {w : World} {ops : Array Oper} {rest : List Oper} {o : Oper} {a : Act} {Q : Exit → Act → World → Prop} {base n : Nat} {v : Value} {xs : List Value} {T : TypeId} (hown : w.ownsRow base 3 1 v n xs) (hgd : o.guard = none) (sl x : Operand)
  (ho : o.op = .call { callee := .builtin .append, args := #[sl, x], argTypes := #[56, 56] })
  (z : Int) (hs : a.eval sl = v) (H : Nat) (hH : w.heap.size = H) (hx : a.eval x = .slice (some ⟨H, 0, none⟩) 1 1) (hn : n ≤ 1000000000) (hbase : base ≤ w.heap.size)
  (h : ∀ g cap V, V.ownsRow base 3 1 (.slice (some ⟨g, 0, none⟩) (n + 1) cap) (n + 1) (xs ++ [.int .i64 z]) → Below base w V → wpList Tryz.prog ops Q rest (a.put o.dst (.slice (some ⟨g, 0, none⟩) (n + 1) cap)) V) :
  wpList Tryz.prog ops Q (o :: rest) a (w.alloc (.cells #[.int .i64 z] T)) := by
 obtain ⟨i0, hi, hz0, hz1, hz2⟩ := info_parts infoInt
 subst hH
 have hb0 : Below w.heap.size w (w.alloc (.cells #[.int .i64 z] T)) := (Below.refl _ _).alloc (Nat.le_refl _) _
 have hown1 := row_below hown hb0
 refine wpList_append_lies _ hgd sl x 56 ho base 3 i0 (.int .i64 0) 1 8 Tryz.underlying56 hi hz0 hz1 hz2 rfl (by decide) v n xs hs hown1 ⟨w.heap.size, 0, none⟩ 1 1 [.int .i64 z] hx rfl (World.news_of_block (heap_alloc_new _ _)) (by intro u hu; simp at hu; subst hu; rfl) (by decide) (by unfold maxLen; omega) (by omega) (Nat.le_trans hbase hb0.size) _ rfl ?_
 intro g cap V k1 k2 _ _
 exact h g cap V k1 ((hb0.mono hbase).trans ((Below.refl base _).grown k2 (Nat.le_trans hbase hb0.size) (fun j hj => (hown1.lt j hj).1)))
/-- a list of numbers is told -/
def NxR (w : World) (L : List Int) (e : Ending) (w' : World) : Prop := ∃ r cap, e = .returned (.slice r L.length cap) ∧ IntsAt .i64 w' r L ∧ Below w.heap.size w w' ∧ ∀ b o, r = some ⟨b, o, none⟩ → w.heap.size ≤ b
theorem NxR.mk {w : World} {L : List Int} {w' : World} {r : Option Addr} {n cap : Nat} (hn : n = L.length) (h1 : IntsAt .i64 w' r L) (h2 : Below w.heap.size w w') (h3 : ∀ b o, r = some ⟨b, o, none⟩ → w.heap.size ≤ b) : NxR w L (.returned (.slice r n cap)) w' := ⟨r, cap, by rw [hn], h1, h2, h3⟩
theorem nx_none {m : Nat} : ∀ b o, (none : Option Addr) = some ⟨b, o, none⟩ → m ≤ b := fun _ _ q => by cases q
theorem nx_some {m H : Nat} (h : m ≤ H) : ∀ b o, some (⟨H, 0, none⟩ : Addr) = some ⟨b, o, none⟩ → m ≤ b := fun _ _ q => by cases q; exact h
structure NxAt (w V : World) (c : Int) (l : List Int) (xo : Obj) (j : Nat) (v : Value) : Prop where
 x : KAt V w.heap.size xo
 o : V.ownsRow (w.heap.size + 1) 3 1 v (j + 1) (ints (c :: (oddL l).take j))
 b : Below w.heap.size w V
theorem nx_start {w W : World} {c : Int} {l : List Int} {xo : Obj} (hx : KAt W w.heap.size xo) (hz : W.heap.size = w.heap.size + 1) (hb : Below w.heap.size w W) :
  NxAt w (W.alloc (.cells #[.int .i64 c] 3)) c l xo 0 (.slice (some ⟨w.heap.size + 1, 0, none⟩) 1 1) := by
 have hbV : Below W.heap.size W (W.alloc (.cells #[.int .i64 c] 3)) := (Below.refl _ _).alloc (Nat.le_refl _) _
 have k := KAt.new W (.cells #[.int .i64 c] 3 (0, 0))
 rw [hz] at k
 exact ⟨hx.below hbV, ⟨by simp [ints], .inr ⟨_, 1, #[.int .i64 c], rfl, Nat.le_refl _, k.x, Nat.le_refl _, by unfold maxLen; omega, rfl, rfl⟩⟩, hb.trans (hbV.mono (by omega))⟩
theorem nx_next {w V V' : World} {c z : Int} {l : List Int} {xo : Obj} {j g cap : Nat} {v : Value} (h : NxAt w V c l xo j v) (ho : V'.ownsRow (w.heap.size + 1) 3 1 (.slice (some ⟨g, 0, none⟩) (j + 1 + 1) cap) (j + 1 + 1) (ints (c :: (oddL l).take j) ++ [.int .i64 z])) (hb : Below (w.heap.size + 1) V V') (hj : 2 * j + 1 < l.length) (hz : l.getD (2 * j + 1) 0 = z) :
  NxAt w V' c l xo (j + 1) (.slice (some ⟨g, 0, none⟩) (j + 1 + 1) cap) := by
 have hjo : j < (oddL l).length := by rw [oddL_length]; omega
 have e : ints (c :: (oddL l).take (j + 1)) = ints (c :: (oddL l).take j) ++ [.int .i64 z] := by
  rw [List.take_succ_eq_append_getElem hjo]
  simp [ints, oddL, ← hz]
 exact ⟨⟨by rw [hb.block _ (Nat.lt_succ_self _)]; exact h.x.x⟩, by rw [e]; exact ho, h.b.trans (hb.mono (Nat.le_succ _))⟩
set_option maxHeartbeats 4000000 in
set_option maxRecDepth 8000 in
theorem rnext_any (k op a b c : Int) (l : List Int) (la va : Option Addr) (lc vn vc : Nat) (w : World) (hl : IntsAt .i64 w la l) (hk0 : 0 ≤ k) (hk1 : k < 4611686018427387904) (hll : l.length ≤ 1000000000) :
  Calls Tryz.prog 86 #[.int .i64 k, .agg #[.int .i64 op, .int .i64 a, .int .i64 b, .int .i64 c, .slice la l.length lc, .slice va vn vc]] w fun e w' => NxR w (nextL k op c l) e w' := by
 have m1 : IntKind.i64.wrap (k + 1) = k + 1 := IntWalk.i64_in _ (by omega)
 have hA : ∀ o, Below w.heap.size w (w.alloc o) := fun o => (Below.refl _ _).alloc (Nat.le_refl _) _
 have hA2 : ∀ o1 o2, Below w.heap.size w ((w.alloc o1).alloc o2) := fun o1 o2 => (hA o1).alloc (by simp) _
 have HA := hid hA
 have HA2 := hid hA2
 clear hA hA2
 by_cases h11 : op = 11
 ·subst h11
  go_enter Tryz.func86, Tryz.ntmps86
  go_wp2
  go_ret
  exact NxR.mk rfl (ints_nil _) (HA.out _) nx_none
 by_cases h12 : op = 12
 ·subst h12
  go_enter Tryz.func86, Tryz.ntmps86
  go_wp2
  go_ret
  exact NxR.mk rfl (ints_nil _) (HA.out _) nx_none
 by_cases h13 : op = 13
 ·subst h13
  go_enter Tryz.func86, Tryz.ntmps86
  go_wp2
  go_ret
  exact NxR.mk rfl (ints_nil _) (HA.out _) nx_none
 by_cases h9 : op = 9
 ·subst h9
  go_enter Tryz.func86, Tryz.ntmps86
  go_wp2
  go_ret
  exact NxR.mk rfl (ints_new1 (by simp)) (HA2.out _ _) (nx_some (by simp))
 by_cases h8 : op = 8
 ·subst h8
  by_cases hc : 0 ≤ c
  ·have hc' : decide (0 ≤ c) = true := decide_eq_true hc
   have e : nextL k 8 c l = [k + 1, c] := by simp [nextL, hc]
   rw [e]
   go_enter Tryz.func86, Tryz.ntmps86
   go_wp2
   go_ret
   exact NxR.mk rfl (ints_new2 (by simp)) (HA2.out _ _) (nx_some (by simp))
  ·have hc' : decide (0 ≤ c) = false := decide_eq_false hc
   have e : nextL k 8 c l = [k + 1] := by simp [nextL, hc]
   rw [e]
   go_enter Tryz.func86, Tryz.ntmps86
   go_wp2
   go_ret
   exact NxR.mk rfl (ints_new1 (by simp)) (HA2.out _ _) (nx_some (by simp))
 by_cases h10 : op = 10
 rotate_left
 ·have q8 : (op == 8) = false := by simpa using h8
  have q9 : (op == 9) = false := by simpa using h9
  have q10 : (op == 10) = false := by simpa using h10
  have q11 : (op == 11) = false := by simpa using h11
  have q12 : (op == 12) = false := by simpa using h12
  have q13 : (op == 13) = false := by simpa using h13
  have e : nextL k op c l = [k + 1] := by simp [nextL, q8, q9, q10, q11, q12, q13]
  rw [e]
  clear h8 h9 h10 h11 h12 h13 e
  go_enter Tryz.func86, Tryz.ntmps86
  go_wp2
  go_ret
  exact NxR.mk rfl (ints_new1 (by simp)) (HA2.out _ _) (nx_some (by simp))
 subst h10
 obtain ⟨W, hW⟩ : ∃ W, w.alloc (.cells #[.int .i64 10, .int .i64 a, .int .i64 b, .int .i64 c, .slice la l.length lc, .slice va vn vc] 58) = W := ⟨_, rfl⟩
 have kx : KAt W w.heap.size (.cells #[.int .i64 10, .int .i64 a, .int .i64 b, .int .i64 c, .slice la l.length lc, .slice va vn vc] 58 (0, 0)) := by rw [← hW]; exact KAt.new _ _
 have zW : W.heap.size = w.heap.size + 1 := by rw [← hW]; simp
 have hbW : Below w.heap.size w W := by rw [← hW]; exact HA.out _
 have hbV : Below W.heap.size W (W.alloc (.cells #[.int .i64 c] 3)) := (Below.refl _ _).alloc (Nat.le_refl _) _
 have H0 := hid (nx_start (c := c) (l := l) kx zW hbW)
 have HI := hid hl
 have e : nextL k 10 c l = c :: oddL l := rfl
 rw [e]
 have x0 : W.cell? ⟨w.heap.size, 0, none⟩ = some (.int .i64 10) := by rw [cell_of_row _ _ _ _ _ _ kx.x]; rfl
 have x3 : W.cell? ⟨w.heap.size, 3, none⟩ = some (.int .i64 c) := by rw [cell_of_row _ _ _ _ _ _ kx.x]; rfl
 clear kx hbW hbV h8 h9 h11 h12 h13 e hl
 go_enter Tryz.func86, Tryz.ntmps86
 go_wp2_with fail
 go_loopw [5, 6] (fun v5 v6 wr => ∃ j : Nat, v6 = .int .i64 (2 * j + 1 : Nat) ∧ j ≤ l.length / 2 ∧ NxAt w wr c l (.cells #[.int .i64 10, .int .i64 a, .int .i64 b, .int .i64 c, .slice la l.length lc, .slice va vn vc] 58 (0, 0)) j v5) (fun _ v6 _ => l.length + 2 - (intOf v6).toNat)
 case atStart => exact ⟨0, rfl, Nat.zero_le _, H0.out⟩
 case round =>
  obtain ⟨j, rfl, hj, hN⟩ := hrel
  have x4 : wr.cell? ⟨w.heap.size, 4, none⟩ = some (.slice la l.length lc) := by rw [cell_of_row _ _ _ _ _ _ hN.x.x]; rfl
  obtain ⟨i, hi⟩ : ∃ i, 2 * j + 1 = i := ⟨_, rfl⟩
  rw [hi]
  have N := hid hN
  have HJ := hid hi
  by_cases hlt : i < l.length
  ·obtain ⟨lb, lo, rfl, c0⟩ := ints_cell (HI.out.below hN.b) hlt
   obtain ⟨z, hz⟩ : ∃ z, l.getD i 0 = z := ⟨_, rfl⟩
   rw [hz] at c0
   have m2 : IntKind.i64.wrap ((i : Int) + 2) = (i : Int) + 2 := IntWalk.i64_in _ (by omega)
   have HZ := hid hz
   clear hz hi hN hW H0 x0 x3 zW
   go_wp2_with (first
    | (at_builtin; refine app_int N.out.o rfl _ _ rfl z rfl _ rfl rfl (by have := HJ.out; omega) (heap_lt N.out.x.x) ?_; intro g cap V ho hb; have HO := hid ho; have HBV := hid hb; clear ho hb))
   go_roundw
   case rel => exact ⟨j + 1, by (have := HJ.out); congr 1; omega, by have := HJ.out; omega, nx_next N.out HO.out HBV.out (by have := HJ.out; omega) (by rw [HJ.out]; exact HZ.out)⟩
   case measure => simp [intOf]; omega
  ·obtain ⟨g, cap, rfl, hg1, hg2⟩ := hN.o.form (by omega)
   have hjl : j = l.length / 2 := by omega
   have ho := hN.o
   rw [List.take_of_length_le (by rw [oddL_length]; omega), hjl, show l.length / 2 + 1 = (c :: oddL l).length by simp [oddL_length]] at ho
   have HO := hid (ints_own ho)
   have HL := hid hjl
   clear hN hi ho hjl
   go_wp2_with fail
   go_ret
   exact NxR.mk (by rw [HL.out]; simp [oddL_length]) HO.out N.out.b (nx_some (Nat.le_of_succ_le hg1))
theorem on_eq (op a b c v : Int) (hv : onI op = v) (la ra : Option Addr) (ln lc rn rc : Nat) (w : World) : Calls Tryz.prog 29 #[.agg #[.int .i64 op, .int .i64 a, .int .i64 b, .int .i64 c, .slice la ln lc, .slice ra rn rc]] w fun x w' => x = .returned (.int .i64 v) ∧ Below w.heap.size w w' := by
 have := on_any op a b c la ra ln lc rn rc w
 rwa [hv] at this
/-- behind 'on': the instruction's box -/
structure NyAt (w V : World) (xo : Obj) : Prop where
 x : KAt V w.heap.size xo
 b : Below w.heap.size w V
theorem ny_start (w : World) (xo : Array Value) (T : TypeId) : NyAt w (w.alloc (.cells xo T)) (.cells xo T (0, 0)) := ⟨KAt.new w _, (Below.refl _ _).alloc (Nat.le_refl _) _⟩
theorem NyAt.below {w V V' : World} {xo : Obj} (h : NyAt w V xo) (hb : Below V.heap.size V V') : NyAt w V' xo := ⟨h.x.below hb, h.b.trans (hb.mono h.b.size)⟩
theorem ny_loop {w V : World} {c : Int} {l : List Int} {xo : Obj} (h : NyAt w V xo) : NxAt w (V.alloc (.cells #[.int .i64 c] 3)) c l xo 0 (.slice (some ⟨V.heap.size, 0, none⟩) 1 1) := by
 have hbV : Below V.heap.size V (V.alloc (.cells #[.int .i64 c] 3)) := (Below.refl _ _).alloc (Nat.le_refl _) _
 have hz := heap_lt h.x.x
 exact ⟨h.x.below hbV, ⟨by simp [ints], .inr ⟨_, 1, #[.int .i64 c], rfl, by omega, (KAt.new V (.cells #[.int .i64 c] 3 (0, 0))).x, Nat.le_refl _, by unfold maxLen; omega, rfl, rfl⟩⟩, h.b.trans (hbV.mono h.b.size)⟩
set_option maxHeartbeats 4000000 in
set_option maxRecDepth 8000 in
theorem next_any (p : Value) (k op a b c : Int) (l : List Int) (la va : Option Addr) (lc vn vc : Nat) (w : World) (hl : IntsAt .i64 w la l) (hk0 : 0 ≤ k) (hk1 : k < 4611686018427387904) (hll : l.length ≤ 1000000000) (h9l : op = 9 → l = []) :
  Calls Tryz.prog 80 #[p, .int .i64 k, .agg #[.int .i64 op, .int .i64 a, .int .i64 b, .int .i64 c, .slice la l.length lc, .slice va vn vc]] w fun e w' => NxR w (nextL k op c l) e w' := by
 have m1 : IntKind.i64.wrap (k + 1) = k + 1 := IntWalk.i64_in _ (by omega)
 have HI := hid hl
 clear hl
 have HB : ∀ W, Hid (NyAt w W (.cells #[.int .i64 op, .int .i64 a, .int .i64 b, .int .i64 c, .slice la l.length lc, .slice va vn vc] 58 (0, 0)) → ∀ o, Below w.heap.size w (W.alloc o)) := fun W => hid (fun h o => h.b.alloc h.b.size _)
 by_cases h11 : op = 11
 ·subst h11
  have CO := hid (fun W => on_eq 11 a b c 1 rfl la va l.length lc vn vc W)
  have N0 := hid (ny_start w #[.int .i64 11, .int .i64 a, .int .i64 b, .int .i64 c, .slice la l.length lc, .slice va vn vc] 58)
  go_enter Tryz.func80, Tryz.ntmps80
  go_wp2_with (first
   | (go_at_call 29; refine (CO.out _).mono ?_; rintro e w1 ⟨rfl, hb⟩; have N := hid (N0.out.below hb); clear hb; have x0 : w1.cell? ⟨w.heap.size, 0, none⟩ = some (.int .i64 11) := (by rw [cell_of_row _ _ _ _ _ _ N.out.x.x]; rfl); have x3 : w1.cell? ⟨w.heap.size, 3, none⟩ = some (.int .i64 c) := (by rw [cell_of_row _ _ _ _ _ _ N.out.x.x]; rfl); have x4 : w1.cell? ⟨w.heap.size, 4, none⟩ = some (.slice la l.length lc) := (by rw [cell_of_row _ _ _ _ _ _ N.out.x.x]; rfl)))
  go_ret
  exact NxR.mk rfl (ints_nil _) N.out.b nx_none
 by_cases h12 : op = 12
 ·subst h12
  have CO := hid (fun W => on_eq 12 a b c 1 rfl la va l.length lc vn vc W)
  have N0 := hid (ny_start w #[.int .i64 12, .int .i64 a, .int .i64 b, .int .i64 c, .slice la l.length lc, .slice va vn vc] 58)
  go_enter Tryz.func80, Tryz.ntmps80
  go_wp2_with (first
   | (go_at_call 29; refine (CO.out _).mono ?_; rintro e w1 ⟨rfl, hb⟩; have N := hid (N0.out.below hb); clear hb; have x0 : w1.cell? ⟨w.heap.size, 0, none⟩ = some (.int .i64 12) := (by rw [cell_of_row _ _ _ _ _ _ N.out.x.x]; rfl); have x3 : w1.cell? ⟨w.heap.size, 3, none⟩ = some (.int .i64 c) := (by rw [cell_of_row _ _ _ _ _ _ N.out.x.x]; rfl); have x4 : w1.cell? ⟨w.heap.size, 4, none⟩ = some (.slice la l.length lc) := (by rw [cell_of_row _ _ _ _ _ _ N.out.x.x]; rfl)))
  go_ret
  exact NxR.mk rfl (ints_nil _) N.out.b nx_none
 by_cases h13 : op = 13
 ·subst h13
  have CO := hid (fun W => on_eq 13 a b c 1 rfl la va l.length lc vn vc W)
  have N0 := hid (ny_start w #[.int .i64 13, .int .i64 a, .int .i64 b, .int .i64 c, .slice la l.length lc, .slice va vn vc] 58)
  go_enter Tryz.func80, Tryz.ntmps80
  go_wp2_with (first
   | (go_at_call 29; refine (CO.out _).mono ?_; rintro e w1 ⟨rfl, hb⟩; have N := hid (N0.out.below hb); clear hb; have x0 : w1.cell? ⟨w.heap.size, 0, none⟩ = some (.int .i64 13) := (by rw [cell_of_row _ _ _ _ _ _ N.out.x.x]; rfl); have x3 : w1.cell? ⟨w.heap.size, 3, none⟩ = some (.int .i64 c) := (by rw [cell_of_row _ _ _ _ _ _ N.out.x.x]; rfl); have x4 : w1.cell? ⟨w.heap.size, 4, none⟩ = some (.slice la l.length lc) := (by rw [cell_of_row _ _ _ _ _ _ N.out.x.x]; rfl)))
  go_ret
  exact NxR.mk rfl (ints_nil _) N.out.b nx_none
 by_cases h9 : op = 9
 ·subst h9
  have hl0 := h9l rfl
  have e : nextL k 9 c l = c :: oddL l := by rw [hl0]; rfl
  rw [e]
  clear hl0 h9l e
  have CO := hid (fun W => on_eq 9 a b c 2 rfl la va l.length lc vn vc W)
  have N0 := hid (ny_start w #[.int .i64 9, .int .i64 a, .int .i64 b, .int .i64 c, .slice la l.length lc, .slice va vn vc] 58)
  go_enter Tryz.func80, Tryz.ntmps80
  go_wp2_with (first
   | (go_at_call 29; refine (CO.out _).mono ?_; rintro e w1 ⟨rfl, hb⟩; have N := hid (N0.out.below hb); clear hb; have x0 : w1.cell? ⟨w.heap.size, 0, none⟩ = some (.int .i64 9) := (by rw [cell_of_row _ _ _ _ _ _ N.out.x.x]; rfl); have x3 : w1.cell? ⟨w.heap.size, 3, none⟩ = some (.int .i64 c) := (by rw [cell_of_row _ _ _ _ _ _ N.out.x.x]; rfl); have x4 : w1.cell? ⟨w.heap.size, 4, none⟩ = some (.slice la l.length lc) := (by rw [cell_of_row _ _ _ _ _ _ N.out.x.x]; rfl)))
  have NL := hid (ny_loop (c := c) (l := l) N.out)
  go_loopw [7, 8] (fun v7 v8 wr => ∃ j : Nat, v8 = .int .i64 (2 * j + 1 : Nat) ∧ j ≤ l.length / 2 ∧ NxAt w wr c l (.cells #[.int .i64 9, .int .i64 a, .int .i64 b, .int .i64 c, .slice la l.length lc, .slice va vn vc] 58 (0, 0)) j v7) (fun _ v8 _ => l.length + 2 - (intOf v8).toNat)
  case atStart => exact ⟨0, rfl, Nat.zero_le _, NL.out⟩
  case round =>
   obtain ⟨j, rfl, hj, hN⟩ := hrel
   have x4 : wr.cell? ⟨w.heap.size, 4, none⟩ = some (.slice la l.length lc) := by rw [cell_of_row _ _ _ _ _ _ hN.x.x]; rfl
   obtain ⟨i, hi⟩ : ∃ i, 2 * j + 1 = i := ⟨_, rfl⟩
   rw [hi]
   have N := hid hN
   have HJ := hid hi
   by_cases hlt : i < l.length
   ·obtain ⟨lb, lo, rfl, c0⟩ := ints_cell (HI.out.below hN.b) hlt
    obtain ⟨z, hz⟩ : ∃ z, l.getD i 0 = z := ⟨_, rfl⟩
    rw [hz] at c0
    have m2 : IntKind.i64.wrap ((i : Int) + 2) = (i : Int) + 2 := IntWalk.i64_in _ (by omega)
    have HZ := hid hz
    clear hz hi hN
    go_wp2_with (first
     | (at_builtin; refine app_int N.out.o rfl _ _ rfl z rfl _ rfl rfl (by have := HJ.out; omega) (heap_lt N.out.x.x) ?_; intro g cap V ho hb; have HO := hid ho; have HBV := hid hb; clear ho hb))
    go_roundw
    case rel => exact ⟨j + 1, by (have := HJ.out); congr 1; omega, by have := HJ.out; omega, nx_next N.out HO.out HBV.out (by have := HJ.out; omega) (by rw [HJ.out]; exact HZ.out)⟩
    case measure => simp [intOf]; omega
   ·obtain ⟨g, cap, rfl, hg1, hg2⟩ := hN.o.form (by omega)
    have hjl : j = l.length / 2 := by omega
    have ho := hN.o
    rw [List.take_of_length_le (by rw [oddL_length]; omega), hjl, show l.length / 2 + 1 = (c :: oddL l).length by simp [oddL_length]] at ho
    have HO := hid (ints_own ho)
    have HL := hid hjl
    clear hN hi ho hjl
    go_wp2_with fail
    go_ret
    exact NxR.mk (by rw [HL.out]; simp [oddL_length]) HO.out N.out.b (nx_some (Nat.le_of_succ_le hg1))
 by_cases h10 : op = 10
 ·subst h10
  have e : nextL k 10 c l = c :: oddL l := rfl
  rw [e]
  clear e
  have CO := hid (fun W => on_eq 10 a b c 2 rfl la va l.length lc vn vc W)
  have N0 := hid (ny_start w #[.int .i64 10, .int .i64 a, .int .i64 b, .int .i64 c, .slice la l.length lc, .slice va vn vc] 58)
  go_enter Tryz.func80, Tryz.ntmps80
  go_wp2_with (first
   | (go_at_call 29; refine (CO.out _).mono ?_; rintro e w1 ⟨rfl, hb⟩; have N := hid (N0.out.below hb); clear hb; have x0 : w1.cell? ⟨w.heap.size, 0, none⟩ = some (.int .i64 10) := (by rw [cell_of_row _ _ _ _ _ _ N.out.x.x]; rfl); have x3 : w1.cell? ⟨w.heap.size, 3, none⟩ = some (.int .i64 c) := (by rw [cell_of_row _ _ _ _ _ _ N.out.x.x]; rfl); have x4 : w1.cell? ⟨w.heap.size, 4, none⟩ = some (.slice la l.length lc) := (by rw [cell_of_row _ _ _ _ _ _ N.out.x.x]; rfl)))
  have NL := hid (ny_loop (c := c) (l := l) N.out)
  go_loopw [7, 8] (fun v7 v8 wr => ∃ j : Nat, v8 = .int .i64 (2 * j + 1 : Nat) ∧ j ≤ l.length / 2 ∧ NxAt w wr c l (.cells #[.int .i64 10, .int .i64 a, .int .i64 b, .int .i64 c, .slice la l.length lc, .slice va vn vc] 58 (0, 0)) j v7) (fun _ v8 _ => l.length + 2 - (intOf v8).toNat)
  case atStart => exact ⟨0, rfl, Nat.zero_le _, NL.out⟩
  case round =>
   obtain ⟨j, rfl, hj, hN⟩ := hrel
   have x4 : wr.cell? ⟨w.heap.size, 4, none⟩ = some (.slice la l.length lc) := by rw [cell_of_row _ _ _ _ _ _ hN.x.x]; rfl
   obtain ⟨i, hi⟩ : ∃ i, 2 * j + 1 = i := ⟨_, rfl⟩
   rw [hi]
   have N := hid hN
   have HJ := hid hi
   by_cases hlt : i < l.length
   ·obtain ⟨lb, lo, rfl, c0⟩ := ints_cell (HI.out.below hN.b) hlt
    obtain ⟨z, hz⟩ : ∃ z, l.getD i 0 = z := ⟨_, rfl⟩
    rw [hz] at c0
    have m2 : IntKind.i64.wrap ((i : Int) + 2) = (i : Int) + 2 := IntWalk.i64_in _ (by omega)
    have HZ := hid hz
    clear hz hi hN
    go_wp2_with (first
     | (at_builtin; refine app_int N.out.o rfl _ _ rfl z rfl _ rfl rfl (by have := HJ.out; omega) (heap_lt N.out.x.x) ?_; intro g cap V ho hb; have HO := hid ho; have HBV := hid hb; clear ho hb))
    go_roundw
    case rel => exact ⟨j + 1, by (have := HJ.out); congr 1; omega, by have := HJ.out; omega, nx_next N.out HO.out HBV.out (by have := HJ.out; omega) (by rw [HJ.out]; exact HZ.out)⟩
    case measure => simp [intOf]; omega
   ·obtain ⟨g, cap, rfl, hg1, hg2⟩ := hN.o.form (by omega)
    have hjl : j = l.length / 2 := by omega
    have ho := hN.o
    rw [List.take_of_length_le (by rw [oddL_length]; omega), hjl, show l.length / 2 + 1 = (c :: oddL l).length by simp [oddL_length]] at ho
    have HO := hid (ints_own ho)
    have HL := hid hjl
    clear hN hi ho hjl
    go_wp2_with fail
    go_ret
    exact NxR.mk (by rw [HL.out]; simp [oddL_length]) HO.out N.out.b (nx_some (Nat.le_of_succ_le hg1))
 by_cases h8 : op = 8
 ·subst h8
  by_cases hc : 0 ≤ c
  ·have hc' : decide (0 ≤ c) = true := decide_eq_true hc
   have e : nextL k 8 c l = [k + 1, c] := by simp [nextL, hc]
   rw [e]
   have CO := hid (fun W => on_eq 8 a b c 0 rfl la va l.length lc vn vc W)
   have N0 := hid (ny_start w #[.int .i64 8, .int .i64 a, .int .i64 b, .int .i64 c, .slice la l.length lc, .slice va vn vc] 58)
   go_enter Tryz.func80, Tryz.ntmps80
   go_wp2_with (first
    | (go_at_call 29; refine (CO.out _).mono ?_; rintro e w1 ⟨rfl, hb⟩; have N := hid (N0.out.below hb); clear hb; have x0 : w1.cell? ⟨w.heap.size, 0, none⟩ = some (.int .i64 8) := (by rw [cell_of_row _ _ _ _ _ _ N.out.x.x]; rfl); have x3 : w1.cell? ⟨w.heap.size, 3, none⟩ = some (.int .i64 c) := (by rw [cell_of_row _ _ _ _ _ _ N.out.x.x]; rfl); have x4 : w1.cell? ⟨w.heap.size, 4, none⟩ = some (.slice la l.length lc) := (by rw [cell_of_row _ _ _ _ _ _ N.out.x.x]; rfl)))
   go_ret
   exact NxR.mk rfl (ints_new2 rfl) (N.out.b.alloc N.out.b.size _) (nx_some N.out.b.size)
  ·have hc' : decide (0 ≤ c) = false := decide_eq_false hc
   have e : nextL k 8 c l = [k + 1] := by simp [nextL, hc]
   rw [e]
   have CO := hid (fun W => on_eq 8 a b c 0 rfl la va l.length lc vn vc W)
   have N0 := hid (ny_start w #[.int .i64 8, .int .i64 a, .int .i64 b, .int .i64 c, .slice la l.length lc, .slice va vn vc] 58)
   go_enter Tryz.func80, Tryz.ntmps80
   go_wp2_with (first
    | (go_at_call 29; refine (CO.out _).mono ?_; rintro e w1 ⟨rfl, hb⟩; have N := hid (N0.out.below hb); clear hb; have x0 : w1.cell? ⟨w.heap.size, 0, none⟩ = some (.int .i64 8) := (by rw [cell_of_row _ _ _ _ _ _ N.out.x.x]; rfl); have x3 : w1.cell? ⟨w.heap.size, 3, none⟩ = some (.int .i64 c) := (by rw [cell_of_row _ _ _ _ _ _ N.out.x.x]; rfl); have x4 : w1.cell? ⟨w.heap.size, 4, none⟩ = some (.slice la l.length lc) := (by rw [cell_of_row _ _ _ _ _ _ N.out.x.x]; rfl)))
   go_ret
   exact NxR.mk rfl (ints_new1 rfl) (N.out.b.alloc N.out.b.size _) (nx_some N.out.b.size)
 have q8 : (op == 8) = false := by simpa using h8
 have q9 : (op == 9) = false := by simpa using h9
 have q10 : (op == 10) = false := by simpa using h10
 have q11 : (op == 11) = false := by simpa using h11
 have q12 : (op == 12) = false := by simpa using h12
 have q13 : (op == 13) = false := by simpa using h13
 have e : nextL k op c l = [k + 1] := by simp [nextL, q8, q9, q10, q11, q12, q13]
 have e0 : onI op = 0 := by simp [onI, q9, q10, q11, q12, q13]
 rw [e]
 clear h8 h9 h10 h11 h12 h13 e h9l
 have CO := hid (fun W => on_eq op a b c 0 e0 la va l.length lc vn vc W)
 have N0 := hid (ny_start w #[.int .i64 op, .int .i64 a, .int .i64 b, .int .i64 c, .slice la l.length lc, .slice va vn vc] 58)
 go_enter Tryz.func80, Tryz.ntmps80
 go_wp2_with (first
  | (go_at_call 29; refine (CO.out _).mono ?_; rintro e w1 ⟨rfl, hb⟩; have N := hid (N0.out.below hb); clear hb; have x0 : w1.cell? ⟨w.heap.size, 0, none⟩ = some (.int .i64 op) := (by rw [cell_of_row _ _ _ _ _ _ N.out.x.x]; rfl); have x3 : w1.cell? ⟨w.heap.size, 3, none⟩ = some (.int .i64 c) := (by rw [cell_of_row _ _ _ _ _ _ N.out.x.x]; rfl); have x4 : w1.cell? ⟨w.heap.size, 4, none⟩ = some (.slice la l.length lc) := (by rw [cell_of_row _ _ _ _ _ _ N.out.x.x]; rfl)))
 go_ret
 exact NxR.mk rfl (ints_new1 rfl) (N.out.b.alloc N.out.b.size _) (nx_some N.out.b.size)
theorem setsI_eq (op : Int) : setsI op = ((decide (1 ≤ op) && decide (op ≤ 6)) || (op == 8)) := by
 rw [Bool.eq_iff_iff]; simp [setsI]; omega
theorem rsets_any (op a b c : Int) (la ra : Option Addr) (ln lc rn rc : Nat) (w : World) : Calls Tryz.prog 100 #[.agg #[.int .i64 op, .int .i64 a, .int .i64 b, .int .i64 c, .slice la ln lc, .slice ra rn rc]] w fun x w' => x = .returned (.bool (setsI op)) ∧ Below w.heap.size w w' := by
 have HU := hid (setsI_eq op)
 go_enter Tryz.func100, Tryz.ntmps100
 go_wp2
 all_goals go_ret
 all_goals exact ⟨ret_bool (by rw [HU.out]; first | (simp [*]; done) | (simp [*]; omega)), (Below.refl _ _).alloc (Nat.le_refl _) _⟩
/-- an instruction lies from this cell on -/
def XAt (w : World) (b o : Nat) (x : In) : Prop := ∃ la lc va vc,
 w.cell? ⟨b, o, none⟩ = some (.int .i64 x.op) ∧ w.cell? ⟨b, o + 1, none⟩ = some (.int .i64 x.a) ∧ w.cell? ⟨b, o + 2, none⟩ = some (.int .i64 x.b) ∧ w.cell? ⟨b, o + 3, none⟩ = some (.int .i64 x.c) ∧
 w.cell? ⟨b, o + 4, none⟩ = some (.slice la x.l.length lc) ∧ w.cell? ⟨b, o + 5, none⟩ = some (.slice va x.lv.length vc) ∧ IntsAt .i64 w la x.l ∧ IntsAt .i64 w va x.lv
theorem XAt.below {w w' : World} {b o : Nat} {x : In} (h : XAt w b o x) (hb : Below w.heap.size w w') : XAt w' b o x := by
 obtain ⟨la, lc, va, vc, h0, h1, h2, h3, h4, h5, h6, h7⟩ := h
 have hl : b < w.heap.size := World.block_lt_of_cell? w _ h0
 have e : ∀ k, w'.cell? ⟨b, k, none⟩ = w.cell? ⟨b, k, none⟩ := fun k => hb.cell (p := ⟨b, k, none⟩) hl
 exact ⟨la, lc, va, vc, by rw [e]; exact h0, by rw [e]; exact h1, by rw [e]; exact h2, by rw [e]; exact h3, by rw [e]; exact h4, by rw [e]; exact h5, h6.below hb, h7.below hb⟩
/-- a function's code lies -/
def CodeAt (w : World) (ca : Option Addr) (code : List In) : Prop :=
 code.length ≤ 1000000000 ∧ (code = [] ∨ ∃ b o, ca = some ⟨b, o, none⟩ ∧ ∀ i x, code[i]? = some x → XAt w b (o + i * 6) x)
theorem CodeAt.below {w w' : World} {ca : Option Addr} {code : List In} (h : CodeAt w ca code) (hb : Below w.heap.size w w') : CodeAt w' ca code := by
 obtain ⟨hm, h | ⟨b, o, ha, hc⟩⟩ := h
 ·exact ⟨hm, .inl h⟩
 ·exact ⟨hm, .inr ⟨b, o, ha, fun i x hx => (hc i x hx).below hb⟩⟩
def flowsB (code : List In) : Bool := match code.getLast? with
 | none => true
 | some x => (nextL ((code.length : Int) - 1) x.op x.c x.l).any (fun t => t == (code.length : Int))
set_option maxHeartbeats 2000000 in
set_option maxRecDepth 8000 in
theorem rflows_any (ps rs : Int) (ca : Option Addr) (cc : Nat) (code : List In) (w : World) (hC : CodeAt w ca code) (hll : ∀ x ∈ code, x.l.length ≤ 1000000000) :
  Calls Tryz.prog 32 #[.agg #[.int .i64 ps, .int .i64 rs, .slice ca code.length cc]] w fun e w' => e = .returned (.bool (flowsB code)) ∧ Below w.heap.size w w' := by
 have hA : Below w.heap.size w (w.alloc (.cells #[.int .i64 ps, .int .i64 rs, .slice ca code.length cc] 48)) := (Below.refl _ _).alloc (Nat.le_refl _) _
 rcases List.eq_nil_or_concat code with rfl | ⟨pre, x, he⟩
 ·go_enter Tryz.func32, Tryz.ntmps32
  go_wp2
  go_ret
  exact ⟨rfl, hA⟩
 rw [List.concat_eq_append] at he
 subst he
 have hx : (pre ++ [x])[pre.length]? = some x := by simp
 have hn : (pre ++ [x]).length = pre.length + 1 := by simp
 have CN := hid (fun k op a b c l la va lc vn vc W h1 h2 h3 h4 => rnext_any k op a b c l la va lc vn vc W h1 h2 h3 h4)
 have HU := hid (show flowsB (pre ++ [x]) = (nextL (pre.length : Int) x.op x.c x.l).any (fun t => t == ((pre.length + 1 : Nat) : Int)) by simp [flowsB])
 obtain ⟨hm, hC | ⟨b, o, rfl, hC⟩⟩ := hC
 ·simp at hC
 obtain ⟨la, lc, va, vc, h0, h1, h2, h3, h4, h5, h6, h7⟩ := (hC _ _ hx).below hA
 have hxl := hll x (by simp)
 rw [hn] at hm hA
 rw [hn] at h0 h1 h2 h3 h4 h5 h6 h7 ⊢
 obtain ⟨op, a, bb, c, l, lv⟩ := x
 dsimp only at h0 h1 h2 h3 h4 h5 h6 h7 HU hxl
 obtain ⟨i, hi⟩ : ∃ i, pre.length = i := ⟨_, rfl⟩
 rw [hi] at h0 h1 h2 h3 h4 h5 h6 h7 hm hA HU ⊢
 have m1 : IntKind.i64.wrap (((i + 1 : Nat) : Int) - 1) = (i : Int) := by rw [IntWalk.i64_in _ (by omega)]; omega
 have m2 : ((i : Int) + 1 == 0) = false := by simp; omega
 have HA := hid hA
 clear hA hC hll hx hn hi
 go_enter Tryz.func32, Tryz.ntmps32
 go_wp2_with (first
  | (go_at_call 86; refine (CN.out _ _ _ _ _ l _ _ _ _ _ _ h6 (by omega) (by omega) hxl).mono ?_; rintro e w1 ⟨r, rcap, rfl, hI, hb, -⟩; have HI := hid hI; have HB := hid (HA.out.trans (hb.mono HA.out.size)); clear hI hb h0 h1 h2 h3 h4 h5 h6 h7))
 obtain ⟨L, hL⟩ : ∃ L, nextL (i : Int) op c l = L := ⟨_, rfl⟩
 have hU := HU.out
 have hI := HI.out
 rw [hL] at hU hI
 rw [hL]
 have hm2 : (L.length : Int) ≤ 9223372036854775807 := by have := hI.1; unfold maxLen at this; omega
 have HU := hid hU
 have HI := hid hI
 clear hU hI hL CN
 go_loopw [5] (fun vi wr => ∃ k : Nat, vi = .int .i64 k ∧ k ≤ L.length ∧ (L.take k).any (fun t => t == ((i + 1 : Nat) : Int)) = false ∧ wr = w1) (fun vi _ => L.length - (intOf vi).toNat)
 case atStart => exact ⟨0, rfl, Nat.zero_le _, by simp, rfl⟩
 case round =>
  obtain ⟨k, rfl, hk, hall, rfl⟩ := hrel
  by_cases hlt : k < L.length
  ·obtain ⟨b2, o2, rfl, c0⟩ := ints_cell HI.out hlt
   obtain ⟨v, hv⟩ : ∃ v, L.getD k 0 = v := ⟨_, rfl⟩
   rw [hv] at c0
   have HL := hid hall
   have HV := hid hv
   clear hall hv
   cases hc : (v == (i : Int) + 1)
   ·go_wp2_with fail
    go_roundw
    case rel => exact ⟨k + 1, by go_num, hlt, by rw [List.take_succ_eq_append_getElem hlt, List.any_append, HL.out]; have := HV.out; simp [List.getD, hlt] at this; simp [this]; simpa using hc, by trivial⟩
    case measure => simp [intOf]; omega
   ·go_wp2_with fail
    go_ret
    exact ⟨ret_bool (by rw [HU.out]; symm; rw [List.any_eq_true]; refine ⟨L[k], List.getElem_mem hlt, ?_⟩; have := HV.out; simp [List.getD, hlt] at this; simp [this]; simpa using hc), HB.out⟩
  ·obtain rfl : k = L.length := by omega
   rw [List.take_length] at hall
   have HL := hid hall
   clear hall
   go_wp2_with fail
   go_ret
   exact ⟨ret_bool (by rw [HU.out, HL.out]), HB.out⟩
end Go.Proofs.YtokjkligechcoaaGreatDoor
