/- Walks of layer 16: where an instruction goes on, on both sides. -/
import Derived.Test.YtgbgahdeopedpaaCn
import Derived.Deep.AppendLies
namespace Go.Proofs.Ytgbgahdeopedpaa
open Go.RowKit
set_option linter.unusedVariables false
attribute [local go_sem] ext_mk size_mk toList_mk get_mk take_drop_len take_tail_len ByteArray.mk_append_mk List.append_toArray

def oddL (l : List Int) : List Int := (List.range (l.length / 2)).map fun j => l.getD (2 * j + 1) 0

theorem oddL_length (l : List Int) : (oddL l).length = l.length / 2 := by simp [oddL]

def nextL (k op c : Int) (l : List Int) : List Int :=
  if op == 11 || op == 12 || op == 13 then [] else if op == 9 then [c] else if op == 10 then c :: oddL l else if op == 8 && decide (0 ≤ c) then [k + 1, c] else [k + 1]
abbrev ints (l : List Int) : List Value := l.map (Value.int .i64)

theorem ints_own {W : World} {base g cap : Nat} {L : List Int} (h : W.ownsRow base 3 1 (.slice (some ⟨g, 0, none⟩) L.length cap) L.length (ints L)) : IntsAt .i64 W (some ⟨g, 0, none⟩) L := by
  have hc := fun j u hu => h.cells (g := g) rfl j u hu
  have hm : L.length ≤ maxLen := by
    rcases h.2 with ⟨q, _⟩ | ⟨_, _, _, q, _, _, q1, q2, _⟩
    · cases q
    · cases q; exact Nat.le_trans q1 q2
  refine ⟨hm, .inr ⟨g, 0, rfl, fun i hi => ?_⟩⟩
  have := hc i (.int .i64 (L.getD i 0)) (by simp [ints, List.getD, hi])
  rw [addr_plain] at this
  rwa [Nat.zero_add]

theorem ints_new1 {W : World} {H : Nat} {v : Int} {T : TypeId} (hH : H = W.heap.size) : IntsAt .i64 (W.alloc (.cells #[.int .i64 v] T)) (some ⟨H, 0, none⟩) [v] := by
  subst hH
  refine ⟨by unfold maxLen; simp, .inr ⟨_, 0, rfl, fun i hi => ?_⟩⟩
  obtain rfl : i = 0 := by simp at hi; omega
  rw [cell_of_row _ _ _ _ _ _ (heap_alloc_new W _)]; rfl

theorem ints_new2 {W : World} {H : Nat} {u v : Int} {T : TypeId} (hH : H = W.heap.size) : IntsAt .i64 (W.alloc (.cells #[.int .i64 u, .int .i64 v] T)) (some ⟨H, 0, none⟩) [u, v] := by
  subst hH
  refine ⟨by unfold maxLen; simp, .inr ⟨_, 0, rfl, fun i hi => ?_⟩⟩
  rw [cell_of_row _ _ _ _ _ _ (heap_alloc_new W _)]
  have hi : i < 2 := hi
  match i, hi with
  | 0, _ | 1, _ => rfl

theorem ints_nil (w : World) : IntsAt .i64 w none [] := ⟨by decide, .inl rfl⟩

/-- one number more behind a row of the call's own -/
theorem app_int {w : World} {ops : Array Oper} {rest : List Oper} {o : Oper} {a : Act} {Q : Exit → Act → World → Prop} {base n : Nat} {v : Value} {xs : List Value} {T : TypeId} (hown : w.ownsRow base 3 1 v n xs) (hgd : o.guard = none) (sl x : Operand)
    (ho : o.op = .call { callee := .builtin .append, args := #[sl, x], argTypes := #[56, 56] })
    (z : Int) (hs : a.eval sl = v) (H : Nat) (hH : w.heap.size = H) (hx : a.eval x = .slice (some ⟨H, 0, none⟩) 1 1) (hn : n ≤ 1000000000) (hbase : base ≤ w.heap.size)
    (h : ∀ g cap V, V.ownsRow base 3 1 (.slice (some ⟨g, 0, none⟩) (n + 1) cap) (n + 1) (xs ++ [.int .i64 z]) → Below base w V → wpList Try.prog ops Q rest (a.put o.dst (.slice (some ⟨g, 0, none⟩) (n + 1) cap)) V) :
    wpList Try.prog ops Q (o :: rest) a (w.alloc (.cells #[.int .i64 z] T)) := by
  obtain ⟨i0, hi, hz0, hz1, hz2⟩ := info_parts infoInt
  subst hH
  have hb0 : Below w.heap.size w (w.alloc (.cells #[.int .i64 z] T)) := (Below.refl _ _).alloc (Nat.le_refl _) _
  have hown1 := row_below hown hb0
  refine wpList_append_lies _ hgd sl x 56 ho base 3 i0 (.int .i64 0) 1 8 Try.underlying56 hi hz0 hz1 hz2 rfl (by decide) v n xs hs hown1 ⟨w.heap.size, 0, none⟩ 1 1 [.int .i64 z] hx rfl (World.news_of_block (heap_alloc_new _ _)) (by intro u hu; simp at hu; subst hu; rfl) (by decide) (by unfold maxLen; omega) (by omega) (Nat.le_trans hbase hb0.size) _ rfl ?_
  intro g cap V k1 k2 _ _
  exact h g cap V k1 ((hb0.mono hbase).trans ((Below.refl base _).grown k2 (Nat.le_trans hbase hb0.size) (fun j hj => (hown1.lt j hj).1)))

/-- a list of numbers is told -/
def NxR (w : World) (L : List Int) (e : Ending) (w' : World) : Prop := ∃ r cap, e = .returned (.slice r L.length cap) ∧ IntsAt .i64 w' r L ∧ Below w.heap.size w w' ∧ ∀ b o, r = some ⟨b, o, none⟩ → w.heap.size ≤ b

theorem NxR.mk {w : World} {L : List Int} {w' : World} {r : Option Addr} {n cap : Nat} (hn : n = L.length) (h1 : IntsAt .i64 w' r L) (h2 : Below w.heap.size w w') (h3 : ∀ b o, r = some ⟨b, o, none⟩ → w.heap.size ≤ b) : NxR w L (.returned (.slice r n cap)) w' := ⟨r, cap, by rw [hn], h1, h2, h3⟩

theorem nx_none {m : Nat} : ∀ b o, (none : Option Addr) = some ⟨b, o, none⟩ → m ≤ b := fun _ _ q => by cases q

theorem nx_some {m H : Nat} (h : m ≤ H) : ∀ b o, some (⟨H, 0, none⟩ : Addr) = some ⟨b, o, none⟩ → m ≤ b := fun _ _ q => by cases q; exact h

structure NxAt (w V : World) (c : Int) (l : List Int) (xo : Obj) (j : Nat) (v : Value) : Prop where
  x : KAt V w.heap.size xo
  o : V.ownsRow (w.heap.size + 1) 3 1 v (j + 1) (ints (c :: (oddL l).take j))
  b : Below w.heap.size w V

theorem nx_start {w W : World} {c : Int} {l : List Int} {xo : Obj} (hx : KAt W w.heap.size xo) (hz : W.heap.size = w.heap.size + 1) (hb : Below w.heap.size w W) :
    NxAt w (W.alloc (.cells #[.int .i64 c] 3)) c l xo 0 (.slice (some ⟨w.heap.size + 1, 0, none⟩) 1 1) := by
  have hbV : Below W.heap.size W (W.alloc (.cells #[.int .i64 c] 3)) := (Below.refl _ _).alloc (Nat.le_refl _) _
  have k := KAt.new W (.cells #[.int .i64 c] 3 (0, 0))
  rw [hz] at k
  exact ⟨hx.below hbV, ⟨by simp [ints], .inr ⟨_, 1, #[.int .i64 c], rfl, Nat.le_refl _, k.x, Nat.le_refl _, by unfold maxLen; omega, rfl, rfl⟩⟩, hb.trans (hbV.mono (by omega))⟩

theorem nx_next {w V V' : World} {c z : Int} {l : List Int} {xo : Obj} {j g cap : Nat} {v : Value} (h : NxAt w V c l xo j v) (ho : V'.ownsRow (w.heap.size + 1) 3 1 (.slice (some ⟨g, 0, none⟩) (j + 1 + 1) cap) (j + 1 + 1) (ints (c :: (oddL l).take j) ++ [.int .i64 z])) (hb : Below (w.heap.size + 1) V V') (hj : 2 * j + 1 < l.length) (hz : l.getD (2 * j + 1) 0 = z) :
    NxAt w V' c l xo (j + 1) (.slice (some ⟨g, 0, none⟩) (j + 1 + 1) cap) := by
  have hjo : j < (oddL l).length := by rw [oddL_length]; omega
  have e : ints (c :: (oddL l).take (j + 1)) = ints (c :: (oddL l).take j) ++ [.int .i64 z] := by
    rw [List.take_succ_eq_append_getElem hjo]
    simp [ints, oddL, ← hz]
  exact ⟨⟨by rw [hb.block _ (Nat.lt_succ_self _)]; exact h.x.x⟩, by rw [e]; exact ho, h.b.trans (hb.mono (Nat.le_succ _))⟩

set_option maxHeartbeats 4000000 in
set_option maxRecDepth 8000 in
theorem rnext_any (k op a b c : Int) (l : List Int) (la va : Option Addr) (lc vn vc : Nat) (w : World) (hl : IntsAt .i64 w la l) (hk0 : 0 ≤ k) (hk1 : k < 4611686018427387904) (hll : l.length ≤ 1000000000) :
    Calls Try.prog 77 #[.int .i64 k, .agg #[.int .i64 op, .int .i64 a, .int .i64 b, .int .i64 c, .slice la l.length lc, .slice va vn vc]] w fun e w' => NxR w (nextL k op c l) e w' := by
  have m1 : IntKind.i64.wrap (k + 1) = k + 1 := IntWalk.i64_in _ (by omega)
  have hA : ∀ o, Below w.heap.size w (w.alloc o) := fun o => (Below.refl _ _).alloc (Nat.le_refl _) _
  have hA2 : ∀ o1 o2, Below w.heap.size w ((w.alloc o1).alloc o2) := fun o1 o2 => (hA o1).alloc (by simp) _
  have HA := Lib.hid hA
  have HA2 := Lib.hid hA2
  clear hA hA2
  by_cases h11 : op = 11
  · subst h11
    go_enter Try.func77, Try.ntmps77
    go_wp2
    go_ret
    exact NxR.mk rfl (ints_nil _) (HA.out _) nx_none
  by_cases h12 : op = 12
  · subst h12
    go_enter Try.func77, Try.ntmps77
    go_wp2
    go_ret
    exact NxR.mk rfl (ints_nil _) (HA.out _) nx_none
  by_cases h13 : op = 13
  · subst h13
    go_enter Try.func77, Try.ntmps77
    go_wp2
    go_ret
    exact NxR.mk rfl (ints_nil _) (HA.out _) nx_none
  by_cases h9 : op = 9
  · subst h9
    go_enter Try.func77, Try.ntmps77
    go_wp2
    go_ret
    exact NxR.mk rfl (ints_new1 (by simp)) (HA2.out _ _) (nx_some (by simp))
  by_cases h8 : op = 8
  · subst h8
    by_cases hc : 0 ≤ c
    · have hc' : decide (0 ≤ c) = true := decide_eq_true hc
      have e : nextL k 8 c l = [k + 1, c] := by simp [nextL, hc]
      rw [e]
      go_enter Try.func77, Try.ntmps77
      go_wp2
      go_ret
      exact NxR.mk rfl (ints_new2 (by simp)) (HA2.out _ _) (nx_some (by simp))
    · have hc' : decide (0 ≤ c) = false := decide_eq_false hc
      have e : nextL k 8 c l = [k + 1] := by simp [nextL, hc]
      rw [e]
      go_enter Try.func77, Try.ntmps77
      go_wp2
      go_ret
      exact NxR.mk rfl (ints_new1 (by simp)) (HA2.out _ _) (nx_some (by simp))
  by_cases h10 : op = 10
  rotate_left
  · have q8 : (op == 8) = false := by simpa using h8
    have q9 : (op == 9) = false := by simpa using h9
    have q10 : (op == 10) = false := by simpa using h10
    have q11 : (op == 11) = false := by simpa using h11
    have q12 : (op == 12) = false := by simpa using h12
    have q13 : (op == 13) = false := by simpa using h13
    have e : nextL k op c l = [k + 1] := by simp [nextL, q8, q9, q10, q11, q12, q13]
    rw [e]
    clear h8 h9 h10 h11 h12 h13 e
    go_enter Try.func77, Try.ntmps77
    go_wp2
    go_ret
    exact NxR.mk rfl (ints_new1 (by simp)) (HA2.out _ _) (nx_some (by simp))
  subst h10
  obtain ⟨W, hW⟩ : ∃ W, w.alloc (.cells #[.int .i64 10, .int .i64 a, .int .i64 b, .int .i64 c, .slice la l.length lc, .slice va vn vc] 58) = W := ⟨_, rfl⟩
  have kx : KAt W w.heap.size (.cells #[.int .i64 10, .int .i64 a, .int .i64 b, .int .i64 c, .slice la l.length lc, .slice va vn vc] 58 (0, 0)) := by rw [← hW]; exact KAt.new _ _
  have zW : W.heap.size = w.heap.size + 1 := by rw [← hW]; simp
  have hbW : Below w.heap.size w W := by rw [← hW]; exact HA.out _
  have hbV : Below W.heap.size W (W.alloc (.cells #[.int .i64 c] 3)) := (Below.refl _ _).alloc (Nat.le_refl _) _
  have H0 := Lib.hid (nx_start (c := c) (l := l) kx zW hbW)
  have HI := Lib.hid hl
  have e : nextL k 10 c l = c :: oddL l := rfl
  rw [e]
  have x0 : W.cell? ⟨w.heap.size, 0, none⟩ = some (.int .i64 10) := by rw [cell_of_row _ _ _ _ _ _ kx.x]; rfl
  have x3 : W.cell? ⟨w.heap.size, 3, none⟩ = some (.int .i64 c) := by rw [cell_of_row _ _ _ _ _ _ kx.x]; rfl
  clear kx hbW hbV h8 h9 h11 h12 h13 e hl
  go_enter Try.func77, Try.ntmps77
  go_wp2_with fail
  go_loopw [5, 6] (fun v5 v6 wr => ∃ j : Nat, v6 = .int .i64 (2 * j + 1 : Nat) ∧ j ≤ l.length / 2 ∧ NxAt w wr c l (.cells #[.int .i64 10, .int .i64 a, .int .i64 b, .int .i64 c, .slice la l.length lc, .slice va vn vc] 58 (0, 0)) j v5) (fun _ v6 _ => l.length + 2 - (intOf v6).toNat)
  case atStart => exact ⟨0, rfl, Nat.zero_le _, H0.out⟩
  case round =>
    obtain ⟨j, rfl, hj, hN⟩ := hrel
    have x4 : wr.cell? ⟨w.heap.size, 4, none⟩ = some (.slice la l.length lc) := by rw [cell_of_row _ _ _ _ _ _ hN.x.x]; rfl
    obtain ⟨i, hi⟩ : ∃ i, 2 * j + 1 = i := ⟨_, rfl⟩
    rw [hi]
    have N := Lib.hid hN
    have HJ := Lib.hid hi
    by_cases hlt : i < l.length
    · obtain ⟨lb, lo, rfl, c0⟩ := ints_cell (HI.out.below hN.b) hlt
      obtain ⟨z, hz⟩ : ∃ z, l.getD i 0 = z := ⟨_, rfl⟩
      rw [hz] at c0
      have m2 : IntKind.i64.wrap ((i : Int) + 2) = (i : Int) + 2 := IntWalk.i64_in _ (by omega)
      have HZ := Lib.hid hz
      clear hz hi hN hW H0 x0 x3 zW
      go_wp2_with (first
        | (at_builtin; refine app_int N.out.o rfl _ _ rfl z rfl _ rfl rfl (by have := HJ.out; omega) (heap_lt N.out.x.x) ?_; intro g cap V ho hb; have HO := Lib.hid ho; have HBV := Lib.hid hb; clear ho hb))
      go_roundw
      case rel => exact ⟨j + 1, by (have := HJ.out); congr 1; omega, by have := HJ.out; omega, nx_next N.out HO.out HBV.out (by have := HJ.out; omega) (by rw [HJ.out]; exact HZ.out)⟩
      case measure => simp [intOf]; omega
    · obtain ⟨g, cap, rfl, hg1, hg2⟩ := hN.o.form (by omega)
      have hjl : j = l.length / 2 := by omega
      have ho := hN.o
      rw [List.take_of_length_le (by rw [oddL_length]; omega), hjl, show l.length / 2 + 1 = (c :: oddL l).length by simp [oddL_length]] at ho
      have HO := Lib.hid (ints_own ho)
      have HL := Lib.hid hjl
      clear hN hi ho hjl
      go_wp2_with fail
      go_ret
      exact NxR.mk (by rw [HL.out]; simp [oddL_length]) HO.out N.out.b (nx_some (Nat.le_of_succ_le hg1))
end Go.Proofs.Ytgbgahdeopedpaa
