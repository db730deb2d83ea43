/- Plain: sets of registers as numbers, and their words. -/
import Derived.Test.YtokjkligechcoaaGreatDoorCr
set_option linter.unusedVariables false
namespace Go.Proofs.YtokjkligechcoaaGreatDoor
open _root_.Go.Lib (hid)
open Go.RowKit
/-- the words of a set -/
def wordN (S j : Nat) : Nat := S / 2 ^ (64 * j) % 18446744073709551616
def wordsOf (n S : Nat) : List Int := (List.range n).map fun j => ((wordN S j : Nat) : Int)
theorem wordsOf_length (n S : Nat) : (wordsOf n S).length = n := by simp [wordsOf]
theorem wordsOf_get {n S j : Nat} (h : j < n) : (wordsOf n S).getD j 0 = ((wordN S j : Nat) : Int) := by simp [wordsOf, List.getD, h]
theorem wordN_lt (S j : Nat) : wordN S j < 18446744073709551616 := Nat.mod_lt _ (by decide)
theorem wordN_bit (S j b : Nat) (hb : b < 64) : (wordN S j).testBit b = S.testBit (64 * j + b) := by
 unfold wordN
 rw [show (18446744073709551616 : Nat) = 2 ^ 64 from rfl, Nat.testBit_mod_two_pow, Nat.testBit_div_two_pow]
 simp [hb, Nat.add_comm]
theorem word_bit (S i : Nat) : (wordN S (i / 64)).testBit (i % 64) = S.testBit i := by
 rw [wordN_bit _ _ _ (Nat.mod_lt _ (by decide))]; congr 1; omega
theorem wordN_ext {S T j : Nat} {x : Nat} (hx : x < 18446744073709551616) (h : ∀ b, b < 64 → x.testBit b = T.testBit (64 * j + b)) : x = wordN T j := by
 apply Nat.eq_of_testBit_eq
 intro b
 by_cases hb : b < 64
 ·rw [h b hb, wordN_bit _ _ _ hb]
 ·have h1 : ∀ y, y < 18446744073709551616 → y.testBit b = false := fun y hy => Nat.testBit_lt_two_pow (Nat.lt_of_lt_of_le hy (by rw [show (18446744073709551616 : Nat) = 2 ^ 64 from rfl]; exact Nat.pow_le_pow_right (by decide) (by omega)))
  rw [h1 _ hx, h1 _ (wordN_lt _ _)]
/-- the test of a bit, as the walk leaves it -/
theorem has_bit (S i : Nat) : (bits .and .u64 (((wordN S (i / 64) : Nat) : Int) / 2 ^ (i % 64)) 1 == 1) = S.testBit i := by
 rw [show ((wordN S (i / 64) : Nat) : Int) / 2 ^ (i % 64) = ((wordN S (i / 64) / 2 ^ (i % 64) : Nat) : Int) by push_cast; rfl]
 have := u64_and_nat (wordN S (i / 64) / 2 ^ (i % 64)) 1 (Nat.lt_of_le_of_lt (Nat.div_le_self _ _) (wordN_lt _ _)) (by decide)
 rw [show ((1 : Nat) : Int) = 1 from rfl] at this
 rw [this, ← word_bit S i, Nat.testBit_eq_decide_div_mod_eq, Nat.and_one_is_mod]
 rcases Nat.mod_two_eq_zero_or_one (wordN S (i / 64) / 2 ^ (i % 64)) with e | e <;> rw [e] <;> rfl
theorem wordN_or (S T j : Nat) : wordN (S ||| T) j = wordN S j ||| wordN T j := by
 symm
 refine wordN_ext (S := S) (Nat.or_lt_two_pow (n := 64) (wordN_lt S j) (wordN_lt T j)) (fun b hb => ?_)
 rw [Nat.testBit_or, Nat.testBit_or, wordN_bit _ _ _ hb, wordN_bit _ _ _ hb]
theorem wordN_pow (i j : Nat) : wordN (2 ^ i) j = if j = i / 64 then 2 ^ (i % 64) else 0 := by
 symm
 refine wordN_ext (S := 0) ?_ (fun b hb => ?_)
 ·split
  ·rw [show (18446744073709551616 : Nat) = 2 ^ 64 from rfl]; exact Nat.pow_lt_pow_right (by decide) (Nat.mod_lt _ (by decide))
  ·decide
 ·rw [Nat.testBit_two_pow]
  split
  ·rw [Nat.testBit_two_pow]; subst_vars; simp only [decide_eq_decide]; omega
  ·rw [Nat.zero_testBit]; symm; simp; omega
theorem words_put (n S i : Nat) (h : i / 64 < n) : (wordsOf n S).set (i / 64) ((wordN S (i / 64) ||| 2 ^ (i % 64) : Nat) : Int) = wordsOf n (S ||| 2 ^ i) := by
 apply List.ext_getElem
 ·simp [wordsOf]
 ·intro j h1 h2
  simp only [wordsOf, List.length_set, List.length_map, List.length_range] at h1
  rw [List.getElem_set]
  simp only [wordsOf, List.getElem_map, List.getElem_range, wordN_or, wordN_pow]
  split
  ·subst_vars; simp
  ·rw [if_neg (by omega)]; simp
/-- no bit is lost exactly when no word loses one -/
theorem and_same {n S T : Nat} (hS : S < 2 ^ (64 * n)) : (S &&& T = S) ↔ ∀ j, j < n → wordN S j &&& (18446744073709551615 - wordN T j) = 0 := by
 have e : ∀ j, wordN S j &&& (18446744073709551615 - wordN T j) = 0 ↔ ∀ b, b < 64 → S.testBit (64 * j + b) = true → T.testBit (64 * j + b) = true := by
  intro j
  have hb : ∀ b, (wordN S j &&& (18446744073709551615 - wordN T j)).testBit b = ((wordN S j).testBit b && (decide (b < 64) && !(wordN T j).testBit b)) := by
   intro b
   have : (18446744073709551615 - wordN T j) = 2 ^ 64 - (wordN T j + 1) := by omega
   rw [Nat.testBit_and, this, Nat.testBit_two_pow_sub_succ (wordN_lt T j)]
  constructor
  ·intro h b hb' hs
   have := hb b
   rw [h, Nat.zero_testBit, wordN_bit _ _ _ hb', wordN_bit _ _ _ hb', hs] at this
   simpa [hb'] using this.symm
  ·intro h
   apply Nat.eq_of_testBit_eq
   intro b
   rw [hb, Nat.zero_testBit]
   by_cases hb' : b < 64
   ·rw [wordN_bit _ _ _ hb', wordN_bit _ _ _ hb']
    have := h b hb'
    cases q : S.testBit (64 * j + b)
    ·rfl
    ·simp [this q]
   ·simp [hb']
 constructor
 ·intro h j hj
  rw [e]
  intro b hb hs
  rw [← h, Nat.testBit_and] at hs
  simp at hs
  exact hs.2
 ·intro h
  apply Nat.eq_of_testBit_eq
  intro i
  rw [Nat.testBit_and]
  by_cases hi : i < 64 * n
  ·have := (e (i / 64)).1 (h (i / 64) (by omega)) (i % 64) (by omega)
   rw [show 64 * (i / 64) + i % 64 = i by omega] at this
   cases q : S.testBit i
   ·rfl
   ·rw [this q]; rfl
  ·rw [Nat.testBit_lt_two_pow (Nat.lt_of_lt_of_le hS (Nat.pow_le_pow_right (by decide) (by omega)))]; rfl
theorem least_is {p : Nat → Prop} (h : ∃ n, p n) : ∃ m, p m ∧ ∀ k, p k → m ≤ k := by
 obtain ⟨n, hn⟩ := h
 induction n using Nat.strongRecOn with
 | _ n ih =>
  by_cases q : ∃ k, k < n ∧ p k
  ·obtain ⟨k, hk, hp⟩ := q
   exact ih k hk hp
  ·exact ⟨n, hn, fun k hk => Classical.byContradiction fun r => q ⟨k, by omega, hk⟩⟩
/-- the least number of which something is said -/
noncomputable def leastOf (p : Nat → Prop) : Nat := open Classical in if h : ∃ n, p n then (least_is h).choose else 0
theorem leastOf_spec {p : Nat → Prop} (h : ∃ n, p n) : p (leastOf p) := by
 unfold leastOf
 rw [dif_pos h]
 exact (least_is h).choose_spec.1
theorem leastOf_le {p : Nat → Prop} {n : Nat} (h : p n) : leastOf p ≤ n := by
 unfold leastOf
 rw [dif_pos ⟨n, h⟩]
 exact (least_is ⟨n, h⟩).choose_spec.2 n h
abbrev StS := List (Option Nat) × List Nat
def liveS (lv : List Int) (S : Nat) : Nat := lv.foldl (fun acc r => if S.testBit r.toNat then acc ||| 2 ^ r.toNat else acc) 0
/-- what is set behind an instruction -/
def behS (x : In) (S : Nat) : Nat :=
 if setsI x.op then (if keepsI x.op x.b then liveS x.lv S else S) ||| 2 ^ x.a.toNat else (if keepsI x.op x.b then liveS x.lv S else S)
def setOf (st : List (Option Nat)) (k : Nat) : Option Nat := st.getD k none
/-- an instruction is met with this set -/
def metS (out : Nat) (st : StS) (t : Nat) : StS := match setOf st.1 t with
 | none => (st.1.set t (some out), st.2 ++ [t])
 | some S => (st.1.set t (some (S &&& out)), if S &&& out = S then st.2 else st.2 ++ [t])
def toS (k : Nat) (x : In) : List Nat := (nextL (k : Int) x.op x.c x.l).map Int.toNat
/-- the last of the work list is taken -/
def stepS (code : List In) (st : StS) : StS := match st.2.getLast? with
 | none => st
 | some k => match code[k]? with
  | none => st
  | some x => (toS k x).foldl (metS (behS x ((setOf st.1 k).getD 0))) (st.1, st.2.dropLast)
def iterS (code : List In) : Nat → StS → StS
 | 0, st => st
 | n + 1, st => iterS code n (stepS code st)
def startS (n ps : Nat) : StS := ((List.replicate n none).set 0 (some (2 ^ ps - 1)), [0])
noncomputable def finS (code : List In) (ps : Nat) : StS := iterS code (leastOf fun n => (iterS code n (startS code.length ps)).2 = []) (startS code.length ps)
theorem stepS_nil {code : List In} {st : StS} (h : st.2 = []) : stepS code st = st := by unfold stepS; rw [h]; rfl
theorem iterS_nil {code : List In} {st : StS} (h : st.2 = []) : ∀ n, iterS code n st = st
 | 0 => rfl
 | n + 1 => by unfold iterS; rw [stepS_nil h]; exact iterS_nil h n
theorem iterS_add (code : List In) : ∀ n m st, iterS code (n + m) st = iterS code m (iterS code n st)
 | 0, m, st => by rw [Nat.zero_add]; rfl
 | n + 1, m, st => by rw [show n + 1 + m = (n + m) + 1 by omega]; exact iterS_add code n m _
theorem iterS_succ (code : List In) (n : Nat) (st : StS) : iterS code (n + 1) st = stepS code (iterS code n st) := by rw [iterS_add]; rfl
theorem finS_eq {code : List In} {ps n : Nat} (h : (iterS code n (startS code.length ps)).2 = []) : iterS code n (startS code.length ps) = finS code ps := by
 have h1 := leastOf_spec (p := fun n => (iterS code n (startS code.length ps)).2 = []) ⟨n, h⟩
 have h2 := leastOf_le (p := fun n => (iterS code n (startS code.length ps)).2 = []) h
 obtain ⟨d, hd⟩ := Nat.exists_eq_add_of_le h2
 rw [hd, iterS_add, iterS_nil h1]
 rfl
/-! ### The measure -/
def popc : Nat → Nat → Nat
 | 0, _ => 0
 | n + 1, S => popc n S + (if S.testBit n then 1 else 0)
theorem popc_le : ∀ n S, popc n S ≤ n
 | 0, _ => Nat.le_refl _
 | n + 1, S => by have := popc_le n S; unfold popc; split <;> omega
theorem popc_and_le : ∀ n S T, popc n (S &&& T) ≤ popc n S
 | 0, _, _ => Nat.le_refl _
 | n + 1, S, T => by
  have := popc_and_le n S T
  unfold popc
  rw [Nat.testBit_and]
  cases S.testBit n <;> cases T.testBit n <;> simp <;> omega
theorem popc_and_lt : ∀ n S T i, i < n → S.testBit i = true → T.testBit i = false → popc n (S &&& T) < popc n S
 | 0, _, _, i, h, _, _ => absurd h (Nat.not_lt_zero _)
 | n + 1, S, T, i, h, h1, h2 => by
  unfold popc
  rw [Nat.testBit_and]
  by_cases e : i = n
  ·subst e
   have := popc_and_le i S T
   simp [h1, h2]; omega
  ·have := popc_and_lt n S T i (by omega) h1 h2
   cases S.testBit n <;> cases T.testBit n <;> simp <;> omega
theorem and_less {n S T : Nat} (hS : S < 2 ^ n) (h : S &&& T ≠ S) : popc n (S &&& T) < popc n S := by
 obtain ⟨i, hi⟩ : ∃ i, ¬ (S.testBit i = true → T.testBit i = true) := by
  apply Classical.byContradiction
  intro q
  apply h
  apply Nat.eq_of_testBit_eq
  intro i
  rw [Nat.testBit_and]
  have := Classical.not_not.1 (fun r => q ⟨i, r⟩)
  cases e : S.testBit i
  ·rfl
  ·rw [this e]; rfl
 have h1 : S.testBit i = true := by
  cases e : S.testBit i
  ·exact absurd (fun q => by rw [e] at q; cases q) hi
  ·rfl
 have h2 : T.testBit i = false := by
  cases e : T.testBit i
  ·rfl
  ·exact absurd (fun _ => e) hi
 refine popc_and_lt n S T i ?_ h1 h2
 apply Classical.byContradiction
 intro q
 rw [Nat.testBit_lt_two_pow (Nat.lt_of_lt_of_le hS (Nat.pow_le_pow_right (by decide) (by omega)))] at h1
 cases h1
def wgt (rs : Nat) : Option Nat → Nat
 | none => rs + 1
 | some S => popc rs S
def sumW (rs : Nat) : List (Option Nat) → Nat
 | [] => 0
 | s :: l => wgt rs s + sumW rs l
theorem sumW_set (rs : Nat) (v : Option Nat) : ∀ (l : List (Option Nat)) (t : Nat), t < l.length → sumW rs (l.set t v) + wgt rs (l.getD t none) = sumW rs l + wgt rs v
 | [], t, h => absurd h (Nat.not_lt_zero _)
 | s :: l, 0, h => by simp [sumW]; omega
 | s :: l, t + 1, h => by
  have := sumW_set rs v l t (by simpa using h)
  simp [sumW] at this ⊢; omega
def meaS (rs : Nat) (st : StS) : Nat := 2 * sumW rs st.1 + st.2.length
/-- a state of the right size -/
structure OkS (n rs : Nat) (st : StS) : Prop where
 len : st.1.length = n
 set : ∀ k S, setOf st.1 k = some S → S < 2 ^ rs
 todo : ∀ k ∈ st.2, k < n ∧ (setOf st.1 k).isSome
theorem setOf_set {l : List (Option Nat)} {t k : Nat} {v : Option Nat} (h : t < l.length) : setOf (l.set t v) k = if k = t then v else setOf l k := by
 unfold setOf
 simp only [List.getD_eq_getElem?_getD, List.getElem?_set]
 split
 ·subst_vars; simp
 ·rw [if_neg (by omega)]
theorem met_ok {n rs out t : Nat} {st : StS} (h : OkS n rs st) (ht : t < n) (ho : out < 2 ^ rs) : OkS n rs (metS out st t) ∧ meaS rs (metS out st t) ≤ meaS rs st := by
 have hl : t < st.1.length := by rw [h.len]; exact ht
 unfold metS
 cases e : setOf st.1 t with
 | none =>
  have := sumW_set rs (some out) st.1 t hl
  rw [show st.1.getD t none = none from e] at this
  have hp := popc_le rs out
  refine ⟨⟨by simp [h.len], fun k S q => ?_, fun k q => ?_⟩, ?_⟩
  ·rw [setOf_set hl] at q
   split at q
   ·cases q; exact ho
   ·exact h.set k S q
  ·rw [setOf_set hl]
   rcases List.mem_append.1 q with q | q
   ·obtain ⟨q1, q2⟩ := h.todo k q
    exact ⟨q1, by split <;> simp_all⟩
   ·rw [List.mem_singleton] at q; subst q; exact ⟨ht, by simp⟩
  ·unfold meaS
   simp only [wgt] at this
   simp only [List.length_append, List.length_singleton]
   omega
 | some S =>
  have hS := h.set t S e
  have hS2 : S &&& out < 2 ^ rs := Nat.lt_of_le_of_lt Nat.and_le_left hS
  have := sumW_set rs (some (S &&& out)) st.1 t hl
  rw [show st.1.getD t none = some S from e] at this
  refine ⟨⟨by simp [h.len], fun k R q => ?_, fun k q => ?_⟩, ?_⟩
  ·rw [setOf_set hl] at q
   split at q
   ·cases q; exact hS2
   ·exact h.set k R q
  ·rw [setOf_set hl]
   have : k ∈ st.2 ∨ k = t := by
    dsimp only at q
    split at q
    ·exact .inl q
    ·rcases List.mem_append.1 q with q | q
     ·exact .inl q
     ·exact .inr (List.mem_singleton.1 q)
   rcases this with q | rfl
   ·obtain ⟨q1, q2⟩ := h.todo k q
    exact ⟨q1, by split <;> simp_all⟩
   ·exact ⟨ht, by simp⟩
  ·unfold meaS
   simp only [wgt] at this
   dsimp only
   split
   ·rename_i q; rw [q] at this ⊢; omega
   ·rename_i q
    have := and_less hS q
    simp only [List.length_append, List.length_singleton]
    omega
theorem mets_ok {n rs out : Nat} (ho : out < 2 ^ rs) : ∀ (l : List Nat) (st : StS), OkS n rs st → (∀ t ∈ l, t < n) → OkS n rs (l.foldl (metS out) st) ∧ meaS rs (l.foldl (metS out) st) ≤ meaS rs st
 | [], st, h, _ => ⟨h, Nat.le_refl _⟩
 | t :: l, st, h, hl => by
  obtain ⟨h1, h2⟩ := met_ok h (hl t (by simp)) ho
  obtain ⟨h3, h4⟩ := mets_ok ho l _ h1 (fun t q => hl t (by simp [q]))
  exact ⟨h3, Nat.le_trans h4 h2⟩
theorem drop_ok {n rs : Nat} {st : StS} (h : OkS n rs st) (hne : st.2 ≠ []) : OkS n rs (st.1, st.2.dropLast) ∧ meaS rs (st.1, st.2.dropLast) < meaS rs st := by
 refine ⟨⟨h.len, h.set, fun k q => h.todo k (List.dropLast_subset _ q)⟩, ?_⟩
 unfold meaS
 have : 0 < st.2.length := List.length_pos_iff.2 hne
 simp only [List.length_dropLast]
 omega
theorem or_bit_lt {n S r : Nat} (h : S < 2 ^ n) (hr : r < n) : S ||| 2 ^ r < 2 ^ n := Nat.or_lt_two_pow h (Nat.pow_lt_pow_right (by decide) hr)
theorem liveS_lt {rs S : Nat} {lv : List Int} (h : ∀ r ∈ lv, r.toNat < rs) : liveS lv S < 2 ^ rs := by
 unfold liveS
 have : ∀ (l : List Int) acc, acc < 2 ^ rs → (∀ r ∈ l, r.toNat < rs) → l.foldl (fun acc r => if S.testBit r.toNat then acc ||| 2 ^ r.toNat else acc) acc < 2 ^ rs := by
  intro l
  induction l with
  | nil => intro acc h _; exact h
  | cons r l ih =>
   intro acc h hl
   refine ih _ ?_ (fun r q => hl r (by simp [q]))
   dsimp only
   split
   ·exact or_bit_lt h (hl r (by simp))
   ·exact h
 exact this lv 0 (Nat.two_pow_pos _) h
theorem behS_lt {rs S : Nat} {x : In} (hS : S < 2 ^ rs) (hl : keepsI x.op x.b = true → ∀ r ∈ x.lv, r.toNat < rs) (ha : setsI x.op = true → x.a.toNat < rs) : behS x S < 2 ^ rs := by
 unfold behS
 have h : (if keepsI x.op x.b then liveS x.lv S else S) < 2 ^ rs := by
  split
  ·rename_i q; exact liveS_lt (hl q)
  ·exact hS
 split
 ·rename_i q; exact or_bit_lt h (ha q)
 ·exact h
/-- the registers that an instruction reads -/
def readsI (x : In) : List Int :=
 if x.op == 4 || x.op == 6 || x.op == 10 then [x.b] else if x.op == 7 then [x.a, x.b] else if x.op == 5 || x.op == 8 || x.op == 12 then x.l else if x.op == 11 then x.a :: x.l else if x.op == 13 then [x.a] else []
def badS (x : In) : Option Nat → Bool
 | none => false
 | some S => (readsI x ++ x.lv).any fun r => !S.testBit r.toNat
def badK (code : List In) (al : List (Option Nat)) (k : Nat) : Bool := match code[k]? with
 | none => false
 | some x => badS x (setOf al k)
/-- the lowest instruction that reads what is not set; -1: none -/
noncomputable def unsetS (code : List In) (ps : Nat) : Int :=
 if code = [] then -1 else match (List.range code.length).find? (badK code (finS code ps).1) with
 | none => -1
 | some k => (k : Int)
section
/-- box g is a row of these cells, which may be written, with room for cap -/
structure OwnAt (w : World) (g cap : Nat) (e : TypeId) (xs : List Value) : Prop where
 ex : ∃ cur, w.heap[g]? = some (.cells cur e (0, 0)) ∧ cur.size = cap ∧ cur.toList.take xs.length = xs
 le : xs.length ≤ cap
 mx : cap ≤ maxLen
section
variable {w w' : World} {g cap : Nat} {e : TypeId} {xs : List Value}
theorem OwnAt.lt (h : OwnAt w g cap e xs) : g < w.heap.size := by obtain ⟨cur, h1, _⟩ := h.ex; exact (Array.getElem?_eq_some_iff.1 h1).1
theorem OwnAt.heap (h : OwnAt w g cap e xs) (q : w'.heap[g]? = w.heap[g]?) : OwnAt w' g cap e xs := by
 obtain ⟨cur, h1, h2, h3⟩ := h.ex
 exact ⟨⟨cur, q.trans h1, h2, h3⟩, h.le, h.mx⟩
theorem OwnAt.below (h : OwnAt w g cap e xs) {B : Nat} (hb : Below B w w') (hg : g < B) : OwnAt w' g cap e xs := h.heap (hb.block _ hg)
theorem OwnAt.drew (h : OwnAt w g cap e xs) : OwnAt w.drew g cap e xs := h.heap rfl
theorem OwnAt.drewN (h : OwnAt w g cap e xs) (n : Nat) : OwnAt (w.drewN n) g cap e xs := h.below (below_drewN (Below.refl w.heap.size w) n) h.lt
theorem OwnAt.alloc (h : OwnAt w g cap e xs) (o : Obj) : OwnAt (w.alloc o) g cap e xs := h.below ((Below.refl w.heap.size w).alloc (Nat.le_refl _) o) h.lt
theorem OwnAt.other (h : OwnAt w g cap e xs) (p : Addr) (hk : g ≠ p.block) (v : Value) : OwnAt (w.setCell p v) g cap e xs := h.heap (Below.heap_setCell _ _ _ _ hk)
theorem OwnAt.set (h : OwnAt w g cap e xs) (j : Nat) (v : Value) : OwnAt (w.setCell ⟨g, j, none⟩ v) g cap e (xs.set j v) := by
 obtain ⟨cur, h1, h2, h3⟩ := h.ex
 refine ⟨⟨_, heap_setCell_same w g j cur e v h1, by simpa using h2, ?_⟩, by simpa using h.le, h.mx⟩
 rw [Array.toList_setIfInBounds, List.length_set, List.take_set, h3]
theorem OwnAt.cell (h : OwnAt w g cap e xs) {j : Nat} {v : Value} (hj : xs[j]? = some v) : w.cell? ⟨g, j, none⟩ = some v := by
 obtain ⟨cur, h1, h2, h3⟩ := h.ex
 rw [cell_of_row _ _ _ _ _ _ h1]
 rw [← h3, List.getElem?_take] at hj
 split at hj
 ·simpa using hj
 ·cases hj
theorem OwnAt.frozen (h : OwnAt w g cap e xs) (j : Nat) : w.frozen? ⟨g, j, none⟩ = false := by
 obtain ⟨cur, h1, h2, h3⟩ := h.ex
 exact frozen_of_row _ _ _ _ _ h1
theorem OwnAt.row (h : OwnAt w g cap e xs) {base n : Nat} (hb : base ≤ g) (hn : n = xs.length) : w.ownsRow base e 1 (.slice (some ⟨g, 0, none⟩) n cap) n xs := by
 subst hn
 obtain ⟨cur, h1, h2, h3⟩ := h.ex
 exact ⟨by simp, .inr ⟨g, cap, cur, rfl, hb, h1, h.le, h.mx, by simpa using h2, by simpa using h3⟩⟩
theorem OwnAt.of {base n : Nat} (h : w.ownsRow base e 1 (.slice (some ⟨g, 0, none⟩) n cap) n xs) : OwnAt w g cap e xs ∧ n = xs.length ∧ base ≤ g := by
 have hl : xs.length = n := by simpa using h.1
 subst hl
 rcases h.2 with ⟨q, _⟩ | ⟨g2, cap2, cur, q, q1, q2, q3, q4, q5, q6⟩
 ·cases q
 ·cases q
  exact ⟨⟨⟨cur, q2, by simpa using q5, by simpa using q6⟩, q3, q4⟩, rfl, q1⟩
theorem OwnAt.take (h : OwnAt w g cap e xs) (n : Nat) : OwnAt w g cap e (xs.take n) := by
 obtain ⟨cur, h1, h2, h3⟩ := h.ex
 refine ⟨⟨cur, h1, h2, ?_⟩, Nat.le_trans (by simp; omega) h.le, h.mx⟩
 have : (xs.take n).length = min n xs.length := by simp
 rw [this, ← List.take_take, h3]
theorem OwnAt.new (w : World) (cs : Array Value) (e : TypeId) (hm : cs.size ≤ maxLen) : OwnAt (w.alloc (.cells cs e)) w.heap.size cs.size e cs.toList :=
 ⟨⟨cs, heap_alloc_new w _, rfl, List.take_length⟩, by simp, hm⟩
end
/-- a row of words -/
abbrev u64s (l : List Int) : List Value := l.map (Value.int .u64)
theorem own_ints {w : World} {g cap : Nat} {k : IntKind} {e : TypeId} {l : List Int} (h : OwnAt w g cap e (l.map (Value.int k))) : IntsAt k w (some ⟨g, 0, none⟩) l := by
 have h1 := h.le
 have h2 := h.mx
 simp only [List.length_map] at h1
 refine ⟨Nat.le_trans h1 h2, .inr ⟨g, 0, rfl, fun i hi => ?_⟩⟩
 rw [Nat.zero_add]
 exact h.cell (by simp [List.getD, hi])
end
attribute [local go_sem] ext_mk size_mk toList_mk get_mk take_drop_len take_tail_len ByteArray.mk_append_mk List.append_toArray
theorem run_append_none_of {P : Program} {w : World} (base : Nat) (t ty e : TypeId) (i : TypeInfo) (size : Nat) (ht : P.underlying t = some (.slice e)) (hi : P.info? e = some i)
  (v : Value) (n : Nat) (xs : List Value) (hown : w.ownsRow base e size v n xs) (ra : Option Addr) (rc : Nat) :
  (Builtin.append_ #[t, t] ty #[v, .slice ra 0 rc]).run P w = .ok v w := by
 rcases hown.2 with ⟨rfl, rfl⟩ | ⟨g, cap, cur, rfl, _, _, hnc, _⟩
 ·cases ra <;> simp [Builtin.append_, run_underlying ht, sizeOf, typeInfo, hi, Builtin.lenOf, Builtin.firstCells, loadCells, loadCellsFrom]
 ·cases ra <;> simp [Builtin.append_, run_underlying ht, sizeOf, typeInfo, hi, Builtin.lenOf, Builtin.firstCells, hnc, loadCells, loadCellsFrom, storeCells]
/-- numbers that lie anywhere, appended to a row of the call's own -/
theorem wp_app_list {w : World} {o : Oper} {a : Act} {K : Act → World → Prop} {Q : Exit → Act → World → Prop} {base n : Nat} {v : Value} {xs : List Value} (hown : w.ownsRow base 3 1 v n xs) (sl x : Operand)
  (ho : o.op = .call { callee := .builtin .append, args := #[sl, x], argTypes := #[56, 56] })
  (src : List Int) (ra : Option Addr) (rc : Nat) (hs : a.eval sl = v) (hx : a.eval x = .slice ra src.length rc) (hI : IntsAt .i64 w ra src) (hn : n + src.length ≤ 4000000000) (hbase : base ≤ w.heap.size)
  (h : ∀ v' V, V.ownsRow base 3 1 v' (n + src.length) (xs ++ src.map (Value.int .i64)) → Below base w V → (n + src.length = 0 → v' = v) → (∀ g c, v = .slice (some ⟨g, 0, none⟩) n c → v' ≠ .slice none 0 0) → K (a.put o.dst v') V) : Oper.wp Tryz.prog o a w K Q := by
 obtain ⟨i0, hi, hz0, hz1, hz2⟩ := info_parts infoInt
 by_cases he : src = []
 ·subst he
  have hrun := run_append_none_of (P := Tryz.prog) (w := w) base 56 o.type 3 i0 1 Tryz.underlying56 hi v n xs hown ra rc
  unfold Oper.wp
  simp only [List.length_nil] at hx
  simp [execOp, ho, resolve, invoke, builtin, hs, hx, hrun, Result.andThen]
  refine h v w (by simpa using hown) (Below.refl _ _) (fun _ => rfl) ?_
  rintro g c rfl q
  cases q
 ·obtain ⟨hm, hI⟩ := hI
  rcases hI with hI | ⟨b, off, rfl, hc⟩
  ·exact absurd hI he
  have hl : 0 < src.length := List.length_pos_iff.2 he
  refine wp_append_lies _ sl x 56 ho base 3 i0 (.int .i64 0) 1 8 Tryz.underlying56 hi hz0 hz1 hz2 rfl (by decide) v n xs hs hown ⟨b, off, none⟩ src.length rc (src.map (Value.int .i64)) hx (by simp) ?_ ?_ hl (by unfold maxLen; omega) (by omega) hbase _ rfl ?_
  ·intro j u hj
   rw [show (⟨b, off, none⟩ : Addr).add j = ⟨b, off + j, none⟩ from by (unfold Addr.add; by_cases h0 : j = 0 <;> simp [h0])]
   have hj2 : j < src.length := by
    rcases Nat.lt_or_ge j src.length with q | q
    ·exact q
    ·rw [List.getElem?_eq_none (by simpa using q)] at hj; cases hj
   rw [hc j hj2]
   rw [List.getElem?_map, List.getElem?_eq_getElem hj2] at hj
   simp only [Option.map_some, Option.some.injEq] at hj
   rw [← hj]
   simp [List.getD, hj2]
  ·intro u hu
   obtain ⟨z, _, rfl⟩ := List.mem_map.1 hu
   rfl
  ·intro g cap V k1 k2 _ _
   exact h _ V k1 ((Below.refl base w).grown k2 hbase (fun j hj => (hown.lt j hj).1)) (by omega) (fun _ _ _ q => by cases q)
theorem app_list {w : World} {ops : Array Oper} {rest : List Oper} {o : Oper} {a : Act} {Q : Exit → Act → World → Prop} {base n : Nat} {v : Value} {xs : List Value} (hown : w.ownsRow base 3 1 v n xs) (hgd : o.guard = none) (sl x : Operand)
  (ho : o.op = .call { callee := .builtin .append, args := #[sl, x], argTypes := #[56, 56] })
  (src : List Int) (ra : Option Addr) (rc : Nat) (hs : a.eval sl = v) (hx : a.eval x = .slice ra src.length rc) (hI : IntsAt .i64 w ra src) (hn : n + src.length ≤ 4000000000) (hbase : base ≤ w.heap.size)
  (h : ∀ v' V, V.ownsRow base 3 1 v' (n + src.length) (xs ++ src.map (Value.int .i64)) → Below base w V → (n + src.length = 0 → v' = v) → (∀ g c, v = .slice (some ⟨g, 0, none⟩) n c → v' ≠ .slice none 0 0) → wpList Tryz.prog ops Q rest (a.put o.dst v') V) : wpList Tryz.prog ops Q (o :: rest) a w :=
 wpList_plain hgd fun K hK => wp_app_list hown sl x ho src ra rc hs hx hI hn hbase fun v' V h1 h2 h3 h4 => hK _ _ (h v' V h1 h2 h3 h4)
theorem step_app_list {w : World} {ops : Array Oper} {o : Oper} {a : Act} {K : Act → World → Prop} {Q : Exit → Act → World → Prop} {E : Prop} {base n : Nat} {v : Value} {xs : List Value} (hown : w.ownsRow base 3 1 v n xs) (hgd : o.guard = none) (sl x : Operand)
  (ho : o.op = .call { callee := .builtin .append, args := #[sl, x], argTypes := #[56, 56] })
  (src : List Int) (ra : Option Addr) (rc : Nat) (hs : a.eval sl = v) (hx : a.eval x = .slice ra src.length rc) (hI : IntsAt .i64 w ra src) (hn : n + src.length ≤ 4000000000) (hbase : base ≤ w.heap.size)
  (h : ∀ v' V, V.ownsRow base 3 1 v' (n + src.length) (xs ++ src.map (Value.int .i64)) → Below base w V → (n + src.length = 0 → v' = v) → (∀ g c, v = .slice (some ⟨g, 0, none⟩) n c → v' ≠ .slice none 0 0) → K (a.put o.dst v') V) : if Region.wanted o (yielded ops a.tmps) = true then Oper.wp Tryz.prog o a w K Q else E := by
 have hw : Region.wanted o (yielded ops a.tmps) = true := by simp [Region.wanted, hgd]
 rw [if_pos hw]
 exact wp_app_list hown sl x ho src ra rc hs hx hI hn hbase h
/-- numbers that lie anywhere, appended to a row of the call's own -/
theorem wp_app_row64 {w : World} {o : Oper} {a : Act} {K : Act → World → Prop} {Q : Exit → Act → World → Prop} {base n : Nat} {v : Value} {xs : List Value} (hown : w.ownsRow base 45 1 v n xs) (sl x : Operand)
  (ho : o.op = .call { callee := .builtin .append, args := #[sl, x], argTypes := #[140, 140] })
  (src : List Int) (ra : Option Addr) (rc : Nat) (hs : a.eval sl = v) (hx : a.eval x = .slice ra src.length rc) (hI : IntsAt .u64 w ra src) (hn : n + src.length ≤ 4000000000) (hbase : base ≤ w.heap.size)
  (h : ∀ v' V, V.ownsRow base 45 1 v' (n + src.length) (xs ++ src.map (Value.int .u64)) → Below base w V → (n + src.length = 0 → v' = v) → (∀ g c, v = .slice (some ⟨g, 0, none⟩) n c → v' ≠ .slice none 0 0) → K (a.put o.dst v') V) : Oper.wp Tryz.prog o a w K Q := by
 obtain ⟨i0, hi, hz0, hz1, hz2⟩ := info_parts infoU64
 by_cases he : src = []
 ·subst he
  have hrun := run_append_none_of (P := Tryz.prog) (w := w) base 140 o.type 45 i0 1 Tryz.underlying140 hi v n xs hown ra rc
  unfold Oper.wp
  simp only [List.length_nil] at hx
  simp [execOp, ho, resolve, invoke, builtin, hs, hx, hrun, Result.andThen]
  refine h v w (by simpa using hown) (Below.refl _ _) (fun _ => rfl) ?_
  rintro g c rfl q
  cases q
 ·obtain ⟨hm, hI⟩ := hI
  rcases hI with hI | ⟨b, off, rfl, hc⟩
  ·exact absurd hI he
  have hl : 0 < src.length := List.length_pos_iff.2 he
  refine wp_append_lies _ sl x 140 ho base 45 i0 (.int .u64 0) 1 8 Tryz.underlying140 hi hz0 hz1 hz2 rfl (by decide) v n xs hs hown ⟨b, off, none⟩ src.length rc (src.map (Value.int .u64)) hx (by simp) ?_ ?_ hl (by unfold maxLen; omega) (by omega) hbase _ rfl ?_
  ·intro j u hj
   rw [show (⟨b, off, none⟩ : Addr).add j = ⟨b, off + j, none⟩ from by (unfold Addr.add; by_cases h0 : j = 0 <;> simp [h0])]
   have hj2 : j < src.length := by
    rcases Nat.lt_or_ge j src.length with q | q
    ·exact q
    ·rw [List.getElem?_eq_none (by simpa using q)] at hj; cases hj
   rw [hc j hj2]
   rw [List.getElem?_map, List.getElem?_eq_getElem hj2] at hj
   simp only [Option.map_some, Option.some.injEq] at hj
   rw [← hj]
   simp [List.getD, hj2]
  ·intro u hu
   obtain ⟨z, _, rfl⟩ := List.mem_map.1 hu
   rfl
  ·intro g cap V k1 k2 _ _
   exact h _ V k1 ((Below.refl base w).grown k2 hbase (fun j hj => (hown.lt j hj).1)) (by omega) (fun _ _ _ q => by cases q)
theorem app_row64 {w : World} {ops : Array Oper} {rest : List Oper} {o : Oper} {a : Act} {Q : Exit → Act → World → Prop} {base n : Nat} {v : Value} {xs : List Value} (hown : w.ownsRow base 45 1 v n xs) (hgd : o.guard = none) (sl x : Operand)
  (ho : o.op = .call { callee := .builtin .append, args := #[sl, x], argTypes := #[140, 140] })
  (src : List Int) (ra : Option Addr) (rc : Nat) (hs : a.eval sl = v) (hx : a.eval x = .slice ra src.length rc) (hI : IntsAt .u64 w ra src) (hn : n + src.length ≤ 4000000000) (hbase : base ≤ w.heap.size)
  (h : ∀ v' V, V.ownsRow base 45 1 v' (n + src.length) (xs ++ src.map (Value.int .u64)) → Below base w V → (n + src.length = 0 → v' = v) → (∀ g c, v = .slice (some ⟨g, 0, none⟩) n c → v' ≠ .slice none 0 0) → wpList Tryz.prog ops Q rest (a.put o.dst v') V) : wpList Tryz.prog ops Q (o :: rest) a w :=
 wpList_plain hgd fun K hK => wp_app_row64 hown sl x ho src ra rc hs hx hI hn hbase fun v' V h1 h2 h3 h4 => hK _ _ (h v' V h1 h2 h3 h4)
theorem step_app_row64 {w : World} {ops : Array Oper} {o : Oper} {a : Act} {K : Act → World → Prop} {Q : Exit → Act → World → Prop} {E : Prop} {base n : Nat} {v : Value} {xs : List Value} (hown : w.ownsRow base 45 1 v n xs) (hgd : o.guard = none) (sl x : Operand)
  (ho : o.op = .call { callee := .builtin .append, args := #[sl, x], argTypes := #[140, 140] })
  (src : List Int) (ra : Option Addr) (rc : Nat) (hs : a.eval sl = v) (hx : a.eval x = .slice ra src.length rc) (hI : IntsAt .u64 w ra src) (hn : n + src.length ≤ 4000000000) (hbase : base ≤ w.heap.size)
  (h : ∀ v' V, V.ownsRow base 45 1 v' (n + src.length) (xs ++ src.map (Value.int .u64)) → Below base w V → (n + src.length = 0 → v' = v) → (∀ g c, v = .slice (some ⟨g, 0, none⟩) n c → v' ≠ .slice none 0 0) → K (a.put o.dst v') V) : if Region.wanted o (yielded ops a.tmps) = true then Oper.wp Tryz.prog o a w K Q else E := by
 have hw : Region.wanted o (yielded ops a.tmps) = true := by simp [Region.wanted, hgd]
 rw [if_pos hw]
 exact wp_app_row64 hown sl x ho src ra rc hs hx hI hn hbase h
set_option maxRecDepth 8000 in
theorem clone_ints_any (a : Addr) (l : List Int) (cap : Nat) (w : World) (hl : l.length ≤ 2000000000) (hI : IntsAt .i64 w (some a) l) : Calls Tryz.prog 81 #[.slice (some a) l.length cap] w fun x w' => ∃ k c, x = .returned (.slice (some ⟨k, 0, none⟩) l.length c) ∧ w.heap.size ≤ k ∧ OwnAt w' k c 3 (l.map (Value.int .i64)) ∧ Below w.heap.size w w' := by
 have HI := hid hI
 have HL := hid hl
 clear hI hl
 have hq := fun W => eqn_some 56 _ Tryz.underlying56 a l.length cap W
 have hb0 : ∀ T, Below w.heap.size w (w.alloc (.cells #[] T)) := fun T => (Below.refl _ _).alloc (Nat.le_refl _) _
 have HO := hid (show (w.alloc (.cells #[] 3)).ownsRow w.heap.size 3 1 (.slice (some ⟨w.heap.size, 0, none⟩) 0 0) 0 [] from ⟨rfl, .inr ⟨w.heap.size, 0, #[], rfl, Nat.le_refl _, heap_alloc_new _ _, Nat.le_refl _, by unfold maxLen; omega, rfl, rfl⟩⟩)
 have HB := hid (hb0 3)
 clear hb0
 go_enter Tryz.func81, Tryz.ntmps81
 go_wp2_with (at_builtin; refine app_list HO.out rfl _ _ rfl l _ _ rfl rfl (HI.out.below HB.out) (by have := HL.out; omega) HB.out.size ?_; intro v' V k1 k2 k3 k4; have K1 := hid k1; have K2 := hid k2; have K4 := hid k4; clear k1 k2 k3 k4)
 go_ret
 have K := K1.out
 rw [Nat.zero_add, List.nil_append] at K
 rcases K.2 with ⟨q, _⟩ | ⟨g, c, cur, q, _⟩
 ·exact absurd q (K4.out _ _ rfl)
 ·subst q
  obtain ⟨o1, o2, o3⟩ := OwnAt.of K
  exact ⟨g, c, rfl, o3, o1, HB.out.trans K2.out⟩
set_option maxRecDepth 8000 in
theorem clone_row_any (a : Addr) (l : List Int) (cap : Nat) (w : World) (hl : l.length ≤ 2000000000) (hI : IntsAt .u64 w (some a) l) : Calls Tryz.prog 76 #[.slice (some a) l.length cap] w fun x w' => ∃ k c, x = .returned (.slice (some ⟨k, 0, none⟩) l.length c) ∧ w.heap.size ≤ k ∧ OwnAt w' k c 45 (l.map (Value.int .u64)) ∧ Below w.heap.size w w' := by
 have HI := hid hI
 have HL := hid hl
 clear hI hl
 have hq := fun W => eqn_some 140 _ Tryz.underlying140 a l.length cap W
 have hb0 : ∀ T, Below w.heap.size w (w.alloc (.cells #[] T)) := fun T => (Below.refl _ _).alloc (Nat.le_refl _) _
 have HO := hid (show (w.alloc (.cells #[] 45)).ownsRow w.heap.size 45 1 (.slice (some ⟨w.heap.size, 0, none⟩) 0 0) 0 [] from ⟨rfl, .inr ⟨w.heap.size, 0, #[], rfl, Nat.le_refl _, heap_alloc_new _ _, Nat.le_refl _, by unfold maxLen; omega, rfl, rfl⟩⟩)
 have HB := hid (hb0 45)
 clear hb0
 go_enter Tryz.func76, Tryz.ntmps76
 go_wp2_with (at_builtin; refine app_row64 HO.out rfl _ _ rfl l _ _ rfl rfl (HI.out.below HB.out) (by have := HL.out; omega) HB.out.size ?_; intro v' V k1 k2 k3 k4; have K1 := hid k1; have K2 := hid k2; have K4 := hid k4; clear k1 k2 k3 k4)
 go_ret
 have K := K1.out
 rw [Nat.zero_add, List.nil_append] at K
 rcases K.2 with ⟨q, _⟩ | ⟨g, c, cur, q, _⟩
 ·exact absurd q (K4.out _ _ rfl)
 ·subst q
  obtain ⟨o1, o2, o3⟩ := OwnAt.of K
  exact ⟨g, c, rfl, o3, o1, HB.out.trans K2.out⟩
theorem made_toList (v : Value) (n : Nat) : (madeCells #[v] n).toList = List.replicate n v := by
 apply List.ext_getElem
 ·simp [madeCells]
 ·intro i h1 h2
  simp [madeCells, Nat.mod_one]
theorem words_zero (n : Nat) : u64s (wordsOf n 0) = List.replicate n (.int .u64 0) := by
 apply List.ext_getElem
 ·simp [wordsOf]
 ·intro i h1 h2
  simp [wordsOf, wordN]
def wn (rs : Nat) : Nat := (rs + 63) / 64
theorem newRow_any (rs : Nat) (hrs : rs ≤ 1000000000) (w : World) : Calls Tryz.prog 74 #[.int .i64 (rs : Int)] w fun e w' => ∃ g, e = .returned (.slice (some ⟨g, 0, none⟩) (wn rs) (wn rs)) ∧ w.heap.size ≤ g ∧ OwnAt w' g (wn rs) 45 (u64s (wordsOf (wn rs) 0)) ∧ Below w.heap.size w w' := by
 obtain ⟨m, hm⟩ : ∃ m, wn rs = m := ⟨_, rfl⟩
 have hm2 : m ≤ 1000000000 := by rw [← hm]; unfold wn; omega
 have m1 : IntKind.i64.wrap ((rs : Int) + 63) = (rs : Int) + 63 := IntWalk.i64_in _ (by omega)
 have m2 : ((rs : Int) + 63) / 64 = (m : Int) := by rw [← hm]; unfold wn; omega
 have hmk : ∀ W, (Instr.makeSlice 140 (.int .i64 (m : Int)) (.int .i64 (m : Int))).run Tryz.prog W = .ok (.slice (some ⟨W.heap.size, 0, none⟩) m m) (W.alloc (.cells (madeCells #[.int .u64 0] m) 45)) := fun W => run_make_row' (P := Tryz.prog) 140 45 (.int .u64 0) 8 Tryz.underlying140 infoU64 rfl .i64 .i64 m (by omega) (by omega) W
 rw [hm]
 clear hm
 go_enter Tryz.func74, Tryz.ntmps74
 go_wp2_with fail
 go_ret
 refine ⟨_, rfl, Nat.le_refl _, ?_, (Below.refl _ _).alloc (Nat.le_refl _) _⟩
 have := OwnAt.new w (madeCells #[.int .u64 0] m) 45 (by rw [size_madeCells]; unfold maxLen; omega)
 rwa [size_madeCells, made_toList, ← words_zero] at this
theorem has_any (a : Option Addr) (n S cap i : Nat) (w : World) (h : IntsAt .u64 w a (wordsOf n S)) (hi : i / 64 < n) (hi2 : i < 1000000000) :
  Calls Tryz.prog 78 #[.slice a n cap, .int .i64 (i : Int)] w fun e w' => e = .returned (.bool (S.testBit i)) ∧ w' = w := by
 obtain ⟨b, o, rfl, hc⟩ := ints_cell h (i := i / 64) (by rw [wordsOf_length]; exact hi)
 rw [wordsOf_get hi] at hc
 have HB := hid (has_bit S i)
 obtain ⟨v, hv⟩ : ∃ v : Int, ((wordN S (i / 64) : Nat) : Int) = v := ⟨_, rfl⟩
 rw [hv] at hc HB
 have m1 : ((i : Int) / 64).toNat = i / 64 := by omega
 have m2 : (i : Int) / 64 < (n : Int) := by omega
 clear h hv
 go_enter Tryz.func78, Tryz.ntmps78
 go_wp2_with fail
 go_ret
 exact ⟨ret_bool HB.out, rfl⟩
theorem put_bit (S i : Nat) : bits .or .u64 ((wordN S (i / 64) : Nat) : Int) (IntKind.u64.wrap (2 ^ (i % 64))) = ((wordN S (i / 64) ||| 2 ^ (i % 64) : Nat) : Int) := by
 have h : (2 : Nat) ^ (i % 64) < 18446744073709551616 := by rw [show (18446744073709551616 : Nat) = 2 ^ 64 from rfl]; exact Nat.pow_lt_pow_right (by decide) (Nat.mod_lt _ (by decide))
 have e : IntKind.u64.wrap (2 ^ (i % 64)) = ((2 ^ (i % 64) : Nat) : Int) := by
  rw [show ((2 : Int) ^ (i % 64)) = ((2 ^ (i % 64) : Nat) : Int) by push_cast; rfl]
  obtain ⟨y, hy⟩ : ∃ y : Nat, 2 ^ (i % 64) = y := ⟨_, rfl⟩
  rw [hy] at h ⊢
  exact IntWalk.u64_in _ (by omega)
 rw [e]
 exact u64_or_nat _ _ (wordN_lt _ _) h
theorem put_any (g n S cap i : Nat) (w : World) (h : OwnAt w g cap 45 (u64s (wordsOf n S))) (hi : i / 64 < n) (hi2 : i < 1000000000) :
  Calls Tryz.prog 75 #[.slice (some ⟨g, 0, none⟩) n cap, .int .i64 (i : Int)] w fun e w' => (∃ v, e = .returned v) ∧ w' = (w.setCell ⟨g, i / 64, none⟩ (.int .u64 ((wordN S (i / 64) ||| 2 ^ (i % 64) : Nat) : Int))).drew := by
 have hc : w.cell? ⟨g, i / 64, none⟩ = some (.int .u64 ((wordN S (i / 64) : Nat) : Int)) := h.cell (by simp [wordsOf, hi])
 have hf := h.frozen (i / 64)
 obtain ⟨v, hv⟩ : ∃ v : Int, ((wordN S (i / 64) : Nat) : Int) = v := ⟨_, rfl⟩
 have HB := hid (put_bit S i)
 rw [hv] at hc HB
 have m1 : ((i : Int) / 64).toNat = i / 64 := by omega
 have m2 : (i : Int) / 64 < (n : Int) := by omega
 clear h
 go_enter Tryz.func75, Tryz.ntmps75
 go_wp2
 go_region
 go_wp2
 go_end0
 exact ⟨⟨_, rfl⟩, by rw [← HB.out]⟩
theorem put_own {g n S cap i : Nat} {w : World} (h : OwnAt w g cap 45 (u64s (wordsOf n S))) (hi : i / 64 < n) :
  OwnAt (w.setCell ⟨g, i / 64, none⟩ (.int .u64 ((wordN S (i / 64) ||| 2 ^ (i % 64) : Nat) : Int))).drew g cap 45 (u64s (wordsOf n (S ||| 2 ^ i))) := by
 have := (h.set (i / 64) (.int .u64 ((wordN S (i / 64) ||| 2 ^ (i % 64) : Nat) : Int))).drew
 rw [← words_put n S i hi]
 unfold u64s at this ⊢
 rwa [List.map_set]
/-- a set as a row of truth values -/
def setB (rs S : Nat) : List Value := (List.range rs).map fun i => Value.bool (S.testBit i)
theorem setB_get {rs S i : Nat} (h : i < rs) : (setB rs S)[i]? = some (.bool (S.testBit i)) := by simp [setB, h]
theorem setB_zero (rs : Nat) : setB rs 0 = List.replicate rs (.bool false) := by
 apply List.ext_getElem
 ·simp [setB]
 ·intro i h1 h2; simp [setB]
/-- a copy of a set -/
theorem app_copyb {w : World} {ops : Array Oper} {rest : List Oper} {o : Oper} {a : Act} {Q : Exit → Act → World → Prop} {g c1 rs S : Nat} (hgd : o.guard = none) (sl x : Operand)
  (ho : o.op = .call { callee := .builtin .append, args := #[sl, x], argTypes := #[133, 133] })
  (H : Nat) (hH : w.heap.size = H) (hs : a.eval sl = .slice (some ⟨H, 0, none⟩) 0 0) (hx : a.eval x = .slice (some ⟨g, 0, none⟩) rs c1) (hg : OwnAt w g c1 4 (setB rs S)) (hrs : rs ≤ 4000000000)
  (h : ∀ k c V, w.heap.size ≤ k → OwnAt V k c 4 (setB rs S) → Below w.heap.size w V → wpList Tryz.prog ops Q rest (a.put o.dst (.slice (some ⟨k, 0, none⟩) rs c)) V) : wpList Tryz.prog ops Q (o :: rest) a (w.alloc (.cells #[] 4)) := by
 obtain ⟨i0, hi, hz0, hz1, hz2⟩ := info_parts infoBool
 subst hH
 have hb0 : Below w.heap.size w (w.alloc (.cells #[] 4)) := (Below.refl _ _).alloc (Nat.le_refl _) _
 have hown : (w.alloc (.cells #[] 4)).ownsRow w.heap.size 4 1 (.slice (some ⟨w.heap.size, 0, none⟩) 0 0) 0 [] := ⟨rfl, .inr ⟨w.heap.size, 0, #[], rfl, Nat.le_refl _, heap_alloc_new _ _, Nat.le_refl _, by unfold maxLen; omega, rfl, rfl⟩⟩
 have hg2 := hg.alloc (.cells #[] 4)
 refine wpList_plain hgd fun K hK => ?_
 by_cases he : rs = 0
 ·subst he
  have hrun := run_append_none_of (P := Tryz.prog) (w := w.alloc (.cells #[] 4)) w.heap.size 133 o.type 4 i0 1 Tryz.underlying133 hi _ 0 [] hown (some ⟨g, 0, none⟩) c1
  unfold Oper.wp
  simp [execOp, ho, resolve, invoke, builtin, hs, hx, hrun, Result.andThen]
  exact hK _ _ (h _ _ _ (Nat.le_refl _) (OwnAt.of hown).1 hb0)
 ·refine wp_append_lies _ sl x 133 ho w.heap.size 4 i0 (.bool false) 1 1 Tryz.underlying133 hi hz0 hz1 hz2 rfl (by decide) _ 0 [] hs hown ⟨g, 0, none⟩ rs c1 (setB rs S) hx (by simp [setB]) ?_ ?_ (by omega) (by unfold maxLen; omega) (by omega) hb0.size _ rfl ?_
  ·intro j u hj
   rw [addr_plain]
   exact hg2.cell hj
  ·intro u hu
   obtain ⟨z, _, rfl⟩ := List.mem_map.1 hu
   rfl
  ·intro k cap V k1 k2 _ _
   rw [Nat.zero_add, List.nil_append] at k1
   obtain ⟨o1, o2, o3⟩ := OwnAt.of k1
   have := h k cap V o3 o1 (hb0.trans ((Below.refl w.heap.size _).grown k2 hb0.size (fun j hj => (hown.lt j hj).1)))
   rw [Nat.zero_add]
   exact hK _ _ this
/-- in the midst of it -/
def mixB (rs i S T : Nat) : List Value := (List.range rs).map fun j => Value.bool (S.testBit j && (decide (i ≤ j) || T.testBit j))
def lessB (i S T : Nat) : Bool := (List.range i).any fun j => S.testBit j && !T.testBit j
theorem lessB_next (i S T : Nat) : lessB (i + 1) S T = (lessB i S T || (S.testBit i && !T.testBit i)) := by simp [lessB, List.range_succ]
theorem mixB_start (rs S T : Nat) : mixB rs 0 S T = setB rs S := by simp [mixB, setB]
theorem mixB_end (rs S T : Nat) : mixB rs rs S T = setB rs (S &&& T) := by
 apply List.ext_getElem
 ·simp [mixB, setB]
 ·intro j h1 h2
  simp only [mixB, List.length_map, List.length_range] at h1
  simp only [mixB, setB, List.getElem_map, List.getElem_range, Nat.testBit_and]
  rw [show decide (rs ≤ j) = false from decide_eq_false (by omega), Bool.false_or]
theorem mixB_same {rs i S T : Nat} (h : (S.testBit i && !T.testBit i) = false) : mixB rs (i + 1) S T = mixB rs i S T := by
 apply List.ext_getElem
 ·simp [mixB]
 ·intro j h1 h2
  simp only [mixB, List.getElem_map, List.getElem_range]
  by_cases e : i = j
  ·subst e
   cases hs : S.testBit i <;> cases ht : T.testBit i <;> simp [hs, ht] at h ⊢
  ·rw [show decide (i + 1 ≤ j) = decide (i ≤ j) by rw [decide_eq_decide]; omega]
theorem mixB_less {rs i S T : Nat} (h : T.testBit i = false) : mixB rs (i + 1) S T = (mixB rs i S T).set i (.bool false) := by
 apply List.ext_getElem
 ·simp [mixB]
 ·intro j h1 h2
  rw [List.getElem_set]
  simp only [mixB, List.getElem_map, List.getElem_range]
  by_cases e : i = j
  ·subst e
   simp [h]
  ·rw [if_neg e, show decide (i + 1 ≤ j) = decide (i ≤ j) by rw [decide_eq_decide]; omega]
theorem lessB_end {rs S T : Nat} (hS : S < 2 ^ rs) : lessB rs S T = decide (S &&& T ≠ S) := by
 rw [Bool.eq_iff_iff, decide_eq_true_iff]
 unfold lessB
 rw [List.any_eq_true]
 constructor
 ·rintro ⟨i, hi, h⟩ q
  have : (S &&& T).testBit i = S.testBit i := by rw [q]
  rw [Nat.testBit_and] at this
  cases hs : S.testBit i <;> cases ht : T.testBit i <;> simp [hs, ht] at h this
 ·intro h
  apply Classical.byContradiction
  intro q
  apply h
  apply Nat.eq_of_testBit_eq
  intro i
  rw [Nat.testBit_and]
  by_cases hi : i < rs
  ·cases hs : S.testBit i
   ·rfl
   ·cases ht : T.testBit i
    ·exact absurd ⟨i, by simpa using hi, by simp [hs, ht]⟩ q
    ·rfl
  ·rw [Nat.testBit_lt_two_pow (Nat.lt_of_lt_of_le hS (Nat.pow_le_pow_right (by decide) (by omega)))]; rfl
set_option maxRecDepth 8000 in
theorem rboth_any (g1 g2 c1 c2 rs S T : Nat) (w : World) (h1 : OwnAt w g1 c1 4 (setB rs S)) (h2 : OwnAt w g2 c2 4 (setB rs T)) (hS : S < 2 ^ rs) (hrs : rs ≤ 1000000000) :
  Calls Tryz.prog 88 #[.slice (some ⟨g1, 0, none⟩) rs c1, .slice (some ⟨g2, 0, none⟩) rs c2] w fun e w' => ∃ k c, e = .returned (.tuple #[.slice (some ⟨k, 0, none⟩) rs c, .bool (decide (S &&& T ≠ S))]) ∧ w.heap.size ≤ k ∧ OwnAt w' k c 4 (setB rs (S &&& T)) ∧ Below w.heap.size w w' := by
 have HE := hid (lessB_end (T := T) hS)
 have HM := hid (mixB_end rs S T)
 have H1 := hid h1
 have H2 := hid h2
 clear h1 h2 hS
 go_enter Tryz.func88, Tryz.ntmps88
 go_wp2_with (at_builtin; refine app_copyb rfl _ _ rfl _ rfl rfl rfl H1.out (by omega) ?_; intro k c V k1 k2 k3; have K1 := hid k1; have K2 := hid k2; have K3 := hid k3; clear k1 k2 k3)
 go_loopw [7, 8] (fun v7 v8 wr => ∃ i : Nat, v8 = .int .i64 i ∧ i ≤ rs ∧ v7 = .bool (lessB i S T) ∧ OwnAt wr k c 4 (mixB rs i S T) ∧ Below w.heap.size w wr) (fun _ v8 _ => rs - (intOf v8).toNat)
 case atStart => exact ⟨0, rfl, Nat.zero_le _, rfl, by rw [mixB_start]; exact K2.out, K3.out⟩
 case round =>
  obtain ⟨i, rfl, hi, rfl, hO, hB⟩ := hrel
  obtain ⟨L, hL⟩ : ∃ L, lessB i S T = L := ⟨_, rfl⟩
  rw [hL]
  have O := hid hO
  have B := hid hB
  by_cases hlt : i < rs
  ·have x1 : wr.cell? ⟨g1, i, none⟩ = some (.bool (S.testBit i)) := (H1.out.below hB H1.out.lt).cell (setB_get hlt)
   have x2 : wr.cell? ⟨g2, i, none⟩ = some (.bool (T.testBit i)) := (H2.out.below hB H2.out.lt).cell (setB_get hlt)
   have x3 : (wr.cell? ⟨k, i, none⟩).isSome = true := by rw [hO.cell (j := i) (v := (mixB rs i S T)[i]'(by simp [mixB, hlt])) (by simp [mixB, hlt])]; rfl
   obtain ⟨v3, x3⟩ := Option.isSome_iff_exists.1 x3
   have f3 := hO.frozen i
   have HL := hid hL
   clear hO hB hL
   cases hs : S.testBit i
   ·rw [hs] at x1
    have HN := hid (show (S.testBit i && !T.testBit i) = false by rw [hs]; rfl)
    clear hs
    go_wp2_with fail
    go_roundw
    case rel => exact ⟨i + 1, by go_num, hlt, by rw [lessB_next, HL.out, HN.out, Bool.or_false], by rw [mixB_same HN.out]; exact O.out, B.out⟩
    case measure => simp [intOf]; omega
   ·cases ht : T.testBit i
    ·rw [hs] at x1
     rw [ht] at x2
     have HS := hid hs
     have HT := hid ht
     clear hs ht
     go_wp2_with fail
     go_roundw
     case rel => exact ⟨i + 1, by go_num, hlt, by rw [lessB_next, HL.out, HS.out, HT.out]; simp, by rw [mixB_less HT.out]; exact O.out.set i _, B.out.setCell (p := ⟨k, i, none⟩) K1.out _⟩
     case measure => simp [intOf]; omega
    ·rw [hs] at x1
     rw [ht] at x2
     have HN := hid (show (S.testBit i && !T.testBit i) = false by rw [hs, ht]; rfl)
     clear hs ht
     go_wp2_with fail
     go_roundw
     case rel => exact ⟨i + 1, by go_num, hlt, by rw [lessB_next, HL.out, HN.out, Bool.or_false], by rw [mixB_same HN.out]; exact O.out, B.out⟩
     case measure => simp [intOf]; omega
  ·obtain rfl : i = rs := by omega
   have HL := hid (hL.symm.trans HE.out)
   clear hL hO hB
   go_wp2_with fail
   go_ret2
   exact ⟨k, c, by rw [HL.out]; rfl, K1.out, by rw [← HM.out]; exact O.out, B.out⟩
section
theorem setB_put {rs S r : Nat} (h : r < rs) : (setB rs S).set r (.bool true) = setB rs (S ||| 2 ^ r) := by
 apply List.ext_getElem
 ·simp [setB]
 ·intro j h1 h2
  rw [List.getElem_set]
  simp only [setB, List.getElem_map, List.getElem_range, Nat.testBit_or, Nat.testBit_two_pow]
  split
  ·subst_vars; simp
  ·rename_i q; simp [q]
theorem setB_keep {rs S r : Nat} (h : S.testBit r = false) : (setB rs S).set r (.bool false) = setB rs S := by
 apply List.ext_getElem
 ·simp [setB]
 ·intro j h1 h2
  rw [List.getElem_set]
  simp only [setB, List.getElem_map, List.getElem_range]
  split
  ·subst_vars; simp [h]
  ·rfl
theorem liveS_next {lv : List Int} {S i : Nat} (h : i < lv.length) : liveS (lv.take (i + 1)) S = if S.testBit (lv.getD i 0).toNat then liveS (lv.take i) S ||| 2 ^ (lv.getD i 0).toNat else liveS (lv.take i) S := by
 unfold liveS
 rw [List.take_succ_eq_append_getElem h, List.foldl_append]
 simp [List.getD, h]
theorem liveS_sub (lv : List Int) (S r : Nat) (h : S.testBit r = false) : (liveS lv S).testBit r = false := by
 unfold liveS
 have : ∀ (l : List Int) (acc : Nat), acc.testBit r = false → (l.foldl (fun (acc : Nat) (r : Int) => if S.testBit r.toNat then acc ||| 2 ^ r.toNat else acc) acc).testBit r = false := by
  intro l
  induction l with
  | nil => intro acc h; exact h
  | cons x l ih =>
   intro acc ha
   refine ih _ ?_
   dsimp only
   split
   ·rename_i q
    rw [Nat.testBit_or, ha, Nat.testBit_two_pow, Bool.false_or, decide_eq_false_iff_not]
    intro e
    rw [e, h] at q
    cases q
   ·exact ha
 exact this lv 0 (by simp)
/-- the instruction's box -/
structure BhAt (w V : World) (x : In) (la va : Option Addr) (lc vc : Nat) : Prop where
 x : KAt V w.heap.size (.cells #[.int .i64 x.op, .int .i64 x.a, .int .i64 x.b, .int .i64 x.c, .slice la x.l.length lc, .slice va x.lv.length vc] 58 (0, 0))
 b : Below w.heap.size w V
section
variable {w V V' : World} {x : In} {la va : Option Addr} {lc vc : Nat}
theorem bh_start (w : World) (x : In) (la va : Option Addr) (lc vc : Nat) : BhAt w (w.alloc (.cells #[.int .i64 x.op, .int .i64 x.a, .int .i64 x.b, .int .i64 x.c, .slice la x.l.length lc, .slice va x.lv.length vc] 58)) x la va lc vc :=
 ⟨KAt.new w _, (Below.refl _ _).alloc (Nat.le_refl _) _⟩
theorem BhAt.below (h : BhAt w V x la va lc vc) (hb : Below V.heap.size V V') : BhAt w V' x la va lc vc := ⟨h.x.below hb, h.b.trans (hb.mono h.b.size)⟩
theorem BhAt.put (h : BhAt w V x la va lc vc) {k j : Nat} (hk : w.heap.size < k) (u : Value) : BhAt w (V.setCell ⟨k, j, none⟩ u) x la va lc vc := ⟨h.x.put _ (Nat.ne_of_lt hk) _, h.b.setCell (p := ⟨k, j, none⟩) (Nat.le_of_lt hk) _⟩
theorem BhAt.drew (h : BhAt w V x la va lc vc) : BhAt w V.drew x la va lc vc := h.below (Below.refl _ _).drew
theorem BhAt.cells (h : BhAt w V x la va lc vc) : V.cell? ⟨w.heap.size, 0, none⟩ = some (.int .i64 x.op) ∧ V.cell? ⟨w.heap.size, 1, none⟩ = some (.int .i64 x.a) ∧ V.cell? ⟨w.heap.size, 2, none⟩ = some (.int .i64 x.b) ∧ V.cell? ⟨w.heap.size, 3, none⟩ = some (.int .i64 x.c) ∧
  V.cell? ⟨w.heap.size, 4, none⟩ = some (.slice la x.l.length lc) ∧ V.cell? ⟨w.heap.size, 5, none⟩ = some (.slice va x.lv.length vc) := by
 refine ⟨?_, ?_, ?_, ?_, ?_, ?_⟩
 all_goals (rw [cell_of_row _ _ _ _ _ _ h.x.x]; rfl)
theorem BhAt.lt (h : BhAt w V x la va lc vc) : w.heap.size < V.heap.size := heap_lt h.x.x
end
theorem rsets_eq (op a b c : Int) (v : Bool) (hv : setsI op = v) (la ra : Option Addr) (ln lc rn rc : Nat) (w : World) : Calls Tryz.prog 100 #[.agg #[.int .i64 op, .int .i64 a, .int .i64 b, .int .i64 c, .slice la ln lc, .slice ra rn rc]] w fun x w' => x = .returned (.bool v) ∧ Below w.heap.size w w' := by
 have := rsets_any op a b c la ra ln lc rn rc w
 rwa [hv] at this
theorem rkeeps_eq (op a b c : Int) (v : Bool) (hv : keepsI op b = v) (la ra : Option Addr) (ln lc rn rc : Nat) (w : World) : Calls Tryz.prog 101 #[.agg #[.int .i64 op, .int .i64 a, .int .i64 b, .int .i64 c, .slice la ln lc, .slice ra rn rc]] w fun x w' => x = .returned (.bool v) ∧ Below w.heap.size w w' := by
 have := rkeeps_any op a b c la ra ln lc rn rc w
 rwa [hv] at this
theorem behS_no {op a b c : Int} {l lv : List Int} {S T : Nat} (hs : setsI op = false) (hk : (if keepsI op b then liveS lv S else S) = T) : behS ⟨op, a, b, c, l, lv⟩ S = T := by
 unfold behS
 dsimp only
 rw [hs, hk]; rfl
theorem behS_yes {op b c : Int} {r : Nat} {l lv : List Int} {S T : Nat} (hs : setsI op = true) (hk : (if keepsI op b then liveS lv S else S) = T) : behS ⟨op, (r : Nat), b, c, l, lv⟩ S = T ||| 2 ^ r := by
 unfold behS
 dsimp only
 rw [hs, hk]; rfl
set_option maxHeartbeats 1000000 in
set_option maxRecDepth 8000 in
theorem rbehind_any (op a b c : Int) (l lv : List Int) (la va : Option Addr) (lc vc g c1 rs S : Nat) (w : World) (h1 : OwnAt w g c1 4 (setB rs S)) (hv : IntsAt .i64 w va lv) (hrs : rs ≤ 1000000000) (hvl : lv.length ≤ 1000000000) (hlv : keepsI op b = true → ∀ r ∈ lv, 0 ≤ r ∧ r < (rs : Int)) (ha : setsI op = true → 0 ≤ a ∧ a < (rs : Int)) :
  Calls Tryz.prog 87 #[.agg #[.int .i64 op, .int .i64 a, .int .i64 b, .int .i64 c, .slice la l.length lc, .slice va lv.length vc], .slice (some ⟨g, 0, none⟩) rs c1] w fun e w' => ∃ k cap, e = .returned (.slice (some ⟨k, 0, none⟩) rs cap) ∧ w.heap.size < k ∧ OwnAt w' k cap 4 (setB rs (behS ⟨op, a, b, c, l, lv⟩ S)) ∧ Below w.heap.size w w' := by
 have H1 := hid h1
 have HV := hid hv
 have N0 := hid (bh_start w ⟨op, a, b, c, l, lv⟩ la va lc vc)
 have hA := hid ha
 have hL := hid hlv
 have hmk : ∀ W, (Instr.makeSlice 133 (.int .i64 (rs : Int)) (.int .i64 (rs : Int))).run Tryz.prog W = .ok (.slice (some ⟨W.heap.size, 0, none⟩) rs rs) (W.alloc (.cells (madeCells #[.bool false] rs) 4)) := fun W => run_make_row' (P := Tryz.prog) 133 4 (.bool false) 1 Tryz.underlying133 infoBool rfl .i64 .i64 rs (by omega) (by omega) W
 have hW : ∀ W : World, OwnAt (W.alloc (.cells (madeCells #[.bool false] rs) 4)) W.heap.size rs 4 (setB rs 0) := fun W => by
  have := OwnAt.new W (madeCells #[.bool false] rs) 4 (by rw [size_madeCells]; unfold maxLen; omega)
  rwa [size_madeCells, made_toList, ← setB_zero] at this
 have HW := hid hW
 clear h1 hv ha hlv hW
 cases hk : keepsI op b
 ·have CK := hid (fun W => rkeeps_eq op a b c false hk la va l.length lc lv.length vc W)
  have HK := hid (show (if keepsI op b then liveS lv S else S) = S by rw [hk]; rfl)
  clear hk
  cases hs : setsI op
  ·have CS := hid (fun W => rsets_eq op a b c false hs la va l.length lc lv.length vc W)
   have HS := hid hs
   clear hs
   go_enter Tryz.func87, Tryz.ntmps87
   go_wp2_with
     (first
      | (at_builtin; refine app_copyb rfl _ _ rfl _ (by simp) rfl rfl (H1.out.below N0.out.b H1.out.lt) (by omega) ?_; intro k cap V k1 k2 k3; have K := hid (Nat.lt_of_lt_of_le N0.out.lt k1); have N := hid (N0.out.below k3); have O := hid k2; clear k1 k2 k3; obtain ⟨x0, x1, x2, x3, x4, x5⟩ := N.out.cells; dsimp only at x0 x1 x2 x3 x4 x5)
      | (go_at_call 101; refine (CK.out _).mono ?_; rintro e w1 ⟨rfl, hb⟩; have N := hid (N.out.below hb); have O := hid (O.out.below hb O.out.lt); clear hb x0 x1 x2 x3 x4 x5; obtain ⟨x0, x1, x2, x3, x4, x5⟩ := N.out.cells; dsimp only at x0 x1 x2 x3 x4 x5)
      | (go_at_call 100; refine (CS.out _).mono ?_; rintro e w2 ⟨rfl, hb⟩; have N := hid (N.out.below hb); have O := hid (O.out.below hb O.out.lt); clear hb x0 x1 x2 x3 x4 x5; obtain ⟨x0, x1, x2, x3, x4, x5⟩ := N.out.cells; dsimp only at x0 x1 x2 x3 x4 x5))
   go_ret
   exact ⟨k, cap, rfl, K.out, by rw [behS_no HS.out HK.out]; exact O.out, N.out.b⟩
  ·obtain ⟨r, hr⟩ := Int.eq_ofNat_of_zero_le (hA.out hs).1
   have hr2 : r < rs := by have := (hA.out hs).2; omega
   have CS := hid (fun W => rsets_eq op a b c true hs la va l.length lc lv.length vc W)
   have HS := hid hs
   clear hs
   subst hr
   go_enter Tryz.func87, Tryz.ntmps87
   go_wp2_with
     (first
      | (at_builtin; refine app_copyb rfl _ _ rfl _ (by simp) rfl rfl (H1.out.below N0.out.b H1.out.lt) (by omega) ?_; intro k cap V k1 k2 k3; have K := hid (Nat.lt_of_lt_of_le N0.out.lt k1); have N := hid (N0.out.below k3); have O := hid k2; clear k1 k2 k3; obtain ⟨x0, x1, x2, x3, x4, x5⟩ := N.out.cells; dsimp only at x0 x1 x2 x3 x4 x5)
      | (go_at_call 101; refine (CK.out _).mono ?_; rintro e w1 ⟨rfl, hb⟩; have N := hid (N.out.below hb); have O := hid (O.out.below hb O.out.lt); clear hb x0 x1 x2 x3 x4 x5; obtain ⟨x0, x1, x2, x3, x4, x5⟩ := N.out.cells; dsimp only at x0 x1 x2 x3 x4 x5)
      | (go_at_call 100; refine (CS.out _).mono ?_; rintro e w2 ⟨rfl, hb⟩; have N := hid (N.out.below hb); have O := hid (O.out.below hb O.out.lt); clear hb x0 x1 x2 x3 x4 x5; obtain ⟨x0, x1, x2, x3, x4, x5⟩ := N.out.cells; dsimp only at x0 x1 x2 x3 x4 x5; have y0 := O.out.cell (setB_get hr2); have f0 := O.out.frozen r))
   go_ret
   exact ⟨k, cap, rfl, K.out, by rw [behS_yes HS.out HK.out, ← setB_put hr2]; exact O.out.set r _, (N.out.put K.out _).b⟩
 ·have CK := hid (fun W => rkeeps_eq op a b c true hk la va l.length lc lv.length vc W)
  have HK := hid (show (if keepsI op b then liveS lv S else S) = liveS lv S by rw [hk]; rfl)
  have HL := hid (hL.out hk)
  clear hk
  go_enter Tryz.func87, Tryz.ntmps87
  go_wp2_with
    (first
     | (at_builtin; refine app_copyb rfl _ _ rfl _ (by simp) rfl rfl (H1.out.below N0.out.b H1.out.lt) (by omega) ?_; intro k cap V k1 k2 k3; have K := hid (Nat.lt_of_lt_of_le N0.out.lt k1); have N := hid (N0.out.below k3); have O := hid k2; clear k1 k2 k3; obtain ⟨x0, x1, x2, x3, x4, x5⟩ := N.out.cells; dsimp only at x0 x1 x2 x3 x4 x5)
     | (go_at_call 101; refine (CK.out _).mono ?_; rintro e w1 ⟨rfl, hb⟩; have N := hid (N.out.below hb); have O := hid (O.out.below hb O.out.lt); clear hb x0 x1 x2 x3 x4 x5; obtain ⟨x0, x1, x2, x3, x4, x5⟩ := N.out.cells; dsimp only at x0 x1 x2 x3 x4 x5)
     | (go_at_call 100; refine (CS.out _).mono ?_; rintro e w2 ⟨rfl, hb⟩; have N := hid (N.out.below hb); have O := hid (O.out.below hb O.out.lt); clear hb x0 x1 x2 x3 x4 x5; obtain ⟨x0, x1, x2, x3, x4, x5⟩ := N.out.cells; dsimp only at x0 x1 x2 x3 x4 x5))
  obtain ⟨M, hM⟩ : ∃ M, w1.heap.size = M := ⟨_, rfl⟩
  have K := hid (show w.heap.size < w1.heap.size from N.out.lt)
  have O := hid (HW.out w1)
  have N1 := hid (N.out.below ((Below.refl _ _).alloc (Nat.le_refl _) (.cells (madeCells #[.bool false] rs) 4)))
  rw [hM] at K O ⊢
  clear x0 x1 x2 x3 x4 x5
  go_loopw [6] (fun v6 wr => ∃ i : Nat, v6 = .int .i64 i ∧ i ≤ lv.length ∧ BhAt w wr ⟨op, a, b, c, l, lv⟩ la va lc vc ∧ OwnAt wr M rs 4 (setB rs (liveS (lv.take i) S))) (fun v6 _ => lv.length - (intOf v6).toNat)
  case atStart => exact ⟨0, rfl, Nat.zero_le _, N1.out, O.out⟩
  case round =>
   clear N
   obtain ⟨i, rfl, hi, hN, hO⟩ := hrel
   obtain ⟨x0, x1, x2, x3, x4, x5⟩ := hN.cells
   dsimp only at x0 x1 x2 x3 x4 x5
   have N := hid hN
   have O := hid hO
   by_cases hlt : i < lv.length
   ·obtain ⟨vb, vo, rfl, c0⟩ := ints_cell (HV.out.below hN.b) hlt
    have hmem : lv.getD i 0 ∈ lv := by simp [List.getD, hlt]
    obtain ⟨r, hr⟩ := Int.eq_ofNat_of_zero_le (HL.out _ hmem).1
    have hr2 : r < rs := by have := (HL.out _ hmem).2; omega
    have HX := hid (liveS_next (S := S) hlt)
    rw [hr] at c0 HX
    rw [Int.toNat_natCast] at HX
    have y0 : wr.cell? ⟨g, r, none⟩ = some (.bool (S.testBit r)) := (H1.out.below hN.b H1.out.lt).cell (setB_get hr2)
    have z0 := hO.cell (setB_get hr2)
    have f0 := hO.frozen r
    have HZ := hid (liveS_sub (lv.take i) S r)
    clear hN hO hmem hr
    cases ht : S.testBit r
    ·rw [ht] at y0
     rw [ht] at HX
     have HT := hid ht
     clear ht
     go_wp2_with fail
     go_region
     go_wp2_with fail
     go_roundw
     case rel => exact ⟨i + 1, by go_num, hlt, (N.out.put K.out _).drew, by rw [HX.out]; have := O.out.set r (.bool false); rw [setB_keep (HZ.out HT.out)] at this; exact this.drew⟩
     case measure => simp [intOf]; omega
    ·rw [ht] at y0
     rw [ht] at HX
     clear ht
     go_wp2_with fail
     go_region
     go_wp2_with fail
     go_roundw
     case rel => exact ⟨i + 1, by go_num, hlt, (N.out.put K.out _).drew, by rw [HX.out]; have := O.out.set r (.bool true); rw [setB_put hr2] at this; exact this.drew⟩
     case measure => simp [intOf]; omega
   ·obtain rfl : i = lv.length := by omega
    rw [List.take_length] at hO
    have O := hid hO
    clear hN hO
    cases hs : setsI op
    ·have CS := hid (fun W => rsets_eq op a b c false hs la va l.length lc lv.length vc W)
     have HS := hid hs
     clear hs
     go_wp2_with
       (first
        | (at_builtin; refine app_copyb rfl _ _ rfl _ (by simp) rfl rfl (H1.out.below N0.out.b H1.out.lt) (by omega) ?_; intro k cap V k1 k2 k3; have K := hid (Nat.lt_of_lt_of_le N0.out.lt k1); have N := hid (N0.out.below k3); have O := hid k2; clear k1 k2 k3; obtain ⟨x0, x1, x2, x3, x4, x5⟩ := N.out.cells; dsimp only at x0 x1 x2 x3 x4 x5)
        | (go_at_call 101; refine (CK.out _).mono ?_; rintro e w1 ⟨rfl, hb⟩; have N := hid (N.out.below hb); have O := hid (O.out.below hb O.out.lt); clear hb x0 x1 x2 x3 x4 x5; obtain ⟨x0, x1, x2, x3, x4, x5⟩ := N.out.cells; dsimp only at x0 x1 x2 x3 x4 x5)
        | (go_at_call 100; refine (CS.out _).mono ?_; rintro e w2 ⟨rfl, hb⟩; have N := hid (N.out.below hb); have O := hid (O.out.below hb O.out.lt); clear hb x0 x1 x2 x3 x4 x5; obtain ⟨x0, x1, x2, x3, x4, x5⟩ := N.out.cells; dsimp only at x0 x1 x2 x3 x4 x5))
     go_ret
     exact ⟨M, rs, rfl, K.out, by rw [behS_no HS.out HK.out]; exact O.out, N.out.b⟩
    ·obtain ⟨r, hr⟩ := Int.eq_ofNat_of_zero_le (hA.out hs).1
     have hr2 : r < rs := by have := (hA.out hs).2; omega
     have CS := hid (fun W => rsets_eq op a b c true hs la va l.length lc lv.length vc W)
     have HS := hid hs
     clear hs
     subst hr
     go_wp2_with
       (first
        | (at_builtin; refine app_copyb rfl _ _ rfl _ (by simp) rfl rfl (H1.out.below N0.out.b H1.out.lt) (by omega) ?_; intro k cap V k1 k2 k3; have K := hid (Nat.lt_of_lt_of_le N0.out.lt k1); have N := hid (N0.out.below k3); have O := hid k2; clear k1 k2 k3; obtain ⟨x0, x1, x2, x3, x4, x5⟩ := N.out.cells; dsimp only at x0 x1 x2 x3 x4 x5)
        | (go_at_call 101; refine (CK.out _).mono ?_; rintro e w1 ⟨rfl, hb⟩; have N := hid (N.out.below hb); have O := hid (O.out.below hb O.out.lt); clear hb x0 x1 x2 x3 x4 x5; obtain ⟨x0, x1, x2, x3, x4, x5⟩ := N.out.cells; dsimp only at x0 x1 x2 x3 x4 x5)
        | (go_at_call 100; refine (CS.out _).mono ?_; rintro e w2 ⟨rfl, hb⟩; have N := hid (N.out.below hb); have O := hid (O.out.below hb O.out.lt); clear hb x0 x1 x2 x3 x4 x5; obtain ⟨x0, x1, x2, x3, x4, x5⟩ := N.out.cells; dsimp only at x0 x1 x2 x3 x4 x5; have y0 := O.out.cell (setB_get hr2); have f0 := O.out.frozen r))
     go_ret
     exact ⟨M, rs, rfl, K.out, by rw [behS_yes HS.out HK.out, ← setB_put hr2]; exact O.out.set r _, (N.out.put K.out _).b⟩
end
/-- a list of numbers is told, its own or not -/
def RdR (w : World) (L : List Int) (e : Ending) (w' : World) : Prop := ∃ r cap, e = .returned (.slice r L.length cap) ∧ IntsAt .i64 w' r L ∧ Below w.heap.size w w'
theorem RdR.mk {w : World} {L : List Int} {w' : World} {r : Option Addr} {n cap : Nat} (hn : n = L.length) (h1 : IntsAt .i64 w' r L) (h2 : Below w.heap.size w w') : RdR w L (.returned (.slice r n cap)) w' := ⟨r, cap, by rw [hn], h1, h2⟩
theorem RdR.own {w w' : World} {L : List Int} {base n : Nat} {v : Value} (h : w'.ownsRow base 3 1 v n (ints L)) (hb : Below w.heap.size w w') : RdR w L (.returned v) w' := by
 have hn : L.length = n := by simpa [ints] using h.1
 rcases h.2 with ⟨rfl, h0⟩ | ⟨g, cap, cur, rfl, hr⟩
 ·have : L = [] := List.length_eq_zero_iff.1 (by omega)
  subst this
  exact ⟨none, 0, rfl, ints_nil _, hb⟩
 ·exact ⟨_, cap, by rw [hn], own_ints (OwnAt.of h).1, hb⟩
theorem own_lit1 {W : World} {base : Nat} (v : Int) (H : Nat) (hH : W.heap.size = H) (hb : base ≤ W.heap.size) : (W.alloc (.cells #[.int .i64 v] 3)).ownsRow base 3 1 (.slice (some ⟨H, 0, none⟩) 1 1) 1 (ints [v]) := by
 subst hH
 exact ⟨rfl, .inr ⟨W.heap.size, 1, #[.int .i64 v], rfl, hb, heap_alloc_new _ _, Nat.le_refl _, by unfold maxLen; omega, rfl, rfl⟩⟩
set_option maxHeartbeats 1000000 in
set_option maxRecDepth 8000 in
theorem reads_any (op a b c : Int) (l lv : List Int) (la va : Option Addr) (lc vn vc : Nat) (w : World) (hl : IntsAt .i64 w la l) (hll : l.length ≤ 1000000000) :
  Calls Tryz.prog 82 #[.agg #[.int .i64 op, .int .i64 a, .int .i64 b, .int .i64 c, .slice la l.length lc, .slice va vn vc]] w fun e w' => RdR w (readsI ⟨op, a, b, c, l, lv⟩) e w' := by
 have hA : ∀ o, Below w.heap.size w (w.alloc o) := fun o => (Below.refl _ _).alloc (Nat.le_refl _) _
 have hA2 : ∀ o1 o2, Below w.heap.size w ((w.alloc o1).alloc o2) := fun o1 o2 => (hA o1).alloc (by simp) _
 have HA := hid hA
 have HA2 := hid hA2
 have HI := hid hl
 clear hA hA2 hl
 rcases op_all op with (rfl | rfl | rfl | rfl | rfl | rfl | rfl | rfl | rfl | rfl | rfl | rfl | rfl) | ⟨h1, h2, h3, h4, h5, h6, h7, h8, h9, h10, h11, h12, h13⟩
 ·
  go_enter Tryz.func82, Tryz.ntmps82
  go_wp2
  go_ret
  exact RdR.mk rfl (ints_nil _) (HA.out _)
 ·
  go_enter Tryz.func82, Tryz.ntmps82
  go_wp2
  go_ret
  exact RdR.mk rfl (ints_nil _) (HA.out _)
 ·
  go_enter Tryz.func82, Tryz.ntmps82
  go_wp2
  go_ret
  exact RdR.mk rfl (ints_nil _) (HA.out _)
 ·
  go_enter Tryz.func82, Tryz.ntmps82
  go_wp2
  go_ret
  exact RdR.mk rfl (ints_new1 (by simp)) (HA2.out _ _)
 ·
  go_enter Tryz.func82, Tryz.ntmps82
  go_wp2
  go_ret
  exact RdR.mk rfl (HI.out.below (HA.out _)) (HA.out _)
 ·
  go_enter Tryz.func82, Tryz.ntmps82
  go_wp2
  go_ret
  exact RdR.mk rfl (ints_new1 (by simp)) (HA2.out _ _)
 ·
  go_enter Tryz.func82, Tryz.ntmps82
  go_wp2
  go_ret
  exact RdR.mk rfl (ints_new2 (by simp)) (HA2.out _ _)
 ·
  go_enter Tryz.func82, Tryz.ntmps82
  go_wp2
  go_ret
  exact RdR.mk rfl (HI.out.below (HA.out _)) (HA.out _)
 ·
  go_enter Tryz.func82, Tryz.ntmps82
  go_wp2
  go_ret
  exact RdR.mk rfl (ints_nil _) (HA.out _)
 ·
  go_enter Tryz.func82, Tryz.ntmps82
  go_wp2
  go_ret
  exact RdR.mk rfl (ints_new1 (by simp)) (HA2.out _ _)
 ·go_enter Tryz.func82, Tryz.ntmps82
  go_wp2_with (at_builtin; refine app_list (own_lit1 (base := w.heap.size) a _ (by simp) (by simp)) rfl _ _ rfl l _ _ rfl rfl (HI.out.below (HA2.out _ _)) (by omega) (by simp; omega) ?_; intro v' V k1 k2 k3 k4; have K1 := hid k1; have K2 := hid k2; clear k1 k2 k3 k4)
  go_ret
  exact RdR.own (L := a :: l) K1.out ((HA2.out _ _).trans K2.out)
 ·
  go_enter Tryz.func82, Tryz.ntmps82
  go_wp2
  go_ret
  exact RdR.mk rfl (HI.out.below (HA.out _)) (HA.out _)
 ·
  go_enter Tryz.func82, Tryz.ntmps82
  go_wp2
  go_ret
  exact RdR.mk rfl (ints_new1 (by simp)) (HA2.out _ _)
 ·have e : readsI ⟨op, a, b, c, l, lv⟩ = [] := by simp [readsI, h4, h5, h6, h7, h8, h10, h11, h12, h13]
  rw [e]
  go_enter Tryz.func82, Tryz.ntmps82
  go_wp2
  go_ret
  exact RdR.mk rfl (ints_nil _) (HA.out _)
set_option maxHeartbeats 4000000 in
set_option maxRecDepth 8000 in
theorem rreads_11 (bare : Bool) (a b c : Int) (l lv : List Int) (la va : Option Addr) (lc vc : Nat) (w : World) (hl : IntsAt .i64 w la l) (hv : IntsAt .i64 w va lv) (hll : l.length ≤ 1000000000) (hvl : lv.length ≤ 1000000000) :
  Calls Tryz.prog 89 #[.agg #[.int .i64 11, .int .i64 a, .int .i64 b, .int .i64 c, .slice la l.length lc, .slice va lv.length vc], .bool bare] w fun e w' => RdR w (a :: l ++ (if bare then [] else lv)) e w' := by
 have hA : ∀ o, Below w.heap.size w (w.alloc o) := fun o => (Below.refl _ _).alloc (Nat.le_refl _) _
 have HA := hid hA
 have HI := hid hl
 have HV := hid hv
 clear hA hl hv
 have HD : Hid (∀ o, Below w.heap.size w (w.alloc o).drew) := hid (fun o => (HA.out o).drew)
 have HD2 : Hid (∀ o o2, Below w.heap.size w ((w.alloc o).drew.alloc o2)) := hid (fun o o2 => (HD.out o).alloc (by simp) _)
 rcases bare with _ | _
 ·go_enter Tryz.func89, Tryz.ntmps89
  go_wp2_with fail
  go_region_law (first
   | (refine step_app_list (World.ownsRow_nil _ (w.heap.size + 1) _ _) rfl _ _ rfl [a] _ _ rfl rfl (ints_new1 (by simp)) (by simp) (by simp) ?_; intro v' V k1 k2 k3 k4; have K1 := hid k1; have K2 := hid ((HD2.out _ _).trans (k2.mono (Nat.le_succ _))); have x4 : V.cell? ⟨w.heap.size, 4, none⟩ = some (.slice la l.length lc) := (by rw [k2.cell (p := ⟨w.heap.size, 4, none⟩) (Nat.lt_succ_self _)]; simp); have x5 : V.cell? ⟨w.heap.size, 5, none⟩ = some (.slice va lv.length vc) := (by rw [k2.cell (p := ⟨w.heap.size, 5, none⟩) (Nat.lt_succ_self _)]; simp); have hV : w.heap.size + 1 ≤ V.heap.size := (Nat.le_trans (by simp) k2.size); clear k1 k2 k3 k4)
   | (refine step_app_list K1.out rfl _ _ rfl l _ _ rfl rfl (HI.out.below K2.out) (by simp; omega) hV ?_; intro v2 V2 k1 k2 k3 k4; have K3 := hid k1; have K4 := hid (K2.out.trans (k2.mono (Nat.le_succ _))); have y5 : V2.cell? ⟨w.heap.size, 5, none⟩ = some (.slice va lv.length vc) := (by rw [k2.cell (p := ⟨w.heap.size, 5, none⟩) (Nat.lt_succ_self _)]; exact x5); have hV2 : w.heap.size + 1 ≤ V2.heap.size := (Nat.le_trans hV k2.size); clear k1 k2 k3 k4))
  all_goals go_wp2_with (at_builtin; refine app_list K3.out rfl _ _ rfl lv _ _ rfl rfl (HV.out.below K4.out) (by simp; omega) hV2 ?_; intro v3 V3 k1 k2 k3 k4; have K5 := hid k1; have K6 := hid (K4.out.trans (k2.mono (Nat.le_succ _))); clear k1 k2 k3 k4)
  all_goals go_ret
  all_goals exact RdR.own (L := a :: l ++ lv) (by simpa [ints] using K5.out) K6.out
 ·go_enter Tryz.func89, Tryz.ntmps89
  go_wp2_with fail
  go_region_law (first
   | (refine step_app_list (World.ownsRow_nil _ (w.heap.size + 1) _ _) rfl _ _ rfl [a] _ _ rfl rfl (ints_new1 (by simp)) (by simp) (by simp) ?_; intro v' V k1 k2 k3 k4; have K1 := hid k1; have K2 := hid ((HD2.out _ _).trans (k2.mono (Nat.le_succ _))); have x4 : V.cell? ⟨w.heap.size, 4, none⟩ = some (.slice la l.length lc) := (by rw [k2.cell (p := ⟨w.heap.size, 4, none⟩) (Nat.lt_succ_self _)]; simp); have hV : w.heap.size + 1 ≤ V.heap.size := (Nat.le_trans (by simp) k2.size); clear k1 k2 k3 k4)
   | (refine step_app_list K1.out rfl _ _ rfl l _ _ rfl rfl (HI.out.below K2.out) (by simp; omega) hV ?_; intro v2 V2 k1 k2 k3 k4; have K3 := hid k1; have K4 := hid (K2.out.trans (k2.mono (Nat.le_succ _))); clear k1 k2 k3 k4))
  all_goals go_wp2_with fail
  all_goals go_ret
  all_goals exact RdR.own (L := a :: l) (by simpa [ints] using K3.out) K4.out
set_option maxHeartbeats 4000000 in
set_option maxRecDepth 8000 in
theorem rreads_any (bare : Bool) (op a b c : Int) (l lv : List Int) (la va : Option Addr) (lc vc : Nat) (w : World) (hl : IntsAt .i64 w la l) (hv : IntsAt .i64 w va lv) (hll : l.length ≤ 1000000000) (hvl : lv.length ≤ 1000000000) :
  Calls Tryz.prog 89 #[.agg #[.int .i64 op, .int .i64 a, .int .i64 b, .int .i64 c, .slice la l.length lc, .slice va lv.length vc], .bool bare] w fun e w' => RdR w (readsI ⟨op, a, b, c, l, lv⟩ ++ (if bare then [] else lv)) e w' := by
 rcases op_all op with (rfl | rfl | rfl | rfl | rfl | rfl | rfl | rfl | rfl | rfl | rfl | rfl | rfl) | ⟨h1, h2, h3, h4, h5, h6, h7, h8, h9, h10, h11, h12, h13⟩
 rotate_left 10
 ·exact rreads_11 bare a b c l lv la va lc vc w hl hv hll hvl
 rotate_left 3
 all_goals
  have hA : ∀ o, Below w.heap.size w (w.alloc o) := fun o => (Below.refl _ _).alloc (Nat.le_refl _) _
  have hA2 : ∀ o1 o2, Below w.heap.size w ((w.alloc o1).alloc o2) := fun o1 o2 => (hA o1).alloc (by simp) _
  have HA := hid hA
  have HA2 := hid hA2
  have HI := hid hl
  have HV := hid hv
  clear hA hA2 hl hv
 ·
  rcases bare with _ | _
  ·go_enter Tryz.func89, Tryz.ntmps89
   go_wp2_with (at_builtin; refine app_list (World.ownsRow_nil _ w.heap.size _ _) rfl _ _ rfl lv _ _ rfl rfl (HV.out.below (HA.out _)) (by omega) (by simp) ?_; intro v' V k1 k2 k3 k4; have K1 := hid k1; have K2 := hid k2; clear k1 k2 k3 k4)
   go_ret
   exact RdR.own (L := lv) (by simpa [ints] using K1.out) ((HA.out _).trans K2.out)
  ·go_enter Tryz.func89, Tryz.ntmps89
   go_wp2
   go_ret
   exact RdR.mk rfl (ints_nil _) (HA.out _)
 ·
  rcases bare with _ | _
  ·go_enter Tryz.func89, Tryz.ntmps89
   go_wp2_with (at_builtin; refine app_list (World.ownsRow_nil _ w.heap.size _ _) rfl _ _ rfl lv _ _ rfl rfl (HV.out.below (HA.out _)) (by omega) (by simp) ?_; intro v' V k1 k2 k3 k4; have K1 := hid k1; have K2 := hid k2; clear k1 k2 k3 k4)
   go_ret
   exact RdR.own (L := lv) (by simpa [ints] using K1.out) ((HA.out _).trans K2.out)
  ·go_enter Tryz.func89, Tryz.ntmps89
   go_wp2
   go_ret
   exact RdR.mk rfl (ints_nil _) (HA.out _)
 ·
  rcases bare with _ | _
  ·go_enter Tryz.func89, Tryz.ntmps89
   go_wp2_with (at_builtin; refine app_list (World.ownsRow_nil _ w.heap.size _ _) rfl _ _ rfl lv _ _ rfl rfl (HV.out.below (HA.out _)) (by omega) (by simp) ?_; intro v' V k1 k2 k3 k4; have K1 := hid k1; have K2 := hid k2; clear k1 k2 k3 k4)
   go_ret
   exact RdR.own (L := lv) (by simpa [ints] using K1.out) ((HA.out _).trans K2.out)
  ·go_enter Tryz.func89, Tryz.ntmps89
   go_wp2
   go_ret
   exact RdR.mk rfl (ints_nil _) (HA.out _)
 ·
  rcases bare with _ | _
  ·go_enter Tryz.func89, Tryz.ntmps89
   go_wp2_with (at_builtin; first
    | (refine app_list (World.ownsRow_nil _ (w.heap.size + 1) _ _) rfl _ _ rfl ([b]) _ _ rfl rfl (ints_new1 (by simp)) (by first | (simp; done) | (simp; omega) | omega) (by first | (simp; done) | (simp; omega) | omega) ?_; intro v' V k1 k2 k3 k4; have K1 := hid k1; have K2 := hid (k2.mono (Nat.le_succ _)); have x5 : V.cell? ⟨w.heap.size, 5, none⟩ = some (.slice va lv.length vc) := (by rw [k2.cell (p := ⟨w.heap.size, 5, none⟩) (Nat.lt_succ_self _)]; simp); clear k1 k2 k3 k4)
    | (refine app_list K1.out rfl _ _ rfl lv _ _ rfl rfl (HV.out.below ((HA2.out _ _).trans K2.out)) (by first | (simp; done) | (simp; omega) | omega) (Nat.le_trans (by simp) K2.out.size) ?_; intro v'' V'' k1 k2 k3 k4; have K3 := hid k1; have K4 := hid (k2.mono (Nat.le_succ _)); clear k1 k2 k3 k4))
   go_ret
   exact RdR.own (L := [b] ++ lv) (by simpa [ints] using K3.out) (((HA2.out _ _).trans K2.out).trans K4.out)
  ·go_enter Tryz.func89, Tryz.ntmps89
   go_wp2_with (at_builtin; (refine app_list (World.ownsRow_nil _ (w.heap.size + 1) _ _) rfl _ _ rfl ([b]) _ _ rfl rfl (ints_new1 (by simp)) (by first | (simp; done) | (simp; omega) | omega) (by first | (simp; done) | (simp; omega) | omega) ?_; intro v' V k1 k2 k3 k4; have K1 := hid k1; have K2 := hid (k2.mono (Nat.le_succ _)); clear k1 k2 k3 k4))
   go_ret
   first | exact RdR.own (L := [b] ++ []) (by simpa [ints] using K1.out) ((HA2.out _ _).trans K2.out) | exact RdR.own (L := [b]) (by simpa [ints] using K1.out) ((HA2.out _ _).trans K2.out)
 ·
  rcases bare with _ | _
  ·go_enter Tryz.func89, Tryz.ntmps89
   go_wp2_with (at_builtin; first
    | (refine app_list (World.ownsRow_nil _ (w.heap.size + 1) _ _) rfl _ _ rfl (l) _ _ rfl rfl (HI.out.below (HA.out _)) (by first | (simp; done) | (simp; omega) | omega) (by first | (simp; done) | (simp; omega) | omega) ?_; intro v' V k1 k2 k3 k4; have K1 := hid k1; have K2 := hid (k2.mono (Nat.le_succ _)); have x5 : V.cell? ⟨w.heap.size, 5, none⟩ = some (.slice va lv.length vc) := (by rw [k2.cell (p := ⟨w.heap.size, 5, none⟩) (Nat.lt_succ_self _)]; simp); clear k1 k2 k3 k4)
    | (refine app_list K1.out rfl _ _ rfl lv _ _ rfl rfl (HV.out.below ((HA.out _).trans K2.out)) (by first | (simp; done) | (simp; omega) | omega) (Nat.le_trans (by simp) K2.out.size) ?_; intro v'' V'' k1 k2 k3 k4; have K3 := hid k1; have K4 := hid (k2.mono (Nat.le_succ _)); clear k1 k2 k3 k4))
   go_ret
   exact RdR.own (L := l ++ lv) (by simpa [ints] using K3.out) (((HA.out _).trans K2.out).trans K4.out)
  ·go_enter Tryz.func89, Tryz.ntmps89
   go_wp2_with (at_builtin; (refine app_list (World.ownsRow_nil _ (w.heap.size + 1) _ _) rfl _ _ rfl (l) _ _ rfl rfl (HI.out.below (HA.out _)) (by first | (simp; done) | (simp; omega) | omega) (by first | (simp; done) | (simp; omega) | omega) ?_; intro v' V k1 k2 k3 k4; have K1 := hid k1; have K2 := hid (k2.mono (Nat.le_succ _)); clear k1 k2 k3 k4))
   go_ret
   first | exact RdR.own (L := l ++ []) (by simpa [ints] using K1.out) ((HA.out _).trans K2.out) | exact RdR.own (L := l) (by simpa [ints] using K1.out) ((HA.out _).trans K2.out)
 ·
  rcases bare with _ | _
  ·go_enter Tryz.func89, Tryz.ntmps89
   go_wp2_with (at_builtin; first
    | (refine app_list (World.ownsRow_nil _ (w.heap.size + 1) _ _) rfl _ _ rfl ([b]) _ _ rfl rfl (ints_new1 (by simp)) (by first | (simp; done) | (simp; omega) | omega) (by first | (simp; done) | (simp; omega) | omega) ?_; intro v' V k1 k2 k3 k4; have K1 := hid k1; have K2 := hid (k2.mono (Nat.le_succ _)); have x5 : V.cell? ⟨w.heap.size, 5, none⟩ = some (.slice va lv.length vc) := (by rw [k2.cell (p := ⟨w.heap.size, 5, none⟩) (Nat.lt_succ_self _)]; simp); clear k1 k2 k3 k4)
    | (refine app_list K1.out rfl _ _ rfl lv _ _ rfl rfl (HV.out.below ((HA2.out _ _).trans K2.out)) (by first | (simp; done) | (simp; omega) | omega) (Nat.le_trans (by simp) K2.out.size) ?_; intro v'' V'' k1 k2 k3 k4; have K3 := hid k1; have K4 := hid (k2.mono (Nat.le_succ _)); clear k1 k2 k3 k4))
   go_ret
   exact RdR.own (L := [b] ++ lv) (by simpa [ints] using K3.out) (((HA2.out _ _).trans K2.out).trans K4.out)
  ·go_enter Tryz.func89, Tryz.ntmps89
   go_wp2_with (at_builtin; (refine app_list (World.ownsRow_nil _ (w.heap.size + 1) _ _) rfl _ _ rfl ([b]) _ _ rfl rfl (ints_new1 (by simp)) (by first | (simp; done) | (simp; omega) | omega) (by first | (simp; done) | (simp; omega) | omega) ?_; intro v' V k1 k2 k3 k4; have K1 := hid k1; have K2 := hid (k2.mono (Nat.le_succ _)); clear k1 k2 k3 k4))
   go_ret
   first | exact RdR.own (L := [b] ++ []) (by simpa [ints] using K1.out) ((HA2.out _ _).trans K2.out) | exact RdR.own (L := [b]) (by simpa [ints] using K1.out) ((HA2.out _ _).trans K2.out)
 ·
  rcases bare with _ | _
  ·go_enter Tryz.func89, Tryz.ntmps89
   go_wp2_with (at_builtin; first
    | (refine app_list (World.ownsRow_nil _ (w.heap.size + 1) _ _) rfl _ _ rfl ([a, b]) _ _ rfl rfl (ints_new2 (by simp)) (by first | (simp; done) | (simp; omega) | omega) (by first | (simp; done) | (simp; omega) | omega) ?_; intro v' V k1 k2 k3 k4; have K1 := hid k1; have K2 := hid (k2.mono (Nat.le_succ _)); have x5 : V.cell? ⟨w.heap.size, 5, none⟩ = some (.slice va lv.length vc) := (by rw [k2.cell (p := ⟨w.heap.size, 5, none⟩) (Nat.lt_succ_self _)]; simp); clear k1 k2 k3 k4)
    | (refine app_list K1.out rfl _ _ rfl lv _ _ rfl rfl (HV.out.below ((HA2.out _ _).trans K2.out)) (by first | (simp; done) | (simp; omega) | omega) (Nat.le_trans (by simp) K2.out.size) ?_; intro v'' V'' k1 k2 k3 k4; have K3 := hid k1; have K4 := hid (k2.mono (Nat.le_succ _)); clear k1 k2 k3 k4))
   go_ret
   exact RdR.own (L := [a, b] ++ lv) (by simpa [ints] using K3.out) (((HA2.out _ _).trans K2.out).trans K4.out)
  ·go_enter Tryz.func89, Tryz.ntmps89
   go_wp2_with (at_builtin; (refine app_list (World.ownsRow_nil _ (w.heap.size + 1) _ _) rfl _ _ rfl ([a, b]) _ _ rfl rfl (ints_new2 (by simp)) (by first | (simp; done) | (simp; omega) | omega) (by first | (simp; done) | (simp; omega) | omega) ?_; intro v' V k1 k2 k3 k4; have K1 := hid k1; have K2 := hid (k2.mono (Nat.le_succ _)); clear k1 k2 k3 k4))
   go_ret
   first | exact RdR.own (L := [a, b] ++ []) (by simpa [ints] using K1.out) ((HA2.out _ _).trans K2.out) | exact RdR.own (L := [a, b]) (by simpa [ints] using K1.out) ((HA2.out _ _).trans K2.out)
 ·
  rcases bare with _ | _
  ·go_enter Tryz.func89, Tryz.ntmps89
   go_wp2_with (at_builtin; first
    | (refine app_list (World.ownsRow_nil _ (w.heap.size + 1) _ _) rfl _ _ rfl (l) _ _ rfl rfl (HI.out.below (HA.out _)) (by first | (simp; done) | (simp; omega) | omega) (by first | (simp; done) | (simp; omega) | omega) ?_; intro v' V k1 k2 k3 k4; have K1 := hid k1; have K2 := hid (k2.mono (Nat.le_succ _)); have x5 : V.cell? ⟨w.heap.size, 5, none⟩ = some (.slice va lv.length vc) := (by rw [k2.cell (p := ⟨w.heap.size, 5, none⟩) (Nat.lt_succ_self _)]; simp); clear k1 k2 k3 k4)
    | (refine app_list K1.out rfl _ _ rfl lv _ _ rfl rfl (HV.out.below ((HA.out _).trans K2.out)) (by first | (simp; done) | (simp; omega) | omega) (Nat.le_trans (by simp) K2.out.size) ?_; intro v'' V'' k1 k2 k3 k4; have K3 := hid k1; have K4 := hid (k2.mono (Nat.le_succ _)); clear k1 k2 k3 k4))
   go_ret
   exact RdR.own (L := l ++ lv) (by simpa [ints] using K3.out) (((HA.out _).trans K2.out).trans K4.out)
  ·go_enter Tryz.func89, Tryz.ntmps89
   go_wp2_with (at_builtin; (refine app_list (World.ownsRow_nil _ (w.heap.size + 1) _ _) rfl _ _ rfl (l) _ _ rfl rfl (HI.out.below (HA.out _)) (by first | (simp; done) | (simp; omega) | omega) (by first | (simp; done) | (simp; omega) | omega) ?_; intro v' V k1 k2 k3 k4; have K1 := hid k1; have K2 := hid (k2.mono (Nat.le_succ _)); clear k1 k2 k3 k4))
   go_ret
   first | exact RdR.own (L := l ++ []) (by simpa [ints] using K1.out) ((HA.out _).trans K2.out) | exact RdR.own (L := l) (by simpa [ints] using K1.out) ((HA.out _).trans K2.out)
 ·
  rcases bare with _ | _
  ·go_enter Tryz.func89, Tryz.ntmps89
   go_wp2_with (at_builtin; refine app_list (World.ownsRow_nil _ w.heap.size _ _) rfl _ _ rfl lv _ _ rfl rfl (HV.out.below (HA.out _)) (by omega) (by simp) ?_; intro v' V k1 k2 k3 k4; have K1 := hid k1; have K2 := hid k2; clear k1 k2 k3 k4)
   go_ret
   exact RdR.own (L := lv) (by simpa [ints] using K1.out) ((HA.out _).trans K2.out)
  ·go_enter Tryz.func89, Tryz.ntmps89
   go_wp2
   go_ret
   exact RdR.mk rfl (ints_nil _) (HA.out _)
 ·
  rcases bare with _ | _
  ·go_enter Tryz.func89, Tryz.ntmps89
   go_wp2_with (at_builtin; first
    | (refine app_list (World.ownsRow_nil _ (w.heap.size + 1) _ _) rfl _ _ rfl ([b]) _ _ rfl rfl (ints_new1 (by simp)) (by first | (simp; done) | (simp; omega) | omega) (by first | (simp; done) | (simp; omega) | omega) ?_; intro v' V k1 k2 k3 k4; have K1 := hid k1; have K2 := hid (k2.mono (Nat.le_succ _)); have x5 : V.cell? ⟨w.heap.size, 5, none⟩ = some (.slice va lv.length vc) := (by rw [k2.cell (p := ⟨w.heap.size, 5, none⟩) (Nat.lt_succ_self _)]; simp); clear k1 k2 k3 k4)
    | (refine app_list K1.out rfl _ _ rfl lv _ _ rfl rfl (HV.out.below ((HA2.out _ _).trans K2.out)) (by first | (simp; done) | (simp; omega) | omega) (Nat.le_trans (by simp) K2.out.size) ?_; intro v'' V'' k1 k2 k3 k4; have K3 := hid k1; have K4 := hid (k2.mono (Nat.le_succ _)); clear k1 k2 k3 k4))
   go_ret
   exact RdR.own (L := [b] ++ lv) (by simpa [ints] using K3.out) (((HA2.out _ _).trans K2.out).trans K4.out)
  ·go_enter Tryz.func89, Tryz.ntmps89
   go_wp2_with (at_builtin; (refine app_list (World.ownsRow_nil _ (w.heap.size + 1) _ _) rfl _ _ rfl ([b]) _ _ rfl rfl (ints_new1 (by simp)) (by first | (simp; done) | (simp; omega) | omega) (by first | (simp; done) | (simp; omega) | omega) ?_; intro v' V k1 k2 k3 k4; have K1 := hid k1; have K2 := hid (k2.mono (Nat.le_succ _)); clear k1 k2 k3 k4))
   go_ret
   first | exact RdR.own (L := [b] ++ []) (by simpa [ints] using K1.out) ((HA2.out _ _).trans K2.out) | exact RdR.own (L := [b]) (by simpa [ints] using K1.out) ((HA2.out _ _).trans K2.out)
 ·
  rcases bare with _ | _
  ·go_enter Tryz.func89, Tryz.ntmps89
   go_wp2_with (at_builtin; first
    | (refine app_list (World.ownsRow_nil _ (w.heap.size + 1) _ _) rfl _ _ rfl (l) _ _ rfl rfl (HI.out.below (HA.out _)) (by first | (simp; done) | (simp; omega) | omega) (by first | (simp; done) | (simp; omega) | omega) ?_; intro v' V k1 k2 k3 k4; have K1 := hid k1; have K2 := hid (k2.mono (Nat.le_succ _)); have x5 : V.cell? ⟨w.heap.size, 5, none⟩ = some (.slice va lv.length vc) := (by rw [k2.cell (p := ⟨w.heap.size, 5, none⟩) (Nat.lt_succ_self _)]; simp); clear k1 k2 k3 k4)
    | (refine app_list K1.out rfl _ _ rfl lv _ _ rfl rfl (HV.out.below ((HA.out _).trans K2.out)) (by first | (simp; done) | (simp; omega) | omega) (Nat.le_trans (by simp) K2.out.size) ?_; intro v'' V'' k1 k2 k3 k4; have K3 := hid k1; have K4 := hid (k2.mono (Nat.le_succ _)); clear k1 k2 k3 k4))
   go_ret
   exact RdR.own (L := l ++ lv) (by simpa [ints] using K3.out) (((HA.out _).trans K2.out).trans K4.out)
  ·go_enter Tryz.func89, Tryz.ntmps89
   go_wp2_with (at_builtin; (refine app_list (World.ownsRow_nil _ (w.heap.size + 1) _ _) rfl _ _ rfl (l) _ _ rfl rfl (HI.out.below (HA.out _)) (by first | (simp; done) | (simp; omega) | omega) (by first | (simp; done) | (simp; omega) | omega) ?_; intro v' V k1 k2 k3 k4; have K1 := hid k1; have K2 := hid (k2.mono (Nat.le_succ _)); clear k1 k2 k3 k4))
   go_ret
   first | exact RdR.own (L := l ++ []) (by simpa [ints] using K1.out) ((HA.out _).trans K2.out) | exact RdR.own (L := l) (by simpa [ints] using K1.out) ((HA.out _).trans K2.out)
 ·
  rcases bare with _ | _
  ·go_enter Tryz.func89, Tryz.ntmps89
   go_wp2_with (at_builtin; first
    | (refine app_list (World.ownsRow_nil _ (w.heap.size + 1) _ _) rfl _ _ rfl ([a]) _ _ rfl rfl (ints_new1 (by simp)) (by first | (simp; done) | (simp; omega) | omega) (by first | (simp; done) | (simp; omega) | omega) ?_; intro v' V k1 k2 k3 k4; have K1 := hid k1; have K2 := hid (k2.mono (Nat.le_succ _)); have x5 : V.cell? ⟨w.heap.size, 5, none⟩ = some (.slice va lv.length vc) := (by rw [k2.cell (p := ⟨w.heap.size, 5, none⟩) (Nat.lt_succ_self _)]; simp); clear k1 k2 k3 k4)
    | (refine app_list K1.out rfl _ _ rfl lv _ _ rfl rfl (HV.out.below ((HA2.out _ _).trans K2.out)) (by first | (simp; done) | (simp; omega) | omega) (Nat.le_trans (by simp) K2.out.size) ?_; intro v'' V'' k1 k2 k3 k4; have K3 := hid k1; have K4 := hid (k2.mono (Nat.le_succ _)); clear k1 k2 k3 k4))
   go_ret
   exact RdR.own (L := [a] ++ lv) (by simpa [ints] using K3.out) (((HA2.out _ _).trans K2.out).trans K4.out)
  ·go_enter Tryz.func89, Tryz.ntmps89
   go_wp2_with (at_builtin; (refine app_list (World.ownsRow_nil _ (w.heap.size + 1) _ _) rfl _ _ rfl ([a]) _ _ rfl rfl (ints_new1 (by simp)) (by first | (simp; done) | (simp; omega) | omega) (by first | (simp; done) | (simp; omega) | omega) ?_; intro v' V k1 k2 k3 k4; have K1 := hid k1; have K2 := hid (k2.mono (Nat.le_succ _)); clear k1 k2 k3 k4))
   go_ret
   first | exact RdR.own (L := [a] ++ []) (by simpa [ints] using K1.out) ((HA2.out _ _).trans K2.out) | exact RdR.own (L := [a]) (by simpa [ints] using K1.out) ((HA2.out _ _).trans K2.out)
 ·have e : readsI ⟨op, a, b, c, l, lv⟩ = [] := by simp [readsI, h4, h5, h6, h7, h8, h10, h11, h12, h13]
  rw [e]
  rcases bare with _ | _
  ·go_enter Tryz.func89, Tryz.ntmps89
   go_wp2_with (at_builtin; refine app_list (World.ownsRow_nil _ w.heap.size _ _) rfl _ _ rfl lv _ _ rfl rfl (HV.out.below (HA.out _)) (by omega) (by simp) ?_; intro v' V k1 k2 k3 k4; have K1 := hid k1; have K2 := hid k2; clear k1 k2 k3 k4)
   go_ret
   exact RdR.own (L := lv) (by simpa [ints] using K1.out) ((HA.out _).trans K2.out)
  ·go_enter Tryz.func89, Tryz.ntmps89
   go_wp2
   go_ret
   exact RdR.mk rfl (ints_nil _) (HA.out _)
section
abbrev nats (L : List Nat) : List Value := L.map fun (k : Nat) => Value.int .i64 (k : Int)
/-- one number more on the work list -/
theorem app_push {w : World} {ops : Array Oper} {rest : List Oper} {o : Oper} {a : Act} {Q : Exit → Act → World → Prop} {t tc n : Nat} {L : List Nat} {T : TypeId} (hown : OwnAt w t tc 3 (nats L)) (hgd : o.guard = none) (sl x : Operand)
  (ho : o.op = .call { callee := .builtin .append, args := #[sl, x], argTypes := #[56, 56] })
  (hn : n = L.length) (hs : a.eval sl = .slice (some ⟨t, 0, none⟩) n tc) (z : Nat) (H : Nat) (hH : w.heap.size = H) (hx : a.eval x = .slice (some ⟨H, 0, none⟩) 1 1) (hl : L.length ≤ 1000000000)
  (h : ∀ t' tc' V, OwnAt V t' tc' 3 (nats (L ++ [z])) → w.grownBy V (some t) → (t' = t ∨ w.heap.size ≤ t') → wpList Tryz.prog ops Q rest (a.put o.dst (.slice (some ⟨t', 0, none⟩) (n + 1) tc')) V) :
  wpList Tryz.prog ops Q (o :: rest) a (w.alloc (.cells #[.int .i64 (z : Int)] T)) := by
 obtain ⟨i0, hi, hz0, hz1, hz2⟩ := info_parts infoInt
 subst hH
 subst hn
 have hb0 : Below w.heap.size w (w.alloc (.cells #[.int .i64 (z : Int)] T)) := (Below.refl _ _).alloc (Nat.le_refl _) _
 have hown1 := (hown.alloc (.cells #[.int .i64 (z : Int)] T)).row (base := 0) (Nat.zero_le _) (n := L.length) (by simp)
 refine wpList_append_lies _ hgd sl x 56 ho 0 3 i0 (.int .i64 0) 1 8 Tryz.underlying56 hi hz0 hz1 hz2 rfl (by decide) _ L.length (nats L) hs hown1 ⟨w.heap.size, 0, none⟩ 1 1 [.int .i64 (z : Int)] hx rfl (World.news_of_block (heap_alloc_new _ _)) (by intro u hu; simp at hu; subst hu; rfl) (by decide) (by unfold maxLen; omega) (by omega) (Nat.zero_le _) _ rfl ?_
 intro g cap V k1 k2 k3 _
 refine h g cap V ?_ ?_ ?_
 ·have := (OwnAt.of k1).1
  simpa [nats] using this
 ·refine ⟨k2.os.trans hb0.os, k2.tape.trans hb0.tape, k2.output.trans hb0.output, Nat.le_trans hb0.size k2.size, fun k hk hne => ?_⟩
  exact (k2.block k (Nat.lt_of_lt_of_le hk hb0.size) hne).trans (hb0.block k hk)
 ·rcases k3 with q | q
  ·left; have q : some t = some g := q; simpa using q.symm
  ·right; rw [q]; exact hb0.size
/-- the work list's beginning, in a row of its own -/
theorem app_copyn {w : World} {ops : Array Oper} {rest : List Oper} {o : Oper} {a : Act} {Q : Exit → Act → World → Prop} {t tc p : Nat} {L : List Nat} (hgd : o.guard = none) (sl x : Operand)
  (ho : o.op = .call { callee := .builtin .append, args := #[sl, x], argTypes := #[56, 56] })
  (H : Nat) (hH : w.heap.size = H) (hs : a.eval sl = .slice (some ⟨H, 0, none⟩) 0 0) (hx : a.eval x = .slice (some ⟨t, 0, none⟩) p tc) (hg : OwnAt w t tc 3 (nats L)) (hp : p ≤ L.length) (hl : p ≤ 1000000000)
  (h : ∀ k c V, w.heap.size ≤ k → OwnAt V k c 3 (nats (L.take p)) → Below w.heap.size w V → wpList Tryz.prog ops Q rest (a.put o.dst (.slice (some ⟨k, 0, none⟩) p c)) V) : wpList Tryz.prog ops Q (o :: rest) a (w.alloc (.cells #[] 3)) := by
 obtain ⟨i0, hi, hz0, hz1, hz2⟩ := info_parts infoInt
 subst hH
 have hb0 : Below w.heap.size w (w.alloc (.cells #[] 3)) := (Below.refl _ _).alloc (Nat.le_refl _) _
 have hown : (w.alloc (.cells #[] 3)).ownsRow w.heap.size 3 1 (.slice (some ⟨w.heap.size, 0, none⟩) 0 0) 0 [] := ⟨rfl, .inr ⟨w.heap.size, 0, #[], rfl, Nat.le_refl _, heap_alloc_new _ _, Nat.le_refl _, by unfold maxLen; omega, rfl, rfl⟩⟩
 have hg2 := hg.alloc (.cells #[] 3)
 refine wpList_plain hgd fun K hK => ?_
 by_cases he : p = 0
 ·subst he
  have hrun := run_append_none_of (P := Tryz.prog) (w := w.alloc (.cells #[] 3)) w.heap.size 56 o.type 3 i0 1 Tryz.underlying56 hi _ 0 [] hown (some ⟨t, 0, none⟩) tc
  unfold Oper.wp
  simp [execOp, ho, resolve, invoke, builtin, hs, hx, hrun, Result.andThen]
  exact hK _ _ (h _ _ _ (Nat.le_refl _) (by rw [List.take_zero]; exact (OwnAt.of hown).1) hb0)
 ·refine wp_append_lies _ sl x 56 ho w.heap.size 3 i0 (.int .i64 0) 1 8 Tryz.underlying56 hi hz0 hz1 hz2 rfl (by decide) _ 0 [] hs hown ⟨t, 0, none⟩ p tc (nats (L.take p)) hx (by simp [nats]; omega) ?_ ?_ (by omega) (by unfold maxLen; omega) (by omega) hb0.size _ rfl ?_
  ·intro j u hj
   rw [addr_plain]
   refine hg2.cell ?_
   simp only [nats, List.getElem?_map, List.getElem?_take] at hj ⊢
   split at hj
   ·exact hj
   ·cases hj
  ·intro u hu
   obtain ⟨z, _, rfl⟩ := List.mem_map.1 hu
   rfl
  ·intro k cap V k1 k2 _ _
   rw [Nat.zero_add, List.nil_append] at k1
   obtain ⟨o1, o2, o3⟩ := OwnAt.of k1
   have := h k cap V o3 o1 (hb0.trans ((Below.refl w.heap.size _).grown k2 hb0.size (fun j hj => (hown.lt j hj).1)))
   rw [Nat.zero_add]
   exact hK _ _ this
theorem OwnAt.grown {w V : World} {g cap : Nat} {e : TypeId} {xs : List Value} {p : Nat} (h : OwnAt w g cap e xs) (hg : w.grownBy V (some p)) (hne : g ≠ p) : OwnAt V g cap e xs := h.heap (hg.block g h.lt (by intro q; injection q with q; exact hne q))
theorem KAt.grown {w V : World} {m : Nat} {o : Obj} {p : Nat} (h : KAt w m o) (hg : w.grownBy V (some p)) (hne : m ≠ p) : KAt V m o := ⟨(hg.block m (heap_lt h.x) (by intro q; injection q with q; exact hne q)).trans h.x⟩
theorem below_grownAt {B : Nat} {w W V : World} {p : Nat} (h : Below B w W) (hg : W.grownBy V (some p)) (hB : B ≤ W.heap.size) (hp : B ≤ p) : Below B w V := h.grown hg hB (fun k q => by injection q with q; omega)
theorem grown_set (W : World) (p j : Nat) (u : Value) : W.grownBy (W.setCell ⟨p, j, none⟩ u) (some p) := by
 have hb := (Below.refl 0 W).setCell (p := ⟨p, j, none⟩) (Nat.zero_le _) u
 exact ⟨hb.os, hb.tape, hb.output, hb.size, fun k hk hne => Below.heap_setCell _ _ _ _ (fun q => hne (by rw [show k = p from q]))⟩
/-- an instruction's set: not reached, or a row of its own -/
def RowS (V : World) (A t rs : Nat) (v : Value) (s : Option Nat) : Prop := match s with
 | none => v = .slice none 0 0
 | some S => ∃ g c, v = .slice (some ⟨g, 0, none⟩) rs c ∧ A < g ∧ g ≠ t ∧ OwnAt V g c 4 (setB rs S)
structure RUn (w V : World) (A t tc rs : Nat) (fo : Obj) (slots : List Value) (st : StS) : Prop where
 f : KAt V w.heap.size fo
 b : Below w.heap.size w V
 a : OwnAt V A slots.length 133 slots
 fa : w.heap.size < A
 len : slots.length = st.1.length
 rows : ∀ k, k < st.1.length → RowS V A t rs (slots.getD k undef) (setOf st.1 k)
 td : OwnAt V t tc 3 (nats st.2)
 ta : A < t
section
variable {w V V' : World} {A t tc rs : Nat} {fo : Obj} {slots : List Value} {st : StS}
theorem RowS.same {v : Value} {s : Option Nat} (h : RowS V A t rs v s) (hb : Below V.heap.size V V') : RowS V' A t rs v s := by
 cases s with
 | none => exact h
 | some S => obtain ⟨g, c, h1, h2, h3, h4⟩ := h; exact ⟨g, c, h1, h2, h3, h4.below hb h4.lt⟩
theorem RUn.same (h : RUn w V A t tc rs fo slots st) (hb : Below V.heap.size V V') : RUn w V' A t tc rs fo slots st :=
 ⟨h.f.below hb, h.b.trans (hb.mono h.b.size), h.a.below hb h.a.lt, h.fa, h.len, fun k hk => (h.rows k hk).same hb, h.td.below hb h.td.lt, h.ta⟩
/-- another work list in a new row -/
theorem RUn.todo (h : RUn w V A t tc rs fo slots st) (hb : Below V.heap.size V V') {t' tc' : Nat} {L : List Nat} (ht : V.heap.size ≤ t') (hd : OwnAt V' t' tc' 3 (nats L)) : RUn w V' A t' tc' rs fo slots (st.1, L) := by
 have h2 := h.same hb
 refine ⟨h2.f, h2.b, h2.a, h2.fa, h2.len, fun k hk => ?_, hd, Nat.lt_of_lt_of_le h.a.lt ht⟩
 have := h.rows k hk
 dsimp only
 cases e : setOf st.1 k with
 | none => rw [e] at this; exact this
 | some S => rw [e] at this; obtain ⟨g, c, q1, q2, q3, q4⟩ := this; exact ⟨g, c, q1, q2, Nat.ne_of_lt (Nat.lt_of_lt_of_le q4.lt ht), q4.below hb q4.lt⟩
/-- the work list grows -/
theorem RUn.push (h : RUn w V A t tc rs fo slots st) (hg : V.grownBy V' (some t)) {t' tc' : Nat} {L : List Nat} (ht : t' = t ∨ V.heap.size ≤ t') (hd : OwnAt V' t' tc' 3 (nats L)) : RUn w V' A t' tc' rs fo slots (st.1, L) := by
 have hlt := heap_lt h.f.x
 have hta := h.ta
 have hfa := h.fa
 have hal := h.a.lt
 refine ⟨h.f.grown hg (by omega), below_grownAt h.b hg (Nat.le_of_lt hlt) (by omega), h.a.grown hg (by omega), h.fa, h.len, fun k hk => ?_, hd, by rcases ht with rfl | ht <;> omega⟩
 have := h.rows k hk
 dsimp only
 cases e : setOf st.1 k with
 | none => rw [e] at this; exact this
 | some S => rw [e] at this; obtain ⟨g, c, q1, q2, q3, q4⟩ := this; exact ⟨g, c, q1, q2, by have := q4.lt; rcases ht with rfl | ht <;> omega, q4.grown hg q3⟩
/-- an instruction's set is another -/
theorem RUn.put (h : RUn w V A t tc rs fo slots st) {k g c S : Nat} (hk : k < st.1.length) (hg : A < g) (ht : g ≠ t) (hs : OwnAt V g c 4 (setB rs S)) : RUn w (V.setCell ⟨A, k, none⟩ (.slice (some ⟨g, 0, none⟩) rs c)) A t tc rs fo (slots.set k (.slice (some ⟨g, 0, none⟩) rs c)) (st.1.set k (some S), st.2) := by
 have hlt := heap_lt h.f.x
 have hta := h.ta
 have hfa := h.fa
 have hsl := h.len
 refine ⟨h.f.put _ (Nat.ne_of_lt hfa) _, h.b.setCell (p := ⟨A, k, none⟩) (Nat.le_of_lt hfa) _, by rw [List.length_set]; exact h.a.set k _, h.fa, by simp [h.len], fun j hj => ?_, h.td.other _ (by show t ≠ A; omega) _, h.ta⟩
 dsimp only at hj ⊢
 rw [List.length_set] at hj
 rw [setOf_set hk]
 by_cases e : j = k
 ·subst e
  rw [if_pos rfl]
  exact ⟨g, c, by simp [List.getD, hsl, hj], hg, ht, hs.other _ (by show g ≠ A; omega) _⟩
 ·rw [if_neg e]
  have := h.rows j hj
  rw [show (slots.set k (.slice (some ⟨g, 0, none⟩) rs c)).getD j undef = slots.getD j undef by simp only [List.getD_eq_getElem?_getD, List.getElem?_set]; rw [if_neg (by omega)]]
  cases e2 : setOf st.1 j with
  | none => rw [e2] at this; exact this
  | some R => rw [e2] at this; obtain ⟨g', c', q1, q2, q3, q4⟩ := this; exact ⟨g', c', q1, q2, q3, q4.other _ (by show g' ≠ A; omega) _⟩
theorem RUn.drew (h : RUn w V A t tc rs fo slots st) : RUn w V.drew A t tc rs fo slots st := h.same (Below.refl _ _).drew
/-- where an instruction's set lies -/
theorem RUn.slot (h : RUn w V A t tc rs fo slots st) {k : Nat} (hk : k < st.1.length) : V.cell? ⟨A, k, none⟩ = some (slots.getD k undef) ∧ V.frozen? ⟨A, k, none⟩ = false := by
 have hl := h.len
 exact ⟨h.a.cell (by simp [List.getD, hl, hk]), h.a.frozen k⟩
end
end
/-- an instruction stands as the table says, as far as the work list looks -/
structure OkX (n rs k : Nat) (x : In) : Prop where
 go : ∀ t ∈ nextL (k : Int) x.op x.c x.l, 0 ≤ t ∧ t < (n : Int)
 rd : ∀ r ∈ readsI x ++ x.lv, 0 ≤ r ∧ r < (rs : Int)
 sa : setsI x.op = true → 0 ≤ x.a ∧ x.a < (rs : Int)
 ll : x.l.length ≤ 1000000000
 vl : x.lv.length ≤ 1000000000
 l9 : x.op = 9 → x.l = []
def OkC (rs : Nat) (code : List In) : Prop := ∀ k x, code[k]? = some x → OkX code.length rs k x
theorem toS_lt {n rs k : Nat} {x : In} (h : OkX n rs k x) : ∀ t ∈ toS k x, t < n := by
 intro t ht
 obtain ⟨z, hz, rfl⟩ := List.mem_map.1 ht
 have := h.go z hz
 omega
theorem beh_lt {n rs k S : Nat} {x : In} (h : OkX n rs k x) (hS : S < 2 ^ rs) : behS x S < 2 ^ rs := by
 refine behS_lt hS (fun _ r hr => ?_) (fun q => ?_)
 ·have := h.rd r (by simp [hr]); omega
 ·have := h.sa q; omega
theorem pow_fill (i : Nat) : (2 ^ i - 1) ||| 2 ^ i = 2 ^ (i + 1) - 1 := by
 apply Nat.eq_of_testBit_eq
 intro j
 rw [Nat.testBit_or, Nat.testBit_two_pow_sub_one, Nat.testBit_two_pow_sub_one, Nat.testBit_two_pow, Bool.eq_iff_iff]
 simp
 omega
theorem start_ok {n rs ps : Nat} (hn : 0 < n) (hp : ps ≤ rs) : OkS n rs (startS n ps) := by
 have hl : 0 < (List.replicate n (none : Option Nat)).length := by simpa using hn
 refine ⟨by simp [startS], fun k S h => ?_, fun k h => ?_⟩
 ·unfold startS at h
  dsimp only at h
  rw [setOf_set hl] at h
  split at h
  ·cases h
   exact Nat.lt_of_lt_of_le (Nat.sub_lt (Nat.two_pow_pos _) (by decide)) (Nat.pow_le_pow_right (by decide) hp)
  ·unfold setOf at h
   simp [List.getD_eq_getElem?_getD, List.getElem?_replicate] at h
   split at h <;> cases h
 ·simp [startS] at h
  subst h
  refine ⟨hn, ?_⟩
  unfold startS
  dsimp only
  rw [setOf_set hl]
  rfl
theorem wgt_le (rs : Nat) (s : Option Nat) : wgt rs s ≤ rs + 1 := by
 cases s with
 | none => exact Nat.le_refl _
 | some S => exact Nat.le_trans (popc_le rs S) (Nat.le_succ _)
theorem sumW_le (rs : Nat) : ∀ l, sumW rs l ≤ l.length * (rs + 1)
 | [] => by simp [sumW]
 | s :: l => by
  have := sumW_le rs l
  have h2 := wgt_le rs s
  unfold sumW
  rw [List.length_cons, Nat.succ_mul]
  omega
theorem start_mea {n rs ps : Nat} (hn : n ≤ 65536) (hrs : rs ≤ 4096) : meaS rs (startS n ps) ≤ 600000000 := by
 have h := sumW_le rs (startS n ps).1
 have hl : (startS n ps).1.length = n := by simp [startS]
 have h2 : (startS n ps).2.length = 1 := rfl
 rw [hl] at h
 have h3 : n * (rs + 1) ≤ 65536 * 4097 := Nat.mul_le_mul hn (by omega)
 unfold meaS
 rw [h2]
 omega
theorem step_ok {rs : Nat} {code : List In} {st : StS} (hok : OkC rs code) (h : OkS code.length rs st) (hne : st.2 ≠ []) :
  ∃ k x S, st.2.getLast? = some k ∧ code[k]? = some x ∧ setOf st.1 k = some S ∧ S < 2 ^ rs ∧ OkX code.length rs k x ∧
   stepS code st = (toS k x).foldl (metS (behS x S)) (st.1, st.2.dropLast) ∧ OkS code.length rs (stepS code st) ∧ meaS rs (stepS code st) < meaS rs st := by
 obtain ⟨k, hk⟩ : ∃ k, st.2.getLast? = some k := Option.isSome_iff_exists.1 (by simp [List.getLast?_isSome, hne])
 have hm : k ∈ st.2 := List.mem_of_getLast? hk
 obtain ⟨h1, h2⟩ := h.todo k hm
 obtain ⟨S, hS⟩ := Option.isSome_iff_exists.1 h2
 have hx : code[k]? = some code[k] := List.getElem?_eq_getElem h1
 have hS2 := h.set k S hS
 have hX := hok k _ hx
 have e : stepS code st = (toS k code[k]).foldl (metS (behS code[k] S)) (st.1, st.2.dropLast) := by
  unfold stepS
  rw [hk]
  dsimp only
  rw [hx]
  dsimp only
  rw [hS]
  rfl
 obtain ⟨d1, d2⟩ := drop_ok h hne
 obtain ⟨m1, m2⟩ := mets_ok (beh_lt hX hS2) (toS k code[k]) _ d1 (toS_lt hX)
 refine ⟨k, _, S, hk, hx, hS, hS2, hX, e, ?_, ?_⟩
 ·rw [e]; exact m1
 ·rw [e]; omega
/-- where the reference's work list starts -/
theorem run_start {w W : World} {A G c rs n ps : Nat} {fo : Obj} (hf : KAt W w.heap.size fo) (hb : Below w.heap.size w W) (ha : OwnAt W A n 133 (List.replicate n (.slice none 0 0))) (hfa : w.heap.size < A) (hAG : A < G) (hg : OwnAt W G c 4 (setB rs (2 ^ ps - 1))) (hn : 0 < n) :
  RUn w ((W.setCell ⟨A, 0, none⟩ (.slice (some ⟨G, 0, none⟩) rs c)).alloc (.cells #[.int .i64 0] 3)) A W.heap.size 1 rs fo ((List.replicate n (.slice none 0 0)).set 0 (.slice (some ⟨G, 0, none⟩) rs c)) (startS n ps) := by
 have hGl := hg.lt
 have hAl := ha.lt
 have hFl := heap_lt hf.x
 have hz : (W.setCell ⟨A, 0, none⟩ (.slice (some ⟨G, 0, none⟩) rs c)).heap.size = W.heap.size := by simp
 have h1 := OwnAt.new (W.setCell ⟨A, 0, none⟩ (.slice (some ⟨G, 0, none⟩) rs c)) #[.int .i64 0] 3 (by unfold maxLen; simp)
 rw [hz] at h1
 refine ⟨(hf.put _ (Nat.ne_of_lt hfa) _).alloc _, (hb.setCell (p := ⟨A, 0, none⟩) (Nat.le_of_lt hfa) _).alloc (by rw [hz]; omega) _, ?_, hfa, by simp [startS], fun k hk => ?_, h1, by omega⟩
 ·have := (ha.set 0 (.slice (some ⟨G, 0, none⟩) rs c)).alloc (.cells #[.int .i64 0] 3)
  simpa using this
 ·have hl : 0 < (List.replicate n (none : Option Nat)).length := by simpa using hn
  have hk2 : k < n := by simpa [startS] using hk
  unfold startS
  dsimp only
  rw [setOf_set hl]
  by_cases e : k = 0
  ·subst e
   rw [if_pos rfl]
   exact ⟨G, c, by simp [List.getD, hn], hAG, by omega, (hg.other _ (by show G ≠ A; omega) _).alloc _⟩
  ·rw [if_neg e]
   have : setOf (List.replicate n (none : Option Nat)) k = none := by
    unfold setOf
    simp [List.getD_eq_getElem?_getD, List.getElem?_replicate]
    split <;> rfl
   rw [this]
   show _ = _
   simp only [List.getD_eq_getElem?_getD, List.getElem?_set, List.getElem?_replicate]
   rw [if_neg (by omega), if_pos hk2]
   rfl
theorem unset_found {code : List In} {ps q : Nat} (hq : q < code.length) (hb : badK code (finS code ps).1 q = true) (hall : ∀ j, j < q → badK code (finS code ps).1 j = false) : unsetS code ps = (q : Int) := by
 unfold unsetS
 rw [if_neg (by intro h; rw [h] at hq; cases hq)]
 have : (List.range code.length).find? (badK code (finS code ps).1) = some q := by
  rw [List.find?_range_eq_some]
  exact ⟨hb, by simpa using hq, fun j hj => by simp [hall j hj]⟩
 rw [this]
theorem unset_none {code : List In} {ps : Nat} (hall : ∀ j, j < code.length → badK code (finS code ps).1 j = false) : unsetS code ps = -1 := by
 unfold unsetS
 split
 ·rfl
 ·have : (List.range code.length).find? (badK code (finS code ps).1) = none := by
   rw [List.find?_range_eq_none]
   exact fun j hj => by simp [hall j hj]
  rw [this]
theorem badK_at {code : List In} {al : List (Option Nat)} {k : Nat} {x : In} (h : code[k]? = some x) : badK code al k = badS x (setOf al k) := by unfold badK; rw [h]
end Go.Proofs.YtokjkligechcoaaGreatDoor
