/- The plain answers of layer 3: strings and their constants. No program in sight. -/
import Derived.WalkKit
import Derived.Lib.Strings
import Derived.Lib.Bytealg
import Derived.Lib.ItoaNum
namespace Go.Proofs.YtkjdigojajcgkaaGreatDoor.St
open Go.RowKit

def named : List UInt8 := [97, 98, 116, 110, 118, 102, 114]

/-- a digit's value; 16: it is none -/
def dig (c : Int) : Int := if 48 ≤ c ∧ c ≤ 57 then c - 48 else if 97 ≤ c ∧ c ≤ 102 then c - 87 else if 65 ≤ c ∧ c ≤ 70 then c - 55 else 16

theorem dig_bd (c : Int) : 0 ≤ dig c ∧ dig c ≤ 16 := by unfold dig; repeat' split <;> omega

def bdig (b : UInt8) : Int := dig (b.toNat : Int)

theorem bdig_nn (x : UInt8) : 0 ≤ bdig x ∧ bdig x ≤ 16 := dig_bd _

def isD (B : Int) (b : UInt8) : Bool := decide (bdig b < B)

theorem isD_lt {B : Int} {b : UInt8} (h : isD B b = true) : bdig b < B := of_decide_eq_true h

theorem isD_ge {B : Int} {b : UInt8} (h : isD B b = false) : B ≤ bdig b := by have := of_decide_eq_false h; omega

def numV (B : Int) (l : List UInt8) : Int := l.foldl (fun n b => n * B + bdig b) 0

/-- the byte of so many digits of a base -/
def numN (B : Int) (n : Nat) (r : List UInt8) : Option Nat :=
  if n ≤ r.length ∧ (r.take n).all (isD B) = true ∧ numV B (r.take n) ≤ 255 then some (numV B (r.take n)).toNat else none

def isBl (b : UInt8) : Bool := decide ((b.toNat : Int) = 9 ∨ (b.toNat : Int) = 10 ∨ (b.toNat : Int) = 12 ∨ (b.toNat : Int) = 13 ∨ (b.toNat : Int) = 32)

def namedAt (c : UInt8) : Int := Lib.indexByte named c

def escUp : List UInt8 → Option (List UInt8 × Nat)
  | [] => none
  | d :: _ => if 64 ≤ d.toNat ∧ d.toNat ≤ 95 then some ([UInt8.ofNat (d.toNat - 64)], 2) else none

def escNum (v : Option Nat) (n : Nat) : Option (List UInt8 × Nat) := v.map fun v => ([UInt8.ofNat v], n)

def escGap (l : List UInt8) : Option (List UInt8 × Nat) := if (l.dropWhile isBl).head? = some 92 then some ([], (l.takeWhile isBl).length + 1) else none

def escC (c : UInt8) (q : List UInt8) : Option (List UInt8 × Nat) :=
  if 0 ≤ namedAt c then some ([UInt8.ofNat (7 + (namedAt c).toNat)], 1)
  else if c = 34 ∨ c = 92 then some ([c], 1)
  else if c = 94 then escUp q
  else if c = 117 then escNum (numN 16 4 q) 5
  else if 48 ≤ c.toNat ∧ c.toNat ≤ 57 then escNum (numN 10 3 (c :: q)) 3
  else if isBl c then escGap (c :: q)
  else none

/-- what stands behind a backslash: the bytes, and how many of the text they take; none: nothing that may be -/
def esc : List UInt8 → Option (List UInt8 × Nat)
  | [] => none
  | c :: q => escC c q

/-- is a byte one that stands for nothing by itself? -/
def badB (c : UInt8) : Bool := decide ((c.toNat : Int) < 32 ∨ 126 < (c.toNat : Int) ∨ (c.toNat : Int) = 34)

/-- a constant read from a place on: what was read, or the place of the fault -/
def rd : Nat → List UInt8 → Nat → List UInt8 → List UInt8 × Option Nat
  | 0, _, _, acc => (acc, none)
  | _ + 1, [], _, acc => (acc, none)
  | f + 1, c :: q, i, acc =>
    if badB c then (acc, some i)
    else if c ≠ 92 then rd f q (i + 1) (acc ++ [c])
    else match esc q with
      | none => (acc, some i)
      | some (t, n) => rd f (q.drop n) (i + 1 + n) (acc ++ t)

def rdAll (l : List UInt8) : List UInt8 × Option Nat := rd (l.length + 1) l 0 []

def readB (l : List UInt8) : List UInt8 := match rdAll l with
  | (_, some _) => []
  | (x, none) => if x.length ≤ 65536 then x else []

def readN (l : List UInt8) : Int := match rdAll l with
  | (_, some i) => i
  | (_, none) => 0

def readE (l : List UInt8) : Int := match rdAll l with
  | (_, some _) => 30
  | (x, none) => if x.length ≤ 65536 then 0 else 2

/-- a byte as a constant has it -/
def shown (c : UInt8) : List UInt8 :=
  if c = 34 ∨ c = 92 then [92, c]
  else if 7 ≤ c.toNat ∧ c.toNat ≤ 13 then [92, named.getD (c.toNat - 7) 0]
  else if c.toNat < 32 then [92, 94, UInt8.ofNat (c.toNat + 64)]
  else if 127 ≤ c.toNat then [92, UInt8.ofNat (48 + c.toNat / 100), UInt8.ofNat (48 + c.toNat / 10 % 10), UInt8.ofNat (48 + c.toNat % 10)]
  else [c]

def shownAll (l : List UInt8) : List UInt8 := l.flatMap shown

def escB (l : List UInt8) : List UInt8 := if l.length ≤ 65536 ∧ (shownAll l).length ≤ 65536 then shownAll l else []

def escE (l : List UInt8) : Int := if l.length ≤ 65536 then (if (shownAll l).length ≤ 65536 then 0 else 2) else 1

/-! ### Laws of reading -/

theorem isBl_no92 : isBl 92 = false := by decide

theorem numN_app {B : Int} {n : Nat} {r s : List UInt8} {v : Nat} (h : numN B n r = some v) : numN B n (r ++ s) = some v := by
  unfold numN at h ⊢
  split at h
  next g =>
    have ht : (r ++ s).take n = r.take n := List.take_append_of_le_length g.1
    rw [ht, if_pos ⟨by rw [List.length_append]; omega, g.2⟩]; exact h
  next => cases h

theorem numN_len {B : Int} {n : Nat} {r : List UInt8} {v : Nat} (h : numN B n r = some v) : n ≤ r.length := by
  unfold numN at h
  split at h
  next g => exact g.1
  next => cases h

theorem while_app {p : UInt8 → Bool} {l s : List UInt8} {x : UInt8} (h : (l.dropWhile p).head? = some x) : (l ++ s).takeWhile p = l.takeWhile p ∧ ((l ++ s).dropWhile p).head? = some x := by
  induction l with
  | nil => cases h
  | cons y r ih =>
    rw [List.cons_append, List.takeWhile_cons, List.takeWhile_cons, List.dropWhile_cons]
    rw [List.dropWhile_cons] at h
    split
    next g => rw [if_pos g] at h; have := ih h; exact ⟨by rw [this.1], this.2⟩
    next g => rw [if_neg g] at h; exact ⟨rfl, by simpa using h⟩

theorem while_len {p : UInt8 → Bool} {l : List UInt8} {x : UInt8} (h : (l.dropWhile p).head? = some x) : (l.takeWhile p).length + 1 ≤ l.length := by
  induction l with
  | nil => cases h
  | cons y r ih =>
    rw [List.takeWhile_cons]
    rw [List.dropWhile_cons] at h
    split
    next g => rw [if_pos g] at h; have := ih h; simp; omega
    next => simp

theorem escNum_some {o : Option Nat} {n m : Nat} {t : List UInt8} (h : escNum o n = some (t, m)) : ∃ v, o = some v ∧ t = [UInt8.ofNat v] ∧ m = n := by
  cases o with
  | none => cases h
  | some v => cases h; exact ⟨v, rfl, rfl, rfl⟩

theorem esc_len {q t : List UInt8} {n : Nat} (h : esc q = some (t, n)) : 1 ≤ n ∧ n ≤ q.length ∧ t.length ≤ 1 := by
  cases q with
  | nil => cases h
  | cons c q =>
    replace h : escC c q = some (t, n) := h
    unfold escC at h
    split at h
    · cases h; simp
    split at h
    · cases h; simp
    split at h
    · cases q with
      | nil => cases h
      | cons d q =>
        by_cases g : 64 ≤ d.toNat ∧ d.toNat ≤ 95
        · rw [show escUp (d :: q) = some ([UInt8.ofNat (d.toNat - 64)], 2) from if_pos g] at h; cases h; simp
        · rw [show escUp (d :: q) = none from if_neg g] at h; cases h
    split at h
    · obtain ⟨v, hv, rfl, rfl⟩ := escNum_some h; have := numN_len hv; simp; omega
    split at h
    · obtain ⟨v, hv, rfl, rfl⟩ := escNum_some h; have := numN_len hv; simp at this ⊢; omega
    split at h
    · unfold escGap at h
      split at h
      · next g => cases h; have := while_len g; simp at this ⊢; omega
      · cases h
    · cases h

theorem esc_app {q t s : List UInt8} {n : Nat} (h : esc q = some (t, n)) : esc (q ++ s) = some (t, n) := by
  cases q with
  | nil => cases h
  | cons c q =>
    rw [List.cons_append]
    replace h : escC c q = some (t, n) := h
    show escC c (q ++ s) = some (t, n)
    unfold escC at h ⊢
    split at h
    next g => rw [if_pos g]; exact h
    next g =>
    rw [if_neg g]
    split at h
    next g => rw [if_pos g]; exact h
    next g =>
    rw [if_neg g]
    split at h
    next g =>
      rw [if_pos g]
      cases q with
      | nil => cases h
      | cons d q => exact h
    next g =>
    rw [if_neg g]
    split at h
    next g =>
      rw [if_pos g]
      obtain ⟨v, hv, rfl, rfl⟩ := escNum_some h
      rw [numN_app hv]; rfl
    next g =>
    rw [if_neg g]
    split at h
    next g =>
      rw [if_pos g]
      obtain ⟨v, hv, rfl, rfl⟩ := escNum_some h
      rw [← List.cons_append, numN_app hv]; rfl
    next g =>
    rw [if_neg g]
    split at h
    next g =>
      rw [if_pos g]
      unfold escGap at h ⊢
      split at h
      · next g2 =>
        have := while_app (s := s) g2
        rw [List.cons_append] at this
        rw [this.1, if_pos this.2]; exact h
      · cases h
    next => cases h

/-- more fuel says the same -/
theorem rd_fuel (f : Nat) : ∀ (g : Nat) (l : List UInt8) (i : Nat) (acc : List UInt8), l.length < f → l.length < g → rd f l i acc = rd g l i acc := by
  induction f with
  | zero => intro g l i acc h; omega
  | succ f ih =>
    intro g l i acc hf hg
    cases g with
    | zero => omega
    | succ g =>
      cases l with
      | nil => rfl
      | cons c q =>
        simp only [List.length_cons] at hf hg
        unfold rd
        split
        · rfl
        split
        · exact ih g q _ _ (by omega) (by omega)
        · cases he : esc q with
          | none => rfl
          | some p =>
            obtain ⟨t, n⟩ := p
            have := esc_len he
            exact ih g (q.drop n) _ _ (by rw [List.length_drop]; omega) (by rw [List.length_drop]; omega)

/-- the place is counted along, what was read is carried along -/
theorem rd_app (f : Nat) : ∀ (l r : List UInt8) (i : Nat) (acc x : List UInt8), l.length < f → rd f l i acc = (x, none) → rd (f + r.length) (l ++ r) i acc = rd (r.length + 1) r (i + l.length) x := by
  induction f with
  | zero => intro l r i acc x h; omega
  | succ f ih =>
    intro l r i acc x hf h
    cases l with
    | nil =>
      have : acc = x := by unfold rd at h; cases h; rfl
      subst this
      rw [List.nil_append, List.length_nil, Nat.add_zero]
      exact rd_fuel _ _ r i acc (by omega) (by omega)
    | cons c q =>
      simp only [List.length_cons] at hf
      rw [show f + 1 + r.length = (f + r.length) + 1 by omega, List.cons_append, List.length_cons]
      unfold rd at h
      conv => lhs; unfold rd
      split at h
      next g => cases h
      next g =>
      rw [if_neg g]
      split at h
      next g =>
        rw [if_pos g, ih q r (i + 1) (acc ++ [c]) x (by omega) h]
        congr 1; omega
      next g =>
      rw [if_neg g]
      cases he : esc q with
      | none => rw [he] at h; cases h
      | some p =>
        obtain ⟨t, n⟩ := p
        rw [he] at h
        rw [esc_app he]
        have hl := esc_len he
        simp only at h ⊢
        have hd : (q ++ r).drop n = q.drop n ++ r := List.drop_append_of_le_length hl.2.1
        have h2 := ih (q.drop n) r (i + 1 + n) (acc ++ t) x (by rw [List.length_drop]; omega) h
        rw [hd, h2, List.length_drop]
        congr 1; omega

theorem rdAll_app {l r x : List UInt8} (h : rdAll l = (x, none)) : rdAll (l ++ r) = rd (r.length + 1) r l.length x := by
  unfold rdAll at h ⊢
  have := rd_app (l.length + 1) l r 0 [] x (by omega) h
  rw [Nat.zero_add] at this
  rw [← this, List.length_append]
  congr 1; omega

theorem rd_acc (f : Nat) : ∀ (l : List UInt8) (i j : Nat) (a b x : List UInt8), rd f l i a = (x, none) → ∃ y, x = a ++ y ∧ rd f l j b = (b ++ y, none) := by
  induction f with
  | zero => intro l i j a b x h; unfold rd at h ⊢; cases h; exact ⟨[], by simp, by simp⟩
  | succ f ih =>
    intro l i j a b x h
    cases l with
    | nil => unfold rd at h ⊢; cases h; exact ⟨[], by simp, by simp⟩
    | cons c q =>
      unfold rd at h ⊢
      split at h
      next g => cases h
      next g =>
      rw [if_neg g]
      split at h
      next g =>
        rw [if_pos g]
        obtain ⟨y, h1, h2⟩ := ih q (i + 1) (j + 1) (a ++ [c]) (b ++ [c]) x h
        exact ⟨[c] ++ y, by rw [h1, List.append_assoc], by rw [h2, List.append_assoc]⟩
      next g =>
      rw [if_neg g]
      cases he : esc q with
      | none => rw [he] at h; cases h
      | some p =>
        obtain ⟨t, n⟩ := p
        rw [he] at h
        obtain ⟨y, h1, h2⟩ := ih (q.drop n) (i + 1 + n) (j + 1 + n) (a ++ t) (b ++ t) x h
        exact ⟨t ++ y, by rw [h1, List.append_assoc], by simp only; rw [h2, List.append_assoc]⟩

theorem rd_at {l x : List UInt8} (h : rdAll l = (x, none)) (j : Nat) (acc : List UInt8) : rd (l.length + 1) l j acc = (acc ++ x, none) := by
  obtain ⟨y, h1, h2⟩ := rd_acc (l.length + 1) l 0 j [] acc x h
  rw [List.nil_append] at h1; rw [h1]; exact h2

/-- two constants, a gap between them -/
theorem rd_gap {a b x y g : List UInt8} (ha : rdAll a = (x, none)) (hb : rdAll b = (y, none)) (hg : g ≠ []) (hbl : g.all isBl = true) : rdAll (a ++ 92 :: (g ++ 92 :: b)) = (x ++ y, none) := by
  rw [rdAll_app ha]
  have hgap : esc (g ++ 92 :: b) = some ([], g.length + 1) := by
    cases g with
    | nil => exact absurd rfl hg
    | cons c g =>
      rw [List.all_cons, Bool.and_eq_true] at hbl
      have hw : ∀ l : List UInt8, l.all isBl = true → (l ++ 92 :: b).takeWhile isBl = l ∧ (l ++ 92 :: b).dropWhile isBl = 92 :: b := by
        intro l
        induction l with
        | nil => intro _; rw [List.nil_append, List.takeWhile_cons, List.dropWhile_cons, isBl_no92]; exact ⟨rfl, rfl⟩
        | cons d l ih =>
          intro h
          rw [List.all_cons, Bool.and_eq_true] at h
          rw [List.cons_append, List.takeWhile_cons, List.dropWhile_cons, if_pos h.1, if_pos h.1, (ih h.2).1, (ih h.2).2]; exact ⟨rfl, rfl⟩
      have h2 := hw (c :: g) (by rw [List.all_cons, hbl.1, hbl.2]; rfl)
      have hc : (c.toNat : Int) = 9 ∨ (c.toNat : Int) = 10 ∨ (c.toNat : Int) = 12 ∨ (c.toNat : Int) = 13 ∨ (c.toNat : Int) = 32 := of_decide_eq_true hbl.1
      have e : c = 9 ∨ c = 10 ∨ c = 12 ∨ c = 13 ∨ c = 32 := by
        have inj : ∀ n : Nat, n < 256 → (c.toNat : Int) = n → c = UInt8.ofNat n := fun n hn he => UInt8.toNat.inj (by rw [UInt8.toNat_ofNat']; omega)
        rcases hc with h | h | h | h | h
        · exact .inl (inj 9 (by omega) h)
        · exact .inr (.inl (inj 10 (by omega) h))
        · exact .inr (.inr (.inl (inj 12 (by omega) h)))
        · exact .inr (.inr (.inr (.inl (inj 13 (by omega) h))))
        · exact .inr (.inr (.inr (.inr (inj 32 (by omega) h))))
      have hn : ¬ 0 ≤ namedAt c := by rcases e with rfl | rfl | rfl | rfl | rfl <;> decide
      rw [List.cons_append]
      show escC c (g ++ 92 :: b) = _
      unfold escC
      rw [if_neg hn, if_neg (by rcases e with rfl | rfl | rfl | rfl | rfl <;> decide), if_neg (by rcases e with rfl | rfl | rfl | rfl | rfl <;> decide), if_neg (by rcases e with rfl | rfl | rfl | rfl | rfl <;> decide), if_neg (by rcases e with rfl | rfl | rfl | rfl | rfl <;> decide), if_pos hbl.1]
      unfold escGap
      rw [← List.cons_append, h2.1, h2.2]; rfl
  unfold rd
  rw [if_neg (by decide), if_neg (by decide), hgap]
  simp only [List.append_nil]
  have hd : (g ++ 92 :: b).drop (g.length + 1) = b := by
    rw [← List.drop_drop, List.drop_left]; rfl
  rw [hd]
  rw [rd_fuel _ (b.length + 1) b _ _ (by simp; omega) (by omega)]
  exact rd_at hb _ x
/-! ### What is written is read as the same -/

theorem shown_back_fin : ∀ n : Fin 256, rdAll (shown (UInt8.ofNat n.val)) = ([UInt8.ofNat n.val], none) := by decide +kernel

theorem ofNat_toNat' (c : UInt8) : UInt8.ofNat c.toNat = c := UInt8.toNat.inj (by rw [UInt8.toNat_ofNat']; have := c.toNat_lt; omega)

theorem shown_back (c : UInt8) : rdAll (shown c) = ([c], none) := by
  have := shown_back_fin ⟨c.toNat, c.toNat_lt⟩
  rw [ofNat_toNat'] at this; exact this

theorem all_back (l : List UInt8) : rdAll (shownAll l) = (l, none) := by
  induction l with
  | nil => rfl
  | cons c r ih =>
    show rdAll (shown c ++ shownAll r) = _
    rw [rdAll_app (shown_back c)]
    exact rd_at ih _ [c]

theorem dec3 {n : Nat} (h1 : 100 ≤ n) (h2 : n < 1000) : Lib.decDigits n = [UInt8.ofNat (48 + n / 100), UInt8.ofNat (48 + n / 10 % 10), UInt8.ofNat (48 + n % 10)] := by
  rw [Lib.decDigits, dif_neg (by omega), Lib.decDigits, dif_neg (by omega), Lib.decDigits_one (by omega), Nat.div_div_eq_div_mul]
  rfl

theorem esc_read {l : List UInt8} (h : escE l = 0) : readB (escB l) = l ∧ readN (escB l) = 0 ∧ readE (escB l) = 0 := by
  unfold escE at h
  split at h
  next h1 =>
    split at h
    next h2 =>
      unfold escB
      rw [if_pos ⟨h1, h2⟩]
      unfold readB readN readE
      rw [all_back]
      simp [h1]
    next => omega
  next => omega

theorem escE_bd (l : List UInt8) : escE l = 0 ∨ escE l = 1 ∨ escE l = 2 := by
  unfold escE; split; split <;> simp; simp

theorem escB_len (l : List UInt8) : (escB l).length ≤ 65536 := by
  unfold escB; split
  next h => exact h.2
  next => simp

theorem shown_len (c : UInt8) : (shown c).length ≤ 4 := by unfold shown; (repeat' split) <;> simp

theorem shownAll_len (l : List UInt8) : (shownAll l).length ≤ 4 * l.length := by
  induction l with
  | nil => simp [shownAll]
  | cons c r ih => show (shown c ++ shownAll r).length ≤ _; have := shown_len c; simp; omega

theorem readE_bd (l : List UInt8) : readE l = 0 ∨ readE l = 2 ∨ readE l = 30 := by
  unfold readE; split; simp; split <;> simp

theorem rd_place (f : Nat) : ∀ (l : List UInt8) (i : Nat) (acc : List UInt8) (x : List UInt8) (j : Nat), rd f l i acc = (x, some j) → i ≤ j ∧ j < i + l.length := by
  induction f with
  | zero => intro l i acc x j h; cases h
  | succ f ih =>
    intro l i acc x j h
    cases l with
    | nil => cases h
    | cons c q =>
      unfold rd at h
      split at h
      · cases h; simp
      split at h
      · have := ih q (i + 1) _ x j h; simp; omega
      cases he : esc q with
      | none => rw [he] at h; cases h; simp
      | some p =>
        obtain ⟨t, n⟩ := p
        rw [he] at h
        have h2 := ih (q.drop n) _ _ x j h
        have h3 := esc_len he
        rw [List.length_drop] at h2; simp; omega

theorem readN_bd (l : List UInt8) : 0 ≤ readN l ∧ readN l ≤ l.length := by
  unfold readN
  split
  next x i h => have := rd_place _ l 0 [] _ i h; omega
  next => omega

theorem read_ok {l : List UInt8} (h : readE l = 0) : rdAll l = (readB l, none) ∧ readN l = 0 ∧ (readB l).length ≤ 65536 := by
  unfold readE at h
  unfold readB readN
  split at h
  · omega
  · next x hx =>
    split at h
    · next h1 => rw [hx]; simp [h1]
    · omega

theorem gap_read {a b g : List UInt8} (ha : readE a = 0) (hb : readE b = 0) (hl : (readB a).length + (readB b).length ≤ 65536) (hg : g ≠ []) (hbl : g.all isBl = true) :
    readB (a ++ 92 :: (g ++ 92 :: b)) = readB a ++ readB b ∧ readE (a ++ 92 :: (g ++ 92 :: b)) = 0 := by
  have h := rd_gap (read_ok ha).1 (read_ok hb).1 hg hbl
  constructor
  · conv => lhs; unfold readB
    rw [h]; simp only [List.length_append]; rw [if_pos hl]
  · conv => lhs; unfold readE
    rw [h]; simp only [List.length_append]; rw [if_pos hl]
end Go.Proofs.YtkjdigojajcgkaaGreatDoor.St
