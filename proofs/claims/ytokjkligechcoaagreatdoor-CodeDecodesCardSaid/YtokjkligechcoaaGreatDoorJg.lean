/- Plain: what readers have read is what stood there; both readers of programs read the same programs. -/
import Derived.Test.YtokjkligechcoaaGreatDoorJc
import Derived.Test.YtokjkligechcoaaGreatDoorGn
set_option linter.unusedVariables false
namespace Go.Proofs.YtokjkligechcoaaGreatDoor
open Go.RowKit
section
/-- what is read without a fault stood there, written -/
def Inv {α : Type} (l : List UInt8) (rd : Nat → Bool → α × Nat × Bool) (enc : α → List UInt8) : Prop :=
 ∀ i b, i ≤ l.length → (rd i b).2.2 = false → b = false ∧ l.drop i = enc (rd i b).1 ++ l.drop (rd i b).2.1 ∧ (rd i b).2.1 ≤ l.length
theorem drop_getD {l : List UInt8} {i : Nat} (h : i < l.length) : l.drop i = l.getD i 0 :: l.drop (i + 1) := by
 rw [List.drop_eq_getElem_cons h]
 simp [List.getD, h]
theorem u8_eq {x : UInt8} {c : Nat} (h : x.toNat = c) : x = UInt8.ofNat c := by rw [← h]; simp
theorem plainF_inv (l : List UInt8) : ∀ f i n, f ≤ 10 → (plainF l f i n).2.2 = false → ∃ m, l.drop i = natE m ++ l.drop (plainF l f i n).2.1 ∧ (plainF l f i n).2.1 ≤ l.length ∧ (plainF l f i n).1 = n + m * 2 ^ (7 * (10 - f)) ∧ (m ≠ 0 ∨ f = 10) := by
 intro f
 induction f with
 | zero => intro i n _ h; exact Bool.noConfusion (show true = false from h)
 | succ f ih =>
  intro i n hf h
  unfold plainF at h ⊢
  by_cases h1 : l.length ≤ i
  ·rw [if_pos h1] at h; exact Bool.noConfusion (show true = false from h)
  ·rw [if_neg h1] at h ⊢
   have hd := drop_getD (show i < l.length by omega)
   obtain ⟨c, hc⟩ : ∃ c, (l.getD i 0).toNat = c := ⟨_, rfl⟩
   have hx := u8_eq hc
   have hc2 : c < 256 := by rw [← hc]; exact (l.getD i 0).toNat_lt
   rw [hc] at h ⊢
   rw [hx] at hd
   by_cases h2 : f = 0 ∧ 1 < c
   ·rw [if_pos h2] at h; exact Bool.noConfusion (show true = false from h)
   ·rw [if_neg h2] at h ⊢
    have e : 10 - (f + 1) = 9 - f := by omega
    by_cases h3 : c < 128
    ·rw [if_pos h3] at h ⊢
     refine ⟨c, ?_, by show i + 1 ≤ _; omega, ?_, ?_⟩
     ·rw [natE_lo h3]; exact hd
     ·show n + c % 128 * _ = _; rw [Nat.mod_eq_of_lt h3, e]
     ·have h := of_decide_eq_false h
      by_cases h0 : c = 0
      ·right; have := fun q => h ⟨h0, q⟩; omega
      ·exact .inl h0
    ·rw [if_neg h3] at h ⊢
     obtain ⟨m, q1, q2, q3, q4⟩ := ih _ _ (by omega) h
     have hm : m ≠ 0 := by rcases q4 with q | q; exact q; omega
     refine ⟨c % 128 + 128 * m, ?_, q2, ?_, .inl (by omega)⟩
     ·rw [natE_hi (by omega), show (c % 128 + 128 * m) % 128 + 128 = c by omega, show (c % 128 + 128 * m) / 128 = m by omega, hd, q1]; rfl
     ·rw [q3, e, show 10 - f = (9 - f) + 1 by omega, Nat.mul_add, Nat.pow_add, Nat.add_mul, Nat.add_assoc]
      congr 2
      rw [show (2 : Nat) ^ (7 * 1) = 128 from rfl, Nat.mul_comm (2 ^ (7 * (9 - f))) 128, ← Nat.mul_assoc, Nat.mul_comm m 128]
theorem natF_inv (l : List UInt8) : ∀ f i n, f ≤ 9 → (natF l f i n).2.2 = false → ∃ m, l.drop i = natE m ++ l.drop (natF l f i n).2.1 ∧ (natF l f i n).2.1 ≤ l.length ∧ (natF l f i n).1 = n + m * 2 ^ (7 * (9 - f)) ∧ (m ≠ 0 ∨ f = 9) := by
 intro f
 induction f with
 | zero => intro i n _ h; exact Bool.noConfusion (show true = false from h)
 | succ f ih =>
  intro i n hf h
  unfold natF at h ⊢
  by_cases h1 : l.length ≤ i
  ·rw [if_pos h1] at h; exact Bool.noConfusion (show true = false from h)
  ·rw [if_neg h1] at h ⊢
   have hd := drop_getD (show i < l.length by omega)
   obtain ⟨c, hc⟩ : ∃ c, (l.getD i 0).toNat = c := ⟨_, rfl⟩
   have hx := u8_eq hc
   have hc2 : c < 256 := by rw [← hc]; exact (l.getD i 0).toNat_lt
   rw [hc] at h ⊢
   rw [hx] at hd
   have e : 9 - (f + 1) = 8 - f := by omega
   by_cases h3 : c < 128
   ·rw [if_pos h3] at h ⊢
    refine ⟨c, ?_, by show i + 1 ≤ _; omega, ?_, ?_⟩
    ·rw [natE_lo h3]; exact hd
    ·show n + c % 128 * _ = _; rw [Nat.mod_eq_of_lt h3, e]
    ·have h := of_decide_eq_false h
     by_cases h0 : c = 0
     ·right; have := fun q => h ⟨h0, q⟩; omega
     ·exact .inl h0
   ·rw [if_neg h3] at h ⊢
    obtain ⟨m, q1, q2, q3, q4⟩ := ih _ _ (by omega) h
    have hm : m ≠ 0 := by rcases q4 with q | q; exact q; omega
    refine ⟨c % 128 + 128 * m, ?_, q2, ?_, .inl (by omega)⟩
    ·rw [natE_hi (by omega), show (c % 128 + 128 * m) % 128 + 128 = c by omega, show (c % 128 + 128 * m) / 128 = m by omega, hd, q1]; rfl
    ·rw [q3, e, show 9 - f = (8 - f) + 1 by omega, Nat.mul_add, Nat.pow_add, Nat.add_mul, Nat.add_assoc]
     congr 2
     rw [show (2 : Nat) ^ (7 * 1) = 128 from rfl, Nat.mul_comm (2 ^ (7 * (8 - f))) 128, ← Nat.mul_assoc, Nat.mul_comm m 128]
theorem plainL_inv (l : List UInt8) (i : Nat) (h : (plainL l i).2.2 = false) : l.drop i = natE (plainL l i).1 ++ l.drop (plainL l i).2.1 ∧ (plainL l i).2.1 ≤ l.length := by
 obtain ⟨m, q1, q2, q3, -⟩ := plainF_inv l 10 i 0 (Nat.le_refl _) h
 have e : (plainL l i).1 = m := by unfold plainL; rw [q3]; simp
 rw [e]; exact ⟨q1, q2⟩
theorem natL_inv (l : List UInt8) : Inv l (natL l) natE := by
 intro i b hi h
 cases b with
 | true => exact absurd h (by simp [natL])
 | false =>
  obtain ⟨m, q1, q2, q3, -⟩ := natF_inv l 9 i 0 (Nat.le_refl _) h
  have e : (natL l i false).1 = m := by show (natF l 9 i 0).1 = m; rw [q3]; simp
  rw [e]; exact ⟨rfl, q1, q2⟩
theorem sgn_unzig {u : Nat} : sgnU (unzig u) = u := by unfold sgnU unzig; split <;> split <;> omega
theorem smallI_inv (l : List UInt8) : Inv l (smallI l) (fun n => natE n.toNat) := by
 intro i b hi h
 have h : (smallL l i b).2.2 = false := h
 show b = false ∧ l.drop i = natE ((smallL l i b).1 : Int).toNat ++ l.drop (smallL l i b).2.1 ∧ (smallL l i b).2.1 ≤ l.length
 unfold smallL at h ⊢
 split at h
 ·exact Bool.noConfusion (show true = false from h)
 ·rename_i hn
  rw [if_neg hn]
  have h : (b || (plainL l i).2.2) = false := h
  rw [Bool.or_eq_false_iff] at h
  obtain ⟨q1, q2⟩ := plainL_inv l i h.2
  exact ⟨h.1, q1, q2⟩
theorem signedL_inv (l : List UInt8) : Inv l (signedL l) sgnE := by
 intro i b hi h
 have h : (b || (plainL l i).2.2) = false := h
 rw [Bool.or_eq_false_iff] at h
 obtain ⟨q1, q2⟩ := plainL_inv l i h.2
 refine ⟨h.1, ?_, q2⟩
 show l.drop i = natE (sgnU (unzig (plainL l i).1)) ++ _
 rw [sgn_unzig]; exact q1
theorem countL_inv (l : List UInt8) (d : Nat) : Inv l (countL l d) natE := by
 intro i b hi h
 unfold countL at h ⊢
 split at h
 ·exact Bool.noConfusion (show true = false from h)
 ·rename_i hn
  rw [if_neg hn]
  have h1 : (b || (plainL l i).2.2) = false := by
   cases q : (b || (plainL l i).2.2)
   ·rfl
   ·exact absurd (Or.inl q) hn
  rw [Bool.or_eq_false_iff] at h1
  obtain ⟨q1, q2⟩ := plainL_inv l i h1.2
  exact ⟨h1.1, q1, q2⟩
theorem rnatI_inv (l : List UInt8) : Inv l (rnatI l) (fun n => natE n.toNat) := fun i b hi h => natL_inv l i b hi h
theorem rsigL_inv (l : List UInt8) : Inv l (rsigL l) sgnE := by
 intro i b hi h
 obtain ⟨q0, q1, q2⟩ := natL_inv l i b hi h
 refine ⟨q0, ?_, q2⟩
 show l.drop i = natE (sgnU (unzig (natL l i b).1)) ++ _
 rw [sgn_unzig]; exact q1
theorem rcntL_inv (l : List UInt8) : Inv l (rcntL l) natE := by
 intro i b hi h
 unfold rcntL at h ⊢
 split at h
 ·exact Bool.noConfusion (show true = false from h)
 ·rename_i hn
  rw [if_neg hn]
  exact natL_inv l i b hi h
theorem listL_inv {α : Type} {l : List UInt8} {rd : Nat → Bool → α × Nat × Bool} {enc : α → List UInt8} (hI : Inv l rd enc) (hL : ∀ i b, i ≤ l.length → (rd i b).2.1 ≤ l.length) : ∀ n i b, i ≤ l.length → (listL rd n i b).2.2 = false → b = false ∧ (listL rd n i b).1.length = n ∧ l.drop i = (listL rd n i b).1.flatMap enc ++ l.drop (listL rd n i b).2.1 ∧ (listL rd n i b).2.1 ≤ l.length := by
 intro n
 induction n with
 | zero => intro i b hi h; exact ⟨h, rfl, rfl, hi⟩
 | succ n ih =>
  intro i b hi h
  cases b with
  | true => rw [listL_bad] at h; exact Bool.noConfusion (show true = false from h)
  | false =>
   rw [listL_succ] at h ⊢
   obtain ⟨q0, q1, q2, q3⟩ := ih _ _ (hL i false hi) h
   obtain ⟨p0, p1, p2⟩ := hI i false hi q0
   refine ⟨rfl, by show _ + 1 = _; rw [q1], ?_, q3⟩
   show l.drop i = List.flatMap enc (_ :: _) ++ _
   rw [List.flatMap_cons, List.append_assoc, ← q2, p1]
/-- an instruction, read by whatever readers -/
def insnG (rn : Nat → Bool → Int × Nat × Bool) (sg : Nat → Bool → Int × Nat × Bool) (ct : Nat → Bool → Nat × Nat × Bool) (i : Nat) (bad : Bool) : In × Nat × Bool :=
 let s := rn i bad
 let ra := sg s.2.1 s.2.2
 let rb := sg ra.2.1 ra.2.2
 let rc := sg rb.2.1 rb.2.2
 let n := ct rc.2.1 rc.2.2
 let L := listL sg n.1 n.2.1 n.2.2
 let m := ct L.2.1 L.2.2
 let V := listL rn m.1 m.2.1 m.2.2
 (⟨s.1, ra.1, rb.1, rc.1, L.1, V.1⟩, V.2)
theorem insnL_G (l : List UInt8) : insnL l = insnG (smallI l) (signedL l) (countL l 1) := rfl
theorem insnR_G (l : List UInt8) : insnR l = insnG (rnatI l) (rsigL l) (rcntL l) := rfl
section
variable {l : List UInt8} {rn sg : Nat → Bool → Int × Nat × Bool} {ct : Nat → Bool → Nat × Nat × Bool}
theorem insnG_inv (h1 : Inv l rn (fun n => natE n.toNat)) (h2 : Inv l sg sgnE) (h3 : Inv l ct natE) (l1 : ∀ i b, i ≤ l.length → (rn i b).2.1 ≤ l.length) (l2 : ∀ i b, i ≤ l.length → (sg i b).2.1 ≤ l.length) (l3 : ∀ i b, i ≤ l.length → (ct i b).2.1 ≤ l.length) : Inv l (insnG rn sg ct) insE := by
 intro i b hi h
 unfold insnG at h ⊢
 obtain ⟨s, hs⟩ : ∃ s, rn i b = s := ⟨_, rfl⟩
 obtain ⟨ra, hra⟩ : ∃ x, sg s.2.1 s.2.2 = x := ⟨_, rfl⟩
 obtain ⟨rb, hrb⟩ : ∃ x, sg ra.2.1 ra.2.2 = x := ⟨_, rfl⟩
 obtain ⟨rc, hrc⟩ : ∃ x, sg rb.2.1 rb.2.2 = x := ⟨_, rfl⟩
 obtain ⟨n, hn⟩ : ∃ x, ct rc.2.1 rc.2.2 = x := ⟨_, rfl⟩
 obtain ⟨L, hL⟩ : ∃ x, listL sg n.1 n.2.1 n.2.2 = x := ⟨_, rfl⟩
 obtain ⟨m, hm⟩ : ∃ x, ct L.2.1 L.2.2 = x := ⟨_, rfl⟩
 obtain ⟨V, hV⟩ : ∃ x, listL rn m.1 m.2.1 m.2.2 = x := ⟨_, rfl⟩
 simp only [hs, hra, hrb, hrc, hn, hL, hm, hV] at h ⊢
 have p0 : s.2.1 ≤ l.length := by rw [← hs]; exact l1 _ _ hi
 have p1 : ra.2.1 ≤ l.length := by rw [← hra]; exact l2 _ _ p0
 have p2 : rb.2.1 ≤ l.length := by rw [← hrb]; exact l2 _ _ p1
 have p3 : rc.2.1 ≤ l.length := by rw [← hrc]; exact l2 _ _ p2
 have p4 : n.2.1 ≤ l.length := by rw [← hn]; exact l3 _ _ p3
 have p5 : L.2.1 ≤ l.length := by rw [← hL]; exact listL_le (fun i b h => l2 i b h) _ _ _ p4
 have p6 : m.2.1 ≤ l.length := by rw [← hm]; exact l3 _ _ p5
 obtain ⟨v0, v1, v2, v3⟩ := listL_inv h1 l1 m.1 m.2.1 m.2.2 p6 (by rw [hV]; exact h)
 rw [hV] at v1 v2 v3
 obtain ⟨m0, m1, m2⟩ := h3 L.2.1 L.2.2 p5 (by rw [hm]; exact v0)
 rw [hm] at m1
 obtain ⟨L0, L1, L2, L3⟩ := listL_inv h2 l2 n.1 n.2.1 n.2.2 p4 (by rw [hL]; exact m0)
 rw [hL] at L1 L2
 obtain ⟨n0, n1, n2⟩ := h3 rc.2.1 rc.2.2 p3 (by rw [hn]; exact L0)
 rw [hn] at n1
 obtain ⟨c0, c1, c2⟩ := h2 rb.2.1 rb.2.2 p2 (by rw [hrc]; exact n0)
 rw [hrc] at c1
 obtain ⟨b0, b1, b2⟩ := h2 ra.2.1 ra.2.2 p1 (by rw [hrb]; exact c0)
 rw [hrb] at b1
 obtain ⟨a0, a1, a2⟩ := h2 s.2.1 s.2.2 p0 (by rw [hra]; exact b0)
 rw [hra] at a1
 obtain ⟨s0, s1, s2⟩ := h1 i b hi (by rw [hs]; exact a0)
 rw [hs] at s1
 refine ⟨s0, ?_, v3⟩
 rw [s1, a1, b1, c1, n1, L2, m1, v2]
 unfold insE sgnsE natsE
 rw [L1, v1]
 simp only [List.append_assoc]
end
theorem strL_inv (l : List UInt8) : Inv l (strL l) strE := by
 intro i b hi h
 have h : (countL l 1 i b).2.2 = false := h
 obtain ⟨q0, q1, q2⟩ := countL_inv l 1 i b hi h
 have q3 := countL_fit l 1 i b
 rw [Nat.div_one] at q3
 have hl : ((l.drop (countL l 1 i b).2.1).take (countL l 1 i b).1).length = (countL l 1 i b).1 := by simp; omega
 refine ⟨q0, ?_, by show (countL l 1 i b).2.1 + (countL l 1 i b).1 ≤ _; omega⟩
 show l.drop i = strE ((l.drop (countL l 1 i b).2.1).take (countL l 1 i b).1) ++ l.drop ((countL l 1 i b).2.1 + (countL l 1 i b).1)
 unfold strE
 rw [hl, q1, List.append_assoc, ← List.drop_drop, List.take_append_drop]
theorem strL_le (l : List UInt8) (i : Nat) (b : Bool) (hi : i ≤ l.length) : (strL l i b).2.1 ≤ l.length := by
 have q2 := countL_le l 1 i b hi
 have q3 := countL_fit l 1 i b
 rw [Nat.div_one] at q3
 show (countL l 1 i b).2.1 + (countL l 1 i b).1 ≤ _
 omega
theorem rstrs_inv (l : List UInt8) : ∀ n i b, i ≤ l.length → (rstrs l n i b).2.2 = false → b = false ∧ (rstrs l n i b).1.length = n ∧ l.drop i = (rstrs l n i b).1.flatMap strE ++ l.drop (rstrs l n i b).2.1 ∧ (rstrs l n i b).2.1 ≤ l.length := by
 intro n
 induction n with
 | zero => intro i b hi h; exact ⟨h, rfl, rfl, hi⟩
 | succ n ih =>
  intro i b hi h
  cases b with
  | true => rw [rstrs_bad] at h; exact Bool.noConfusion (show true = false from h)
  | false =>
   unfold rstrs at h ⊢
   obtain ⟨c, hc⟩ : ∃ c, rcntL l i false = c := ⟨_, rfl⟩
   have q3 := rcntL_fit l i false
   have q4 := rcntL_le l i false hi
   have hI := rcntL_inv l i false hi
   rw [hc] at h q3 q4 hI ⊢
   split at h
   ·exact Bool.noConfusion (show true = false from h)
   ·rename_i hn
    rw [if_neg hn]
    obtain ⟨_, p1, p2⟩ := hI (by simpa using hn)
    obtain ⟨q0, q1, q2, q5⟩ := ih _ _ (by omega) h
    have hl : ((l.drop c.2.1).take c.1).length = c.1 := by simp; omega
    refine ⟨rfl, by show _ + 1 = _; rw [q1], ?_, q5⟩
    show l.drop i = List.flatMap strE (_ :: _) ++ _
    rw [List.flatMap_cons, List.append_assoc, ← q2]
    unfold strE
    rw [hl, p1, List.append_assoc, ← List.drop_drop, List.take_append_drop]
theorem word_byte (l : List UInt8) (i : Nat) : ∀ k j, j < k → wordL l i k / 2 ^ (8 * j) % 256 = (l.getD (i + j) 0).toNat := by
 intro k
 induction k with
 | zero => intro j h; omega
 | succ k ih =>
  intro j hj
  have hw := wordL_lt l i k
  have hb := (l.getD (i + k) 0).toNat_lt
  unfold wordL
  by_cases h : j = k
  ·subst h
   rw [Nat.add_mul_div_right _ _ (Nat.two_pow_pos _), Nat.div_eq_of_lt hw, Nat.zero_add]
   exact Nat.mod_eq_of_lt hb
  ·have hjk : j < k := by omega
   have e : 2 ^ (8 * k) = 256 * 2 ^ (8 * (k - j - 1)) * 2 ^ (8 * j) := by
    rw [show (256 : Nat) = 2 ^ 8 from rfl, ← Nat.pow_add, ← Nat.pow_add]; congr 1; omega
   rw [e, ← Nat.mul_assoc, Nat.add_mul_div_right _ _ (Nat.two_pow_pos _), ← ih j hjk, Nat.mul_comm 256, ← Nat.mul_assoc]
   omega
theorem word_inv (l : List UInt8) (i : Nat) (h : i + 8 ≤ l.length) : l.drop i = wordE ((wordL l i 8 : Nat) : Int) ++ l.drop (i + 8) := by
 have e : wordE ((wordL l i 8 : Nat) : Int) = (l.drop i).take 8 := by
  apply List.ext_getElem?
  intro k
  unfold wordE
  by_cases hk : k < 8
  ·have h1 := word_byte l i 8 k hk
   rw [List.getElem?_map, List.getElem?_range hk, List.getElem?_take_of_lt hk, List.getElem?_drop, List.getElem?_eq_getElem (by omega)]
   simp only [Option.map_some, Int.toNat_natCast, Option.some.injEq]
   rw [List.getD_eq_getElem?_getD, List.getElem?_eq_getElem (by omega)] at h1
   simp only [Option.getD_some] at h1
   apply UInt8.toNat_inj.1
   rw [UInt8.toNat_ofNat', ← h1]
  ·rw [List.getElem?_eq_none (by simp; omega), List.getElem?_eq_none (by simp; omega)]
 rw [e, ← List.drop_drop, List.take_append_drop]
theorem rwordL_ok (l : List UInt8) (i : Nat) (b : Bool) : ∀ k, (rwordL l i b k).2.2 = false → i ≤ l.length → b = false ∧ i + k ≤ l.length ∧ rwordL l i b k = (wordL l i k, i + k, false)
 | 0, h, hi => by
  have h : b = false := h
  subst h
  exact ⟨rfl, hi, rfl⟩
 | k + 1, h, hi => by
  unfold rwordL at h ⊢
  split at h
  ·exact Bool.noConfusion (show true = false from h)
  ·rename_i hn
   obtain ⟨q0, q1, q2⟩ := rwordL_ok l i b k h hi
   rw [if_neg hn]
   rw [q2] at hn ⊢
   exact ⟨q0, by have : ¬ l.length ≤ i + k := hn; omega, rfl⟩
theorem rrealL_inv (l : List UInt8) : Inv l (rrealL l) wordE := by
 intro i b hi h
 obtain ⟨q0, q1, q2⟩ := rwordL_ok l i b 8 h hi
 unfold rrealL
 rw [q2]
 exact ⟨q0, word_inv l i q1, q1⟩
theorem realL_list (l : List UInt8) : ∀ n i b, i + 8 * n ≤ l.length → (listL (realL l) n i b).2.2 = false → b = false ∧ (listL (realL l) n i b).1.length = n ∧ l.drop i = (listL (realL l) n i b).1.flatMap wordE ++ l.drop (listL (realL l) n i b).2.1 ∧ (listL (realL l) n i b).2.1 ≤ l.length := by
 intro n
 induction n with
 | zero => intro i b hi h; exact ⟨h, rfl, rfl, hi⟩
 | succ n ih =>
  intro i b hi h
  cases b with
  | true => rw [listL_bad] at h; exact Bool.noConfusion (show true = false from h)
  | false =>
   rw [listL_succ] at h ⊢
   obtain ⟨q0, q1, q2, q3⟩ := ih (i + 8) false (by omega) h
   refine ⟨rfl, by show _ + 1 = _; rw [show (realL l i false).2.1 = i + 8 from rfl, show (realL l i false).2.2 = false from rfl, q1], ?_, q3⟩
   show l.drop i = List.flatMap wordE (_ :: _) ++ _
   rw [List.flatMap_cons, List.append_assoc]
   refine (word_inv l i (by omega)).trans ?_
   rw [q2]; rfl
def fnG (rn : Nat → Bool → Int × Nat × Bool) (ct : Nat → Bool → Nat × Nat × Bool) (ins : Nat → Bool → In × Nat × Bool) (i : Nat) (bad : Bool) : Fu × Nat × Bool :=
 let p := rn i bad
 let r := rn p.2.1 p.2.2
 let n := ct r.2.1 r.2.2
 let C := listL ins n.1 n.2.1 n.2.2
 (⟨p.1, r.1, C.1⟩, C.2)
theorem fnL_G (l : List UInt8) : fnL l = fnG (smallI l) (countL l 6) (insnL l) := rfl
theorem rfnL_G (l : List UInt8) : rfnL l = fnG (rnatI l) (rcntL l) (insnR l) := rfl
section
variable {l : List UInt8} {rn : Nat → Bool → Int × Nat × Bool} {ct : Nat → Bool → Nat × Nat × Bool} {ins : Nat → Bool → In × Nat × Bool}
theorem fnG_inv (h1 : Inv l rn (fun n => natE n.toNat)) (h3 : Inv l ct natE) (h4 : Inv l ins insE) (l1 : ∀ i b, i ≤ l.length → (rn i b).2.1 ≤ l.length) (l3 : ∀ i b, i ≤ l.length → (ct i b).2.1 ≤ l.length) (l4 : ∀ i b, i ≤ l.length → (ins i b).2.1 ≤ l.length) : Inv l (fnG rn ct ins) funE := by
 intro i b hi h
 unfold fnG at h ⊢
 obtain ⟨p, hp⟩ : ∃ s, rn i b = s := ⟨_, rfl⟩
 obtain ⟨r, hr⟩ : ∃ x, rn p.2.1 p.2.2 = x := ⟨_, rfl⟩
 obtain ⟨n, hn⟩ : ∃ x, ct r.2.1 r.2.2 = x := ⟨_, rfl⟩
 obtain ⟨C, hC⟩ : ∃ x, listL ins n.1 n.2.1 n.2.2 = x := ⟨_, rfl⟩
 simp only [hp, hr, hn, hC] at h ⊢
 have p0 : p.2.1 ≤ l.length := by rw [← hp]; exact l1 _ _ hi
 have p1 : r.2.1 ≤ l.length := by rw [← hr]; exact l1 _ _ p0
 have p2 : n.2.1 ≤ l.length := by rw [← hn]; exact l3 _ _ p1
 obtain ⟨c0, c1, c2, c3⟩ := listL_inv h4 l4 n.1 n.2.1 n.2.2 p2 (by rw [hC]; exact h)
 rw [hC] at c1 c2 c3
 obtain ⟨n0, n1, n2⟩ := h3 r.2.1 r.2.2 p1 (by rw [hn]; exact c0)
 rw [hn] at n1
 obtain ⟨r0, r1, r2⟩ := h1 p.2.1 p.2.2 p0 (by rw [hr]; exact n0)
 rw [hr] at r1
 obtain ⟨s0, s1, s2⟩ := h1 i b hi (by rw [hp]; exact r0)
 rw [hp] at s1
 refine ⟨s0, ?_, c3⟩
 rw [s1, r1, n1, c2]
 unfold funE
 rw [c1]
 simp only [List.append_assoc]
end
theorem insnL_inv (l : List UInt8) : Inv l (insnL l) insE := by
 rw [insnL_G]
 exact insnG_inv (smallI_inv l) (signedL_inv l) (countL_inv l 1) (fun i b h => smallI_le l i b h) (fun i b h => signedL_le l i b h) (fun i b h => countL_le l 1 i b h)
theorem insnR_inv (l : List UInt8) : Inv l (insnR l) insE := by
 rw [insnR_G]
 exact insnG_inv (rnatI_inv l) (rsigL_inv l) (rcntL_inv l) (fun i b h => rnatI_le l i b h) (fun i b h => rsigL_le l i b h) (fun i b h => rcntL_le l i b h)
theorem fnL_inv (l : List UInt8) : Inv l (fnL l) funE := by
 rw [fnL_G]
 exact fnG_inv (smallI_inv l) (countL_inv l 6) (insnL_inv l) (fun i b h => smallI_le l i b h) (fun i b h => countL_le l 6 i b h) (fun i b h => insnL_le l i b h)
theorem rfnL_inv (l : List UInt8) : Inv l (rfnL l) funE := by
 rw [rfnL_G]
 exact fnG_inv (rnatI_inv l) (rcntL_inv l) (insnR_inv l) (fun i b h => rnatI_le l i b h) (fun i b h => rcntL_le l i b h) (fun i b h => insnR_le l i b h)
theorem fnL_le2 (l : List UInt8) (i : Nat) (b : Bool) (h : i ≤ l.length) : (fnL l i b).2.1 ≤ l.length := by
 unfold fnL
 exact listL_le (fun i b hi => insnL_le l i b hi) _ _ _ (countL_le l _ _ _ (smallI_le l _ _ (smallI_le l _ _ h)))
/-- the program that the program's reader has read stood there -/
theorem decP_inv (l : List UInt8) (h : (decP l).2.2 = false) (he : (decP l).2.1 = l.length) : l = progE (decP l).1 := by
 unfold decP at h he ⊢
 obtain ⟨en, hen⟩ : ∃ s, smallI l 0 false = s := ⟨_, rfl⟩
 obtain ⟨ns, hns⟩ : ∃ x, countL l 1 en.2.1 en.2.2 = x := ⟨_, rfl⟩
 obtain ⟨S, hS⟩ : ∃ x, listL (strL l) ns.1 ns.2.1 ns.2.2 = x := ⟨_, rfl⟩
 obtain ⟨nr, hnr⟩ : ∃ x, countL l 8 S.2.1 S.2.2 = x := ⟨_, rfl⟩
 obtain ⟨U, hU⟩ : ∃ x, listL (realL l) nr.1 nr.2.1 nr.2.2 = x := ⟨_, rfl⟩
 obtain ⟨nf, hnf⟩ : ∃ x, countL l 3 U.2.1 U.2.2 = x := ⟨_, rfl⟩
 obtain ⟨F, hF⟩ : ∃ x, listL (fnL l) nf.1 nf.2.1 nf.2.2 = x := ⟨_, rfl⟩
 simp only [hen, hns, hS, hnr, hU, hnf, hF] at h he ⊢
 have p0 : en.2.1 ≤ l.length := by rw [← hen]; exact smallI_le l _ _ (Nat.zero_le _)
 have p1 : ns.2.1 ≤ l.length := by rw [← hns]; exact countL_le l _ _ _ p0
 have p2 : S.2.1 ≤ l.length := by rw [← hS]; exact listL_le (fun i b h => strL_le l i b h) _ _ _ p1
 have p3 : nr.2.1 ≤ l.length := by rw [← hnr]; exact countL_le l _ _ _ p2
 have f3 : nr.1 ≤ (l.length - nr.2.1) / 8 := by have := countL_fit l 8 S.2.1 S.2.2; rw [hnr] at this; exact this
 have pr : nr.2.1 + 8 * nr.1 ≤ l.length := by omega
 have pU : U.2.2 = false → U.2.1 ≤ l.length := fun q => by
  have := (realL_list l nr.1 nr.2.1 nr.2.2 pr (by rw [hU]; exact q)).2.2.2
  rw [hU] at this; exact this
 have qU : U.2.2 = false := by
  cases q : U.2.2
  ·rfl
  ·have e : nf.2.2 = true := by rw [← hnf, q]; unfold countL; simp
   rw [← hF, e, listL_bad] at h
   exact Bool.noConfusion (show true = false from h)
 have p4 : nf.2.1 ≤ l.length := by rw [← hnf]; exact countL_le l _ _ _ (pU qU)
 obtain ⟨F0, F1, F2, F3⟩ := listL_inv (fnL_inv l) (fun i b h => fnL_le2 l i b h) nf.1 nf.2.1 nf.2.2 p4 (by rw [hF]; exact h)
 rw [hF] at F1 F2
 obtain ⟨f0, f1, -⟩ := countL_inv l 3 U.2.1 U.2.2 (pU qU) (by rw [hnf]; exact F0)
 rw [hnf] at f1
 obtain ⟨U0, U1, U2, -⟩ := realL_list l nr.1 nr.2.1 nr.2.2 pr (by rw [hU]; exact qU)
 rw [hU] at U1 U2
 obtain ⟨r0, r1, -⟩ := countL_inv l 8 S.2.1 S.2.2 p2 (by rw [hnr]; exact U0)
 rw [hnr] at r1
 obtain ⟨S0, S1, S2, -⟩ := listL_inv (strL_inv l) (fun i b h => strL_le l i b h) ns.1 ns.2.1 ns.2.2 p1 (by rw [hS]; exact r0)
 rw [hS] at S1 S2
 obtain ⟨n0, n1, -⟩ := countL_inv l 1 en.2.1 en.2.2 p0 (by rw [hns]; exact S0)
 rw [hns] at n1
 obtain ⟨-, e1, -⟩ := smallI_inv l 0 false (Nat.zero_le _) (by rw [hen]; exact n0)
 rw [hen] at e1
 have hd : l = l.drop 0 := rfl
 conv => lhs; rw [hd, e1, n1, S2, r1, U2, f1, F2, he, List.drop_length]
 unfold progE headE
 dsimp only
 rw [S1, U1, F1]
 simp only [List.append_assoc, List.append_nil]
theorem rdecP_inv (l : List UInt8) (h : (rdecP l).2.2 = false) (he : (rdecP l).2.1 = l.length) : l = progE (rdecP l).1 := by
 unfold rdecP at h he ⊢
 obtain ⟨en, hen⟩ : ∃ s, rnatI l 0 false = s := ⟨_, rfl⟩
 obtain ⟨ns, hns⟩ : ∃ x, rcntL l en.2.1 en.2.2 = x := ⟨_, rfl⟩
 obtain ⟨S, hS⟩ : ∃ x, rstrs l ns.1 ns.2.1 ns.2.2 = x := ⟨_, rfl⟩
 obtain ⟨nr, hnr⟩ : ∃ x, rcntL l S.2.1 S.2.2 = x := ⟨_, rfl⟩
 obtain ⟨U, hU⟩ : ∃ x, listL (rrealL l) nr.1 nr.2.1 nr.2.2 = x := ⟨_, rfl⟩
 obtain ⟨nf, hnf⟩ : ∃ x, rcntL l U.2.1 U.2.2 = x := ⟨_, rfl⟩
 obtain ⟨F, hF⟩ : ∃ x, listL (rfnL l) nf.1 nf.2.1 nf.2.2 = x := ⟨_, rfl⟩
 simp only [hen, hns, hS, hnr, hU, hnf, hF] at h he ⊢
 have p0 : en.2.1 ≤ l.length := by rw [← hen]; exact rnatI_le l _ _ (Nat.zero_le _)
 have p1 : ns.2.1 ≤ l.length := by rw [← hns]; exact rcntL_le l _ _ p0
 have p2 : S.2.1 ≤ l.length := by rw [← hS]; exact rstrs_le l _ _ _ p1
 have p3 : nr.2.1 ≤ l.length := by rw [← hnr]; exact rcntL_le l _ _ p2
 have pU : U.2.1 ≤ l.length := by rw [← hU]; exact listL_le (fun i b h => rrealL_le l i b h) _ _ _ p3
 have p4 : nf.2.1 ≤ l.length := by rw [← hnf]; exact rcntL_le l _ _ pU
 obtain ⟨F0, F1, F2, F3⟩ := listL_inv (rfnL_inv l) (fun i b h => rfnL_le l i b h) nf.1 nf.2.1 nf.2.2 p4 (by rw [hF]; exact h)
 rw [hF] at F1 F2
 obtain ⟨f0, f1, -⟩ := rcntL_inv l U.2.1 U.2.2 pU (by rw [hnf]; exact F0)
 rw [hnf] at f1
 obtain ⟨U0, U1, U2, -⟩ := listL_inv (rrealL_inv l) (fun i b h => rrealL_le l i b h) nr.1 nr.2.1 nr.2.2 p3 (by rw [hU]; exact f0)
 rw [hU] at U1 U2
 obtain ⟨r0, r1, -⟩ := rcntL_inv l S.2.1 S.2.2 p2 (by rw [hnr]; exact U0)
 rw [hnr] at r1
 obtain ⟨S0, S1, S2, -⟩ := rstrs_inv l ns.1 ns.2.1 ns.2.2 p1 (by rw [hS]; exact r0)
 rw [hS] at S1 S2
 obtain ⟨n0, n1, -⟩ := rcntL_inv l en.2.1 en.2.2 p0 (by rw [hns]; exact S0)
 rw [hns] at n1
 obtain ⟨-, e1, -⟩ := rnatI_inv l 0 false (Nat.zero_le _) (by rw [hen]; exact n0)
 rw [hen] at e1
 have hd : l = l.drop 0 := rfl
 conv => lhs; rw [hd, e1, n1, S2, r1, U2, f1, F2, he, List.drop_length]
 unfold progE headE
 dsimp only
 rw [S1, U1, F1]
 simp only [List.append_assoc, List.append_nil]
end
open Fx
/-- a number of the language: 63 bits and a sign -/
def I63 (n : Int) : Prop := -4611686018427387904 ≤ n ∧ n < 4611686018427387904
structure InI3 (x : In) : Prop where
 a : I63 x.a
 b : I63 x.b
 c : I63 x.c
 l : ∀ n ∈ x.l, I63 n
 v : ∀ n ∈ x.lv, I63 n
theorem rt_i3 {n : Int} (h : rtB n = true) : I63 n := by
 unfold rtB at h
 unfold I63
 simp at h
 omega
theorem ins_i3 {n e : Int} (h : insB n e = true) (he : e ≤ 1000000000) : I63 n := by
 have := insB_true h
 unfold I63
 omega
theorem eq_i3 {n : Int} (h : (n == 0) = true) : I63 n := by
 have : n = 0 := by simpa using h
 unfold I63
 omega
theorem regs_i63 {l : List Int} {rs : Int} (h : regsB l rs = true) (hr : rs ≤ 4096) : (∀ n ∈ l, I63 n) ∧ l.length ≤ 2048 := by
 obtain ⟨h1, h2⟩ := regs_in h
 exact ⟨fun n hn => by have := h1 n hn; unfold I63; omega, by omega⟩
theorem cases_i63 {l : List Int} {cn : Nat} (h : casesB l cn = true) (hc : cn ≤ 65536) : (∀ n ∈ l, I63 n) ∧ l.length ≤ 2048 := by
 unfold casesB at h
 rw [Bool.and_eq_true, Bool.and_eq_true, List.all_eq_true, decide_eq_true_eq, decide_eq_true_eq] at h
 obtain ⟨⟨h1, h2⟩, h3⟩ := h
 refine ⟨fun n hn => ?_, h2⟩
 obtain ⟨i, hi, rfl⟩ := List.mem_iff_getElem.1 hn
 have := h3 (i / 2) (by rw [List.mem_range]; omega)
 unfold okC at this
 rw [Bool.and_eq_true, Bool.and_eq_true] at this
 obtain ⟨⟨q1, q2⟩, q3⟩ := this
 rcases Nat.mod_two_eq_zero_or_one i with e | e
 ·rw [show 2 * (i / 2) = i by omega] at q1
  have : l.getD i 0 = l[i] := by simp [List.getD, hi]
  rw [this] at q1
  exact rt_i3 q1
 ·rw [show 2 * (i / 2) + 1 = i by omega] at q3
  have : l.getD i 0 = l[i] := by simp [List.getD, hi]
  rw [this] at q3
  exact ins_i3 q3 (by omega)
theorem nil_i63 {l : List Int} (h : ((l.length : Int) == 0) = true) : (∀ n ∈ l, I63 n) ∧ l.length ≤ 2048 := by
 have : l = [] := by simpa using h
 subst this
 simp
structure InF3 (x : In) : Prop where
 i : InI3 x
 o1 : 1 ≤ x.op
 o2 : x.op ≤ 13
 l : x.l.length ≤ 2048
 v : x.lv.length ≤ 1024
 p : ∀ n ∈ x.lv, 0 ≤ n
theorem form_i3 {ns nr : Nat} {fp : List Int} {cn : Nat} {rs : Int} {x : In} (h : formI ns nr fp cn rs x = true) (hr : rs ≤ 4096) (hc : cn ≤ 65536) (hn : ns ≤ 65536) (hm : nr ≤ 65536) (hf : fp.length ≤ 65536) : InF3 x := by
 obtain ⟨op, a, b, c, l, lv⟩ := x
 unfold formI at h
 rw [Bool.and_eq_true] at h
 obtain ⟨hL, hF⟩ := h
 obtain ⟨v1, v2⟩ := live_in hL
 dsimp only at hF v1 v2
 have hv : ∀ n ∈ lv, I63 n := fun n hn => by have := v1 n hn; unfold I63; omega
 have hp : ∀ n ∈ lv, 0 ≤ n := fun n hn => (v1 n hn).1
 rcases op_all op with (rfl | rfl | rfl | rfl | rfl | rfl | rfl | rfl | rfl | rfl | rfl | rfl | rfl) | ⟨h1, h2, h3, h4, h5, h6, h7, h8, h9, h10, h11, h12, h13⟩
 ·replace hF : (insB a rs && rtB b && (c == 0) && ((l.length : Int) == 0)) = true := hF
  simp only [Bool.and_eq_true] at hF
  obtain ⟨⟨⟨f1, f2⟩, f3⟩, f4⟩ := hF
  obtain ⟨l1, l2⟩ := nil_i63 f4
  exact ⟨⟨ins_i3 f1 (by omega), rt_i3 f2, eq_i3 f3, l1, hv⟩, (show (1 : Int) ≤ 1 by decide), (show (1 : Int) ≤ 13 by decide), l2, v2, hp⟩
 ·replace hF : (insB a rs && insB b ns && (c == 0) && ((l.length : Int) == 0)) = true := hF
  simp only [Bool.and_eq_true] at hF
  obtain ⟨⟨⟨f1, f2⟩, f3⟩, f4⟩ := hF
  obtain ⟨l1, l2⟩ := nil_i63 f4
  exact ⟨⟨ins_i3 f1 (by omega), ins_i3 f2 (by omega), eq_i3 f3, l1, hv⟩, (show (1 : Int) ≤ 2 by decide), (show (2 : Int) ≤ 13 by decide), l2, v2, hp⟩
 ·replace hF : (insB a rs && insB b nr && (c == 0) && ((l.length : Int) == 0)) = true := hF
  simp only [Bool.and_eq_true] at hF
  obtain ⟨⟨⟨f1, f2⟩, f3⟩, f4⟩ := hF
  obtain ⟨l1, l2⟩ := nil_i63 f4
  exact ⟨⟨ins_i3 f1 (by omega), ins_i3 f2 (by omega), eq_i3 f3, l1, hv⟩, (show (1 : Int) ≤ 3 by decide), (show (3 : Int) ≤ 13 by decide), l2, v2, hp⟩
 ·replace hF : (insB a rs && insB b rs && (c == 0) && ((l.length : Int) == 0)) = true := hF
  simp only [Bool.and_eq_true] at hF
  obtain ⟨⟨⟨f1, f2⟩, f3⟩, f4⟩ := hF
  obtain ⟨l1, l2⟩ := nil_i63 f4
  exact ⟨⟨ins_i3 f1 (by omega), ins_i3 f2 (by omega), eq_i3 f3, l1, hv⟩, (show (1 : Int) ≤ 4 by decide), (show (4 : Int) ≤ 13 by decide), l2, v2, hp⟩
 ·replace hF : (insB a rs && ((b == 1) || (b == 2) || (b == 4) || (b == 3)) && insB c 16777216 && ((c == 0) || (b == 3)) && regsB l rs) = true := hF
  rw [kinds_eq] at hF
  simp only [Bool.and_eq_true, decide_eq_true_eq] at hF
  obtain ⟨⟨⟨⟨f1, f2⟩, f3⟩, f4⟩, f5⟩ := hF
  obtain ⟨l1, l2⟩ := regs_i63 f5 hr
  exact ⟨⟨ins_i3 f1 (by omega), by show I63 b; unfold I63; omega, ins_i3 f3 (by omega), l1, hv⟩, (show (1 : Int) ≤ 5 by decide), (show (5 : Int) ≤ 13 by decide), l2, v2, hp⟩
 ·replace hF : (insB a rs && insB b rs && insB c 4194305 && ((l.length : Int) == 0)) = true := hF
  simp only [Bool.and_eq_true] at hF
  obtain ⟨⟨⟨f1, f2⟩, f3⟩, f4⟩ := hF
  obtain ⟨l1, l2⟩ := nil_i63 f4
  exact ⟨⟨ins_i3 f1 (by omega), ins_i3 f2 (by omega), ins_i3 f3 (by omega), l1, hv⟩, (show (1 : Int) ≤ 6 by decide), (show (6 : Int) ≤ 13 by decide), l2, v2, hp⟩
 ·replace hF : (insB a rs && insB b rs && insB c 4194305 && ((l.length : Int) == 0)) = true := hF
  simp only [Bool.and_eq_true] at hF
  obtain ⟨⟨⟨f1, f2⟩, f3⟩, f4⟩ := hF
  obtain ⟨l1, l2⟩ := nil_i63 f4
  exact ⟨⟨ins_i3 f1 (by omega), ins_i3 f2 (by omega), ins_i3 f3 (by omega), l1, hv⟩, (show (1 : Int) ≤ 7 by decide), (show (7 : Int) ≤ 13 by decide), l2, v2, hp⟩
 ·replace hF : (insB a rs && insB b 61 && ((l.length : Int) == (prT b.toNat).2.1) && (if (prT b.toNat).2.2 = 0 then c == -1 else insB c cn) && regsB l rs) = true := hF
  simp only [Bool.and_eq_true] at hF
  obtain ⟨⟨⟨⟨f1, f2⟩, f3⟩, f4⟩, f5⟩ := hF
  obtain ⟨l1, l2⟩ := regs_i63 f5 hr
  have hcc : I63 c := by
   split at f4
   ·have : c = -1 := by simpa using f4
    unfold I63; omega
   ·exact ins_i3 f4 (by omega)
  exact ⟨⟨ins_i3 f1 (by omega), ins_i3 f2 (by omega), hcc, l1, hv⟩, (show (1 : Int) ≤ 8 by decide), (show (8 : Int) ≤ 13 by decide), l2, v2, hp⟩
 ·replace hF : ((a == 0) && (b == 0) && insB c cn && ((l.length : Int) == 0)) = true := hF
  simp only [Bool.and_eq_true] at hF
  obtain ⟨⟨⟨f1, f2⟩, f3⟩, f4⟩ := hF
  obtain ⟨l1, l2⟩ := nil_i63 f4
  exact ⟨⟨eq_i3 f1, eq_i3 f2, ins_i3 f3 (by omega), l1, hv⟩, (show (1 : Int) ≤ 9 by decide), (show (9 : Int) ≤ 13 by decide), l2, v2, hp⟩
 ·replace hF : ((a == 0) && insB b rs && insB c cn && casesB l cn) = true := hF
  simp only [Bool.and_eq_true] at hF
  obtain ⟨⟨⟨f1, f2⟩, f3⟩, f4⟩ := hF
  obtain ⟨l1, l2⟩ := cases_i63 f4 hc
  exact ⟨⟨eq_i3 f1, ins_i3 f2 (by omega), ins_i3 f3 (by omega), l1, hv⟩, (show (1 : Int) ≤ 10 by decide), (show (10 : Int) ≤ 13 by decide), l2, v2, hp⟩
 ·replace hF : (insB a rs && (b == 0) && (c == 0) && regsB l rs) = true := hF
  simp only [Bool.and_eq_true] at hF
  obtain ⟨⟨⟨f1, f2⟩, f3⟩, f4⟩ := hF
  obtain ⟨l1, l2⟩ := regs_i63 f4 hr
  exact ⟨⟨ins_i3 f1 (by omega), eq_i3 f2, eq_i3 f3, l1, hv⟩, (show (1 : Int) ≤ 11 by decide), (show (11 : Int) ≤ 13 by decide), l2, v2, hp⟩
 ·replace hF : ((a == 0) && (c == 0) && insB b fp.length && regsB l rs && ((l.length : Int) == fp.getD b.toNat 0)) = true := hF
  simp only [Bool.and_eq_true] at hF
  obtain ⟨⟨⟨⟨f1, f2⟩, f3⟩, f4⟩, f5⟩ := hF
  obtain ⟨l1, l2⟩ := regs_i63 f4 hr
  exact ⟨⟨eq_i3 f1, ins_i3 f3 (by omega), eq_i3 f2, l1, hv⟩, (show (1 : Int) ≤ 12 by decide), (show (12 : Int) ≤ 13 by decide), l2, v2, hp⟩
 ·replace hF : (insB a rs && ((b == 0) || (b == 1)) && (c == 0) && ((l.length : Int) == 0)) = true := hF
  simp only [Bool.and_eq_true, Bool.or_eq_true, beq_iff_eq] at hF
  obtain ⟨⟨⟨f1, f2⟩, f3⟩, f4⟩ := hF
  obtain ⟨l1, l2⟩ := nil_i63 (l := l) (by simpa using f4)
  exact ⟨⟨ins_i3 f1 (by omega), by show I63 b; unfold I63; omega, by show I63 c; unfold I63; omega, l1, hv⟩, (show (1 : Int) ≤ 13 by decide), (show (13 : Int) ≤ 13 by decide), l2, v2, hp⟩
 ·exact absurd hF (by simp [formB, h1, h2, h3, h4, h5, h6, h7, h8, h9, h10, h11, h12, h13])
theorem natF_nat : ∀ (f : Nat) (v acc : Nat) (pre post : List UInt8), f ≤ 8 → v * 2 ^ (7 * (8 - f)) < 9223372036854775808 → (f < 8 → v ≠ 0) →
  natF (pre ++ natE v ++ post) (f + 1) pre.length acc = (acc + v * 2 ^ (7 * (8 - f)), (pre ++ natE v).length, false) := by
 intro f
 induction f with
 | zero =>
  intro v acc pre post _ hv hz
  have h63 : (2 : Nat) ^ (7 * (8 - 0)) = 72057594037927936 := rfl
  rw [h63] at hv
  have hv2 : v < 128 := by omega
  rw [natE_lo (by omega)]
  have hc : (UInt8.ofNat v).toNat = v := by simp; omega
  unfold natF
  rw [if_neg (by simp)]
  rw [show (pre ++ [UInt8.ofNat v] ++ post).getD pre.length 0 = UInt8.ofNat v by simp, hc]
  rw [if_pos (by omega)]
  have h1 : v ≠ 0 := hz (by omega)
  simp [h1, Nat.mod_eq_of_lt (show v < 128 by omega)]
 | succ f ih =>
  intro v acc pre post hf hv hz
  by_cases hlo : v < 128
  ·rw [natE_lo hlo]
   have hc : (UInt8.ofNat v).toNat = v := by simp; omega
   unfold natF
   rw [if_neg (by simp)]
   rw [show (pre ++ [UInt8.ofNat v] ++ post).getD pre.length 0 = UInt8.ofNat v by simp, hc]
   rw [if_pos hlo, Nat.mod_eq_of_lt hlo]
   have h1 : ¬ (v = 0 ∧ f + 1 < 8) := fun q => hz q.2 q.1
   simp [h1]
  ·rw [natE_hi hlo]
   have hc : (UInt8.ofNat (v % 128 + 128)).toNat = v % 128 + 128 := by simp; omega
   have e : pre ++ UInt8.ofNat (v % 128 + 128) :: natE (v / 128) ++ post = (pre ++ [UInt8.ofNat (v % 128 + 128)]) ++ natE (v / 128) ++ post := by simp
   unfold natF
   rw [if_neg (by simp)]
   rw [show (pre ++ UInt8.ofNat (v % 128 + 128) :: natE (v / 128) ++ post).getD pre.length 0 = UInt8.ofNat (v % 128 + 128) by simp, hc]
   rw [if_neg (by omega)]
   rw [show (v % 128 + 128) % 128 = v % 128 by omega, e]
   have hs : 7 * (8 - f) = 7 * (8 - (f + 1)) + 7 := by omega
   obtain ⟨s, hs2⟩ : ∃ s, 7 * (8 - (f + 1)) = s := ⟨_, rfl⟩
   have ih2 := ih (v / 128) (acc + v % 128 * 2 ^ s) (pre ++ [UInt8.ofNat (v % 128 + 128)]) post (by omega)
   rw [hs, hs2, pow_up] at ih2
   rw [hs2] at hv ⊢
   have hm : v / 128 * (128 * 2 ^ s) + v % 128 * 2 ^ s = v * 2 ^ s := by
    rw [← Nat.mul_assoc, ← Nat.add_mul]
    congr 1
    omega
   have hl : pre.length + 1 = (pre ++ [UInt8.ofNat (v % 128 + 128)]).length := by simp
   rw [hl, ih2 (by omega) (fun _ => by omega)]
   refine Prod.ext ?_ (Prod.ext ?_ rfl)
   ·show acc + _ + _ = acc + _; omega
   ·simp
theorem natL_nat (v : Nat) (pre post : List UInt8) (h : v < 9223372036854775808) : natL (pre ++ natE v ++ post) pre.length false = (v, (pre ++ natE v).length, false) := by
 show natF _ 9 _ 0 = _
 rw [natF_nat 8 v 0 pre post (Nat.le_refl _) (by simpa using h) (fun q => absurd q (by decide))]
 simp
theorem rnatI_nat (v : Nat) (pre post : List UInt8) (h : v ≤ 4611686018427387904) : rnatI (pre ++ natE v ++ post) pre.length false = ((v : Int), (pre ++ natE v).length, false) := by
 unfold rnatI
 rw [natL_nat v pre post (by omega)]
theorem rcntL_nat (v : Nat) (pre post : List UInt8) (h : v < 9223372036854775808) (hp : v ≤ post.length) : rcntL (pre ++ natE v ++ post) pre.length false = (v, (pre ++ natE v).length, false) := by
 unfold rcntL
 rw [natL_nat v pre post h]
 rw [if_neg]
 have e : (pre ++ natE v ++ post).length - (pre ++ natE v).length = post.length := by simp; omega
 show ¬ (pre ++ natE v ++ post).length - (pre ++ natE v).length < v
 rw [e]; omega
theorem sgnU_lt3 {n : Int} (h : I63 n) : sgnU n < 9223372036854775808 := by
 unfold sgnU
 obtain ⟨h1, h2⟩ := h
 split <;> omega
theorem I63.up {n : Int} (h : I63 n) : I64 n := by
 obtain ⟨h1, h2⟩ := h
 unfold I64; omega
theorem rsigL_sgn {n : Int} (pre post : List UInt8) (h : I63 n) : rsigL (pre ++ sgnE n ++ post) pre.length false = (n, (pre ++ sgnE n).length, false) := by
 unfold rsigL sgnE
 rw [natL_nat _ pre post (sgnU_lt3 h)]
 simp only [unzig_sgn h.up]
theorem rword_go (l : List UInt8) (i : Nat) : ∀ k, i + k ≤ l.length → rwordL l i false k = (wordL l i k, i + k, false)
 | 0, _ => rfl
 | k + 1, h => by
  unfold rwordL
  rw [rword_go l i k (by omega), if_neg (show ¬ l.length ≤ i + k by omega)]
  rfl
theorem rrealL_word (u : Int) (hu : 0 ≤ u ∧ u < 18446744073709551616) (pre post : List UInt8) : rrealL (pre ++ wordE u ++ post) pre.length false = (u, (pre ++ wordE u).length, false) := by
 unfold rrealL
 rw [rword_go _ _ 8 (by simp [wordE_len])]
 show (((wordL (pre ++ wordE u ++ post) pre.length 8 : Nat) : Int), pre.length + 8, false) = _
 rw [wordL_word u hu, Int.toNat_of_nonneg hu.1]
 refine Prod.ext rfl (Prod.ext ?_ rfl)
 simp [wordE_len]
theorem rstrs_flat (l : List UInt8) : ∀ (xs : List (List UInt8)) (pre post : List UInt8), l = pre ++ xs.flatMap strE ++ post → (∀ s ∈ xs, s.length < 9223372036854775808) →
  rstrs l xs.length pre.length false = (xs, (pre ++ xs.flatMap strE).length, false) := by
 intro xs
 induction xs with
 | nil => intro pre post _ _; simp [rstrs_zero]
 | cons x xs ih =>
  intro pre post hl h
  have hx := h x List.mem_cons_self
  have e : l = pre ++ natE x.length ++ (x ++ (xs.flatMap strE ++ post)) := by rw [hl]; unfold strE; simp
  have c : rcntL l pre.length false = (x.length, (pre ++ natE x.length).length, false) := by
   rw [e]; exact rcntL_nat _ _ _ hx (by simp)
  have h2 := ih (pre ++ strE x) post (by rw [hl]; simp) (fun y hy => h y (List.mem_cons_of_mem _ hy))
  have e2 : (pre ++ natE x.length).length + x.length = (pre ++ strE x).length := by unfold strE; simp; omega
  have e3 : (l.drop (pre ++ natE x.length).length).take x.length = x := by rw [e, List.drop_left, List.take_left]
  show (if (rcntL l pre.length false).2.2 then _ else _) = _
  rw [c]
  simp only [Bool.false_eq_true, if_false, e2, e3, h2]
  refine Prod.ext rfl (Prod.ext ?_ rfl)
  simp
/-- what an instruction's fields may be, to be read back -/
structure InX (x : In) : Prop where
 i : InI3 x
 o1 : 0 ≤ x.op
 o2 : x.op ≤ 4611686018427387904
 p : ∀ n ∈ x.lv, 0 ≤ n ∧ n ≤ 4611686018427387904
 l : x.l.length < 9223372036854775808
 v : x.lv.length < 9223372036854775808
theorem insnR_insE (x : In) (h : InX x) (pre post : List UInt8) : insnR (pre ++ insE x ++ post) pre.length false = (x, (pre ++ insE x).length, false) := by
 obtain ⟨op, a, b, c, L, V⟩ := x
 have h0 := h.o1
 have h00 := h.o2
 dsimp only at h0 h00
 obtain ⟨L1, hL1⟩ : ∃ t, pre ++ insE ⟨op, a, b, c, L, V⟩ ++ post = t := ⟨_, rfl⟩
 rw [hL1]
 have e := hL1.symm
 unfold insE at e ⊢
 dsimp only at e ⊢
 have n0 : ((op.toNat : Nat) : Int) = op := Int.toNat_of_nonneg h0
 have s0 : rnatI L1 pre.length false = (op, (pre ++ natE op.toNat).length, false) := by
  rw [show L1 = pre ++ natE op.toNat ++ (sgnE a ++ sgnE b ++ sgnE c ++ sgnsE L ++ natsE V ++ post) by rw [e]; simp, rnatI_nat _ _ _ (by omega), n0]
 have s1 : rsigL L1 (pre ++ natE op.toNat).length false = (a, (pre ++ natE op.toNat ++ sgnE a).length, false) := by
  rw [show L1 = (pre ++ natE op.toNat) ++ sgnE a ++ (sgnE b ++ sgnE c ++ sgnsE L ++ natsE V ++ post) by rw [e]; simp, rsigL_sgn _ _ h.i.a]
 have s2 : rsigL L1 (pre ++ natE op.toNat ++ sgnE a).length false = (b, (pre ++ natE op.toNat ++ sgnE a ++ sgnE b).length, false) := by
  rw [show L1 = (pre ++ natE op.toNat ++ sgnE a) ++ sgnE b ++ (sgnE c ++ sgnsE L ++ natsE V ++ post) by rw [e]; simp, rsigL_sgn _ _ h.i.b]
 have s3 : rsigL L1 (pre ++ natE op.toNat ++ sgnE a ++ sgnE b).length false = (c, (pre ++ natE op.toNat ++ sgnE a ++ sgnE b ++ sgnE c).length, false) := by
  rw [show L1 = (pre ++ natE op.toNat ++ sgnE a ++ sgnE b) ++ sgnE c ++ (sgnsE L ++ natsE V ++ post) by rw [e]; simp, rsigL_sgn _ _ h.i.c]
 obtain ⟨p3, hp3⟩ : ∃ t, pre ++ natE op.toNat ++ sgnE a ++ sgnE b ++ sgnE c = t := ⟨_, rfl⟩
 rw [hp3] at s3
 have e2 : L1 = p3 ++ sgnsE L ++ natsE V ++ post := by rw [e, ← hp3]; simp
 have c1 : rcntL L1 p3.length false = (L.length, (p3 ++ natE L.length).length, false) := by
  rw [show L1 = p3 ++ natE L.length ++ (L.flatMap sgnE ++ natsE V ++ post) by rw [e2]; unfold sgnsE; simp]
  refine rcntL_nat _ _ _ h.l ?_
  have := flat_ge (c := 1) (l := L) (f := sgnE) (fun x _ => natE_pos2 _)
  simp only [List.length_append]
  omega
 have f1 : listL (rsigL L1) L.length (p3 ++ natE L.length).length false = (L, (p3 ++ natE L.length ++ L.flatMap sgnE).length, false) := by
  refine listL_flat _ sgnE L1 L (p3 ++ natE L.length) (natsE V ++ post) (by rw [e2]; unfold sgnsE; simp) (fun n hn q1 q2 hq => ?_)
  rw [hq, rsigL_sgn _ _ (h.i.l n hn)]
 obtain ⟨p4, hp4⟩ : ∃ t, p3 ++ natE L.length ++ L.flatMap sgnE = t := ⟨_, rfl⟩
 rw [hp4] at f1
 have e3 : L1 = p4 ++ natsE V ++ post := by rw [e2, ← hp4]; unfold sgnsE; simp
 have c2 : rcntL L1 p4.length false = (V.length, (p4 ++ natE V.length).length, false) := by
  rw [show L1 = p4 ++ natE V.length ++ (V.flatMap (fun n => natE n.toNat) ++ post) by rw [e3]; unfold natsE; simp]
  refine rcntL_nat _ _ _ h.v ?_
  have := flat_ge (c := 1) (l := V) (f := fun n => natE n.toNat) (fun x _ => natE_pos2 _)
  simp only [List.length_append]
  omega
 have f2 : listL (rnatI L1) V.length (p4 ++ natE V.length).length false = (V, (p4 ++ natE V.length ++ V.flatMap (fun n => natE n.toNat)).length, false) := by
  refine listL_flat _ (fun n => natE n.toNat) L1 V (p4 ++ natE V.length) post (by rw [e3]; unfold natsE; simp) (fun n hn q1 q2 hq => ?_)
  have hh := h.p n hn
  rw [hq, rnatI_nat _ _ _ (by omega), Int.toNat_of_nonneg hh.1]
 unfold insnR
 simp only [s0, s1, s2, s3, c1, f1, c2, f2]
 refine Prod.ext rfl (Prod.ext ?_ rfl)
 rw [← hp4, ← hp3]
 unfold sgnsE natsE
 simp
structure FuX (f : Fu) : Prop where
 p : 0 ≤ f.ps ∧ f.ps ≤ 4611686018427387904
 r : 0 ≤ f.rs ∧ f.rs ≤ 4611686018427387904
 c : f.code.length < 9223372036854775808
 x : ∀ x ∈ f.code, InX x
theorem rfnL_fun (f : Fu) (h : FuX f) (pre post : List UInt8) : rfnL (pre ++ funE f ++ post) pre.length false = (f, (pre ++ funE f).length, false) := by
 obtain ⟨ps, rs, code⟩ := f
 have hp := h.p
 have hr := h.r
 dsimp only at hp hr
 obtain ⟨L1, hL1⟩ : ∃ t, pre ++ funE ⟨ps, rs, code⟩ ++ post = t := ⟨_, rfl⟩
 rw [hL1]
 have e := hL1.symm
 unfold funE at e ⊢
 dsimp only at e ⊢
 have s0 : rnatI L1 pre.length false = (ps, (pre ++ natE ps.toNat).length, false) := by
  rw [show L1 = pre ++ natE ps.toNat ++ (natE rs.toNat ++ natE code.length ++ code.flatMap insE ++ post) by rw [e]; simp, rnatI_nat _ _ _ (by omega), Int.toNat_of_nonneg hp.1]
 have s1 : rnatI L1 (pre ++ natE ps.toNat).length false = (rs, (pre ++ natE ps.toNat ++ natE rs.toNat).length, false) := by
  rw [show L1 = (pre ++ natE ps.toNat) ++ natE rs.toNat ++ (natE code.length ++ code.flatMap insE ++ post) by rw [e]; simp, rnatI_nat _ _ _ (by omega), Int.toNat_of_nonneg hr.1]
 obtain ⟨p3, hp3⟩ : ∃ t, pre ++ natE ps.toNat ++ natE rs.toNat = t := ⟨_, rfl⟩
 rw [hp3] at s1
 have e2 : L1 = p3 ++ natE code.length ++ code.flatMap insE ++ post := by rw [e, ← hp3]; simp
 have c1 : rcntL L1 p3.length false = (code.length, (p3 ++ natE code.length).length, false) := by
  rw [show L1 = p3 ++ natE code.length ++ (code.flatMap insE ++ post) by rw [e2]; simp]
  refine rcntL_nat _ _ _ h.c ?_
  have := flat_ge (c := 6) (l := code) (f := insE) (fun x _ => insE_ge x)
  simp only [List.length_append]
  omega
 have f1 : listL (insnR L1) code.length (p3 ++ natE code.length).length false = (code, (p3 ++ natE code.length ++ code.flatMap insE).length, false) := by
  refine listL_flat _ insE L1 code _ post e2 (fun n hn q1 q2 hq => ?_)
  rw [hq, insnR_insE _ (h.x n hn)]
 unfold rfnL
 simp only [s0, s1, c1, f1]
 refine Prod.ext rfl (Prod.ext ?_ rfl)
 rw [← hp3]
 simp
structure PgX (P : Pg) : Prop where
 e : 0 ≤ P.en ∧ P.en ≤ 4611686018427387904
 s : P.ss.length < 9223372036854775808
 sl : ∀ s ∈ P.ss, s.length < 9223372036854775808
 u : P.us.length < 9223372036854775808
 ul : ∀ u ∈ P.us, 0 ≤ u ∧ u < 18446744073709551616
 f : P.fs.length < 9223372036854775808
 fl : ∀ f ∈ P.fs, FuX f
theorem rdecP_prog (P : Pg) (h : PgX P) : rdecP (progE P) = (P, (progE P).length, false) := by
 obtain ⟨fs, ss, us, en⟩ := P
 have he := h.e
 dsimp only at he
 obtain ⟨L1, hL1⟩ : ∃ t, progE ⟨fs, ss, us, en⟩ = t := ⟨_, rfl⟩
 rw [hL1]
 have e := hL1.symm
 unfold progE headE at e
 dsimp only at e
 have s0 : rnatI L1 0 false = (en, (natE en.toNat).length, false) := by
  have := rnatI_nat en.toNat [] (natE ss.length ++ ss.flatMap strE ++ natE us.length ++ us.flatMap wordE ++ natE fs.length ++ fs.flatMap funE) (by omega)
  rw [Int.toNat_of_nonneg he.1] at this
  rw [show L1 = [] ++ natE en.toNat ++ (natE ss.length ++ ss.flatMap strE ++ natE us.length ++ us.flatMap wordE ++ natE fs.length ++ fs.flatMap funE) by rw [e]; simp]
  exact this
 have c1 : rcntL L1 (natE en.toNat).length false = (ss.length, (natE en.toNat ++ natE ss.length).length, false) := by
  rw [show L1 = natE en.toNat ++ natE ss.length ++ (ss.flatMap strE ++ natE us.length ++ us.flatMap wordE ++ natE fs.length ++ fs.flatMap funE) by rw [e]; simp]
  refine rcntL_nat _ _ _ h.s ?_
  have := flat_ge (c := 1) (l := ss) (f := strE) (fun x _ => by unfold strE; have := natE_pos2 x.length; simp only [List.length_append]; omega)
  simp only [List.length_append]
  omega
 obtain ⟨p1, hp1⟩ : ∃ t, natE en.toNat ++ natE ss.length = t := ⟨_, rfl⟩
 rw [hp1] at c1
 have e1 : L1 = p1 ++ ss.flatMap strE ++ (natE us.length ++ us.flatMap wordE ++ natE fs.length ++ fs.flatMap funE) := by rw [e, ← hp1]; simp
 have f1 : rstrs L1 ss.length p1.length false = (ss, (p1 ++ ss.flatMap strE).length, false) := rstrs_flat L1 ss p1 _ e1 h.sl
 obtain ⟨p2, hp2⟩ : ∃ t, p1 ++ ss.flatMap strE = t := ⟨_, rfl⟩
 rw [hp2] at f1 e1
 have c2 : rcntL L1 p2.length false = (us.length, (p2 ++ natE us.length).length, false) := by
  rw [show L1 = p2 ++ natE us.length ++ (us.flatMap wordE ++ natE fs.length ++ fs.flatMap funE) by rw [e1]; simp]
  refine rcntL_nat _ _ _ h.u ?_
  have := flat_ge (c := 8) (l := us) (f := wordE) (fun x _ => by rw [wordE_len]; exact Nat.le_refl _)
  simp only [List.length_append]
  omega
 obtain ⟨p3, hp3⟩ : ∃ t, p2 ++ natE us.length = t := ⟨_, rfl⟩
 rw [hp3] at c2
 have e2 : L1 = p3 ++ us.flatMap wordE ++ (natE fs.length ++ fs.flatMap funE) := by rw [e1, ← hp3]; simp
 have f2 : listL (rrealL L1) us.length p3.length false = (us, (p3 ++ us.flatMap wordE).length, false) := by
  refine listL_flat _ wordE L1 us _ _ e2 (fun n hn q1 q2 hq => ?_)
  rw [hq, rrealL_word _ (h.ul n hn)]
 obtain ⟨p4, hp4⟩ : ∃ t, p3 ++ us.flatMap wordE = t := ⟨_, rfl⟩
 rw [hp4] at f2 e2
 have c3 : rcntL L1 p4.length false = (fs.length, (p4 ++ natE fs.length).length, false) := by
  rw [show L1 = p4 ++ natE fs.length ++ (fs.flatMap funE) by rw [e2]; simp]
  refine rcntL_nat _ _ _ h.f ?_
  have := flat_ge (c := 3) (l := fs) (f := funE) (fun x _ => funE_ge x)
  omega
 obtain ⟨p5, hp5⟩ : ∃ t, p4 ++ natE fs.length = t := ⟨_, rfl⟩
 rw [hp5] at c3
 have e3 : L1 = p5 ++ fs.flatMap funE ++ [] := by rw [e2, ← hp5]; simp
 have f3 : listL (rfnL L1) fs.length p5.length false = (fs, (p5 ++ fs.flatMap funE).length, false) := by
  refine listL_flat _ funE L1 fs _ _ e3 (fun n hn q1 q2 hq => ?_)
  rw [hq, rfnL_fun _ (h.fl n hn)]
 unfold rdecP
 simp only [s0, c1, f1, c2, f2, c3, f3]
 refine Prod.ext rfl (Prod.ext ?_ rfl)
 rw [e3]
 simp
theorem good_x {P : Pg} (h : (checkL P).2.2 = 0) (hu : ∀ u ∈ P.us, 0 ≤ u ∧ u < 18446744073709551616) : PgX P := by
 obtain ⟨h1, h2⟩ := check_good h
 obtain ⟨l1, l2, l3, l4, l5, l6⟩ := headB_len h2
 refine ⟨by omega, by omega, fun s hs => by have := l4 s hs; omega, by omega, hu, by omega, fun f hf => ?_⟩
 have g := h1 f hf
 have g1 := g.ps
 have g2 := g.le
 have g3 := g.rs
 have g4 := g.cn
 refine ⟨by omega, by omega, by omega, fun x hx => ?_⟩
 obtain ⟨k, hk⟩ := List.getElem?_of_mem hx
 have gx := g.x k x hk
 have gi := form_i3 gx g3 g4 l2 l3 (by simpa [fpL] using l1)
 have o1 := gi.o1
 have o2 := gi.o2
 have o3 := gi.l
 have o4 := gi.v
 unfold formI at gx
 rw [Bool.and_eq_true] at gx
 obtain ⟨v1, v2⟩ := live_in gx.1
 exact ⟨gi.i, by omega, by omega, fun n hn => by have := v1 n hn; omega, by omega, by omega⟩
/-- a program's bytes are that program, to the reference -/
theorem rdecode_prog {P : Pg} (h : (checkL P).2.2 = 0) (hu : ∀ u ∈ P.us, 0 ≤ u ∧ u < 18446744073709551616) (hl : (progE P).length ≤ 16777216) : rdecodeL (progE P) = (P, 0) := by
 unfold rdecodeL
 rw [rdecP_prog P (good_x h hu), if_neg (by omega), if_neg (by simp [h])]
theorem decP_us (l : List UInt8) : ∀ u ∈ (decP l).1.us, 0 ≤ u ∧ u < 18446744073709551616 :=
 listL_all (rd := realL l) (P := fun u => 0 ≤ u ∧ u < 18446744073709551616) (fun i b => by have := wordL_lt l i 8; unfold realL; dsimp only; constructor <;> omega) _ _ _
theorem rdecP_us (l : List UInt8) : ∀ u ∈ (rdecP l).1.us, 0 ≤ u ∧ u < 18446744073709551616 :=
 listL_all (rd := rrealL l) (P := fun u => 0 ≤ u ∧ u < 18446744073709551616) (fun i b => by have := rwordL_lt l i b 8; unfold rrealL; dsimp only; constructor <;> omega) _ _ _
/-- both decoders answer alike, whatever the bytes -/
theorem rdecode_eq (l : List UInt8) : rdecodeL l = decodeL l := by
 by_cases hl : 16777216 < l.length
 ·unfold rdecodeL decodeL
  rw [if_pos hl, if_pos hl]
 ·by_cases hA : (decP l).2.2 = true ∨ (decP l).2.1 ≠ l.length ∨ (checkL (decP l).1).2.2 ≠ 0
  ·by_cases hB : (rdecP l).2.2 = true ∨ (rdecP l).2.1 ≠ l.length ∨ (checkL (rdecP l).1).2.2 ≠ 0
   ·unfold rdecodeL decodeL
    rw [if_neg hl, if_neg hl, if_pos hA, if_pos hB]
   ·have h1 : (rdecP l).2.2 = false := by cases q : (rdecP l).2.2 <;> simp_all
    have h2 : (rdecP l).2.1 = l.length := Decidable.byContradiction fun q => hB (.inr (.inl q))
    have h3 : (checkL (rdecP l).1).2.2 = 0 := Decidable.byContradiction fun q => hB (.inr (.inr q))
    have e := rdecP_inv l h1 h2
    have hlen : (progE (rdecP l).1).length ≤ 16777216 := by rw [← e]; omega
    have d1 := decode_prog h3 (rdecP_us l) hlen
    have d2 := rdecode_prog h3 (rdecP_us l) hlen
    rw [← e] at d1 d2
    rw [d1, d2]
  ·have h1 : (decP l).2.2 = false := by cases q : (decP l).2.2 <;> simp_all
   have h2 : (decP l).2.1 = l.length := Decidable.byContradiction fun q => hA (.inr (.inl q))
   have h3 : (checkL (decP l).1).2.2 = 0 := Decidable.byContradiction fun q => hA (.inr (.inr q))
   have e := decP_inv l h1 h2
   have hlen : (progE (decP l).1).length ≤ 16777216 := by rw [← e]; omega
   have d1 := decode_prog h3 (decP_us l) hlen
   have d2 := rdecode_prog h3 (decP_us l) hlen
   rw [← e] at d1 d2
   rw [d1, d2]
end Go.Proofs.YtokjkligechcoaaGreatDoor
