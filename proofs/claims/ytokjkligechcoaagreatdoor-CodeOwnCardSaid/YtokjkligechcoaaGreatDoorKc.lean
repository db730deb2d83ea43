/- Plain: which registers must be known behind each instruction: passes over the code till nothing changes; both ways of doing a pass do the same. -/
import Derived.Test.YtokjkligechcoaaGreatDoorDs
import Derived.Test.YtokjkligechcoaaGreatDoorDn
set_option linter.unusedVariables false
namespace Go.Proofs.YtokjkligechcoaaGreatDoor
open _root_.Go.Lib (hid)
open Go.RowKit
section
/-! ### Passes -/
abbrev Tr := List Nat → Nat → Nat
def subN (a b : Nat) : Prop := ∀ i, a.testBit i = true → b.testBit i = true
theorem subN.refl (a : Nat) : subN a a := fun _ h => h
theorem subN.trans {a b c : Nat} (h : subN a b) (k : subN b c) : subN a c := fun i q => k i (h i q)
theorem subN.or {a b : Nat} (h : subN a b) : a ||| b = b := by
 apply Nat.eq_of_testBit_eq
 intro i
 rw [Nat.testBit_or]
 have := h i
 cases e : a.testBit i
 ·simp
 ·rw [this e]; rfl
theorem subN.and {a b : Nat} (h : subN a b) : b &&& a = a := by
 apply Nat.eq_of_testBit_eq
 intro i
 rw [Nat.testBit_and]
 have := h i
 cases e : a.testBit i
 ·simp
 ·rw [this e]; rfl
theorem subN.lt {rs a b : Nat} (h : subN a b) (hb : b < 2 ^ rs) (hn : a ≠ b) : popc rs a < popc rs b := by
 have := and_less (n := rs) (S := b) (T := a) hb (by rw [h.and]; exact hn)
 rwa [h.and] at this
def leS (a b : List Nat) : Prop := ∀ i, subN (a.getD i 0) (b.getD i 0)
theorem getD_set {l : List Nat} {k i v : Nat} (hk : k < l.length) : (l.set k v).getD i 0 = if i = k then v else l.getD i 0 := by
 simp only [List.getD_eq_getElem?_getD, List.getElem?_set]
 by_cases e : k = i
 ·subst e; simp [hk]
 ·rw [if_neg e, if_neg (fun q => e q.symm)]
theorem set_getD {l : List Nat} {k : Nat} (hk : k < l.length) : l.set k (l.getD k 0) = l := by
 apply List.ext_getElem?
 intro i
 rw [List.getElem?_set]
 by_cases e : k = i
 ·subst e; simp [hk, List.getD_eq_getElem?_getD]
 ·rw [if_neg e]
/-- what is known of a step of a pass: more in, more out; it stays small -/
structure TrOk (F : Tr) (n rs : Nat) : Prop where
 mono : ∀ a b k, leS a b → subN (F a k) (F b k)
 lt : ∀ a k, (∀ i, a.getD i 0 < 2 ^ rs) → F a k < 2 ^ rs
/-- a state on the way up -/
structure InvP (F : Tr) (n rs : Nat) (st : List Nat) : Prop where
 len : st.length = n
 lt : ∀ i, st.getD i 0 < 2 ^ rs
 up : ∀ k, k < n → subN (st.getD k 0) (F st k)
variable {F : Tr} {n rs : Nat} {st : List Nat}
theorem InvP.le (hF : TrOk F n rs) (h : InvP F n rs st) {k : Nat} (hk : k < n) : leS st (st.set k (F st k)) := by
 intro i
 rw [getD_set (by rw [h.len]; exact hk)]
 by_cases e : i = k
 ·subst e; rw [if_pos rfl]; exact h.up i hk
 ·rw [if_neg e]; exact subN.refl _
theorem InvP.step (hF : TrOk F n rs) (h : InvP F n rs st) {k : Nat} (hk : k < n) : InvP F n rs (st.set k (F st k)) := by
 have hl := h.le hF hk
 refine ⟨by rw [List.length_set]; exact h.len, fun i => ?_, fun j hj => ?_⟩
 ·rw [getD_set (by rw [h.len]; exact hk)]
  split
  ·exact hF.lt st k h.lt
  ·exact h.lt i
 ·rw [getD_set (by rw [h.len]; exact hk)]
  split
  ·rename_i e; subst e; exact hF.mono _ _ _ hl
  ·exact (h.up j hj).trans (hF.mono _ _ _ hl)
def passP (F : Tr) : Nat → List Nat → List Nat × Bool
 | 0, st => (st, false)
 | k + 1, st => ((passP F k (st.set k (F st k))).1, decide (F st k ≠ st.getD k 0) || (passP F k (st.set k (F st k))).2)
def iterP (F : Tr) (n : Nat) : Nat → List Nat → List Nat
 | 0, st => st
 | m + 1, st => iterP F n m (passP F n st).1
noncomputable def finP (F : Tr) (n : Nat) (st : List Nat) : List Nat := iterP F n (leastOf fun m => (passP F n (iterP F n m st)).2 = false) st
def sumP (rs : Nat) (st : List Nat) : Nat := sumW rs (st.map some)
theorem sumP_set {rs v k : Nat} {st : List Nat} (hk : k < st.length) : sumP rs (st.set k v) + popc rs (st.getD k 0) = sumP rs st + popc rs v := by
 have := sumW_set rs (some v) (st.map some) k (by simpa using hk)
 rw [← List.map_set] at this
 have e : (st.map some).getD k none = some (st.getD k 0) := by simp [List.getD_eq_getElem?_getD, hk]
 rw [e] at this
 exact this
theorem sumP_le {rs : Nat} (st : List Nat) : sumP rs st ≤ st.length * (rs + 1) := by
 have := sumW_le rs (st.map some)
 simpa [sumP] using this
theorem pass_inv (hF : TrOk F n rs) : ∀ k st, k ≤ n → InvP F n rs st → InvP F n rs (passP F k st).1 ∧ sumP rs st ≤ sumP rs (passP F k st).1 ∧ ((passP F k st).2 = true → sumP rs st < sumP rs (passP F k st).1) ∧ ((passP F k st).2 = false → (passP F k st).1 = st)
 | 0, st, _, h => ⟨h, Nat.le_refl _, (fun q => by cases q), fun _ => rfl⟩
 | k + 1, st, hk, h => by
  have hk2 : k < n := hk
  obtain ⟨h1, h2, h3, h4⟩ := pass_inv hF k (st.set k (F st k)) (by omega) (h.step hF hk2)
  have hs := sumP_set (rs := rs) (v := F st k) (k := k) (st := st) (by rw [h.len]; exact hk2)
  unfold passP
  dsimp only
  by_cases e : F st k = st.getD k 0
  ·have e2 : st.set k (F st k) = st := by rw [e]; exact set_getD (by rw [h.len]; exact hk2)
   rw [e2] at h1 h2 h3 h4
   rw [e2, show decide (F st k ≠ st.getD k 0) = false from decide_eq_false (fun q => q e), Bool.false_or]
   exact ⟨h1, h2, h3, h4⟩
  ·have hlt := (h.up k hk2).lt (hF.lt st k h.lt) (fun q => e q.symm)
   rw [show decide (F st k ≠ st.getD k 0) = true from decide_eq_true e, Bool.true_or]
   exact ⟨h1, by omega, fun _ => by omega, fun q => by cases q⟩
theorem iterP_add (F : Tr) (n : Nat) : ∀ a b st, iterP F n (a + b) st = iterP F n b (iterP F n a st)
 | 0, b, st => by rw [Nat.zero_add]; rfl
 | a + 1, b, st => by rw [show a + 1 + b = (a + b) + 1 by omega]; exact iterP_add F n a b _
theorem iterP_succ (F : Tr) (n a : Nat) (st : List Nat) : iterP F n (a + 1) st = (passP F n (iterP F n a st)).1 := by rw [iterP_add]; rfl
theorem iter_inv (hF : TrOk F n rs) : ∀ m st, InvP F n rs st → InvP F n rs (iterP F n m st)
 | 0, _, h => h
 | m + 1, st, h => iter_inv hF m _ (pass_inv hF n st (Nat.le_refl _) h).1
theorem iter_stay (hF : TrOk F n rs) (h : InvP F n rs st) (h0 : (passP F n st).2 = false) : ∀ m, iterP F n m st = st
 | 0 => rfl
 | m + 1 => by
  have := (pass_inv hF n st (Nat.le_refl _) h).2.2.2 h0
  unfold iterP
  rw [this]; exact iter_stay hF h h0 m
theorem fin_eq (hF : TrOk F n rs) (h : InvP F n rs st) {m : Nat} (h0 : (passP F n (iterP F n m st)).2 = false) : iterP F n m st = finP F n st := by
 have h1 := leastOf_spec (p := fun m => (passP F n (iterP F n m st)).2 = false) ⟨m, h0⟩
 have h2 := leastOf_le (p := fun m => (passP F n (iterP F n m st)).2 = false) h0
 obtain ⟨d, hd⟩ := Nat.exists_eq_add_of_le h2
 rw [hd, iterP_add, iter_stay hF (iter_inv hF _ _ h) h1]
 rfl
/-! ### The code's own pass -/
def orL (st : List Nat) (ts : List Nat) : Nat := ts.foldl (fun acc t => acc ||| st.getD t 0) 0
def clrN (S i : Nat) : Nat := (S ||| 2 ^ i) ^^^ 2 ^ i
theorem clrN_bit (S i j : Nat) : (clrN S i).testBit j = (S.testBit j && !decide (i = j)) := by
 unfold clrN
 rw [Nat.testBit_xor, Nat.testBit_or, Nat.testBit_two_pow]
 cases S.testBit j <;> by_cases e : i = j <;> simp [e]
def dropA (x : In) (S : Nat) : Nat := if setsI x.op then clrN S x.a.toNat else S
def addR (S : Nat) (L : List Int) : Nat := L.foldl (fun acc r => acc ||| 2 ^ r.toNat) S
/-- what may be read behind an instruction -/
def behK (code : List In) (st : List Nat) (k : Nat) : Nat := match code[k]? with
 | none => 0
 | some x => dropA x (orL st (toS k x))
/-- what may be read ahead of it -/
def ahdK (code : List In) (st : List Nat) (k : Nat) : Nat := match code[k]? with
 | none => 0
 | some x => addR (dropA x (orL st (toS k x))) (readsI x)
theorem orL_acc (st : List Nat) : ∀ (ts : List Nat) (a i : Nat), (ts.foldl (fun acc t => acc ||| st.getD t 0) a).testBit i = (a.testBit i || ts.any (fun t => (st.getD t 0).testBit i))
 | [], a, i => by simp
 | t :: ts, a, i => by rw [List.foldl_cons, orL_acc st ts, Nat.testBit_or, List.any_cons, Bool.or_assoc]
theorem orL_bit (st ts : List Nat) (i : Nat) : (orL st ts).testBit i = ts.any (fun t => (st.getD t 0).testBit i) := by
 unfold orL; rw [orL_acc]; simp
theorem addR_bit : ∀ (L : List Int) (S i : Nat), (addR S L).testBit i = (S.testBit i || L.any (fun r => decide (r.toNat = i)))
 | [], S, i => by simp [addR]
 | r :: L, S, i => by
  have := addR_bit L (S ||| 2 ^ r.toNat) i
  unfold addR at this ⊢
  rw [List.foldl_cons, this, Nat.testBit_or, Nat.testBit_two_pow, List.any_cons, Bool.or_assoc]
theorem dropA_bit (x : In) (S i : Nat) : (dropA x S).testBit i = (S.testBit i && !(setsI x.op && decide (x.a.toNat = i))) := by
 unfold dropA
 cases setsI x.op
 ·simp
 ·rw [if_pos rfl, clrN_bit]; simp
theorem lt_of_bits {rs S : Nat} (h : ∀ i, S.testBit i = true → i < rs) : S < 2 ^ rs := by
 apply Nat.lt_pow_two_of_testBit
 intro i hi
 cases e : S.testBit i
 ·rfl
 ·have := h i e; omega
theorem bit_lt {rs S i : Nat} (h : S < 2 ^ rs) (hb : S.testBit i = true) : i < rs := by
 apply Classical.byContradiction
 intro q
 rw [Nat.testBit_lt_two_pow (Nat.lt_of_lt_of_le h (Nat.pow_le_pow_right (by decide) (by omega)))] at hb
 cases hb
theorem orL_lt {rs : Nat} {st ts : List Nat} (h : ∀ i, st.getD i 0 < 2 ^ rs) : orL st ts < 2 ^ rs := by
 apply lt_of_bits
 intro i hi
 rw [orL_bit, List.any_eq_true] at hi
 obtain ⟨t, _, ht⟩ := hi
 exact bit_lt (h t) ht
theorem dropA_lt {rs : Nat} {x : In} {S : Nat} (h : S < 2 ^ rs) : dropA x S < 2 ^ rs := by
 apply lt_of_bits
 intro i hi
 rw [dropA_bit, Bool.and_eq_true] at hi
 exact bit_lt h hi.1
theorem addR_lt {rs S : Nat} {L : List Int} (h : S < 2 ^ rs) (hL : ∀ r ∈ L, r.toNat < rs) : addR S L < 2 ^ rs := by
 apply lt_of_bits
 intro i hi
 rw [addR_bit, Bool.or_eq_true] at hi
 rcases hi with hi | hi
 ·exact bit_lt h hi
 ·rw [List.any_eq_true] at hi
  obtain ⟨r, hr, e⟩ := hi
  rw [← of_decide_eq_true e]; exact hL r hr
theorem orL_mono {a b ts : List Nat} (h : leS a b) : subN (orL a ts) (orL b ts) := by
 intro i hi
 rw [orL_bit, List.any_eq_true] at hi ⊢
 obtain ⟨t, ht, e⟩ := hi
 exact ⟨t, ht, h t i e⟩
theorem dropA_mono {x : In} {S T : Nat} (h : subN S T) : subN (dropA x S) (dropA x T) := by
 intro i hi
 rw [dropA_bit, Bool.and_eq_true] at hi ⊢
 exact ⟨h i hi.1, hi.2⟩
theorem addR_mono {L : List Int} {S T : Nat} (h : subN S T) : subN (addR S L) (addR T L) := by
 intro i hi
 rw [addR_bit, Bool.or_eq_true] at hi ⊢
 rcases hi with hi | hi
 ·exact .inl (h i hi)
 ·exact .inr hi
/-- what is asked of the code: its registers are ones; it goes on to its instructions, or behind the last one -/
structure OkP (n rs k : Nat) (x : In) : Prop where
 go : ∀ t ∈ nextL (k : Int) x.op x.c x.l, 0 ≤ t ∧ t ≤ (n : Int)
 rd : ∀ r ∈ readsI x, 0 ≤ r ∧ r < (rs : Int)
 sa : setsI x.op = true → 0 ≤ x.a ∧ x.a < (rs : Int)
 ll : x.l.length ≤ 1000000000
 l9 : x.op = 9 → x.l = []
def OkQ (rs : Nat) (code : List In) : Prop := ∀ k x, code[k]? = some x → OkP code.length rs k x
theorem ahd_ok {rs : Nat} {code : List In} (h : OkQ rs code) : TrOk (ahdK code) code.length rs := by
 refine ⟨fun a b k hl => ?_, fun a k ha => ?_⟩
 ·unfold ahdK
  cases code[k]? with
  | none => exact subN.refl _
  | some x => exact addR_mono (dropA_mono (orL_mono hl))
 ·unfold ahdK
  cases e : code[k]? with
  | none => exact Nat.two_pow_pos _
  | some x => exact addR_lt (dropA_lt (orL_lt ha)) (fun r hr => by have := (h k x e).rd r hr; omega)
def zeroP (n : Nat) : List Nat := List.replicate n 0
theorem zeroP_get (n i : Nat) : (zeroP n).getD i 0 = 0 := by
 unfold zeroP
 simp only [List.getD_eq_getElem?_getD, List.getElem?_replicate]
 split <;> rfl
theorem zero_inv {rs : Nat} {code : List In} (h : OkQ rs code) : InvP (ahdK code) code.length rs (zeroP code.length) :=
 ⟨by simp [zeroP], fun i => by rw [zeroP_get]; exact Nat.two_pow_pos _, fun k _ i hi => by rw [zeroP_get] at hi; simp at hi⟩
/-- the registers of a set -/
def regsN (rs S : Nat) : List Int := ((List.range rs).filter fun r => S.testBit r).map Int.ofNat
noncomputable def finC (code : List In) : List Nat := finP (ahdK code) code.length (zeroP code.length)
noncomputable def rootI (rs : Nat) (code : List In) (k : Nat) (x : In) : In := if keepsI x.op x.b then { x with lv := x.lv ++ regsN rs (behK code (finC code) k) } else x
/-- code with its roots -/
noncomputable def rootsC (rs : Nat) (code : List In) : List In := code.mapIdx (rootI rs code)
end
open Fx
theorem form_okP {ns nr : Nat} {fp : List Int} {cn k : Nat} {rs : Nat} {x : In} (h : formI ns nr fp cn rs x = true) (hk : k < cn) : OkP cn rs k x := by
 obtain ⟨op, a, b, c, l, lv⟩ := x
 unfold formI at h
 rw [Bool.and_eq_true] at h
 obtain ⟨hL, hF⟩ := h
 obtain ⟨v1, v2⟩ := live_in hL
 dsimp only at hF hk v1 v2
 have hlen : ((l.length : Int) == 0) = true → l = [] := fun h => by simpa using h
 rcases op_all op with (rfl | rfl | rfl | rfl | rfl | rfl | rfl | rfl | rfl | rfl | rfl | rfl | rfl) | ⟨h1, h2, h3, h4, h5, h6, h7, h8, h9, h10, h11, h12, h13⟩
 ·replace hF : (insB a rs && rtB b && (c == 0) && ((l.length : Int) == 0)) = true := hF
  simp only [Bool.and_eq_true] at hF
  obtain ⟨⟨⟨f1, f2⟩, f3⟩, f4⟩ := hF
  cases hlen f4
  have := insB_true f1
  refine ⟨?_, ?_, fun _ => this, by simp, by simp⟩
  ·intro t ht; simp [nextL] at ht; omega
  ·intro r hr; simp [readsI] at hr
 ·replace hF : (insB a rs && insB b ns && (c == 0) && ((l.length : Int) == 0)) = true := hF
  simp only [Bool.and_eq_true] at hF
  obtain ⟨⟨⟨f1, f2⟩, f3⟩, f4⟩ := hF
  cases hlen f4
  have := insB_true f1
  refine ⟨?_, ?_, fun _ => this, by simp, by simp⟩
  ·intro t ht; simp [nextL] at ht; omega
  ·intro r hr; simp [readsI] at hr
 ·replace hF : (insB a rs && insB b nr && (c == 0) && ((l.length : Int) == 0)) = true := hF
  simp only [Bool.and_eq_true] at hF
  obtain ⟨⟨⟨f1, f2⟩, f3⟩, f4⟩ := hF
  cases hlen f4
  have := insB_true f1
  refine ⟨?_, ?_, fun _ => this, by simp, by simp⟩
  ·intro t ht; simp [nextL] at ht; omega
  ·intro r hr; simp [readsI] at hr
 ·replace hF : (insB a rs && insB b rs && (c == 0) && ((l.length : Int) == 0)) = true := hF
  simp only [Bool.and_eq_true] at hF
  obtain ⟨⟨⟨f1, f2⟩, f3⟩, f4⟩ := hF
  cases hlen f4
  have := insB_true f1
  have hb := insB_true f2
  refine ⟨?_, ?_, fun _ => this, by simp, by simp⟩
  ·intro t ht; simp [nextL] at ht; omega
  ·intro r hr; simp [readsI] at hr; subst hr <;> first | exact hb
 ·replace hF : (insB a rs && ((b == 1) || (b == 2) || (b == 4) || (b == 3)) && insB c 16777216 && ((c == 0) || (b == 3)) && regsB l rs) = true := hF
  simp only [Bool.and_eq_true] at hF
  obtain ⟨⟨⟨⟨f1, f2⟩, f3⟩, f4⟩, f5⟩ := hF
  have := insB_true f1
  obtain ⟨r1, r2⟩ := regs_in f5
  refine ⟨?_, ?_, fun _ => this, by show l.length ≤ _; omega, by intro h; exact absurd h (by simp)⟩
  ·intro t ht; simp [nextL] at ht; omega
  ·intro r hr; simp [readsI] at hr; first | exact r1 r hr
 ·replace hF : (insB a rs && insB b rs && insB c 4194305 && ((l.length : Int) == 0)) = true := hF
  simp only [Bool.and_eq_true] at hF
  obtain ⟨⟨⟨f1, f2⟩, f3⟩, f4⟩ := hF
  cases hlen f4
  have := insB_true f1
  have hb := insB_true f2
  refine ⟨?_, ?_, fun _ => this, by simp, by simp⟩
  ·intro t ht; simp [nextL] at ht; omega
  ·intro r hr; simp [readsI] at hr; subst hr <;> first | exact hb
 ·replace hF : (insB a rs && insB b rs && insB c 4194305 && ((l.length : Int) == 0)) = true := hF
  simp only [Bool.and_eq_true] at hF
  obtain ⟨⟨⟨f1, f2⟩, f3⟩, f4⟩ := hF
  cases hlen f4
  have ha := insB_true f1
  have hb := insB_true f2
  refine ⟨?_, ?_, fun _ => ha, by simp, by simp⟩
  ·intro t ht; simp [nextL] at ht; omega
  ·intro r hr; simp [readsI] at hr; (try rcases hr with rfl | rfl) <;> first | exact ha | exact hb
 ·replace hF : (insB a rs && insB b 61 && ((l.length : Int) == (prT b.toNat).2.1) && (if (prT b.toNat).2.2 = 0 then c == -1 else insB c cn) && regsB l rs) = true := hF
  simp only [Bool.and_eq_true] at hF
  obtain ⟨⟨⟨⟨f1, f2⟩, f3⟩, f4⟩, f5⟩ := hF
  have := insB_true f1
  obtain ⟨r1, r2⟩ := regs_in f5
  refine ⟨?_, ?_, fun _ => this, by show l.length ≤ _; omega, by intro h; exact absurd h (by simp)⟩
  ·intro t ht
   have hc : 0 ≤ c → c < cn := by
    split at f4
    ·have : c = -1 := by simpa using f4
     omega
    ·exact fun _ => (insB_true f4).2
   by_cases h0 : 0 ≤ c
   ·simp [nextL, h0] at ht
    have := hc h0
    omega
   ·simp [nextL, h0] at ht
    omega
  ·intro r hr; simp [readsI] at hr; first | exact r1 r hr
 ·replace hF : ((a == 0) && (b == 0) && insB c cn && ((l.length : Int) == 0)) = true := hF
  simp only [Bool.and_eq_true] at hF
  obtain ⟨⟨⟨f1, f2⟩, f3⟩, f4⟩ := hF
  cases hlen f4
  have hc := insB_true f3
  refine ⟨?_, ?_, fun h => absurd h (by simp [setsI]), by simp, by simp⟩
  ·intro t ht; simp [nextL] at ht; subst ht; omega
  ·intro r hr; simp [readsI] at hr
 ·replace hF : ((a == 0) && insB b rs && insB c cn && casesB l cn) = true := hF
  simp only [Bool.and_eq_true] at hF
  obtain ⟨⟨⟨f1, f2⟩, f3⟩, f4⟩ := hF
  have hb := insB_true f2
  have hc := insB_true f3
  obtain ⟨r1, r2⟩ := cases_in f4
  refine ⟨?_, ?_, fun h => absurd h (by simp [setsI]), by show l.length ≤ _; omega, by intro h; exact absurd h (by simp)⟩
  ·intro t ht; simp [nextL] at ht; rcases ht with rfl | ht <;> first | (have := hc; omega) | (have := r1 t ht; omega)
  ·intro r hr; simp [readsI] at hr; subst hr <;> first | exact hb
 ·replace hF : (insB a rs && (b == 0) && (c == 0) && regsB l rs) = true := hF
  simp only [Bool.and_eq_true] at hF
  obtain ⟨⟨⟨f1, f2⟩, f3⟩, f4⟩ := hF
  have ha := insB_true f1
  obtain ⟨r1, r2⟩ := regs_in f4
  refine ⟨?_, ?_, fun h => absurd h (by simp [setsI]), by show l.length ≤ _; omega, by intro h; exact absurd h (by simp)⟩
  ·intro t ht; simp [nextL] at ht
  ·intro r hr; simp [readsI] at hr; (try rcases hr with rfl | hr) <;> first | exact ha | exact r1 r hr
 ·replace hF : ((a == 0) && (c == 0) && insB b fp.length && regsB l rs && ((l.length : Int) == fp.getD b.toNat 0)) = true := hF
  simp only [Bool.and_eq_true] at hF
  obtain ⟨⟨⟨⟨f1, f2⟩, f3⟩, f4⟩, f5⟩ := hF
  obtain ⟨r1, r2⟩ := regs_in f4
  refine ⟨?_, ?_, fun h => absurd h (by simp [setsI]), by show l.length ≤ _; omega, by intro h; exact absurd h (by simp)⟩
  ·intro t ht; simp [nextL] at ht
  ·intro r hr; simp [readsI] at hr; first | exact r1 r hr
 ·replace hF : (insB a rs && ((b == 0) || (b == 1)) && (c == 0) && ((l.length : Int) == 0)) = true := hF
  simp only [Bool.and_eq_true] at hF
  obtain ⟨⟨⟨f1, f2⟩, f3⟩, f4⟩ := hF
  cases hlen f4
  have ha := insB_true f1
  refine ⟨?_, ?_, fun h => absurd h (by simp [setsI]), by simp, by simp⟩
  ·intro t ht; simp [nextL] at ht
  ·intro r hr; simp [readsI] at hr; subst hr <;> first | exact ha
 ·exact absurd hF (by simp [formB, h1, h2, h3, h4, h5, h6, h7, h8, h9, h10, h11, h12, h13])
attribute [local go_sem] ext_mk size_mk toList_mk get_mk take_drop_len take_tail_len ByteArray.mk_append_mk List.append_toArray
section
theorem wordN_clr (S i j : Nat) : wordN (clrN S i) j = if j = i / 64 then wordN S j &&& (18446744073709551615 - 2 ^ (i % 64)) else wordN S j := by
 have h : (2 : Nat) ^ (i % 64) < 2 ^ 64 := Nat.pow_lt_pow_right (by decide) (Nat.mod_lt _ (by decide))
 have e : ∀ b, b < 64 → ((18446744073709551615 - 2 ^ (i % 64)) : Nat).testBit b = !decide (i % 64 = b) := by
  intro b hb
  have q := Nat.testBit_two_pow_sub_succ h b
  rw [show (2 ^ 64 - (2 ^ (i % 64) + 1) : Nat) = 18446744073709551615 - 2 ^ (i % 64) by omega] at q
  rw [q, Nat.testBit_two_pow]; simp [hb]
 symm
 split
 ·rename_i hj
  subst hj
  refine wordN_ext (S := 0) (Nat.lt_of_le_of_lt Nat.and_le_left (wordN_lt _ _)) (fun b hb => ?_)
  rw [Nat.testBit_and, wordN_bit _ _ _ hb, e b hb, clrN_bit]
  congr 2
  rw [decide_eq_decide]; omega
 ·rename_i hj
  refine wordN_ext (S := 0) (wordN_lt _ _) (fun b hb => ?_)
  rw [wordN_bit _ _ _ hb, clrN_bit, show decide (i = 64 * j + b) = false from decide_eq_false (by omega)]; simp
theorem words_drop (n S i : Nat) (h : i / 64 < n) : (wordsOf n S).set (i / 64) ((wordN S (i / 64) &&& (18446744073709551615 - 2 ^ (i % 64)) : Nat) : Int) = wordsOf n (clrN S i) := by
 apply List.ext_getElem
 ·simp [wordsOf]
 ·intro j h1 h2
  simp only [wordsOf, List.length_set, List.length_map, List.length_range] at h1
  rw [List.getElem_set]
  simp only [wordsOf, List.getElem_map, List.getElem_range, wordN_clr]
  split
  ·subst_vars; simp
  ·rw [if_neg (by omega)]
theorem drop_bit (S i : Nat) : bits .andNot .u64 ((wordN S (i / 64) : Nat) : Int) (IntKind.u64.wrap (2 ^ (i % 64))) = ((wordN S (i / 64) &&& (18446744073709551615 - 2 ^ (i % 64)) : Nat) : Int) := by
 have h : (2 : Nat) ^ (i % 64) < 18446744073709551616 := by rw [show (18446744073709551616 : Nat) = 2 ^ 64 from rfl]; exact Nat.pow_lt_pow_right (by decide) (Nat.mod_lt _ (by decide))
 have e : IntKind.u64.wrap (2 ^ (i % 64)) = ((2 ^ (i % 64) : Nat) : Int) := by
  rw [show ((2 : Int) ^ (i % 64)) = ((2 ^ (i % 64) : Nat) : Int) by push_cast; rfl]
  obtain ⟨y, hy⟩ : ∃ y : Nat, 2 ^ (i % 64) = y := ⟨_, rfl⟩
  rw [hy] at h ⊢
  exact IntWalk.u64_in _ (by omega)
 rw [e]
 exact andn _ _ (wordN_lt _ _) h
theorem drop_any (g n S cap i : Nat) (w : World) (h : OwnAt w g cap 45 (u64s (wordsOf n S))) (hi : i / 64 < n) (hi2 : i < 1000000000) :
  Calls Tryz.prog 97 #[.slice (some ⟨g, 0, none⟩) n cap, .int .i64 (i : Int)] w fun e w' => (∃ v, e = .returned v) ∧ w' = (w.setCell ⟨g, i / 64, none⟩ (.int .u64 ((wordN S (i / 64) &&& (18446744073709551615 - 2 ^ (i % 64)) : Nat) : Int))).drew := by
 have hc : w.cell? ⟨g, i / 64, none⟩ = some (.int .u64 ((wordN S (i / 64) : Nat) : Int)) := h.cell (by simp [wordsOf, hi])
 have hf := h.frozen (i / 64)
 obtain ⟨v, hv⟩ : ∃ v : Int, ((wordN S (i / 64) : Nat) : Int) = v := ⟨_, rfl⟩
 have HB := hid (drop_bit S i)
 rw [hv] at hc HB
 have m1 : ((i : Int) / 64).toNat = i / 64 := by omega
 have m2 : (i : Int) / 64 < (n : Int) := by omega
 clear h
 go_enter Tryz.func97, Tryz.ntmps97
 go_wp2
 go_region
 go_wp2
 go_end0
 exact ⟨⟨_, rfl⟩, by rw [← HB.out]⟩
theorem drop_own {g n S cap i : Nat} {w : World} (h : OwnAt w g cap 45 (u64s (wordsOf n S))) (hi : i / 64 < n) :
  OwnAt (w.setCell ⟨g, i / 64, none⟩ (.int .u64 ((wordN S (i / 64) &&& (18446744073709551615 - 2 ^ (i % 64)) : Nat) : Int))).drew g cap 45 (u64s (wordsOf n (clrN S i))) := by
 have := (h.set (i / 64) (.int .u64 ((wordN S (i / 64) &&& (18446744073709551615 - 2 ^ (i % 64)) : Nat) : Int))).drew
 rw [← words_drop n S i hi]
 unfold u64s at this ⊢
 rwa [List.map_set]
/-- the rows of all instructions, and one behind the last -/
structure RtR (W : World) (A m n : Nat) (slots : List Value) (st : List Nat) : Prop where
 a : OwnAt W A (n + 1) 140 slots
 len : slots.length = n + 1
 sl : st.length = n
 rows : ∀ k, k ≤ n → ∃ g c, slots[k]? = some (.slice (some ⟨g, 0, none⟩) m c) ∧ A < g ∧ OwnAt W g c 45 (u64s (wordsOf m (st.getD k 0)))
variable {W V : World} {A m n : Nat} {slots : List Value} {st : List Nat}
theorem RtR.below (h : RtR W A m n slots st) (hb : Below W.heap.size W V) : RtR V A m n slots st :=
 ⟨h.a.below hb h.a.lt, h.len, h.sl, fun k hk => by obtain ⟨g, c, h1, h2, h3⟩ := h.rows k hk; exact ⟨g, c, h1, h2, h3.below hb h3.lt⟩⟩
theorem RtR.put (h : RtR W A m n slots st) {k g c S : Nat} (hk : k < n) (hg : A < g) (hs : OwnAt W g c 45 (u64s (wordsOf m S))) : RtR (W.setCell ⟨A, k, none⟩ (.slice (some ⟨g, 0, none⟩) m c)) A m n (slots.set k (.slice (some ⟨g, 0, none⟩) m c)) (st.set k S) := by
 refine ⟨h.a.set k _, by rw [List.length_set]; exact h.len, by rw [List.length_set]; exact h.sl, fun j hj => ?_⟩
 rw [getD_set (by rw [h.sl]; exact hk), List.getElem?_set]
 by_cases e : k = j
 ·subst e
  rw [if_pos rfl, if_pos (by rw [h.len]; omega), if_pos rfl]
  exact ⟨g, c, rfl, hg, hs.other _ (by show g ≠ A; omega) _⟩
 ·rw [if_neg e, if_neg (fun q => e q.symm)]
  obtain ⟨g2, c2, h1, h2, h3⟩ := h.rows j hj
  exact ⟨g2, c2, h1, h2, h3.other _ (by show g2 ≠ A; omega) _⟩
/-- words, joined up to one -/
def orW (m i S T : Nat) : List Value := (List.range m).map fun j => .int .u64 ((if j < i then wordN (S ||| T) j else wordN S j : Nat) : Int)
theorem orW_zero (m S T : Nat) : orW m 0 S T = u64s (wordsOf m S) := by
 simp [orW, wordsOf]
theorem orW_end (m S T : Nat) : orW m m S T = u64s (wordsOf m (S ||| T)) := by
 simp only [orW, wordsOf, List.map_map]
 apply List.map_congr_left
 intro j hj
 rw [List.mem_range] at hj
 simp [hj]
theorem orW_get {m i S T : Nat} (h : i < m) : (orW m i S T)[i]? = some (.int .u64 ((wordN S i : Nat) : Int)) := by simp [orW, h]
theorem orW_next {m i S T : Nat} (h : i < m) : (orW m i S T).set i (.int .u64 ((wordN S i ||| wordN T i : Nat) : Int)) = orW m (i + 1) S T := by
 apply List.ext_getElem
 ·simp [orW]
 ·intro j h1 h2
  simp only [orW, List.length_set, List.length_map, List.length_range] at h1
  rw [List.getElem_set]
  simp only [orW, List.getElem_map, List.getElem_range]
  split
  ·subst_vars; rw [if_pos (by omega), wordN_or]
  ·by_cases q : j < i
   ·rw [if_pos q, if_pos (by omega)]
   ·rw [if_neg q, if_neg (by omega)]
theorem orL_snoc (st ts : List Nat) (t : Nat) : orL st (ts ++ [t]) = orL st ts ||| st.getD t 0 := by simp [orL]
theorem fcells {W : World} {q : Nat} {u v x : Value} (h : KAt W q (.cells #[u, v, x] 48 (0, 0))) : W.cell? ⟨q, 0, none⟩ = some u ∧ W.cell? ⟨q, 1, none⟩ = some v ∧ W.cell? ⟨q, 2, none⟩ = some x := by
 refine ⟨?_, ?_, ?_⟩
 all_goals (rw [cell_of_row _ _ _ _ _ _ h.x]; rfl)
theorem pbox1 {W : World} {q : Nat} {v : Value} {T : TypeId} (h : KAt W q (.cells #[v] T (0, 0))) : W.cell? ⟨q, 0, none⟩ = some v := by
 rw [cell_of_row _ _ _ _ _ _ h.x]; rfl
theorem u64_or_words (S T j : Nat) : bits .or .u64 ((wordN S j : Nat) : Int) ((wordN T j : Nat) : Int) = ((wordN S j ||| wordN T j : Nat) : Int) := u64_or_nat _ _ (wordN_lt _ _) (wordN_lt _ _)
set_option maxHeartbeats 4000000 in
set_option maxRecDepth 8000 in
theorem wanted_any (p : Value) (F B I A m n : Nat) (ps : Int) (rs : Nat) (ca : Option Addr) (cc : Nat) (code : List In) (slots : List Value) (st : List Nat) (k : Nat) (x : In) (w : World)
  (hF : KAt w F (.cells #[.int .i64 ps, .int .i64 (rs : Int), .slice ca n cc] 48 (0, 0))) (hB : KAt w B (.cells #[p] 67 (0, 0))) (hI : KAt w I (.cells #[.slice (some ⟨A, 0, none⟩) (n + 1) (n + 1)] 139 (0, 0)))
  (hR : RtR w A m n slots st) (hC : CodeAt w ca code) (hn : code.length = n) (hx : code[k]? = some x) (hok : OkP n rs k x) (hm : wn rs = m) (hrs : rs ≤ 4096) (hcn : n ≤ 65536) :
  Calls Tryz.prog 96 #[.int .i64 (k : Int), .pointer (some ⟨F, 0, none⟩), .pointer (some ⟨B, 0, none⟩), .pointer (some ⟨I, 0, none⟩)] w fun e w' => ∃ g, e = .returned (.slice (some ⟨g, 0, none⟩) m m) ∧ w.heap.size ≤ g ∧ OwnAt w' g m 45 (u64s (wordsOf m (dropA x (orL st (toS k x))))) ∧ Below w.heap.size w w' := by
 have hkn : k < n := by rw [← hn]; exact (List.getElem?_eq_some_iff.1 hx).1
 have hml : m ≤ 64 := by rw [← hm]; unfold wn; omega
 have CNR : Hid (∀ W : World, Calls Tryz.prog 74 #[.int .i64 (rs : Int)] W fun e w' => ∃ g, e = .returned (.slice (some ⟨g, 0, none⟩) m m) ∧ W.heap.size ≤ g ∧ OwnAt w' g m 45 (u64s (wordsOf m 0)) ∧ Below W.heap.size W w') := hid (fun W => by rw [← hm]; exact newRow_any rs (by omega) W)
 have HLT : Hid (∀ i, i < rs → i / 64 < m) := hid (fun i h => by rw [← hm]; exact wn_lt h)
 obtain ⟨cb, co, rfl, hXA⟩ := code_cells hC hx
 obtain ⟨op, xa, xb, xc, l, lv⟩ := x
 obtain ⟨la, lc, va, vc, h0, h1, h2, h3, h4, h5, h6, h7⟩ := hXA
 dsimp only at h0 h1 h2 h3 h4 h5 h6 h7
 have HX := hid hok
 have HF := hid hF
 have HB := hid hB
 have HI := hid hI
 have HR := hid hR
 have HL6 := hid h6
 have HXC : Hid (∀ V, Below w.heap.size w V → (V.cell? ⟨cb, co + k * 6, none⟩ = some (.int .i64 op) ∧ V.cell? ⟨cb, co + k * 6 + 1, none⟩ = some (.int .i64 xa) ∧ V.cell? ⟨cb, co + k * 6 + 2, none⟩ = some (.int .i64 xb) ∧ V.cell? ⟨cb, co + k * 6 + 3, none⟩ = some (.int .i64 xc) ∧ V.cell? ⟨cb, co + k * 6 + 4, none⟩ = some (.slice la l.length lc) ∧ V.cell? ⟨cb, co + k * 6 + 5, none⟩ = some (.slice va lv.length vc)) ∧ V.cell? ⟨F, 1, none⟩ = some (.int .i64 (rs : Int)) ∧ V.cell? ⟨F, 2, none⟩ = some (.slice (some ⟨cb, co, none⟩) n cc) ∧ V.cell? ⟨B, 0, none⟩ = some p ∧ V.cell? ⟨I, 0, none⟩ = some (.slice (some ⟨A, 0, none⟩) (n + 1) (n + 1))) := hid (by
  intro V hb
  have hl := World.block_lt_of_cell? w _ h0
  have f := fcells (hF.below hb)
  exact ⟨⟨(hb.cell (p := ⟨cb, co + k * 6, none⟩) hl).trans h0, (hb.cell (p := ⟨cb, co + k * 6 + 1, none⟩) hl).trans h1, (hb.cell (p := ⟨cb, co + k * 6 + 2, none⟩) hl).trans h2, (hb.cell (p := ⟨cb, co + k * 6 + 3, none⟩) hl).trans h3, (hb.cell (p := ⟨cb, co + k * 6 + 4, none⟩) hl).trans h4, (hb.cell (p := ⟨cb, co + k * 6 + 5, none⟩) hl).trans h5⟩, f.2.1, f.2.2, pbox1 (hB.below hb), pbox1 (hI.below hb)⟩)
 have CNX := hid (fun W h1 => next_any p (k : Int) op xa xb xc l la va lc lv.length vc W h1 (by omega) (by omega) hok.ll hok.l9)
 have CST := hid (fun W => sets_any op xa xb xc la va l.length lc lv.length vc W)
 obtain ⟨⟨c0, c1, c2, c3, c4, c5⟩, f1, f2, bb, ii⟩ := HXC.out w (Below.refl _ _)
 have kt : ((k : Int)).toNat = k := Int.toNat_natCast k
 clear h0 h1 h2 h3 h4 h5 h6 h7 hC hx hok hF hB hI hR
 go_enter Tryz.func96, Tryz.ntmps96
 go_wp2_with (go_at_call 74; refine (CNR.out _).mono ?_; rintro e w1 ⟨G, rfl, g1, g2, g3⟩; have G1 := hid g1; have O1 := hid g2; have B1 := hid g3; clear c0 c1 c2 c3 c4 c5 f1 f2 bb ii; obtain ⟨⟨c0, c1, c2, c3, c4, c5⟩, f1, f2, bb, ii⟩ := HXC.out w1 g3; clear g1 g2 g3)
 obtain ⟨L, hL⟩ : ∃ L, nextL (k : Int) op xc l = L := ⟨_, rfl⟩
 have HT := hid (show toS k ⟨op, xa, xb, xc, l, lv⟩ = L.map Int.toNat by rw [← hL]; rfl)
 have HGO := hid (show ∀ z ∈ L, 0 ≤ z ∧ z ≤ (n : Int) by rw [← hL]; exact HX.out.go)
 rw [hL] at CNX
 have GL := hid (show G < w1.heap.size from O1.out.lt)
 clear hL
 go_upto_region 2 with (fail)
 go_cut [20, 21, 22] from 13 to 22 (fun v20 v21 v22 wx => ∃ r cap, v20 = .slice r L.length cap ∧ v21 = .int .i64 ((L.length : Nat) : Int) ∧ v22 = .int .i64 0 ∧ IntsAt .i64 wx r L ∧ Below w1.heap.size w1 wx ∧ ∀ b o, r = some ⟨b, o, none⟩ → w1.heap.size ≤ b)
 case first =>
  go_region_law (go_simp; go_at_call 80; refine (CNX.out _ (HL6.out.below (by first | exact B1.out | exact B1.out.drew))).mono ?_; rintro e w2 ⟨r, rcap, rfl, q1, q2, q4⟩; have I6 := hid q1; have B6 := hid (show Below w1.heap.size w1 w2 from by first | exact q2 | exact ((Below.refl w1.heap.size w1).drew).trans q2); have N6 := hid q4; clear q1 q2 q4)
  all_goals go_wp2_with fail
  all_goals go_meet
  all_goals exact ⟨r, rcap, rfl, rfl, rfl, I6.out, B6.out, N6.out⟩
 case rest =>
  obtain ⟨r, cap, rfl, rfl, rfl, hI, hBx, hr⟩ := hcut
  have B2 := hid (B1.out.trans (hBx.mono B1.out.size))
  have O2 := hid (O1.out.below hBx O1.out.lt)
  have I2 := hid hI
  have HRB := hid (fun b o (q : r = some ⟨b, o, none⟩) => (show b ≠ G by have := hr b o q; have := GL.out; omega))
  have hLl : (L.length : Int) ≤ 9223372036854775807 := by have := hI.1; unfold maxLen at this; omega
  clear hI hBx hr c0 c1 c2 c3 c4 c5 f1 f2 bb ii
  go_wp2_with fail
  go_loopw [22] (fun v22 wr => ∃ j : Nat, v22 = .int .i64 (j : Int) ∧ j ≤ L.length ∧ OwnAt wr G m 45 (u64s (wordsOf m (orL st ((L.take j).map Int.toNat)))) ∧ Below w.heap.size w wr ∧ IntsAt .i64 wr r L) (fun v22 _ => L.length - (intOf v22).toNat)
  case atStart => exact ⟨0, rfl, Nat.zero_le _, O2.out, B2.out, I2.out⟩
  case round =>
   clear O2 B2 I2
   obtain ⟨j, rfl, hj, hO, hBe, hI⟩ := hrel
   have O2 := hid hO
   have B2 := hid hBe
   have I2 := hid hI
   by_cases hlt : j < L.length
   ·obtain ⟨rb, ro, rfl, rc0⟩ := ints_cell hI hlt
    obtain ⟨z0, z1⟩ := HGO.out (L.getD j 0) (by simp [List.getD, hlt])
    obtain ⟨t, ht⟩ := Int.eq_ofNat_of_zero_le z0
    have HTJ := hid (show (L.take (j + 1)).map Int.toNat = (L.take j).map Int.toNat ++ [t] by
     have e : L[j] = (t : Int) := by rw [← ht]; simp [List.getD, hlt]
     rw [List.take_succ_eq_append_getElem hlt, List.map_append, List.map_singleton, e, Int.toNat_natCast])
    rw [ht] at rc0 z1
    have htn : t ≤ n := by omega
    obtain ⟨gT, cT, hs1, hs2, hs3⟩ := HR.out.rows t htn
    have HS1 := hid hs1
    have HS3 := hid hs3
    obtain ⟨S, hS⟩ : ∃ S, orL st ((L.take j).map Int.toNat) = S := ⟨_, rfl⟩
    obtain ⟨T, hT⟩ : ∃ T, st.getD t 0 = T := ⟨_, rfl⟩
    have HST := hid (show orL st ((L.take (j + 1)).map Int.toNat) = S ||| T by rw [HTJ.out, orL_snoc, hS, hT])
    have hs3' := hs3
    rw [hT] at hs3'
    have HS3 := hid hs3'
    have o2 := hO
    rw [hS] at o2
    have O2 := hid o2
    obtain ⟨⟨x0, x1, x2, x3, x4, x5⟩, y1, y2, y3, y4⟩ := HXC.out wr hBe
    clear hO hBe hI ht hs1 hs2 hs3 hs3' o2 hS hT HTJ z0 x0 x1 x2 x3 x4 x5
    go_wp2_with fail
    clear y1 y2 y3 y4 rc0
    go_loopw [28] (fun v28 wz => ∃ i : Nat, v28 = .int .i64 (i : Int) ∧ i ≤ m ∧ OwnAt wz G m 45 (orW m i S T) ∧ Below w.heap.size w wz ∧ IntsAt .i64 wz (some ⟨rb, ro, none⟩) L) (fun v28 _ => m - (intOf v28).toNat)
    case atStart => exact ⟨0, rfl, Nat.zero_le _, by rw [orW_zero]; exact O2.out, B2.out, I2.out⟩
    case round =>
     clear O2 B2 I2
     obtain ⟨i, rfl, hi, hO, hBe, hI⟩ := hrel
     have O2 := hid hO
     have B2 := hid hBe
     have I2 := hid hI
     by_cases hli : i < m
     ·obtain ⟨-, y1, y2, y3, y4⟩ := HXC.out wr hBe
      have u0 : wr.cell? ⟨G, i, none⟩ = some (.int .u64 ((wordN S i : Nat) : Int)) := hO.cell (orW_get hli)
      have u1 := hO.frozen i
      have u2 := ((HR.out.a.below hBe HR.out.a.lt)).cell HS1.out
      have u3 : wr.cell? ⟨gT, i, none⟩ = some (.int .u64 ((wordN T i : Nat) : Int)) := (HS3.out.below hBe HS3.out.lt).cell (by simp [wordsOf, hli])
      have hmn : min (t : Int) (n : Int) = (t : Int) := by omega
      have tt : ((t : Int)).toNat = t := Int.toNat_natCast t
      have it : ((i : Int)).toNat = i := Int.toNat_natCast i
      obtain ⟨sw, hsw⟩ : ∃ s : Int, ((wordN S i : Nat) : Int) = s := ⟨_, rfl⟩
      obtain ⟨tw, htw⟩ : ∃ s : Int, ((wordN T i : Nat) : Int) = s := ⟨_, rfl⟩
      have HOR := hid (u64_or_words S T i)
      rw [hsw] at u0 HOR
      rw [htw] at u3 HOR
      have htn1 : t < n + 1 := by omega
      clear hO hBe hI hsw htw
      go_wp2_with fail
      go_region
      go_wp2_with fail
      go_roundw
      case rel => exact ⟨i + 1, by go_num, hli, by
       have q := O2.out.set i (.int .u64 (bits .or .u64 sw tw))
       rw [HOR.out, orW_next hli] at q
       rw [HOR.out]; exact q.drew, (B2.out.setCell (p := ⟨G, i, none⟩) G1.out _).drew, (ints_other2 I2.out (grown_set _ G i _) (fun b o q => by cases q; exact HRB.out _ _ rfl)).below (Below.refl _ _).drew⟩
      case measure => simp only [intOf]; omega
     ·obtain rfl : i = m := by omega
      rw [orW_end] at hO
      have O2 := hid hO
      clear hO hBe hI
      go_wp2_with fail
      go_roundw
      case rel => exact ⟨j + 1, by go_num, hlt, by rw [HST.out]; exact O2.out, B2.out, I2.out⟩
      case measure => simp [intOf]; omega
   ·obtain rfl : j = L.length := by omega
    rw [List.take_length, ← HT.out] at hO
    have O2 := hid hO
    obtain ⟨⟨x0, x1, x2, x3, x4, x5⟩, y1, y2, y3, y4⟩ := HXC.out wr hBe
    clear hO hBe hI
    cases hs : setsI op
    ·rw [hs] at CST
     go_wp2_with (go_at_call 79; refine (CST.out _).mono ?_; rintro e w4 ⟨rfl, hb⟩; have B4 := hid (B2.out.trans (hb.mono B2.out.size)); have O4 := hid (O2.out.below hb O2.out.lt); clear hb)
     go_ret
     exact ⟨G, rfl, G1.out, by unfold dropA; rw [hs]; exact O4.out, B4.out⟩
    ·rw [hs] at CST
     obtain ⟨za, zb⟩ := HX.out.sa hs
     dsimp only at za zb
     obtain ⟨aa, haa⟩ := Int.eq_ofNat_of_zero_le za
     have HAA := hid haa
     rw [haa] at zb
     have ha2 : aa / 64 < m := HLT.out aa (by omega)
     have ha3 : aa < 1000000000 := by omega
     have CDR := hid (fun W S h => drop_any G m S m aa W h ha2 ha3)
     clear zb haa
     go_wp2_with (first
      | (go_at_call 79; refine (CST.out _).mono ?_; rintro e w4 ⟨rfl, hb⟩; have B4 := hid (B2.out.trans (hb.mono B2.out.size)); have O4 := hid (O2.out.below hb O2.out.lt); clear hb x0 x1 x2 x3 x4 x5 y1 y2 y3 y4; obtain ⟨⟨x0, x1, x2, x3, x4, x5⟩, y1, y2, y3, y4⟩ := HXC.out _ B4.out; rw [HAA.out] at x1)
      | (go_at_call 97; refine (CDR.out _ _ O4.out).mono ?_; rintro e w5 ⟨⟨v, rfl⟩, rfl⟩; have O5 := hid (drop_own O4.out ha2); have B5 := hid ((B4.out.setCell (p := ⟨G, aa / 64, none⟩) G1.out (.int .u64 ((wordN (orL st (toS k ⟨op, xa, xb, xc, l, lv⟩)) (aa / 64) &&& (18446744073709551615 - 2 ^ (aa % 64)) : Nat) : Int))).drew);))
     go_ret
     refine ⟨G, rfl, G1.out, ?_, B5.out⟩
     unfold dropA
     rw [hs, if_pos rfl]
     dsimp only
     rw [HAA.out, Int.toNat_natCast]
     exact O5.out
end
end Go.Proofs.YtokjkligechcoaaGreatDoor
