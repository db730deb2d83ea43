/- What a program is written as is read as that program (plain lists). -/
import Derived.Test.YtgbgahdeopedpaaGj
import Derived.Test.YtgbgahdeopedpaaEf
import Derived.Test.YtgbgahdeopedpaaGm
import Derived.Laws.AppendOwnNone
import Derived.Test.YtgbgahdeopedpaaEk
namespace Go.Proofs.Ytgbgahdeopedpaa
open Go.RowKit
set_option linter.unusedVariables false

theorem pow_up (s : Nat) : 2 ^ (s + 7) = 128 * 2 ^ s := by rw [Nat.pow_add, Nat.mul_comm]

theorem plainF_nat : ∀ (f : Nat) (v acc : Nat) (pre post : List UInt8), f ≤ 9 → v * 2 ^ (7 * (9 - f)) < 18446744073709551616 → (f < 9 → v ≠ 0) →
    plainF (pre ++ natE v ++ post) (f + 1) pre.length acc = (acc + v * 2 ^ (7 * (9 - f)), (pre ++ natE v).length, false) := by
  intro f
  induction f with
  | zero =>
    intro v acc pre post _ hv hz
    have h63 : (2 : Nat) ^ (7 * (9 - 0)) = 9223372036854775808 := rfl
    rw [h63] at hv
    have hv2 : v < 2 := by omega
    rw [natE_lo (by omega)]
    have hc : (UInt8.ofNat v).toNat = v := by simp; omega
    unfold plainF
    rw [if_neg (by simp)]
    rw [show (pre ++ [UInt8.ofNat v] ++ post).getD pre.length 0 = UInt8.ofNat v by simp, hc]
    rw [if_neg (by omega), if_pos (by omega)]
    have h1 : v ≠ 0 := hz (by omega)
    simp [h1, Nat.mod_eq_of_lt (show v < 128 by omega)]
  | succ f ih =>
    intro v acc pre post hf hv hz
    by_cases hlo : v < 128
    · rw [natE_lo hlo]
      have hc : (UInt8.ofNat v).toNat = v := by simp; omega
      unfold plainF
      rw [if_neg (by simp)]
      rw [show (pre ++ [UInt8.ofNat v] ++ post).getD pre.length 0 = UInt8.ofNat v by simp, hc]
      rw [if_neg (by omega), if_pos hlo, Nat.mod_eq_of_lt hlo]
      have h1 : ¬ (v = 0 ∧ f + 1 < 9) := fun q => hz q.2 q.1
      simp [h1]
    · rw [natE_hi hlo]
      have hc : (UInt8.ofNat (v % 128 + 128)).toNat = v % 128 + 128 := by simp; omega
      have e : pre ++ UInt8.ofNat (v % 128 + 128) :: natE (v / 128) ++ post = (pre ++ [UInt8.ofNat (v % 128 + 128)]) ++ natE (v / 128) ++ post := by simp
      unfold plainF
      rw [if_neg (by simp)]
      rw [show (pre ++ UInt8.ofNat (v % 128 + 128) :: natE (v / 128) ++ post).getD pre.length 0 = UInt8.ofNat (v % 128 + 128) by simp, hc]
      rw [if_neg (by omega), if_neg (by omega)]
      rw [show (v % 128 + 128) % 128 = v % 128 by omega, e]
      have hs : 7 * (9 - f) = 7 * (9 - (f + 1)) + 7 := by omega
      obtain ⟨s, hs2⟩ : ∃ s, 7 * (9 - (f + 1)) = s := ⟨_, rfl⟩
      have ih2 := ih (v / 128) (acc + v % 128 * 2 ^ s) (pre ++ [UInt8.ofNat (v % 128 + 128)]) post (by omega)
      rw [hs, hs2, pow_up] at ih2
      rw [hs2] at hv ⊢
      have hm : v / 128 * (128 * 2 ^ s) + v % 128 * 2 ^ s = v * 2 ^ s := by
        rw [← Nat.mul_assoc, ← Nat.add_mul]
        congr 1
        omega
      have hl : pre.length + 1 = (pre ++ [UInt8.ofNat (v % 128 + 128)]).length := by simp
      rw [hl, ih2 (by omega) (fun _ => by omega)]
      refine Prod.ext ?_ (Prod.ext ?_ rfl)
      · show acc + _ + _ = acc + _; omega
      · simp

theorem plainL_nat (v : Nat) (pre post : List UInt8) (h : v < 18446744073709551616) : plainL (pre ++ natE v ++ post) pre.length = (v, (pre ++ natE v).length, false) := by
  unfold plainL
  rw [plainF_nat 9 v 0 pre post (Nat.le_refl _) (by simpa using h) (fun q => absurd q (by decide))]
  simp

theorem smallI_nat (v : Nat) (pre post : List UInt8) (h : v ≤ 4611686018427387904) : smallI (pre ++ natE v ++ post) pre.length false = ((v : Int), (pre ++ natE v).length, false) := by
  unfold smallI smallL
  rw [plainL_nat v pre post (by omega), if_neg (by show ¬ _ < v; omega)]
  rfl

theorem countL_nat (v d : Nat) (pre post : List UInt8) (h : v < 18446744073709551616) (hp : v ≤ post.length / d) : countL (pre ++ natE v ++ post) d pre.length false = (v, (pre ++ natE v).length, false) := by
  unfold countL
  rw [plainL_nat v pre post h]
  rw [if_neg]
  rintro (q | q)
  · cases q
  · have e : (pre ++ natE v ++ post).length - (pre ++ natE v).length = post.length := by simp; omega
    simp only [e] at q
    omega

theorem unzig_sgn {n : Int} (h : I64 n) : unzig (sgnU n) = n := by
  unfold unzig sgnU
  obtain ⟨h1, h2⟩ := h
  split <;> split <;> omega

theorem signedL_sgn {n : Int} (pre post : List UInt8) (h : I64 n) : signedL (pre ++ sgnE n ++ post) pre.length false = (n, (pre ++ sgnE n).length, false) := by
  unfold signedL sgnE
  rw [plainL_nat _ pre post (sgnU_lt h.1 h.2)]
  simp only [unzig_sgn h]
  rfl

/-- things read one behind the other -/
theorem listL_flat {α : Type} (rd : Nat → Bool → α × Nat × Bool) (enc : α → List UInt8) (l : List UInt8) : ∀ (xs : List α) (pre post : List UInt8), l = pre ++ xs.flatMap enc ++ post →
    (∀ x ∈ xs, ∀ pre post, l = pre ++ enc x ++ post → rd pre.length false = (x, (pre ++ enc x).length, false)) → listL rd xs.length pre.length false = (xs, (pre ++ xs.flatMap enc).length, false) := by
  intro xs
  induction xs with
  | nil => intro pre post _ _; simp [listL_zero]
  | cons x xs ih =>
    intro pre post hl h
    have h1 := h x (List.mem_cons_self) pre (xs.flatMap enc ++ post) (by rw [hl]; simp)
    have h2 := ih (pre ++ enc x) post (by rw [hl]; simp) (fun y hy => h y (List.mem_cons_of_mem _ hy))
    rw [List.length_cons, listL_succ, h1]
    simp only [h2]
    refine Prod.ext rfl (Prod.ext ?_ rfl)
    simp

theorem natE_pos2 (n : Nat) : 1 ≤ (natE n).length := natE_pos n

theorem flat_ge {α : Type} {f : α → List UInt8} {c : Nat} : ∀ {l : List α}, (∀ x ∈ l, c ≤ (f x).length) → l.length * c ≤ (l.flatMap f).length := by
  intro l
  induction l with
  | nil => intro _; simp
  | cons x l ih =>
    intro h
    have h1 := h x (List.mem_cons_self)
    have h2 := ih (fun y hy => h y (List.mem_cons_of_mem _ hy))
    simp only [List.flatMap_cons, List.length_append, List.length_cons]
    rw [Nat.add_mul]
    omega

theorem le_div {n d m : Nat} (hd : 0 < d) (h : n * d ≤ m) : n ≤ m / d := (Nat.le_div_iff_mul_le hd).2 h

/-- what an instruction's fields may be, to be read back -/
structure InW (x : In) : Prop where
  i : InI x
  o1 : 0 ≤ x.op
  o2 : x.op ≤ 4611686018427387904
  p : ∀ n ∈ x.lv, 0 ≤ n ∧ n ≤ 4611686018427387904
  l : x.l.length < 18446744073709551616
  v : x.lv.length < 18446744073709551616

theorem insnL_insE (x : In) (h : InW x) (pre post : List UInt8) : insnL (pre ++ insE x ++ post) pre.length false = (x, (pre ++ insE x).length, false) := by
  obtain ⟨op, a, b, c, L, V⟩ := x
  have h0 := h.o1
  have h00 := h.o2
  dsimp only at h0 h00
  obtain ⟨L1, hL1⟩ : ∃ t, pre ++ insE ⟨op, a, b, c, L, V⟩ ++ post = t := ⟨_, rfl⟩
  rw [hL1]
  have e := hL1.symm
  unfold insE at e ⊢
  dsimp only at e ⊢
  have n0 : ((op.toNat : Nat) : Int) = op := Int.toNat_of_nonneg h0
  have s0 : smallI L1 pre.length false = (op, (pre ++ natE op.toNat).length, false) := by
    rw [show L1 = pre ++ natE op.toNat ++ (sgnE a ++ sgnE b ++ sgnE c ++ sgnsE L ++ natsE V ++ post) by rw [e]; simp, smallI_nat _ _ _ (by omega), n0]
  have s1 : signedL L1 (pre ++ natE op.toNat).length false = (a, (pre ++ natE op.toNat ++ sgnE a).length, false) := by
    rw [show L1 = (pre ++ natE op.toNat) ++ sgnE a ++ (sgnE b ++ sgnE c ++ sgnsE L ++ natsE V ++ post) by rw [e]; simp, signedL_sgn _ _ h.i.a]
  have s2 : signedL L1 (pre ++ natE op.toNat ++ sgnE a).length false = (b, (pre ++ natE op.toNat ++ sgnE a ++ sgnE b).length, false) := by
    rw [show L1 = (pre ++ natE op.toNat ++ sgnE a) ++ sgnE b ++ (sgnE c ++ sgnsE L ++ natsE V ++ post) by rw [e]; simp, signedL_sgn _ _ h.i.b]
  have s3 : signedL L1 (pre ++ natE op.toNat ++ sgnE a ++ sgnE b).length false = (c, (pre ++ natE op.toNat ++ sgnE a ++ sgnE b ++ sgnE c).length, false) := by
    rw [show L1 = (pre ++ natE op.toNat ++ sgnE a ++ sgnE b) ++ sgnE c ++ (sgnsE L ++ natsE V ++ post) by rw [e]; simp, signedL_sgn _ _ h.i.c]
  obtain ⟨p3, hp3⟩ : ∃ t, pre ++ natE op.toNat ++ sgnE a ++ sgnE b ++ sgnE c = t := ⟨_, rfl⟩
  rw [hp3] at s3
  have e2 : L1 = p3 ++ sgnsE L ++ natsE V ++ post := by rw [e, ← hp3]; simp
  have c1 : countL L1 1 p3.length false = (L.length, (p3 ++ natE L.length).length, false) := by
    rw [show L1 = p3 ++ natE L.length ++ (L.flatMap sgnE ++ natsE V ++ post) by rw [e2]; unfold sgnsE; simp]
    refine countL_nat _ _ _ _ h.l (le_div (by decide) ?_)
    have := flat_ge (c := 1) (l := L) (f := sgnE) (fun x _ => natE_pos2 _)
    simp only [List.length_append]
    omega
  have f1 : listL (signedL L1) L.length (p3 ++ natE L.length).length false = (L, (p3 ++ natE L.length ++ L.flatMap sgnE).length, false) := by
    refine listL_flat _ sgnE L1 L (p3 ++ natE L.length) (natsE V ++ post) (by rw [e2]; unfold sgnsE; simp) (fun n hn q1 q2 hq => ?_)
    rw [hq, signedL_sgn _ _ (h.i.l n hn)]
  obtain ⟨p4, hp4⟩ : ∃ t, p3 ++ natE L.length ++ L.flatMap sgnE = t := ⟨_, rfl⟩
  rw [hp4] at f1
  have e3 : L1 = p4 ++ natsE V ++ post := by rw [e2, ← hp4]; unfold sgnsE; simp
  have c2 : countL L1 1 p4.length false = (V.length, (p4 ++ natE V.length).length, false) := by
    rw [show L1 = p4 ++ natE V.length ++ (V.flatMap (fun n => natE n.toNat) ++ post) by rw [e3]; unfold natsE; simp]
    refine countL_nat _ _ _ _ h.v (le_div (by decide) ?_)
    have := flat_ge (c := 1) (l := V) (f := fun n => natE n.toNat) (fun x _ => natE_pos2 _)
    simp only [List.length_append]
    omega
  have f2 : listL (smallI L1) V.length (p4 ++ natE V.length).length false = (V, (p4 ++ natE V.length ++ V.flatMap (fun n => natE n.toNat)).length, false) := by
    refine listL_flat _ (fun n => natE n.toNat) L1 V (p4 ++ natE V.length) post (by rw [e3]; unfold natsE; simp) (fun n hn q1 q2 hq => ?_)
    have hh := h.p n hn
    rw [hq, smallI_nat _ _ _ (by omega), Int.toNat_of_nonneg hh.1]
  unfold insnL
  simp only [s0, s1, s2, s3, c1, f1, c2, f2]
  refine Prod.ext rfl (Prod.ext ?_ rfl)
  rw [← hp4, ← hp3]
  unfold sgnsE natsE
  simp

theorem wordL_word (u : Int) (hu : 0 ≤ u ∧ u < 18446744073709551616) (pre post : List UInt8) : wordL (pre ++ wordE u ++ post) pre.length 8 = u.toNat := by
  obtain ⟨v, rfl⟩ := Int.eq_ofNat_of_zero_le hu.1
  have hv : v < 18446744073709551616 := by omega
  rw [Int.toNat_natCast]
  have hg : ∀ k, k < 8 → ((pre ++ wordE (v : Int) ++ post).getD (pre.length + k) 0).toNat = v / 2 ^ (8 * k) % 256 := by
    intro k hk
    simp only [List.getD_eq_getElem?_getD]
    rw [List.append_assoc, List.getElem?_append_right (by omega), Nat.add_sub_cancel_left, List.getElem?_append_left (by rw [wordE_len]; exact hk)]
    unfold wordE
    rw [List.getElem?_map, List.getElem?_range hk]
    simp
  have hs : ∀ k, k ≤ 8 → wordL (pre ++ wordE (v : Int) ++ post) pre.length k = v % 2 ^ (8 * k) := by
    intro k
    induction k with
    | zero => intro _; show 0 = v % 1; omega
    | succ k ih =>
      intro hk
      show wordL _ _ k + _ * 2 ^ (8 * k) = _
      rw [ih (by omega), hg k (by omega), show 8 * (k + 1) = 8 * k + 8 by omega, Nat.pow_add, Nat.mod_mul, Nat.mul_comm (v / 2 ^ (8 * k) % 256)]
  rw [hs 8 (Nat.le_refl _)]
  exact Nat.mod_eq_of_lt (by simpa using hv)

theorem realL_word (u : Int) (hu : 0 ≤ u ∧ u < 18446744073709551616) (pre post : List UInt8) : realL (pre ++ wordE u ++ post) pre.length false = (u, (pre ++ wordE u).length, false) := by
  unfold realL
  rw [wordL_word u hu, Int.toNat_of_nonneg hu.1]
  refine Prod.ext rfl (Prod.ext ?_ rfl)
  simp [wordE_len]

theorem strL_str (s : List UInt8) (hs : s.length < 18446744073709551616) (pre post : List UInt8) : strL (pre ++ strE s ++ post) pre.length false = (s, (pre ++ strE s).length, false) := by
  unfold strL strE
  have c : countL (pre ++ (natE s.length ++ s) ++ post) 1 pre.length false = (s.length, (pre ++ natE s.length).length, false) := by
    rw [show pre ++ (natE s.length ++ s) ++ post = pre ++ natE s.length ++ (s ++ post) by simp]
    exact countL_nat _ _ _ _ hs (le_div (by decide) (by simp))
  rw [c]
  refine Prod.ext ?_ (Prod.ext ?_ rfl)
  · show ((pre ++ (natE s.length ++ s) ++ post).drop (pre ++ natE s.length).length).take s.length = s
    rw [show pre ++ (natE s.length ++ s) ++ post = (pre ++ natE s.length) ++ (s ++ post) by simp, List.drop_left, List.take_left]
  · show (pre ++ natE s.length).length + s.length = _
    simp; omega

structure FuW (f : Fu) : Prop where
  p : 0 ≤ f.ps ∧ f.ps ≤ 4611686018427387904
  r : 0 ≤ f.rs ∧ f.rs ≤ 4611686018427387904
  c : f.code.length < 18446744073709551616
  x : ∀ x ∈ f.code, InW x

theorem insE_ge (x : In) : 6 ≤ (insE x).length := by
  unfold insE sgnsE natsE sgnE
  have h1 := natE_pos2 x.op.toNat
  have h2 := natE_pos2 (sgnU x.a)
  have h3 := natE_pos2 (sgnU x.b)
  have h4 := natE_pos2 (sgnU x.c)
  have h5 := natE_pos2 x.l.length
  have h6 := natE_pos2 x.lv.length
  simp only [List.length_append]
  omega

theorem funE_ge (f : Fu) : 3 ≤ (funE f).length := by
  unfold funE
  have h1 := natE_pos2 f.ps.toNat
  have h2 := natE_pos2 f.rs.toNat
  have h3 := natE_pos2 f.code.length
  simp only [List.length_append]
  omega

theorem fnL_fun (f : Fu) (h : FuW f) (pre post : List UInt8) : fnL (pre ++ funE f ++ post) pre.length false = (f, (pre ++ funE f).length, false) := by
  obtain ⟨ps, rs, code⟩ := f
  have hp := h.p
  have hr := h.r
  dsimp only at hp hr
  obtain ⟨L1, hL1⟩ : ∃ t, pre ++ funE ⟨ps, rs, code⟩ ++ post = t := ⟨_, rfl⟩
  rw [hL1]
  have e := hL1.symm
  unfold funE at e ⊢
  dsimp only at e ⊢
  have s0 : smallI L1 pre.length false = (ps, (pre ++ natE ps.toNat).length, false) := by
    rw [show L1 = pre ++ natE ps.toNat ++ (natE rs.toNat ++ natE code.length ++ code.flatMap insE ++ post) by rw [e]; simp, smallI_nat _ _ _ (by omega), Int.toNat_of_nonneg hp.1]
  have s1 : smallI L1 (pre ++ natE ps.toNat).length false = (rs, (pre ++ natE ps.toNat ++ natE rs.toNat).length, false) := by
    rw [show L1 = (pre ++ natE ps.toNat) ++ natE rs.toNat ++ (natE code.length ++ code.flatMap insE ++ post) by rw [e]; simp, smallI_nat _ _ _ (by omega), Int.toNat_of_nonneg hr.1]
  obtain ⟨p3, hp3⟩ : ∃ t, pre ++ natE ps.toNat ++ natE rs.toNat = t := ⟨_, rfl⟩
  rw [hp3] at s1
  have e2 : L1 = p3 ++ natE code.length ++ code.flatMap insE ++ post := by rw [e, ← hp3]; simp
  have c1 : countL L1 6 p3.length false = (code.length, (p3 ++ natE code.length).length, false) := by
    rw [show L1 = p3 ++ natE code.length ++ (code.flatMap insE ++ post) by rw [e2]; simp]
    refine countL_nat _ _ _ _ h.c (le_div (by decide) ?_)
    have := flat_ge (c := 6) (l := code) (f := insE) (fun x _ => insE_ge x)
    simp only [List.length_append]
    omega
  have f1 : listL (insnL L1) code.length (p3 ++ natE code.length).length false = (code, (p3 ++ natE code.length ++ code.flatMap insE).length, false) := by
    refine listL_flat _ insE L1 code _ post e2 (fun n hn q1 q2 hq => ?_)
    rw [hq, insnL_insE _ (h.x n hn)]
  unfold fnL
  simp only [s0, s1, c1, f1]
  refine Prod.ext rfl (Prod.ext ?_ rfl)
  rw [← hp3]
  simp

structure PgW (P : Pg) : Prop where
  e : 0 ≤ P.en ∧ P.en ≤ 4611686018427387904
  s : P.ss.length < 18446744073709551616
  sl : ∀ s ∈ P.ss, s.length < 18446744073709551616
  u : P.us.length < 18446744073709551616
  ul : ∀ u ∈ P.us, 0 ≤ u ∧ u < 18446744073709551616
  f : P.fs.length < 18446744073709551616
  fl : ∀ f ∈ P.fs, FuW f

theorem decP_prog (P : Pg) (h : PgW P) : decP (progE P) = (P, (progE P).length, false) := by
  obtain ⟨fs, ss, us, en⟩ := P
  have he := h.e
  dsimp only at he
  obtain ⟨L1, hL1⟩ : ∃ t, progE ⟨fs, ss, us, en⟩ = t := ⟨_, rfl⟩
  rw [hL1]
  have e := hL1.symm
  unfold progE headE at e
  dsimp only at e
  have s0 : smallI L1 0 false = (en, (natE en.toNat).length, false) := by
    have := smallI_nat en.toNat [] (natE ss.length ++ ss.flatMap strE ++ natE us.length ++ us.flatMap wordE ++ natE fs.length ++ fs.flatMap funE) (by omega)
    rw [Int.toNat_of_nonneg he.1] at this
    rw [show L1 = [] ++ natE en.toNat ++ (natE ss.length ++ ss.flatMap strE ++ natE us.length ++ us.flatMap wordE ++ natE fs.length ++ fs.flatMap funE) by rw [e]; simp]
    exact this
  have c1 : countL L1 1 (natE en.toNat).length false = (ss.length, (natE en.toNat ++ natE ss.length).length, false) := by
    rw [show L1 = natE en.toNat ++ natE ss.length ++ (ss.flatMap strE ++ natE us.length ++ us.flatMap wordE ++ natE fs.length ++ fs.flatMap funE) by rw [e]; simp]
    refine countL_nat _ _ _ _ h.s (le_div (by decide) ?_)
    have := flat_ge (c := 1) (l := ss) (f := strE) (fun x _ => by unfold strE; have := natE_pos2 x.length; simp only [List.length_append]; omega)
    simp only [List.length_append]
    omega
  obtain ⟨p1, hp1⟩ : ∃ t, natE en.toNat ++ natE ss.length = t := ⟨_, rfl⟩
  rw [hp1] at c1
  have e1 : L1 = p1 ++ ss.flatMap strE ++ (natE us.length ++ us.flatMap wordE ++ natE fs.length ++ fs.flatMap funE) := by rw [e, ← hp1]; simp
  have f1 : listL (strL L1) ss.length p1.length false = (ss, (p1 ++ ss.flatMap strE).length, false) := by
    refine listL_flat _ strE L1 ss _ _ e1 (fun n hn q1 q2 hq => ?_)
    rw [hq, strL_str _ (h.sl n hn)]
  obtain ⟨p2, hp2⟩ : ∃ t, p1 ++ ss.flatMap strE = t := ⟨_, rfl⟩
  rw [hp2] at f1 e1
  have c2 : countL L1 8 p2.length false = (us.length, (p2 ++ natE us.length).length, false) := by
    rw [show L1 = p2 ++ natE us.length ++ (us.flatMap wordE ++ natE fs.length ++ fs.flatMap funE) by rw [e1]; simp]
    refine countL_nat _ _ _ _ h.u (le_div (by decide) ?_)
    have := flat_ge (c := 8) (l := us) (f := wordE) (fun x _ => by rw [wordE_len]; exact Nat.le_refl _)
    simp only [List.length_append]
    omega
  obtain ⟨p3, hp3⟩ : ∃ t, p2 ++ natE us.length = t := ⟨_, rfl⟩
  rw [hp3] at c2
  have e2 : L1 = p3 ++ us.flatMap wordE ++ (natE fs.length ++ fs.flatMap funE) := by rw [e1, ← hp3]; simp
  have f2 : listL (realL L1) us.length p3.length false = (us, (p3 ++ us.flatMap wordE).length, false) := by
    refine listL_flat _ wordE L1 us _ _ e2 (fun n hn q1 q2 hq => ?_)
    rw [hq, realL_word _ (h.ul n hn)]
  obtain ⟨p4, hp4⟩ : ∃ t, p3 ++ us.flatMap wordE = t := ⟨_, rfl⟩
  rw [hp4] at f2 e2
  have c3 : countL L1 3 p4.length false = (fs.length, (p4 ++ natE fs.length).length, false) := by
    rw [show L1 = p4 ++ natE fs.length ++ (fs.flatMap funE) by rw [e2]; simp]
    refine countL_nat _ _ _ _ h.f (le_div (by decide) ?_)
    exact flat_ge (c := 3) (l := fs) (f := funE) (fun x _ => funE_ge x)
  obtain ⟨p5, hp5⟩ : ∃ t, p4 ++ natE fs.length = t := ⟨_, rfl⟩
  rw [hp5] at c3
  have e3 : L1 = p5 ++ fs.flatMap funE ++ [] := by rw [e2, ← hp5]; simp
  have f3 : listL (fnL L1) fs.length p5.length false = (fs, (p5 ++ fs.flatMap funE).length, false) := by
    refine listL_flat _ funE L1 fs _ _ e3 (fun n hn q1 q2 hq => ?_)
    rw [hq, fnL_fun _ (h.fl n hn)]
  unfold decP
  simp only [s0, c1, f1, c2, f2, c3, f3]
  refine Prod.ext rfl (Prod.ext ?_ rfl)
  rw [e3]
  simp

theorem good_w {P : Pg} (h : (checkL P).2.2 = 0) (hu : ∀ u ∈ P.us, 0 ≤ u ∧ u < 18446744073709551616) : PgW P := by
  obtain ⟨h1, h2⟩ := check_good h
  obtain ⟨l1, l2, l3, l4, l5, l6⟩ := headB_len h2
  refine ⟨by omega, by omega, fun s hs => by have := l4 s hs; omega, by omega, hu, by omega, fun f hf => ?_⟩
  have g := h1 f hf
  have g1 := g.ps
  have g2 := g.le
  have g3 := g.rs
  have g4 := g.cn
  refine ⟨by omega, by omega, by omega, fun x hx => ?_⟩
  obtain ⟨k, hk⟩ := List.getElem?_of_mem hx
  have gx := g.x k x hk
  have gi := form_in gx g3 g4 l2 l3 (by simpa [fpL] using l1)
  have o1 := gi.o1
  have o2 := gi.o2
  have o3 := gi.l
  have o4 := gi.v
  unfold formI at gx
  rw [Bool.and_eq_true] at gx
  obtain ⟨v1, v2⟩ := live_in gx.1
  exact ⟨gi.i, by omega, by omega, fun n hn => by have := v1 n hn; omega, by omega, by omega⟩

/-- a program's bytes are that program -/
theorem decode_prog {P : Pg} (h : (checkL P).2.2 = 0) (hu : ∀ u ∈ P.us, 0 ≤ u ∧ u < 18446744073709551616) (hl : (progE P).length ≤ 16777216) : decodeL (progE P) = (P, 0) := by
  unfold decodeL
  rw [decP_prog P (good_w h hu), if_neg (by omega), if_neg (by simp [h])]
end Go.Proofs.Ytgbgahdeopedpaa
/- The plain law of images: an image's bytes are read as that image; no beginning is one, nor with more behind. -/
namespace Go.Proofs.Ytgbgahdeopedpaa
open Go.RowKit
set_option linter.unusedVariables false

theorem lenF_nat : ∀ (f n acc : Nat) (post : List UInt8), f ≤ 4 → n < 2 ^ (7 * (f + 1)) → (f < 4 → n ≠ 0) → lenF (f + 1) acc (natE n ++ post) = some (acc + n * 2 ^ (7 * (4 - f)), post) := by
  intro f
  induction f with
  | zero =>
    intro n acc post _ hn hz
    have h7 : (2 : Nat) ^ (7 * (0 + 1)) = 128 := rfl
    rw [natE_lo (by omega)]
    have hc : (UInt8.ofNat n).toNat = n := by simp; omega
    show lenF 1 acc (UInt8.ofNat n :: post) = _
    rw [lenF_cons, hc, if_pos (by omega), if_neg (by have := hz (by omega); omega), Nat.mod_eq_of_lt (by omega)]
  | succ f ih =>
    intro n acc post hf hn hz
    by_cases hlo : n < 128
    · rw [natE_lo hlo]
      have hc : (UInt8.ofNat n).toNat = n := by simp; omega
      show lenF (f + 1 + 1) acc (UInt8.ofNat n :: post) = _
      rw [lenF_cons, hc, if_pos hlo, if_neg (fun q => hz q.2 q.1), Nat.mod_eq_of_lt hlo]
    · rw [natE_hi hlo]
      have hc : (UInt8.ofNat (n % 128 + 128)).toNat = n % 128 + 128 := by simp; omega
      show lenF (f + 1 + 1) acc (UInt8.ofNat (n % 128 + 128) :: (natE (n / 128) ++ post)) = _
      rw [lenF_cons, hc, if_neg (by omega), show (n % 128 + 128) % 128 = n % 128 by omega]
      obtain ⟨s, hs⟩ : ∃ s, 7 * (4 - (f + 1)) = s := ⟨_, rfl⟩
      have hs2 : 7 * (4 - f) = s + 7 := by omega
      have hn2 : n / 128 < 2 ^ (7 * (f + 1)) := by
        have e : 7 * (f + 1 + 1) = 7 * (f + 1) + 7 := by omega
        rw [e, Nat.pow_add] at hn
        have h7 : (2 : Nat) ^ 7 = 128 := rfl
        rw [h7] at hn
        exact Nat.div_lt_of_lt_mul (by omega)
      rw [ih (n / 128) _ post (by omega) hn2 (fun _ => by omega), hs2, pow_up, hs]
      have hm : n / 128 * (128 * 2 ^ s) + n % 128 * 2 ^ s = n * 2 ^ s := by
        rw [← Nat.mul_assoc, ← Nat.add_mul]
        congr 1
        omega
      congr 2
      omega

theorem secL_sec (k : Nat) (hk : k < 256) (s post : List UInt8) (hs : s.length < 34359738368) : secL k (secE k s ++ post) = some (s, post) := by
  have e : secE k s ++ post = UInt8.ofNat k :: (natE s.length ++ (s ++ post)) := by unfold secE; simp
  rw [e]
  have hc : (UInt8.ofNat k).toNat = k := by simp; omega
  have hne : natE s.length ++ (s ++ post) ≠ [] := by
    intro q
    have := natE_pos s.length
    rw [List.append_eq_nil_iff] at q
    rw [q.1] at this
    exact absurd this (by decide)
  show (if natE s.length ++ (s ++ post) = [] ∨ (UInt8.ofNat k).toNat ≠ k then none else secT (lenF 5 0 (natE s.length ++ (s ++ post)))) = _
  rw [if_neg (by rw [hc]; rintro (q | q); exact hne q; exact q rfl)]
  rw [lenF_nat 4 s.length 0 (s ++ post) (Nat.le_refl _) (by simpa using hs) (fun q => absurd q (by decide))]
  show secT (some (0 + s.length * 2 ^ (7 * (4 - 4)), s ++ post)) = _
  rw [show 0 + s.length * 2 ^ (7 * (4 - 4)) = s.length by simp]
  show (if (s ++ post).length < s.length then none else some ((s ++ post).take s.length, (s ++ post).drop s.length)) = _
  rw [if_neg (by simp), List.take_left, List.drop_left]

theorem pkG3 (a b c : List UInt8) : pkG [a, b, c] 3 = [107, 105, 108, 110, 1] ++ (secE 1 a ++ secE 2 b ++ secE 3 c) := by
  unfold pkG
  rw [show List.range 3 = [0, 1, 2] from rfl]
  simp

theorem sec3_good {a b c : List UInt8} (ha : a.length ≤ 255) (hb : b.length ≤ 1048576) (hc : c.length ≤ 16777216) : sec3L (secE 1 a ++ secE 2 b ++ secE 3 c) = (0, a, b, c) := by
  unfold sec3L
  rw [List.append_assoc, secL_sec 1 (by decide) a _ (by omega)]
  dsimp only
  rw [secL_sec 2 (by decide) b _ (by omega)]
  dsimp only
  rw [show secE 3 c = secE 3 c ++ [] by simp, secL_sec 3 (by decide) c [] (by omega)]
  dsimp only
  rw [if_neg (by rintro (q | q | q); exact q rfl; omega; omega)]

theorem le4_len (s : Nat) : (le4 s).length = 4 := rfl

theorem le4_leN {s : Nat} (h : s < 4294967296) : Im.leN (le4 s) = s := by
  unfold le4
  simp only [Im.leN]
  simp
  omega

theorem img_parts (N : List UInt8) : (N ++ le4 (Im.sumL N)).length - 4 = N.length := by simp [le4_len]

theorem sumL_lt (l : List UInt8) : Im.sumL l < 4294967296 := by
  unfold Im.sumL
  omega

/-- an image's sections are its -/
theorem secs_img {a b c : List UInt8} (ha : a.length ≤ 255) (hb : b.length ≤ 1048576) (hc : c.length ≤ 16777216) : secsL (imgG [a, b, c]) = (0, a, b, c) := by
  unfold imgG
  obtain ⟨N, hN⟩ : ∃ N, pkG [a, b, c] 3 = N := ⟨_, rfl⟩
  have hN2 := hN
  rw [pkG3] at hN2
  rw [hN]
  have h5 : 5 ≤ N.length := by rw [← hN2]; simp
  have e1 := img_parts N
  have t1 : (N ++ le4 (Im.sumL N)).take N.length = N := List.take_left
  have t2 : (N ++ le4 (Im.sumL N)).drop N.length = le4 (Im.sumL N) := List.drop_left
  unfold secsL
  rw [if_neg (by simp [le4_len]; omega), if_neg (by rw [← hN2]; simp), if_neg (by rw [← hN2]; simp), e1, t1, t2, le4_leN (sumL_lt N), if_neg (fun q => q rfl), ← hN2]
  exact sec3_good ha hb hc

/-- an image's bytes are that image -/
theorem encR_zero {P : Pg} (h : (encR P).2 = 0) : (checkL P).2.2 = 0 ∧ (progE P).length ≤ 16777216 ∧ encR P = (progE P, 0) := by
  by_cases h1 : (checkL P).2.2 = 0
  · by_cases h2 : (progE P).length ≤ 16777216
    · exact ⟨h1, h2, encR_ok h1 h2⟩
    · rw [encR_long h1 (by omega)] at h; cases h
  · rw [encR_bad h1] at h; exact absurd h h1

theorem packR_zero {T Y : List UInt8} {P : Pg} (h : (packR T Y P).2 = 0) : T.length ≤ 255 ∧ Y.length ≤ 1048576 ∧ (checkL P).2.2 = 0 ∧ (progE P).length ≤ 16777216 ∧ packR T Y P = (imgG [T, Y, progE P], 0) := by
  by_cases h1 : 255 < T.length ∨ 1048576 < Y.length
  · rw [packR_big h1] at h; cases h
  · by_cases h2 : (encR P).2 = 0
    · obtain ⟨g1, g2, g3⟩ := encR_zero h2
      refine ⟨by omega, by omega, g1, g2, ?_⟩
      rw [packR_ok (by omega) (by omega) h2, g3]
    · rw [packR_bad (by omega) (by omega) h2] at h; exact absurd h h2

theorem unpack_img {T Y : List UInt8} {P : Pg} (h : (packR T Y P).2 = 0) (hu : ∀ u ∈ P.us, 0 ≤ u ∧ u < 18446744073709551616) : unpackL (packR T Y P).1 = (T, Y, P, 0) := by
  obtain ⟨h1, h2, h3, h4, h5⟩ := packR_zero h
  rw [h5]
  unfold unpackL
  rw [secs_img h1 h2 h4, if_neg (fun q => q rfl), decode_prog h3 hu h4, if_neg (fun q => q rfl)]

theorem ownB_cap {w : World} {base : Nat} {a : Option Addr} {n c : Nat} {l : List UInt8} (h : OwnB w base (.slice a n c) l) : n ≤ c := by
  obtain ⟨a', cap, hv, h1, h2⟩ := own_form h
  cases hv
  exact h1
end Go.Proofs.Ytgbgahdeopedpaa
