/- Layer 16: what nothing uses changes nothing of a program's first fault (no program in sight). -/
import Derived.Test.YtokjkligechcoaaGreatDoorDv
set_option linter.unusedVariables false
namespace Go.Proofs.YtokjkligechcoaaGreatDoor
theorem insB_mono {n e e' : Int} (h : insB n e = true) (he : e ≤ e') : insB n e' = true := by
 have := insB_true h
 unfold insB
 rw [decide_eq_true this.1, decide_eq_true (show n < e' by omega)]; rfl
theorem regsB_mono {l : List Int} {n n' : Int} (h : regsB l n = true) (hn : n ≤ n') : regsB l n' = true := by
 unfold regsB at h ⊢
 rw [Bool.and_eq_true] at h ⊢
 exact ⟨h.1, List.all_eq_true.2 fun x hx => insB_mono (List.all_eq_true.1 h.2 x hx) hn⟩
theorem liveB_mono {op b : Int} {lv : List Int} {rs rs' : Int} (h : liveB op b lv rs = true) (hr : rs ≤ rs') : liveB op b lv rs' = true := by
 unfold liveB at h ⊢
 split at h
 ·rename_i hk
  rw [if_pos hk]
  rw [Bool.and_eq_true] at h ⊢
  exact ⟨regsB_mono h.1 hr, h.2⟩
 ·rename_i hk
  rw [if_neg hk]
  exact h
/-- more strings, reals, functions and registers -/
structure MoreF (ns nr ns' nr' : Nat) (fp fp' : List Int) (rs rs' : Int) : Prop where
 s : ns ≤ ns'
 r : nr ≤ nr'
 f : ∃ t, fp' = fp ++ t
 g : rs ≤ rs'
theorem formB_mono {ns nr ns' nr' : Nat} {fp fp' : List Int} {cn : Nat} {rs rs' op a b c : Int} {l : List Int} (m : MoreF ns nr ns' nr' fp fp' rs rs') (h : formB ns nr fp cn rs op a b c l = true) : formB ns' nr' fp' cn rs' op a b c l = true := by
 obtain ⟨m1, m2, ⟨t, rfl⟩, m4⟩ := m
 have i1 : ∀ {x : Int}, insB x rs = true → insB x rs' = true := fun q => insB_mono q m4
 have i2 : ∀ {x : Int}, insB x ns = true → insB x ns' = true := fun q => insB_mono q (by omega)
 have i3 : ∀ {x : Int}, insB x nr = true → insB x nr' = true := fun q => insB_mono q (by omega)
 have i4 : ∀ {x : Int}, insB x fp.length = true → insB x ((fp ++ t).length : Nat) = true := fun q => insB_mono q (by rw [List.length_append]; omega)
 have i5 : ∀ {x : List Int}, regsB x rs = true → regsB x rs' = true := fun q => regsB_mono q m4
 unfold formB at h ⊢
 by_cases k : (op == 1) = true
 ·rw [if_pos k] at h ⊢
  simp only [Bool.and_eq_true] at h ⊢; exact ⟨⟨⟨i1 h.1.1.1, h.1.1.2⟩, h.1.2⟩, h.2⟩
 rw [if_neg k] at h ⊢
 clear k
 by_cases k : (op == 2) = true
 ·rw [if_pos k] at h ⊢
  simp only [Bool.and_eq_true] at h ⊢; exact ⟨⟨⟨i1 h.1.1.1, i2 h.1.1.2⟩, h.1.2⟩, h.2⟩
 rw [if_neg k] at h ⊢
 clear k
 by_cases k : (op == 3) = true
 ·rw [if_pos k] at h ⊢
  simp only [Bool.and_eq_true] at h ⊢; exact ⟨⟨⟨i1 h.1.1.1, i3 h.1.1.2⟩, h.1.2⟩, h.2⟩
 rw [if_neg k] at h ⊢
 clear k
 by_cases k : (op == 4) = true
 ·rw [if_pos k] at h ⊢
  simp only [Bool.and_eq_true] at h ⊢; exact ⟨⟨⟨i1 h.1.1.1, i1 h.1.1.2⟩, h.1.2⟩, h.2⟩
 rw [if_neg k] at h ⊢
 clear k
 by_cases k : (op == 5) = true
 ·rw [if_pos k] at h ⊢
  simp only [Bool.and_eq_true] at h ⊢; exact ⟨⟨⟨⟨i1 h.1.1.1.1, h.1.1.1.2⟩, h.1.1.2⟩, h.1.2⟩, i5 h.2⟩
 rw [if_neg k] at h ⊢
 clear k
 by_cases k : (op == 6 || op == 7) = true
 ·rw [if_pos k] at h ⊢
  simp only [Bool.and_eq_true] at h ⊢; exact ⟨⟨⟨i1 h.1.1.1, i1 h.1.1.2⟩, h.1.2⟩, h.2⟩
 rw [if_neg k] at h ⊢
 clear k
 by_cases k : (op == 8) = true
 ·rw [if_pos k] at h ⊢
  rw [Bool.and_eq_true, Bool.and_eq_true, Bool.and_eq_true, Bool.and_eq_true] at h ⊢; exact ⟨⟨⟨⟨i1 h.1.1.1.1, h.1.1.1.2⟩, h.1.1.2⟩, h.1.2⟩, i5 h.2⟩
 rw [if_neg k] at h ⊢
 clear k
 by_cases k : (op == 9) = true
 ·rw [if_pos k] at h ⊢
  exact h
 rw [if_neg k] at h ⊢
 clear k
 by_cases k : (op == 10) = true
 ·rw [if_pos k] at h ⊢
  simp only [Bool.and_eq_true] at h ⊢; exact ⟨⟨⟨h.1.1.1, i1 h.1.1.2⟩, h.1.2⟩, h.2⟩
 rw [if_neg k] at h ⊢
 clear k
 by_cases k : (op == 11) = true
 ·rw [if_pos k] at h ⊢
  simp only [Bool.and_eq_true] at h ⊢; exact ⟨⟨⟨i1 h.1.1.1, h.1.1.2⟩, h.1.2⟩, i5 h.2⟩
 rw [if_neg k] at h ⊢
 clear k
 by_cases k : (op == 12) = true
 ·rw [if_pos k] at h ⊢
  simp only [Bool.and_eq_true] at h ⊢
  have hb := insB_true h.1.1.2
  refine ⟨⟨⟨h.1.1.1, i4 h.1.1.2⟩, i5 h.1.2⟩, ?_⟩
  rw [show (fp ++ t).getD b.toNat 0 = fp.getD b.toNat 0 by
   rw [List.getD_eq_getElem?_getD, List.getElem?_append_left (by omega), ← List.getD_eq_getElem?_getD]]
  exact h.2
 rw [if_neg k] at h ⊢
 clear k
 by_cases k : (op == 13) = true
 ·rw [if_pos k] at h ⊢
  simp only [Bool.and_eq_true] at h ⊢; exact ⟨⟨⟨i1 h.1.1.1, h.1.1.2⟩, h.1.2⟩, h.2⟩
 rw [if_neg k] at h ⊢
 clear k
 cases h
theorem formI_mono {ns nr ns' nr' : Nat} {fp fp' : List Int} {cn : Nat} {rs rs' : Int} {x : In} (m : MoreF ns nr ns' nr' fp fp' rs rs') (h : formI ns nr fp cn rs x = true) : formI ns' nr' fp' cn rs' x = true := by
 unfold formI at h ⊢
 rw [Bool.and_eq_true] at h ⊢
 exact ⟨liveB_mono h.1 m.g, formB_mono m h.2⟩
/-- a register more, as long as there may be -/
def upF (f : Fu) : Fu := ⟨f.ps, if f.rs < 4096 then f.rs + 1 else f.rs, f.code⟩
theorem fpL_up (fs : List Fu) : fpL (fs.map upF) = fpL fs := by
 unfold fpL; rw [List.map_map]; rfl
/-- a program with a string, a real, and registers more; and with functions more -/
def moreP (P : Pg) (s : List UInt8) (u : Int) (t : List Fu) : Pg := ⟨P.fs.map upF ++ t, P.ss ++ [s], P.us ++ [u], P.en⟩
theorem checkF_up : ∀ (fs : List Fu) (i : Nat), checkF i (fs.map upF) = checkF i fs
 | [], _ => rfl
 | f :: fs, i => by
  show checkF i (upF f :: fs.map upF) = checkF i (f :: fs)
  unfold checkF
  rw [checkF_up fs (i + 1)]
  rfl
theorem checkF_app : ∀ (fs t : List Fu) (i : Nat), checkF i (fs ++ t) = if (checkF i fs).2.2 = 0 then checkF (i + fs.length) t else checkF i fs
 | [], t, i => by simp [checkF]
 | f :: fs, t, i => by
  show checkF i (f :: (fs ++ t)) = _
  by_cases h1 : flowsB f.code = true
  ·have e : ∀ L, checkF i (f :: L) = ((i : Int), (f.code.length : Int) - 1, 161) := fun L => by rw [checkF, if_pos h1]
   rw [e, e, if_neg (show ¬ (161 : Int) = 0 by decide)]
  ·by_cases h2 : 0 ≤ unsetS f.code f.ps.toNat
   ·have e : ∀ L, checkF i (f :: L) = ((i : Int), unsetS f.code f.ps.toNat, 162) := fun L => by rw [checkF, if_neg h1, if_pos h2]
    rw [e, e, if_neg (show ¬ (162 : Int) = 0 by decide)]
   ·have e : ∀ L, checkF i (f :: L) = checkF (i + 1) L := fun L => by rw [checkF, if_neg h1, if_neg h2]
    rw [e, e, checkF_app fs t (i + 1), List.length_cons, show i + 1 + fs.length = i + (fs.length + 1) by omega]
theorem good_more {P : Pg} {s : List UInt8} {u : Int} {t : List Fu} {f : Fu} (h : GoodF P f) : GoodF (moreP P s u t) (upF f) := by
 have hr : f.rs ≤ (upF f).rs := by unfold upF; dsimp only; split <;> omega
 refine ⟨h.ps, Int.le_trans h.le hr, ?_, h.cn, fun k y e => ?_⟩
 ·have := h.rs
  unfold upF; dsimp only; split <;> omega
 ·refine formI_mono ⟨by simp [moreP], by simp [moreP], ⟨fpL t, ?_⟩, hr⟩ (h.x k y e)
  show fpL (P.fs.map upF ++ t) = _
  unfold fpL
  rw [List.map_append]
  exact congrArg (· ++ _) (fpL_up P.fs)
theorem fn_good {P : Pg} {f : Fu} (h : GoodF P f) : fnB f = false ∧ codeK P f = none := by
 constructor
 ·unfold fnB
  rw [decide_eq_false (by have := h.ps; omega), decide_eq_false (by have := h.le; omega), decide_eq_false (by have := h.rs; omega), decide_eq_false (by have := h.cn; omega)]; rfl
 ·unfold codeK
  rw [List.findIdx?_eq_none_iff]
  intro x hx
  obtain ⟨k, hk, rfl⟩ := List.mem_iff_getElem.1 hx
  rw [h.x k _ (List.getElem?_eq_getElem hk)]; rfl
theorem formsF_err {P : Pg} : ∀ (fs : List Fu) (i : Nat), (formsF P i fs).2.2 ≠ 0 → (formsF P i fs).2.2 = 160
 | [], _, h => absurd rfl h
 | f :: fs, i, h => by
  by_cases h1 : fnB f = true
  ·rw [formsF, if_pos h1]
  ·cases h2 : codeK P f with
   | some k => rw [formsF, if_neg h1, h2]
   | none =>
    have e : formsF P i (f :: fs) = formsF P (i + 1) fs := by rw [formsF, if_neg h1, h2]
    rw [e] at h ⊢
    exact formsF_err fs (i + 1) h
theorem forms_err {P : Pg} (h : (formsL P).2.2 ≠ 0) : (formsL P).2.2 = 160 := by
 unfold formsL at h ⊢
 split at h
 ·rename_i q; rw [if_pos q]
 ·rename_i q; rw [if_neg q]; exact formsF_err _ _ h
theorem formsF_app {P : Pg} {t : List Fu} : ∀ (fs : List Fu) (i : Nat), (∀ f ∈ fs, GoodF P f) → formsF P i (fs ++ t) = formsF P (i + fs.length) t
 | [], i, _ => by simp
 | f :: fs, i, h => by
  obtain ⟨h1, h2⟩ := fn_good (h f List.mem_cons_self)
  have e : formsF P i (f :: (fs ++ t)) = formsF P (i + 1) (fs ++ t) := by
   rw [formsF, if_neg (by rw [h1]; decide), h2]
  show formsF P i (f :: (fs ++ t)) = _
  rw [e, formsF_app fs (i + 1) (fun g hg => h g (List.mem_cons_of_mem _ hg)), List.length_cons, show i + 1 + fs.length = i + (fs.length + 1) by omega]
theorem head_more {P : Pg} {s : List UInt8} {u : Int} {t : List Fu} (h : headB P = false) (hs : s.length ≤ 65536) (h1 : P.ss.length + 1 ≤ 65536) (h2 : P.us.length + 1 ≤ 65536) (h3 : P.fs.length + t.length ≤ 65536) : headB (moreP P s u t) = false := by
 obtain ⟨a1, a2, a3, a4, a5, a6⟩ := headB_len h
 have h7 : (fpL P.fs).getD P.en.toNat 0 = 0 := by
  unfold headB at h
  simp only [Bool.or_eq_false_iff] at h
  simpa using h.2
 have hl : (moreP P s u t).fs.length = P.fs.length + t.length := by simp [moreP]
 unfold headB
 rw [hl]
 have e1 : (P.fs.length + t.length == 0) = false := by rw [beq_eq_false_iff_ne]; omega
 have e2 : (moreP P s u t).ss.any longB = false := by
  rw [List.any_eq_false]
  intro x hx
  have hx : x ∈ P.ss ++ [s] := hx
  unfold longB
  rcases List.mem_append.1 hx with q | q
  ·have := a4 x q; simp; omega
  ·obtain rfl : x = s := by simpa using q
   simp; omega
 have e3 : insB (moreP P s u t).en ((P.fs.length + t.length : Nat) : Int) = true := by
  unfold insB
  rw [decide_eq_true (show 0 ≤ (moreP P s u t).en from a5), decide_eq_true (show (moreP P s u t).en < ((P.fs.length + t.length : Nat) : Int) by show P.en < _; omega)]; rfl
 have e4 : (fpL (moreP P s u t).fs).getD (moreP P s u t).en.toNat 0 = 0 := by
  show (fpL (P.fs.map upF ++ t)).getD P.en.toNat 0 = 0
  unfold fpL
  rw [List.map_append, List.getD_eq_getElem?_getD, List.getElem?_append_left (by rw [List.length_map, List.length_map]; omega)]
  have := fpL_up P.fs
  unfold fpL at this
  rw [this, ← List.getD_eq_getElem?_getD]
  exact h7
 rw [e1, decide_eq_false (by omega), decide_eq_false (show ¬ 65536 < (moreP P s u t).ss.length by simp [moreP]; omega), decide_eq_false (show ¬ 65536 < (moreP P s u t).us.length by simp [moreP]; omega), e2, e3, e4]
 rfl
theorem forms_more {P : Pg} {s : List UInt8} {u : Int} {t : List Fu} (h : (formsL P).2.2 = 0) (hs : s.length ≤ 65536) (h1 : P.ss.length + 1 ≤ 65536) (h2 : P.us.length + 1 ≤ 65536) (h3 : P.fs.length + t.length ≤ 65536) : formsL (moreP P s u t) = formsF (moreP P s u t) P.fs.length t := by
 obtain ⟨-, hg, hh⟩ := formsL_good h
 unfold formsL
 rw [if_neg (by rw [head_more hh hs h1 h2 h3]; decide)]
 have e := formsF_app (P := moreP P s u t) (t := t) (P.fs.map upF) 0 (fun f hf => by
  obtain ⟨g, hg2, rfl⟩ := List.mem_map.1 hf
  exact good_more (hg g hg2))
 rw [List.length_map, Nat.zero_add] at e
 exact e
theorem check_more {P : Pg} {s : List UInt8} {u : Int} (h : (checkL P).2.2 ≠ 160) (hs : s.length ≤ 65536) (h1 : P.ss.length + 1 ≤ 65536) (h2 : P.us.length + 1 ≤ 65536) : checkL (moreP P s u []) = checkL P := by
 have h0 : (formsL P).2.2 = 0 := by
  refine Classical.byContradiction fun q => h ?_
  unfold checkL
  rw [if_pos q]
  exact forms_err q
 have hl := (headB_len (formsL_good h0).2.2).1
 have e := forms_more (u := u) (t := []) h0 hs h1 h2 (by simpa using hl)
 have e2 : formsL (moreP P s u []) = (0, 0, 0) := by rw [e]; rfl
 unfold checkL
 rw [if_neg (by rw [e2]; decide), if_neg (by simp [h0])]
 show checkF 0 (P.fs.map upF ++ []) = _
 rw [List.append_nil, checkF_up]
theorem formsF_one (P : Pg) (n : Nat) (f : Fu) : formsF P n [f] = (0, 0, 0) ∨ ∃ z, formsF P n [f] = ((n : Int), z, 160) := by
 by_cases h1 : fnB f = true
 ·exact .inr ⟨-1, by rw [formsF, if_pos h1]⟩
 ·cases h2 : codeK P f with
  | some k => exact .inr ⟨k, by rw [formsF, if_neg h1, h2]⟩
  | none => exact .inl (by rw [formsF, if_neg h1, h2]; rfl)
theorem checkF_one (n : Nat) (f : Fu) : checkF n [f] = (0, 0, 0) ∨ ∃ z e, checkF n [f] = ((n : Int), z, e) := by
 by_cases h1 : flowsB f.code = true
 ·exact .inr ⟨_, _, by rw [checkF, if_pos h1]⟩
 ·by_cases h2 : 0 ≤ unsetS f.code f.ps.toNat
  ·exact .inr ⟨_, _, by rw [checkF, if_neg h1, if_pos h2]⟩
  ·exact .inl (by rw [checkF, if_neg h1, if_neg h2]; rfl)
theorem check_fn {P : Pg} {s : List UInt8} {u : Int} {F : Fu} (h : (checkL P).2.2 ≠ 160) (hs : s.length ≤ 65536) (h1 : P.ss.length + 1 ≤ 65536) (h2 : P.us.length + 1 ≤ 65536) (h3 : P.fs.length < 65536) :
  ((checkL P).2.2 = 0 → (checkL (moreP P s u [F])).2.2 = 0 ∨ (checkL (moreP P s u [F])).1 = (P.fs.length : Int)) ∧
  ((checkL P).2.2 ≠ 0 → checkL (moreP P s u [F]) = checkL P ∨ ((checkL (moreP P s u [F])).2.2 = 160 ∧ (checkL (moreP P s u [F])).1 = (P.fs.length : Int))) := by
 have h0 : (formsL P).2.2 = 0 := by
  refine Classical.byContradiction fun q => h ?_
  unfold checkL
  rw [if_pos q]
  exact forms_err q
 have e := forms_more (u := u) (t := [F]) h0 hs h1 h2 (by simp; omega)
 have c0 : checkL P = checkF 0 P.fs := by unfold checkL; rw [if_neg (by simp [h0])]
 rcases formsF_one (moreP P s u [F]) P.fs.length F with e2 | ⟨z, e2⟩
 ·rw [e2] at e
  have c1 : checkL (moreP P s u [F]) = if (checkF 0 P.fs).2.2 = 0 then checkF P.fs.length [F] else checkF 0 P.fs := by
   unfold checkL
   rw [if_neg (by rw [e]; decide)]
   show checkF 0 (P.fs.map upF ++ [F]) = _
   rw [checkF_app, checkF_up, List.length_map, Nat.zero_add]
  rw [c1, c0]
  refine ⟨fun q => ?_, fun q => ?_⟩
  ·rw [if_pos q]
   rcases checkF_one P.fs.length F with e3 | ⟨z, e', e3⟩
   ·exact .inl (by rw [e3])
   ·exact .inr (by rw [e3])
  ·rw [if_neg q]; exact .inl rfl
 ·rw [e2] at e
  have c1 : checkL (moreP P s u [F]) = ((P.fs.length : Int), z, 160) := by
   unfold checkL
   rw [if_pos (by rw [e]; exact (show ¬ (160 : Int) = 0 by decide)), e]
  rw [c1]
  exact ⟨fun _ => .inr rfl, fun _ => .inr ⟨rfl, rfl⟩⟩
end Go.Proofs.YtokjkligechcoaaGreatDoor
