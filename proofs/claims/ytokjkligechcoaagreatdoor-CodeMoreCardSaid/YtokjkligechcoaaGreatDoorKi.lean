/- Walks of layer 16's reference: which registers may be read behind an instruction. -/
import Derived.Test.YtokjkligechcoaaGreatDoorKc
import Derived.Test.YtokjkligechcoaaGreatDoorGj
set_option linter.unusedVariables false
namespace Go.Proofs.YtokjkligechcoaaGreatDoor
open Go.RowKit
attribute [local go_sem] ext_mk size_mk toList_mk get_mk take_drop_len take_tail_len ByteArray.mk_append_mk List.append_toArray
section
/-- the reference's rows lie one behind the other -/
def rowsB (A n rs : Nat) : List Value := (List.range n).map fun k => .slice (some ⟨A + 1 + k, 0, none⟩) rs rs
theorem rowsB_get {A n rs k : Nat} (h : k < n) : (rowsB A n rs)[k]? = some (.slice (some ⟨A + 1 + k, 0, none⟩) rs rs) := by simp [rowsB, h]
structure RtB (W : World) (A n rs : Nat) (st : List Nat) : Prop where
 a : OwnAt W A n 133 (rowsB A n rs)
 sl : st.length = n
 rows : ∀ k, k < n → OwnAt W (A + 1 + k) rs 4 (setB rs (st.getD k 0))
variable {W V : World} {A n rs : Nat} {st : List Nat}
theorem RtB.below (h : RtB W A n rs st) (hb : Below W.heap.size W V) : RtB V A n rs st := ⟨h.a.below hb h.a.lt, h.sl, fun k hk => (h.rows k hk).below hb (h.rows k hk).lt⟩
theorem fboxc {W : World} {q : Nat} {u v x : Value} (h : KAt W q (.cells #[u, v, x] 48 (0, 0))) : W.cell? ⟨q, 0, none⟩ = some u ∧ W.cell? ⟨q, 1, none⟩ = some v ∧ W.cell? ⟨q, 2, none⟩ = some x := by
 refine ⟨?_, ?_, ?_⟩
 all_goals (rw [cell_of_row _ _ _ _ _ _ h.x]; rfl)
end
section
abbrev KR (lo hi : Nat) : Nat → TypeId → Prop := fun b T => lo ≤ b ∧ b < hi ∧ T = 3
/-- code in a block of its own, numbers in blocks from lo to hi; from k on the lists are nil -/
def CbK (lo hi : Nat) (W : World) (c : Nat) (code : List In) (k : Nat) : Prop := ∃ cs, W.heap[c]? = some (.cells cs 58 (0, 0)) ∧ (∀ i x, code[i]? = some x → InV (KR lo hi) W x (fun j => cs[i * 6 + j]?)) ∧ ∀ i, k ≤ i → i < code.length → cs[i * 6 + 5]? = some (Value.slice none 0 0)
/-- and one list is being filled -/
def FlK (lo hi : Nat) (W : World) (c : Nat) (code : List In) (k : Nat) (v : Value) : Prop := ∃ cs, W.heap[c]? = some (.cells cs 58 (0, 0)) ∧ cs[k * 6 + 5]? = some v ∧ (∀ i x, code[i]? = some x → InV (KR lo hi) W x (fun j => if i = k ∧ j = 5 then some (.slice none 0 0) else cs[i * 6 + j]?)) ∧ ∀ i, k < i → i < code.length → cs[i * 6 + 5]? = some (Value.slice none 0 0)
variable {lo hi hi' c k : Nat} {W V : World} {code : List In} {v : Value}
theorem CbK.lt (h : CbK lo hi W c code k) : c < W.heap.size := by obtain ⟨cs, h1, -⟩ := h; exact heap_lt h1
theorem CbK.at (h : CbK lo hi W c code k) (hl : code.length ≤ 1000000000) : CodeAt W (some ⟨c, 0, none⟩) code := by
 obtain ⟨cs, h1, h2, h3⟩ := h
 exact ⟨hl, .inr ⟨c, 0, rfl, fun i x e => by rw [Nat.zero_add]; exact InV.at h1 (h2 i x e)⟩⟩
theorem CbK.kp (h : CbK lo hi W c code k) (hc : V.heap[c]? = W.heap[c]?) (q : Kp (KR lo hi) W V) : CbK lo hi V c code k := by
 obtain ⟨cs, h1, h2, h3⟩ := h
 exact ⟨cs, hc.trans h1, fun i x e => (h2 i x e).kp q, h3⟩
theorem CbK.wk (h : CbK lo hi W c code k) (hh : hi ≤ hi') : CbK lo hi' W c code k := by
 obtain ⟨cs, h1, h2, h3⟩ := h
 exact ⟨cs, h1, fun i x e => (h2 i x e).wk (fun b _ q => ⟨q.1, by have := q.2.1; omega, rfl⟩), h3⟩
theorem CbK.below (h : CbK lo hi W c code k) (hb : Below W.heap.size W V) : CbK lo hi V c code k := h.kp (hb.block c h.lt) (Kp.below hb)
theorem CbK.skip (h : CbK lo hi W c code k) : CbK lo hi W c code (k + 1) := by
 obtain ⟨cs, h1, h2, h3⟩ := h
 exact ⟨cs, h1, h2, fun i q r => h3 i (by omega) r⟩
theorem CbK.fill (h : CbK lo hi W c code k) (hk : k < code.length) : FlK lo hi W c code k (.slice none 0 0) := by
 obtain ⟨cs, h1, h2, h3⟩ := h
 have h4 := h3 k (Nat.le_refl _) hk
 refine ⟨cs, h1, h4, fun i x e => (h2 i x e).same (fun j hj => ?_), fun i q r => h3 i (by omega) r⟩
 split
 ·rename_i q; obtain ⟨rfl, rfl⟩ := q; exact h4.symm
 ·rfl
theorem FlK.kp (h : FlK lo hi W c code k v) (hc : V.heap[c]? = W.heap[c]?) (q : Kp (KR lo hi) W V) : FlK lo hi V c code k v := by
 obtain ⟨cs, h1, h2, h3, h4⟩ := h
 exact ⟨cs, hc.trans h1, h2, fun i x e => (h3 i x e).kp q, h4⟩
theorem FlK.low (h : FlK lo hi W c code k v) (hb : Below hi W V) (hc : c < hi) : FlK lo hi V c code k v :=
 h.kp (hb.block c hc) ⟨hb.size, fun b cs T q e => (hb.block b q.2.1).trans e⟩
theorem FlK.lt (h : FlK lo hi W c code k v) : c < W.heap.size := by obtain ⟨cs, h1, -⟩ := h; exact heap_lt h1
theorem FlK.cells (h : FlK lo hi W c code k v) : W.cell? ⟨c, k * 6 + 5, none⟩ = some v ∧ W.frozen? ⟨c, k * 6 + 5, none⟩ = false := by
 obtain ⟨cs, h1, h2, h3, h4⟩ := h
 exact ⟨by rw [cell_of_row _ _ _ _ _ _ h1]; exact h2, frozen_of_row _ _ _ _ _ h1⟩
theorem FlK.put (h : FlK lo hi W c code k v) (u : Value) : FlK lo hi (W.setCell ⟨c, k * 6 + 5, none⟩ u) c code k u := by
 obtain ⟨cs, h1, h2, h3, h4⟩ := h
 have hs : k * 6 + 5 < cs.size := (Array.getElem?_eq_some_iff.1 h2).1
 have hk : Kp (KR lo hi) W (W.setCell ⟨c, k * 6 + 5, none⟩ u) := Kp.set _ _ (fun cs' T e q => by
  rw [h1] at e
  simp only [Option.some.injEq, Obj.cells.injEq] at e
  have := q.2.2
  rw [← e.2.1] at this
  exact absurd this (by decide))
 refine ⟨cs.setIfInBounds (k * 6 + 5) u, heap_setCell_same _ _ _ _ _ u h1, by rw [Array.getElem?_setIfInBounds]; simp [hs], fun i x e => ((h3 i x e).kp hk).same (fun j hj => ?_), fun i q r => ?_⟩
 ·split
  ·rfl
  ·rename_i q
   rw [Array.getElem?_setIfInBounds, if_neg (by intro r; apply q; omega)]
 ·rw [Array.getElem?_setIfInBounds, if_neg (by omega)]; exact h4 i q r
theorem FlK.done (h : FlK lo hi W c code k v) {x : In} {L : List Int} {a : Option Addr} {cap : Nat} (hx : code[k]? = some x) (hh : hi ≤ hi') (hv : v = .slice a L.length cap) (hL : NumsK (KR lo hi') 3 .i64 W a L) :
  CbK lo hi' W c (code.set k { x with lv := L }) (k + 1) := by
 obtain ⟨cs, h1, h2, h3, h4⟩ := h
 have hkl : k < code.length := (List.getElem?_eq_some_iff.1 hx).1
 refine ⟨cs, h1, fun i y e => ?_, fun i q r => h4 i (by omega) (by simpa using r)⟩
 rw [List.getElem?_set] at e
 by_cases q : k = i
 ·subst q
  rw [if_pos rfl, if_pos hkl] at e
  cases e
  obtain ⟨la, lc, va, vc, r0, r1, r2, r3, r4, r5, n1, n2⟩ := (h3 k x hx).wk (K' := KR lo hi') (fun b _ z => ⟨z.1, by have := z.2.1; omega, rfl⟩)
  refine ⟨la, lc, a, cap, by simpa using r0, by simpa using r1, by simpa using r2, by simpa using r3, by simpa using r4, ?_, n1, hL⟩
  dsimp only
  rw [h2, hv]
 ·rw [if_neg q] at e
  exact ((h3 i y e).wk (fun b _ z => ⟨z.1, by have := z.2.1; omega, rfl⟩)).same (fun j hj => by rw [if_neg (by omega)])
theorem set_at {α : Type} {l : List α} {k : Nat} {x : α} (h : l[k]? = some x) : l.set k x = l := by
 apply List.ext_getElem?
 intro i
 rw [List.getElem?_set]
 by_cases e : k = i
 ·subst e; rw [if_pos rfl, if_pos (List.getElem?_eq_some_iff.1 h).1, h]
 ·rw [if_neg e]
/-- part of one list, then the rest of another -/
def mixC (X Y : List In) (k : Nat) : List In := X.take k ++ Y.drop k
theorem mixC_zero (X Y : List In) : mixC X Y 0 = Y := by simp [mixC]
theorem mixC_end {X Y : List In} (h : X.length = Y.length) : mixC X Y Y.length = X := by simp [mixC, ← h]
theorem mixC_len {X Y : List In} {k : Nat} (h : X.length = Y.length) (hk : k ≤ Y.length) : (mixC X Y k).length = Y.length := by simp [mixC]; omega
theorem mixC_get {X Y : List In} {k : Nat} (h : X.length = Y.length) (hk : k < Y.length) : (mixC X Y k)[k]? = Y[k]? := by
 unfold mixC
 rw [List.getElem?_append_right (by simp; omega), List.length_take, List.getElem?_drop]
 congr 1; omega
theorem mixC_next {X Y : List In} {k : Nat} {x : In} (h : X.length = Y.length) (hk : k < Y.length) (hx : X[k]? = some x) : (mixC X Y k).set k x = mixC X Y (k + 1) := by
 have hkX : k < X.length := by omega
 have e : x = X[k] := by rw [List.getElem?_eq_getElem hkX] at hx; cases hx; rfl
 apply List.ext_getElem?
 intro i
 unfold mixC
 rw [List.getElem?_set]
 by_cases q : k = i
 ·subst q
  rw [if_pos rfl, if_pos (by simp; omega), List.getElem?_append_left (by simp; omega), List.getElem?_take_of_lt (by omega), List.getElem?_eq_getElem hkX, e]
 ·rw [if_neg q]
  rcases Nat.lt_or_ge i k with r | r
  ·rw [List.getElem?_append_left (by simp; omega), List.getElem?_append_left (by simp; omega), List.getElem?_take_of_lt r, List.getElem?_take_of_lt (by omega)]
  ·rw [List.getElem?_append_right (by simp; omega), List.getElem?_append_right (by simp; omega), List.length_take, List.length_take, List.getElem?_drop, List.getElem?_drop]
   congr 1; omega
/-- the registers of a set, below one -/
def regsT (y S : Nat) : List Int := ((List.range y).filter fun r => S.testBit r).map Int.ofNat
theorem regsT_yes {y S : Nat} (h : S.testBit y = true) : regsT (y + 1) S = regsT y S ++ [(y : Int)] := by simp [regsT, List.range_succ, h]
theorem regsT_no {y S : Nat} (h : S.testBit y = false) : regsT (y + 1) S = regsT y S := by simp [regsT, List.range_succ, h]
theorem regsT_len (y S : Nat) : (regsT y S).length ≤ y := by
 unfold regsT
 rw [List.length_map]
 exact Nat.le_trans (List.length_filter_le _ _) (by simp)
end
end Go.Proofs.YtokjkligechcoaaGreatDoor
