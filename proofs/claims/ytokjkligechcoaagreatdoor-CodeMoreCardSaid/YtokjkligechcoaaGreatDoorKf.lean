/- Walks of layer 16's reference: passes over the code till nothing changes. -/
import Derived.Test.YtokjkligechcoaaGreatDoorKi
set_option linter.unusedVariables false
namespace Go.Proofs.YtokjkligechcoaaGreatDoor
open Go.RowKit
attribute [local go_sem] ext_mk size_mk toList_mk get_mk take_drop_len take_tail_len ByteArray.mk_append_mk List.append_toArray
/-- numbers and a row of the call's own do not lie in one block -/
theorem ints_ne_own {W : World} {g cap : Nat} {e : TypeId} {xs : List Value} {k : IntKind} {a : Option Addr} {l : List Int} (h : IntsAt k W a l) (ho : OwnAt W g cap e xs) (hc : xs.length = cap) (hx : ∀ v ∈ xs, ∀ z, v ≠ .int k z) (hl : l ≠ []) : ∀ b o, a = some ⟨b, o, none⟩ → b ≠ g := by
 rintro b o rfl rfl
 have hp : 0 < l.length := List.length_pos_iff.2 hl
 obtain ⟨b2, o2, e2, hcell⟩ := ints_cell h hp
 cases e2
 obtain ⟨cur, h1, h2⟩ := ho.ex
 rw [Nat.add_zero, cell_of_row _ _ _ _ _ _ h1] at hcell
 have e3 : cur.toList = xs := by rw [← h2.2, List.take_of_length_le (by rw [hc, Array.length_toList, h2.1]; exact Nat.le_refl _)]
 rw [← Array.getElem?_toList, e3] at hcell
 exact hx _ (List.mem_of_getElem? hcell) _ rfl
theorem ints_keep {W V : World} {p : Nat} {a : Option Addr} {l : List Int} {k : IntKind} (h : IntsAt k W a l) (hg : W.grownBy V (some p)) (ho : l ≠ [] → ∀ b o, a = some ⟨b, o, none⟩ → b ≠ p) : IntsAt k V a l := by
 by_cases hl : l = []
 ·subst hl; exact ⟨h.1, .inl rfl⟩
 ·exact ints_other h hg (ho hl)
theorem grown_below {W V U : World} {r : Option Nat} (h : W.grownBy V r) (hb : Below W.heap.size V U) : W.grownBy U r :=
 ⟨hb.os.trans h.os, hb.tape.trans h.tape, hb.output.trans h.output, Nat.le_trans h.size hb.size, fun b q e => (hb.block b q).trans (h.block b q e)⟩
theorem RtB.grown {W V : World} {A n rs c : Nat} {st : List Nat} (h : RtB W A n rs st) (hg : W.grownBy V (some c)) (hc : c < A) : RtB V A n rs st :=
 ⟨h.a.grown hg (by omega), h.sl, fun k hk => (h.rows k hk).grown hg (by omega)⟩
/-- what the passes keep -/
structure RqA (w W : World) (n rs : Nat) (fo : Obj) (st : List Nat) : Prop where
 b : Below w.heap.size w W
 f : KAt W w.heap.size fo
 r : RtB W (w.heap.size + 1) n rs st
variable {w W V : World} {n rs : Nat} {fo : Obj} {st : List Nat}
theorem RqA.below (h : RqA w W n rs fo st) (hb : Below W.heap.size W V) : RqA w V n rs fo st := ⟨h.b.trans (hb.mono h.b.size), h.f.below hb, h.r.below hb⟩
theorem RqA.out (h : RqA w W n rs fo st) {g j : Nat} (hg : w.heap.size + 1 + n < g) (v : Value) : RqA w (W.setCell ⟨g, j, none⟩ v) n rs fo st :=
 ⟨h.b.setCell (p := ⟨g, j, none⟩) (by show w.heap.size ≤ g; omega) _, h.f.put _ (by show w.heap.size ≠ g; omega) _, h.r.a.other _ (by show w.heap.size + 1 ≠ g; omega) _, h.r.sl, fun k hk => (h.r.rows k hk).other _ (by show w.heap.size + 1 + 1 + k ≠ g; omega) _⟩
theorem RqA.mut (h : RqA w W n rs fo st) {k j S : Nat} {v : Value} (hk : k < n) (hv : (setB rs (st.getD k 0)).set j v = setB rs S) : RqA w (W.setCell ⟨w.heap.size + 1 + 1 + k, j, none⟩ v) n rs fo (st.set k S) := by
 refine ⟨h.b.setCell (p := ⟨w.heap.size + 1 + 1 + k, j, none⟩) (by show w.heap.size ≤ w.heap.size + 1 + 1 + k; omega) _, h.f.put _ (by show w.heap.size ≠ w.heap.size + 1 + 1 + k; omega) _, h.r.a.other _ (by show w.heap.size + 1 ≠ w.heap.size + 1 + 1 + k; omega) _, by rw [List.length_set]; exact h.r.sl, fun i hi => ?_⟩
 rw [getD_set (by rw [h.r.sl]; exact hk)]
 by_cases e : i = k
 ·subst e
  rw [if_pos rfl, ← hv]
  exact (h.r.rows i hi).set j v
 ·rw [if_neg e]
  exact (h.r.rows i hi).other _ (by show w.heap.size + 1 + 1 + i ≠ w.heap.size + 1 + 1 + k; omega) _
theorem RqA.slot (h : RqA w W n rs fo st) {k : Nat} (hk : k < n) : W.cell? ⟨w.heap.size + 1, k, none⟩ = some (.slice (some ⟨w.heap.size + 1 + 1 + k, 0, none⟩) rs rs) := h.r.a.cell (rowsB_get hk)
/-- a pass that has begun -/
def PaR (code : List In) (st0 : List Nat) (j : Nat) (st : List Nat) (more : Bool) : Prop := passP (ahdK code) code.length st0 = ((passP (ahdK code) j st).1, more || (passP (ahdK code) j st).2)
/-- between the passes -/
def PsR (code : List In) (rs : Nat) (st : List Nat) (more : Bool) : Prop := InvP (ahdK code) code.length rs st ∧ ((more = true ∧ ∃ m, st = iterP (ahdK code) code.length m (zeroP code.length)) ∨ (more = false ∧ st = finC code))
theorem PsR.start {code : List In} {rs : Nat} (h : OkQ rs code) : PsR code rs (zeroP code.length) true := ⟨zero_inv h, .inl ⟨rfl, 0, rfl⟩⟩
theorem PsR.pass {code : List In} {rs : Nat} (h : OkQ rs code) {st0 st : List Nat} {more : Bool} (h0 : PsR code rs st0 true) (hp : PaR code st0 0 st more) : PsR code rs st more ∧ (more = true → sumP rs st0 < sumP rs st) := by
 obtain ⟨h1, h2 | h2⟩ := h0
 ·obtain ⟨-, m, hm⟩ := h2
  have e1 : (passP (ahdK code) code.length st0).1 = st := by rw [hp]; rfl
  have e2 : (passP (ahdK code) code.length st0).2 = more := by rw [hp]; simp [passP]
  obtain ⟨q1, q2, q3, q4⟩ := pass_inv (ahd_ok h) _ st0 (Nat.le_refl _) h1
  rw [e1] at q1 q3 q4
  rw [e2] at q3 q4
  refine ⟨⟨q1, ?_⟩, q3⟩
  cases more
  ·right
   refine ⟨rfl, ?_⟩
   have := q4 rfl
   subst this
   rw [hm]
   exact fin_eq (ahd_ok h) (zero_inv h) (by rw [← hm]; exact e2)
  ·left
   exact ⟨rfl, m + 1, by rw [iterP_succ, ← hm, e1]⟩
 ·cases h2.1
def mea2 (n rs : Nat) (st : List Nat) (more : Bool) : Nat := if more then n * (rs + 1) + 1 - sumP rs st else 0
theorem mea_lt {code : List In} {rs : Nat} (h : OkQ rs code) {st0 st : List Nat} {more : Bool} (h0 : PsR code rs st0 true) (hp : PaR code st0 0 st more) : mea2 code.length rs st more < mea2 code.length rs st0 true := by
 obtain ⟨q1, q2⟩ := PsR.pass h h0 hp
 have l1 := sumP_le (rs := rs) st0
 have l2 := sumP_le (rs := rs) st
 rw [h0.1.len] at l1
 rw [q1.1.len] at l2
 unfold mea2
 cases more
 ·simp; omega
 ·have := q2 rfl
  simp; omega
theorem PaR.start (code : List In) (st : List Nat) : PaR code st code.length st false := by unfold PaR; simp
theorem PaR.next {code : List In} {st0 st : List Nat} {j : Nat} {more : Bool} (h : PaR code st0 (j + 1) st more) : PaR code st0 j (st.set j (ahdK code st j)) (more || decide (ahdK code st j ≠ st.getD j 0)) := by
 unfold PaR at h ⊢
 rw [h]
 conv => lhs; unfold passP
 simp [Bool.or_assoc]
theorem ahdK_at {code : List In} {k : Nat} {x : In} (h : code[k]? = some x) (st : List Nat) : ahdK code st k = addR (dropA x (orL st (toS k x))) (readsI x) := by unfold ahdK; rw [h]
end Go.Proofs.YtokjkligechcoaaGreatDoor
