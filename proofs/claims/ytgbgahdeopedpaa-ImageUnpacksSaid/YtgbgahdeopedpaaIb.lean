/- A slice of structs, built whole: no unrolling, however many there are. -/
import Derived.Test.YtgbgahdeopedpaaChecked
import Derived.WalkKit
import Derived.Laws.Rows
namespace Go.Proofs.Ytgbgahdeopedpaa
open Go.RowKit
set_option linter.unusedVariables false

theorem put_cells (size : Nat) : ∀ (cs : List Value) (j off : Nat) (A : Array Value), off + j + cs.length ≤ A.size →
    (cs.zipIdx j).foldl (fun (acc : Array Value) (p : Value × Nat) => acc.setIfInBounds (off + p.2) p.1) A = (A.toList.take (off + j) ++ cs ++ A.toList.drop (off + j + cs.length)).toArray := by
  intro cs
  induction cs with
  | nil => intro j off A _; simp
  | cons c r ih =>
    intro j off A h
    simp only [List.length_cons] at h
    rw [List.zipIdx_cons, List.foldl_cons, ih (j + 1) off _ (by simp; omega)]
    apply Array.ext'
    simp only [Array.toList_setIfInBounds]
    have e : off + (j + 1) + r.length = off + j + (r.length + 1) := by omega
    rw [e, show off + (j + 1) = (off + j) + 1 by omega, List.take_succ_eq_append_getElem (by simp; omega), List.getElem_set_self, List.take_set_of_le (by omega), List.drop_set_of_lt (by omega)]
    simp

theorem fill_rows (size : Nat) : ∀ (vs : List Value) (k : Nat) (done restc : List Value), (∀ v ∈ vs, v.cells.size = size) → done.length = k * size → restc.length = vs.length * size →
    Instr.fill (fun i => some (i * size, size)) (done ++ restc).toArray ((vs.zipIdx k).map fun p => (p.2, p.1)) = some (done ++ vs.flatMap (·.cells.toList)).toArray := by
  intro vs
  induction vs with
  | nil => intro k done restc _ _ hr; simp at hr; subst hr; simp [Instr.fill]
  | cons v r ih =>
    intro k done restc hs hd hr
    have hv : v.cells.size = size := hs v (by simp)
    have hrl : restc.length = size + r.length * size := by rw [hr, List.length_cons, Nat.succ_mul]; omega
    rw [List.zipIdx_cons, List.map_cons]
    simp only [Instr.fill]
    have hcond : ¬ (v.cells.size ≠ size || k * size + v.cells.size > (done ++ restc).toArray.size) = true := by
      simp; rw [hv]; refine ⟨rfl, by omega⟩
    rw [if_neg hcond]
    have hz : v.cells.zipIdx.foldl (fun cs (x : Value × Nat) => cs.setIfInBounds (k * size + x.2) x.1) (done ++ restc).toArray = (done ++ v.cells.toList ++ restc.drop size).toArray := by
      have h := put_cells size v.cells.toList 0 (k * size) (done ++ restc).toArray (by simp; omega)
      rw [← Array.foldl_toList, Array.toList_zipIdx, h]
      apply Array.ext'
      simp only [Nat.add_zero, Array.length_toList, hv]
      rw [← hd, List.take_left, List.drop_append]
      rw [show done.length + size - done.length = size by omega, List.drop_eq_nil_of_le (show done.length ≤ done.length + size by omega)]
      simp
    rw [hz]
    have := ih (k + 1) (done ++ v.cells.toList) (restc.drop size) (fun u hu => hs u (by simp [hu])) (by simp [hv, hd, Nat.succ_mul]) (by simp [hrl])
    rw [this]
    simp

theorem wp_rows {P : Program} {o : Oper} {a : Act} {w : World} {K : Act → World → Prop} {Q : Exit → Act → World → Prop} (t e : TypeId) (n size : Nat) (parts : Array (Nat × Operand)) (i : TypeInfo) (z : Value) (vs : List Value)
    (ho : o.op = .buildSlice t n parts) (hu : P.underlying t = some (.slice e)) (hi : P.info? e = some i) (hz : i.zero = some z) (hsz : i.size = size)
    (hp : (parts.map fun (i, x) => (i, a.eval x)).toList = (vs.zipIdx 0).map fun p => (p.2, p.1)) (hl : vs.length = n) (hs : ∀ v ∈ vs, v.cells.size = size) (hn : 0 < n * size) (hm : n * size ≤ 2 ^ 24)
    (h : K (a.put o.dst (.slice (some ⟨w.heap.size, 0, none⟩) n n)) (w.alloc (.cells (vs.flatMap (·.cells.toList)).toArray e))) : o.wp P a w K Q := by
  obtain ⟨c0, hc0⟩ : ∃ c : Array Value, (Array.range (n * size)).map (z.cells[· % z.cells.size]!) = c := ⟨_, rfl⟩
  have hcl : c0.toList.length = vs.length * size := by rw [← hc0]; simp [hl]
  have hf := fill_rows size vs 0 [] c0.toList hs (by simp) hcl
  simp only [List.nil_append, Array.toArray_toList] at hf
  have hrun : (Instr.buildSlice t n (parts.map fun (i, x) => (i, a.eval x))).run P w = .ok (.slice (some ⟨w.heap.size, 0, none⟩) n n) (w.alloc (.cells (vs.flatMap (·.cells.toList)).toArray e)) := by
    unfold Instr.buildSlice
    have h1 : ¬ n * size > 2 ^ 24 := by omega
    have h2 : ¬ n * size = 0 := by omega
    simp [Sem.run_bind, run_underlying hu, sizeOf, typeInfo, hi, hsz, h1, h2, zeroValue, hz, hc0, newRow]
    have hp' : List.map (fun x => (x.fst, a.eval x.snd)) parts.toList = List.map (fun p => (p.snd, p.fst)) vs.zipIdx := by simpa using hp
    rw [hp', hf]
    simp
  unfold Oper.wp execOp
  simp only [ho, Sem.run_bind, Sem.run_pure, hrun, Result.andThen_ok]
  exact h
end Go.Proofs.Ytgbgahdeopedpaa
