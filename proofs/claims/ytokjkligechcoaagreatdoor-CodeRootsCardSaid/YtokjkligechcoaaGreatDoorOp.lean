/- Arguments opened: a slice of whatever elements, cell by cell; a struct, field by field; with the bulk of each. For any program. -/
import Derived.Deep.Slices
import Derived.Deep.Fields
import Derived.ChangeSame
import Derived.ChangeArms
import Derived.WideShapes
import Derived.LaidLaws
import Derived.DataShut
namespace Go.Proofs.YtokjkligechcoaaGreatDoor.Opn
open Go.ChangeShapes Go.WideShapes Go.Deep
variable {H : Type} {enc : TypeId × Value → H} {P : Program} {w : World} {base : Nat} {spare : Nat → Bool} {held : Bool}

theorem mem_all {e : TypeId} {l : List (DataW H)} {d : DataW H} (h : d ∈ l) {z : Nat} (hz : z ∈ DataW.weights P e d) : z ∈ DataW.weightsAll P e l := by
  induction l with
  | nil => cases h
  | cons x r ih =>
    unfold DataW.weightsAll
    rcases List.mem_cons.1 h with rfl | h
    · exact List.mem_append_left _ hz
    · exact List.mem_append_right _ (ih h)

theorem mem_each {ts : List TypeId} {l : List (DataW H)} {i : Nat} {t : TypeId} {d : DataW H} (ht : ts[i]? = some t) (h : l[i]? = some d) {z : Nat} (hz : z ∈ DataW.weights P t d) : z ∈ DataW.weightsEach P ts l := by
  induction ts generalizing l i with
  | nil => cases ht
  | cons t0 ts ih =>
    cases l with
    | nil => cases h
    | cons x r =>
      unfold DataW.weightsEach
      cases i with
      | zero => cases ht; cases h; exact List.mem_append_left _ hz
      | succ i => exact List.mem_append_right _ (ih ht h)

/-- A slice's elements, cell by cell. -/
theorem open_sl {t e : TypeId} {C fuel : Nat} {cs : List Value} {x : DataW H × List MemPlace} (ht : P.underlying t = some (.slice e)) (hC : P.cellsOf e = C) (hC0 : 0 < C)
    (h : DataW.trod enc P w base spare held fuel t cs = some x) (hw : ∀ y ∈ DataW.weights P t x.1, y ≤ reachBytes) :
    ∃ (a : Option Addr) (len cap : Nat), cs = [.slice a len cap] ∧ len ≤ cap ∧ cap ≤ maxLen ∧ len * P.bytesOf e ≤ reachBytes ∧
      (len = 0 ∨ ∃ b off, a = some ⟨b, off, none⟩ ∧ b < w.heap.size ∧ ∀ i, i < len → ∃ (cs' : List Value) (y : DataW H × List MemPlace) (n : Nat), cs'.length = C ∧ (∀ j, j < C → w.cell? ⟨b, off + (i * C + j), none⟩ = cs'[j]?) ∧
        DataW.trod enc P w base spare held n e cs' = some y ∧ ∀ z ∈ DataW.weights P e y.1, z ≤ reachBytes) := by
  rcases open_slice ht h with ⟨rfl, rfl⟩ | ⟨a, len, cap, m, n, D, Pl, rfl, hb, hl, hm, hmm, rfl, hi⟩
  · exact ⟨none, 0, 0, rfl, Nat.le_refl _, Nat.zero_le _, by omega, .inl rfl⟩
  · have hmm' : len ≤ m := by rw [hmm]; split <;> omega
    have hwt : ∀ y, y ∈ ((((List.range len).map D).length + ((List.range (m - len)).map fun j => D (len + j)).length) * P.bytesOf e :: (DataW.weightsAll P e ((List.range len).map D) ++ DataW.weightsAll P e ((List.range (m - len)).map fun j => D (len + j)))) → y ≤ reachBytes := by
      intro y hy
      apply hw
      unfold DataW.weights
      rw [ht]; exact hy
    refine ⟨some a, len, cap, rfl, hl, hm, ?_, ?_⟩
    · have h1 := hwt _ List.mem_cons_self
      simp only [List.length_map, List.length_range] at h1
      rw [show len + (m - len) = m by omega] at h1
      exact Nat.le_trans (Nat.mul_le_mul_right _ hmm') h1
    · by_cases h0 : len = 0
      · exact .inl h0
      · right
        obtain ⟨b, off, spot⟩ := a
        have key : ∀ i, i < len → ∃ (cs' : List Value), cs'.length = C ∧ (∀ j, j < C → w.cell? ((⟨b, off, spot⟩ : Addr).add (i * C + j)) = cs'[j]?) ∧ DataW.trod enc P w base spare held n e cs' = some (D i, Pl i) := by
          intro i hil
          obtain ⟨cs', hc, ht'⟩ := hi i (by omega)
          rw [hC] at hc
          obtain ⟨_, hcl, hat⟩ := World.cells?_some hc
          refine ⟨cs', hcl, fun j hj => ?_, ht'⟩
          rw [← hat j hj, add_add]
        obtain ⟨cs0, hl0, hc0, _⟩ := key 0 (by omega)
        have hc00 := hc0 0 hC0
        rw [List.getElem?_eq_getElem (by omega)] at hc00
        have hs : spot = none := by simpa [Addr.add] using World.cell?_spot hc00
        subst hs
        have hblt : b < w.heap.size := World.block_lt_of_cell? w (⟨b, off, none⟩ : Addr) (by simpa [Addr.add] using hc00)
        refine ⟨b, off, rfl, hblt, fun i hil => ?_⟩
        obtain ⟨cs', h1, h2, h3⟩ := key i hil
        refine ⟨cs', _, n, h1, fun j hj => ?_, h3, fun z hz => hwt z (List.mem_cons_of_mem _ (List.mem_append_left _ (mem_all (List.mem_map.2 ⟨i, List.mem_range.2 hil, rfl⟩) hz)))⟩
        rw [← h2 j hj]
        unfold Addr.add
        split
        next g => rw [g]; rfl
        next => rfl

/-- A struct's fields, one by one. -/
theorem open_st {t : TypeId} {fs : Array Field} {fuel : Nat} {cs : List Value} {x : DataW H × List MemPlace} (ht : P.underlying t = some (.struct fs))
    (h : DataW.trod enc P w base spare held fuel t cs = some x) (hw : ∀ y ∈ DataW.weights P t x.1, y ≤ reachBytes) :
    cs.length = P.cellsOf t ∧ ∀ (i : Nat) (f : Field), fs[i]? = some f → ∃ (y : DataW H × List MemPlace) (n : Nat), DataW.trod enc P w base spare held n f.type ((cs.drop f.offset).take (P.cellsOf f.type)) = some y ∧ ∀ z ∈ DataW.weights P f.type y.1, z ≤ reachBytes := by
  obtain ⟨xs, n, rfl, rfl, hlen, hxs, hf⟩ := DataW.trod_struct ht h
  refine ⟨hlen, fun i f hi => ?_⟩
  have hilt : i < fs.size := (Array.getElem?_eq_some_iff.1 hi).1
  have h1 := hf i f hi
  rw [List.getElem?_eq_getElem (by omega)] at h1
  refine ⟨_, n, h1, fun z hz => hw z ?_⟩
  unfold DataW.weights
  rw [ht]
  refine mem_each (i := i) (t := f.type) ?_ (d := (xs[i]'(by omega)).1) ?_ hz
  · have hi' : fs.toList[i]? = some f := by simpa using hi
    rw [List.getElem?_map, hi']; rfl
  · rw [List.getElem?_map, List.getElem?_eq_getElem (by omega)]; rfl

theorem open_str {t : TypeId} {fuel : Nat} {cs : List Value} {x : DataW H × List MemPlace} (ht : P.underlying t = some .string)
    (h : DataW.trod enc P w base spare held fuel t cs = some x) (hw : ∀ y ∈ DataW.weights P t x.1, y ≤ reachBytes) : ∃ l : List UInt8, cs = [.string ⟨l.toArray⟩] ∧ l.length ≤ 140737488351232 := by
  obtain ⟨s, rfl, rfl, _⟩ := DataW.trod_string ht h
  refine ⟨s.data.toList, by simp, ?_⟩
  have := hw _ (by unfold DataW.weights; exact List.mem_singleton.2 rfl)
  exact this

theorem open_in {t : TypeId} {k : IntKind} {fuel : Nat} {cs : List Value} {x : DataW H × List MemPlace} (ht : P.underlying t = some (.int k))
    (h : DataW.trod enc P w base spare held fuel t cs = some x) : ∃ n : Int, cs = [.int k n] ∧ k.min ≤ n ∧ n ≤ k.max := by
  obtain ⟨n, rfl, _, hwf⟩ := DataW.trod_int ht h
  exact ⟨n, rfl, (Lit.wf_int_iff k n).1 hwf⟩
end Go.Proofs.YtokjkligechcoaaGreatDoor.Opn
