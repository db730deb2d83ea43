/- Arguments opened, with their bulk besides. -/
import Derived.Test.YtkjdigojajcgkaaGreatDoorRows
import Derived.Test.YtkjdigojajcgkaaGreatDoorOp
import Derived.Test.YtkjdigojajcgkaaGreatDoorOs
namespace Go.Proofs.YtkjdigojajcgkaaGreatDoor.Opn
open Go.ChangeShapes Go.WideShapes Go.Deep
variable {H : Type} {enc : TypeId × Value → H} {P : Program} {w : World} {base : Nat} {spare : Nat → Bool} {held : Bool}

theorem one_le (d : DataW H) : 1 ≤ Rows.uptoBulk d := by
  cases d with
  | lit l => cases l <;> simp [Rows.uptoBulk]
  | nil => simp [Rows.uptoBulk]
  | ptr d => simp [Rows.uptoBulk]
  | slice elems spare => simp [Rows.uptoBulk]
  | agg parts => simp [Rows.uptoBulk]
  | iface t d => simp [Rows.uptoBulk]
  | map entries => simp [Rows.uptoBulk]
  | held h => simp [Rows.uptoBulk]

theorem part_le {d : DataW H} {l : List (DataW H)} (h : d ∈ l) : Rows.uptoBulk d ≤ Rows.uptoBulkAll l := by
  induction l with
  | nil => cases h
  | cons x r ih =>
    simp only [Rows.uptoBulkAll]
    cases List.mem_cons.1 h with
    | inl e => subst e; omega
    | inr e => have := ih e; omega

/-- A slice's elements, cell by cell. -/
theorem open_sl2 {t e : TypeId} {C fuel : Nat} {cs : List Value} {x : DataW H × List MemPlace} (ht : P.underlying t = some (.slice e)) (hC : P.cellsOf e = C) (hC0 : 0 < C)
    (h : DataW.trod enc P w base spare held fuel t cs = some x) (hw : ∀ y ∈ DataW.weights P t x.1, y ≤ reachBytes) :
    ∃ (a : Option Addr) (len cap : Nat) (D : Nat → DataW H) (R : List (DataW H)), cs = [.slice a len cap] ∧ (len = 0 ∨ x.1 = .slice ((List.range len).map D) R) ∧ len ≤ cap ∧ cap ≤ maxLen ∧ len * P.bytesOf e ≤ reachBytes ∧
      (len = 0 ∨ ∃ b off, a = some ⟨b, off, none⟩ ∧ b < w.heap.size ∧ ∀ i, i < len → ∃ (cs' : List Value) (Pl : List MemPlace) (n : Nat), cs'.length = C ∧ (∀ j, j < C → w.cell? ⟨b, off + (i * C + j), none⟩ = cs'[j]?) ∧
        DataW.trod enc P w base spare held n e cs' = some (D i, Pl) ∧ ∀ z ∈ DataW.weights P e (D i), z ≤ reachBytes) := by
  rcases open_slice ht h with ⟨rfl, rfl⟩ | ⟨a, len, cap, m, n, D, Pl, rfl, hb, hl, hm, hmm, rfl, hi⟩
  · exact ⟨none, 0, 0, fun _ => .nil, [], rfl, .inl rfl, Nat.le_refl _, Nat.zero_le _, by omega, .inl rfl⟩
  · have hmm' : len ≤ m := by rw [hmm]; split <;> omega
    have hwt : ∀ y, y ∈ ((((List.range len).map D).length + ((List.range (m - len)).map fun j => D (len + j)).length) * P.bytesOf e :: (DataW.weightsAll P e ((List.range len).map D) ++ DataW.weightsAll P e ((List.range (m - len)).map fun j => D (len + j)))) → y ≤ reachBytes := by
      intro y hy
      apply hw
      unfold DataW.weights
      rw [ht]; exact hy
    refine ⟨some a, len, cap, D, _, rfl, .inr rfl, hl, hm, ?_, ?_⟩
    · have h1 := hwt _ List.mem_cons_self
      simp only [List.length_map, List.length_range] at h1
      rw [show len + (m - len) = m by omega] at h1
      exact Nat.le_trans (Nat.mul_le_mul_right _ hmm') h1
    · by_cases h0 : len = 0
      · exact .inl h0
      · right
        obtain ⟨b, off, spot⟩ := a
        have key : ∀ i, i < len → ∃ (cs' : List Value), cs'.length = C ∧ (∀ j, j < C → w.cell? ((⟨b, off, spot⟩ : Addr).add (i * C + j)) = cs'[j]?) ∧ DataW.trod enc P w base spare held n e cs' = some (D i, Pl i) := by
          intro i hil
          obtain ⟨cs', hc, ht'⟩ := hi i (by omega)
          rw [hC] at hc
          obtain ⟨_, hcl, hat⟩ := World.cells?_some hc
          refine ⟨cs', hcl, fun j hj => ?_, ht'⟩
          rw [← hat j hj, add_add]
        obtain ⟨cs0, hl0, hc0, _⟩ := key 0 (by omega)
        have hc00 := hc0 0 hC0
        rw [List.getElem?_eq_getElem (by omega)] at hc00
        have hs : spot = none := by simpa [Addr.add] using World.cell?_spot hc00
        subst hs
        have hblt : b < w.heap.size := World.block_lt_of_cell? w (⟨b, off, none⟩ : Addr) (by simpa [Addr.add] using hc00)
        refine ⟨b, off, rfl, hblt, fun i hil => ?_⟩
        obtain ⟨cs', h1, h2, h3⟩ := key i hil
        refine ⟨cs', _, n, h1, fun j hj => ?_, h3, fun z hz => hwt z (List.mem_cons_of_mem _ (List.mem_append_left _ (mem_all (List.mem_map.2 ⟨i, List.mem_range.2 hil, rfl⟩) hz)))⟩
        rw [← h2 j hj]
        unfold Addr.add
        split
        next g => rw [g]; rfl
        next => rfl

/-- A struct's fields, one by one. -/
theorem open_st2 {t : TypeId} {fs : Array Field} {fuel : Nat} {cs : List Value} {x : DataW H × List MemPlace} (ht : P.underlying t = some (.struct fs))
    (h : DataW.trod enc P w base spare held fuel t cs = some x) (hw : ∀ y ∈ DataW.weights P t x.1, y ≤ reachBytes) :
    cs.length = P.cellsOf t ∧ ∀ (i : Nat) (f : Field), fs[i]? = some f → ∃ (y : DataW H × List MemPlace) (n : Nat), DataW.trod enc P w base spare held n f.type ((cs.drop f.offset).take (P.cellsOf f.type)) = some y ∧ (∀ z ∈ DataW.weights P f.type y.1, z ≤ reachBytes) ∧ Rows.uptoBulk y.1 + 1 ≤ Rows.uptoBulk x.1 := by
  obtain ⟨xs, n, rfl, rfl, hlen, hxs, hf⟩ := DataW.trod_struct ht h
  refine ⟨hlen, fun i f hi => ?_⟩
  have hilt : i < fs.size := (Array.getElem?_eq_some_iff.1 hi).1
  have h1 := hf i f hi
  rw [List.getElem?_eq_getElem (by omega)] at h1
  refine ⟨_, n, h1, fun z hz => hw z ?_, ?_⟩
  rotate_left
  · show _ ≤ Rows.uptoBulk (.agg _)
    have := part_le (d := (xs[i]'(by omega)).1) (l := xs.map (·.1)) (List.mem_map.2 ⟨_, List.getElem_mem _, rfl⟩)
    simp only [Rows.uptoBulk]; omega
  unfold DataW.weights
  rw [ht]
  refine mem_each (i := i) (t := f.type) ?_ (d := (xs[i]'(by omega)).1) ?_ hz
  · have hi' : fs.toList[i]? = some f := by simpa using hi
    rw [List.getElem?_map, hi']; rfl
  · rw [List.getElem?_map, List.getElem?_eq_getElem (by omega)]; rfl


theorem open_str2 {t : TypeId} {fuel : Nat} {cs : List Value} {x : DataW H × List MemPlace} (ht : P.underlying t = some .string)
    (h : DataW.trod enc P w base spare held fuel t cs = some x) : ∃ l : List UInt8, cs = [.string ⟨l.toArray⟩] ∧ l.length + 1 = Rows.uptoBulk x.1 := by
  obtain ⟨s, rfl, rfl, _⟩ := DataW.trod_string ht h
  exact ⟨s.data.toList, by simp, by simp [Rows.uptoBulk]⟩

/-- a list of strings is no longer than its bulk -/
theorem bulk_flat (f : Nat → DataW H) : ∀ (ls : List (List UInt8)) (k : Nat), (∀ i (hi : i < ls.length), (ls[i]).length + 1 = Rows.uptoBulk (f (k + i))) → ls.flatten.length + ls.length ≤ Rows.uptoBulkAll ((List.range ls.length).map fun i => f (k + i))
  | [], _, _ => by simp
  | l :: ls, k, h => by
    have h0 := h 0 (by simp)
    have ih := bulk_flat f ls (k + 1) (fun i hi => by have := h (i + 1) (by simp; omega); simp at this; rw [this]; congr 2; omega)
    rw [List.length_cons, List.range_succ_eq_map, List.map_cons, List.map_map]
    simp only [Rows.uptoBulkAll, List.flatten_cons, List.length_append]
    simp at h0
    have e : (List.map ((fun i => f (k + i)) ∘ Nat.succ) (List.range ls.length)) = (List.range ls.length).map fun i => f (k + 1 + i) := by
      refine List.map_congr_left fun i _ => ?_
      show f (k + (i + 1)) = _; congr 1; omega
    have e0 : Rows.uptoBulk (f (k + 0)) = Rows.uptoBulk (f k) := by rw [Nat.add_zero]
    rw [e]; omega
end Go.Proofs.YtkjdigojajcgkaaGreatDoor.Opn
namespace Go.Proofs.YtkjdigojajcgkaaGreatDoor
open Go.ChangeShapes Go.WideShapes Go.Deep Go.RowKit
open Opn

theorem open_strs2 {H : Type} {enc : TypeId × Value → H} {w : World} {fuel : Nat} {cs : List Value} {x : DataW H × List MemPlace}
    (h : DataW.trod enc Tryz.prog w 0 (fun _ => true) true fuel 22 cs = some x) (hw : ∀ y ∈ DataW.weights Tryz.prog 22 x.1, y ≤ reachBytes) :
    ∃ (a : Option Addr) (ls : List (List UInt8)) (cap : Nat), cs = [.slice a ls.length cap] ∧ ls.length ≤ cap ∧ cap ≤ maxLen ∧ StrsAt w a ls ∧ ls.flatten.length + ls.length ≤ Rows.uptoBulk x.1 := by
  obtain ⟨a, len, cap, D, R, hcs, hx, hl, hm, hb, hr⟩ := open_sl2 Tryz.underlying22 (show Tryz.prog.cellsOf 9 = 1 by kernel_rfl) (by decide) h hw
  rw [show Tryz.prog.bytesOf 9 = 16 by kernel_rfl] at hb
  have hb' : len * 16 ≤ 140737488351232 := hb
  by_cases h0 : len = 0
  · subst h0
    exact ⟨a, [], cap, hcs, hl, hm, ⟨by simp, .inl rfl⟩, by simp⟩
  · obtain ⟨b, off, rfl, hblt, hc⟩ := hr.resolve_left h0
    obtain ⟨ls, hls, hq⟩ := choose_list (fun i (l : List UInt8) => w.cell? ⟨b, off + i, none⟩ = some (.string ⟨l.toArray⟩) ∧ l.length + 1 = Rows.uptoBulk (D i)) len (fun i hi => by
      obtain ⟨cs', Pl, n, h1, h2, h3, h4⟩ := hc i hi
      obtain ⟨l, rfl, hl2⟩ := open_str2 Tryz.underlying9 h3
      exact ⟨l, by have := h2 0 (by decide); simpa using this, hl2⟩)
    subst hls
    refine ⟨_, ls, cap, hcs, hl, hm, ⟨by omega, .inr ⟨b, off, rfl, hblt, fun i hi => ?_⟩⟩, ?_⟩
    · rw [(hq i hi).1]; simp [List.getD, hi]
    · have h1 := bulk_flat D ls 0 (fun i hi => by rw [Nat.zero_add]; exact (hq i hi).2)
      rw [hx.resolve_left h0]
      simp only [Nat.zero_add] at h1
      simp only [Rows.uptoBulk]
      have e : (List.map (fun i => D i) (List.range ls.length)) = List.map D (List.range ls.length) := rfl
      rw [e] at h1; omega

end Go.Proofs.YtkjdigojajcgkaaGreatDoor
