/- Arguments opened: an image, with all that its program holds. -/
import Derived.Test.YtgbgahdeopedpaaOz
namespace Go.Proofs.Ytgbgahdeopedpaa
open Go.ChangeShapes Go.WideShapes Go.Deep Go.RowKit
open Opn
set_option linter.unusedVariables false

section
variable {H : Type} {enc : TypeId × Value → H} {w : World}
set_option maxRecDepth 100000 in
theorem image_arg2 {base : Nat} {v : Value} {d : DataW H} {p : List MemPlace}
    (k : DataW.Trod enc Try.prog w 0 (fun _ => true) true 33 v d p) (o : Value.okWide Try.prog w .any base 33 v) (s : ∀ y ∈ DataW.weights Try.prog 33 d, y ≤ reachBytes) :
    ∃ (T Y : List UInt8) (fa sa ra : Option Addr) (fc sc rc : Nat) (P : Pg), v = .agg #[.string ⟨T.toArray⟩, .string ⟨Y.toArray⟩, .slice fa P.fs.length fc, .slice sa P.ss.length sc, .slice ra P.us.length rc, .int .i64 P.en] ∧ T.length ≤ maxLen ∧ Y.length ≤ maxLen ∧ PgAt w fa sa ra P ∧ PgR P := by
  obtain ⟨fuel, hf⟩ := k
  obtain ⟨cs, rfl, hsz⟩ := okWide_struct Try.underlying33 o
  obtain ⟨hlen, hfs⟩ := open_st Try.underlying33 hf s
  obtain ⟨l⟩ := cs
  obtain ⟨y0, n0, h0, s0⟩ := hfs 0 _ rfl
  obtain ⟨y1, n1, h1, s1⟩ := hfs 1 _ rfl
  obtain ⟨y2, n2, h2, s2⟩ := hfs 2 _ rfl
  obtain ⟨T, e0, hT⟩ := open_str Try.underlying9 h0 s0
  obtain ⟨Y, e1, hY⟩ := open_str Try.underlying9 h1 s1
  have c0 : Try.prog.cellsOf 9 = 1 := by kernel_rfl
  have c1 : Try.prog.cellsOf 31 = 4 := by kernel_rfl
  have hlen6 : l.length = 6 := by rw [show Try.prog.cellsOf 33 = 6 by kernel_rfl] at hlen; exact hlen
  have h2' : Rd enc w n2 31 ((l.drop 2).take (Try.prog.cellsOf 31)) y2 := h2
  rw [c1] at h2'
  obtain ⟨fa, sa, ra, fc, sc, rc, P, g, hP, hR⟩ := open_prog h2' s2 (by simp; omega)
  have f0 : (l.drop 0).take (Try.prog.cellsOf 9) = [.string ⟨T.toArray⟩] := e0
  have f1 : (l.drop 1).take (Try.prog.cellsOf 9) = [.string ⟨Y.toArray⟩] := e1
  rw [c0] at f0 f1
  clear e0 e1 hf hfs h0 h1 h2 h2' o hsz hlen
  match l, hlen6 with
  | [v0, v1, v2, v3, v4, v5], _ =>
    simp only [List.drop_zero, List.drop_succ_cons, List.take_succ_cons, List.take_zero, List.cons.injEq, and_true] at f0 f1 g
    obtain ⟨g2, g3, g4, g5⟩ := g
    subst f0; subst f1; subst g2; subst g3; subst g4; subst g5
    exact ⟨T, Y, fa, sa, ra, fc, sc, rc, P, rfl, by unfold maxLen; omega, by unfold maxLen; omega, hP, hR⟩
set_option maxRecDepth 100000 in
theorem image_arg {base : Nat} {v : Value} {d : DataW H} {p : List MemPlace}
    (k : DataW.Trod enc Try.prog w 0 (fun _ => true) true 33 v d p) (o : Value.okWide Try.prog w .any base 33 v) (s : ∀ y ∈ DataW.weights Try.prog 33 d, y ≤ reachBytes) :
    ∃ (T Y : List UInt8) (fa sa ra : Option Addr) (fc sc rc : Nat) (P : Pg), v = .agg #[.string ⟨T.toArray⟩, .string ⟨Y.toArray⟩, .slice fa P.fs.length fc, .slice sa P.ss.length sc, .slice ra P.us.length rc, .int .i64 P.en] ∧ T.length ≤ maxLen ∧ Y.length ≤ maxLen ∧ PgAt w fa sa ra P := by
  obtain ⟨T, Y, fa, sa, ra, fc, sc, rc, P, h1, h2, h3, h4, _⟩ := image_arg2 k o s
  exact ⟨T, Y, fa, sa, ra, fc, sc, rc, P, h1, h2, h3, h4⟩
end
end Go.Proofs.Ytgbgahdeopedpaa
/- Arguments opened: bytes, with their bulk. -/
namespace Go.Proofs.Ytgbgahdeopedpaa.Opn
open Go.ChangeShapes Go.WideShapes Go.Deep
variable {H : Type} {enc : TypeId × Value → H} {P : Program} {w : World} {base : Nat} {spare : Nat → Bool} {held : Bool}

theorem one_le (d : DataW H) : 1 ≤ Rows.uptoBulk d := by
  cases d with
  | lit l => cases l <;> simp [Rows.uptoBulk]
  | nil => simp [Rows.uptoBulk]
  | ptr d => simp [Rows.uptoBulk]
  | slice elems spare => simp [Rows.uptoBulk]
  | agg parts => simp [Rows.uptoBulk]
  | iface t d => simp [Rows.uptoBulk]
  | map entries => simp [Rows.uptoBulk]
  | held h => simp [Rows.uptoBulk]

/-- A slice's elements, cell by cell. -/
theorem open_sl2 {t e : TypeId} {C fuel : Nat} {cs : List Value} {x : DataW H × List MemPlace} (ht : P.underlying t = some (.slice e)) (hC : P.cellsOf e = C) (hC0 : 0 < C)
    (h : DataW.trod enc P w base spare held fuel t cs = some x) (hw : ∀ y ∈ DataW.weights P t x.1, y ≤ reachBytes) :
    ∃ (a : Option Addr) (len cap : Nat) (D : Nat → DataW H) (R : List (DataW H)), cs = [.slice a len cap] ∧ (len = 0 ∨ x.1 = .slice ((List.range len).map D) R) ∧ len ≤ cap ∧ cap ≤ maxLen ∧ len * P.bytesOf e ≤ reachBytes ∧ (a = none → cap = 0) ∧
      (len = 0 ∨ ∃ b off, a = some ⟨b, off, none⟩ ∧ b < w.heap.size ∧ ∀ i, i < len → ∃ (cs' : List Value) (Pl : List MemPlace) (n : Nat), cs'.length = C ∧ (∀ j, j < C → w.cell? ⟨b, off + (i * C + j), none⟩ = cs'[j]?) ∧
        DataW.trod enc P w base spare held n e cs' = some (D i, Pl) ∧ ∀ z ∈ DataW.weights P e (D i), z ≤ reachBytes) := by
  rcases open_slice ht h with ⟨rfl, rfl⟩ | ⟨a, len, cap, m, n, D, Pl, rfl, hb, hl, hm, hmm, rfl, hi⟩
  · exact ⟨none, 0, 0, fun _ => .nil, [], rfl, .inl rfl, Nat.le_refl _, Nat.zero_le _, by omega, fun _ => rfl, .inl rfl⟩
  · have hmm' : len ≤ m := by rw [hmm]; split <;> omega
    have hwt : ∀ y, y ∈ ((((List.range len).map D).length + ((List.range (m - len)).map fun j => D (len + j)).length) * P.bytesOf e :: (DataW.weightsAll P e ((List.range len).map D) ++ DataW.weightsAll P e ((List.range (m - len)).map fun j => D (len + j)))) → y ≤ reachBytes := by
      intro y hy
      apply hw
      unfold DataW.weights
      rw [ht]; exact hy
    refine ⟨some a, len, cap, D, _, rfl, .inr rfl, hl, hm, ?_, (fun h => by cases h), ?_⟩
    · have h1 := hwt _ List.mem_cons_self
      simp only [List.length_map, List.length_range] at h1
      rw [show len + (m - len) = m by omega] at h1
      exact Nat.le_trans (Nat.mul_le_mul_right _ hmm') h1
    · by_cases h0 : len = 0
      · exact .inl h0
      · right
        obtain ⟨b, off, spot⟩ := a
        have key : ∀ i, i < len → ∃ (cs' : List Value), cs'.length = C ∧ (∀ j, j < C → w.cell? ((⟨b, off, spot⟩ : Addr).add (i * C + j)) = cs'[j]?) ∧ DataW.trod enc P w base spare held n e cs' = some (D i, Pl i) := by
          intro i hil
          obtain ⟨cs', hc, ht'⟩ := hi i (by omega)
          rw [hC] at hc
          obtain ⟨_, hcl, hat⟩ := World.cells?_some hc
          refine ⟨cs', hcl, fun j hj => ?_, ht'⟩
          rw [← hat j hj, add_add]
        obtain ⟨cs0, hl0, hc0, _⟩ := key 0 (by omega)
        have hc00 := hc0 0 hC0
        rw [List.getElem?_eq_getElem (by omega)] at hc00
        have hs : spot = none := by simpa [Addr.add] using World.cell?_spot hc00
        subst hs
        have hblt : b < w.heap.size := World.block_lt_of_cell? w (⟨b, off, none⟩ : Addr) (by simpa [Addr.add] using hc00)
        refine ⟨b, off, rfl, hblt, fun i hil => ?_⟩
        obtain ⟨cs', h1, h2, h3⟩ := key i hil
        refine ⟨cs', _, n, h1, fun j hj => ?_, h3, fun z hz => hwt z (List.mem_cons_of_mem _ (List.mem_append_left _ (mem_all (List.mem_map.2 ⟨i, List.mem_range.2 hil, rfl⟩) hz)))⟩
        rw [← h2 j hj]
        unfold Addr.add
        split
        next g => rw [g]; rfl
        next => rfl

theorem bulk_len (l : List (DataW H)) : l.length ≤ Rows.uptoBulkAll l := by
  induction l with
  | nil => exact Nat.zero_le _
  | cons x r ih =>
    have := one_le x
    simp only [Rows.uptoBulkAll, List.length_cons]
    omega
end Go.Proofs.Ytgbgahdeopedpaa.Opn
namespace Go.Proofs.Ytgbgahdeopedpaa
open Go.ChangeShapes Go.WideShapes Go.Deep Go.RowKit
open Opn
set_option linter.unusedVariables false
set_option maxRecDepth 100000 in
theorem bytes_arg {H : Type} {enc : TypeId × Value → H} {w : World} {base : Nat} {v : Value} {d : DataW H} {p : List MemPlace}
    (k : DataW.Trod enc Try.prog w 0 (fun _ => true) true 22 v d p) (o : Value.okWide Try.prog w .any base 22 v) (s : ∀ y ∈ DataW.weights Try.prog 22 d, y ≤ reachBytes) :
    ∃ (a : Option Addr) (l : List UInt8) (cap : Nat), v = .slice a l.length cap ∧ l.length ≤ cap ∧ (a = none → cap = 0) ∧ BysAt w a l ∧ l.length ≤ Rows.uptoBulk d ∧ l.length ≤ reachBytes := by
  obtain ⟨fuel, hf⟩ := k
  obtain ⟨a, len, cap, D, R, hcs, hx, hl, hm, hb, hn, hr⟩ := open_sl2 Try.underlying22 (show Try.prog.cellsOf 5 = 1 by kernel_rfl) (by decide) hf s
  obtain ⟨a1, l1, c1, rfl⟩ := okWide_slice Try.underlying22 o
  simp [Value.cells] at hcs
  obtain ⟨rfl, rfl, rfl⟩ := hcs
  rw [show Try.prog.bytesOf 5 = 1 by kernel_rfl] at hb
  have hlm : l1 ≤ maxLen := Nat.le_trans hl hm
  by_cases h0 : l1 = 0
  · subst h0
    exact ⟨a1, [], c1, rfl, hl, hn, ⟨by simp, .inl rfl⟩, by simp, by simp⟩
  · obtain ⟨b, off, rfl, hblt, hc⟩ := hr.resolve_left h0
    obtain ⟨ls, hls, hq⟩ := choose_list (fun i (c : UInt8) => w.cell? ⟨b, off + i, none⟩ = some (.int .u8 (c.toNat : Int))) l1 (fun i hi => by
      obtain ⟨cs', Pl, n, h1, h2, h3, h4⟩ := hc i hi
      obtain ⟨z, rfl, hz⟩ := open_in (k := .u8) Try.underlying5 h3
      have hz1 : 0 ≤ z := hz.1
      have hz2 : z ≤ 255 := hz.2
      refine ⟨UInt8.ofNat z.toNat, ?_⟩
      have := h2 0 (by decide)
      have e : ((UInt8.ofNat z.toNat).toNat : Int) = z := by simp; omega
      rw [e]
      simpa using this)
    subst hls
    refine ⟨_, ls, c1, rfl, hl, hn, ⟨hlm, .inr ⟨b, off, rfl, hblt, fun i hi => ?_⟩⟩, ?_, by omega⟩
    · rw [hq i ls[i] (List.getElem?_eq_getElem hi)]; simp [List.getD, hi]
    · have hx2 : d = .slice ((List.range ls.length).map D) R := hx.resolve_left h0
      rw [hx2]
      have := bulk_len (List.map D (List.range ls.length))
      simp at this
      simp only [Rows.uptoBulk]
      omega
end Go.Proofs.Ytgbgahdeopedpaa
