/- Arguments opened: lists of strings. -/
import Derived.Test.YtkjdigojajcgkaaGreatDoorOp
import Derived.Test.YtkjdigojajcgkaaGreatDoorSw2
namespace Go.Proofs.YtkjdigojajcgkaaGreatDoor
open Go.ChangeShapes Go.WideShapes Go.Deep Go.RowKit
open Opn

theorem choose_list {α : Type} (Q : Nat → α → Prop) : ∀ n : Nat, (∀ i, i < n → ∃ a, Q i a) → ∃ l : List α, l.length = n ∧ ∀ i (hi : i < l.length), Q i l[i]
  | 0, _ => ⟨[], rfl, fun i hi => absurd hi (Nat.not_lt_zero i)⟩
  | n + 1, h => by
    obtain ⟨l, hl, hq⟩ := choose_list Q n (fun i hi => h i (by omega))
    obtain ⟨a, ha⟩ := h n (by omega)
    refine ⟨l ++ [a], by simp [hl], fun i hi => ?_⟩
    by_cases hin : i < l.length
    · rw [List.getElem_append_left hin]; exact hq i hin
    · have : i = l.length := by simp at hi; omega
      subst this
      rw [List.getElem_append_right (Nat.le_refl _)]
      simp only [Nat.sub_self, List.getElem_cons_zero]
      rw [hl]; exact ha

theorem open_strs {H : Type} {enc : TypeId × Value → H} {w : World} {fuel : Nat} {cs : List Value} {x : DataW H × List MemPlace}
    (h : DataW.trod enc Tryz.prog w 0 (fun _ => true) true fuel 22 cs = some x) (hw : ∀ y ∈ DataW.weights Tryz.prog 22 x.1, y ≤ reachBytes) :
    ∃ (a : Option Addr) (ls : List (List UInt8)) (cap : Nat), cs = [.slice a ls.length cap] ∧ ls.length ≤ cap ∧ cap ≤ maxLen ∧ StrsAt w a ls ∧ ∀ l ∈ ls, l.length ≤ 140737488351232 := by
  obtain ⟨a, len, cap, hcs, hl, hm, hb, hr⟩ := open_sl Tryz.underlying22 (show Tryz.prog.cellsOf 9 = 1 by kernel_rfl) (by decide) h hw
  rw [show Tryz.prog.bytesOf 9 = 16 by kernel_rfl] at hb
  have hb' : len * 16 ≤ 140737488351232 := hb
  rcases hr with rfl | ⟨b, off, rfl, hblt, hc⟩
  · exact ⟨a, [], cap, hcs, hl, hm, ⟨by simp, .inl rfl⟩, by simp⟩
  · obtain ⟨ls, hls, hq⟩ := choose_list (fun i (l : List UInt8) => w.cell? ⟨b, off + i, none⟩ = some (.string ⟨l.toArray⟩) ∧ l.length ≤ 140737488351232) len (fun i hi => by
      obtain ⟨cs', y, n, h1, h2, h3, h4⟩ := hc i hi
      obtain ⟨l, rfl, hl2⟩ := open_str Tryz.underlying9 h3 h4
      exact ⟨l, by have := h2 0 (by decide); simpa using this, hl2⟩)
    subst hls
    refine ⟨_, ls, cap, hcs, hl, hm, ⟨by omega, .inr ⟨b, off, rfl, hblt, fun i hi => ?_⟩⟩, fun l hl => ?_⟩
    · rw [(hq i hi).1]; simp [List.getD, hi]
    · obtain ⟨i, hi, rfl⟩ := List.getElem_of_mem hl
      exact (hq i hi).2

set_option maxRecDepth 100000 in
theorem strs_arg {H : Type} {enc : TypeId × Value → H} {w : World} {base : Nat} {v : Value} {d : DataW H} {p : List MemPlace}
    (k : DataW.Trod enc Tryz.prog w 0 (fun _ => true) true 22 v d p) (o : Value.okWide Tryz.prog w .any base 22 v) (s : ∀ y ∈ DataW.weights Tryz.prog 22 d, y ≤ reachBytes) :
    ∃ (a : Option Addr) (ls : List (List UInt8)) (cap : Nat), v = .slice a ls.length cap ∧ ls.length ≤ cap ∧ cap ≤ maxLen ∧ StrsAt w a ls ∧ ∀ l ∈ ls, l.length ≤ 140737488351232 := by
  obtain ⟨fuel, hf⟩ := k
  obtain ⟨a, ls, cap, hcs, h⟩ := open_strs hf s
  obtain ⟨a1, l1, c1, rfl⟩ := okWide_slice Tryz.underlying22 o
  simp [Value.cells] at hcs
  obtain ⟨rfl, rfl, rfl⟩ := hcs
  exact ⟨_, _, _, rfl, h⟩
end Go.Proofs.YtkjdigojajcgkaaGreatDoor
