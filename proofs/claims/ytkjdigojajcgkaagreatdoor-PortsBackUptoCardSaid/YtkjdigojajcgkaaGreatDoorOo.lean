/- Arguments opened: outcomes, with their bulk. -/
import Derived.Test.YtkjdigojajcgkaaGreatDoorOq
import Derived.Test.YtkjdigojajcgkaaGreatDoorPw1
namespace Go.Proofs.YtkjdigojajcgkaaGreatDoor
open Go.ChangeShapes Go.WideShapes Go.Deep Go.RowKit
open Opn
open Pt (Oc)

theorem cellsOc : Tryz.prog.cellsOf 25 = 4 := by kernel_rfl
set_option maxRecDepth 100000 in
theorem oc_arg {H : Type} {enc : TypeId × Value → H} {w : World} {base : Nat} {v : Value} {d : DataW H} {p : List MemPlace}
    (k : DataW.Trod enc Tryz.prog w 0 (fun _ => true) true 25 v d p) (o : Value.okWide Tryz.prog w .any base 25 v) (s : ∀ y ∈ DataW.weights Tryz.prog 25 d, y ≤ reachBytes) :
    ∃ oc : Oc, OcAt w v oc ∧ oc.out.flatten.length + oc.out.length ≤ Rows.uptoBulk d ∧ oc.exn.length ≤ Rows.uptoBulk d := by
  obtain ⟨fuel, hf⟩ := k
  obtain ⟨cs, rfl, hsz⟩ := okWide_struct Tryz.underlying25 o
  obtain ⟨hlen, hfs⟩ := open_st2 Tryz.underlying25 hf s
  obtain ⟨l⟩ := cs
  rw [cellsOc] at hlen
  obtain ⟨y0, n0, h0, s0, b0⟩ := hfs 0 _ rfl
  obtain ⟨y1, n1, h1, s1, b1⟩ := hfs 1 _ rfl
  obtain ⟨y2, n2, h2, s2, b2⟩ := hfs 2 _ rfl
  obtain ⟨y3, n3, h3, s3, b3⟩ := hfs 3 _ rfl
  obtain ⟨a, ls, cap, e0, hl, hm, hs, hb⟩ := open_strs2 h0 s0
  obtain ⟨st, e1, _⟩ := open_in (k := .i64) Tryz.underlying23 h1
  obtain ⟨ex, e2, hx⟩ := open_str2 Tryz.underlying9 h2
  obtain ⟨sp, e3, _⟩ := open_in (k := .i64) Tryz.underlying3 h3
  have c0 : Tryz.prog.cellsOf 22 = 1 := by kernel_rfl
  have c1 : Tryz.prog.cellsOf 23 = 1 := by kernel_rfl
  have c2 : Tryz.prog.cellsOf 9 = 1 := by kernel_rfl
  have c3 : Tryz.prog.cellsOf 3 = 1 := by kernel_rfl
  have hlen4 : l.length = 4 := hlen
  have f0 : (l.drop 0).take (Tryz.prog.cellsOf 22) = [.slice a ls.length cap] := e0
  have f1 : (l.drop 1).take (Tryz.prog.cellsOf 23) = [.int .i64 st] := e1
  have f2 : (l.drop 2).take (Tryz.prog.cellsOf 9) = [.string ⟨ex.toArray⟩] := e2
  have f3 : (l.drop 3).take (Tryz.prog.cellsOf 3) = [.int .i64 sp] := e3
  rw [c0] at f0
  rw [c1] at f1
  rw [c2] at f2
  rw [c3] at f3
  clear e0 e1 e2 e3 hf hfs h0 h1 h2 h3 o hsz hlen
  match l, hlen4 with
  | [v0, v1, v2, v3], _ =>
    simp only [List.drop_zero, List.drop_succ_cons, List.take_succ_cons, List.take_zero, List.cons.injEq, and_true] at f0 f1 f2 f3
    subst f0; subst f1; subst f2; subst f3
    refine ⟨⟨ls, st, ex, sp⟩, ⟨a, cap, rfl, hs, hl⟩, ?_⟩
    show ls.flatten.length + ls.length ≤ _ ∧ ex.length ≤ _
    have b0' : Rows.uptoBulk y0.1 + 1 ≤ Rows.uptoBulk d := b0
    have b2' : Rows.uptoBulk y2.1 + 1 ≤ Rows.uptoBulk d := b2
    exact ⟨by omega, by omega⟩
end Go.Proofs.YtkjdigojajcgkaaGreatDoor
