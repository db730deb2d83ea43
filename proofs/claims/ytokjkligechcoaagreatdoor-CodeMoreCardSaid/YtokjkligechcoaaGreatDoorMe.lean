/- CodeMore's argument opened. -/
import Derived.Test.YtokjkligechcoaaGreatDoorOz
set_option linter.unusedVariables false
namespace Go.Proofs.YtokjkligechcoaaGreatDoor
open Go.ChangeShapes Go.WideShapes Go.Deep Go.RowKit
open Opn
section
variable {H : Type} {enc : TypeId × Value → H} {w : World}
theorem prog_room {fuel : Nat} {cs : List Value} {x : DataW H × List MemPlace} (h : Rd enc w fuel 26 cs x) (hw : Wt 26 x.1) {fa sa ra : Option Addr} {nf ns nu fc sc rc : Nat} {e : Value} (hcs : cs = [.slice fa nf fc, .slice sa ns sc, .slice ra nu rc, e]) : ns * 16 ≤ reachBytes ∧ nu * 8 ≤ reachBytes := by
 obtain ⟨-, hps⟩ := open_st Tryz.underlying26 h hw
 obtain ⟨z1, m1, r1, q1⟩ := hps 1 _ rfl
 obtain ⟨z2, m2, r2, q2⟩ := hps 2 _ rfl
 obtain ⟨a, len, cap, hc, -, -, hb, -⟩ := open_sl Tryz.underlying23 (show Tryz.prog.cellsOf 9 = 1 by kernel_rfl) (by decide) r1 q1
 obtain ⟨a2, len2, cap2, hc2, -, -, hb2, -⟩ := open_sl Tryz.underlying24 (show Tryz.prog.cellsOf 45 = 1 by kernel_rfl) (by decide) r2 q2
 rw [show Tryz.prog.bytesOf 9 = 16 by kernel_rfl] at hb
 rw [show Tryz.prog.bytesOf 45 = 8 by kernel_rfl] at hb2
 have f1 : (cs.drop 1).take (Tryz.prog.cellsOf 23) = [.slice a len cap] := hc
 have f2 : (cs.drop 2).take (Tryz.prog.cellsOf 24) = [.slice a2 len2 cap2] := hc2
 rw [show Tryz.prog.cellsOf 23 = 1 by kernel_rfl, hcs] at f1
 rw [show Tryz.prog.cellsOf 24 = 1 by kernel_rfl, hcs] at f2
 simp only [List.drop_succ_cons, List.drop_zero, List.take_succ_cons, List.take_zero, List.cons.injEq, and_true, Value.slice.injEq] at f1 f2
 rw [f1.2.1, f2.2.1]
 exact ⟨hb, hb2⟩
set_option maxRecDepth 100000 in
theorem more_arg {base : Nat} {v : Value} {d : DataW H} {p : List MemPlace}
  (k : DataW.Trod enc Tryz.prog w 0 (fun _ => true) true 50 v d p) (o : Value.okWide Tryz.prog w .any base 50 v) (s : ∀ y ∈ DataW.weights Tryz.prog 50 d, y ≤ reachBytes) :
  ∃ (fa sa ra ca : Option Addr) (fc sc rc cc : Nat) (P : Pg) (S : List UInt8) (u : Int) (f : Fu), v = .agg #[.slice fa P.fs.length fc, .slice sa P.ss.length sc, .slice ra P.us.length rc, .int .i64 P.en, .string ⟨S.toArray⟩, .int .u64 u, .int .i64 f.ps, .int .i64 f.rs, .slice ca f.code.length cc] ∧
   PgAt w fa sa ra P ∧ PgR P ∧ P.ss.length * 16 ≤ reachBytes ∧ P.us.length * 8 ≤ reachBytes ∧ S.length ≤ maxLen ∧ 0 ≤ u ∧ u < 18446744073709551616 ∧ CdAt w ca f.code := by
 obtain ⟨fuel, hf⟩ := k
 obtain ⟨cs, rfl, hsz⟩ := okWide_struct Tryz.underlying50 o
 obtain ⟨hlen, hfs⟩ := open_st Tryz.underlying50 hf s
 obtain ⟨l⟩ := cs
 obtain ⟨y0, n0, h0, s0⟩ := hfs 0 _ rfl
 obtain ⟨y1, n1, h1, s1⟩ := hfs 1 _ rfl
 obtain ⟨y2, n2, h2, s2⟩ := hfs 2 _ rfl
 obtain ⟨y3, n3, h3, s3⟩ := hfs 3 _ rfl
 obtain ⟨S, e1, hS⟩ := open_str Tryz.underlying9 h1 s1
 obtain ⟨u, e2, hu1, hu2⟩ := open_in (k := .u64) Tryz.underlying45 h2
 have c0 : Tryz.prog.cellsOf 9 = 1 := by kernel_rfl
 have c1 : Tryz.prog.cellsOf 26 = 4 := by kernel_rfl
 have c2 : Tryz.prog.cellsOf 45 = 1 := by kernel_rfl
 have c3 : Tryz.prog.cellsOf 48 = 3 := by kernel_rfl
 have c4 : Tryz.prog.cellsOf 3 = 1 := by kernel_rfl
 have c5 : Tryz.prog.cellsOf 46 = 1 := by kernel_rfl
 have hlen9 : l.length = 9 := by rw [show Tryz.prog.cellsOf 50 = 9 by kernel_rfl] at hlen; exact hlen
 have h0' : Rd enc w n0 26 ((l.drop 0).take (Tryz.prog.cellsOf 26)) y0 := h0
 rw [c1] at h0'
 obtain ⟨fa, sa, ra, fc, sc, rc, P, g, hP, hR⟩ := open_prog h0' s0 (by simp; omega)
 obtain ⟨hr1, hr2⟩ := prog_room h0' s0 g
 have h3' : Rd enc w n3 48 ((l.drop 6).take (Tryz.prog.cellsOf 48)) y3 := h3
 rw [c3] at h3'
 obtain ⟨-, hfn⟩ := open_st Tryz.underlying48 h3' s3
 obtain ⟨x0, k0, t0, q0⟩ := hfn 0 _ rfl
 obtain ⟨x1, k1, t1, q1⟩ := hfn 1 _ rfl
 obtain ⟨x2, k2, t2, q2⟩ := hfn 2 _ rfl
 obtain ⟨ps, g0, -⟩ := open_in (k := .i64) Tryz.underlying3 t0
 obtain ⟨rs, g1, -⟩ := open_in (k := .i64) Tryz.underlying3 t1
 obtain ⟨ca, code, cc, g2, hcd, -, -⟩ := open_code t2 q2
 have f1 : (l.drop 4).take (Tryz.prog.cellsOf 9) = [.string ⟨S.toArray⟩] := e1
 have f2 : (l.drop 5).take (Tryz.prog.cellsOf 45) = [.int .u64 u] := e2
 have f3 : (((l.drop 6).take 3).drop 0).take (Tryz.prog.cellsOf 3) = [.int .i64 ps] := g0
 have f4 : (((l.drop 6).take 3).drop 1).take (Tryz.prog.cellsOf 3) = [.int .i64 rs] := g1
 have f5 : (((l.drop 6).take 3).drop 2).take (Tryz.prog.cellsOf 46) = [.slice ca code.length cc] := g2
 rw [c0] at f1
 rw [c2] at f2
 rw [c4] at f3 f4
 rw [c5] at f5
 clear e1 e2 g0 g1 g2 hf hfs hfn h0 h1 h2 h3 h0' h3' t0 t1 t2 o hsz hlen
 match l, hlen9 with
 | [v0, v1, v2, v3, v4, v5, v6, v7, v8], _ =>
  simp only [List.drop_zero, List.drop_succ_cons, List.take_succ_cons, List.take_zero, List.cons.injEq, and_true] at f1 f2 f3 f4 f5 g
  obtain ⟨g0, g1, g2, g3⟩ := g
  subst f1; subst f2; subst f3; subst f4; subst f5; subst g0; subst g1; subst g2; subst g3
  have e1 : IntKind.u64.min = 0 := rfl
  have e2 : IntKind.u64.max = 18446744073709551615 := rfl
  exact ⟨fa, sa, ra, ca, fc, sc, rc, cc, P, S, u, ⟨ps, rs, code⟩, rfl, hP, hR, hr1, hr2, by unfold maxLen; omega, by omega, by omega, hcd⟩
end
end Go.Proofs.YtokjkligechcoaaGreatDoor
