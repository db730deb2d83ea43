/- A program as plain data: functions, strings, reals; what its form is; what the work list needs of it. -/
import Derived.Test.YtokjkligechcoaaGreatDoorDa
import Derived.Test.YtokjkligechcoaaGreatDoorDr
set_option linter.unusedVariables false
namespace Go.Proofs.YtokjkligechcoaaGreatDoor
open _root_.Go.Lib (hid)
open Go.RowKit
open Fx
/-- is an instruction as the table says, its Live list too? -/
def formI (ns nr : Nat) (fp : List Int) (cn : Nat) (rs : Int) (x : In) : Bool := liveB x.op x.b x.lv rs && formB ns nr fp cn rs x.op x.a x.b x.c x.l
theorem regs_in {l : List Int} {n : Int} (h : regsB l n = true) : (∀ r ∈ l, 0 ≤ r ∧ r < n) ∧ l.length ≤ 1024 := by
 unfold regsB at h
 rw [Bool.and_eq_true, List.all_eq_true, decide_eq_true_eq] at h
 exact ⟨fun r hr => insB_true (h.2 r hr), h.1⟩
theorem cases_in {l : List Int} {n : Int} (h : casesB l n = true) : (∀ r ∈ oddL l, 0 ≤ r ∧ r < n) ∧ l.length ≤ 2048 := by
 unfold casesB at h
 rw [Bool.and_eq_true, Bool.and_eq_true, List.all_eq_true, decide_eq_true_eq, decide_eq_true_eq] at h
 obtain ⟨⟨h1, h2⟩, h3⟩ := h
 refine ⟨?_, h2⟩
 intro r hr
 unfold oddL at hr
 obtain ⟨j, hj, rfl⟩ := List.mem_map.1 hr
 have := h3 j hj
 unfold okC at this
 rw [Bool.and_eq_true] at this
 exact insB_true this.2
theorem live_in {op b : Int} {lv : List Int} {rs : Int} (h : liveB op b lv rs = true) : (∀ r ∈ lv, 0 ≤ r ∧ r < rs) ∧ lv.length ≤ 1024 := by
 unfold liveB at h
 split at h
 ·rw [Bool.and_eq_true] at h
  exact regs_in h.1
 ·have : lv = [] := by simpa using h
  subst this
  simp
theorem form_ok {ns nr : Nat} {fp : List Int} {cn k : Nat} {rs : Nat} {x : In} (h : formI ns nr fp cn rs x = true) (hk : k + 1 < cn ∨ (k < cn ∧ onI x.op ≠ 0)) : OkX cn rs k x := by
 obtain ⟨op, a, b, c, l, lv⟩ := x
 unfold formI at h
 rw [Bool.and_eq_true] at h
 obtain ⟨hL, hF⟩ := h
 obtain ⟨v1, v2⟩ := live_in hL
 dsimp only at hF hk v1 v2
 have hlen : ((l.length : Int) == 0) = true → l = [] := fun h => by simpa using h
 rcases op_all op with (rfl | rfl | rfl | rfl | rfl | rfl | rfl | rfl | rfl | rfl | rfl | rfl | rfl) | ⟨h1, h2, h3, h4, h5, h6, h7, h8, h9, h10, h11, h12, h13⟩
 ·replace hF : (insB a rs && rtB b && (c == 0) && ((l.length : Int) == 0)) = true := hF
  simp only [Bool.and_eq_true] at hF
  obtain ⟨⟨⟨f1, f2⟩, f3⟩, f4⟩ := hF
  cases hlen f4
  have := insB_true f1
  refine ⟨?_, ?_, fun _ => this, by simp, by show lv.length ≤ _; omega, by simp⟩
  ·intro t ht; simp [nextL] at ht; simp [onI] at hk; omega
  ·intro r hr; simp [readsI] at hr; exact v1 r hr
 ·replace hF : (insB a rs && insB b ns && (c == 0) && ((l.length : Int) == 0)) = true := hF
  simp only [Bool.and_eq_true] at hF
  obtain ⟨⟨⟨f1, f2⟩, f3⟩, f4⟩ := hF
  cases hlen f4
  have := insB_true f1
  refine ⟨?_, ?_, fun _ => this, by simp, by show lv.length ≤ _; omega, by simp⟩
  ·intro t ht; simp [nextL] at ht; simp [onI] at hk; omega
  ·intro r hr; simp [readsI] at hr; exact v1 r hr
 ·replace hF : (insB a rs && insB b nr && (c == 0) && ((l.length : Int) == 0)) = true := hF
  simp only [Bool.and_eq_true] at hF
  obtain ⟨⟨⟨f1, f2⟩, f3⟩, f4⟩ := hF
  cases hlen f4
  have := insB_true f1
  refine ⟨?_, ?_, fun _ => this, by simp, by show lv.length ≤ _; omega, by simp⟩
  ·intro t ht; simp [nextL] at ht; simp [onI] at hk; omega
  ·intro r hr; simp [readsI] at hr; exact v1 r hr
 ·replace hF : (insB a rs && insB b rs && (c == 0) && ((l.length : Int) == 0)) = true := hF
  simp only [Bool.and_eq_true] at hF
  obtain ⟨⟨⟨f1, f2⟩, f3⟩, f4⟩ := hF
  cases hlen f4
  have := insB_true f1
  have hb := insB_true f2
  refine ⟨?_, ?_, fun _ => this, by simp, by show lv.length ≤ _; omega, by simp⟩
  ·intro t ht; simp [nextL] at ht; simp [onI] at hk; omega
  ·intro r hr; simp [readsI] at hr; rcases hr with rfl | hr <;> first | exact hb | exact v1 r hr
 ·replace hF : (insB a rs && ((b == 1) || (b == 2) || (b == 4) || (b == 3)) && insB c 16777216 && ((c == 0) || (b == 3)) && regsB l rs) = true := hF
  simp only [Bool.and_eq_true] at hF
  obtain ⟨⟨⟨⟨f1, f2⟩, f3⟩, f4⟩, f5⟩ := hF
  have := insB_true f1
  obtain ⟨r1, r2⟩ := regs_in f5
  refine ⟨?_, ?_, fun _ => this, by show l.length ≤ _; omega, by show lv.length ≤ _; omega, by intro h; exact absurd h (by simp)⟩
  ·intro t ht; simp [nextL] at ht; simp [onI] at hk; omega
  ·intro r hr; simp [readsI] at hr; rcases hr with hr | hr <;> first | exact r1 r hr | exact v1 r hr
 ·replace hF : (insB a rs && insB b rs && insB c 4194305 && ((l.length : Int) == 0)) = true := hF
  simp only [Bool.and_eq_true] at hF
  obtain ⟨⟨⟨f1, f2⟩, f3⟩, f4⟩ := hF
  cases hlen f4
  have := insB_true f1
  have hb := insB_true f2
  refine ⟨?_, ?_, fun _ => this, by simp, by show lv.length ≤ _; omega, by simp⟩
  ·intro t ht; simp [nextL] at ht; simp [onI] at hk; omega
  ·intro r hr; simp [readsI] at hr; rcases hr with rfl | hr <;> first | exact hb | exact v1 r hr
 ·replace hF : (insB a rs && insB b rs && insB c 4194305 && ((l.length : Int) == 0)) = true := hF
  simp only [Bool.and_eq_true] at hF
  obtain ⟨⟨⟨f1, f2⟩, f3⟩, f4⟩ := hF
  cases hlen f4
  have ha := insB_true f1
  have hb := insB_true f2
  refine ⟨?_, ?_, fun _ => ha, by simp, by show lv.length ≤ _; omega, by simp⟩
  ·intro t ht; simp [nextL] at ht; simp [onI] at hk; omega
  ·intro r hr; simp [readsI] at hr; rcases hr with rfl | rfl | hr <;> first | exact ha | exact hb | exact v1 r hr
 ·replace hF : (insB a rs && insB b 61 && ((l.length : Int) == (prT b.toNat).2.1) && (if (prT b.toNat).2.2 = 0 then c == -1 else insB c cn) && regsB l rs) = true := hF
  simp only [Bool.and_eq_true] at hF
  obtain ⟨⟨⟨⟨f1, f2⟩, f3⟩, f4⟩, f5⟩ := hF
  have := insB_true f1
  obtain ⟨r1, r2⟩ := regs_in f5
  refine ⟨?_, ?_, fun _ => this, by show l.length ≤ _; omega, by show lv.length ≤ _; omega, by intro h; exact absurd h (by simp)⟩
  ·intro t ht
   have hc : 0 ≤ c → c < cn := by
    split at f4
    ·have : c = -1 := by simpa using f4
     omega
    ·exact fun _ => (insB_true f4).2
   simp [onI] at hk
   by_cases h0 : 0 ≤ c
   ·simp [nextL, h0] at ht
    have := hc h0
    omega
   ·simp [nextL, h0] at ht
    omega
  ·intro r hr; simp [readsI] at hr; rcases hr with hr | hr <;> first | exact r1 r hr | exact v1 r hr
 ·replace hF : ((a == 0) && (b == 0) && insB c cn && ((l.length : Int) == 0)) = true := hF
  simp only [Bool.and_eq_true] at hF
  obtain ⟨⟨⟨f1, f2⟩, f3⟩, f4⟩ := hF
  cases hlen f4
  have hc := insB_true f3
  refine ⟨?_, ?_, fun h => absurd h (by simp [setsI]), by simp, by show lv.length ≤ _; omega, by simp⟩
  ·intro t ht; simp [nextL] at ht; subst ht; exact hc
  ·intro r hr; simp [readsI] at hr; exact v1 r hr
 ·replace hF : ((a == 0) && insB b rs && insB c cn && casesB l cn) = true := hF
  simp only [Bool.and_eq_true] at hF
  obtain ⟨⟨⟨f1, f2⟩, f3⟩, f4⟩ := hF
  have hb := insB_true f2
  have hc := insB_true f3
  obtain ⟨r1, r2⟩ := cases_in f4
  refine ⟨?_, ?_, fun h => absurd h (by simp [setsI]), by show l.length ≤ _; omega, by show lv.length ≤ _; omega, by intro h; exact absurd h (by simp)⟩
  ·intro t ht; simp [nextL] at ht; rcases ht with rfl | ht <;> first | exact hc | exact r1 t ht
  ·intro r hr; simp [readsI] at hr; rcases hr with rfl | hr <;> first | exact hb | exact v1 r hr
 ·replace hF : (insB a rs && (b == 0) && (c == 0) && regsB l rs) = true := hF
  simp only [Bool.and_eq_true] at hF
  obtain ⟨⟨⟨f1, f2⟩, f3⟩, f4⟩ := hF
  have ha := insB_true f1
  obtain ⟨r1, r2⟩ := regs_in f4
  refine ⟨?_, ?_, fun h => absurd h (by simp [setsI]), by show l.length ≤ _; omega, by show lv.length ≤ _; omega, by intro h; exact absurd h (by simp)⟩
  ·intro t ht; simp [nextL] at ht
  ·intro r hr; simp [readsI] at hr; rcases hr with rfl | hr | hr <;> first | exact ha | exact r1 r hr | exact v1 r hr
 ·replace hF : ((a == 0) && (c == 0) && insB b fp.length && regsB l rs && ((l.length : Int) == fp.getD b.toNat 0)) = true := hF
  simp only [Bool.and_eq_true] at hF
  obtain ⟨⟨⟨⟨f1, f2⟩, f3⟩, f4⟩, f5⟩ := hF
  obtain ⟨r1, r2⟩ := regs_in f4
  refine ⟨?_, ?_, fun h => absurd h (by simp [setsI]), by show l.length ≤ _; omega, by show lv.length ≤ _; omega, by intro h; exact absurd h (by simp)⟩
  ·intro t ht; simp [nextL] at ht
  ·intro r hr; simp [readsI] at hr; rcases hr with hr | hr <;> first | exact r1 r hr | exact v1 r hr
 ·replace hF : (insB a rs && ((b == 0) || (b == 1)) && (c == 0) && ((l.length : Int) == 0)) = true := hF
  simp only [Bool.and_eq_true] at hF
  obtain ⟨⟨⟨f1, f2⟩, f3⟩, f4⟩ := hF
  cases hlen f4
  have ha := insB_true f1
  refine ⟨?_, ?_, fun h => absurd h (by simp [setsI]), by simp, by show lv.length ≤ _; omega, by simp⟩
  ·intro t ht; simp [nextL] at ht
  ·intro r hr; simp [readsI] at hr; rcases hr with rfl | hr <;> first | exact ha | exact v1 r hr
 ·exact absurd hF (by simp [formB, h1, h2, h3, h4, h5, h6, h7, h8, h9, h10, h11, h12, h13])
/-- a function; a program -/
structure Fu where
 ps : Int
 rs : Int
 code : List In
structure Pg where
 fs : List Fu
 ss : List (List UInt8)
 us : List Int
 en : Int
/-- a function's code lies, however long -/
def CdAt (w : World) (ca : Option Addr) (code : List In) : Prop :=
 code.length ≤ maxLen ∧ (code = [] ∨ ∃ b o, ca = some ⟨b, o, none⟩ ∧ ∀ i x, code[i]? = some x → XAt w b (o + i * 6) x)
theorem CdAt.below {w w' : World} {ca : Option Addr} {code : List In} (h : CdAt w ca code) (hb : Below w.heap.size w w') : CdAt w' ca code := by
 obtain ⟨hm, h | ⟨b, o, ha, hc⟩⟩ := h
 ·exact ⟨hm, .inl h⟩
 ·exact ⟨hm, .inr ⟨b, o, ha, fun i x hx => (hc i x hx).below hb⟩⟩
theorem CdAt.code {w : World} {ca : Option Addr} {code : List In} (h : CdAt w ca code) (hl : code.length ≤ 65536) : CodeAt w ca code := ⟨by omega, h.2⟩
def FnAt (w : World) (b o : Nat) (f : Fu) : Prop := ∃ ca cc,
 w.cell? ⟨b, o, none⟩ = some (.int .i64 f.ps) ∧ w.cell? ⟨b, o + 1, none⟩ = some (.int .i64 f.rs) ∧ w.cell? ⟨b, o + 2, none⟩ = some (.slice ca f.code.length cc) ∧ CdAt w ca f.code
theorem FnAt.below {w w' : World} {b o : Nat} {f : Fu} (h : FnAt w b o f) (hb : Below w.heap.size w w') : FnAt w' b o f := by
 obtain ⟨ca, cc, h0, h1, h2, h3⟩ := h
 have hl : b < w.heap.size := World.block_lt_of_cell? w _ h0
 have e : ∀ k, w'.cell? ⟨b, k, none⟩ = w.cell? ⟨b, k, none⟩ := fun k => hb.cell (p := ⟨b, k, none⟩) hl
 exact ⟨ca, cc, by rw [e]; exact h0, by rw [e]; exact h1, by rw [e]; exact h2, h3.below hb⟩
def FnsAt (w : World) (fa : Option Addr) (fs : List Fu) : Prop :=
 fs.length ≤ maxLen ∧ (fs = [] ∨ ∃ b o, fa = some ⟨b, o, none⟩ ∧ ∀ i f, fs[i]? = some f → FnAt w b (o + i * 3) f)
theorem FnsAt.below {w w' : World} {fa : Option Addr} {fs : List Fu} (h : FnsAt w fa fs) (hb : Below w.heap.size w w') : FnsAt w' fa fs := by
 obtain ⟨hm, h | ⟨b, o, ha, hc⟩⟩ := h
 ·exact ⟨hm, .inl h⟩
 ·exact ⟨hm, .inr ⟨b, o, ha, fun i x hx => (hc i x hx).below hb⟩⟩
def StrsAt (w : World) (sa : Option Addr) (ss : List (List UInt8)) : Prop :=
 ss.length ≤ maxLen ∧ (∀ s ∈ ss, s.length ≤ maxLen) ∧ (ss = [] ∨ ∃ b o, sa = some ⟨b, o, none⟩ ∧ ∀ i s, ss[i]? = some s → w.cell? ⟨b, o + i, none⟩ = some (.string ⟨s.toArray⟩))
theorem StrsAt.below {w w' : World} {sa : Option Addr} {ss : List (List UInt8)} (h : StrsAt w sa ss) (hb : Below w.heap.size w w') : StrsAt w' sa ss := by
 obtain ⟨hm, hs, h | ⟨b, o, ha, hc⟩⟩ := h
 ·exact ⟨hm, hs, .inl h⟩
 ·exact ⟨hm, hs, .inr ⟨b, o, ha, fun i x hx => (hb.cell (p := ⟨b, o + i, none⟩) (World.block_lt_of_cell? w _ (hc i x hx))).trans (hc i x hx)⟩⟩
structure PgAt (w : World) (fa sa ra : Option Addr) (p : Pg) : Prop where
 f : FnsAt w fa p.fs
 s : StrsAt w sa p.ss
 u : IntsAt .u64 w ra p.us
 z : ∀ u ∈ p.us, 0 ≤ u ∧ u < 18446744073709551616
theorem PgAt.below {w w' : World} {fa sa ra : Option Addr} {p : Pg} (h : PgAt w fa sa ra p) (hb : Below w.heap.size w w') : PgAt w' fa sa ra p := ⟨h.f.below hb, h.s.below hb, h.u.below hb, h.z⟩
def fpL (fs : List Fu) : List Int := fs.map (·.ps)
theorem FnsAt.ps {w : World} {fa : Option Addr} {fs : List Fu} (h : FnsAt w fa fs) (hl : fs.length ≤ 65536) : PsAt w fa (fpL fs) := by
 obtain ⟨hm, h | ⟨b, o, ha, hc⟩⟩ := h
 ·subst h; exact ⟨by simp [fpL], .inl rfl⟩
 ·refine ⟨by simpa [fpL] using hl, .inr ⟨b, o, ha, fun i hi => ?_⟩⟩
  have hi2 : i < fs.length := by simpa [fpL] using hi
  obtain ⟨ca, cc, h0, -⟩ := hc i fs[i] (List.getElem?_eq_getElem hi2)
  rw [Nat.mul_comm, h0]
  simp [fpL, List.getD, hi2]
def longB (s : List UInt8) : Bool := decide (65536 < s.length)
/-- a program's first fault of form -/
def headB (p : Pg) : Bool := p.fs.length == 0 || decide (65536 < p.fs.length) || decide (65536 < p.ss.length) || decide (65536 < p.us.length) || p.ss.any longB || !insB p.en p.fs.length || !((fpL p.fs).getD p.en.toNat 0 == 0)
def fnB (f : Fu) : Bool := decide (f.ps < 0) || decide (f.rs < f.ps) || decide (4096 < f.rs) || decide (65536 < f.code.length)
def codeK (p : Pg) (f : Fu) : Option Nat := f.code.findIdx? (fun x => !formI p.ss.length p.us.length (fpL p.fs) f.code.length f.rs x)
def formsF (p : Pg) : Nat → List Fu → Int × Int × Int
 | _, [] => (0, 0, 0)
 | i, f :: fs => if fnB f then ((i : Int), -1, 160) else match codeK p f with
  | some k => ((i : Int), (k : Int), 160)
  | none => formsF p (i + 1) fs
def formsL (p : Pg) : Int × Int × Int := if headB p then (-1, -1, 160) else formsF p 0 p.fs
/-- a program's first fault -/
noncomputable def checkF : Nat → List Fu → Int × Int × Int
 | _, [] => (0, 0, 0)
 | i, f :: fs => if flowsB f.code then ((i : Int), (f.code.length : Int) - 1, 161) else if 0 ≤ unsetS f.code f.ps.toNat then ((i : Int), unsetS f.code f.ps.toNat, 162) else checkF (i + 1) fs
noncomputable def checkL (p : Pg) : Int × Int × Int := if (formsL p).2.2 ≠ 0 then formsL p else checkF 0 p.fs
attribute [local go_sem] ext_mk size_mk toList_mk get_mk take_drop_len take_tail_len ByteArray.mk_append_mk List.append_toArray
theorem strs_cell {w : World} {sa : Option Addr} {ss : List (List UInt8)} (h : StrsAt w sa ss) {i : Nat} (hi : i < ss.length) : ∃ b off s, sa = some ⟨b, off, none⟩ ∧ ss[i]? = some s ∧ w.cell? ⟨b, off + i, none⟩ = some (.string ⟨s.toArray⟩) ∧ s.length ≤ maxLen := by
 obtain ⟨hm, hs, h | ⟨b, o, ha, hc⟩⟩ := h
 ·rw [h] at hi; simp at hi
 ·have e := List.getElem?_eq_getElem hi
  exact ⟨b, o, ss[i], ha, e, hc i _ e, hs _ (List.getElem_mem hi)⟩
theorem long1_any (s : List UInt8) (w : World) (hs : s.length ≤ maxLen) :
  Calls Tryz.prog 71 #[.string ⟨s.toArray⟩] w fun x w' => x = .returned (.bool (longB s)) ∧ w' = w := by
 have hm2 : (s.length : Int) ≤ 9223372036854775807 := by unfold maxLen at hs; omega
 have HU := hid (show longB s = decide ((65536 : Int) < (s.length : Int)) by unfold longB; congr 1; rw [eq_iff_iff]; omega)
 go_enter Tryz.func71, Tryz.ntmps71
 go_wp2_with fail
 go_ret
 exact ⟨ret_bool HU.out.symm, rfl⟩
theorem any_take_succ {f : List UInt8 → Bool} {l : List (List UInt8)} {k : Nat} {s : List UInt8} (hk : l[k]? = some s) : (l.take (k + 1)).any f = ((l.take k).any f || f s) := by
 obtain ⟨hk2, he⟩ := List.getElem?_eq_some_iff.1 hk
 rw [List.take_succ_eq_append_getElem hk2, List.any_append, he]
 simp
theorem any_at {f : List UInt8 → Bool} {l : List (List UInt8)} {k : Nat} {s : List UInt8} (hk : l[k]? = some s) (h : f s = true) : l.any f = true := by
 obtain ⟨hk2, he⟩ := List.getElem?_eq_some_iff.1 hk
 rw [List.any_eq_true]
 exact ⟨s, by rw [← he]; exact List.getElem_mem hk2, h⟩
set_option maxHeartbeats 2000000 in
theorem idxlong_any (a : Option Addr) (ss : List (List UInt8)) (cap : Nat) (w : World) (h : StrsAt w a ss) :
  Calls Tryz.prog 136 #[.slice a ss.length cap, .func (.func 71) #[] #[]] w fun x w' => (∃ r : Int, x = .returned (.int .i64 r) ∧ decide (0 ≤ r) = ss.any longB) ∧ w' = w := by
 have hm := h.1
 have hm2 : (ss.length : Int) ≤ 9223372036854775807 := by unfold maxLen at hm; omega
 have HA := hid h
 have CR := hid (fun s W hs => long1_any s W hs)
 clear h
 go_enter Tryz.func136, Tryz.ntmps136
 go_wp2_with fail
 go_loopw [8] (fun vi wr => ∃ k : Nat, vi = .int .i64 k ∧ k ≤ ss.length ∧ (ss.take k).any longB = false ∧ wr = w) (fun vi _ => ss.length - (intOf vi).toNat)
 case atStart => exact ⟨0, rfl, Nat.zero_le _, by simp, rfl⟩
 case round =>
  obtain ⟨k, rfl, hk, hall, rfl⟩ := hrel
  have HL := hid hall
  clear hall
  by_cases hlt : k < ss.length
  ·obtain ⟨b, off, s, ha, hg, hc, hs⟩ := strs_cell HA.out hlt
   subst ha
   have HG := hid hg
   clear hg
   cases hi : longB s
   ·go_wp2_with (first | (go_at_call 71; refine (CR.out _ _ hs).mono ?_; rw [hi]; rintro e w1 ⟨rfl, rfl⟩))
    go_roundw
    case rel => exact ⟨k + 1, by go_num, hlt, by rw [any_take_succ HG.out, HL.out, hi]; rfl, by trivial⟩
    case measure => simp [intOf]; omega
   ·go_wp2_with (first | (go_at_call 71; refine (CR.out _ _ hs).mono ?_; rw [hi]; rintro e w1 ⟨rfl, rfl⟩))
    go_ret
    exact ⟨⟨_, rfl, by rw [any_at HG.out hi]; simp⟩, by trivial⟩
  ·obtain rfl : k = ss.length := by omega
   go_wp2_with fail
   go_ret
   exact ⟨⟨_, rfl, by have := HL.out; rw [List.take_length] at this; rw [this]; rfl⟩, by trivial⟩
theorem conlong_any (a : Option Addr) (ss : List (List UInt8)) (cap : Nat) (w : World) (h : StrsAt w a ss) :
  Calls Tryz.prog 70 #[.slice a ss.length cap, .func (.func 71) #[] #[]] w fun x w' => x = .returned (.bool (ss.any longB)) ∧ w' = w := by
 have C := hid (idxlong_any a ss cap w h)
 clear h
 go_enter Tryz.func70, Tryz.ntmps70
 go_wp2_with (first | (go_at_call 136; refine C.out.mono ?_; rintro e w1 ⟨⟨r, rfl, hr⟩, rfl⟩))
 go_ret
 exact ⟨rfl, rfl⟩
theorem fns_cell {w : World} {fa : Option Addr} {fs : List Fu} (h : FnsAt w fa fs) {i : Nat} (hi : i < fs.length) : ∃ b o f, fa = some ⟨b, o, none⟩ ∧ fs[i]? = some f ∧ FnAt w b (o + i * 3) f := by
 obtain ⟨hm, h | ⟨b, o, ha, hc⟩⟩ := h
 ·rw [h] at hi; simp at hi
 ·have e := List.getElem?_eq_getElem hi
  exact ⟨b, o, fs[i], ha, e, hc i _ e⟩
theorem cd_cell {w : World} {ca : Option Addr} {code : List In} (h : CdAt w ca code) {i : Nat} (hi : i < code.length) : ∃ b o x, ca = some ⟨b, o, none⟩ ∧ code[i]? = some x ∧ XAt w b (o + i * 6) x := by
 obtain ⟨hm, h | ⟨b, o, ha, hc⟩⟩ := h
 ·rw [h] at hi; simp at hi
 ·have e := List.getElem?_eq_getElem hi
  exact ⟨b, o, code[i], ha, e, hc i _ e⟩
theorem codeK_some {p : Pg} {f : Fu} {k : Nat} {x : In} (hx : f.code[k]? = some x) (h : formI p.ss.length p.us.length (fpL p.fs) f.code.length f.rs x = false) (hl : ∀ j y, j < k → f.code[j]? = some y → formI p.ss.length p.us.length (fpL p.fs) f.code.length f.rs y = true) : codeK p f = some k := by
 unfold codeK
 rw [List.findIdx?_eq_some_iff_getElem]
 obtain ⟨hk, he⟩ := List.getElem?_eq_some_iff.1 hx
 refine ⟨hk, by rw [he, h]; rfl, fun j hj => ?_⟩
 rw [hl j f.code[j] hj (List.getElem?_eq_getElem (by omega))]
 decide
theorem codeK_none {p : Pg} {f : Fu} (hl : ∀ j y, j < f.code.length → f.code[j]? = some y → formI p.ss.length p.us.length (fpL p.fs) f.code.length f.rs y = true) : codeK p f = none := by
 unfold codeK
 rw [List.findIdx?_eq_none_iff]
 intro x hx
 obtain ⟨j, hj, rfl⟩ := List.mem_iff_getElem.1 hx
 rw [hl j f.code[j] hj (List.getElem?_eq_getElem hj)]
 rfl
theorem formsF_at {p : Pg} {i : Nat} {f : Fu} (hf : p.fs[i]? = some f) : formsF p i (p.fs.drop i) = if fnB f then ((i : Int), -1, 160) else match codeK p f with
  | some k => ((i : Int), (k : Int), 160)
  | none => formsF p (i + 1) (p.fs.drop (i + 1)) := by
 obtain ⟨hi, he⟩ := List.getElem?_eq_some_iff.1 hf
 rw [List.drop_eq_getElem_cons hi, he]
 rfl
theorem fpL_at {fs : List Fu} {i : Nat} {f : Fu} (hf : fs[i]? = some f) : (fpL fs).getD i 0 = f.ps := by simp [fpL, List.getD, hf]
abbrev tri (t : Int × Int × Int) : Value := .tuple #[.int .i64 t.1, .int .i64 t.2.1, .int .i64 t.2.2]
theorem WoAt.c3 {W : World} {p : Nat} {fa sa ra : Option Addr} {fc sn rn sc rc cc : Nat} {en : Int} (h : WoAt W p fa sa ra fc sn rn sc rc cc en) : W.cell? ⟨p, 3, none⟩ = some (.int .i64 en) := by
 obtain ⟨g, cap, k, c, h1, h2, h3, h4⟩ := h
 exact h1.cells.1.2.2.2.1
set_option maxHeartbeats 8000000 in
set_option maxRecDepth 8000 in
theorem forms_any (p : Nat) (fa sa ra : Option Addr) (fc sc rc : Nat) (P : Pg) (w : World) (hW : WoAt w p fa sa ra P.fs.length P.ss.length P.us.length fc sc rc P.en) (hP : PgAt w fa sa ra P) :
  Calls Tryz.prog 28 #[.pointer (some ⟨p, 0, none⟩)] w fun e w' => e = .returned (tri (formsL P)) ∧ Below w.heap.size w w' := by
 have S := hid hP
 have SW := hid hW
 have CL := hid (fun W h => conlong_any sa P.ss sc W h)
 have CI := hid (fun n e W => inside_any n e W)
 have HA : Hid (∀ o, Below w.heap.size w (w.alloc o)) := hid (fun o => (Below.refl _ _).alloc (Nat.le_refl _) o)
 obtain ⟨p0, p1, p2, pg, pcap, p4, hpr⟩ := hW.pcells
 have p3 := hW.c3
 clear hW p4 hpr
 have hm1 : (P.fs.length : Int) ≤ 9223372036854775807 := by have := hP.f.1; unfold maxLen at this; omega
 have hm2 : (P.ss.length : Int) ≤ 9223372036854775807 := by have := hP.s.1; unfold maxLen at this; omega
 have hm3 : (P.us.length : Int) ≤ 9223372036854775807 := by have := hP.u.1; unfold maxLen at this; omega
 clear hP
 go_enter Tryz.func28, Tryz.ntmps28
 by_cases h1 : P.fs.length = 0
 ·have k1 : ((P.fs.length : Int) == 0) = true := by simp [h1]
  go_wp2_with (first
   | (go_at_call 70; refine (CL.out _ (S.out.s.below (HA.out _))).mono ?_; rintro e w1 ⟨rfl, rfl⟩)
   | (go_at_call 72; (first | refine (CI.out _).mono ?_ | refine (CI.out _ _ _).mono ?_); rintro e w1 ⟨rfl, rfl⟩))
  go_ret3
  exact ⟨by rw [show formsL P = (-1, -1, 160) from if_pos (by unfold headB; simp [h1])]; rfl, (HA.out _)⟩
 have k1 : ((P.fs.length : Int) == 0) = false := by simpa using h1
 by_cases h2 : 65536 < P.fs.length
 ·have k2 : decide ((65536 : Int) < (P.fs.length : Int)) = true := decide_eq_true (by omega)
  go_wp2_with (first
   | (go_at_call 70; refine (CL.out _ (S.out.s.below (HA.out _))).mono ?_; rintro e w1 ⟨rfl, rfl⟩)
   | (go_at_call 72; (first | refine (CI.out _).mono ?_ | refine (CI.out _ _ _).mono ?_); rintro e w1 ⟨rfl, rfl⟩))
  go_ret3
  exact ⟨by rw [show formsL P = (-1, -1, 160) from if_pos (by unfold headB; simp [h2])]; rfl, (HA.out _)⟩
 have k2 : decide ((65536 : Int) < (P.fs.length : Int)) = false := decide_eq_false (by omega)
 by_cases h3 : 65536 < P.ss.length
 ·have k3 : decide ((65536 : Int) < (P.ss.length : Int)) = true := decide_eq_true (by omega)
  go_wp2_with (first
   | (go_at_call 70; refine (CL.out _ (S.out.s.below (HA.out _))).mono ?_; rintro e w1 ⟨rfl, rfl⟩)
   | (go_at_call 72; (first | refine (CI.out _).mono ?_ | refine (CI.out _ _ _).mono ?_); rintro e w1 ⟨rfl, rfl⟩))
  go_ret3
  exact ⟨by rw [show formsL P = (-1, -1, 160) from if_pos (by unfold headB; simp [h3])]; rfl, (HA.out _)⟩
 have k3 : decide ((65536 : Int) < (P.ss.length : Int)) = false := decide_eq_false (by omega)
 by_cases h4 : 65536 < P.us.length
 ·have k4 : decide ((65536 : Int) < (P.us.length : Int)) = true := decide_eq_true (by omega)
  go_wp2_with (first
   | (go_at_call 70; refine (CL.out _ (S.out.s.below (HA.out _))).mono ?_; rintro e w1 ⟨rfl, rfl⟩)
   | (go_at_call 72; (first | refine (CI.out _).mono ?_ | refine (CI.out _ _ _).mono ?_); rintro e w1 ⟨rfl, rfl⟩))
  go_ret3
  exact ⟨by rw [show formsL P = (-1, -1, 160) from if_pos (by unfold headB; simp [h4])]; rfl, (HA.out _)⟩
 have k4 : decide ((65536 : Int) < (P.us.length : Int)) = false := decide_eq_false (by omega)
 cases h5 : P.ss.any longB
 rotate_left
 ·rw [h5] at CL
  go_wp2_with (first
   | (go_at_call 70; refine (CL.out _ (S.out.s.below (HA.out _))).mono ?_; rintro e w1 ⟨rfl, rfl⟩)
   | (go_at_call 72; (first | refine (CI.out _).mono ?_ | refine (CI.out _ _ _).mono ?_); rintro e w1 ⟨rfl, rfl⟩))
  go_ret3
  exact ⟨by rw [show formsL P = (-1, -1, 160) from if_pos (by unfold headB; rw [h5]; simp)]; rfl, (HA.out _)⟩
 rw [h5] at CL
 cases h6 : insB P.en P.fs.length
 ·have CI := hid (fun W => inside_eq h6 W)
  go_wp2_with (first
   | (go_at_call 70; refine (CL.out _ (S.out.s.below (HA.out _))).mono ?_; rintro e w1 ⟨rfl, rfl⟩)
   | (go_at_call 72; (first | refine (CI.out _).mono ?_ | refine (CI.out _ _ _).mono ?_); rintro e w1 ⟨rfl, rfl⟩))
  go_ret3
  exact ⟨by rw [show formsL P = (-1, -1, 160) from if_pos (by unfold headB; rw [h6]; simp)]; rfl, (HA.out _)⟩
 have CI := hid (fun W => inside_eq h6 W)
 obtain ⟨q0, q1⟩ := insB_true h6
 obtain ⟨i, hi⟩ := Int.eq_ofNat_of_zero_le q0
 rw [hi] at p3 CI
 have hi2 : i < P.fs.length := by omega
 have hFA := S.out.f
 obtain ⟨fB, fO, f, rfl, hf, hFn⟩ := fns_cell hFA hi2
 obtain ⟨ca, cc, g0, -⟩ := hFn
 have hlB : fB < w.heap.size := World.block_lt_of_cell? w _ g0
 have h7 : (fpL P.fs).getD P.en.toNat 0 = f.ps := by rw [hi, Int.toNat_natCast, fpL_at hf]
 have d1 : decide ((i : Int) < (P.fs.length : Int)) = true := decide_eq_true (by omega)
 obtain ⟨v, hv⟩ : ∃ v, f.ps = v := ⟨_, rfl⟩
 rw [hv] at g0 h7
 have HH := hid (show headB P = !(v == 0) by unfold headB; rw [h5, h6, h7]; simp [h1, h2, h3, h4])
 clear h1 h2 h3 h4 h5 h6 h7 hv hf hFA q0 q1
 cases k7 : (v == 0)
 ·
  go_wp2_with (first
   | (go_at_call 70; refine (CL.out _ (S.out.s.below (HA.out _))).mono ?_; rintro e w1 ⟨rfl, rfl⟩)
   | (go_at_call 72; (first | refine (CI.out _).mono ?_ | refine (CI.out _ _ _).mono ?_); rintro e w1 ⟨rfl, rfl⟩))
  go_ret3
  exact ⟨by rw [show formsL P = (-1, -1, 160) from if_pos (by rw [HH.out, k7]; rfl)]; rfl, (HA.out _)⟩
 have HF := hid (show formsL P = formsF P 0 P.fs from if_neg (by rw [HH.out, k7]; simp))
 go_wp2_with (first
  | (go_at_call 70; refine (CL.out _ (S.out.s.below (HA.out _))).mono ?_; rintro e w1 ⟨rfl, rfl⟩)
  | (go_at_call 72; (first | refine (CI.out _).mono ?_ | refine (CI.out _ _ _).mono ?_); rintro e w1 ⟨rfl, rfl⟩))
 clear CI d1 g0 k7 HH CL hlB
 clear hi hi2 p0 p1 p2 p3
 have hfl : (fpL P.fs).length = P.fs.length := by simp [fpL]
 have SW2 := hid (show WoAt w p (some ⟨fB, fO, none⟩) sa ra (fpL P.fs).length P.ss.length P.us.length fc sc rc P.en by rw [hfl]; exact SW.out)
 have SP := hid (S.out.f.ps (by have := of_decide_eq_false k2; omega))
 have CF := hid (fun ps rs ca cn cc op a b c l lv la lc va vc W h1 h2 h3 h4 h5 => form_any p (some ⟨fB, fO, none⟩) sa ra P.ss.length P.us.length fc sc rc P.en (fpL P.fs) ps rs ca cn cc op a b c l lv la lc va vc W h1 h2 h3 h4 h5)
 go_loopw [65] (fun vi wr => ∃ i : Nat, vi = .int .i64 i ∧ i ≤ P.fs.length ∧ formsF P 0 P.fs = formsF P i (P.fs.drop i) ∧ Below w.heap.size w wr) (fun vi _ => P.fs.length - (intOf vi).toNat)
 case atStart => exact ⟨0, rfl, Nat.zero_le _, by rw [List.drop_zero], HA.out _⟩
 case round =>
  obtain ⟨i, rfl, hi, hF, hb⟩ := hrel
  obtain ⟨W0, hW0⟩ : ∃ W, W = wr := ⟨_, rfl⟩
  subst hW0
  have HR := hid hF
  clear hF
  by_cases hlt : i < P.fs.length
  ·obtain ⟨fB', fO', f, ha', hf, hFn⟩ := fns_cell S.out.f hlt
   injection ha' with ha'
   injection ha' with u1 u2 _
   subst u1; subst u2
   have HN := hid (formsF_at hf)
   obtain ⟨ca, cc, g0, g1, g2, hC⟩ := hFn
   have HC := hid hC
   have HK := hid (fun k x hx h hl => codeK_some (p := P) (f := f) (k := k) (x := x) hx h hl)
   have HKn := hid (fun hl => codeK_none (p := P) (f := f) hl)
   have hlB : fB < w.heap.size := World.block_lt_of_cell? w _ g0
   have e : ∀ k, W0.cell? ⟨fB, k, none⟩ = w.cell? ⟨fB, k, none⟩ := fun k => hb.cell (p := ⟨fB, k, none⟩) hlB
   rw [← e] at g0 g1 g2
   clear e hf hlB
   obtain ⟨ps, rs, code⟩ := f
   dsimp only at g0 g1 g2 HN HK HKn HC hC
   have hm4 : (code.length : Int) ≤ 9223372036854775807 := by have := hC.1; unfold maxLen at this; omega
   clear hC
   have hbx := hb.alloc hb.size (.cells #[.int .i64 ps, .int .i64 rs, .slice ca code.length cc] 48)
   have HB := hid hb
   have HX := hid hbx
   clear hb hbx
   by_cases h1 : ps < 0
   ·have j1 : decide (ps < 0) = true := decide_eq_true h1
    go_wp2_with fail
    go_ret3
    exact ⟨by rw [HF.out, HR.out, HN.out.trans (if_pos (by unfold fnB; simp [*]))]; rfl, HX.out⟩
   have j1 : decide (ps < 0) = false := decide_eq_false h1
   by_cases h2 : rs < ps
   ·have j2 : decide (rs < ps) = true := decide_eq_true h2
    go_wp2_with fail
    go_ret3
    exact ⟨by rw [HF.out, HR.out, HN.out.trans (if_pos (by unfold fnB; simp [*]))]; rfl, HX.out⟩
   have j2 : decide (rs < ps) = false := decide_eq_false h2
   by_cases h3 : 4096 < rs
   ·have j3 : decide (4096 < rs) = true := decide_eq_true h3
    go_wp2_with fail
    go_ret3
    exact ⟨by rw [HF.out, HR.out, HN.out.trans (if_pos (by unfold fnB; simp [*]))]; rfl, HX.out⟩
   have j3 : decide (4096 < rs) = false := decide_eq_false h3
   by_cases h4 : 65536 < code.length
   ·have j4 : decide ((65536 : Int) < (code.length : Int)) = true := decide_eq_true (by omega)
    go_wp2_with fail
    go_ret3
    exact ⟨by rw [HF.out, HR.out, HN.out.trans (if_pos (by unfold fnB; simp [*]))]; rfl, HX.out⟩
   have j4 : decide ((65536 : Int) < (code.length : Int)) = false := decide_eq_false (by omega)
   have hcn : code.length ≤ 1000000000 := by omega
   have HN2 := hid (HN.out.trans (if_neg (by unfold fnB; simp [h1, h2, h3, h4])))
   clear HN
   have k0 : KAt (W0.alloc (.cells #[.int .i64 ps, .int .i64 rs, .slice ca code.length cc] 48)) W0.heap.size (.cells #[.int .i64 ps, .int .i64 rs, .slice ca code.length cc] 48 (0, 0)) := KAt.new _ _
   have K0 := hid k0
   clear k0
   go_wp2_with fail
   clear g0 g1 g2 h1 h2 h3 h4 j1 j2 j3 j4
   go_loopw [95] (fun vj wq => ∃ k : Nat, vj = .int .i64 k ∧ k ≤ code.length ∧ (∀ j y, j < k → code[j]? = some y → formI P.ss.length P.us.length (fpL P.fs) code.length rs y = true) ∧ Below w.heap.size w wq ∧ KAt wq W0.heap.size (.cells #[.int .i64 ps, .int .i64 rs, .slice ca code.length cc] 48 (0, 0))) (fun vj _ => code.length - (intOf vj).toNat)
   case atStart => exact ⟨0, rfl, Nat.zero_le _, by simp, HX.out, K0.out⟩
   case round =>
    obtain ⟨k, rfl, hk, hall, hbq, hK⟩ := hrel
    have HL := hid hall
    have HQ := hid hbq
    have KK := hid hK
    have y0 : wr.cell? ⟨W0.heap.size, 0, none⟩ = some (.int .i64 ps) := by rw [cell_of_row _ _ _ _ _ _ hK.x]; rfl
    have y1 : wr.cell? ⟨W0.heap.size, 1, none⟩ = some (.int .i64 rs) := by rw [cell_of_row _ _ _ _ _ _ hK.x]; rfl
    have y2 : wr.cell? ⟨W0.heap.size, 2, none⟩ = some (.slice ca code.length cc) := by rw [cell_of_row _ _ _ _ _ _ hK.x]; rfl
    have hWlt : W0.heap.size < wr.heap.size := World.block_lt_of_cell? wr _ y0
    clear hall hK
    by_cases hkl : k < code.length
    ·obtain ⟨xb, xo, x, hca, hx, la, lc, va, vc, x0, x1, x2, x3, x4, x5, hl, hv⟩ := cd_cell (HC.out.below hbq) hkl
     subst hca
     clear hbq
     have HXx := hid hx
     have hXl := hid hl
     have hXv := hid hv
     clear hx hl hv
     obtain ⟨op, a, b, c, l, lv⟩ := x
     dsimp only at x0 x1 x2 x3 x4 x5 hXl hXv
     have hba : ∀ o, Below w.heap.size w (wr.alloc o) := fun o => HQ.out.alloc HQ.out.size o
     have HBA := hid hba
     have hbb : ∀ o, Below wr.heap.size wr (wr.alloc o) := fun o => (Below.refl _ _).alloc (Nat.le_refl _) o
     have HBB := hid hbb
     clear hba hbb
     cases hq : (liveB op b lv rs && formB P.ss.length P.us.length (fpL P.fs) code.length rs op a b c l)
     ·go_wp2_with (first
       | (go_at_call 73; refine (CF.out ps rs _ code.length cc op a b c l lv la lc va vc _ (SW2.out.below (HBA.out _)) (SP.out.below (HBA.out _)) (hXl.out.below (HBB.out _)) (hXv.out.below (HBB.out _)) hcn).mono ?_; rw [hq]; rintro e w4 ⟨rfl, hb4⟩; have HB4 := hid ((HBA.out _).trans (hb4.mono (HBA.out _).size)); clear hb4))
      go_ret3
      exact ⟨by rw [HF.out, HR.out, HN2.out, HK.out k _ HXx.out hq HL.out]; rfl, HB4.out⟩
     ·go_wp2_with (first
       | (go_at_call 73; refine (CF.out ps rs _ code.length cc op a b c l lv la lc va vc _ (SW2.out.below (HBA.out _)) (SP.out.below (HBA.out _)) (hXl.out.below (HBB.out _)) (hXv.out.below (HBB.out _)) hcn).mono ?_; rw [hq]; rintro e w4 ⟨rfl, hb4⟩; have HB4 := hid ((HBA.out _).trans (hb4.mono (HBA.out _).size)); have KK4 := hid ((KK.out.below (HBB.out _)).below hb4); clear hb4))
      go_roundw
      case rel => exact ⟨k + 1, by go_num, hkl, fun j y hj hy => by
       rcases Nat.lt_succ_iff_lt_or_eq.1 hj with h | h
       ·exact HL.out j y h hy
       ·subst h; rw [HXx.out] at hy; cases hy; exact hq, HB4.out, KK4.out⟩
      case measure => simp [intOf]; omega
    ·have hke : k = code.length := by omega
     subst hke
     have HN3 := hid (HN2.out.trans (by rw [HKn.out HL.out]))
     have d3 : decide ((code.length : Int) < (code.length : Int)) = false := decide_eq_false (by omega)
     go_wp2_with fail
     go_roundw
     case rel =>
      refine ⟨_, _, _, _, _, _, _, _, ⟨i + 1, rfl, hlt, HR.out.trans HN3.out⟩, rfl, rfl, rfl, rfl, rfl, rfl, rfl, ?_⟩
      go_num
     case measure => simp [intOf]; omega
  ·have hie : i = P.fs.length := by omega
   subst hie
   have d3 : decide ((P.fs.length : Int) < (P.fs.length : Int)) = false := decide_eq_false (by omega)
   go_wp2_with fail
   go_ret3
   exact ⟨by rw [HF.out, HR.out, List.drop_length]; rfl, hb⟩
/-- a number in groups of seven bits -/
def natE (n : Nat) : List UInt8 := if h : n < 128 then [UInt8.ofNat n] else UInt8.ofNat (n % 128 + 128) :: natE (n / 128)
termination_by n
decreasing_by omega
theorem natE_lo {n : Nat} (h : n < 128) : natE n = [UInt8.ofNat n] := by rw [natE, dif_pos h]
theorem natE_hi {n : Nat} (h : ¬ n < 128) : natE n = UInt8.ofNat (n % 128 + 128) :: natE (n / 128) := by rw [natE, dif_neg h]
theorem natE_len : ∀ (k n : Nat), n < 128 ^ (k + 1) → (natE n).length ≤ k + 1 := by
 intro k
 induction k with
 | zero => intro n h; rw [natE_lo (by simpa using h)]; simp
 | succ k ih =>
  intro n h
  by_cases hn : n < 128
  ·rw [natE_lo hn]; simp
  ·rw [natE_hi hn, List.length_cons]
   have : n / 128 < 128 ^ (k + 1) := Nat.div_lt_of_lt_mul (by rw [Nat.pow_succ] at h; rw [Nat.mul_comm]; exact h)
   have := ih _ this
   omega
theorem natE_len10 {n : Nat} (h : n < 18446744073709551616) : (natE n).length ≤ 10 := natE_len 9 n (Nat.lt_of_lt_of_le h (by decide))
/-- a number with its sign, as a number -/
def sgnU (n : Int) : Nat := if n < 0 then (-(2 * n) - 1).toNat else (2 * n).toNat
theorem sgnU_lt {n : Int} (h0 : -9223372036854775808 ≤ n) (h1 : n < 9223372036854775808) : sgnU n < 18446744073709551616 := by
 unfold sgnU; split <;> omega
def sgnE (n : Int) : List UInt8 := natE (sgnU n)
def sgnsE (l : List Int) : List UInt8 := natE l.length ++ l.flatMap sgnE
def natsE (l : List Int) : List UInt8 := natE l.length ++ l.flatMap (fun n => natE n.toNat)
def insE (x : In) : List UInt8 := natE x.op.toNat ++ sgnE x.a ++ sgnE x.b ++ sgnE x.c ++ sgnsE x.l ++ natsE x.lv
def funE (f : Fu) : List UInt8 := natE f.ps.toNat ++ natE f.rs.toNat ++ natE f.code.length ++ f.code.flatMap insE
def strE (s : List UInt8) : List UInt8 := natE s.length ++ s
/-- eight bytes of a word, the lowest first -/
def wordE (u : Int) : List UInt8 := (List.range 8).map fun k => UInt8.ofNat (u.toNat / 2 ^ (8 * k))
def headE (p : Pg) : List UInt8 := natE p.en.toNat ++ natE p.ss.length
def progE (p : Pg) : List UInt8 := headE p ++ p.ss.flatMap strE ++ natE p.us.length ++ p.us.flatMap wordE ++ natE p.fs.length ++ p.fs.flatMap funE
/-- a program's bytes, or the fault -/
noncomputable def encR (p : Pg) : List UInt8 × Int := if (checkL p).2.2 ≠ 0 then ([], (checkL p).2.2) else if (progE p).length ≤ 16777216 then (progE p, 0) else ([], 2)
theorem wordE_len (u : Int) : (wordE u).length = 8 := by simp [wordE]
theorem flat_len {α : Type} {f : α → List UInt8} {c : Nat} : ∀ {l : List α}, (∀ x ∈ l, (f x).length ≤ c) → (l.flatMap f).length ≤ l.length * c := by
 intro l
 induction l with
 | nil => intro _; simp
 | cons x l ih =>
  intro h
  rw [List.flatMap_cons, List.length_append, List.length_cons, Nat.succ_mul]
  have := h x (by simp)
  have := ih (fun y hy => h y (by simp [hy]))
  omega
theorem flat_take {α : Type} {f : α → List UInt8} {l : List α} {k : Nat} {x : α} (h : l[k]? = some x) : (l.take (k + 1)).flatMap f = (l.take k).flatMap f ++ f x := by
 obtain ⟨hk, he⟩ := List.getElem?_eq_some_iff.1 h
 rw [List.take_succ_eq_append_getElem hk, List.flatMap_append, he]
 simp
theorem flat_take_le {α : Type} {f : α → List UInt8} (l : List α) (k : Nat) : ((l.take k).flatMap f).length ≤ (l.flatMap f).length := by
 conv => rhs; rw [← List.take_append_drop k l, List.flatMap_append, List.length_append]
 omega
/-- an int of the machine -/
def I64 (n : Int) : Prop := -9223372036854775808 ≤ n ∧ n < 9223372036854775808
structure InI (x : In) : Prop where
 a : I64 x.a
 b : I64 x.b
 c : I64 x.c
 l : ∀ n ∈ x.l, I64 n
 v : ∀ n ∈ x.lv, I64 n
theorem sgnE_len {n : Int} (h : I64 n) : (sgnE n).length ≤ 10 := natE_len10 (sgnU_lt h.1 h.2)
/-- an instruction's bytes are not many -/
theorem insE_len {x : In} (hi : InI x) (ho : x.op.toNat < 18446744073709551616) (hl : x.l.length ≤ 2048) (hv : x.lv.length ≤ 1024) : (insE x).length ≤ 31000 := by
 unfold insE sgnsE natsE
 simp only [List.length_append]
 have h1 := natE_len10 ho
 have h2 := sgnE_len hi.a
 have h3 := sgnE_len hi.b
 have h4 := sgnE_len hi.c
 have h5 := natE_len10 (n := x.l.length) (by omega)
 have h6 := natE_len10 (n := x.lv.length) (by omega)
 have h7 := flat_len (f := sgnE) (c := 10) (l := x.l) (fun n hn => sgnE_len (hi.l n hn))
 have h8 := flat_len (f := fun n : Int => natE n.toNat) (c := 10) (l := x.lv) (fun n hn => natE_len10 (by have := (hi.v n hn).2; omega))
 omega
end Go.Proofs.YtokjkligechcoaaGreatDoor
