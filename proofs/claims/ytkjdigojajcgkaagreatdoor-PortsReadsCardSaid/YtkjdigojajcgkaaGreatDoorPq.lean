/- The plain answers of layer 21: a report read. No program in sight. -/
import Derived.Test.YtkjdigojajcgkaaGreatDoorPr
namespace Go.Proofs.YtkjdigojajcgkaaGreatDoor.Pt
open Go.RowKit

def outW : List UInt8 := [111, 117, 116]

def uncW : List UInt8 := [117, 110, 99, 97, 117, 103, 104, 116]

def stepW : List UInt8 := [115, 116, 101, 112, 115, 32]

/-- does a constant stand as it is written? -/
def conOk (t : List UInt8) : Bool := decide (St.readE t = 0) && decide (St.escE (St.readB t) = 0) && decide (St.escB (St.readB t) = t)

/-- what stands between the marks behind a word -/
def quIn (w s : List UInt8) : Option (List UInt8) :=
  if (w ++ [32, 34]).isPrefixOf s = true ∧ (s.drop (w.length + 2)).getLast? = some 34 then some (s.drop (w.length + 2)).dropLast else none

def quB (w s : List UInt8) : Option (List UInt8) := match quIn w s with
  | some t => if conOk t then some (St.readB t) else none
  | none => none

def numOk (t : List UInt8) : Bool := decide (Fx.conE t = 0) && decide (Fx.textE (Fx.conV t) = 0) && decide (Fx.textB (Fx.conV t) = t) && decide (0 ≤ Fx.conV t)

/-- the number of steps that a line says; below 0: none -/
def stepV (s : List UInt8) : Int := if stepW.isPrefixOf s = true ∧ numOk (s.drop 6) = true then Fx.conV (s.drop 6) else -1

def stV (s : List UInt8) : Int := if s = statB 1 then 1 else if s = statB 3 then 3 else if s = statB 4 then 4 else if s = statB 5 then 5 else 0

/-- the status that a line says; 0: none -/
def endK (s : List UInt8) : Int := match quB uncW s with | some _ => 2 | none => stV s

def endX (s : List UInt8) : List UInt8 := match quB uncW s with | some t => t | none => []

structure Rs where
  o : Oc
  part : Int

def rs0 : Rs := ⟨⟨[], 0, [], 0⟩, 0⟩

def lineV (r : Rs) (s : List UInt8) : Option Rs :=
  if r.part = 0 then match quB outW s with
    | some t => some ⟨{ r.o with out := r.o.out ++ [t] }, 0⟩
    | none => if endK s = 0 then none else some ⟨{ r.o with st := endK s, exn := endX s }, 1⟩
  else if r.part = 1 then (if stepV s < 0 then none else some ⟨{ r.o with steps := stepV s }, 2⟩)
  else none

/-- lines read one behind the other; the place of the first that is none -/
def runR : List (List UInt8) → Nat → Rs → Rs × Option Nat
  | [], _, r => (r, none)
  | s :: q, i, r => match lineV r s with
    | some r' => runR q (i + 1) r'
    | none => (r, some (i + 1))

def wholeB (l : List UInt8) : Bool := decide ((pieces l).getLast? = some [])

def oc0 : Oc := ⟨[], 0, [], 0⟩

def goodR (l : List UInt8) : Bool := decide (l.length ≤ 1048576) && wholeB l && (match runR (linesL l) 0 rs0 with | (r, none) => decide (r.part = 2) | _ => false)

def rrO (l : List UInt8) : Oc := if goodR l then (runR (linesL l) 0 rs0).1.o else oc0

def rrE (l : List UInt8) : Int := if l.length ≤ 1048576 then (if goodR l then 0 else 210) else 2

def rrN (l : List UInt8) : Int := if l.length ≤ 1048576 then (if goodR l then 0 else match runR (linesL l) 0 rs0 with | (_, some n) => n | _ => if (linesL l).length = 0 then 1 else ((linesL l).length : Int)) else 0

theorem rr_long {l : List UInt8} (h : 1048576 < l.length) : rrO l = oc0 ∧ rrN l = 0 ∧ rrE l = 2 := by
  have hg : goodR l = false := by unfold goodR; rw [decide_eq_false (by omega)]; rfl
  refine ⟨by unfold rrO; rw [hg]; rfl, by unfold rrN; rw [if_neg (by omega)], by unfold rrE; rw [if_neg (by omega)]⟩

/-- what was read of the lines so far -/
def ReadAt (l : List UInt8) (ls : List (List UInt8)) (k : Nat) (r : Rs) : Prop := linesL l = ls ∧ k ≤ ls.length ∧ runR ls 0 rs0 = runR (ls.drop k) k r ∧ 0 ≤ r.part ∧ r.part ≤ 2 ∧ (r.part = 0 → r.o.exn = [] ∧ r.o.st = 0) ∧ r.o.out.length ≤ k

theorem ReadAt.start {l : List UInt8} {ls : List (List UInt8)} (h : linesL l = ls) : ReadAt l ls 0 rs0 := ⟨h, Nat.zero_le _, rfl, by decide, by decide, fun _ => ⟨rfl, rfl⟩, by decide⟩

theorem drop_get {ls : List (List UInt8)} {k : Nat} {x : List UInt8} (h : k < ls.length) (hx : ls.getD k [] = x) : ls.drop k = x :: ls.drop (k + 1) := by
  have : ls[k] = x := by rw [← hx]; simp [List.getD, h]
  rw [List.drop_eq_getElem_cons h, this]

theorem stV_bd (s : List UInt8) : 0 ≤ stV s ∧ stV s ≤ 5 := by unfold stV; repeat' split <;> omega

theorem endK_bd (s : List UInt8) : 0 ≤ endK s ∧ endK s ≤ 5 := by have := stV_bd s; unfold endK; split <;> omega

theorem lineV_part {r r' : Rs} {s : List UInt8} (h : lineV r s = some r') : 0 ≤ r'.part ∧ r'.part ≤ 2 ∧ (r'.part = 0 → r.part = 0 ∧ r'.o.exn = r.o.exn ∧ r'.o.st = r.o.st) ∧ r'.o.out.length ≤ r.o.out.length + 1 := by
  unfold lineV at h
  split at h
  next hp =>
    split at h
    · cases h; simp [hp]
    · split at h
      · cases h
      · cases h; simp
  next hp =>
    split at h
    · split at h
      · cases h
      · cases h; simp
    · cases h

theorem ReadAt.next {l : List UInt8} {ls : List (List UInt8)} {k : Nat} {r r' : Rs} {x : List UInt8} (h : ReadAt l ls k r) (hk : k < ls.length) (hx : ls.getD k [] = x) (hr : lineV r x = some r') : ReadAt l ls (k + 1) r' := by
  obtain ⟨h1, h2, h3, h4, h5, h6, h7⟩ := h
  obtain ⟨g1, g2, g3, g4⟩ := lineV_part hr
  refine ⟨h1, hk, ?_, g1, g2, fun hp => ?_, by omega⟩
  · rw [h3, drop_get hk hx]; simp only [runR, hr]
  · obtain ⟨a, b, c⟩ := g3 hp
    have := h6 a
    exact ⟨b.trans this.1, c.trans this.2⟩

theorem rr_bad {l : List UInt8} {ls : List (List UInt8)} {k : Nat} {r : Rs} {x : List UInt8} (h : ReadAt l ls k r) (hl : l.length ≤ 1048576) (hk : k < ls.length) (hx : ls.getD k [] = x) (hr : lineV r x = none) : rrO l = oc0 ∧ rrN l = ((k + 1 : Nat) : Int) ∧ rrE l = 210 := by
  obtain ⟨h1, h2, h3, _⟩ := h
  have hrun : runR (linesL l) 0 rs0 = (r, some (k + 1)) := by rw [h1, h3, drop_get hk hx]; simp only [runR, hr]
  have hg : goodR l = false := by unfold goodR; rw [hrun]; simp
  refine ⟨by unfold rrO; rw [hg]; rfl, by unfold rrN; rw [if_pos hl, hg, hrun]; rfl, by unfold rrE; rw [if_pos hl, hg]; rfl⟩

theorem rr_stop {l : List UInt8} {ls : List (List UInt8)} {r : Rs} (h : ReadAt l ls ls.length r) (hl : l.length ≤ 1048576) (hw : wholeB l = false ∨ r.part ≠ 2) : rrO l = oc0 ∧ rrN l = (if ls.length = 0 then 1 else (ls.length : Int)) ∧ rrE l = 210 := by
  obtain ⟨h1, h2, h3, _⟩ := h
  have hrun : runR (linesL l) 0 rs0 = (r, none) := by rw [h1, h3, List.drop_length]; rfl
  have hg : goodR l = false := by
    unfold goodR; rw [hrun]
    rcases hw with hw | hw
    · rw [hw]; simp
    · simp [hw]
  refine ⟨by unfold rrO; rw [hg]; rfl, by unfold rrN; rw [if_pos hl, hg, hrun, h1]; rfl, by unfold rrE; rw [if_pos hl, hg]; rfl⟩

theorem rr_fine {l : List UInt8} {ls : List (List UInt8)} {r : Rs} (h : ReadAt l ls ls.length r) (hl : l.length ≤ 1048576) (hw : wholeB l = true) (hp : r.part = 2) : rrO l = r.o ∧ rrN l = 0 ∧ rrE l = 0 := by
  obtain ⟨h1, h2, h3, _⟩ := h
  have hrun : runR (linesL l) 0 rs0 = (r, none) := by rw [h1, h3, List.drop_length]; rfl
  have hg : goodR l = true := by unfold goodR; rw [hrun, hw, decide_eq_true hl]; simp [hp]
  refine ⟨by unfold rrO; rw [hg, hrun]; rfl, by unfold rrN; rw [if_pos hl, hg]; rfl, by unfold rrE; rw [if_pos hl, hg]; rfl⟩

theorem whole_of {l : List UInt8} {a : List (List UInt8)} {b : List UInt8} (h : pieces l = a ++ [b]) : wholeB l = decide (b = []) := by
  unfold wholeB; rw [h]; simp

/-! What a line is -/

theorem qu_some {w s t : List UInt8} (h : quIn w s = some t) (hc : conOk t = true) : quB w s = some (St.readB t) := by unfold quB; rw [h]; simp [hc]

theorem qu_bad {w s t : List UInt8} (h : quIn w s = some t) (hc : conOk t = false) : quB w s = none := by unfold quB; rw [h]; simp [hc]

theorem qu_none {w s : List UInt8} (h : quIn w s = none) : quB w s = none := by unfold quB; rw [h]

theorem quIn_of (w t : List UInt8) : quIn w (w ++ [32, 34] ++ t ++ [34]) = some t := by
  unfold quIn
  have hd : (w ++ [32, 34] ++ t ++ [34]).drop (w.length + 2) = t ++ [34] := by
    rw [List.append_assoc, List.drop_append_of_le_length (by simp)]
    rw [List.drop_of_length_le (by simp)]; rfl
  rw [hd, if_pos ⟨by rw [List.isPrefixOf_iff_prefix, List.append_assoc]; exact List.prefix_append _ _, by simp⟩]
  simp

theorem con_esc {s : List UInt8} (h : St.escE s = 0) : conOk (St.escB s) = true ∧ St.readB (St.escB s) = s := by
  obtain ⟨h1, _, h3⟩ := St.esc_read h
  exact ⟨by unfold conOk; rw [h1, h3, h]; simp, h1⟩

theorem qu_esc {w s : List UInt8} (h : St.escE s = 0) : quB w (w ++ [32, 34] ++ St.escB s ++ [34]) = some s := by
  obtain ⟨h1, h2⟩ := con_esc h
  rw [qu_some (quIn_of w _) h1, h2]

theorem quIn_no {w s : List UInt8} (h : (w ++ [32, 34]).isPrefixOf s = false) : quIn w s = none := by unfold quIn; rw [h]; simp

theorem stV_st {k : Int} (h : k = 1 ∨ k = 3 ∨ k = 4 ∨ k = 5) : stV (statB k) = k ∧ quB uncW (statB k) = none ∧ quB outW (statB k) = none := by
  rcases h with rfl | rfl | rfl | rfl
  all_goals exact ⟨by decide, qu_none (quIn_no (by decide)), qu_none (quIn_no (by decide))⟩

/-! What is written is read as the same -/

def outL (s : List UInt8) : List UInt8 := outW ++ [32, 34] ++ St.escB s ++ [34]

theorem outB_line (s : List UInt8) : outB s = outL s ++ [10] := by unfold outB outL outW; simp

def repLines (o : Oc) : List (List UInt8) := o.out.map outL ++ [endB o, stepsB o.steps]

theorem repL_lines (o : Oc) : repL o = textL (repLines o) := by
  unfold repL repLines textL outsB
  rw [List.flatMap_append, List.flatMap_map]
  have : (fun s => outL s ++ [10]) = outB := by funext s; rw [outB_line]
  simp [this]

theorem nl_app (a b : List UInt8) : hasNl (a ++ b) = (hasNl a || hasNl b) := by unfold hasNl; rw [List.any_append]

theorem shown_nl_fin : ∀ n : Fin 256, hasNl (St.shown (UInt8.ofNat n.val)) = false := by decide +kernel

theorem shown_nl (c : UInt8) : hasNl (St.shown c) = false := by
  have := shown_nl_fin ⟨c.toNat, c.toNat_lt⟩
  rwa [show UInt8.ofNat c.toNat = c from St.ofNat_toNat' c] at this

theorem shownAll_nl (l : List UInt8) : hasNl (St.shownAll l) = false := by
  induction l with
  | nil => rfl
  | cons c r ih => unfold St.shownAll at *; rw [List.flatMap_cons, nl_app, shown_nl, ih]; rfl

theorem escB_nl (l : List UInt8) : hasNl (St.escB l) = false := by unfold St.escB; split; exact shownAll_nl l; rfl

theorem outL_nl (s : List UInt8) : hasNl (outL s) = false := by unfold outL; rw [nl_app, nl_app, nl_app, escB_nl]; rfl

theorem endB_nl {o : Oc} (h : 1 ≤ o.st ∧ o.st ≤ 5) : hasNl (endB o) = false := by
  unfold endB; split
  · rw [nl_app, nl_app, nl_app, escB_nl]; rfl
  · rcases (by omega : o.st = 1 ∨ o.st = 2 ∨ o.st = 3 ∨ o.st = 4 ∨ o.st = 5) with h | h | h | h | h <;> rw [h] <;> rfl

theorem dec_nl (n : Nat) : hasNl (Lib.decDigits n) = false := by
  unfold hasNl; rw [List.any_eq_false]
  intro x hx
  have := Fx.dec_digits n x hx
  intro he
  have : x = 10 := by simpa using he
  subst this; simp at *

theorem textB_nl (n : Int) : hasNl (Fx.textB n) = false := by
  unfold Fx.textB; split
  · split
    · show hasNl ([126] ++ Lib.decDigits _) = false
      rw [nl_app, dec_nl]; rfl
    · exact dec_nl _
  · rfl

theorem stepsB_nl (n : Int) : hasNl (stepsB n) = false := by unfold stepsB; rw [nl_app, textB_nl]; rfl

theorem lines_nl {o : Oc} (h : 1 ≤ o.st ∧ o.st ≤ 5) : (repLines o).any hasNl = false := by
  unfold repLines
  rw [List.any_append, List.any_map]
  have : o.out.any (hasNl ∘ outL) = false := by rw [List.any_eq_false]; intro x _; simp [outL_nl]
  rw [this]; simp [endB_nl h, stepsB_nl]

theorem run_outs (q : List (List UInt8)) : ∀ (p : List (List UInt8)) (i : Nat) (a : List (List UInt8)), (∀ s ∈ p, St.escE s = 0) → runR (p.map outL ++ q) i ⟨⟨a, 0, [], 0⟩, 0⟩ = runR q (i + p.length) ⟨⟨a ++ p, 0, [], 0⟩, 0⟩ := by
  intro p
  induction p with
  | nil => intro i a _; simp
  | cons s p ih =>
    intro i a h
    have h1 : lineV ⟨⟨a, 0, [], 0⟩, 0⟩ (outL s) = some ⟨⟨a ++ [s], 0, [], 0⟩, 0⟩ := by
      unfold lineV outL; rw [qu_esc (h s (by simp))]; rfl
    rw [List.map_cons, List.cons_append]
    simp only [runR, h1]
    rw [ih (i + 1) (a ++ [s]) (fun x hx => h x (by simp [hx]))]
    simp [Nat.add_assoc, Nat.add_comm 1]

theorem repB_back {o : Oc} (h : repE o = 0) : rrO (repB o) = o ∧ rrN (repB o) = 0 ∧ rrE (repB o) = 0 := by
  have hb : repB o = repL o := by unfold repB; rw [if_pos h]
  rw [hb]
  unfold repE at h
  split at h
  next hok =>
    split at h
    next hl =>
      unfold repOk at hok
      rw [Bool.and_eq_true, Bool.and_eq_true, Bool.and_eq_true] at hok
      obtain ⟨⟨⟨hS, hO⟩, hX⟩, hN⟩ := hok
      have hst : 1 ≤ o.st ∧ o.st ≤ 5 := by unfold okS at hS; rw [Bool.and_eq_true] at hS; exact of_decide_eq_true hS.1
      have hpc : pieces (repL o) = repLines o ++ [[]] := by rw [repL_lines]; exact pieces_text (lines_nl hst)
      have hls : linesL (repL o) = repLines o := by rw [linesL_of hpc]; rfl
      have hw : wholeB (repL o) = true := by rw [whole_of hpc]; rfl
      have hesc : ∀ s ∈ o.out, St.escE s = 0 := by
        intro s hs
        unfold okO at hO; rw [List.all_eq_true] at hO; simpa using hO s hs
      unfold okN at hN; rw [Bool.and_eq_true] at hN
      have hn0 : 0 ≤ o.steps := of_decide_eq_true hN.2
      obtain ⟨hc1, hc2⟩ := Fx.con_text hN.1
      have hste : stepV (stepsB o.steps) = o.steps := by
        have hd : (stepsB o.steps).drop 6 = Fx.textB o.steps := by unfold stepsB; rfl
        have hok : numOk (Fx.textB o.steps) = true := by
          unfold numOk; rw [hc1, hc2]
          have : Fx.textE o.steps = 0 := by unfold Fx.textE; rw [hN.1]; rfl
          rw [this]; simp [hn0]
        have hpre : stepW.isPrefixOf (stepsB o.steps) = true := by unfold stepsB stepW; rw [List.isPrefixOf_iff_prefix]; exact List.prefix_append _ _
        unfold stepV
        rw [hd, if_pos ⟨hpre, hok⟩, hc1]
      have hend : quB outW (endB o) = none ∧ endK (endB o) = o.st ∧ endX (endB o) = o.exn := by
        unfold endB
        by_cases h2 : o.st = 2
        · rw [if_pos h2]
          have hx : St.escE o.exn = 0 := by unfold okX at hX; rw [h2] at hX; simpa using hX
          have hq := qu_esc (w := uncW) hx
          refine ⟨qu_none (quIn_no (by rfl)), ?_, ?_⟩
          · unfold endK
            rw [show statB 2 ++ [32, 34] ++ St.escB o.exn ++ [34] = uncW ++ [32, 34] ++ St.escB o.exn ++ [34] from rfl, hq, h2]
          · unfold endX
            rw [show statB 2 ++ [32, 34] ++ St.escB o.exn ++ [34] = uncW ++ [32, 34] ++ St.escB o.exn ++ [34] from rfl, hq]
        · rw [if_neg h2]
          obtain ⟨a1, a2, a3⟩ := stV_st (k := o.st) (by omega)
          have hx : o.exn = [] := by unfold okS at hS; rw [Bool.and_eq_true, decide_eq_false h2] at hS; simpa using hS.2
          refine ⟨a3, ?_, ?_⟩
          · unfold endK; rw [a2]; exact a1
          · unfold endX; rw [a2, hx]
      have hrun : runR (repLines o) 0 rs0 = (⟨o, 2⟩, none) := by
        have h1 : lineV ⟨⟨o.out, 0, [], 0⟩, 0⟩ (endB o) = some ⟨⟨o.out, o.st, o.exn, 0⟩, 1⟩ := by
          unfold lineV; rw [hend.1, hend.2.1, hend.2.2]; simp; omega
        have h2 : lineV ⟨⟨o.out, o.st, o.exn, 0⟩, 1⟩ (stepsB o.steps) = some ⟨⟨o.out, o.st, o.exn, o.steps⟩, 2⟩ := by
          unfold lineV; rw [hste]; simp; omega
        unfold repLines rs0
        rw [run_outs _ o.out 0 [] hesc]
        simp only [List.nil_append, runR, h1, h2]
      have hg : goodR (repL o) = true := by unfold goodR; rw [hls, hrun, hw, decide_eq_true hl]; rfl
      refine ⟨by unfold rrO; rw [hg, hls, hrun]; rfl, by unfold rrN; rw [if_pos hl, hg]; rfl, by unfold rrE; rw [if_pos hl, hg]; rfl⟩
    next => cases h
  next => cases h
end Go.Proofs.YtkjdigojajcgkaaGreatDoor.Pt
