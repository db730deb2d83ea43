/- Walks of layer 16's reference: passes over the code till nothing changes. -/
import Derived.Test.YtokjkligechcoaaGreatDoorKi
set_option linter.unusedVariables false
namespace Go.Proofs.YtokjkligechcoaaGreatDoor
open _root_.Go.Lib (hid)
open Go.RowKit
attribute [local go_sem] ext_mk size_mk toList_mk get_mk take_drop_len take_tail_len ByteArray.mk_append_mk List.append_toArray
/-- numbers and a row of the call's own do not lie in one block -/
theorem ints_ne_own {W : World} {g cap : Nat} {e : TypeId} {xs : List Value} {k : IntKind} {a : Option Addr} {l : List Int} (h : IntsAt k W a l) (ho : OwnAt W g cap e xs) (hc : xs.length = cap) (hx : ∀ v ∈ xs, ∀ z, v ≠ .int k z) (hl : l ≠ []) : ∀ b o, a = some ⟨b, o, none⟩ → b ≠ g := by
 rintro b o rfl rfl
 have hp : 0 < l.length := List.length_pos_iff.2 hl
 obtain ⟨b2, o2, e2, hcell⟩ := ints_cell h hp
 cases e2
 obtain ⟨cur, h1, h2⟩ := ho.ex
 rw [Nat.add_zero, cell_of_row _ _ _ _ _ _ h1] at hcell
 have e3 : cur.toList = xs := by rw [← h2.2, List.take_of_length_le (by rw [hc, Array.length_toList, h2.1]; exact Nat.le_refl _)]
 rw [← Array.getElem?_toList, e3] at hcell
 exact hx _ (List.mem_of_getElem? hcell) _ rfl
theorem ints_keep {W V : World} {p : Nat} {a : Option Addr} {l : List Int} {k : IntKind} (h : IntsAt k W a l) (hg : W.grownBy V (some p)) (ho : l ≠ [] → ∀ b o, a = some ⟨b, o, none⟩ → b ≠ p) : IntsAt k V a l := by
 by_cases hl : l = []
 ·subst hl; exact ⟨h.1, .inl rfl⟩
 ·exact ints_other h hg (ho hl)
/-- the rows while they are made -/
def slotsP (A n rs i : Nat) : List Value := (List.range n).map fun k => if k < i then .slice (some ⟨A + 1 + k, 0, none⟩) rs rs else .slice none 0 0
theorem slotsP_zero (A n rs : Nat) : slotsP A n rs 0 = List.replicate n (.slice none 0 0) := by
 apply List.ext_getElem
 ·simp [slotsP]
 ·intro j h1 h2; simp [slotsP]
theorem slotsP_end (A n rs : Nat) : slotsP A n rs n = rowsB A n rs := by
 unfold slotsP rowsB
 apply List.map_congr_left
 intro j hj
 rw [List.mem_range] at hj
 rw [if_pos hj]
theorem slotsP_next {A n rs i : Nat} (h : i < n) : (slotsP A n rs i).set i (.slice (some ⟨A + 1 + i, 0, none⟩) rs rs) = slotsP A n rs (i + 1) := by
 apply List.ext_getElem
 ·simp [slotsP]
 ·intro j h1 h2
  simp only [slotsP, List.length_set, List.length_map, List.length_range] at h1
  rw [List.getElem_set]
  simp only [slotsP, List.getElem_map, List.getElem_range]
  split
  ·subst_vars; rw [if_pos (by omega)]
  ·by_cases q : j < i
   ·rw [if_pos q, if_pos (by omega)]
   ·rw [if_neg q, if_neg (by omega)]
theorem slotsP_at {A n rs i : Nat} (h : i < n) : (slotsP A n rs i)[i]? = some (.slice none 0 0) := by simp [slotsP, h]
theorem mod_skip {S N y : Nat} (h : N.testBit y = false ∨ S.testBit y = true) : S ||| N % 2 ^ (y + 1) = S ||| N % 2 ^ y := by
 apply Nat.eq_of_testBit_eq
 intro i
 rw [Nat.testBit_or, Nat.testBit_or, Nat.testBit_mod_two_pow, Nat.testBit_mod_two_pow]
 by_cases e : i = y
 ·subst e
  rcases h with h | h <;> simp [h]
 ·rw [show decide (i < y + 1) = decide (i < y) by rw [decide_eq_decide]; omega]
theorem mod_add {S N y : Nat} (h : N.testBit y = true) : S ||| N % 2 ^ (y + 1) = (S ||| N % 2 ^ y) ||| 2 ^ y := by
 rw [← or_mod_next, if_pos (by simp [h])]
theorem mod_ne {S N y : Nat} (h : N.testBit y = true) (h2 : S.testBit y = false) : S ||| N % 2 ^ (y + 1) ≠ S := by
 intro q
 have := congrArg (fun z => z.testBit y) q
 simp [Nat.testBit_or, Nat.testBit_mod_two_pow, h, h2] at this
theorem setB_clr {rs S r : Nat} (h : r < rs) : (setB rs S).set r (.bool false) = setB rs (clrN S r) := by
 apply List.ext_getElem
 ·simp [setB]
 ·intro j h1 h2
  simp only [setB, List.length_set, List.length_map, List.length_range] at h1
  rw [List.getElem_set]
  simp only [setB, List.getElem_map, List.getElem_range, clrN_bit]
  by_cases e : r = j
  ·subst e; simp
  ·rw [if_neg e]; simp [e]
theorem icells {W : World} {q : Nat} {a b c d e f : Value} (h : KAt W q (.cells #[a, b, c, d, e, f] 58 (0, 0))) : W.cell? ⟨q, 0, none⟩ = some a ∧ W.cell? ⟨q, 1, none⟩ = some b ∧ W.cell? ⟨q, 2, none⟩ = some c ∧ W.cell? ⟨q, 3, none⟩ = some d ∧ W.cell? ⟨q, 4, none⟩ = some e ∧ W.cell? ⟨q, 5, none⟩ = some f := by
 refine ⟨?_, ?_, ?_, ?_, ?_, ?_⟩
 all_goals (rw [cell_of_row _ _ _ _ _ _ h.x]; rfl)
theorem grown_below {W V U : World} {r : Option Nat} (h : W.grownBy V r) (hb : Below W.heap.size V U) : W.grownBy U r :=
 ⟨hb.os.trans h.os, hb.tape.trans h.tape, hb.output.trans h.output, Nat.le_trans h.size hb.size, fun b q e => (hb.block b q).trans (h.block b q e)⟩
theorem RtB.grown {W V : World} {A n rs c : Nat} {st : List Nat} (h : RtB W A n rs st) (hg : W.grownBy V (some c)) (hc : c < A) : RtB V A n rs st :=
 ⟨h.a.grown hg (by omega), h.sl, fun k hk => (h.rows k hk).grown hg (by omega)⟩
/-- what the passes keep -/
structure RqA (w W : World) (n rs : Nat) (fo : Obj) (st : List Nat) : Prop where
 b : Below w.heap.size w W
 f : KAt W w.heap.size fo
 r : RtB W (w.heap.size + 1) n rs st
variable {w W V : World} {n rs : Nat} {fo : Obj} {st : List Nat}
theorem RqA.below (h : RqA w W n rs fo st) (hb : Below W.heap.size W V) : RqA w V n rs fo st := ⟨h.b.trans (hb.mono h.b.size), h.f.below hb, h.r.below hb⟩
theorem RqA.out (h : RqA w W n rs fo st) {g j : Nat} (hg : w.heap.size + 1 + n < g) (v : Value) : RqA w (W.setCell ⟨g, j, none⟩ v) n rs fo st :=
 ⟨h.b.setCell (p := ⟨g, j, none⟩) (by show w.heap.size ≤ g; omega) _, h.f.put _ (by show w.heap.size ≠ g; omega) _, h.r.a.other _ (by show w.heap.size + 1 ≠ g; omega) _, h.r.sl, fun k hk => (h.r.rows k hk).other _ (by show w.heap.size + 1 + 1 + k ≠ g; omega) _⟩
theorem RqA.mut (h : RqA w W n rs fo st) {k j S : Nat} {v : Value} (hk : k < n) (hv : (setB rs (st.getD k 0)).set j v = setB rs S) : RqA w (W.setCell ⟨w.heap.size + 1 + 1 + k, j, none⟩ v) n rs fo (st.set k S) := by
 refine ⟨h.b.setCell (p := ⟨w.heap.size + 1 + 1 + k, j, none⟩) (by show w.heap.size ≤ w.heap.size + 1 + 1 + k; omega) _, h.f.put _ (by show w.heap.size ≠ w.heap.size + 1 + 1 + k; omega) _, h.r.a.other _ (by show w.heap.size + 1 ≠ w.heap.size + 1 + 1 + k; omega) _, by rw [List.length_set]; exact h.r.sl, fun i hi => ?_⟩
 rw [getD_set (by rw [h.r.sl]; exact hk)]
 by_cases e : i = k
 ·subst e
  rw [if_pos rfl, ← hv]
  exact (h.r.rows i hi).set j v
 ·rw [if_neg e]
  exact (h.r.rows i hi).other _ (by show w.heap.size + 1 + 1 + i ≠ w.heap.size + 1 + 1 + k; omega) _
theorem RqA.slot (h : RqA w W n rs fo st) {k : Nat} (hk : k < n) : W.cell? ⟨w.heap.size + 1, k, none⟩ = some (.slice (some ⟨w.heap.size + 1 + 1 + k, 0, none⟩) rs rs) := h.r.a.cell (rowsB_get hk)
/-- a pass that has begun -/
def PaR (code : List In) (st0 : List Nat) (j : Nat) (st : List Nat) (more : Bool) : Prop := passP (ahdK code) code.length st0 = ((passP (ahdK code) j st).1, more || (passP (ahdK code) j st).2)
/-- between the passes -/
def PsR (code : List In) (rs : Nat) (st : List Nat) (more : Bool) : Prop := InvP (ahdK code) code.length rs st ∧ ((more = true ∧ ∃ m, st = iterP (ahdK code) code.length m (zeroP code.length)) ∨ (more = false ∧ st = finC code))
theorem PsR.start {code : List In} {rs : Nat} (h : OkQ rs code) : PsR code rs (zeroP code.length) true := ⟨zero_inv h, .inl ⟨rfl, 0, rfl⟩⟩
theorem PsR.pass {code : List In} {rs : Nat} (h : OkQ rs code) {st0 st : List Nat} {more : Bool} (h0 : PsR code rs st0 true) (hp : PaR code st0 0 st more) : PsR code rs st more ∧ (more = true → sumP rs st0 < sumP rs st) := by
 obtain ⟨h1, h2 | h2⟩ := h0
 ·obtain ⟨-, m, hm⟩ := h2
  have e1 : (passP (ahdK code) code.length st0).1 = st := by rw [hp]; rfl
  have e2 : (passP (ahdK code) code.length st0).2 = more := by rw [hp]; simp [passP]
  obtain ⟨q1, q2, q3, q4⟩ := pass_inv (ahd_ok h) _ st0 (Nat.le_refl _) h1
  rw [e1] at q1 q3 q4
  rw [e2] at q3 q4
  refine ⟨⟨q1, ?_⟩, q3⟩
  cases more
  ·right
   refine ⟨rfl, ?_⟩
   have := q4 rfl
   subst this
   rw [hm]
   exact fin_eq (ahd_ok h) (zero_inv h) (by rw [← hm]; exact e2)
  ·left
   exact ⟨rfl, m + 1, by rw [iterP_succ, ← hm, e1]⟩
 ·cases h2.1
def mea2 (n rs : Nat) (st : List Nat) (more : Bool) : Nat := if more then n * (rs + 1) + 1 - sumP rs st else 0
theorem mea_lt {code : List In} {rs : Nat} (h : OkQ rs code) {st0 st : List Nat} {more : Bool} (h0 : PsR code rs st0 true) (hp : PaR code st0 0 st more) : mea2 code.length rs st more < mea2 code.length rs st0 true := by
 obtain ⟨q1, q2⟩ := PsR.pass h h0 hp
 have l1 := sumP_le (rs := rs) st0
 have l2 := sumP_le (rs := rs) st
 rw [h0.1.len] at l1
 rw [q1.1.len] at l2
 unfold mea2
 cases more
 ·simp; omega
 ·have := q2 rfl
  simp; omega
theorem PaR.start (code : List In) (st : List Nat) : PaR code st code.length st false := by unfold PaR; simp
theorem PaR.next {code : List In} {st0 st : List Nat} {j : Nat} {more : Bool} (h : PaR code st0 (j + 1) st more) : PaR code st0 j (st.set j (ahdK code st j)) (more || decide (ahdK code st j ≠ st.getD j 0)) := by
 unfold PaR at h ⊢
 rw [h]
 conv => lhs; unfold passP
 simp [Bool.or_assoc]
theorem ahdK_at {code : List In} {k : Nat} {x : In} (h : code[k]? = some x) (st : List Nat) : ahdK code st k = addR (dropA x (orL st (toS k x))) (readsI x) := by unfold ahdK; rw [h]
def RoR (w : World) (n rs : Nat) (fo : Obj) (code : List In) (q : Nat) (v4 : Value) (wr : World) : Prop := ∃ (st : List Nat) (more : Bool), v4 = .bool more ∧ PsR code rs st more ∧ RqA w wr n rs fo st ∧ q = mea2 n rs st more
set_option maxHeartbeats 4000000 in
set_option maxRecDepth 8000 in
theorem rroots_any (lo c cc : Nat) (ps : Int) (rs : Nat) (code : List In) (w : World) (hcb : CbK lo w.heap.size w c code 0) (hlo : lo ≤ w.heap.size) (hok : OkQ rs code) (hlv0 : ∀ x ∈ code, x.lv = []) (hrs : rs ≤ 4096) (hcn : code.length ≤ 65536) :
  Calls Tryz.prog 40 #[.agg #[.int .i64 ps, .int .i64 (rs : Int), .slice (some ⟨c, 0, none⟩) code.length cc]] w fun e w' => (∃ v, e = .returned v) ∧ w.grownBy w' (some c) ∧ CbK lo w'.heap.size w' c (rootsC rs code) code.length := by
 have hC := hcb.at (by omega)
 have HCB := hid hcb
 have HCL := hid hcb.lt
 obtain ⟨n, hnn⟩ : ∃ n, code.length = n := ⟨_, rfl⟩
 have hmA : ∀ W, (Instr.makeSlice 148 (.int .i64 (n : Int)) (.int .i64 (n : Int))).run Tryz.prog W = .ok (.slice (some ⟨W.heap.size, 0, none⟩) n n) (W.alloc (.cells (madeCells #[.slice none 0 0] n) 133)) := fun W => run_make_row' (P := Tryz.prog) 148 133 (.slice none 0 0) 24 Tryz.underlying148 infoBools rfl .i64 .i64 n (by omega) (by omega) W
 have hmB : ∀ W, (Instr.makeSlice 133 (.int .i64 (rs : Int)) (.int .i64 (rs : Int))).run Tryz.prog W = .ok (.slice (some ⟨W.heap.size, 0, none⟩) rs rs) (W.alloc (.cells (madeCells #[.bool false] rs) 4)) := fun W => run_make_row' (P := Tryz.prog) 133 4 (.bool false) 1 Tryz.underlying133 infoBool rfl .i64 .i64 rs (by omega) (by omega) W
 obtain ⟨fo, hfo⟩ : ∃ fo, Obj.cells #[.int .i64 ps, .int .i64 (rs : Int), .slice (some ⟨c, 0, none⟩) n cc] 48 (0, 0) = fo := ⟨_, rfl⟩
 have HFO := hid hfo
 have HC := hid hC
 have HK := hid hok
 have HN := hid hnn
 obtain ⟨W1, hW1⟩ : ∃ W1, (w.alloc (.cells #[.int .i64 ps, .int .i64 (rs : Int), .slice (some ⟨c, 0, none⟩) n cc] 48)).alloc (.cells (madeCells #[.slice none 0 0] n) 133) = W1 := ⟨_, rfl⟩
 have hb0 : Below w.heap.size w W1 := by rw [← hW1]; exact ((Below.refl _ _).alloc (Nat.le_refl _) _).alloc (by simp) _
 have hk1 : KAt W1 w.heap.size fo := by rw [← hW1, ← hfo]; exact (KAt.new w _).alloc _
 have ho1 : OwnAt W1 (w.heap.size + 1) n 133 (slotsP (w.heap.size + 1) n rs 0) := by
  have o1 := OwnAt.new (w.alloc (.cells #[.int .i64 ps, .int .i64 (rs : Int), .slice (some ⟨c, 0, none⟩) n cc] 48)) (madeCells #[.slice none 0 0] n) 133 (by rw [size_madeCells]; unfold maxLen; omega)
  rw [size_madeCells, made_toList, show (w.alloc (.cells #[.int .i64 ps, .int .i64 (rs : Int), .slice (some ⟨c, 0, none⟩) n cc] 48)).heap.size = w.heap.size + 1 from by simp, hW1] at o1
  rw [slotsP_zero]; exact o1
 have hz1 : W1.heap.size = w.heap.size + 1 + 1 + 0 := by rw [← hW1]; simp
 have S1 := hid (And.intro hb0 (And.intro hk1 (And.intro ho1 hz1)))
 have hrs0 : (0 : Int) ≤ (rs : Int) := by omega
 clear hC hcb hok hfo hb0 hk1 ho1 hz1
 rw [hnn] at hcn ⊢
 go_enter Tryz.func40, Tryz.ntmps40
 go_wp2_with fail
 (try rw [hW1])
 go_loopw [3] (fun v3 wr => ∃ i : Nat, v3 = .int .i64 (i : Int) ∧ i ≤ n ∧ Below w.heap.size w wr ∧ KAt wr w.heap.size fo ∧ OwnAt wr (w.heap.size + 1) n 133 (slotsP (w.heap.size + 1) n rs i) ∧ wr.heap.size = w.heap.size + 1 + 1 + i ∧ ∀ k, k < i → OwnAt wr (w.heap.size + 1 + 1 + k) rs 4 (setB rs 0)) (fun v3 _ => n - (intOf v3).toNat)
 case atStart => exact ⟨0, rfl, Nat.zero_le _, S1.out.1, S1.out.2.1, S1.out.2.2.1, S1.out.2.2.2, fun k hk => absurd hk (Nat.not_lt_zero _)⟩
 case round =>
  clear S1
  obtain ⟨i, rfl, hi, hb, hk, ho, hz, hr⟩ := hrel
  by_cases hlt : i < n
  ·obtain ⟨W2, hW2⟩ : ∃ W2, wr.alloc (.cells (madeCells #[.bool false] rs) 4) = W2 := ⟨_, rfl⟩
   have hb2 : Below wr.heap.size wr W2 := by rw [← hW2]; exact (Below.refl _ _).alloc (Nat.le_refl _) _
   have o2 : OwnAt W2 (w.heap.size + 1 + 1 + i) rs 4 (setB rs 0) := by
    have o1 := OwnAt.new wr (madeCells #[.bool false] rs) 4 (by rw [size_madeCells]; unfold maxLen; omega)
    rw [size_madeCells, made_toList, hz, hW2] at o1
    rw [setB_zero]; exact o1
   have z2 : W2.heap.size = w.heap.size + 1 + 1 + (i + 1) := by rw [← hW2]; simp; omega
   have HB2 := hid (hb.trans (hb2.mono hb.size))
   have HK2 := hid (hk.below hb2)
   have HO2 := hid (ho.below hb2 ho.lt)
   have HZ2 := hid z2
   have HZ := hid hz
   have HR2 := hid (fun k (q : k < i) => (hr k q).below hb2 (hr k q).lt)
   have HP2 := hid o2
   obtain ⟨f0, f1, f2⟩ := fboxc (show KAt wr w.heap.size (.cells #[.int .i64 ps, .int .i64 (rs : Int), .slice (some ⟨c, 0, none⟩) n cc] 48 (0, 0)) by rw [HFO.out]; exact hk)
   have fz := HO2.out.frozen i
   have fy := HO2.out.cell (slotsP_at hlt)
   have HW2 := hid hW2
   clear hb hk ho hz hr hb2 o2 z2
   go_wp2_with fail
   go_roundw
   case rel => exact ⟨i + 1, by go_num, hlt, HB2.out.setCell (p := ⟨w.heap.size + 1, i, none⟩) (Nat.le_succ _) _, HK2.out.put _ (by show w.heap.size ≠ w.heap.size + 1; omega) _, by rw [HZ.out]; have q := HO2.out.set i (.slice (some ⟨w.heap.size + 1 + 1 + i, 0, none⟩) rs rs); rw [slotsP_next hlt] at q; exact q, by have := HZ2.out; simpa [World.setCell] using this, fun k hk => by
    by_cases e : k = i
    ·subst e; exact HP2.out.other _ (by show w.heap.size + 1 + 1 + k ≠ w.heap.size + 1; omega) _
    ·exact (HR2.out k (by omega)).other _ (by show w.heap.size + 1 + 1 + k ≠ w.heap.size + 1; omega) _⟩
   case measure => simp only [intOf]; omega
  ·obtain rfl : i = n := by omega
   rw [slotsP_end] at ho
   have HQ0 := hid (show RqA w wr i rs fo (zeroP i) from ⟨hb, hk, ho, by simp [zeroP], fun k hk => by rw [zeroP_get]; exact hr k hk⟩)
   have hP0 := PsR.start HK.out
   rw [HN.out] at hP0
   have HP0 := hid hP0
   obtain ⟨n, hin⟩ : ∃ n, i = n := ⟨_, rfl⟩
   subst hin
   clear hb hk ho hz hr hP0 hmA hmB hlt hi
   go_wp2_with fail
   go_loopw [4] (fun v4 wr => ∃ q, RoR w i rs fo code q v4 wr) (fun v4 wr => leastOf fun q => RoR w i rs fo code q v4 wr)
   case atStart => exact ⟨_, _, true, rfl, HP0.out, HQ0.out, rfl⟩
   case round =>
    clear HQ0 HP0
    obtain ⟨st, more, rfl, hP, hQ, hm⟩ := leastOf_spec hrel
    have HP := hid hP
    have HQ := hid hQ
    have HM := hid hm
    obtain ⟨wo, hwo⟩ : ∃ wo, wr = wo := ⟨_, rfl⟩
    rw [hwo]
    have HCo := hid (HC.out.below hQ.b)
    obtain ⟨f0, f1, f2⟩ := fboxc (show KAt wo w.heap.size (.cells #[.int .i64 ps, .int .i64 (rs : Int), .slice (some ⟨c, 0, none⟩) i cc] 48 (0, 0)) by rw [HFO.out, ← hwo]; exact hQ.f)
    cases more
    ·rw [hwo] at hQ
     have hst : st = finC code := by
      rcases hP.2 with q | q
      ·exact absurd q.1 (by decide)
      ·exact q.2
     obtain ⟨X, hX⟩ : ∃ X, rootsC rs code = X := ⟨_, rfl⟩
     have hXl : X.length = code.length := by rw [← hX]; simp [rootsC]
     have hXg : ∀ k x, code[k]? = some x → X[k]? = some (rootI rs code k x) := fun k x e => by rw [← hX]; simp [rootsC, List.getElem?_mapIdx, e]
     have HXL := hid hXl
     have HXG := hid hXg
     have HST := hid hst
     have HSL := hid hP.1.lt
     have HXX := hid hX
     have HQ := hid hQ
     have CB0 := hid ((HCB.out.below hQ.b).wk (hi' := wo.heap.size) hQ.b.size)
     have HSZ := hid hQ.b.size
     clear hP hQ hm hrel hst hX hXl hXg HM HP
     go_wp2_with fail
     clear f0 f1 f2
     go_loopw [11] (fun v11 wz => ∃ k : Nat, v11 = .int .i64 (k : Int) ∧ k ≤ i ∧ wo.grownBy wz (some c) ∧ CbK lo wz.heap.size wz c (mixC X code k) k) (fun v11 _ => i - (intOf v11).toNat)
     case atStart => exact ⟨0, rfl, Nat.zero_le _, ⟨rfl, rfl, rfl, Nat.le_refl _, fun _ _ _ => rfl⟩, by rw [mixC_zero]; exact CB0.out⟩
     case round =>
      clear CB0
      obtain ⟨k, rfl, hk, hG, hCB⟩ := hrel
      obtain ⟨wk, hwk⟩ : ∃ wk, wk = wr := ⟨_, rfl⟩
      subst hwk
      have HG := hid hG
      have HCK := hid hCB
      have hfk : KAt wk w.heap.size fo := HQ.out.f.grown hG (by have := HCL.out; omega)
      obtain ⟨f0, f1, f2⟩ := fboxc (show KAt wk w.heap.size (.cells #[.int .i64 ps, .int .i64 (rs : Int), .slice (some ⟨c, 0, none⟩) i cc] 48 (0, 0)) by rw [HFO.out]; exact hfk)
      by_cases hki : k < i
      ·have hkl : k < code.length := by rw [HN.out]; exact hki
       have hx : code[k]? = some code[k] := List.getElem?_eq_getElem hkl
       obtain ⟨x, hxe⟩ : ∃ x, code[k] = x := ⟨_, rfl⟩
       rw [hxe] at hx
       have hxm : (mixC X code k)[k]? = some x := by rw [mixC_get HXL.out hkl]; exact hx
       have hml : (mixC X code k).length = i := by rw [mixC_len HXL.out (by omega)]; exact HN.out
       obtain ⟨cd, hcd⟩ : ∃ cd, mixC X code k = cd := ⟨_, rfl⟩
       have HXI := hid (HXG.out k x hx)
       have HX := hid (show OkP i rs k x by have := HK.out k x hx; rwa [HN.out] at this)
       have hlv := hlv0 x (List.mem_of_getElem? hx)
       have HNX := hid (fun y (e : X[k]? = some y) => mixC_next HXL.out hkl e)
       have HBK := hid (show behK code (finC code) k = dropA x (orL st (toS k x)) by unfold behK; rw [hx, HST.out])
       rw [hcd] at hxm hml hCB HNX HCK
       obtain ⟨cb, co, hce, hXc⟩ := code_cells (hCB.at (by omega)) hxm
       cases hce
       obtain ⟨op, xa, xb, xc, l, lv⟩ := x
       obtain ⟨la, lc, va, vc, h0, h1, h2, h3, h4, h5, h6, h7⟩ := hXc
       dsimp only at h0 h1 h2 h3 h4 h5 h6 h7 hlv
       subst hlv
       rw [Nat.zero_add] at h0 h1 h2 h3 h4 h5
       have hkt : ((k : Int)).toNat = k := Int.toNat_natCast k
       have HXM := hid hxm
       have HML := hid hml
       have HFK := hid hfk
       cases hkp : keepsI op xb
       ·have CKP := hid (fun W => rkeeps_eq op xa xb xc false hkp la va l.length lc ([] : List Int).length vc W)
        have HSK := hid (show mixC X code (k + 1) = cd by
         rw [← HNX.out ⟨op, xa, xb, xc, l, []⟩ (by rw [HXI.out]; simp [rootI, hkp])]
         exact set_at HXM.out)
        clear hG hCB hfk hkl hx hxe hxm hml hcd h6 h7 hkp
        go_wp2_with (go_at_call 101; refine (CKP.out _).mono ?_; rintro e w5 ⟨rfl, hb⟩; have G5 := hid (HG.out.trans ⟨hb.os, hb.tape, hb.output, hb.size, fun b hb' _ => hb.block b hb'⟩); have C5 := hid ((HCK.out.below hb).wk (hi' := w5.heap.size) hb.size); clear hb)
        go_roundw
        case rel => exact ⟨k + 1, by go_num, hki, G5.out, by rw [HSK.out]; exact C5.out.skip⟩
        case measure => simp only [intOf]; omega
       ·have CKP := hid (fun W => rkeeps_eq op xa xb xc true hkp la va l.length lc ([] : List Int).length vc W)
        have CND := hid (fun W h1 h2 => need_any (w.heap.size + 1) i ps rs (some ⟨c, 0, none⟩) cc cd st k ⟨op, xa, xb, xc, l, []⟩ W h1 h2 HML.out HXM.out HX.out HSL.out hrs hcn)
        obtain ⟨Z, hZ⟩ : ∃ Z, orL st (toS k ⟨op, xa, xb, xc, l, []⟩) = Z := ⟨_, rfl⟩
        rw [hZ] at CND
        have hsa : setsI op = true := by
         unfold keepsI at hkp
         unfold setsI
         simp only [Bool.or_eq_true, Bool.and_eq_true, beq_iff_eq] at hkp ⊢
         omega
        obtain ⟨za, zb⟩ := HX.out.sa hsa
        dsimp only at za zb
        obtain ⟨aa, haa⟩ := Int.eq_ofNat_of_zero_le za
        subst haa
        obtain ⟨D, hD⟩ : ∃ D, clrN Z aa = D := ⟨_, rfl⟩
        have HBD := hid (show behK code (finC code) k = D by rw [HBK.out, hZ, ← hD]; unfold dropA; rw [if_pos hsa]; rw [Int.toNat_natCast])
        have HDB := hid (show ∀ y, D.testBit y = (Z.testBit y && !decide (aa = y)) by intro y; rw [← hD, clrN_bit])
        have HSK := hid (show cd.set k ⟨op, (aa : Int), xb, xc, l, regsT rs D⟩ = mixC X code (k + 1) from HNX.out _ (by rw [HXI.out]; unfold rootI; dsimp only; rw [if_pos hkp, HBD.out]; rfl))
        have HKL := hid (show k < cd.length by rw [HML.out]; exact hki)
        have HFC : Hid (∀ V, KAt V w.heap.size fo → V.cell? ⟨w.heap.size, 0, none⟩ = some (.int .i64 ps) ∧ V.cell? ⟨w.heap.size, 1, none⟩ = some (.int .i64 (rs : Int)) ∧ V.cell? ⟨w.heap.size, 2, none⟩ = some (.slice (some ⟨c, 0, none⟩) i cc)) := hid (by rw [← HFO.out]; exact fun V h => fboxc h)
        clear hG hCB hfk hkl hx hxe hxm hml hcd h6 h7 hkp hZ hD hsa za zb
        go_wp2_with (first
         | (go_at_call 101; refine (CKP.out _).mono ?_; rintro e w5 ⟨rfl, hb⟩; have G5 := hid (HG.out.trans ⟨hb.os, hb.tape, hb.output, hb.size, fun b hb' _ => hb.block b hb'⟩); have C5 := hid ((HCK.out.below hb).wk (hi' := w5.heap.size) hb.size); have K5 := hid (HFK.out.below hb); clear hb h0 h1 h2 h3 h4 h5 f0 f1 f2; obtain ⟨f0, f1, f2⟩ := HFC.out _ K5.out)
         | (go_at_call 99; refine (CND.out _ (HQ.out.r.grown G5.out (by have := HCL.out; omega)) (C5.out.at (by have := HML.out; omega))).mono ?_; rintro e w6 ⟨g, rfl, g1, g2, g3⟩; have C6 := hid ((C5.out.below g3).wk (hi' := w6.heap.size) g3.size); have K6 := hid (K5.out.below g3); have O6 := hid g2; have HGC := hid (Nat.lt_of_lt_of_le C5.out.lt g1); have G6 := hid (G5.out.trans ⟨g3.os, g3.tape, g3.output, g3.size, fun b hb' _ => g3.block b hb'⟩); clear g1 g2 g3 f0 f1 f2; obtain ⟨f0, f1, f2⟩ := HFC.out _ K6.out))
        have hi6 : c < w6.heap.size := C6.out.lt
        have HI6 := hid hi6
        have HLO6 := hid (show lo ≤ w6.heap.size by have := HSZ.out; have := G6.out.size; omega)
        have FL0 := hid (C6.out.fill HKL.out)
        clear hi6 f0 f1 f2
        go_loopw [13] (fun v13 wz => ∃ (y : Nat) (v : Value), v13 = .int .i64 (y : Int) ∧ y ≤ rs ∧ FlK lo w6.heap.size wz c cd k v ∧ wz.ownsRow w6.heap.size 3 1 v (regsT y D).length (ints (regsT y D)) ∧ w6.grownBy wz (some c)) (fun v13 _ => rs - (intOf v13).toNat)
        case atStart => exact ⟨0, _, rfl, Nat.zero_le _, FL0.out, World.ownsRow_nil _ _ _ _, ⟨rfl, rfl, rfl, Nat.le_refl _, fun _ _ _ => rfl⟩⟩
        case round =>
         clear FL0
         obtain ⟨y, v, rfl, hy, hF, hO, hG⟩ := hrel
         have HF := hid hF
         have HO := hid hO
         have HG6 := hid hG
         obtain ⟨f0, f1, f2⟩ := HFC.out _ (K6.out.grown hG (by have := HCL.out; omega))
         by_cases hyr : y < rs
         ·have o7 := O6.out.grown hG (by have := HGC.out; omega)
          have u0 := o7.cell (setB_get hyr)
          obtain ⟨u1, u2⟩ := hF.cells
          have u3 := hF.cellA HXM.out
          dsimp only at u3
          have yt : ((y : Int)).toNat = y := Int.toNat_natCast y
          have kt : ((k : Int)).toNat = k := Int.toNat_natCast k
          cases hz : Z.testBit y
          ·rw [hz] at u0
           have HRT := hid (regsT_no (y := y) (S := D) (by rw [HDB.out, hz]; rfl))
           clear hF hO hG o7 hz
           go_wp2_with fail
           go_roundw
           case rel => exact ⟨y + 1, v, by go_num, hyr, HF.out, by rw [HRT.out]; exact HO.out, HG6.out⟩
           case measure => simp only [intOf]; omega
          ·rw [hz] at u0
           by_cases hya : y = aa
           ·have HRT := hid (regsT_no (y := y) (S := D) (by rw [HDB.out, hya]; simp))
            have q0 : (y : Int) = (aa : Int) := by omega
            subst hya
            clear hF hO hG o7 hz
            go_wp2_with fail
            go_roundw
            case rel => exact ⟨y + 1, v, by go_num, hyr, HF.out, by rw [HRT.out]; exact HO.out, HG6.out⟩
            case measure => simp only [intOf]; omega
           ·have HRT := hid (regsT_yes (y := y) (S := D) (by rw [HDB.out, hz]; simp; omega))
            have q0 : ((y : Int) == (aa : Int)) = false := by rw [beq_eq_false_iff_ne]; omega
            have q1 : ¬ ((y : Int) = (aa : Int)) := by omega
            have HRL := hid (regsT_len y D)
            clear hF hO hG o7 hz hya
            go_wp2_with fail
            have HAB := hid (fun o => (show Below wr.heap.size wr (wr.alloc o) from (Below.refl _ _).alloc (Nat.le_refl _) _))
            have HRR := hid (show w6.heap.size ≤ wr.heap.size from HG6.out.size)
            have u1a : ∀ o, (wr.alloc o).cell? ⟨c, k * 6 + 5, none⟩ = some v := fun o => ((HAB.out o).cell (p := ⟨c, k * 6 + 5, none⟩) (World.block_lt_of_cell? _ _ u1)).trans u1
            have f2a : ∀ o, (wr.alloc o).cell? ⟨w.heap.size, 2, none⟩ = some (.slice (some ⟨c, 0, none⟩) i cc) := fun o => ((HAB.out o).cell (p := ⟨w.heap.size, 2, none⟩) (World.block_lt_of_cell? _ _ f2)).trans f2
            go_region_law (refine step_app_list (row_below HO.out (by first | exact HAB.out _ | exact (HAB.out _).drew | exact (Below.refl _ _).drew)) rfl _ _ rfl [(y : Int)] _ _ rfl rfl (ints_new1 (by simp)) (by have := HRL.out; simp; omega) (by have := HRR.out; simp; omega) ?_; intro v' V k1 k2 k3 k4; (obtain ⟨g7, c7, cur7, rfl, -⟩ := own_parts k1 (Nat.succ_pos _)); have B9 := hid (show Below w6.heap.size wr V from (((by first | exact (HAB.out _).mono HRR.out | exact ((HAB.out _).mono HRR.out).drew) : Below w6.heap.size wr _).trans k2)); have F9 := hid (HF.out.low B9.out HI6.out); have O9 := hid k1; obtain ⟨p1, p2⟩ := F9.out.cells; have f2v : V.cell? ⟨w.heap.size, 2, none⟩ = some (.slice (some ⟨c, 0, none⟩) i cc) := (B9.out.cell (p := ⟨w.heap.size, 2, none⟩) (heap_lt K6.out.x)).trans f2; clear k1 k2 k3 k4)
            all_goals go_wp2_with fail
            all_goals
             go_roundw
             case rel => exact ⟨y + 1, .slice (some ⟨g7, 0, none⟩) ((regsT y D).length + 1) c7, by go_num, hyr, F9.out.put _, by
              have q := ownsRow_setCell_below O9.out (a := ⟨c, k * 6 + 5, none⟩) HI6.out (.slice (some ⟨g7, 0, none⟩) ((regsT y D).length + 1) c7)
              rw [HRT.out, List.length_append]
              unfold ints
              rw [List.map_append]
              exact q, (grown_below HG6.out B9.out).trans (grown_set _ c (k * 6 + 5) _)⟩
             case measure => simp only [intOf]; omega
         ·obtain rfl : y = rs := by omega
          obtain ⟨-, a9, cap9, hv9, hI9⟩ := own_rest hO
          have C9 := hid (hF.done HXM.out hG.size hv9 (hI9.rest (fun b q1 q2 => ⟨by have := HLO6.out; omega, q2, rfl⟩)))
          have G9 := hid (G6.out.trans hG)
          clear hF hO hG hv9 hI9
          go_wp2_with fail
          go_roundw
          case rel => exact ⟨k + 1, by go_num, hki, G9.out, by rw [← HSK.out]; exact C9.out⟩
          case measure => simp only [intOf]; omega
      ·obtain rfl : k = i := by omega
       rw [← HN.out, mixC_end HXL.out] at hCB
       have HC9 := hid hCB
       have HGW := hid (World.grownBy.trans ⟨HQ.out.b.os, HQ.out.b.tape, HQ.out.b.output, HQ.out.b.size, fun b hb' _ => HQ.out.b.block b hb'⟩ hG)
       clear hG hCB hfk
       go_wp2_with fail
       go_end0
       exact ⟨⟨_, rfl⟩, HGW.out, by have q := HC9.out; rw [HN.out] at q; rw [HXX.out]; exact q⟩
    ·have HJ0 := hid (PaR.start code st)
     rw [HN.out] at HJ0
     have HI0 := hid hP.1
     rw [hwo] at hQ
     have HQ := hid hQ
     clear hP hQ hm hrel
     go_wp2_with fail
     go_loopw [4, 5] (fun v4 v5 wz => ∃ (j : Nat) (st' : List Nat) (bm : Bool), v5 = .int .i64 ((j : Int) - 1) ∧ v4 = .bool bm ∧ j ≤ i ∧ PaR code st j st' bm ∧ InvP (ahdK code) code.length rs st' ∧ RqA w wz i rs fo st') (fun _ v5 _ => (intOf v5 + 1).toNat)
     case atStart => exact ⟨i, st, false, rfl, rfl, Nat.le_refl _, HJ0.out, HI0.out, HQ.out⟩
     case round =>
      clear HQ HI0 HJ0 f0 f1 f2
      obtain ⟨j, st', bm, rfl, rfl, hj, hPa, hIn, hQ⟩ := hrel
      obtain ⟨wm, hwm⟩ : ∃ wm, wm = wr := ⟨_, rfl⟩
      subst hwm
      have HPa := hid hPa
      have HIn := hid hIn
      have HQ := hid hQ
      obtain ⟨f0, f1, f2⟩ := fboxc (show KAt wm w.heap.size (.cells #[.int .i64 ps, .int .i64 (rs : Int), .slice (some ⟨c, 0, none⟩) i cc] 48 (0, 0)) by rw [HFO.out]; exact hQ.f)
      cases j with
      | zero =>
       rw [show (((0 : Nat) : Int) - 1) = -1 from rfl]
       clear hPa hIn hQ
       go_wp2_with fail
       go_roundw
       case rel => exact ⟨_, st', bm, rfl, (PsR.pass HK.out HP.out HPa.out).1, HQ.out, rfl⟩
       case measure =>
        refine Nat.lt_of_le_of_lt (leastOf_le (n := mea2 i rs st' bm) ⟨st', bm, rfl, (PsR.pass HK.out HP.out HPa.out).1, HQ.out, rfl⟩) ?_
        have := mea_lt HK.out HP.out HPa.out
        rw [HN.out] at this
        have e := HM.out
        rw [hwo] at e
        rw [e]; exact this
      | succ j =>
       rw [show (((j + 1 : Nat) : Int) - 1) = (j : Int) by omega]
       have hjl : j < code.length := by rw [HN.out]; omega
       have hx : code[j]? = some code[j] := List.getElem?_eq_getElem hjl
       obtain ⟨x, hxe⟩ : ∃ x, code[j] = x := ⟨_, rfl⟩
       rw [hxe] at hx
       have HX := hid (HK.out j x hx)
       have hlv : x.lv.length ≤ 1000000000 := by rw [hlv0 x (List.mem_of_getElem? hx)]; exact Nat.zero_le _
       have HXA := hid (ahdK_at hx st')
       have CND := hid (fun W h1 h2 => need_any (w.heap.size + 1) i ps rs (some ⟨c, 0, none⟩) cc code st' j x W h1 h2 HN.out hx (by have := HX.out; rw [HN.out] at this; exact this) hIn.lt hrs hcn)
       obtain ⟨cb, co, hce, hXc⟩ := code_cells (HC.out.below hQ.b) hx
       cases hce
       obtain ⟨op, xa, xb, xc, l, lv⟩ := x
       obtain ⟨la, lc, va, vc, h0, h1, h2, h3, h4, h5, h6, h7⟩ := hXc
       dsimp only at h0 h1 h2 h3 h4 h5 h6 h7 hlv
       rw [Nat.zero_add] at h0 h1 h2 h3 h4 h5
       have hzz : w.heap.size + 1 + i < wm.heap.size := by have := (hQ.r.rows j (by omega)).lt; have := (hQ.r.rows (i - 1) (by omega)).lt; omega
       have HZZ := hid hzz
       have LI := hid (And.intro h6 h7)
       have jt : ((j : Int)).toNat = j := Int.toNat_natCast j
       have hji : j < i := by omega
       clear hPa hIn hQ hx hxe hjl h6 h7 hzz
       obtain ⟨xo, hxo⟩ : ∃ xo, Obj.cells #[.int .i64 op, .int .i64 xa, .int .i64 xb, .int .i64 xc, .slice la l.length lc, .slice va lv.length vc] 58 (0, 0) = xo := ⟨_, rfl⟩
       obtain ⟨W3, hW3⟩ : ∃ W3, wm.alloc (.cells #[.int .i64 op, .int .i64 xa, .int .i64 xb, .int .i64 xc, .slice la l.length lc, .slice va lv.length vc] 58) = W3 := ⟨_, rfl⟩
       have hb3 : Below wm.heap.size wm W3 := by rw [← hW3]; exact (Below.refl _ _).alloc (Nat.le_refl _) _
       have HB3 := hid hb3
       have KX3 := hid (show KAt W3 wm.heap.size xo by rw [← hW3, ← hxo]; exact KAt.new _ _)
       have HXC : Hid (∀ V, KAt V wm.heap.size xo → V.cell? ⟨wm.heap.size, 0, none⟩ = some (.int .i64 op) ∧ V.cell? ⟨wm.heap.size, 1, none⟩ = some (.int .i64 xa) ∧ V.cell? ⟨wm.heap.size, 2, none⟩ = some (.int .i64 xb) ∧ V.cell? ⟨wm.heap.size, 3, none⟩ = some (.int .i64 xc) ∧ V.cell? ⟨wm.heap.size, 4, none⟩ = some (.slice la l.length lc) ∧ V.cell? ⟨wm.heap.size, 5, none⟩ = some (.slice va lv.length vc)) := hid (by rw [← hxo]; exact fun V h => icells h)
       have HFC : Hid (∀ V, KAt V w.heap.size fo → V.cell? ⟨w.heap.size, 0, none⟩ = some (.int .i64 ps) ∧ V.cell? ⟨w.heap.size, 1, none⟩ = some (.int .i64 (rs : Int)) ∧ V.cell? ⟨w.heap.size, 2, none⟩ = some (.slice (some ⟨c, 0, none⟩) i cc)) := hid (by rw [← HFO.out]; exact fun V h => fboxc h)
       have HQ3 := hid (HQ.out.below hb3)
       have HC3 := hid (HC.out.below HQ3.out.b)
       obtain ⟨d0, d1, d2⟩ := HFC.out _ HQ3.out.f
       clear hb3 hxo
       have CST := hid (fun W => rsets_any op xa xb xc la va l.length lc lv.length vc W)
       go_upto_if 49 with (first
        | (go_at_call 99; refine (CND.out _ HQ3.out.r HC3.out).mono ?_; rintro e w4 ⟨g, rfl, g1, g2, g3⟩; have G1 := hid (Nat.lt_of_lt_of_le (heap_lt KX3.out.x) g1); have O4 := hid g2; have B4 := hid (HB3.out.trans (g3.mono HB3.out.size)); have HQ4 := hid (HQ3.out.below g3); have KX4 := hid (KX3.out.below g3); clear g1 g2 g3 d0 d1 d2; obtain ⟨x0, x1, x2, x3, x4, x5⟩ := HXC.out _ KX4.out)
        | (go_at_call 100; refine (CST.out _).mono ?_; rintro e w5 ⟨rfl, hb⟩; have O5 := hid (O4.out.below hb O4.out.lt); have B5 := hid (B4.out.trans (hb.mono B4.out.size)); have HQ5 := hid (HQ4.out.below hb); have KX5 := hid (KX4.out.below hb); clear hb x0 x1 x2 x3 x4 x5; obtain ⟨x0, x1, x2, x3, x4, x5⟩ := HXC.out _ KX5.out))
       obtain ⟨S, hS⟩ : ∃ S, orL st' (toS j ⟨op, xa, xb, xc, l, lv⟩) = S := ⟨_, rfl⟩
       have HSS := hid hS
       have o5 := O5.out
       rw [hS] at o5
       have O5 := hid o5
       clear o5 hS
       go_cut [7] from 35 to 93 (fun v7 wx => v7 = .slice (some ⟨g, 0, none⟩) rs rs ∧ KAt wx wm.heap.size xo ∧ OwnAt wx g rs 4 (setB rs (dropA ⟨op, xa, xb, xc, l, lv⟩ S)) ∧ RqA w wx i rs fo st' ∧ Below wm.heap.size wm wx)
       case first =>
        cases hs : setsI op
        ·go_wp2_with fail
         go_meet
         exact ⟨rfl, KX5.out, by unfold dropA; rw [hs]; exact O5.out, HQ5.out, B5.out⟩
        ·obtain ⟨za, zb⟩ := HX.out.sa hs
         dsimp only at za zb
         obtain ⟨aa, haa⟩ := Int.eq_ofNat_of_zero_le za
         have HAA := hid haa
         have har : aa < rs := by omega
         rw [haa] at x1
         have u0 := O5.out.cell (setB_get har)
         have u1 := O5.out.frozen aa
         clear za zb haa
         go_wp2_with fail
         go_meet
         exact ⟨rfl, KX5.out.put _ (by have := G1.out; show wm.heap.size ≠ g; omega) _, by have q := O5.out.set aa (.bool false); rw [setB_clr har] at q; unfold dropA; rw [hs, if_pos rfl]; dsimp only; rw [HAA.out, Int.toNat_natCast]; exact q, HQ5.out.out (by have := G1.out; have := HZZ.out; omega) _, B5.out.setCell (p := ⟨g, aa, none⟩) (Nat.le_of_lt G1.out) _⟩
       case rest =>
        obtain ⟨rfl, kx, ho, hq, hb⟩ := hcut
        obtain ⟨RL, hRL⟩ : ∃ RL, readsI ⟨op, xa, xb, xc, l, lv⟩ = RL := ⟨_, rfl⟩
        obtain ⟨N0, hN0⟩ : ∃ N0, dropA ⟨op, xa, xb, xc, l, lv⟩ S = N0 := ⟨_, rfl⟩
        have hxr := HX.out.rd
        have hxl := HX.out.ll
        dsimp only at hxl
        have CRD := hid (fun W h1 h2 => rreads_any true op xa xb xc l lv la va lc vc W h1 h2 hxl hlv)
        have HNN := hid (show ahdK code st' j = addR N0 RL by rw [HXA.out, HSS.out, hN0, hRL])
        rw [hRL] at CRD hxr
        simp only [if_pos, List.append_nil] at CRD
        rw [hN0] at ho
        have HRD := hid hxr
        obtain ⟨x0, x1, x2, x3, x4, x5⟩ := HXC.out _ kx
        have O6 := hid ho
        have Q6 := hid hq
        have B6 := hid hb
        have HVB := hid (show ∀ V, Below wm.heap.size wm V → IntsAt .i64 V la l ∧ IntsAt .i64 V va lv from fun V h => ⟨LI.out.1.below h, LI.out.2.below h⟩)
        have hgb : w.heap.size + 1 + i < g := by have := G1.out; have := HZZ.out; omega
        clear kx ho hq hb hRL hN0 hxr hxl O5 O4 B5 B4 HQ5 HQ4 KX5 KX4
        go_wp2_with (go_at_call 89; refine (CRD.out _ (HVB.out _ B6.out).1 (HVB.out _ B6.out).2).mono ?_; rintro e w7 ⟨r, rcap, rfl, q1, q2⟩; have I7 := hid q1; have O7 := hid (O6.out.below q2 O6.out.lt); have Q7 := hid (Q6.out.below q2); have B7 := hid (B6.out.trans (q2.mono B6.out.size)); clear q1 q2 x0 x1 x2 x3 x4 x5)
        have HRG := hid (fun (h : RL ≠ []) => ints_ne_own I7.out O7.out (by simp [setB]) (by intro v hv z e; obtain ⟨y, _, rfl⟩ := List.mem_map.1 hv; cases e) h)
        have hRl : (RL.length : Int) ≤ 9223372036854775807 := by have := I7.out.1; unfold maxLen at this; omega
        go_loopw [9] (fun v9 wz => ∃ y : Nat, v9 = .int .i64 (y : Int) ∧ y ≤ RL.length ∧ OwnAt wz g rs 4 (setB rs (addR N0 (RL.take y))) ∧ RqA w wz i rs fo st' ∧ IntsAt .i64 wz r RL ∧ Below wm.heap.size wm wz) (fun v9 _ => RL.length - (intOf v9).toNat)
        case atStart => exact ⟨0, rfl, Nat.zero_le _, O7.out, Q7.out, I7.out, B7.out⟩
        case round =>
         clear O7 Q7 I7 B7
         obtain ⟨y, rfl, hy, hO, hQ2, hI, hB⟩ := hrel
         have O8 := hid hO
         have Q8 := hid hQ2
         have I8 := hid hI
         have B8 := hid hB
         by_cases hly : y < RL.length
         ·obtain ⟨rb, ro, rfl, rc0⟩ := ints_cell hI hly
          obtain ⟨z0, z1⟩ := HRD.out (RL.getD y 0) (by simp [List.getD, hly])
          obtain ⟨rr, hrr⟩ := Int.eq_ofNat_of_zero_le z0
          have HAD := hid (show addR N0 (RL.take (y + 1)) = addR N0 (RL.take y) ||| 2 ^ rr by
           have e : RL[y] = (rr : Int) := by rw [← hrr]; simp [List.getD, hly]
           rw [List.take_succ_eq_append_getElem hly, e]; simp [addR])
          rw [hrr] at rc0 z1
          have hrr2 : rr < rs := by omega
          have u0 := hO.cell (setB_get hrr2)
          have u1 := hO.frozen rr
          have rt : ((rr : Int)).toNat = rr := Int.toNat_natCast rr
          clear hO hQ2 hI hB hrr z0
          go_wp2_with fail
          go_roundw
          case rel => exact ⟨y + 1, by go_num, hly, by rw [HAD.out, ← setB_put hrr2]; exact O8.out.set rr _, Q8.out.out hgb _, ints_keep I8.out (grown_set _ g rr _) HRG.out, B8.out.setCell (p := ⟨g, rr, none⟩) (by show wm.heap.size ≤ g; exact Nat.le_of_lt G1.out) _⟩
          case measure => simp only [intOf]; omega
         ·obtain rfl : y = RL.length := by omega
          rw [List.take_length] at hO
          clear O8
          obtain ⟨NN, hNN⟩ : ∃ NN, addR N0 RL = NN := ⟨_, rfl⟩
          have HNN2 := hid (HNN.out.trans hNN)
          rw [hNN] at hO
          have O8 := hid hO
          obtain ⟨S0, hS0⟩ : ∃ S0, st'.getD j 0 = S0 := ⟨_, rfl⟩
          have hse : st'.set j S0 = st' := by rw [← hS0]; exact set_getD (by rw [HIn.out.len, HN.out]; exact hji)
          have HSE := hid hse
          have HS0 := hid hS0
          obtain ⟨d0, d1, d2⟩ := HFC.out _ hQ2.f
          clear hO hQ2 hI hB hNN hse hS0 HRG hRl
          go_wp2_with fail
          go_loopw [4, 10] (fun v4 v10 wz => ∃ (y : Nat) (b2 : Bool), v10 = .int .i64 (y : Int) ∧ v4 = .bool b2 ∧ y ≤ rs ∧ b2 = (bm || decide ((S0 ||| NN % 2 ^ y) ≠ S0)) ∧ OwnAt wz g rs 4 (setB rs NN) ∧ RqA w wz i rs fo (st'.set j (S0 ||| NN % 2 ^ y))) (fun _ v10 _ => rs - (intOf v10).toNat)
          case atStart => exact ⟨0, bm, rfl, rfl, Nat.zero_le _, by simp [Nat.mod_one], O8.out, by rw [show S0 ||| NN % 2 ^ 0 = S0 by simp [Nat.mod_one], HSE.out]; exact Q8.out⟩
          case round =>
           clear O8 Q8 d0 d1 d2
           obtain ⟨y, b2, rfl, rfl, hy, hb2, hO, hQ2⟩ := hrel
           have O8 := hid hO
           have Q8 := hid hQ2
           have HB2 := hid hb2
           obtain ⟨d0, d1, d2⟩ := HFC.out _ hQ2.f
           by_cases hly : y < rs
           ·have u0 := hO.cell (setB_get hly)
            have u2 := hQ2.slot hji
            have hg2 : (st'.set j (S0 ||| NN % 2 ^ y)).getD j 0 = S0 ||| NN % 2 ^ y := by rw [getD_set (by rw [HIn.out.len, HN.out]; exact hji), if_pos rfl]
            have hr2 := hQ2.r.rows j hji
            rw [hg2] at hr2
            have u3 := hr2.cell (setB_get hly)
            have u4 := hr2.frozen y
            rw [show (S0 ||| NN % 2 ^ y).testBit y = S0.testBit y by rw [Nat.testBit_or, Nat.testBit_mod_two_pow]; simp] at u3
            have HG2 := hid hg2
            have yt : ((y : Int)).toNat = y := Int.toNat_natCast y
            have jt : ((j : Int)).toNat = j := Int.toNat_natCast j
            cases hn1 : NN.testBit y
            ·rw [hn1] at u0
             have HE := hid (mod_skip (S := S0) (N := NN) (y := y) (.inl hn1))
             clear hO hQ2 hb2 hg2 hr2 hn1
             go_wp2_with fail
             go_roundw
             case rel => exact ⟨y + 1, b2, by go_num, rfl, hly, by rw [HE.out]; exact HB2.out, O8.out, by rw [HE.out]; exact Q8.out⟩
             case measure => simp only [intOf]; omega
            ·rw [hn1] at u0
             cases hs1 : S0.testBit y
             ·rw [hs1] at u3
              have HE := hid (mod_add (S := S0) (N := NN) (y := y) hn1)
              have HNE := hid (mod_ne hn1 hs1)
              clear hO hQ2 hb2 hg2 hr2 hn1 hs1
              go_wp2_with fail
              go_roundw
              case rel => exact ⟨y + 1, true, by go_num, rfl, hly, by rw [show decide (S0 ||| NN % 2 ^ (y + 1) ≠ S0) = true from decide_eq_true HNE.out, Bool.or_true], O8.out.other _ (by show g ≠ w.heap.size + 1 + 1 + j; omega) _, by
               have q := Q8.out.mut (k := j) (j := y) (S := S0 ||| NN % 2 ^ (y + 1)) (v := .bool true) hji (by rw [HG2.out, setB_put hly, HE.out])
               rw [List.set_set] at q
               exact q⟩
              case measure => simp only [intOf]; omega
             ·rw [hs1] at u3
              have HE := hid (mod_skip (S := S0) (N := NN) (y := y) (.inr hs1))
              clear hO hQ2 hb2 hg2 hr2 hn1 hs1
              go_wp2_with fail
              go_roundw
              case rel => exact ⟨y + 1, b2, by go_num, rfl, hly, by rw [HE.out]; exact HB2.out, O8.out, by rw [HE.out]; exact Q8.out⟩
              case measure => simp only [intOf]; omega
           ·obtain rfl : y = rs := by omega
            have hNlt : NN < 2 ^ y := by rw [← HNN2.out]; exact (ahd_ok HK.out).lt st' j HIn.out.lt
            have hsub : S0 ||| NN % 2 ^ y = NN := by
             rw [Nat.mod_eq_of_lt hNlt, ← HS0.out, ← HNN2.out]
             exact (HIn.out.up j (by rw [HN.out]; exact hji)).or
            rw [hsub] at hQ2 hb2
            have HP2 := hid (HPa.out.next)
            have HI2 := hid (HIn.out.step (ahd_ok HK.out) (k := j) (by rw [HN.out]; exact hji))
            have e1 := HP2.out
            have e2 := HI2.out
            rw [HNN2.out] at e1 e2
            rw [HS0.out, ← hb2] at e1
            have HP3 := hid e1
            have HI3 := hid e2
            have Q9 := hid hQ2
            clear hO hQ2 hb2 hNlt hsub e1 e2
            go_wp2_with fail
            go_roundw
            case rel => exact ⟨j, st'.set j NN, b2, rfl, rfl, by omega, HP3.out, HI3.out, Q9.out⟩
            case measure => simp only [intOf]; omega
end Go.Proofs.YtokjkligechcoaaGreatDoor
