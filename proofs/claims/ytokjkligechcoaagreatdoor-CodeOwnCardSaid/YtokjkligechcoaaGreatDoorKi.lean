/- Walks of layer 16's reference: which registers may be read behind an instruction. -/
import Derived.Test.YtokjkligechcoaaGreatDoorKc
import Derived.Test.YtokjkligechcoaaGreatDoorGj
set_option linter.unusedVariables false
namespace Go.Proofs.YtokjkligechcoaaGreatDoor
open _root_.Go.Lib (hid)
open Go.RowKit
attribute [local go_sem] ext_mk size_mk toList_mk get_mk take_drop_len take_tail_len ByteArray.mk_append_mk List.append_toArray
section
/-- the reference's rows lie one behind the other -/
def rowsB (A n rs : Nat) : List Value := (List.range n).map fun k => .slice (some ⟨A + 1 + k, 0, none⟩) rs rs
theorem rowsB_get {A n rs k : Nat} (h : k < n) : (rowsB A n rs)[k]? = some (.slice (some ⟨A + 1 + k, 0, none⟩) rs rs) := by simp [rowsB, h]
structure RtB (W : World) (A n rs : Nat) (st : List Nat) : Prop where
 a : OwnAt W A n 133 (rowsB A n rs)
 sl : st.length = n
 rows : ∀ k, k < n → OwnAt W (A + 1 + k) rs 4 (setB rs (st.getD k 0))
variable {W V : World} {A n rs : Nat} {st : List Nat}
theorem RtB.below (h : RtB W A n rs st) (hb : Below W.heap.size W V) : RtB V A n rs st := ⟨h.a.below hb h.a.lt, h.sl, fun k hk => (h.rows k hk).below hb (h.rows k hk).lt⟩
theorem fboxc {W : World} {q : Nat} {u v x : Value} (h : KAt W q (.cells #[u, v, x] 48 (0, 0))) : W.cell? ⟨q, 0, none⟩ = some u ∧ W.cell? ⟨q, 1, none⟩ = some v ∧ W.cell? ⟨q, 2, none⟩ = some x := by
 refine ⟨?_, ?_, ?_⟩
 all_goals (rw [cell_of_row _ _ _ _ _ _ h.x]; rfl)
theorem orL_snoc2 (st ts : List Nat) (t : Nat) : orL st (ts ++ [t]) = orL st ts ||| st.getD t 0 := by simp [orL]
theorem setB_at {rs S r : Nat} {b : Bool} (h : r < rs) (hb : b = true ∨ S.testBit r = false) : (setB rs S).set r (.bool b) = setB rs (if b then S ||| 2 ^ r else S) := by
 cases b
 ·rcases hb with hb | hb
  ·cases hb
  ·exact setB_keep hb
 ·exact setB_put h
theorem or_mod_next {S T r : Nat} : (if (S ||| T % 2 ^ r).testBit r || T.testBit r then (S ||| T % 2 ^ r) ||| 2 ^ r else S ||| T % 2 ^ r) = S ||| T % 2 ^ (r + 1) := by
 apply Nat.eq_of_testBit_eq
 intro i
 have hb : (S ||| T % 2 ^ r).testBit r = S.testBit r := by rw [Nat.testBit_or, Nat.testBit_mod_two_pow]; simp
 rw [hb]
 by_cases e : i = r
 ·subst e
  by_cases q : (S.testBit i || T.testBit i) = true
  ·rw [if_pos q]
   simp only [Nat.testBit_or, Nat.testBit_mod_two_pow, Nat.testBit_two_pow_self]
   simp [q]
  ·rw [if_neg q]
   simp only [Nat.testBit_or, Nat.testBit_mod_two_pow]
   simp at q
   simp [q]
 ·have h1 : decide (i < r + 1) = decide (i < r) := by rw [decide_eq_decide]; omega
  have h2 : (2 ^ r).testBit i = false := by rw [Nat.testBit_two_pow]; simp; omega
  split <;> simp only [Nat.testBit_or, Nat.testBit_mod_two_pow, h1, h2, Bool.or_false]
set_option maxHeartbeats 4000000 in
set_option maxRecDepth 8000 in
theorem need_any (A n : Nat) (ps : Int) (rs : Nat) (ca : Option Addr) (cc : Nat) (code : List In) (st : List Nat) (k : Nat) (x : In) (w : World)
  (hR : RtB w A n rs st) (hC : CodeAt w ca code) (hn : code.length = n) (hx : code[k]? = some x) (hok : OkP n rs k x) (hst : ∀ i, st.getD i 0 < 2 ^ rs) (hrs : rs ≤ 4096) (hcn : n ≤ 65536) :
  Calls Tryz.prog 99 #[.agg #[.int .i64 ps, .int .i64 (rs : Int), .slice ca n cc], .int .i64 (k : Int), .slice (some ⟨A, 0, none⟩) n n] w fun e w' => ∃ g, e = .returned (.slice (some ⟨g, 0, none⟩) rs rs) ∧ w.heap.size ≤ g ∧ OwnAt w' g rs 4 (setB rs (orL st (toS k x))) ∧ Below w.heap.size w w' := by
 have hkn : k < n := by rw [← hn]; exact (List.getElem?_eq_some_iff.1 hx).1
 have hmk : ∀ W, (Instr.makeSlice 133 (.int .i64 (rs : Int)) (.int .i64 (rs : Int))).run Tryz.prog W = .ok (.slice (some ⟨W.heap.size, 0, none⟩) rs rs) (W.alloc (.cells (madeCells #[.bool false] rs) 4)) := fun W => run_make_row' (P := Tryz.prog) 133 4 (.bool false) 1 Tryz.underlying133 infoBool rfl .i64 .i64 rs (by omega) (by omega) W
 obtain ⟨cb, co, rfl, hXA⟩ := code_cells hC hx
 obtain ⟨op, xa, xb, xc, l, lv⟩ := x
 obtain ⟨la, lc, va, vc, h0, h1, h2, h3, h4, h5, h6, h7⟩ := hXA
 dsimp only at h0 h1 h2 h3 h4 h5 h6 h7
 obtain ⟨fo, hfo⟩ : ∃ fo, Obj.cells #[.int .i64 ps, .int .i64 (rs : Int), .slice (some ⟨cb, co, none⟩) n cc] 48 (0, 0) = fo := ⟨_, rfl⟩
 have hb0 : Below w.heap.size w ((w.alloc (.cells #[.int .i64 ps, .int .i64 (rs : Int), .slice (some ⟨cb, co, none⟩) n cc] 48)).alloc (.cells (madeCells #[.bool false] rs) 4)) := ((Below.refl _ _).alloc (Nat.le_refl _) _).alloc (by simp) _
 obtain ⟨W1, hW1⟩ : ∃ W1, (w.alloc (.cells #[.int .i64 ps, .int .i64 (rs : Int), .slice (some ⟨cb, co, none⟩) n cc] 48)).alloc (.cells (madeCells #[.bool false] rs) 4) = W1 := ⟨_, rfl⟩
 rw [hW1] at hb0
 have hk1 : KAt W1 w.heap.size (.cells #[.int .i64 ps, .int .i64 (rs : Int), .slice (some ⟨cb, co, none⟩) n cc] 48 (0, 0)) := by rw [← hW1]; exact (KAt.new w _).alloc _
 have ho1 : OwnAt W1 (w.heap.size + 1) rs 4 (setB rs 0) := by
  have o1 := OwnAt.new (w.alloc (.cells #[.int .i64 ps, .int .i64 (rs : Int), .slice (some ⟨cb, co, none⟩) n cc] 48)) (madeCells #[.bool false] rs) 4 (by rw [size_madeCells]; unfold maxLen; omega)
  rw [size_madeCells, made_toList, show (w.alloc (.cells #[.int .i64 ps, .int .i64 (rs : Int), .slice (some ⟨cb, co, none⟩) n cc] 48)).heap.size = w.heap.size + 1 from by simp, hW1] at o1
  rw [setB_zero]; exact o1
 have HK1 := hid hk1
 have HO1 := hid ho1
 have HB0 := hid hb0
 have HX := hid hok
 have HR := hid hR
 have HST := hid hst
 have HL6 := hid h6
 have HXC : Hid (∀ V, Below w.heap.size w V → V.cell? ⟨cb, co + k * 6, none⟩ = some (.int .i64 op) ∧ V.cell? ⟨cb, co + k * 6 + 1, none⟩ = some (.int .i64 xa) ∧ V.cell? ⟨cb, co + k * 6 + 2, none⟩ = some (.int .i64 xb) ∧ V.cell? ⟨cb, co + k * 6 + 3, none⟩ = some (.int .i64 xc) ∧ V.cell? ⟨cb, co + k * 6 + 4, none⟩ = some (.slice la l.length lc) ∧ V.cell? ⟨cb, co + k * 6 + 5, none⟩ = some (.slice va lv.length vc)) := hid (by
  intro V hb
  have hl := World.block_lt_of_cell? w _ h0
  exact ⟨(hb.cell (p := ⟨cb, co + k * 6, none⟩) hl).trans h0, (hb.cell (p := ⟨cb, co + k * 6 + 1, none⟩) hl).trans h1, (hb.cell (p := ⟨cb, co + k * 6 + 2, none⟩) hl).trans h2, (hb.cell (p := ⟨cb, co + k * 6 + 3, none⟩) hl).trans h3, (hb.cell (p := ⟨cb, co + k * 6 + 4, none⟩) hl).trans h4, (hb.cell (p := ⟨cb, co + k * 6 + 5, none⟩) hl).trans h5⟩)
 have CNX := hid (fun W h1 => rnext_any (k : Int) op xa xb xc l la va lc lv.length vc W h1 (by omega) (by omega) hok.ll)
 obtain ⟨L, hL⟩ : ∃ L, nextL (k : Int) op xc l = L := ⟨_, rfl⟩
 have HT := hid (show toS k ⟨op, xa, xb, xc, l, lv⟩ = L.map Int.toNat by rw [← hL]; rfl)
 have HGO := hid (show ∀ z ∈ L, 0 ≤ z ∧ z ≤ (n : Int) by rw [← hL]; exact hok.go)
 rw [hL] at CNX
 obtain ⟨c0, c1, c2, c3, c4, c5⟩ := HXC.out W1 hb0
 obtain ⟨f0, f1, f2⟩ := fboxc hk1
 have kt : ((k : Int)).toNat = k := Int.toNat_natCast k
 have hrs0 : (0 : Int) ≤ (rs : Int) := by omega
 have HGW := hid (heap_lt hk1.x)
 clear h0 h1 h2 h3 h4 h5 h6 h7 hC hx hok hR hst hL hb0 hk1 ho1 hfo
 go_enter Tryz.func99, Tryz.ntmps99
 go_wp2_with (go_at_call 86; (try rw [hW1]); refine (CNX.out _ (HL6.out.below HB0.out)).mono ?_; rintro e w2 ⟨r, cap, rfl, q1, q2, q4⟩; have I2 := hid q1; have B2 := hid (HB0.out.trans (q2.mono HB0.out.size)); have O2 := hid (HO1.out.below q2 HO1.out.lt); have K2 := hid (HK1.out.below q2); have N2 := hid q4; clear q1 q2 q4)
 have HRB := hid (fun b o (q : r = some ⟨b, o, none⟩) => (show b ≠ w.heap.size + 1 by have := N2.out b o q; have := HO1.out.lt; omega))
 have hLl : (L.length : Int) ≤ 9223372036854775807 := by have := I2.out.1; unfold maxLen at this; omega
 clear c0 c1 c2 c3 c4 c5 f0 f1 f2 N2
 go_loopw [9] (fun v9 wr => ∃ j : Nat, v9 = .int .i64 (j : Int) ∧ j ≤ L.length ∧ OwnAt wr (w.heap.size + 1) rs 4 (setB rs (orL st ((L.take j).map Int.toNat))) ∧ Below w.heap.size w wr ∧ IntsAt .i64 wr r L ∧ KAt wr w.heap.size (.cells #[.int .i64 ps, .int .i64 (rs : Int), .slice (some ⟨cb, co, none⟩) n cc] 48 (0, 0))) (fun v9 _ => L.length - (intOf v9).toNat)
 case atStart => exact ⟨0, rfl, Nat.zero_le _, O2.out, B2.out, I2.out, K2.out⟩
 case round =>
  clear O2 B2 I2 K2
  obtain ⟨j, rfl, hj, hO, hBe, hI, hK⟩ := hrel
  have O2 := hid hO
  have B2 := hid hBe
  have I2 := hid hI
  have K2 := hid hK
  by_cases hlt : j < L.length
  ·obtain ⟨rb, ro, rfl, rc0⟩ := ints_cell hI hlt
   obtain ⟨z0, z1⟩ := HGO.out (L.getD j 0) (by simp [List.getD, hlt])
   obtain ⟨t, ht⟩ := Int.eq_ofNat_of_zero_le z0
   have HTJ := hid (show (L.take (j + 1)).map Int.toNat = (L.take j).map Int.toNat ++ [t] by
    have e : L[j] = (t : Int) := by rw [← ht]; simp [List.getD, hlt]
    rw [List.take_succ_eq_append_getElem hlt, List.map_append, List.map_singleton, e, Int.toNat_natCast])
   have HTD := hid ht
   rw [ht] at rc0 z1
   have htn : t ≤ n := by omega
   have hrne : rb ≠ w.heap.size + 1 := HRB.out rb ro rfl
   obtain ⟨S, hS⟩ : ∃ S, orL st ((L.take j).map Int.toNat) = S := ⟨_, rfl⟩
   obtain ⟨T, hT⟩ : ∃ T, st.getD t 0 = T := ⟨_, rfl⟩
   have HST2 := hid (show orL st ((L.take (j + 1)).map Int.toNat) = S ||| T by rw [HTJ.out, orL_snoc2, hS, hT])
   have HTT := hid (show T < 2 ^ rs by rw [← hT]; exact HST.out t)
   have HTV := hid hT
   have o2 := hO
   rw [hS] at o2
   have O2 := hid o2
   clear hO hBe hI hK ht o2 hS hT HTJ z0
   go_wp2_with fail
   go_loopw [10] (fun v10 wz => ∃ i : Nat, v10 = .int .i64 (i : Int) ∧ i ≤ rs ∧ (i = 0 ∨ t < n) ∧ OwnAt wz (w.heap.size + 1) rs 4 (setB rs (S ||| T % 2 ^ i)) ∧ Below w.heap.size w wz ∧ IntsAt .i64 wz (some ⟨rb, ro, none⟩) L ∧ KAt wz w.heap.size (.cells #[.int .i64 ps, .int .i64 (rs : Int), .slice (some ⟨cb, co, none⟩) n cc] 48 (0, 0))) (fun v10 _ => rs - (intOf v10).toNat)
   case atStart => exact ⟨0, rfl, Nat.zero_le _, .inl rfl, by simpa [Nat.mod_one] using O2.out, B2.out, I2.out, K2.out⟩
   case round =>
    clear O2 B2 I2 K2 rc0
    obtain ⟨i, rfl, hi, h0, hO, hBe, hI, hK⟩ := hrel
    have O2 := hid hO
    have B2 := hid hBe
    have I2 := hid hI
    have K2 := hid hK
    obtain ⟨rb', ro', hrr, rc0⟩ := ints_cell hI hlt
    cases hrr
    rw [HTD.out] at rc0
    obtain ⟨f0, f1, f2⟩ := fboxc hK
    obtain ⟨U, hU⟩ : ∃ U, S ||| T % 2 ^ i = U := ⟨_, rfl⟩
    by_cases hc : t < n ∧ i < rs
    ·obtain ⟨hc1, hc2⟩ := hc
     have u0 := hO.cell (setB_get hc2)
     have u1 := hO.frozen i
     have u2 := (HR.out.a.below hBe HR.out.a.lt).cell (rowsB_get hc1)
     have u3 := ((HR.out.rows t hc1).below hBe (HR.out.rows t hc1).lt).cell (setB_get hc2)
     rw [HTV.out] at u3
     rw [hU] at u0 hO
     have it : ((i : Int)).toNat = i := Int.toNat_natCast i
     have tt : ((t : Int)).toNat = t := Int.toNat_natCast t
     obtain ⟨b1, hb1⟩ : ∃ b, U.testBit i = b := ⟨_, rfl⟩
     obtain ⟨b2, hb2⟩ : ∃ b, T.testBit i = b := ⟨_, rfl⟩
     have HN := hid (show setB rs (S ||| T % 2 ^ (i + 1)) = (setB rs U).set i (.bool (b1 || b2)) by
      have e : S.testBit i = b1 := by rw [← hb1, ← hU, Nat.testBit_or, Nat.testBit_mod_two_pow]; simp
      rw [setB_at hc2 (by rw [hb1]; cases b1 <;> simp), ← or_mod_next (S := S) (T := T) (r := i), hU, hb1, hb2])
     rw [hb1] at u0
     rw [hb2] at u3
     have O3 := hid hO
     have k1 : decide ((t : Int) < (n : Int)) = true := decide_eq_true (by omega)
     have k2 : decide ((i : Int) < (rs : Int)) = true := decide_eq_true (by omega)
     clear hO hBe hI hK hb1 hb2 hU h0
     cases b1
     ·
      go_wp2_with fail
      go_quiet (fail)
      go_wp2_with fail
      go_roundw
      case rel => exact ⟨i + 1, by go_num, hc2, .inr hc1, by rw [HN.out]; exact (O3.out.drewN _).set i _, (below_drewN B2.out _).setCell (p := ⟨w.heap.size + 1, i, none⟩) (Nat.le_succ _) _, ints_other (I2.out.below (below_drewN (Below.refl _ _) _)) (grown_set _ (w.heap.size + 1) i _) (fun b o q => by cases q; exact hrne), (K2.out.below (below_drewN (Below.refl _ _) _)).put ⟨w.heap.size + 1, i, none⟩ (Nat.ne_of_lt (Nat.lt_succ_self _)) _⟩
      case measure => simp only [intOf]; omega
     ·
      go_wp2_with fail
      go_quiet (fail)
      go_wp2_with fail
      go_roundw
      case rel => exact ⟨i + 1, by go_num, hc2, .inr hc1, by rw [HN.out]; exact (O3.out.drewN _).set i _, (below_drewN B2.out _).setCell (p := ⟨w.heap.size + 1, i, none⟩) (Nat.le_succ _) _, ints_other (I2.out.below (below_drewN (Below.refl _ _) _)) (grown_set _ (w.heap.size + 1) i _) (fun b o q => by cases q; exact hrne), (K2.out.below (below_drewN (Below.refl _ _) _)).put ⟨w.heap.size + 1, i, none⟩ (Nat.ne_of_lt (Nat.lt_succ_self _)) _⟩
      case measure => simp only [intOf]; omega
    ·have HE := hid (show orL st ((L.take (j + 1)).map Int.toNat) = U by
      rw [HST2.out, ← hU]
      by_cases q : t < n
      ·have : i = rs := by omega
       rw [this, Nat.mod_eq_of_lt HTT.out]
      ·have e : T = 0 := by rw [← HTV.out, List.getD_eq_getElem?_getD, List.getElem?_eq_none (by rw [HR.out.sl]; omega)]; rfl
       rw [e, Nat.zero_mod])
     rw [hU] at hO
     have O3 := hid hO
     rcases (show ¬ t < n ∨ (t < n ∧ ¬ i < rs) by omega) with q | ⟨q, q2⟩
     ·have k1 : decide ((t : Int) < (n : Int)) = false := decide_eq_false (by omega)
      clear hO hBe hI hK hU h0 hc
      go_wp2_with fail
      go_quiet (fail)
      go_wp2_with fail
      go_roundw
      case rel => exact ⟨j + 1, by go_num, hlt, by rw [HE.out]; exact O3.out.drewN _, below_drewN B2.out _, I2.out.below (below_drewN (Below.refl _ _) _), K2.out.below (below_drewN (Below.refl _ _) _)⟩
      case measure => simp only [intOf]; omega
     ·have k1 : decide ((t : Int) < (n : Int)) = true := decide_eq_true (by omega)
      have k2 : decide ((i : Int) < (rs : Int)) = false := decide_eq_false (by omega)
      clear hO hBe hI hK hU h0 hc
      go_wp2_with fail
      go_quiet (fail)
      go_wp2_with fail
      go_roundw
      case rel => exact ⟨j + 1, by go_num, hlt, by rw [HE.out]; exact O3.out.drewN _, below_drewN B2.out _, I2.out.below (below_drewN (Below.refl _ _) _), K2.out.below (below_drewN (Below.refl _ _) _)⟩
      case measure => simp only [intOf]; omega
  ·obtain rfl : j = L.length := by omega
   rw [List.take_length, ← HT.out] at hO
   have O2 := hid hO
   clear hO hBe hI hK
   go_wp2_with fail
   go_ret
   exact ⟨_, rfl, Nat.le_succ _, O2.out, B2.out⟩
end
section
abbrev KR (lo hi : Nat) : Nat → TypeId → Prop := fun b T => lo ≤ b ∧ b < hi ∧ T = 3
/-- code in a block of its own, numbers in blocks from lo to hi; from k on the lists are nil -/
def CbK (lo hi : Nat) (W : World) (c : Nat) (code : List In) (k : Nat) : Prop := ∃ cs, W.heap[c]? = some (.cells cs 58 (0, 0)) ∧ (∀ i x, code[i]? = some x → InV (KR lo hi) W x (fun j => cs[i * 6 + j]?)) ∧ ∀ i, k ≤ i → i < code.length → cs[i * 6 + 5]? = some (Value.slice none 0 0)
/-- and one list is being filled -/
def FlK (lo hi : Nat) (W : World) (c : Nat) (code : List In) (k : Nat) (v : Value) : Prop := ∃ cs, W.heap[c]? = some (.cells cs 58 (0, 0)) ∧ cs[k * 6 + 5]? = some v ∧ (∀ i x, code[i]? = some x → InV (KR lo hi) W x (fun j => if i = k ∧ j = 5 then some (.slice none 0 0) else cs[i * 6 + j]?)) ∧ ∀ i, k < i → i < code.length → cs[i * 6 + 5]? = some (Value.slice none 0 0)
variable {lo hi hi' c k : Nat} {W V : World} {code : List In} {v : Value}
theorem CbK.lt (h : CbK lo hi W c code k) : c < W.heap.size := by obtain ⟨cs, h1, -⟩ := h; exact heap_lt h1
theorem CbK.at (h : CbK lo hi W c code k) (hl : code.length ≤ 1000000000) : CodeAt W (some ⟨c, 0, none⟩) code := by
 obtain ⟨cs, h1, h2, h3⟩ := h
 exact ⟨hl, .inr ⟨c, 0, rfl, fun i x e => by rw [Nat.zero_add]; exact InV.at h1 (h2 i x e)⟩⟩
theorem CbK.kp (h : CbK lo hi W c code k) (hc : V.heap[c]? = W.heap[c]?) (q : Kp (KR lo hi) W V) : CbK lo hi V c code k := by
 obtain ⟨cs, h1, h2, h3⟩ := h
 exact ⟨cs, hc.trans h1, fun i x e => (h2 i x e).kp q, h3⟩
theorem CbK.wk (h : CbK lo hi W c code k) (hh : hi ≤ hi') : CbK lo hi' W c code k := by
 obtain ⟨cs, h1, h2, h3⟩ := h
 exact ⟨cs, h1, fun i x e => (h2 i x e).wk (fun b _ q => ⟨q.1, by have := q.2.1; omega, rfl⟩), h3⟩
theorem CbK.below (h : CbK lo hi W c code k) (hb : Below W.heap.size W V) : CbK lo hi V c code k := h.kp (hb.block c h.lt) (Kp.below hb)
theorem CbK.skip (h : CbK lo hi W c code k) : CbK lo hi W c code (k + 1) := by
 obtain ⟨cs, h1, h2, h3⟩ := h
 exact ⟨cs, h1, h2, fun i q r => h3 i (by omega) r⟩
theorem CbK.fill (h : CbK lo hi W c code k) (hk : k < code.length) : FlK lo hi W c code k (.slice none 0 0) := by
 obtain ⟨cs, h1, h2, h3⟩ := h
 have h4 := h3 k (Nat.le_refl _) hk
 refine ⟨cs, h1, h4, fun i x e => (h2 i x e).same (fun j hj => ?_), fun i q r => h3 i (by omega) r⟩
 split
 ·rename_i q; obtain ⟨rfl, rfl⟩ := q; exact h4.symm
 ·rfl
theorem FlK.kp (h : FlK lo hi W c code k v) (hc : V.heap[c]? = W.heap[c]?) (q : Kp (KR lo hi) W V) : FlK lo hi V c code k v := by
 obtain ⟨cs, h1, h2, h3, h4⟩ := h
 exact ⟨cs, hc.trans h1, h2, fun i x e => (h3 i x e).kp q, h4⟩
theorem FlK.low (h : FlK lo hi W c code k v) (hb : Below hi W V) (hc : c < hi) : FlK lo hi V c code k v :=
 h.kp (hb.block c hc) ⟨hb.size, fun b cs T q e => (hb.block b q.2.1).trans e⟩
theorem FlK.lt (h : FlK lo hi W c code k v) : c < W.heap.size := by obtain ⟨cs, h1, -⟩ := h; exact heap_lt h1
theorem FlK.cells (h : FlK lo hi W c code k v) : W.cell? ⟨c, k * 6 + 5, none⟩ = some v ∧ W.frozen? ⟨c, k * 6 + 5, none⟩ = false := by
 obtain ⟨cs, h1, h2, h3, h4⟩ := h
 exact ⟨by rw [cell_of_row _ _ _ _ _ _ h1]; exact h2, frozen_of_row _ _ _ _ _ h1⟩
theorem FlK.cellA (h : FlK lo hi W c code k v) {x : In} (hx : code[k]? = some x) : W.cell? ⟨c, k * 6 + 1, none⟩ = some (.int .i64 x.a) := by
 obtain ⟨cs, h1, h2, h3, h4⟩ := h
 obtain ⟨la, lc, va, vc, r0, r1, -⟩ := h3 k x hx
 rw [cell_of_row _ _ _ _ _ _ h1]
 simpa using r1
theorem FlK.put (h : FlK lo hi W c code k v) (u : Value) : FlK lo hi (W.setCell ⟨c, k * 6 + 5, none⟩ u) c code k u := by
 obtain ⟨cs, h1, h2, h3, h4⟩ := h
 have hs : k * 6 + 5 < cs.size := (Array.getElem?_eq_some_iff.1 h2).1
 have hk : Kp (KR lo hi) W (W.setCell ⟨c, k * 6 + 5, none⟩ u) := Kp.set _ _ (fun cs' T e q => by
  rw [h1] at e
  simp only [Option.some.injEq, Obj.cells.injEq] at e
  have := q.2.2
  rw [← e.2.1] at this
  exact absurd this (by decide))
 refine ⟨cs.setIfInBounds (k * 6 + 5) u, heap_setCell_same _ _ _ _ _ u h1, by rw [Array.getElem?_setIfInBounds]; simp [hs], fun i x e => ((h3 i x e).kp hk).same (fun j hj => ?_), fun i q r => ?_⟩
 ·split
  ·rfl
  ·rename_i q
   rw [Array.getElem?_setIfInBounds, if_neg (by intro r; apply q; omega)]
 ·rw [Array.getElem?_setIfInBounds, if_neg (by omega)]; exact h4 i q r
theorem FlK.done (h : FlK lo hi W c code k v) {x : In} {L : List Int} {a : Option Addr} {cap : Nat} (hx : code[k]? = some x) (hh : hi ≤ hi') (hv : v = .slice a L.length cap) (hL : NumsK (KR lo hi') 3 .i64 W a L) :
  CbK lo hi' W c (code.set k { x with lv := L }) (k + 1) := by
 obtain ⟨cs, h1, h2, h3, h4⟩ := h
 have hkl : k < code.length := (List.getElem?_eq_some_iff.1 hx).1
 refine ⟨cs, h1, fun i y e => ?_, fun i q r => h4 i (by omega) (by simpa using r)⟩
 rw [List.getElem?_set] at e
 by_cases q : k = i
 ·subst q
  rw [if_pos rfl, if_pos hkl] at e
  cases e
  obtain ⟨la, lc, va, vc, r0, r1, r2, r3, r4, r5, n1, n2⟩ := (h3 k x hx).wk (K' := KR lo hi') (fun b _ z => ⟨z.1, by have := z.2.1; omega, rfl⟩)
  refine ⟨la, lc, a, cap, by simpa using r0, by simpa using r1, by simpa using r2, by simpa using r3, by simpa using r4, ?_, n1, hL⟩
  dsimp only
  rw [h2, hv]
 ·rw [if_neg q] at e
  exact ((h3 i y e).wk (fun b _ z => ⟨z.1, by have := z.2.1; omega, rfl⟩)).same (fun j hj => by rw [if_neg (by omega)])
theorem set_at {α : Type} {l : List α} {k : Nat} {x : α} (h : l[k]? = some x) : l.set k x = l := by
 apply List.ext_getElem?
 intro i
 rw [List.getElem?_set]
 by_cases e : k = i
 ·subst e; rw [if_pos rfl, if_pos (List.getElem?_eq_some_iff.1 h).1, h]
 ·rw [if_neg e]
/-- part of one list, then the rest of another -/
def mixC (X Y : List In) (k : Nat) : List In := X.take k ++ Y.drop k
theorem mixC_zero (X Y : List In) : mixC X Y 0 = Y := by simp [mixC]
theorem mixC_end {X Y : List In} (h : X.length = Y.length) : mixC X Y Y.length = X := by simp [mixC, ← h]
theorem mixC_len {X Y : List In} {k : Nat} (h : X.length = Y.length) (hk : k ≤ Y.length) : (mixC X Y k).length = Y.length := by simp [mixC]; omega
theorem mixC_get {X Y : List In} {k : Nat} (h : X.length = Y.length) (hk : k < Y.length) : (mixC X Y k)[k]? = Y[k]? := by
 unfold mixC
 rw [List.getElem?_append_right (by simp; omega), List.length_take, List.getElem?_drop]
 congr 1; omega
theorem mixC_next {X Y : List In} {k : Nat} {x : In} (h : X.length = Y.length) (hk : k < Y.length) (hx : X[k]? = some x) : (mixC X Y k).set k x = mixC X Y (k + 1) := by
 have hkX : k < X.length := by omega
 have e : x = X[k] := by rw [List.getElem?_eq_getElem hkX] at hx; cases hx; rfl
 apply List.ext_getElem?
 intro i
 unfold mixC
 rw [List.getElem?_set]
 by_cases q : k = i
 ·subst q
  rw [if_pos rfl, if_pos (by simp; omega), List.getElem?_append_left (by simp; omega), List.getElem?_take_of_lt (by omega), List.getElem?_eq_getElem hkX, e]
 ·rw [if_neg q]
  rcases Nat.lt_or_ge i k with r | r
  ·rw [List.getElem?_append_left (by simp; omega), List.getElem?_append_left (by simp; omega), List.getElem?_take_of_lt r, List.getElem?_take_of_lt (by omega)]
  ·rw [List.getElem?_append_right (by simp; omega), List.getElem?_append_right (by simp; omega), List.length_take, List.length_take, List.getElem?_drop, List.getElem?_drop]
   congr 1; omega
/-- the registers of a set, below one -/
def regsT (y S : Nat) : List Int := ((List.range y).filter fun r => S.testBit r).map Int.ofNat
theorem regsT_yes {y S : Nat} (h : S.testBit y = true) : regsT (y + 1) S = regsT y S ++ [(y : Int)] := by simp [regsT, List.range_succ, h]
theorem regsT_no {y S : Nat} (h : S.testBit y = false) : regsT (y + 1) S = regsT y S := by simp [regsT, List.range_succ, h]
theorem regsT_len (y S : Nat) : (regsT y S).length ≤ y := by
 unfold regsT
 rw [List.length_map]
 exact Nat.le_trans (List.length_filter_le _ _) (by simp)
end
end Go.Proofs.YtokjkligechcoaaGreatDoor
