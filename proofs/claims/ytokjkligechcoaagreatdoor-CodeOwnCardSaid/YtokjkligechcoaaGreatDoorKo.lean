/- Walks of layer 16: a number as it is written; lists of numbers; the words of the instructions. -/
import Derived.Test.YtokjkligechcoaaGreatDoorIw
import Derived.Lib.Replace
import Derived.Lib.ItoaNum
import Derived.Lib.IndexBytes
import Derived.Lib.AppendIntMem
import Derived.Maps.Own
import Derived.Maps.StringElems
set_option linter.unusedVariables false
namespace Go.Proofs.YtokjkligechcoaaGreatDoor
open _root_.Go.Lib (hid)
open Go.RowKit
attribute [local go_sem] ext_mk size_mk toList_mk get_mk take_drop_len take_tail_len ByteArray.mk_append_mk List.append_toArray
/-- what writing reads of the library's variables -/
def PrVars (w : World) : Prop := (∃ m, w.cell? ⟨0, 0, none⟩ = some (.int .i64 m)) ∧ Lib.TabIs Tryz.prog w "internal/strconv.uint64pow10" .u64 Lib.pow10Tab ∧ 0 < w.heap.size
theorem PrVars.below {w w' : World} (h : PrVars w) (hb : Below w.heap.size w w') : PrVars w' := by
 obtain ⟨⟨m, hm⟩, ht, hz⟩ := h
 exact ⟨⟨m, by rw [hb.cell (p := ⟨0, 0, none⟩) hz]; exact hm⟩, (Lib.tabBelow_of_tabIs ht) w' hb, Nat.lt_of_lt_of_le hz hb.size⟩
/-- a number as it is written -/
def numS (n : Int) : List UInt8 := if n < 0 then 126 :: Lib.decDigits n.natAbs else Lib.decDigits n.toNat
theorem dec_digits2 (u : Nat) : ∀ b ∈ Lib.decDigits u, 48 ≤ b.toNat ∧ b.toNat ≤ 57 := by
 rw [Lib.decDigits_eq]
 intro b hb
 rw [List.mem_map] at hb
 obtain ⟨t, _, rfl⟩ := hb
 unfold Lib.dg
 have h : u / 10 ^ (Lib.nDigits u - 1 - t) % 10 < 10 := Nat.mod_lt _ (by omega)
 have : (UInt8.ofNat (48 + u / 10 ^ (Lib.nDigits u - 1 - t) % 10)).toNat = 48 + u / 10 ^ (Lib.nDigits u - 1 - t) % 10 := by simp; omega
 omega
theorem dec_neg2 (d : List UInt8) : Lib.replace (45 :: d) [45] [126] 1 = 126 :: d := by
 unfold Lib.replace
 rw [if_neg (by decide)]
 have hi : Lib.index (45 :: d) [45] = 0 := by
  show (if _ then (0 : Int) else _) = 0
  rw [if_pos (by simp [List.isPrefixOf])]
 have hn : Lib.replaceNum (45 :: d) [45] 1 = 1 := by
  unfold Lib.replaceNum
  rw [Lib.count_one, List.count_cons_self]
  rw [if_neg (by omega)]; rfl
 rw [hn, Lib.replaceK_hit _ _ 0 _ 0 hi]
 rfl
theorem dec_pos2 (u : Nat) : Lib.replace (Lib.decDigits u) [45] [126] 1 = Lib.decDigits u := by
 unfold Lib.replace
 rw [if_neg (by decide)]
 have hc : Lib.count (Lib.decDigits u) [45] = 0 := by
  rw [Lib.count_one, List.count_eq_zero]
  intro h
  have := dec_digits2 u 45 h
  simp at this
 have hn : Lib.replaceNum (Lib.decDigits u) [45] 1 = 0 := by
  unfold Lib.replaceNum
  rw [hc]; simp
 rw [hn]; rfl
theorem numS_eq (a : Int) : Lib.replace (Lib.itoa a) [45] [126] 1 = numS a := by
 unfold Lib.itoa numS
 split
 ·exact dec_neg2 _
 ·exact dec_pos2 _
theorem dec_len2 (u : Nat) (h : u < 10000000000000000000) : (Lib.decDigits u).length ≤ 19 := by
 rw [Lib.decDigits_length]
 by_cases h1 : Lib.nDigits u ≤ 19
 ·exact h1
 ·exfalso
  by_cases h0 : u = 0
  ·subst h0; exact h1 (by rw [Lib.nDigits_small (by omega)]; omega)
  ·have h2 := Lib.numDigits_eq u (by omega) (by omega)
   rw [← h2.1] at h1
   have := h2.2
   split at h1
   ·next h3 =>
    have h4 : Lib.l10 (Lib.bitLen u) = 19 := by omega
    rw [h4] at h3
    omega
   ·omega
/-- a number that an int holds -/
def I8b (n : Int) : Prop := -9223372036854775808 ≤ n ∧ n ≤ 9223372036854775807
theorem numS_len {n : Int} (h : I8b n) : (numS n).length ≤ 20 := by
 obtain ⟨h1, h2⟩ := h
 unfold numS
 split
 ·have := dec_len2 n.natAbs (by omega); simp; omega
 ·have := dec_len2 n.toNat (by omega); omega
theorem itoa_len2 {n : Int} (h : I8b n) : (Lib.itoa n).length ≤ 20 := by
 obtain ⟨h1, h2⟩ := h
 unfold Lib.itoa
 split
 ·have := dec_len2 n.natAbs (by omega); simp; omega
 ·have := dec_len2 n.toNat (by omega); omega
theorem replace_n (l : List UInt8) (w : World) (hl : l.length ≤ 100) (hm : ∃ m, w.cell? ⟨0, 0, none⟩ = some (.int .i64 m)) :
  Calls Tryz.prog 104 #[.string ⟨l.toArray⟩, .string ⟨#[45]⟩, .string ⟨#[126]⟩, .int .i64 1] w fun e w' => e = .returned (.string ⟨(Lib.replace l [45] [126] 1).toArray⟩) ∧ Below w.heap.size w w' := by
 obtain ⟨m, hm⟩ := hm
 have hc : Lib.countB ⟨l.toArray⟩ ⟨#[45]⟩ ≤ 100 := by
  have := Lib.count_one 45 l
  have h2 := List.count_le_length (a := (45 : UInt8)) (l := l)
  unfold Lib.countB
  show Lib.count l [45] ≤ 100
  omega
 refine Tryz.strings_Replace ⟨l.toArray⟩ ⟨#[45]⟩ ⟨#[126]⟩ 1 m w (by rw [size_mk]; omega) hm (by decide) ?_
 rw [size_mk]
 have : (⟨#[126]⟩ : ByteArray).size = 1 := rfl
 rw [this]; omega
set_option maxHeartbeats 400000 in
theorem number_any (n : Int) (w : World) (hn : I8b n) (h : PrVars w) :
  Calls Tryz.prog 49 #[.int .i64 n] w fun e w' => e = .returned (.string ⟨(numS n).toArray⟩) ∧ Below w.heap.size w w' := by
 have H := hid h
 have hl := itoa_len2 hn
 have CI := hid (Tryz.strconv_Itoa n hn.1 hn.2 w h.2.1)
 have HE := hid (numS_eq n)
 clear h hn
 go_enter Tryz.func49, Tryz.ntmps49
 go_wp2_with (first
  | (go_at_call 105; refine CI.out.mono ?_; rintro e w1 ⟨rfl, k, os, hw⟩; have hb1 := Lib.below_grow w.heap.size w (Nat.le_refl _) k os; rw [← hw] at hb1; have B1 := hid hb1; have V1 := hid (H.out.below hb1); clear hw hb1)
  | (go_at_call 104; refine (replace_n _ _ (by omega) V1.out.1).mono ?_; rintro e w2 ⟨rfl, hb2⟩; have B2 := hid (B1.out.trans (hb2.mono B1.out.size)); clear hb2))
 go_ret
 exact ⟨by rw [HE.out]; rfl, B2.out⟩
/-! ### The words -/
/-- how an instruction begins -/
def wordS (op : Int) : List UInt8 := match op.toNat with
 | 1 => [102, 105, 120] | 2 => [115, 116, 114] | 3 => [114, 101, 97, 108] | 4 => [109, 111, 118, 101] | 5 => [110, 101, 119] | 6 => [102, 105, 101, 108, 100] | 7 => [115, 101, 116] | 8 => [112, 114, 105, 109]
 | 9 => [106, 117, 109, 112] | 10 => [115, 119, 105, 116, 99, 104] | 11 => [99, 97, 108, 108] | 12 => [103, 111] | 13 => [104, 97, 108, 116] | _ => []
theorem wpList_insert_own {H : Type} {P : Program} (w : World) {ops : Array Oper} {rest : List Oper} {o : Oper} {a : Act} {Q : Exit → Act → World → Prop}
  (hg : o.guard = none) (m x v : Operand) (t : TypeId) (hop : o.op = Op.insert t m x v)
  (k e : TypeId) (K : Maps.Keyed P k) (ht : P.underlying t = some (.map k e)) (R : Value → Option (DataW H × List MemPlace)) (b n : Nat) (D : DataW H)
  (hm : a.eval m = .map (some b)) (hown : w.ownsMap P k R b n D) (hn : n < maxLen) (key val : Value) (kl : Lit) (hx : a.eval x = key) (hv : a.eval v = val) (hkey : keyOf P k key = some kl)
  (d : DataW H) (ps : List MemPlace) (hval : R val = some (d, ps))
  (hK : ∀ w', w'.ownsMap P k R b (n + 1) (D.put kl d) → w.grownBy w' (some b) → wpList P ops Q rest (a.put o.dst undef) w') :
  wpList P ops Q (o :: rest) a w := by
 refine wpList_plain hg fun K' hK' => ?_
 obtain ⟨w', hrun, r1, r2⟩ := hown.update K ht hn hkey hval
 unfold Oper.wp
 simp [execOp, hop, hm, hx, hv, hrun, Result.andThen]
 exact hK' _ _ (hK w' r1 r2)
theorem lookup_str {H : Type} {P : Program} {w : World} {t k e : TypeId} {b n : Nat} {D : DataW H} (h : w.ownsMap P k (plainElem P e) b n D) (K : Maps.Keyed P k) (ht : P.underlying t = some (.map k e)) (he : P.underlying e = some .string) (hz : (zeroValue e).run P w = .ok (.string ⟨#[]⟩) w)
  {key : Value} {kl : Lit} (hkey : keyOf P k key = some kl) {l : List UInt8} (hD : D.atKey kl (.lit (.string [])) = .lit (.string l)) : (Instr.lookup t (.map (some b)) key false).run P w = .ok (.string ⟨l.toArray⟩) w := by
 obtain ⟨v, ps, hrun, hv⟩ := h.lookup K ht hz (plainElem_string (s := ⟨#[]⟩) he (by decide)) hkey
 obtain ⟨s, rfl, hc, -⟩ := plainElem_string_inv he hv
 simp only [Prod.mk.injEq] at hc
 have h2 : DataW.lit (.string l) = DataW.lit (.string s.data.toList) := hD.symm.trans hc.1
 have h3 : l = s.data.toList := by simpa using h2
 rw [hrun, h3]
theorem opKeyed : Maps.Keyed Tryz.prog 55 := Maps.int_keyed Tryz.underlying55
theorem opKey (op : Int) (h : I8b op) : keyOf Tryz.prog 55 (.int .i64 op) = some (.int .i64 op) := Maps.keyOf_int_mk Tryz.underlying55 (by
 obtain ⟨h1, h2⟩ := h
 have e1 : IntKind.i64.min = -9223372036854775808 := by decide
 have e2 : IntKind.i64.max = 9223372036854775807 := by decide
 show (decide (IntKind.i64.min ≤ op) && decide (op ≤ IntKind.i64.max)) = true
 rw [e1, e2, decide_eq_true h1, decide_eq_true h2]; rfl)
def strD (l : List UInt8) : DataW Unit := .lit (.string l)
def wordsD : DataW Unit := ((((((((((((((DataW.map []).put (.int .i64 1) (strD (wordS 1))).put (.int .i64 2) (strD (wordS 2))).put (.int .i64 3) (strD (wordS 3))).put (.int .i64 4) (strD (wordS 4))).put (.int .i64 5) (strD (wordS 5))).put (.int .i64 6) (strD (wordS 6))).put (.int .i64 7) (strD (wordS 7))).put (.int .i64 8) (strD (wordS 8))).put (.int .i64 9) (strD (wordS 9))).put (.int .i64 10) (strD (wordS 10))).put (.int .i64 11) (strD (wordS 11))).put (.int .i64 12) (strD (wordS 12))).put (.int .i64 13) (strD (wordS 13)))
theorem wordsD_0 : wordsD.atKey (.int .i64 (((0 : Nat) : Int))) (.lit (.string [])) = .lit (.string (wordS ((0 : Nat) : Int))) := by kernel_rfl
theorem wordsD_1 : wordsD.atKey (.int .i64 (((1 : Nat) : Int))) (.lit (.string [])) = .lit (.string (wordS ((1 : Nat) : Int))) := by kernel_rfl
theorem wordsD_2 : wordsD.atKey (.int .i64 (((2 : Nat) : Int))) (.lit (.string [])) = .lit (.string (wordS ((2 : Nat) : Int))) := by kernel_rfl
theorem wordsD_3 : wordsD.atKey (.int .i64 (((3 : Nat) : Int))) (.lit (.string [])) = .lit (.string (wordS ((3 : Nat) : Int))) := by kernel_rfl
theorem wordsD_4 : wordsD.atKey (.int .i64 (((4 : Nat) : Int))) (.lit (.string [])) = .lit (.string (wordS ((4 : Nat) : Int))) := by kernel_rfl
theorem wordsD_5 : wordsD.atKey (.int .i64 (((5 : Nat) : Int))) (.lit (.string [])) = .lit (.string (wordS ((5 : Nat) : Int))) := by kernel_rfl
theorem wordsD_6 : wordsD.atKey (.int .i64 (((6 : Nat) : Int))) (.lit (.string [])) = .lit (.string (wordS ((6 : Nat) : Int))) := by kernel_rfl
theorem wordsD_7 : wordsD.atKey (.int .i64 (((7 : Nat) : Int))) (.lit (.string [])) = .lit (.string (wordS ((7 : Nat) : Int))) := by kernel_rfl
theorem wordsD_8 : wordsD.atKey (.int .i64 (((8 : Nat) : Int))) (.lit (.string [])) = .lit (.string (wordS ((8 : Nat) : Int))) := by kernel_rfl
theorem wordsD_9 : wordsD.atKey (.int .i64 (((9 : Nat) : Int))) (.lit (.string [])) = .lit (.string (wordS ((9 : Nat) : Int))) := by kernel_rfl
theorem wordsD_10 : wordsD.atKey (.int .i64 (((10 : Nat) : Int))) (.lit (.string [])) = .lit (.string (wordS ((10 : Nat) : Int))) := by kernel_rfl
theorem wordsD_11 : wordsD.atKey (.int .i64 (((11 : Nat) : Int))) (.lit (.string [])) = .lit (.string (wordS ((11 : Nat) : Int))) := by kernel_rfl
theorem wordsD_12 : wordsD.atKey (.int .i64 (((12 : Nat) : Int))) (.lit (.string [])) = .lit (.string (wordS ((12 : Nat) : Int))) := by kernel_rfl
theorem wordsD_13 : wordsD.atKey (.int .i64 (((13 : Nat) : Int))) (.lit (.string [])) = .lit (.string (wordS ((13 : Nat) : Int))) := by kernel_rfl
theorem wordsD_at (op : Nat) (h : op < 14) : wordsD.atKey (.int .i64 (op : Int)) (.lit (.string [])) = .lit (.string (wordS (op : Int))) :=
 match op, h with
 | 0, _ => wordsD_0
 | 1, _ => wordsD_1
 | 2, _ => wordsD_2
 | 3, _ => wordsD_3
 | 4, _ => wordsD_4
 | 5, _ => wordsD_5
 | 6, _ => wordsD_6
 | 7, _ => wordsD_7
 | 8, _ => wordsD_8
 | 9, _ => wordsD_9
 | 10, _ => wordsD_10
 | 11, _ => wordsD_11
 | 12, _ => wordsD_12
 | 13, _ => wordsD_13
/-- the words, looked up in any later world -/
def WoM (w w' : World) : Prop := ∀ op, 0 ≤ op ∧ op ≤ 13 → ∀ W, Below w'.heap.size w' W → (Instr.lookup 120 (.map (some w.heap.size)) (.int .i64 op) false).run Tryz.prog W = .ok (.string ⟨(wordS op).toArray⟩) W
theorem zero_string (W : World) : (zeroValue 9).run Tryz.prog W = .ok (.string ⟨#[]⟩) W := by kernel_rfl
set_option maxHeartbeats 2000000 in
set_option maxRecDepth 4000 in
theorem words_any (w : World) : Calls Tryz.prog 63 #[] w fun e w' => e = .returned (.map (some w.heap.size)) ∧ Below w.heap.size w w' ∧ WoM w w' := by
 have hmm := @run_makeMap Tryz.prog
 have hown := World.ownsMap_made w Tryz.prog 55 (plainElem (H := Unit) Tryz.prog 9)
 have hb : Below w.heap.size w (w.alloc (.map #[] 0)) := (Below.refl _ _).alloc (Nat.le_refl _) _
 go_enter Tryz.func63, Tryz.ntmps63
 go_wp2_with (first
  | (refine wpList_insert_own _ rfl _ _ _ 120 rfl 55 9 opKeyed Tryz.underlying120 (plainElem Tryz.prog 9) w.heap.size 0 _ rfl hown (by decide) (.int .i64 1) (.string ⟨(wordS 1).toArray⟩) _ rfl rfl (opKey 1 ⟨by decide, by decide⟩) _ [] (plainElem_string Tryz.underlying9 (by decide)) ?_; clear hown; intro w1 hown hgrow1; have hb1 := hb.grown hgrow1 hb.size (fun k hk => by injection hk with hk; omega); clear hb hgrow1; have hb := hb1; clear hb1)
  | (refine wpList_insert_own _ rfl _ _ _ 120 rfl 55 9 opKeyed Tryz.underlying120 (plainElem Tryz.prog 9) w.heap.size 1 _ rfl hown (by decide) (.int .i64 2) (.string ⟨(wordS 2).toArray⟩) _ rfl rfl (opKey 2 ⟨by decide, by decide⟩) _ [] (plainElem_string Tryz.underlying9 (by decide)) ?_; clear hown; intro w1 hown hgrow1; have hb1 := hb.grown hgrow1 hb.size (fun k hk => by injection hk with hk; omega); clear hb hgrow1; have hb := hb1; clear hb1)
  | (refine wpList_insert_own _ rfl _ _ _ 120 rfl 55 9 opKeyed Tryz.underlying120 (plainElem Tryz.prog 9) w.heap.size 2 _ rfl hown (by decide) (.int .i64 3) (.string ⟨(wordS 3).toArray⟩) _ rfl rfl (opKey 3 ⟨by decide, by decide⟩) _ [] (plainElem_string Tryz.underlying9 (by decide)) ?_; clear hown; intro w1 hown hgrow1; have hb1 := hb.grown hgrow1 hb.size (fun k hk => by injection hk with hk; omega); clear hb hgrow1; have hb := hb1; clear hb1)
  | (refine wpList_insert_own _ rfl _ _ _ 120 rfl 55 9 opKeyed Tryz.underlying120 (plainElem Tryz.prog 9) w.heap.size 3 _ rfl hown (by decide) (.int .i64 4) (.string ⟨(wordS 4).toArray⟩) _ rfl rfl (opKey 4 ⟨by decide, by decide⟩) _ [] (plainElem_string Tryz.underlying9 (by decide)) ?_; clear hown; intro w1 hown hgrow1; have hb1 := hb.grown hgrow1 hb.size (fun k hk => by injection hk with hk; omega); clear hb hgrow1; have hb := hb1; clear hb1)
  | (refine wpList_insert_own _ rfl _ _ _ 120 rfl 55 9 opKeyed Tryz.underlying120 (plainElem Tryz.prog 9) w.heap.size 4 _ rfl hown (by decide) (.int .i64 5) (.string ⟨(wordS 5).toArray⟩) _ rfl rfl (opKey 5 ⟨by decide, by decide⟩) _ [] (plainElem_string Tryz.underlying9 (by decide)) ?_; clear hown; intro w1 hown hgrow1; have hb1 := hb.grown hgrow1 hb.size (fun k hk => by injection hk with hk; omega); clear hb hgrow1; have hb := hb1; clear hb1)
  | (refine wpList_insert_own _ rfl _ _ _ 120 rfl 55 9 opKeyed Tryz.underlying120 (plainElem Tryz.prog 9) w.heap.size 5 _ rfl hown (by decide) (.int .i64 6) (.string ⟨(wordS 6).toArray⟩) _ rfl rfl (opKey 6 ⟨by decide, by decide⟩) _ [] (plainElem_string Tryz.underlying9 (by decide)) ?_; clear hown; intro w1 hown hgrow1; have hb1 := hb.grown hgrow1 hb.size (fun k hk => by injection hk with hk; omega); clear hb hgrow1; have hb := hb1; clear hb1)
  | (refine wpList_insert_own _ rfl _ _ _ 120 rfl 55 9 opKeyed Tryz.underlying120 (plainElem Tryz.prog 9) w.heap.size 6 _ rfl hown (by decide) (.int .i64 7) (.string ⟨(wordS 7).toArray⟩) _ rfl rfl (opKey 7 ⟨by decide, by decide⟩) _ [] (plainElem_string Tryz.underlying9 (by decide)) ?_; clear hown; intro w1 hown hgrow1; have hb1 := hb.grown hgrow1 hb.size (fun k hk => by injection hk with hk; omega); clear hb hgrow1; have hb := hb1; clear hb1)
  | (refine wpList_insert_own _ rfl _ _ _ 120 rfl 55 9 opKeyed Tryz.underlying120 (plainElem Tryz.prog 9) w.heap.size 7 _ rfl hown (by decide) (.int .i64 8) (.string ⟨(wordS 8).toArray⟩) _ rfl rfl (opKey 8 ⟨by decide, by decide⟩) _ [] (plainElem_string Tryz.underlying9 (by decide)) ?_; clear hown; intro w1 hown hgrow1; have hb1 := hb.grown hgrow1 hb.size (fun k hk => by injection hk with hk; omega); clear hb hgrow1; have hb := hb1; clear hb1)
  | (refine wpList_insert_own _ rfl _ _ _ 120 rfl 55 9 opKeyed Tryz.underlying120 (plainElem Tryz.prog 9) w.heap.size 8 _ rfl hown (by decide) (.int .i64 9) (.string ⟨(wordS 9).toArray⟩) _ rfl rfl (opKey 9 ⟨by decide, by decide⟩) _ [] (plainElem_string Tryz.underlying9 (by decide)) ?_; clear hown; intro w1 hown hgrow1; have hb1 := hb.grown hgrow1 hb.size (fun k hk => by injection hk with hk; omega); clear hb hgrow1; have hb := hb1; clear hb1)
  | (refine wpList_insert_own _ rfl _ _ _ 120 rfl 55 9 opKeyed Tryz.underlying120 (plainElem Tryz.prog 9) w.heap.size 9 _ rfl hown (by decide) (.int .i64 10) (.string ⟨(wordS 10).toArray⟩) _ rfl rfl (opKey 10 ⟨by decide, by decide⟩) _ [] (plainElem_string Tryz.underlying9 (by decide)) ?_; clear hown; intro w1 hown hgrow1; have hb1 := hb.grown hgrow1 hb.size (fun k hk => by injection hk with hk; omega); clear hb hgrow1; have hb := hb1; clear hb1)
  | (refine wpList_insert_own _ rfl _ _ _ 120 rfl 55 9 opKeyed Tryz.underlying120 (plainElem Tryz.prog 9) w.heap.size 10 _ rfl hown (by decide) (.int .i64 11) (.string ⟨(wordS 11).toArray⟩) _ rfl rfl (opKey 11 ⟨by decide, by decide⟩) _ [] (plainElem_string Tryz.underlying9 (by decide)) ?_; clear hown; intro w1 hown hgrow1; have hb1 := hb.grown hgrow1 hb.size (fun k hk => by injection hk with hk; omega); clear hb hgrow1; have hb := hb1; clear hb1)
  | (refine wpList_insert_own _ rfl _ _ _ 120 rfl 55 9 opKeyed Tryz.underlying120 (plainElem Tryz.prog 9) w.heap.size 11 _ rfl hown (by decide) (.int .i64 12) (.string ⟨(wordS 12).toArray⟩) _ rfl rfl (opKey 12 ⟨by decide, by decide⟩) _ [] (plainElem_string Tryz.underlying9 (by decide)) ?_; clear hown; intro w1 hown hgrow1; have hb1 := hb.grown hgrow1 hb.size (fun k hk => by injection hk with hk; omega); clear hb hgrow1; have hb := hb1; clear hb1)
  | (refine wpList_insert_own _ rfl _ _ _ 120 rfl 55 9 opKeyed Tryz.underlying120 (plainElem Tryz.prog 9) w.heap.size 12 _ rfl hown (by decide) (.int .i64 13) (.string ⟨(wordS 13).toArray⟩) _ rfl rfl (opKey 13 ⟨by decide, by decide⟩) _ [] (plainElem_string Tryz.underlying9 (by decide)) ?_; clear hown; intro w1 hown hgrow1; have hb1 := hb.grown hgrow1 hb.size (fun k hk => by injection hk with hk; omega); clear hb hgrow1; have hb := hb1; clear hb1))
 go_ret
 refine ⟨rfl, hb, fun op ho W hW => ?_⟩
 obtain ⟨n, rfl⟩ := Int.eq_ofNat_of_zero_le ho.1
 have h2 : W.ownsMap Tryz.prog 55 (plainElem (H := Unit) Tryz.prog 9) w.heap.size 13 wordsD := hown.kept (row := none) ⟨hW.os, hW.tape, hW.output, hW.size, fun b hb' _ => hW.block b hb'⟩ (by simp)
 exact lookup_str h2 opKeyed Tryz.underlying120 Tryz.underlying9 (zero_string W) (opKey _ ⟨by omega, by omega⟩) (wordsD_at n (by omega))
end Go.Proofs.YtokjkligechcoaaGreatDoor
