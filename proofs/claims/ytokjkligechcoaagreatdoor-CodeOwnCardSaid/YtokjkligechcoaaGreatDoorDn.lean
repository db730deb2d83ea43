/- The program's work list in memory: what lies where, and how it goes on. -/
import Derived.Test.YtokjkligechcoaaGreatDoorDl
import Derived.Deep.Cut
set_option linter.unusedVariables false
namespace Go.Proofs.YtokjkligechcoaaGreatDoor
open _root_.Go.Lib (hid)
open Go.RowKit
section
/-- an instruction's set: not reached, or a row of words of its own -/
def RowC (V : World) (A t m : Nat) (v : Value) (s : Option Nat) : Prop := match s with
 | none => v = .slice none 0 0
 | some S => ∃ g c, v = .slice (some ⟨g, 0, none⟩) m c ∧ A < g ∧ g ≠ t ∧ OwnAt V g c 45 (u64s (wordsOf m S))
/-- this box is no instruction's row -/
def Off (slots : List Value) (m b : Nat) : Prop := ∀ (k g c : Nat), slots[k]? = some (Value.slice (some ⟨g, 0, none⟩) m c) → g ≠ b
structure CUn (w V : World) (A t tc m : Nat) (fo : Obj) (slots : List Value) (st : StS) : Prop where
 f : KAt V w.heap.size fo
 b : Below w.heap.size w V
 a : OwnAt V A slots.length 140 slots
 fa : w.heap.size < A
 len : slots.length = st.1.length
 rows : ∀ k, k < st.1.length → RowC V A t m (slots.getD k undef) (setOf st.1 k)
 inj : ∀ (k k' g c c' : Nat), k ≠ k' → slots[k]? = some (Value.slice (some ⟨g, 0, none⟩) m c) → slots[k']? ≠ some (Value.slice (some ⟨g, 0, none⟩) m c')
 td : OwnAt V t tc 3 (nats st.2)
 ta : A < t
section
variable {w V V' : World} {A t tc m : Nat} {fo : Obj} {slots : List Value} {st : StS}
theorem RowC.same {v : Value} {s : Option Nat} (h : RowC V A t m v s) (hb : Below V.heap.size V V') : RowC V' A t m v s := by
 cases s with
 | none => exact h
 | some S => obtain ⟨g, c, h1, h2, h3, h4⟩ := h; exact ⟨g, c, h1, h2, h3, h4.below hb h4.lt⟩
theorem CUn.same (h : CUn w V A t tc m fo slots st) (hb : Below V.heap.size V V') : CUn w V' A t tc m fo slots st :=
 ⟨h.f.below hb, h.b.trans (hb.mono h.b.size), h.a.below hb h.a.lt, h.fa, h.len, fun k hk => (h.rows k hk).same hb, h.inj, h.td.below hb h.td.lt, h.ta⟩
theorem CUn.slot (h : CUn w V A t tc m fo slots st) {k : Nat} (hk : k < st.1.length) : V.cell? ⟨A, k, none⟩ = some (slots.getD k undef) ∧ V.frozen? ⟨A, k, none⟩ = false := by
 have hl := h.len
 exact ⟨h.a.cell (by simp [List.getD, hl, hk]), h.a.frozen k⟩
theorem CUn.row_of (h : CUn w V A t tc m fo slots st) {k g c : Nat} (hk : slots[k]? = some (.slice (some ⟨g, 0, none⟩) m c)) : A < g ∧ g ≠ t ∧ g < V.heap.size := by
 have hl := h.len
 have hk2 : k < slots.length := (List.getElem?_eq_some_iff.1 hk).1
 have hr := h.rows k (by omega)
 have e : slots.getD k undef = .slice (some ⟨g, 0, none⟩) m c := by simp [List.getD, hk]
 rw [e] at hr
 cases es : setOf st.1 k with
 | none => rw [es] at hr; cases hr
 | some S =>
  rw [es] at hr
  obtain ⟨g', c', q1, q2, q3, q4⟩ := hr
  cases q1
  exact ⟨q2, q3, q4.lt⟩
theorem CUn.off (h : CUn w V A t tc m fo slots st) {b : Nat} (hb : V.heap.size ≤ b) : Off slots m b := fun k g c hk => by have := (h.row_of hk).2.2; omega
theorem CUn.row_at (h : CUn w V A t tc m fo slots st) {k g c S : Nat} (hk : k < st.1.length) (hS : setOf st.1 k = some S) (hsl : slots.getD k undef = .slice (some ⟨g, 0, none⟩) m c) : OwnAt V g c 45 (u64s (wordsOf m S)) ∧ slots[k]? = some (.slice (some ⟨g, 0, none⟩) m c) := by
 have hr := h.rows k hk
 rw [hS, hsl] at hr
 obtain ⟨g', c', q1, q2, q3, q4⟩ := hr
 cases q1
 have hl := h.len
 have hk2 : k < slots.length := by omega
 refine ⟨q4, ?_⟩
 simp [List.getD, hk2] at hsl
 rw [List.getElem?_eq_getElem hk2, hsl]
/-- the work list is cut -/
theorem CUn.pop (h : CUn w V A t tc m fo slots st) {L : List Nat} {n : Nat} (hL : st.2.take n = L) : CUn w V A t tc m fo slots (st.1, L) := by
 refine ⟨h.f, h.b, h.a, h.fa, h.len, h.rows, h.inj, ?_, h.ta⟩
 have := h.td.take n
 rw [← hL]
 simpa [nats] using this
/-- the work list grows -/
theorem CUn.push (h : CUn w V A t tc m fo slots st) (hg : V.grownBy V' (some t)) {t' tc' : Nat} {L : List Nat} (ht : t' = t ∨ V.heap.size ≤ t') (hd : OwnAt V' t' tc' 3 (nats L)) : CUn w V' A t' tc' m fo slots (st.1, L) := by
 have hlt := heap_lt h.f.x
 have hta := h.ta
 have hfa := h.fa
 have hal := h.a.lt
 refine ⟨h.f.grown hg (by omega), below_grownAt h.b hg (Nat.le_of_lt hlt) (by omega), h.a.grown hg (by omega), h.fa, h.len, fun k hk => ?_, h.inj, hd, by rcases ht with rfl | ht <;> omega⟩
 have := h.rows k hk
 dsimp only
 cases e : setOf st.1 k with
 | none => rw [e] at this; exact this
 | some S => rw [e] at this; obtain ⟨g, c, q1, q2, q3, q4⟩ := this; exact ⟨g, c, q1, q2, by have := q4.lt; rcases ht with rfl | ht <;> omega, q4.grown hg q3⟩
/-- an instruction's set is another, in a row that was just made -/
theorem CUn.put (h : CUn w V A t tc m fo slots st) {k g c S : Nat} (hk : k < st.1.length) (hg : A < g) (ht : g ≠ t) (ho : Off slots m g) (hs : OwnAt V g c 45 (u64s (wordsOf m S))) : CUn w (V.setCell ⟨A, k, none⟩ (.slice (some ⟨g, 0, none⟩) m c)) A t tc m fo (slots.set k (.slice (some ⟨g, 0, none⟩) m c)) (st.1.set k (some S), st.2) := by
 have hlt := heap_lt h.f.x
 have hta := h.ta
 have hfa := h.fa
 have hsl := h.len
 refine ⟨h.f.put _ (Nat.ne_of_lt hfa) _, h.b.setCell (p := ⟨A, k, none⟩) (Nat.le_of_lt hfa) _, by rw [List.length_set]; exact h.a.set k _, h.fa, by simp [h.len], fun j hj => ?_, ?_, h.td.other _ (by show t ≠ A; omega) _, h.ta⟩
 ·dsimp only at hj ⊢
  rw [List.length_set] at hj
  rw [setOf_set hk]
  by_cases e : j = k
  ·subst e
   rw [if_pos rfl]
   exact ⟨g, c, by simp [List.getD, hsl, hj], hg, ht, hs.other _ (by show g ≠ A; omega) _⟩
  ·rw [if_neg e]
   have := h.rows j hj
   rw [show (slots.set k (.slice (some ⟨g, 0, none⟩) m c)).getD j undef = slots.getD j undef by simp only [List.getD_eq_getElem?_getD, List.getElem?_set]; rw [if_neg (by omega)]]
   cases e2 : setOf st.1 j with
   | none => rw [e2] at this; exact this
   | some R => rw [e2] at this; obtain ⟨g', c', q1, q2, q3, q4⟩ := this; exact ⟨g', c', q1, q2, q3, q4.other _ (by show g' ≠ A; omega) _⟩
 ·intro j j' g' c1 c2 hne h1 h2
  simp only [List.getElem?_set] at h1 h2
  split at h1
  ·rename_i e1
   split at h1
   ·cases h1
    rw [if_neg (by omega)] at h2
    exact ho j' g c2 h2 rfl
   ·cases h1
  ·split at h2
   ·split at h2
    ·cases h2
     exact ho j g c1 h1 rfl
    ·cases h2
   ·exact h.inj j j' g' c1 c2 hne h1 h2
/-- an instruction's row changes in its place -/
theorem CUn.mut (h : CUn w V A t tc m fo slots st) {k g c S S' j : Nat} {v : Value} (hk : k < st.1.length) (hsl : slots[k]? = some (.slice (some ⟨g, 0, none⟩) m c)) (hS : setOf st.1 k = some S) (hv : (u64s (wordsOf m S)).set j v = u64s (wordsOf m S')) : CUn w (V.setCell ⟨g, j, none⟩ v) A t tc m fo slots (st.1.set k (some S'), st.2) := by
 obtain ⟨hg1, hg2, hg3⟩ := h.row_of hsl
 have hlt := heap_lt h.f.x
 have hta := h.ta
 have hfa := h.fa
 have hl := h.len
 refine ⟨h.f.put _ (by show w.heap.size ≠ g; omega) _, h.b.setCell (p := ⟨g, j, none⟩) (by show w.heap.size ≤ g; omega) _, h.a.other _ (by show A ≠ g; omega) _, h.fa, by simp [h.len], fun i hi => ?_, h.inj, h.td.other _ (by show t ≠ g; omega) _, h.ta⟩
 dsimp only at hi ⊢
 rw [List.length_set] at hi
 rw [setOf_set hk]
 have hr := h.rows i hi
 by_cases e : i = k
 ·subst e
  rw [if_pos rfl]
  rw [hS] at hr
  obtain ⟨g', c', q1, q2, q3, q4⟩ := hr
  have e2 : slots.getD i undef = .slice (some ⟨g, 0, none⟩) m c := by simp [List.getD, hsl]
  rw [e2] at q1
  cases q1
  exact ⟨g, c, e2, q2, q3, by have := q4.set j v; rwa [hv] at this⟩
 ·rw [if_neg e]
  cases e2 : setOf st.1 i with
  | none => rw [e2] at hr; exact hr
  | some R =>
   rw [e2] at hr
   obtain ⟨g', c', q1, q2, q3, q4⟩ := hr
   refine ⟨g', c', q1, q2, q3, q4.other _ ?_ _⟩
   show g' ≠ g
   intro q
   subst q
   have hi2 : slots[i]? = some (.slice (some ⟨g', 0, none⟩) m c') := by
    have : i < slots.length := by omega
    simp [List.getD, this] at q1
    rw [List.getElem?_eq_getElem this, q1]
   exact h.inj i k g' c' c e hi2 hsl
end
/-- in the midst of an instruction's targets: the row 'out', the targets -/
structure CMid (w V : World) (A t tc m : Nat) (fo : Obj) (slots : List Value) (st : StS) (out go gc : Nat) (r : Option Addr) (L : List Int) : Prop where
 run : CUn w V A t tc m fo slots st
 out : OwnAt V go gc 45 (u64s (wordsOf m out))
 ga : A < go
 gt : go ≠ t
 gf : Off slots m go
 li : IntsAt .i64 V r L
 lo : ∀ b o, r = some ⟨b, o, none⟩ → A < b ∧ b ≠ t ∧ Off slots m b
section
variable {w V V' : World} {A t tc m : Nat} {fo : Obj} {slots : List Value} {st : StS} {out go gc : Nat} {r : Option Addr} {L : List Int}
theorem ints_other2 {W W' : World} {p : Nat} {a : Option Addr} {l : List Int} {k : IntKind} (h : IntsAt k W a l) (hg : W.grownBy W' (some p)) (ho : ∀ b o, a = some ⟨b, o, none⟩ → b ≠ p) : IntsAt k W' a l := by
 obtain ⟨hm, hI | ⟨b, o, ha, hc⟩⟩ := h
 ·exact ⟨hm, .inl hI⟩
 ·refine ⟨hm, .inr ⟨b, o, ha, fun i hi => ?_⟩⟩
  have h1 := hc i hi
  exact (World.cell?_of_block (a := ⟨b, o + i, none⟩) (hg.block b (World.block_lt_of_cell? _ _ h1) (by intro q; injection q with q; exact ho b o ha q))).trans h1
theorem CMid.same (h : CMid w V A t tc m fo slots st out go gc r L) (hb : Below V.heap.size V V') : CMid w V' A t tc m fo slots st out go gc r L :=
 ⟨h.run.same hb, h.out.below hb h.out.lt, h.ga, h.gt, h.gf, h.li.below hb, h.lo⟩
theorem CMid.put (h : CMid w V A t tc m fo slots st out go gc r L) {k g c S : Nat} (hk : k < st.1.length) (hg : A < g) (ht : g ≠ t) (ho : Off slots m g) (hgo : g ≠ go) (hgr : ∀ b o, r = some ⟨b, o, none⟩ → g ≠ b) (hs : OwnAt V g c 45 (u64s (wordsOf m S))) : CMid w (V.setCell ⟨A, k, none⟩ (.slice (some ⟨g, 0, none⟩) m c)) A t tc m fo (slots.set k (.slice (some ⟨g, 0, none⟩) m c)) (st.1.set k (some S), st.2) out go gc r L := by
 have hoff : ∀ b, Off slots m b → g ≠ b → Off (slots.set k (.slice (some ⟨g, 0, none⟩) m c)) m b := by
  intro b hb hne j g' c' hj
  simp only [List.getElem?_set] at hj
  split at hj
  ·split at hj
   ·cases hj; exact hne
   ·cases hj
  ·exact hb j g' c' hj
 exact ⟨h.run.put hk hg ht ho hs, h.out.other _ (by have := h.ga; show go ≠ A; omega) _, h.ga, h.gt, hoff _ h.gf hgo, ints_other2 h.li (grown_set _ _ _ _) (fun b o q => by have := (h.lo b o q).1; omega), fun b o q => ⟨(h.lo b o q).1, (h.lo b o q).2.1, hoff _ (h.lo b o q).2.2 (hgr b o q)⟩⟩
theorem CMid.push (h : CMid w V A t tc m fo slots st out go gc r L) (hg : V.grownBy V' (some t)) {t' tc' : Nat} {L' : List Nat} (ht : t' = t ∨ V.heap.size ≤ t') (hd : OwnAt V' t' tc' 3 (nats L')) (hr : ∀ b o, r = some ⟨b, o, none⟩ → b < V.heap.size) : CMid w V' A t' tc' m fo slots (st.1, L') out go gc r L :=
 ⟨h.run.push hg ht hd, h.out.grown hg h.gt, h.ga, by have := h.gt; have := h.out.lt; rcases ht with rfl | ht <;> omega, h.gf, ints_other2 h.li hg (fun b o q => (h.lo b o q).2.1), fun b o q => ⟨(h.lo b o q).1, by have := (h.lo b o q).2.1; have := hr b o q; rcases ht with rfl | ht <;> omega, (h.lo b o q).2.2⟩⟩
theorem CMid.mut (h : CMid w V A t tc m fo slots st out go gc r L) {k g c S S' j : Nat} {v : Value} (hk : k < st.1.length) (hsl : slots[k]? = some (.slice (some ⟨g, 0, none⟩) m c)) (hS : setOf st.1 k = some S) (hv : (u64s (wordsOf m S)).set j v = u64s (wordsOf m S')) : CMid w (V.setCell ⟨g, j, none⟩ v) A t tc m fo slots (st.1.set k (some S'), st.2) out go gc r L :=
 ⟨h.run.mut hk hsl hS hv, h.out.other _ (by show go ≠ g; exact fun q => h.gf k g c hsl q.symm) _, h.ga, h.gt, h.gf, ints_other2 h.li (grown_set _ _ _ _) (fun b o q => fun q2 => (h.lo b o q).2.2 k g c hsl q2.symm), h.lo⟩
end
/-! ### The row that is cut word by word -/
def mixN (i S T : Nat) : Nat := (S &&& T) ||| (S / 2 ^ (64 * i) * 2 ^ (64 * i))
theorem mixN_bit (i S T b : Nat) : (mixN i S T).testBit b = (S.testBit b && (T.testBit b || decide (64 * i ≤ b))) := by
 unfold mixN
 rw [Nat.testBit_or, Nat.testBit_and, Nat.mul_comm, Nat.testBit_two_pow_mul, Nat.testBit_div_two_pow]
 by_cases h : 64 * i ≤ b
 ·rw [show b - 64 * i + 64 * i = b by omega]
  simp [h]
  cases S.testBit b <;> cases T.testBit b <;> simp
 ·simp [h]
theorem mixN_zero (S T : Nat) : mixN 0 S T = S := by
 apply Nat.eq_of_testBit_eq
 intro b
 rw [mixN_bit]; simp
theorem mixN_end {m S T : Nat} (hS : S < 2 ^ (64 * m)) : mixN m S T = S &&& T := by
 apply Nat.eq_of_testBit_eq
 intro b
 rw [mixN_bit, Nat.testBit_and]
 by_cases h : 64 * m ≤ b
 ·rw [Nat.testBit_lt_two_pow (Nat.lt_of_lt_of_le hS (Nat.pow_le_pow_right (by decide) h))]; rfl
 ·rw [show decide (64 * m ≤ b) = false from decide_eq_false h, Bool.or_false]
theorem mixN_word (i S T j : Nat) : wordN (mixN i S T) j = if j < i then wordN S j &&& wordN T j else wordN S j := by
 symm
 refine wordN_ext (S := S) ?_ (fun b hb => ?_)
 ·split
  ·exact Nat.lt_of_le_of_lt Nat.and_le_left (wordN_lt S j)
  ·exact wordN_lt S j
 ·rw [mixN_bit]
  split
  ·rename_i q
   rw [Nat.testBit_and, wordN_bit _ _ _ hb, wordN_bit _ _ _ hb, show decide (64 * i ≤ 64 * j + b) = false from decide_eq_false (by omega), Bool.or_false]
  ·rename_i q
   rw [wordN_bit _ _ _ hb, show decide (64 * i ≤ 64 * j + b) = true from decide_eq_true (by omega), Bool.or_true, Bool.and_true]
theorem mixN_step (m i S T : Nat) : (u64s (wordsOf m (mixN i S T))).set i (.int .u64 ((wordN S i &&& wordN T i : Nat) : Int)) = u64s (wordsOf m (mixN (i + 1) S T)) := by
 apply List.ext_getElem
 ·simp [wordsOf]
 ·intro j h1 h2
  rw [List.getElem_set]
  simp only [u64s, wordsOf, List.getElem_map, List.getElem_range, mixN_word]
  by_cases e : i = j
  ·subst e
   rw [if_pos rfl, if_pos (Nat.lt_succ_self _)]
  ·rw [if_neg e]
   by_cases q : j < i
   ·rw [if_pos q, if_pos (by omega)]
   ·rw [if_neg q, if_neg (by omega)]
def lostN (i S T : Nat) : Bool := (List.range i).any fun j => (wordN S j &&& (18446744073709551615 - wordN T j)) != 0
theorem lostN_next (i S T : Nat) : lostN (i + 1) S T = (lostN i S T || (wordN S i &&& (18446744073709551615 - wordN T i)) != 0) := by simp [lostN, List.range_succ]
theorem lostN_end {m S T : Nat} (hS : S < 2 ^ (64 * m)) : lostN m S T = decide (S &&& T ≠ S) := by
 rw [Bool.eq_iff_iff, decide_eq_true_iff, Ne, and_same hS]
 unfold lostN
 rw [List.any_eq_true]
 constructor
 ·rintro ⟨j, hj, h⟩ q
  have := q j (by simpa using hj)
  simp [this] at h
 ·intro h
  apply Classical.byContradiction
  intro q
  apply h
  intro j hj
  apply Classical.byContradiction
  intro q2
  exact q ⟨j, by simpa using hj, by simpa using q2⟩
/-- where the program's work list starts -/
theorem crun_start {w W : World} {A G c m n ps T : Nat} {fo : Obj} (hf : KAt W w.heap.size fo) (hb : Below w.heap.size w W) (ha : OwnAt W A n 140 ((List.replicate n (.slice none 0 0)).set 0 (.slice (some ⟨G, 0, none⟩) m c))) (hfa : w.heap.size < A) (hAG : A < G) (hg : OwnAt W G c 45 (u64s (wordsOf m (2 ^ ps - 1)))) (hn : 0 < n) (hT : W.heap.size = T) :
  CUn w (W.alloc (.cells #[.int .i64 0] 3)) A T 1 m fo ((List.replicate n (.slice none 0 0)).set 0 (.slice (some ⟨G, 0, none⟩) m c)) (startS n ps) := by
 subst hT
 have hGl := hg.lt
 have hAl := ha.lt
 have hFl := heap_lt hf.x
 have h1 := OwnAt.new W #[.int .i64 0] 3 (by unfold maxLen; simp)
 refine ⟨hf.alloc _, hb.alloc (by omega) _, ?_, hfa, by simp [startS], fun k hk => ?_, ?_, h1, by omega⟩
 ·have := ha.alloc (.cells #[.int .i64 0] 3)
  simpa using this
 ·have hl : 0 < (List.replicate n (none : Option Nat)).length := by simpa using hn
  have hk2 : k < n := by simpa [startS] using hk
  unfold startS
  dsimp only
  rw [setOf_set hl]
  by_cases e : k = 0
  ·subst e
   rw [if_pos rfl]
   exact ⟨G, c, by simp [List.getD, hn], hAG, by omega, hg.alloc _⟩
  ·rw [if_neg e]
   have : setOf (List.replicate n (none : Option Nat)) k = none := by
    unfold setOf
    simp [List.getD_eq_getElem?_getD, List.getElem?_replicate]
    split <;> rfl
   rw [this]
   show _ = _
   simp only [List.getD_eq_getElem?_getD, List.getElem?_set, List.getElem?_replicate]
   rw [if_neg (by omega), if_pos hk2]
   rfl
 ·intro k k' g c1 c2 hne q1 q2
  simp only [List.getElem?_set, List.getElem?_replicate] at q1 q2
  split at q1
  ·rw [if_neg (by omega)] at q2
   split at q2 <;> cases q2
  ·split at q1 <;> cases q1
end
attribute [local go_sem] ext_mk size_mk toList_mk get_mk take_drop_len take_tail_len ByteArray.mk_append_mk List.append_toArray
def CRel (w : World) (A m rs : Nat) (fo : Obj) (code : List In) (ps q : Nat) (v7 : Value) (wr : World) : Prop := ∃ j st t tc slots, st = iterS code j (startS code.length ps) ∧ OkS code.length rs st ∧ meaS rs st = q ∧ q ≤ 600000000 ∧ v7 = .slice (some ⟨t, 0, none⟩) st.2.length tc ∧ CUn w wr A t tc m fo slots st
theorem eqn_none2 (T : TypeId) (e : TypeId) (hu : Tryz.prog.underlying T = some (.slice e)) (n c : Nat) (W : World) : (binOp .eql T (.slice none n c) (.slice none 0 0)).run Tryz.prog W = .ok (.bool true) W := by
 have h : (Op.equal T (.slice none n c) (.slice none 0 0)).run Tryz.prog W = .ok true W := by
  unfold Op.equal
  rw [show Op.maxDepth = (Op.maxDepth - 1) + 1 from rfl]
  simp only [Op.equalIn, Sem.run_bind, run_underlying hu, Result.andThen_ok]
  first | rfl | simp
 simp [binOp, h]
set_option maxRecDepth 8000 in
theorem clone_ints_none (cap : Nat) (w : World) : Calls Tryz.prog 81 #[.slice none 0 cap] w fun x w' => x = .returned (.slice none 0 0) ∧ w' = w := by
 have hq := fun W => eqn_none2 56 _ Tryz.underlying56 0 cap W
 go_enter Tryz.func81, Tryz.ntmps81
 go_wp2
 go_ret
 exact ⟨rfl, rfl⟩
theorem clone_own (r : Option Addr) (L : List Int) (cap : Nat) (w : World) (hl : L.length ≤ 2000000000) (hI : IntsAt .i64 w r L) : Calls Tryz.prog 81 #[.slice r L.length cap] w fun x w' => ∃ v, x = .returned v ∧ w'.ownsRow w.heap.size 3 1 v L.length (ints L) ∧ Below w.heap.size w w' := by
 cases r with
 | none =>
  have : L = [] := by
   obtain ⟨_, h | ⟨b, o, h, _⟩⟩ := hI
   ·exact h
   ·cases h
  subst this
  refine (clone_ints_none cap w).mono ?_
  rintro e w' ⟨rfl, rfl⟩
  exact ⟨_, rfl, World.ownsRow_nil _ _ _ _, Below.refl _ _⟩
 | some a =>
  refine (clone_ints_any a L cap w hl hI).mono ?_
  rintro e w' ⟨k, c, rfl, h1, h2, h3⟩
  exact ⟨_, rfl, h2.row h1 (by simp), h3⟩
theorem own_slice {W : World} {base n : Nat} {v : Value} {L : List Int} (h : W.ownsRow base 3 1 v n (ints L)) : ∃ r cap, v = .slice r n cap ∧ IntsAt .i64 W r L := by
 have hn : L.length = n := by simpa [ints] using h.1
 rcases h.2 with ⟨rfl, h0⟩ | ⟨g, cap, cur, rfl, hr⟩
 ·have : L = [] := List.length_eq_zero_iff.1 (by omega)
  subst this
  exact ⟨none, 0, by rw [h0], ints_nil _⟩
 ·exact ⟨_, cap, rfl, own_ints (OwnAt.of h).1⟩
theorem set_same {l : List (Option Nat)} {t R : Nat} (h : setOf l t = some R) : l.set t (some R) = l := by
 apply List.ext_getElem
 ·simp
 ·intro i h1 h2
  rw [List.getElem_set]
  split
  ·subst_vars
   unfold setOf at h
   simp [List.getD, h2] at h
   exact h.symm
  ·rfl
theorem andn (a b : Nat) (ha : a < 18446744073709551616) (hb : b < 18446744073709551616) : bits .andNot .u64 (a : Int) (b : Int) = ((a &&& (18446744073709551615 - b) : Nat) : Int) := u64_andNot_nat a b ha hb
theorem wn_lt {rs i : Nat} (h : i < rs) : i / 64 < wn rs := by unfold wn; omega
theorem wn_pow {rs S : Nat} (h : S < 2 ^ rs) : S < 2 ^ (64 * wn rs) := Nat.lt_of_lt_of_le h (Nat.pow_le_pow_right (by decide) (by unfold wn; omega))
set_option maxHeartbeats 4000000 in
set_option maxRecDepth 8000 in
theorem unset_any (pw : Nat) (fa sa ra : Option Addr) (fn sn rn fc sc rc : Nat) (en : Int) (ps rs : Nat) (ca : Option Addr) (cc : Nat) (code : List In) (w : World) (hW : WoAt w pw fa sa ra fn sn rn fc sc rc en) (hC : CodeAt w ca code) (hok : OkC rs code) (hne : code ≠ []) (hps : ps ≤ rs) (hrs : rs ≤ 4096) (hcn : code.length ≤ 65536) :
  Calls Tryz.prog 30 #[.pointer (some ⟨pw, 0, none⟩), .agg #[.int .i64 (ps : Int), .int .i64 (rs : Int), .slice ca code.length cc]] w fun e w' => e = .returned (.int .i64 (unsetS code ps)) ∧ Below w.heap.size w w' := by
 have hn : 0 < code.length := List.length_pos_iff.2 hne
 obtain ⟨n, hnn⟩ : ∃ n, code.length = n := ⟨_, rfl⟩
 obtain ⟨m, hmm⟩ : ∃ m, wn rs = m := ⟨_, rfl⟩
 have hmA : ∀ W, (Instr.makeSlice 139 (.int .i64 (n : Int)) (.int .i64 (n : Int))).run Tryz.prog W = .ok (.slice (some ⟨W.heap.size, 0, none⟩) n n) (W.alloc (.cells (madeCells #[.slice none 0 0] n) 140)) := fun W => run_make_row' (P := Tryz.prog) 139 140 (.slice none 0 0) 24 Tryz.underlying139 infoRow rfl .i64 .i64 n (by omega) (by omega) W
 obtain ⟨fo, hfo⟩ : ∃ fo, Obj.cells #[.int .i64 (ps : Int), .int .i64 (rs : Int), .slice ca n cc] 48 (0, 0) = fo := ⟨_, rfl⟩
 have HC := hid hC
 have HWo := hid hW
 have HK := hid hok
 have HN := hid hnn
 have HMm := hid hmm
 have hml : m ≤ 4096 := by rw [← hmm]; unfold wn; omega
 have CNR : Hid (∀ W : World, Calls Tryz.prog 74 #[.int .i64 (rs : Int)] W fun e w' => ∃ g, e = .returned (.slice (some ⟨g, 0, none⟩) m m) ∧ W.heap.size ≤ g ∧ OwnAt w' g m 45 (u64s (wordsOf m 0)) ∧ Below W.heap.size W w') := hid (fun W => by rw [← hmm]; exact newRow_any rs (by omega) W)
 have HLT : Hid (∀ i, i < rs → i / 64 < m) := hid (fun i h => by rw [← hmm]; exact wn_lt h)
 have CPU : Hid (∀ (g S cap i : Nat) (W : World), OwnAt W g cap 45 (u64s (wordsOf m S)) → i < rs → Calls Tryz.prog 75 #[.slice (some ⟨g, 0, none⟩) m cap, .int .i64 (i : Int)] W fun e w' => (∃ v, e = .returned v) ∧ OwnAt w' g cap 45 (u64s (wordsOf m (S ||| 2 ^ i))) ∧ W.grownBy w' (some g)) := hid (by
  intro g S cap i W h hi
  refine (put_any g m S cap i W h (HLT.out i hi) (by omega)).mono ?_
  rintro e w' ⟨h1, rfl⟩
  have q := grown_set W g (i / 64) (.int .u64 ((wordN S (i / 64) ||| 2 ^ (i % 64) : Nat) : Int))
  exact ⟨h1, put_own h (HLT.out i hi), ⟨q.os, q.tape, q.output, q.size, q.block⟩⟩)
 have HFC : Hid (∀ V, KAt V w.heap.size fo → V.cell? ⟨w.heap.size, 0, none⟩ = some (.int .i64 (ps : Int)) ∧ V.cell? ⟨w.heap.size, 1, none⟩ = some (.int .i64 (rs : Int)) ∧ V.cell? ⟨w.heap.size, 2, none⟩ = some (.slice ca n cc)) := hid (by
  rw [← hfo]
  intro V h
  refine ⟨?_, ?_, ?_⟩ <;> (rw [cell_of_row _ _ _ _ _ _ h.x]; rfl))
 obtain ⟨W1, hW1⟩ : ∃ W1, (w.alloc (.cells #[.int .i64 (ps : Int), .int .i64 (rs : Int), .slice ca n cc] 48)).alloc (.cells (madeCells #[.slice none 0 0] n) 140) = W1 := ⟨_, rfl⟩
 have F1 : Hid (KAt W1 w.heap.size fo ∧ Below w.heap.size w W1 ∧ OwnAt W1 (w.heap.size + 1) n 140 (List.replicate n (.slice none 0 0))) := hid (by
  rw [← hW1]
  obtain ⟨X, hX⟩ : ∃ X, w.alloc (.cells #[.int .i64 (ps : Int), .int .i64 (rs : Int), .slice ca n cc] 48) = X := ⟨_, rfl⟩
  have kX : KAt X w.heap.size fo := by rw [← hX, ← hfo]; exact KAt.new _ _
  have zX : X.heap.size = w.heap.size + 1 := by rw [← hX]; simp
  have bX : Below w.heap.size w X := by rw [← hX]; exact (Below.refl _ _).alloc (Nat.le_refl _) _
  rw [hX]
  have o1 := OwnAt.new X (madeCells #[.slice none 0 0] n) 140 (by rw [size_madeCells]; unfold maxLen; omega)
  rw [size_madeCells, made_toList, zX] at o1
  have bZ : ∀ o, Below X.heap.size X (X.alloc o) := fun o => (Below.refl _ _).alloc (Nat.le_refl _) _
  exact ⟨kX.below (bZ _), bX.trans ((bZ _).mono (by omega)), o1⟩)
 have f1c := HFC.out _ F1.out.1
 obtain ⟨c0, c1, c2⟩ := f1c
 rw [hnn] at hn
 have hA0 : W1.cell? ⟨w.heap.size + 1, 0, none⟩ = some (.slice none 0 0) := F1.out.2.2.cell (j := 0) (v := .slice none 0 0) (by simp [hn])
 have hn0 : ((n : Int) == 0) = false := by simp; omega
 have hn1 : (0 : Int) < (n : Int) := by omega
 clear hC hok hfo hW
 rw [hnn] at hcn ⊢
 go_enter Tryz.func30, Tryz.ntmps30
 go_wp2_with (go_at_call 74; refine (CNR.out _).mono ?_; rintro e w2 ⟨G, rfl, k1, k2, k3⟩; have A2 := hid (F1.out.2.2.below k3 F1.out.2.2.lt); have K2 := hid (F1.out.1.below k3); have B2 := hid (F1.out.2.1.trans (k3.mono F1.out.2.1.size)); have G2 := hid k2; have GL := hid (Nat.lt_of_lt_of_le F1.out.2.2.lt k1); have a0 : w2.cell? ⟨w.heap.size + 1, 0, none⟩ = some (.slice none 0 0) := A2.out.cell (j := 0) (v := .slice none 0 0) (by simp [hn]); have a1 := A2.out.frozen 0; obtain ⟨d0, d1, d2⟩ := HFC.out _ K2.out; have d3 : ∀ v, (w2.setCell ⟨w.heap.size + 1, 0, none⟩ v).cell? ⟨w.heap.size, 0, none⟩ = some (.int .i64 (ps : Int)) := fun v => (World.cell?_setCell_other w2 ⟨w.heap.size + 1, 0, none⟩ ⟨w.heap.size, 0, none⟩ v (by intro q; injection q; omega)).trans d0; clear k1 k2 k3 c0 c1 c2 hA0 hW1)
 clear F1
 go_loopw [36] (fun v36 wr => ∃ i : Nat, v36 = .int .i64 i ∧ i ≤ ps ∧ KAt wr w.heap.size fo ∧ Below w.heap.size w wr ∧ OwnAt wr (w.heap.size + 1) n 140 ((List.replicate n (.slice none 0 0)).set 0 (.slice (some ⟨G, 0, none⟩) m m)) ∧ OwnAt wr G m 45 (u64s (wordsOf m (2 ^ i - 1)))) (fun v36 _ => ps - (intOf v36).toNat)
 case atStart => exact ⟨0, rfl, Nat.zero_le _, K2.out.put _ (by show w.heap.size ≠ w.heap.size + 1; omega) _, B2.out.setCell (p := ⟨w.heap.size + 1, 0, none⟩) (by show w.heap.size ≤ w.heap.size + 1; omega) _, A2.out.set 0 _, G2.out.other _ (by have := GL.out; show G ≠ w.heap.size + 1; omega) _⟩
 case round =>
  obtain ⟨i, rfl, hi, r1, r2, r3, r4⟩ := hrel
  clear a0 a1 d0 d1 d2 d3 K2 B2 A2 G2
  have x0 := r3.cell (j := 0) (v := .slice (some ⟨G, 0, none⟩) m m) (by simp [hn])
  by_cases hlt : i < ps
  ·have R1 := hid r1
   have R2 := hid r2
   have R3 := hid r3
   have R4 := hid r4
   clear r1 r2 r3 r4
   go_wp2_with (go_at_call 75; refine (CPU.out G (2 ^ i - 1) m i _ R4.out (by omega)).mono ?_; rintro e w4 ⟨⟨v, rfl⟩, q1, q2⟩; have Q1 := hid q1; have Q2 := hid q2; clear q1 q2)
   go_roundw
   case rel => exact ⟨i + 1, by go_num, hlt, R1.out.grown Q2.out (by have := GL.out; omega), below_grownAt R2.out Q2.out (Nat.le_of_lt (heap_lt R1.out.x)) (by have := GL.out; omega), R3.out.grown Q2.out (by have := GL.out; omega), by have := Q1.out; rwa [pow_fill] at this⟩
   case measure => simp [intOf]; omega
  ·obtain rfl : i = ps := by omega
   have R := hid (crun_start r1 r2 r3 (Nat.lt_succ_self _) GL.out r4 hn rfl)
   have HS := hid (start_ok (rs := rs) hn hps)
   have HM := hid (start_mea (ps := i) hcn hrs)
   clear r1 r2 r3 r4 x0
   go_wp2_with fail
   go_loopw [7] (fun v7 wr => ∃ q, CRel w (w.heap.size + 1) m rs fo code i q v7 wr) (fun v7 wr => leastOf fun q => CRel w (w.heap.size + 1) m rs fo code i q v7 wr)
   case atStart => exact ⟨_, 0, startS code.length i, wr.heap.size, 1, _, rfl, by rw [HN.out]; exact HS.out, rfl, by rw [HN.out]; exact HM.out, rfl, by rw [HN.out]; exact R.out⟩
   case round =>
    clear R HS HM
    obtain ⟨j, st, t, tc, slots, hst, hO, hm, hmb, rfl, hR⟩ := leastOf_spec hrel
    obtain ⟨al, td⟩ := st
    by_cases hemp : td = []
    ·subst hemp
     rw [List.length_nil]
     have hfin : (al, []) = finS code i := by rw [hst]; exact finS_eq (by rw [← hst])
     have HF := hid (show (finS code i).1 = al by rw [← hfin])
     have R := hid hR
     have HO := hid hO
     obtain ⟨b0, b1, b2⟩ := HFC.out _ hR.f
     clear hfin hR hst hO hm hmb hrel
     go_wp2_with fail
     clear b0 b1 b2
     go_loopw [171] (fun v171 wq => ∃ q : Nat, v171 = .int .i64 q ∧ q ≤ n ∧ (∀ j, j < q → badK code al j = false) ∧ CUn w wq (w.heap.size + 1) t tc m fo slots (al, [])) (fun v171 _ => n - (intOf v171).toNat)
     case atStart => exact ⟨0, rfl, Nat.zero_le _, (fun _ h => absurd h (Nat.not_lt_zero _)), R.out⟩
     case round =>
      clear R
      obtain ⟨q, rfl, hq, hall, hR⟩ := hrel
      by_cases hlt : q < n
      ·have hx : code[q]? = some code[q] := List.getElem?_eq_getElem (by rw [HN.out]; exact hlt)
       obtain ⟨x, hxe⟩ : ∃ x, code[q]'(by rw [HN.out]; exact hlt) = x := ⟨_, rfl⟩
       rw [hxe] at hx
       have HX := hid (HK.out q x hx)
       have HBK := hid (badK_at (al := al) hx)
       obtain ⟨cb, co, rfl, hXA⟩ := code_cells (HC.out.below hR.b) hx
       obtain ⟨op, xa, xb, xc, l, lv⟩ := x
       obtain ⟨la, lc, va, vc, h0, h1, h2, h3, h4, h5, h6, h7⟩ := hXA
       dsimp only at h0 h1 h2 h3 h4 h5 h6 h7
       obtain ⟨RL, hRL⟩ : ∃ RL, readsI ⟨op, xa, xb, xc, l, lv⟩ = RL := ⟨_, rfl⟩
       have HRD := hid (show ∀ z ∈ RL ++ lv, 0 ≤ z ∧ z < (rs : Int) by rw [← hRL]; exact HX.out.rd)
       have HBD := hid (show ∀ s, badS ⟨op, xa, xb, xc, l, lv⟩ s = (match s with | none => false | some S => (RL ++ lv).any fun r => !S.testBit r.toNat) by intro s; cases s <;> (rw [← hRL]; rfl))
       have HAll := hid hall
       have hql : q < al.length := by have := HO.out.len; dsimp only at this; rw [this, HN.out]; exact hlt
       have hrow := hR.rows q hql
       dsimp only at hrow
       obtain ⟨W0, hW0⟩ : ∃ W0, wr.alloc (.cells #[.int .i64 op, .int .i64 xa, .int .i64 xb, .int .i64 xc, .slice la l.length lc, .slice va lv.length vc] 58) = W0 := ⟨_, rfl⟩
       have hb0 : Below wr.heap.size wr W0 := by rw [← hW0]; exact (Below.refl _ _).alloc (Nat.le_refl _) _
       have R := hid (hR.same hb0)
       obtain ⟨xo, hxo⟩ : ∃ xo, Obj.cells #[.int .i64 op, .int .i64 xa, .int .i64 xb, .int .i64 xc, .slice la l.length lc, .slice va lv.length vc] 58 (0, 0) = xo := ⟨_, rfl⟩
       have KX := hid (show KAt W0 wr.heap.size xo by rw [← hW0, ← hxo]; exact KAt.new _ _)
       have HXC : Hid (∀ V, KAt V wr.heap.size xo → V.cell? ⟨wr.heap.size, 0, none⟩ = some (.int .i64 op) ∧ V.cell? ⟨wr.heap.size, 1, none⟩ = some (.int .i64 xa) ∧ V.cell? ⟨wr.heap.size, 2, none⟩ = some (.int .i64 xb) ∧ V.cell? ⟨wr.heap.size, 3, none⟩ = some (.int .i64 xc) ∧ V.cell? ⟨wr.heap.size, 4, none⟩ = some (.slice la l.length lc) ∧ V.cell? ⟨wr.heap.size, 5, none⟩ = some (.slice va lv.length vc)) := hid (by
        rw [← hxo]
        intro V h
        refine ⟨?_, ?_, ?_, ?_, ?_, ?_⟩ <;> (rw [cell_of_row _ _ _ _ _ _ h.x]; rfl))
       have LI := hid (And.intro (h6.below hb0) (h7.below hb0))
       have s0 : W0.cell? ⟨w.heap.size + 1, q, none⟩ = some (slots.getD q undef) := (R.out.slot hql).1
       have hrl : RL.length ≤ 1000000001 := by
        have := HX.out.ll
        dsimp only at this
        rw [← hRL]
        unfold readsI
        dsimp only
        repeat' split
        all_goals (simp; try omega)
       have hvl := HX.out.vl
       dsimp only at hvl
       cases hs : setOf al q with
       | none =>
        rw [hs] at hrow
        have hrow : slots.getD q undef = .slice none 0 0 := hrow
        rw [hrow] at s0
        have HBF := hid (show badK code al q = false by rw [HBK.out, hs, HBD.out])
        have hqn := fun W => eqn_none 140 _ Tryz.underlying140 W
        clear hs hrow hR hall hx hxe h6 h7 hRL hxo hb0
        go_wp2_with fail
        go_roundw
        case rel => exact ⟨q + 1, by go_num, hlt, fun j hj => by
         by_cases e : j = q
         ·rw [e]; exact HBF.out
         ·exact HAll.out j (by omega), R.out⟩
        case measure => simp [intOf]; omega
       | some R0 =>
        rw [hs] at hrow
        obtain ⟨g, c, hsl, r1, r2, r3⟩ := hrow
        rw [hsl] at s0
        have HS0 := hid s0
        have HS := hid (show badK code al q = (RL ++ lv).any (fun r => !R0.testBit r.toNat) by rw [HBK.out, hs, HBD.out])
        have HG := hid (r3.below hb0 r3.lt)
        have hqs := fun W => eqn_some 140 _ Tryz.underlying140 ⟨g, 0, none⟩ m c W
        have CRD : Hid (∀ W, IntsAt .i64 W la l → Calls Tryz.prog 82 #[.agg #[.int .i64 op, .int .i64 xa, .int .i64 xb, .int .i64 xc, .slice la l.length lc, .slice va lv.length vc]] W fun e w' => RdR W RL e w') := hid (fun W h => by rw [← hRL]; exact reads_any op xa xb xc l lv la va lc lv.length vc W h HX.out.ll)
        have CCI := hid (fun (W : World) (r : Option Addr) (cap : Nat) (h : IntsAt .i64 W r RL) => clone_own r RL cap W (by omega) h)
        clear hs hR hall hx hxe h6 h7 hRL hxo hb0 hsl r1 r2 r3
        go_upto_region 47 with fail
        go_cut [171, 186, 187, 188] from 171 to 201 (fun q0 q1 q2 q3 wx => ∃ r cap, q0 = .int .i64 q ∧ q1 = .slice r (RL ++ lv).length cap ∧ q2 = .int .i64 ((RL ++ lv).length : Nat) ∧ q3 = .int .i64 0 ∧ IntsAt .i64 wx r (RL ++ lv) ∧ Below W0.heap.size W0 wx)
        case first =>
         obtain ⟨x0, x1, x2, x3, x4, x5⟩ := HXC.out _ KX.out
         go_region_law (first
          | (go_simp; go_at_call 82; refine (CRD.out _ (LI.out.1.below (Below.refl _ _).drew)).mono ?_; rintro e w6 ⟨r, rcap, rfl, q1, q2⟩; have B6 := hid (((Below.refl W0.heap.size W0).drew).trans q2); have N6 := hid q1; obtain ⟨y0, y1, y2, y3, y4, y5⟩ := HXC.out _ (KX.out.below B6.out); clear q1 q2)
          | (go_simp; go_at_call 81; refine (CCI.out _ _ _ N6.out).mono ?_; rintro e w7 ⟨v7, rfl, o1, o2⟩; have B7 := hid (B6.out.trans (o2.mono B6.out.size)); have O7 := hid o1; have Z7 := hid o2.size; obtain ⟨z0, z1, z2, z3, z4, z5⟩ := HXC.out _ (KX.out.below B7.out); clear o1 o2)
          | (refine step_app_list O7.out rfl _ _ rfl lv _ _ rfl rfl (LI.out.2.below B7.out) (by omega) Z7.out ?_; intro v8 V8 k1 k2 k3 k4; rw [show ints RL ++ lv.map (Value.int .i64) = ints (RL ++ lv) by simp [ints]] at k1; obtain ⟨r8, c8, rfl, hI8⟩ := own_slice k1; have I8 := hid hI8; have B8 := hid (B7.out.trans (k2.mono B6.out.size)); clear k1 k2 k3 k4 hI8))
         all_goals go_wp2_with fail
         all_goals go_meet
         all_goals exact ⟨r8, c8, rfl, by simp, by simp, rfl, I8.out, B8.out⟩
        case rest =>
         obtain ⟨r, cap, rfl, rfl, rfl, rfl, hI, hB⟩ := hcut
         obtain ⟨L, hL⟩ : ∃ L, RL ++ lv = L := ⟨_, rfl⟩
         rw [hL] at hI
         rw [hL]
         have hs2 := HS.out
         rw [hL] at hs2
         have HS := hid hs2
         have hrd := HRD.out
         rw [hL] at hrd
         have HRD := hid hrd
         have I0 := hid hI
         have B0 := hid hB
         have hLM := hI.1
         have hLm : (L.length : Int) ≤ 9223372036854775807 := by unfold maxLen at hLM; omega
         clear hI hB hs2 hrd hL hLM CRD CCI s0
         go_wp2_with fail
         go_loopw [188] (fun v188 wy => ∃ y : Nat, v188 = .int .i64 y ∧ y ≤ L.length ∧ (∀ z, z < y → R0.testBit (L.getD z 0).toNat = true) ∧ Below wc.heap.size wc wy) (fun v188 _ => L.length - (intOf v188).toNat)
         case atStart => exact ⟨0, rfl, Nat.zero_le _, (fun _ h => absurd h (Nat.not_lt_zero _)), Below.refl _ _⟩
         case round =>
          obtain ⟨y, rfl, hy, hgood, hBy⟩ := hrel
          have HB := hid (B0.out.trans (hBy.mono B0.out.size))
          have HBy := hid hBy
          have HGD := hid hgood
          by_cases hly : y < L.length
          ·obtain ⟨rb, ro, rfl, rc0⟩ := ints_cell (I0.out.below hBy) hly
           obtain ⟨z0, z1⟩ := HRD.out (L.getD y 0) (by simp [List.getD, hly])
           obtain ⟨rr, hrr⟩ := Int.eq_ofNat_of_zero_le z0
           rw [hrr] at rc0 z1
           have hrr2 : rr < rs := by omega
           have s1 := (HB.out.cell (p := ⟨w.heap.size + 1, q, none⟩) R.out.a.lt).trans HS0.out
           have IG := hid (own_ints (HG.out.below HB.out HG.out.lt))
           have CHA := hid (fun W (h : IntsAt .u64 W (some ⟨g, 0, none⟩) (wordsOf m R0)) => has_any (some ⟨g, 0, none⟩) m R0 c rr W h (HLT.out rr hrr2) (by omega))
           have HRR := hid hrr
           clear hrr hgood hBy z0
           cases ht : R0.testBit rr
           ·rw [ht] at CHA
            have HT := hid ht
            clear ht
            go_wp2_with (first
             | (go_at_call 78; refine (CHA.out _ IG.out).mono ?_; rintro e w5 ⟨rfl, rfl⟩))
            go_ret
            exact ⟨ret_int (by rw [unset_found (q := q) (by rw [HN.out]; exact hlt) (by rw [HF.out, HS.out, List.any_eq_true]; exact ⟨L[y], List.getElem_mem hly, by have := HRR.out; simp [List.getD, hly] at this; simp [this, HT.out]⟩) (by rw [HF.out]; exact HAll.out)]), (R.out.same HB.out).b⟩
           ·rw [ht] at CHA
            have HT := hid ht
            clear ht
            go_wp2_with (first
             | (go_at_call 78; refine (CHA.out _ IG.out).mono ?_; rintro e w5 ⟨rfl, rfl⟩))
            go_roundw
            case rel => exact ⟨y + 1, by go_num, hly, fun z hz => by
             by_cases e : z = y
             ·rw [e, HRR.out, Int.toNat_natCast]; exact HT.out
             ·exact HGD.out z (by omega), HBy.out⟩
            case measure => simp [intOf]; omega
          ·have HBF := hid (show badK code al q = false by
            rw [HS.out, List.any_eq_false]
            intro z hz
            obtain ⟨iz, hiz, rfl⟩ := List.getElem_of_mem hz
            have := hgood iz (by omega)
            simp [List.getD, hiz] at this
            simp [this])
           clear hgood hBy
           go_wp2_with fail
           go_roundw
           case rel => exact ⟨q + 1, by go_num, hlt, fun j hj => by
            by_cases e : j = q
            ·rw [e]; exact HBF.out
            ·exact HAll.out j (by omega), R.out.same HB.out⟩
           case measure => simp [intOf]; omega
      ·obtain rfl : q = n := by omega
       have HE := hid (unset_none (code := code) (ps := i) (by rw [HF.out, HN.out]; exact hall))
       have R := hid hR
       clear hR hall
       go_wp2_with fail
       go_ret
       exact ⟨ret_int HE.out.symm, R.out.b⟩
    ·obtain ⟨k, x, S, hk, hx, hS, hSl, hX, hstep, hO2, hm2⟩ := step_ok HK.out hO hemp
     obtain ⟨d1, d2⟩ := drop_ok hO hemp
     obtain ⟨pre, rfl⟩ := List.getLast?_eq_some_iff.1 hk
     dsimp only at hS hstep hR hk ⊢
     rw [List.dropLast_concat] at hstep d1 d2
     rw [HN.out] at d1
     have hkl : k < al.length := by have := hO.len; dsimp only at this; rw [this]; exact (hO.todo k (by simp)).1
     have hkn : k < n := by have := (hO.todo k (by simp)).1; rw [HN.out] at this; exact this
     obtain ⟨cb, co, rfl, hXA⟩ := code_cells (HC.out.below hR.b) hx
     have hrow := hR.rows k hkl
     dsimp only at hrow
     rw [hS] at hrow
     obtain ⟨g, c, hsl, hg1, hg2, hg3⟩ := hrow
     obtain ⟨op, xa, xb, xc, l, lv⟩ := x
     have hp : pre.length ≤ 600000000 := by
      have : meaS rs (al, pre ++ [k]) ≤ 600000000 := by rw [hm]; exact hmb
      unfold meaS at this
      dsimp only at this
      simp at this
      omega
     have htc := hR.td.le
     simp only [nats, List.length_map] at htc
     have t0 := hR.td.cell (j := pre.length) (v := .int .i64 (k : Int)) (by simp [nats])
     have HO0 := hid (show OkS n rs (al, pre) ∧ meaS rs (al, pre) ≤ 600000000 from ⟨d1, Nat.le_of_lt (Nat.lt_of_lt_of_le d2 (by rw [hm]; exact hmb))⟩)
     clear d1 d2
     obtain ⟨la, lc, va, vc, h0, h1, h2, h3, h4, h5, h6, h7⟩ := hXA
     dsimp only at h0 h1 h2 h3 h4 h5 h6 h7
     obtain ⟨d0, d1, d2⟩ := HFC.out _ hR.f
     obtain ⟨W0, hW0⟩ : ∃ W0, wr.alloc (.cells #[.int .i64 op, .int .i64 xa, .int .i64 xb, .int .i64 xc, .slice la l.length lc, .slice va lv.length vc] 58) = W0 := ⟨_, rfl⟩
     have hb0 : Below wr.heap.size wr W0 := by rw [← hW0]; exact (Below.refl _ _).alloc (Nat.le_refl _) _
     have R := hid ((hR.same hb0).pop (L := pre) (n := pre.length) (by simp))
     obtain ⟨xo, hxo⟩ : ∃ xo, Obj.cells #[.int .i64 op, .int .i64 xa, .int .i64 xb, .int .i64 xc, .slice la l.length lc, .slice va lv.length vc] 58 (0, 0) = xo := ⟨_, rfl⟩
     have KX := hid (show KAt W0 wr.heap.size xo by rw [← hW0, ← hxo]; exact KAt.new _ _)
     have HXC : Hid (∀ V, KAt V wr.heap.size xo → V.cell? ⟨wr.heap.size, 0, none⟩ = some (.int .i64 op) ∧ V.cell? ⟨wr.heap.size, 1, none⟩ = some (.int .i64 xa) ∧ V.cell? ⟨wr.heap.size, 2, none⟩ = some (.int .i64 xb) ∧ V.cell? ⟨wr.heap.size, 3, none⟩ = some (.int .i64 xc) ∧ V.cell? ⟨wr.heap.size, 4, none⟩ = some (.slice la l.length lc) ∧ V.cell? ⟨wr.heap.size, 5, none⟩ = some (.slice va lv.length vc)) := hid (by
      rw [← hxo]
      intro V h
      refine ⟨?_, ?_, ?_, ?_, ?_, ?_⟩ <;> (rw [cell_of_row _ _ _ _ _ _ h.x]; rfl))
     have LI := hid (And.intro (h6.below hb0) (h7.below hb0))
     have HG := hid (And.intro hg1 (And.intro hg2 (hg3.below hb0 hg3.lt)))
     have HX := hid hX
     have HST := hid hstep
     have HSL := hid hsl
     have HSS := hid hSl
     have HO := hid hO2
     have HMM := hid hm2
     have HM := hid hm
     have HMB := hid hmb
     have HT := hid hst
     have HAL := hid hkl
     have s0 : W0.cell? ⟨w.heap.size + 1, k, none⟩ = some (.slice (some ⟨g, 0, none⟩) m c) := by rw [← hsl]; exact (R.out.slot hkl).1
     have HS0 := hid s0
     have hlen : (pre ++ [k]).length = pre.length + 1 := by simp
     obtain ⟨p, hpe⟩ : ∃ p, pre.length = p := ⟨_, rfl⟩
     have HP := hid hpe
     rw [hpe] at t0 hp hlen
     rw [hlen] at htc
     rw [hlen]
     have m1 : IntKind.i64.wrap (((p + 1 : Nat) : Int) - 1) = (p : Int) := by rw [IntWalk.i64_in _ (by omega)]; omega
     have m2 : (0 : Int) < ((p + 1 : Nat) : Int) := by omega
     have m3 : (k : Int) < (n : Int) := by omega
     have m4 : (p : Int) ≤ (tc : Int) := by omega
     have hWX : wr.heap.size < W0.heap.size := heap_lt KX.out.x
     have CCL : Hid (∀ (g S c : Nat) (W : World), OwnAt W g c 45 (u64s (wordsOf m S)) → Calls Tryz.prog 76 #[.slice (some ⟨g, 0, none⟩) m c] W fun x w' => ∃ k c, x = .returned (.slice (some ⟨k, 0, none⟩) m c) ∧ W.heap.size ≤ k ∧ OwnAt w' k c 45 (u64s (wordsOf m S)) ∧ Below W.heap.size W w') := hid (by
      intro g S c W h
      have := clone_row_any ⟨g, 0, none⟩ (wordsOf m S) c W (by rw [wordsOf_length]; omega) (own_ints h)
      rwa [wordsOf_length] at this)
     have CKP := hid (fun W h => keeps_any pw fa sa ra fn sn rn fc sc rc en op xa xb xc la va l.length lc lv.length vc W h)
     have CST := hid (fun W => sets_any op xa xb xc la va l.length lc lv.length vc W)
     clear hR hX hg1 hg2 hg3 hsl hSl hO hO2 hm hm2 hmb hst hrel hk hx hS hkl hemp hpe hstep hxo h6 h7 hb0
     go_upto_if 72 with (first
      | (go_at_call 76; refine (CCL.out g S c _ HG.out.2.2).mono ?_; rintro e w1 ⟨go, gc, rfl, k1, k2, k3⟩; have B1 := hid k3; have O1 := hid k2; have GO := hid k1; obtain ⟨x0, x1, x2, x3, x4, x5⟩ := HXC.out _ (KX.out.below k3); clear k1 k2 k3)
      | (go_at_call 77; refine (CKP.out _ (HWo.out.below (R.out.b.trans (B1.out.mono (Nat.le_trans R.out.b.size (Nat.le_refl _)))))).mono ?_; rintro e w2 ⟨rfl, hb⟩; have B2 := hid (B1.out.trans (hb.mono B1.out.size)); have O2 := hid (O1.out.below hb O1.out.lt); clear hb x0 x1 x2 x3 x4 x5))
     go_cut [10] from 46 to 167 (fun v10 wx => ∃ go gc : Nat, v10 = .slice (some ⟨go, 0, none⟩) m gc ∧ W0.heap.size ≤ go ∧ OwnAt wx go gc 45 (u64s (wordsOf m (if keepsI op xb then liveS lv S else S))) ∧ Below W0.heap.size W0 wx)
     case first =>
      cases hkp : keepsI op xb
      ·go_wp2_with fail
       go_meet
       case rel => exact ⟨go, gc, rfl, GO.out, by rw [hkp]; exact O2.out, B2.out⟩
      ·obtain ⟨y0, y1, y2⟩ := HFC.out _ (R.out.f.below B2.out)
       have HLV := hid (show ∀ r ∈ lv, 0 ≤ r ∧ r < (rs : Int) from fun r hr => HX.out.rd r (by simp [hr]))
       go_wp2_with (go_at_call 74; refine (CNR.out _).mono ?_; rintro e w3 ⟨g2, rfl, k1, k2, k3⟩; have B3 := hid (B2.out.trans (k3.mono B2.out.size)); have O3 := hid k2; have GO3 := hid (Nat.le_trans B2.out.size k1); obtain ⟨x0, x1, x2, x3, x4, x5⟩ := HXC.out _ (KX.out.below B3.out); clear k1 k2 k3 y0 y1 y2)
       clear x0 x1 x2 x3 x4 x5
       go_loopw [79] (fun v79 wy => ∃ y : Nat, v79 = .int .i64 y ∧ y ≤ lv.length ∧ OwnAt wy g2 m 45 (u64s (wordsOf m (liveS (lv.take y) S))) ∧ Below W0.heap.size W0 wy) (fun v79 _ => lv.length - (intOf v79).toNat)
       case atStart => exact ⟨0, rfl, Nat.zero_le _, O3.out, B3.out⟩
       case round =>
        clear O3 B3
        obtain ⟨y, rfl, hy, hOy, hBy⟩ := hrel
        have HOy := hid hOy
        have HBy := hid hBy
        have hvl := HX.out.vl
        dsimp only at hvl
        by_cases hly : y < lv.length
        ·obtain ⟨vb, vo, rfl, c0⟩ := ints_cell (LI.out.2.below hBy) hly
         have hmem : lv.getD y 0 ∈ lv := by simp [List.getD, hly]
         obtain ⟨r, hr⟩ := Int.eq_ofNat_of_zero_le (HLV.out _ hmem).1
         have hr2 : r < rs := by have := (HLV.out _ hmem).2; omega
         have HXL := hid (liveS_next (S := S) hly)
         rw [hr] at c0 HXL
         rw [Int.toNat_natCast] at HXL
         have s1 : wr.cell? ⟨w.heap.size + 1, k, none⟩ = some (.slice (some ⟨g, 0, none⟩) m c) := (hBy.cell (p := ⟨w.heap.size + 1, k, none⟩) R.out.a.lt).trans HS0.out
         have IG := hid (own_ints (HG.out.2.2.below hBy HG.out.2.2.lt))
         have CHA := hid (fun W (h : IntsAt .u64 W (some ⟨g, 0, none⟩) (wordsOf m S)) => has_any (some ⟨g, 0, none⟩) m S c r W h (HLT.out r hr2) (by omega))
         clear hOy hBy hmem hr
         cases ht : S.testBit r
         ·rw [ht] at HXL
          rw [ht] at CHA
          clear ht
          go_wp2_with (first
           | (go_at_call 78; refine (CHA.out _ IG.out).mono ?_; rintro e w5 ⟨rfl, rfl⟩))
          go_roundw
          case rel => exact ⟨y + 1, by go_num, hly, by rw [HXL.out]; exact HOy.out, HBy.out⟩
          case measure => simp [intOf]; omega
         ·rw [ht] at HXL
          rw [ht] at CHA
          clear ht
          go_wp2_with (first
           | (go_at_call 78; refine (CHA.out _ IG.out).mono ?_; rintro e w5 ⟨rfl, rfl⟩)
           | (go_at_call 75; refine (CPU.out g2 (liveS (lv.take y) S) m r _ HOy.out hr2).mono ?_; rintro e w5 ⟨⟨v, rfl⟩, q1, q2⟩; have Q1 := hid q1; have Q2 := hid (below_grownAt HBy.out q2 HBy.out.size GO3.out); clear q1 q2))
          go_roundw
          case rel => exact ⟨y + 1, by go_num, hly, by rw [HXL.out]; exact Q1.out, Q2.out⟩
          case measure => simp [intOf]; omega
        ·obtain rfl : y = lv.length := by omega
         rw [List.take_length] at hOy
         have HOy := hid hOy
         clear hOy hBy
         go_wp2_with fail
         go_meet
         case rel => exact ⟨g2, m, rfl, GO3.out, by rw [hkp]; exact HOy.out, HBy.out⟩
     case rest =>
      obtain ⟨go1, gc1, rfl, k1, k2, k3⟩ := hcut
      have GO1 := hid k1
      have O3 := hid k2
      have B3 := hid k3
      obtain ⟨x0, x1, x2, x3, x4, x5⟩ := HXC.out _ (KX.out.below k3)
      clear k1 k2 k3 O1 O2 B1 B2 GO
      go_upto_if 94 with (first
       | (go_at_call 79; refine (CST.out _).mono ?_; rintro e w4 ⟨rfl, hb⟩; have B4 := hid (B3.out.trans (hb.mono B3.out.size)); have O4 := hid (O3.out.below hb O3.out.lt); clear hb x0 x1 x2 x3 x4 x5))
      go_cut [10] from 46 to 167 (fun v10 wx => ∃ go gc : Nat, v10 = .slice (some ⟨go, 0, none⟩) m gc ∧ W0.heap.size ≤ go ∧ OwnAt wx go gc 45 (u64s (wordsOf m (behS ⟨op, xa, xb, xc, l, lv⟩ S))) ∧ Below W0.heap.size W0 wx)
      case first =>
       cases hs : setsI op
       ·go_wp2_with fail
        go_meet
        case rel => exact ⟨go1, gc1, rfl, GO1.out, by rw [behS_no hs rfl]; exact O4.out, B4.out⟩
       ·obtain ⟨r, hr⟩ := Int.eq_ofNat_of_zero_le (HX.out.sa hs).1
        have hr2 : r < rs := by have := (HX.out.sa hs).2; dsimp only at this hr; omega
        obtain ⟨x0, x1, x2, x3, x4, x5⟩ := HXC.out _ (KX.out.below B4.out)
        dsimp only at hr
        rw [hr] at x1
        have HR := hid hr
        clear hr
        go_wp2_with (go_at_call 75; refine (CPU.out go1 _ gc1 r _ O4.out hr2).mono ?_; rintro e w5 ⟨⟨v, rfl⟩, q1, q2⟩; have Q1 := hid q1; have Q2 := hid (below_grownAt B4.out q2 B4.out.size GO1.out); clear q1 q2)
        go_meet
        case rel => exact ⟨go1, gc1, rfl, GO1.out, by rw [HR.out, behS_yes hs rfl]; exact Q1.out, Q2.out⟩
      case rest =>
       obtain ⟨go, gc, rfl, k1, k2, k3⟩ := hcut
       have GO := hid k1
       have OU := hid k2
       have B5 := hid k3
       obtain ⟨x0, x1, x2, x3, x4, x5⟩ := HXC.out _ (KX.out.below k3)
       have CNX := hid (fun W h1 => next_any (.pointer (some ⟨pw, 0, none⟩)) (k : Int) op xa xb xc l la va lc lv.length vc W h1 (by omega) (by omega) HX.out.ll HX.out.l9)
       clear k1 k2 k3 O3 O4 B3 B4 GO1
       go_wp2_with (first
        | (go_at_call 80; refine (CNX.out _ (LI.out.1.below B5.out)).mono ?_; rintro e w6 ⟨r, rcap, rfl, q1, q2, q4⟩; have N1 := hid q1; have B6 := hid (B5.out.trans (q2.mono B5.out.size)); have OU6 := hid (OU.out.below q2 OU.out.lt); have N2 := hid (fun b o q => Nat.le_trans B5.out.size (q4 b o q)); clear q1 q2 q4 x0 x1 x2 x3 x4 x5))
       obtain ⟨L, hL⟩ : ∃ L, nextL (k : Int) op xc l = L := ⟨_, rfl⟩
       obtain ⟨T, hT⟩ : ∃ T, toS k ⟨op, xa, xb, xc, l, lv⟩ = T := ⟨_, rfl⟩
       obtain ⟨ou, hou⟩ : ∃ ou, behS ⟨op, xa, xb, xc, l, lv⟩ S = ou := ⟨_, rfl⟩
       have HTL := hid (show T = L.map Int.toNat by rw [← hT, ← hL]; rfl)
       have HGO := hid (show ∀ z ∈ L, 0 ≤ z ∧ z < (n : Int) by rw [← hL, ← HN.out]; exact HX.out.go)
       have HOU := hid (show ou < 2 ^ rs by rw [← hou]; exact beh_lt HX.out HSS.out)
       have n1 := N1.out
       have q3 := OU6.out
       have hst2 := HST.out
       rw [hL] at n1
       rw [hou] at q3
       rw [hT, hou] at hst2
       rw [hL]
       have M0 := hid (show CMid w w6 (w.heap.size + 1) t tc m fo slots (curS ou T (al, pre) 0) ou go gc r L from ⟨R.out.same B6.out, q3, Nat.lt_of_lt_of_le R.out.a.lt GO.out, by have := R.out.td.lt; have := GO.out; omega, R.out.off GO.out, n1, fun b o q => ⟨Nat.lt_of_lt_of_le R.out.a.lt (N2.out b o q), by have := R.out.td.lt; have := N2.out b o q; omega, R.out.off (N2.out b o q)⟩⟩)
       have HST := hid hst2
       have HLM := hid n1.1
       clear n1 q3 hst2 hL hT hou N1 OU6 OU B5 B6 N2 LI CNX CST CKP
       obtain ⟨wo, hwo⟩ : ∃ wo, wr = wo := ⟨_, rfl⟩
       rw [hwo]
       go_loopw [7, 104] (fun v7 v104 wz => ∃ (y : Nat) (t' tc' : Nat) (sl' : List Value), v104 = .int .i64 y ∧ y ≤ L.length ∧ v7 = .slice (some ⟨t', 0, none⟩) (curS ou T (al, pre) y).2.length tc' ∧ CMid w wz (w.heap.size + 1) t' tc' m fo sl' (curS ou T (al, pre) y) ou go gc r L) (fun _ v104 _ => L.length - (intOf v104).toNat)
       case atStart => exact ⟨0, t, tc, slots, rfl, Nat.zero_le _, by rw [← HP.out]; rfl, M0.out⟩
       case round =>
        clear M0
        obtain ⟨y, t', tc', sl', rfl, hy, rfl, hM⟩ := hrel
        have hTl : T.length = L.length := by rw [HTL.out]; simp
        by_cases hlt : y < L.length
        ·have hyT : y < T.length := by omega
         obtain ⟨rb, ro, rfl, rc0⟩ := ints_cell hM.li hlt
         obtain ⟨z0, z1⟩ := HGO.out (L.getD y 0) (by simp [List.getD, hlt])
         obtain ⟨tt, htt⟩ := Int.eq_ofNat_of_zero_le z0
         have hTy : T[y] = tt := by
          have : T[y] = (L.getD y 0).toNat := by simp [HTL.out, List.getD, hlt]
          rw [this, htt, Int.toNat_natCast]
         have hnx := curS_next (out := ou) (st := (al, pre)) hyT
         rw [hTy] at hnx
         obtain ⟨k1, k2⟩ := curS_ok (T := T) HOU.out HO0.out.1 (fun t ht => by rw [HTL.out] at ht; obtain ⟨z, hz, rfl⟩ := List.mem_map.1 ht; have := HGO.out z hz; omega) y
         have HTT := hid htt
         rw [htt] at rc0 z1
         obtain ⟨cur, hcur⟩ : ∃ cur, curS ou T (al, pre) y = cur := ⟨_, rfl⟩
         rw [hcur] at hM hnx k1 k2 ⊢
         have htl : tt < cur.1.length := by rw [k1.len]; omega
         obtain ⟨s0, f0⟩ := hM.run.slot htl
         obtain ⟨e0, e1, e2⟩ := HFC.out _ hM.run.f
         have hrow := hM.run.rows tt htl
         have hcl : cur.2.length ≤ 600000000 := by
          have := HO0.out.2
          unfold meaS at this k2
          omega
         have hrb : rb < wr.heap.size := World.block_lt_of_cell? _ _ rc0
         have M := hid hM
         have HNX := hid hnx
         have HTL2 := hid htl
         have hLM := HLM.out
         have hLm : (L.length : Int) ≤ 9223372036854775807 := by unfold maxLen at hLM; omega
         have KO := hid k1
         cases hs : setOf cur.1 tt with
         | none =>
          rw [hs] at hrow
          have hrow : sl'.getD tt undef = .slice none 0 0 := hrow
          rw [hrow] at s0
          have HS := hid hs
          have hqn := fun W => eqn_none 140 _ Tryz.underlying140 W
          clear hs hrow hM htl hnx k1 k2 hcur hLM htt hTy z0
          go_wp2_with (first
           | (go_at_call 76; refine (CCL.out go ou gc _ M.out.out).mono ?_; rintro e w7 ⟨g2, c2', rfl, k1, k2, k3⟩; have M1 := hid (M.out.same k3); have s7 := (M1.out.run.slot HTL2.out).1; have f7 := (M1.out.run.slot HTL2.out).2; have M2 := hid (M1.out.put HTL2.out (Nat.lt_of_lt_of_le M.out.run.a.lt k1) (by have := M.out.run.td.lt; omega) (M.out.run.off k1) (by have := M.out.out.lt; omega) (fun b o q => by cases q; omega) k2); have hrb7 := Nat.lt_of_lt_of_le hrb k3.size; clear k1 k2 k3)
           | (at_builtin; refine app_push M2.out.run.td rfl _ _ rfl rfl rfl tt _ (by simp) rfl (by show cur.2.length ≤ _; omega) ?_; intro t3 tc3 V3 k1 k2 k3; have M3 := hid (M2.out.push k2 k3 k1 (fun b o q => by cases q; simpa using hrb7)); clear k1 k2 k3))
          go_roundw
          case rel => exact ⟨y + 1, t3, tc3, _, by go_num, hlt, by rw [HNX.out, metS_none HS.out]; simp, by rw [HNX.out, metS_none HS.out]; exact M3.out⟩
          case measure => simp [intOf]; omega
         | some R0 =>
          rw [hs] at hrow
          obtain ⟨g', c', hsl, r1, r2, r3⟩ := hrow
          rw [hsl] at s0
          have HS := hid hs
          have HSl := hid hsl
          have HRl := hid (show R0 < 2 ^ (64 * m) by rw [← HMm.out]; exact wn_pow (k1.set tt R0 hs))
          have hqs := fun W => eqn_some 140 _ Tryz.underlying140 ⟨g', 0, none⟩ m c' W
          clear hs hsl r1 r2 r3 hM htl hnx k1 k2 hcur hLM htt hTy z0
          go_wp2_with fail
          go_loopw [15, 129] (fun v15 v129 wz => ∃ i5 : Nat, v129 = .int .i64 i5 ∧ i5 ≤ m ∧ v15 = .bool (lostN i5 R0 ou) ∧ CMid w wz (w.heap.size + 1) t' tc' m fo sl' (cur.1.set tt (some (mixN i5 R0 ou)), cur.2) ou go gc (some ⟨rb, ro, none⟩) L) (fun _ v129 _ => m - (intOf v129).toNat)
          case atStart => exact ⟨0, rfl, Nat.zero_le _, rfl, by rw [mixN_zero, set_same HS.out]; exact M.out⟩
          case round =>
           clear s0 f0 e0 e1 e2 rc0
           obtain ⟨i5, rfl, hi5, rfl, hM5⟩ := hrel
           have htl5 : tt < (cur.1.set tt (some (mixN i5 R0 ou))).length := by rw [List.length_set]; exact HTL2.out
           have hso : setOf (cur.1.set tt (some (mixN i5 R0 ou))) tt = some (mixN i5 R0 ou) := by rw [setOf_set HTL2.out, if_pos rfl]
           obtain ⟨w1, w2'⟩ := hM5.run.row_at htl5 hso HSl.out
           have s1 := (hM5.run.slot htl5).1
           rw [HSl.out] at s1
           by_cases hl5 : i5 < m
           ·have x2 := w1.cell (j := i5) (v := .int .u64 ((wordN (mixN i5 R0 ou) i5 : Nat) : Int)) (by simp [wordsOf, hl5])
            rw [mixN_word, if_neg (Nat.lt_irrefl _)] at x2
            have x3 := hM5.out.cell (j := i5) (v := .int .u64 ((wordN ou i5 : Nat) : Int)) (by simp [wordsOf, hl5])
            have f2 := w1.frozen i5
            have HB1 := hid (andn (wordN R0 i5) (wordN ou i5) (wordN_lt _ _) (wordN_lt _ _))
            have HB2 := hid (u64_and_nat (wordN R0 i5) (wordN ou i5) (wordN_lt _ _) (wordN_lt _ _))
            have HLN := hid (lostN_next i5 R0 ou)
            have HMX := hid (mixN_step m i5 R0 ou)
            have M5 := hid hM5
            have HSO := hid hso
            have HT5 := hid htl5
            have HW2 := hid w2'
            obtain ⟨av, hav⟩ : ∃ av : Int, ((wordN R0 i5 : Nat) : Int) = av := ⟨_, rfl⟩
            obtain ⟨bv, hbv⟩ : ∃ bv : Int, ((wordN ou i5 : Nat) : Int) = bv := ⟨_, rfl⟩
            obtain ⟨dn, hdn⟩ : ∃ dn : Nat, wordN R0 i5 &&& (18446744073709551615 - wordN ou i5) = dn := ⟨_, rfl⟩
            have hb1 := HB1.out
            have hln := HLN.out
            rw [hav, hbv, hdn] at hb1
            rw [hdn] at hln
            rw [hav] at x2
            rw [hbv] at x3
            have HLN := hid hln
            have HMUT := hid (fun (V : World) (h : CMid w V (w.heap.size + 1) t' tc' m fo sl' (cur.1.set tt (some (mixN i5 R0 ou)), cur.2) ou go gc (some ⟨rb, ro, none⟩) L) => show CMid w (V.setCell ⟨g', i5, none⟩ (.int .u64 (bits .and .u64 av bv))) (w.heap.size + 1) t' tc' m fo sl' (cur.1.set tt (some (mixN (i5 + 1) R0 ou)), cur.2) ou go gc (some ⟨rb, ro, none⟩) L from by
             have q := h.mut HT5.out HW2.out HSO.out HMX.out
             dsimp only at q
             rw [List.set_set] at q
             rw [← hav, ← hbv, HB2.out]
             exact q)
            clear hav hbv hdn hM5 hso htl5 w1 w2' hln HB1 HB2
            obtain ⟨L5, hL5⟩ : ∃ L5, lostN i5 R0 ou = L5 := ⟨_, rfl⟩
            rw [hL5]
            have HL5 := hid hL5
            clear hL5
            cases L5
            ·by_cases hd : dn = 0
             ·have hd1 : ((dn : Int) == 0) = true := by simp [hd]
              have HD := hid hd
              go_wp2_with fail
              go_quiet (fail)
              go_wp2_with fail
              go_region
              go_wp2_with fail
              go_roundw
              case rel => exact ⟨i5 + 1, by go_num, hl5, by rw [HLN.out, HL5.out, HD.out]; rfl, HMUT.out _ (M5.out.same ((below_drewN (Below.refl _ _) _).drew))⟩
              case measure => simp [intOf]; omega
             ·have hd1 : ((dn : Int) == 0) = false := by simp [hd]
              have HD := hid hd
              go_wp2_with fail
              go_quiet (fail)
              go_wp2_with fail
              go_region
              go_wp2_with fail
              go_roundw
              case rel => exact ⟨i5 + 1, by go_num, hl5, congrArg Value.bool (by rw [HLN.out, HL5.out, Bool.false_or, Bool.eq_iff_iff]; simp), HMUT.out _ (M5.out.same ((below_drewN (Below.refl _ _) _).drew))⟩
              case measure => simp [intOf]; omega
            ·go_wp2_with fail
             go_quiet (fail)
             go_wp2_with fail
             go_region
             go_wp2_with fail
             go_roundw
             case rel => exact ⟨i5 + 1, by go_num, hl5, by rw [HLN.out, HL5.out]; rfl, HMUT.out _ (M5.out.same ((below_drewN (Below.refl _ _) _).drew))⟩
             case measure => simp [intOf]; omega
           ·obtain rfl : i5 = m := by omega
            clear s1 w1 w2' hso
            rw [mixN_end HRl.out] at hM5
            rw [lostN_end HRl.out]
            have M5 := hid hM5
            have rc5 : wr.cell? ⟨rb, ro + y, none⟩ = some (.int .i64 (tt : Int)) := by
             obtain ⟨_, q | ⟨b', o', q1, q2⟩⟩ := hM5.li
             ·rw [q] at hlt; simp at hlt
             ·cases q1
              rw [q2 y hlt, HTT.out]
            have hrb5 : rb < wr.heap.size := World.block_lt_of_cell? _ _ rc5
            by_cases hle : R0 &&& ou = R0
            ·have HLE := hid hle
             rw [show decide (R0 &&& ou ≠ R0) = false by simp [hle]]
             clear hM5 hle
             go_wp2_with fail
             go_roundw
             case rel => exact ⟨y + 1, t', tc', _, by go_num, hlt, by rw [HNX.out, metS_some HS.out, if_pos HLE.out], by rw [HNX.out, metS_some HS.out, if_pos HLE.out]; exact M5.out⟩
             case measure => simp [intOf]; omega
            ·have HLE := hid hle
             rw [show decide (R0 &&& ou ≠ R0) = true by simp [hle]]
             clear hM5 hle
             go_wp2_with (at_builtin; refine app_push M5.out.run.td rfl _ _ rfl rfl rfl tt _ (by simp) rfl (by show cur.2.length ≤ _; omega) ?_; intro t3 tc3 V3 k1 k2 k3; have M6 := hid (M5.out.push k2 k3 k1 (fun b o q => by cases q; exact hrb5)); clear k1 k2 k3)
             go_roundw
             case rel => exact ⟨y + 1, t3, tc3, _, by go_num, hlt, by rw [HNX.out, metS_some HS.out, if_neg HLE.out]; simp, by rw [HNX.out, metS_some HS.out, if_neg HLE.out]; exact M6.out⟩
             case measure => simp [intOf]; omega
        ·obtain rfl : y = L.length := by omega
         obtain ⟨st2, he2⟩ : ∃ st2, stepS code (al, pre ++ [k]) = st2 := ⟨_, rfl⟩
         have he : curS ou T (al, pre) L.length = st2 := by
          rw [← he2, HST.out]
          unfold curS
          rw [← hTl, List.take_length]
         rw [he] at hM ⊢
         have HREL := hid (show CRel w (w.heap.size + 1) m rs fo code i (meaS rs st2) (.slice (some ⟨t', 0, none⟩) st2.2.length tc') wr from ⟨j + 1, st2, t', tc', sl', by rw [← he2, iterS_succ, ← HT.out], by rw [← he2]; exact HO.out, rfl, by rw [← he2]; exact Nat.le_of_lt (Nat.lt_of_lt_of_le HMM.out (by rw [HM.out]; exact HMB.out)), rfl, hM.run⟩)
         have HLT9 := hid (show meaS rs st2 < _ from by rw [← he2]; exact Nat.lt_of_lt_of_le HMM.out (Nat.le_of_eq HM.out))
         clear hM he he2 HST
         go_wp2_with fail
         go_roundw
         case rel => exact ⟨_, HREL.out⟩
         case measure => exact Nat.lt_of_le_of_lt (leastOf_le HREL.out) (by have h := HLT9.out; simp only [List.length_append, List.length_singleton, HP.out] at h; exact h)
end Go.Proofs.YtokjkligechcoaaGreatDoor
