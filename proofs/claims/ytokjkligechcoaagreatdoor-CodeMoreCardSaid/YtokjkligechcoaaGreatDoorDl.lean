/- Walks of layer 16's reference: the lowest instruction that reads a register that may not be set. -/
import Derived.Test.YtokjkligechcoaaGreatDoorDa
set_option linter.unusedVariables false
namespace Go.Proofs.YtokjkligechcoaaGreatDoor
open Go.RowKit
attribute [local go_sem] ext_mk size_mk toList_mk get_mk take_drop_len take_tail_len ByteArray.mk_append_mk List.append_toArray
theorem code_cells {w : World} {ca : Option Addr} {code : List In} (h : CodeAt w ca code) {k : Nat} {x : In} (hx : code[k]? = some x) : ∃ b o, ca = some ⟨b, o, none⟩ ∧ XAt w b (o + k * 6) x := by
 obtain ⟨_, h | ⟨b, o, ha, hc⟩⟩ := h
 ·rw [h] at hx; cases hx
 ·exact ⟨b, o, ha, hc k x hx⟩
/-- in the midst of an instruction's targets -/
structure RMid (w wr : World) (A t tc rs : Nat) (fo : Obj) (slots : List Value) (cur : StS) (out gs cs : Nat) (r : Option Addr) (L : List Int) : Prop where
 run : RUn w wr A t tc rs fo slots cur
 out : OwnAt wr gs cs 4 (setB rs out)
 ga : A < gs
 gt : gs ≠ t
 li : IntsAt .i64 wr r L
 lo : ∀ b o, r = some ⟨b, o, none⟩ → A < b ∧ b ≠ t
section
variable {w V V' : World} {A t tc rs : Nat} {fo : Obj} {slots : List Value} {cur : StS} {out gs cs : Nat} {r : Option Addr} {L : List Int}
theorem RMid.same (h : RMid w V A t tc rs fo slots cur out gs cs r L) (hb : Below V.heap.size V V') : RMid w V' A t tc rs fo slots cur out gs cs r L :=
 ⟨h.run.same hb, h.out.below hb h.out.lt, h.ga, h.gt, h.li.below hb, h.lo⟩
theorem ints_other {W W' : World} {p : Nat} {a : Option Addr} {l : List Int} {k : IntKind} (h : IntsAt k W a l) (hg : W.grownBy W' (some p)) (ho : ∀ b o, a = some ⟨b, o, none⟩ → b ≠ p) : IntsAt k W' a l := by
 obtain ⟨hm, hI | ⟨b, o, ha, hc⟩⟩ := h
 ·exact ⟨hm, .inl hI⟩
 ·refine ⟨hm, .inr ⟨b, o, ha, fun i hi => ?_⟩⟩
  have h1 := hc i hi
  exact (World.cell?_of_block (a := ⟨b, o + i, none⟩) (hg.block b (World.block_lt_of_cell? _ _ h1) (by intro q; injection q with q; exact ho b o ha q))).trans h1
theorem RMid.put (h : RMid w V A t tc rs fo slots cur out gs cs r L) {k g c S : Nat} (hk : k < cur.1.length) (hg : A < g) (ht : g ≠ t) (hs : OwnAt V g c 4 (setB rs S)) : RMid w (V.setCell ⟨A, k, none⟩ (.slice (some ⟨g, 0, none⟩) rs c)) A t tc rs fo (slots.set k (.slice (some ⟨g, 0, none⟩) rs c)) (cur.1.set k (some S), cur.2) out gs cs r L :=
 ⟨h.run.put hk hg ht hs, h.out.other _ (by have := h.ga; show gs ≠ A; omega) _, h.ga, h.gt, ints_other h.li (grown_set _ _ _ _) (fun b o q => by have := (h.lo b o q).1; omega), h.lo⟩
theorem RMid.push (h : RMid w V A t tc rs fo slots cur out gs cs r L) (hg : V.grownBy V' (some t)) {t' tc' : Nat} {L' : List Nat} (ht : t' = t ∨ V.heap.size ≤ t') (hd : OwnAt V' t' tc' 3 (nats L')) (hr : ∀ b o, r = some ⟨b, o, none⟩ → b < V.heap.size) : RMid w V' A t' tc' rs fo slots (cur.1, L') out gs cs r L :=
 ⟨h.run.push hg ht hd, h.out.grown hg h.gt, h.ga, by have := h.gt; have := h.out.lt; rcases ht with rfl | ht <;> omega, ints_other h.li hg (fun b o q => (h.lo b o q).2), fun b o q => ⟨(h.lo b o q).1, by have := (h.lo b o q).2; have := hr b o q; rcases ht with rfl | ht <;> omega⟩⟩
end
def curS (out : Nat) (T : List Nat) (st : StS) (i : Nat) : StS := (T.take i).foldl (metS out) st
theorem curS_next {out : Nat} {T : List Nat} {st : StS} {i : Nat} (h : i < T.length) : curS out T st (i + 1) = metS out (curS out T st i) T[i] := by
 unfold curS
 rw [List.take_succ_eq_append_getElem h, List.foldl_append]
 rfl
theorem curS_ok {n rs out : Nat} {T : List Nat} {st : StS} (ho : out < 2 ^ rs) (hO : OkS n rs st) (hT : ∀ t ∈ T, t < n) (i : Nat) : OkS n rs (curS out T st i) ∧ meaS rs (curS out T st i) ≤ meaS rs st :=
 mets_ok ho _ _ hO (fun t ht => hT t (List.mem_of_mem_take ht))
theorem metS_none {out t : Nat} {st : StS} (h : setOf st.1 t = none) : metS out st t = (st.1.set t (some out), st.2 ++ [t]) := by unfold metS; rw [h]
theorem metS_some {out t S : Nat} {st : StS} (h : setOf st.1 t = some S) : metS out st t = (st.1.set t (some (S &&& out)), if S &&& out = S then st.2 else st.2 ++ [t]) := by unfold metS; rw [h]
end Go.Proofs.YtokjkligechcoaaGreatDoor
