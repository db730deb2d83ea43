/- Walks of layer 16's reference: does code run on behind its end? -/
import Derived.Test.YtgbgahdeopedpaaCq
namespace Go.Proofs.Ytgbgahdeopedpaa
open Go.RowKit
set_option linter.unusedVariables false
attribute [local go_sem] ext_mk size_mk toList_mk get_mk take_drop_len take_tail_len ByteArray.mk_append_mk List.append_toArray

/-- an instruction lies from this cell on -/
def XAt (w : World) (b o : Nat) (x : In) : Prop := ∃ la lc va vc,
  w.cell? ⟨b, o, none⟩ = some (.int .i64 x.op) ∧ w.cell? ⟨b, o + 1, none⟩ = some (.int .i64 x.a) ∧ w.cell? ⟨b, o + 2, none⟩ = some (.int .i64 x.b) ∧ w.cell? ⟨b, o + 3, none⟩ = some (.int .i64 x.c) ∧
  w.cell? ⟨b, o + 4, none⟩ = some (.slice la x.l.length lc) ∧ w.cell? ⟨b, o + 5, none⟩ = some (.slice va x.lv.length vc) ∧ IntsAt .i64 w la x.l ∧ IntsAt .i64 w va x.lv

theorem XAt.below {w w' : World} {b o : Nat} {x : In} (h : XAt w b o x) (hb : Below w.heap.size w w') : XAt w' b o x := by
  obtain ⟨la, lc, va, vc, h0, h1, h2, h3, h4, h5, h6, h7⟩ := h
  have hl : b < w.heap.size := World.block_lt_of_cell? w _ h0
  have e : ∀ k, w'.cell? ⟨b, k, none⟩ = w.cell? ⟨b, k, none⟩ := fun k => hb.cell (p := ⟨b, k, none⟩) hl
  exact ⟨la, lc, va, vc, by rw [e]; exact h0, by rw [e]; exact h1, by rw [e]; exact h2, by rw [e]; exact h3, by rw [e]; exact h4, by rw [e]; exact h5, h6.below hb, h7.below hb⟩

/-- a function's code lies -/
def CodeAt (w : World) (ca : Option Addr) (code : List In) : Prop :=
  code.length ≤ 1000000000 ∧ (code = [] ∨ ∃ b o, ca = some ⟨b, o, none⟩ ∧ ∀ i x, code[i]? = some x → XAt w b (o + i * 6) x)

theorem CodeAt.below {w w' : World} {ca : Option Addr} {code : List In} (h : CodeAt w ca code) (hb : Below w.heap.size w w') : CodeAt w' ca code := by
  obtain ⟨hm, h | ⟨b, o, ha, hc⟩⟩ := h
  · exact ⟨hm, .inl h⟩
  · exact ⟨hm, .inr ⟨b, o, ha, fun i x hx => (hc i x hx).below hb⟩⟩

def flowsB (code : List In) : Bool := match code.getLast? with
  | none => true
  | some x => (nextL ((code.length : Int) - 1) x.op x.c x.l).any (fun t => t == (code.length : Int))

set_option maxHeartbeats 2000000 in
set_option maxRecDepth 8000 in
theorem rflows_any (ps rs : Int) (ca : Option Addr) (cc : Nat) (code : List In) (w : World) (hC : CodeAt w ca code) (hll : ∀ x ∈ code, x.l.length ≤ 1000000000) :
    Calls Try.prog 53 #[.agg #[.int .i64 ps, .int .i64 rs, .slice ca code.length cc]] w fun e w' => e = .returned (.bool (flowsB code)) ∧ Below w.heap.size w w' := by
  have hA : Below w.heap.size w (w.alloc (.cells #[.int .i64 ps, .int .i64 rs, .slice ca code.length cc] 61)) := (Below.refl _ _).alloc (Nat.le_refl _) _
  rcases List.eq_nil_or_concat code with rfl | ⟨pre, x, he⟩
  · go_enter Try.func53, Try.ntmps53
    go_wp2
    go_ret
    exact ⟨rfl, hA⟩
  rw [List.concat_eq_append] at he
  subst he
  have hx : (pre ++ [x])[pre.length]? = some x := by simp
  have hn : (pre ++ [x]).length = pre.length + 1 := by simp
  have CN := Lib.hid (fun k op a b c l la va lc vn vc W h1 h2 h3 h4 => rnext_any k op a b c l la va lc vn vc W h1 h2 h3 h4)
  have HU := Lib.hid (show flowsB (pre ++ [x]) = (nextL (pre.length : Int) x.op x.c x.l).any (fun t => t == ((pre.length + 1 : Nat) : Int)) by simp [flowsB])
  obtain ⟨hm, hC | ⟨b, o, rfl, hC⟩⟩ := hC
  · simp at hC
  obtain ⟨la, lc, va, vc, h0, h1, h2, h3, h4, h5, h6, h7⟩ := (hC _ _ hx).below hA
  have hxl := hll x (by simp)
  rw [hn] at hm hA
  rw [hn] at h0 h1 h2 h3 h4 h5 h6 h7 ⊢
  obtain ⟨op, a, bb, c, l, lv⟩ := x
  dsimp only at h0 h1 h2 h3 h4 h5 h6 h7 HU hxl
  obtain ⟨i, hi⟩ : ∃ i, pre.length = i := ⟨_, rfl⟩
  rw [hi] at h0 h1 h2 h3 h4 h5 h6 h7 hm hA HU ⊢
  have m1 : IntKind.i64.wrap (((i + 1 : Nat) : Int) - 1) = (i : Int) := by rw [IntWalk.i64_in _ (by omega)]; omega
  have m2 : ((i : Int) + 1 == 0) = false := by simp; omega
  have HA := Lib.hid hA
  clear hA hC hll hx hn hi
  go_enter Try.func53, Try.ntmps53
  go_wp2_with (first
    | (go_at_call 77; refine (CN.out _ _ _ _ _ l _ _ _ _ _ _ h6 (by omega) (by omega) hxl).mono ?_; rintro e w1 ⟨r, rcap, rfl, hI, hb, -⟩; have HI := Lib.hid hI; have HB := Lib.hid (HA.out.trans (hb.mono HA.out.size)); clear hI hb h0 h1 h2 h3 h4 h5 h6 h7))
  obtain ⟨L, hL⟩ : ∃ L, nextL (i : Int) op c l = L := ⟨_, rfl⟩
  have hU := HU.out
  have hI := HI.out
  rw [hL] at hU hI
  rw [hL]
  have hm2 : (L.length : Int) ≤ 9223372036854775807 := by have := hI.1; unfold maxLen at this; omega
  have HU := Lib.hid hU
  have HI := Lib.hid hI
  clear hU hI hL CN
  go_loopw [5] (fun vi wr => ∃ k : Nat, vi = .int .i64 k ∧ k ≤ L.length ∧ (L.take k).any (fun t => t == ((i + 1 : Nat) : Int)) = false ∧ wr = w1) (fun vi _ => L.length - (intOf vi).toNat)
  case atStart => exact ⟨0, rfl, Nat.zero_le _, by simp, rfl⟩
  case round =>
    obtain ⟨k, rfl, hk, hall, rfl⟩ := hrel
    by_cases hlt : k < L.length
    · obtain ⟨b2, o2, rfl, c0⟩ := ints_cell HI.out hlt
      obtain ⟨v, hv⟩ : ∃ v, L.getD k 0 = v := ⟨_, rfl⟩
      rw [hv] at c0
      have HL := Lib.hid hall
      have HV := Lib.hid hv
      clear hall hv
      cases hc : (v == (i : Int) + 1)
      · go_wp2_with fail
        go_roundw
        case rel => exact ⟨k + 1, by go_num, hlt, by rw [List.take_succ_eq_append_getElem hlt, List.any_append, HL.out]; have := HV.out; simp [List.getD, hlt] at this; simp [this]; simpa using hc, by trivial⟩
        case measure => simp [intOf]; omega
      · go_wp2_with fail
        go_ret
        exact ⟨ret_bool (by rw [HU.out]; symm; rw [List.any_eq_true]; refine ⟨L[k], List.getElem_mem hlt, ?_⟩; have := HV.out; simp [List.getD, hlt] at this; simp [this]; simpa using hc), HB.out⟩
    · obtain rfl : k = L.length := by omega
      rw [List.take_length] at hall
      have HL := Lib.hid hall
      clear hall
      go_wp2_with fail
      go_ret
      exact ⟨ret_bool (by rw [HU.out, HL.out]), HB.out⟩
end Go.Proofs.Ytgbgahdeopedpaa
