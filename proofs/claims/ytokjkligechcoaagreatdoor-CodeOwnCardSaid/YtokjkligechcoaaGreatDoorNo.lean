/- The shape of a program whose numbers are written over. -/
import Derived.Test.YtokjkligechcoaaGreatDoorGj
set_option linter.unusedVariables false
namespace Go.Proofs.YtokjkligechcoaaGreatDoor
open Go.RowKit
/-- no slice -/
def NSl (v : Value) : Prop := ∀ a n c, v ≠ .slice a n c
theorem NSl.int (k : IntKind) (n : Int) : NSl (.int k n) := fun _ _ _ e => Value.noConfusion e
theorem NSl.str (s : ByteArray) : NSl (.string s) := fun _ _ _ e => Value.noConfusion e
/-- a list's shape -/
def ShL (K : Nat → TypeId → Prop) (W : World) (a : Option Addr) (n : Nat) : Prop :=
 n = 0 ∨ ∃ b cs, a = some ⟨b, 0, none⟩ ∧ K b 3 ∧ W.heap[b]? = some (.cells cs 3 (0, 0)) ∧ ∀ i, i < n → ∃ u, cs[i]? = some u ∧ NSl u
/-- an instruction's shape -/
def ShI (K : Nat → TypeId → Prop) (W : World) (x : In) (r : Nat → Option Value) : Prop := ∃ u la lc, r 0 = some u ∧ NSl u ∧ r 4 = some (.slice la x.l.length lc) ∧ ShL K W la x.l.length
/-- code's shape -/
def ShC (K : Nat → TypeId → Prop) (W : World) (ca : Option Addr) (cd : List In) : Prop :=
 cd = [] ∨ ∃ b cs, ca = some ⟨b, 0, none⟩ ∧ K b 58 ∧ W.heap[b]? = some (.cells cs 58 (0, 0)) ∧ ∀ i x, cd[i]? = some x → ShI K W x (fun k => cs[i * 6 + k]?)
/-- functions' shape -/
def ShF (K : Nat → TypeId → Prop) (W : World) (fa : Option Addr) (fs : List Fu) : Prop :=
 fs = [] ∨ ∃ b cs, fa = some ⟨b, 0, none⟩ ∧ K b 48 ∧ W.heap[b]? = some (.cells cs 48 (0, 0)) ∧ ∀ i f, fs[i]? = some f → ∃ ca cc, cs[i * 3 + 2]? = some (.slice ca f.code.length cc) ∧ ShC K W ca f.code
/-- strings' shape -/
def ShS (K : Nat → TypeId → Prop) (W : World) (sa : Option Addr) (n : Nat) : Prop :=
 n = 0 ∨ ∃ b cs, sa = some ⟨b, 0, none⟩ ∧ K b 9 ∧ W.heap[b]? = some (.cells cs 9 (0, 0)) ∧ ∀ i, i < n → ∃ u, cs[i]? = some u ∧ NSl u
section
variable {K : Nat → TypeId → Prop} {W V : World}
theorem ShL.of {a : Option Addr} {l : List Int} (h : NumsK K 3 .i64 W a l) : ShL K W a l.length := by
 obtain ⟨-, h | ⟨b, cs, q1, q2, q3, q4⟩⟩ := h
 ·exact .inl (by rw [h]; rfl)
 ·exact .inr ⟨b, cs, q1, q2, q3, fun i hi => ⟨_, q4 i hi, NSl.int _ _⟩⟩
theorem ShI.of {x : In} {r : Nat → Option Value} (h : InV K W x r) : ShI K W x r := by
 obtain ⟨la, lc, va, vc, h0, h1, h2, h3, h4, h5, h6, h7⟩ := h
 exact ⟨_, la, lc, h0, NSl.int _ _, h4, ShL.of h6⟩
theorem ShF.of {fa : Option Addr} {fs : List Fu} (h : fs.length ≤ maxLen ∧ (fs = [] ∨ ∃ b cs, fa = some ⟨b, 0, none⟩ ∧ K b 48 ∧ W.heap[b]? = some (.cells cs 48 (0, 0)) ∧ ∀ i f, fs[i]? = some f → FnV K W f (fun k => cs[i * 3 + k]?))) : ShF K W fa fs := by
 obtain ⟨-, h | ⟨b, cs, q1, q2, q3, q4⟩⟩ := h
 ·exact .inl h
 ·refine .inr ⟨b, cs, q1, q2, q3, fun i f e => ?_⟩
  obtain ⟨ca, cc, h0, h1, h2, -, h4⟩ := q4 i f e
  refine ⟨ca, cc, h2, ?_⟩
  rcases h4 with h4 | ⟨b2, cs2, h5, h6, h7, h8⟩
  ·exact .inl h4
  ·exact .inr ⟨b2, cs2, h5, h6, h7, fun i x e => ShI.of (h8 i x e)⟩
theorem ShS.of {a : Option Addr} {ss : List (List UInt8)} (h : StrsK K W a ss) : ShS K W a ss.length := by
 obtain ⟨-, -, h | ⟨b, cs, q1, q2, q3, q4⟩⟩ := h
 ·exact .inl (by rw [h]; rfl)
 ·exact .inr ⟨b, cs, q1, q2, q3, fun i hi => ⟨_, q4 i _ (List.getElem?_eq_getElem hi), NSl.str _⟩⟩
/-- what a write keeps: every block's type and size; and every slice -/
structure ShK (K : Nat → TypeId → Prop) (W V : World) : Prop where
 k : ∀ b cs T, K b T → W.heap[b]? = some (.cells cs T (0, 0)) → ∃ cs', V.heap[b]? = some (.cells cs' T (0, 0)) ∧ (∀ (i : Nat) u, cs[i]? = some u → NSl u → ∃ u', cs'[i]? = some u' ∧ NSl u') ∧ ∀ (i : Nat) a n c, cs[i]? = some (.slice a n c) → cs'[i]? = some (.slice a n c)
theorem ShK.refl (K : Nat → TypeId → Prop) (W : World) : ShK K W W := ⟨fun b cs T _ h => ⟨cs, h, fun _ u h k => ⟨u, h, k⟩, fun _ _ _ _ h => h⟩⟩
theorem ShK.trans {U : World} (h : ShK K W V) (g : ShK K V U) : ShK K W U := ⟨fun b cs T hk hb => by
 obtain ⟨c1, h1, h2, h3⟩ := h.k b cs T hk hb
 obtain ⟨c2, g1, g2, g3⟩ := g.k b c1 T hk h1
 exact ⟨c2, g1, fun i u e n => by obtain ⟨u1, e1, n1⟩ := h2 i u e n; exact g2 i u1 e1 n1, fun i a n c e => g3 i a n c (h3 i a n c e)⟩⟩
theorem ShK.below (hb : Below W.heap.size W V) : ShK K W V := ⟨fun b cs T _ h => ⟨cs, by rw [hb.block _ (heap_lt h)]; exact h, fun _ u h k => ⟨u, h, k⟩, fun _ _ _ _ h => h⟩⟩
/-- a cell that holds no slice is written -/
theorem ShK.set {b i : Nat} {cs : Array Value} {T : TypeId} (h : W.heap[b]? = some (.cells cs T (0, 0))) {v : Value} (hi : cs[i]? = some v) (hv : NSl v) (u : Value) (hu : NSl u) : ShK K W (W.setCell ⟨b, i, none⟩ u) := by
 refine ⟨fun b2 cs2 T2 _ h2 => ?_⟩
 by_cases e : b2 = b
 ·subst e
  rw [h] at h2
  cases h2
  refine ⟨_, heap_setCell_same (i := i) _ _ _ _ u h, fun j w ej nw => ?_, fun j a n c ej => ?_⟩
  ·by_cases hj : i = j
   ·subst hj
    exact ⟨u, by rw [Array.getElem?_setIfInBounds_self_of_lt (Array.getElem?_eq_some_iff.1 hi).1], hu⟩
   ·exact ⟨w, by rw [Array.getElem?_setIfInBounds_ne hj]; exact ej, nw⟩
  ·have hj : i ≠ j := fun e => by subst e; rw [hi] at ej; cases ej; exact hv _ _ _ rfl
   rw [Array.getElem?_setIfInBounds_ne hj]; exact ej
 ·exact ⟨cs2, by rw [Below.heap_setCell _ _ _ _ e]; exact h2, fun _ u h k => ⟨u, h, k⟩, fun _ _ _ _ h => h⟩
theorem ShL.kp {a : Option Addr} {n : Nat} (h : ShL K W a n) (q : ShK K W V) : ShL K V a n := by
 rcases h with h | ⟨b, cs, h1, h2, h3, h4⟩
 ·exact .inl h
 ·obtain ⟨c2, g1, g2, -⟩ := q.k b cs _ h2 h3
  exact .inr ⟨b, c2, h1, h2, g1, fun i hi => by obtain ⟨u, e, n⟩ := h4 i hi; exact g2 i u e n⟩
theorem ShS.kp {a : Option Addr} {n : Nat} (h : ShS K W a n) (q : ShK K W V) : ShS K V a n := by
 rcases h with h | ⟨b, cs, h1, h2, h3, h4⟩
 ·exact .inl h
 ·obtain ⟨c2, g1, g2, -⟩ := q.k b cs _ h2 h3
  exact .inr ⟨b, c2, h1, h2, g1, fun i hi => by obtain ⟨u, e, n⟩ := h4 i hi; exact g2 i u e n⟩
theorem ShC.kp {a : Option Addr} {cd : List In} (h : ShC K W a cd) (q : ShK K W V) : ShC K V a cd := by
 rcases h with h | ⟨b, cs, h1, h2, h3, h4⟩
 ·exact .inl h
 ·obtain ⟨c2, g1, g2, g3⟩ := q.k b cs _ h2 h3
  refine .inr ⟨b, c2, h1, h2, g1, fun i x e => ?_⟩
  obtain ⟨u, la, lc, k0, kn, k4, k5⟩ := h4 i x e
  obtain ⟨u', hu, nu⟩ := g2 _ _ k0 kn
  exact ⟨u', la, lc, hu, nu, g3 _ _ _ _ k4, k5.kp q⟩
theorem ShF.kp {a : Option Addr} {fs : List Fu} (h : ShF K W a fs) (q : ShK K W V) : ShF K V a fs := by
 rcases h with h | ⟨b, cs, h1, h2, h3, h4⟩
 ·exact .inl h
 ·obtain ⟨c2, g1, g2, g3⟩ := q.k b cs _ h2 h3
  refine .inr ⟨b, c2, h1, h2, g1, fun i f e => ?_⟩
  obtain ⟨ca, cc, k0, k1⟩ := h4 i f e
  exact ⟨ca, cc, g3 _ _ _ _ k0, k1.kp q⟩
/-- a function's code, a list's cell -/
theorem ShF.at {fa : Option Addr} {fs : List Fu} {i : Nat} {f : Fu} (h : ShF K W fa fs) (e : fs[i]? = some f) : ∃ b ca cc, fa = some ⟨b, 0, none⟩ ∧ W.cell? ⟨b, i * 3 + 2, none⟩ = some (.slice ca f.code.length cc) ∧ ShC K W ca f.code := by
 rcases h with h | ⟨b, cs, h1, h2, h3, h4⟩
 ·rw [h] at e; simp at e
 ·obtain ⟨ca, cc, k0, k1⟩ := h4 i f e
  exact ⟨b, ca, cc, h1, by rw [cell_of_row _ _ _ _ _ _ h3]; exact k0, k1⟩
theorem ShC.at {ca : Option Addr} {cd : List In} {i : Nat} {x : In} (h : ShC K W ca cd) (e : cd[i]? = some x) : ∃ b la lc, ca = some ⟨b, 0, none⟩ ∧ K b 58 ∧ (∃ u, W.cell? ⟨b, i * 6, none⟩ = some u) ∧ W.frozen? ⟨b, i * 6, none⟩ = false ∧ W.cell? ⟨b, i * 6 + 4, none⟩ = some (.slice la x.l.length lc) ∧ ShL K W la x.l.length ∧ (∃ cs, W.heap[b]? = some (.cells cs 58 (0, 0))) ∧ ∀ u, NSl u → ShK K W (W.setCell ⟨b, i * 6, none⟩ u) := by
 rcases h with h | ⟨b, cs, h1, h2, h3, h4⟩
 ·rw [h] at e; simp at e
 ·obtain ⟨u, la, lc, k0, kn, k4, k5⟩ := h4 i x e
  exact ⟨b, la, lc, h1, h2, ⟨u, by rw [cell_of_row _ _ _ _ _ _ h3]; exact k0⟩, frozen_of_row _ _ _ _ _ h3, by rw [cell_of_row _ _ _ _ _ _ h3]; exact k4, k5, ⟨cs, h3⟩, fun v hv => ShK.set h3 k0 kn v hv⟩
theorem ShL.at {a : Option Addr} {n i : Nat} (h : ShL K W a n) (hi : i < n) : ∃ b, a = some ⟨b, 0, none⟩ ∧ K b 3 ∧ (∃ u, W.cell? ⟨b, i, none⟩ = some u) ∧ W.frozen? ⟨b, i, none⟩ = false ∧ (∃ cs, W.heap[b]? = some (.cells cs 3 (0, 0))) ∧ ∀ u, NSl u → ShK K W (W.setCell ⟨b, i, none⟩ u) := by
 rcases h with h | ⟨b, cs, h1, h2, h3, h4⟩
 ·omega
 ·obtain ⟨u, e, n⟩ := h4 i hi
  exact ⟨b, h1, h2, ⟨u, by rw [cell_of_row _ _ _ _ _ _ h3]; exact e⟩, frozen_of_row _ _ _ _ _ h3, ⟨cs, h3⟩, fun v hv => ShK.set h3 e n v hv⟩
theorem ShS.at {a : Option Addr} {n i : Nat} (h : ShS K W a n) (hi : i < n) : ∃ b, a = some ⟨b, 0, none⟩ ∧ K b 9 ∧ (∃ u, W.cell? ⟨b, i, none⟩ = some u) ∧ W.frozen? ⟨b, i, none⟩ = false ∧ (∃ cs, W.heap[b]? = some (.cells cs 9 (0, 0))) ∧ ∀ u, NSl u → ShK K W (W.setCell ⟨b, i, none⟩ u) := by
 rcases h with h | ⟨b, cs, h1, h2, h3, h4⟩
 ·omega
 ·obtain ⟨u, e, n⟩ := h4 i hi
  exact ⟨b, h1, h2, ⟨u, by rw [cell_of_row _ _ _ _ _ _ h3]; exact e⟩, frozen_of_row _ _ _ _ _ h3, ⟨cs, h3⟩, fun v hv => ShK.set h3 e n v hv⟩
end
end Go.Proofs.YtokjkligechcoaaGreatDoor
