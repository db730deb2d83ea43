/- Walks of layer 16's reference: a program in new memory: its strings and reals. -/
import Derived.Test.YtokjkligechcoaaGreatDoorHa
import Derived.Test.YtokjkligechcoaaGreatDoorGr
set_option linter.unusedVariables false
namespace Go.Proofs.YtokjkligechcoaaGreatDoor
open Go.RowKit
attribute [local go_sem] ext_mk size_mk toList_mk get_mk take_drop_len take_tail_len ByteArray.mk_append_mk List.append_toArray
theorem RowK.alloc {W : World} {B : Nat} {T : TypeId} {a : Option Addr} {xs : List Value} (h : RowK W B T a xs) (o : Obj) : RowK (W.alloc o) B T a xs := h.below ((Below.refl _ _).alloc (Nat.le_refl _) _)
theorem RowK.put4q {W : World} {B m : Nat} {T T0 : TypeId} {a : Option Addr} {xs : List Value} {cs0 : Array Value} (h : RowK W B T a xs) (k : KAt W m (.cells cs0 T0 (0, 0))) (hT : T0 ≠ T) (v0 v1 v2 v3 : Value) : RowK ((((W.setCell ⟨m, 0, none⟩ v0).setCell ⟨m, 1, none⟩ v1).setCell ⟨m, 2, none⟩ v2).setCell ⟨m, 3, none⟩ v3) B T a xs := by
 rcases h with h | ⟨g, cs, h1, h2, h3, h4⟩
 ·exact .inl h
 ·have hn : g ≠ m := by
   rintro rfl
   have e := k.x
   rw [h3] at e
   simp only [Option.some.injEq, Obj.cells.injEq] at e
   exact hT e.2.1.symm
  exact .inr ⟨g, cs, h1, h2, by rw [Below.heap_setCell _ _ _ _ hn, Below.heap_setCell _ _ _ _ hn, Below.heap_setCell _ _ _ _ hn, Below.heap_setCell _ _ _ _ hn]; exact h3, h4⟩
theorem kat_new1 (W : World) (o z : Obj) : KAt ((W.alloc o).alloc z) (W.heap.size + 1) z := by
 have h := KAt.new (W.alloc o) z
 rw [show (W.alloc o).heap.size = W.heap.size + 1 from by simp] at h; exact h
theorem kat_new2 (W : World) (o o2 z : Obj) : KAt (((W.alloc o).alloc o2).alloc z) (W.heap.size + 1 + 1) z := by
 have h := KAt.new ((W.alloc o).alloc o2) z
 rw [show ((W.alloc o).alloc o2).heap.size = W.heap.size + 1 + 1 from by simp] at h; exact h
theorem KAt.set4 {W : World} {m : Nat} {T : TypeId} {a b c d : Value} (h : KAt W m (.cells #[a, b, c, d] T (0, 0))) (v0 v1 v2 v3 : Value) : KAt ((((W.setCell ⟨m, 0, none⟩ v0).setCell ⟨m, 1, none⟩ v1).setCell ⟨m, 2, none⟩ v2).setCell ⟨m, 3, none⟩ v3) m (.cells #[v0, v1, v2, v3] T (0, 0)) :=
 ⟨heap_setCell_same (i := 3) _ _ _ _ _ (heap_setCell_same (i := 2) _ _ _ _ _ (heap_setCell_same (i := 1) _ _ _ _ _ (heap_setCell_same (i := 0) _ _ _ _ _ h.x)))⟩
theorem frz4 {W : World} {m : Nat} {T : TypeId} {cs : Array Value} (h : KAt W m (.cells cs T (0, 0))) : W.frozen? ⟨m, 0, none⟩ = false ∧ W.frozen? ⟨m, 1, none⟩ = false ∧ W.frozen? ⟨m, 2, none⟩ = false ∧ W.frozen? ⟨m, 3, none⟩ = false :=
 ⟨frozen_of_row _ _ _ _ _ h.x, frozen_of_row _ _ _ _ _ h.x, frozen_of_row _ _ _ _ _ h.x, frozen_of_row _ _ _ _ _ h.x⟩
theorem one_str (ss : List (List UInt8)) : ∀ u ∈ strC ss, u.oneCell' = true := by
 intro u hu; obtain ⟨s, _, rfl⟩ := List.mem_map.1 hu; rfl
theorem one_int {k : IntKind} (l : List Int) : ∀ u ∈ l.map (Value.int k), u.oneCell' = true := by
 intro u hu; obtain ⟨s, _, rfl⟩ := List.mem_map.1 hu; rfl
theorem KAt.set6_4 {W : World} {m : Nat} {a b c d e f : Value} (h : KAt W m (.cells #[a, b, c, d, e, f] 58 (0, 0))) (u : Value) : KAt (W.setCell ⟨m, 4, none⟩ u) m (.cells #[a, b, c, d, u, f] 58 (0, 0)) := ⟨heap_setCell_same (i := 4) _ _ _ _ _ h.x⟩
theorem KAt.set6_5 {W : World} {m : Nat} {a b c d e f : Value} (h : KAt W m (.cells #[a, b, c, d, e, f] 58 (0, 0))) (u : Value) : KAt (W.setCell ⟨m, 5, none⟩ u) m (.cells #[a, b, c, d, e, u] 58 (0, 0)) := ⟨heap_setCell_same (i := 5) _ _ _ _ _ h.x⟩
theorem cell_bw {W V : World} {p : Addr} {v : Value} (h : W.cell? p = some v) (hb : Below W.heap.size W V) : V.cell? p = some v := (hb.cell (World.block_lt_of_cell? W p h)).trans h
/-- the functions' codes lie in rising blocks -/
def Srt (fs : List Fu) (xs : List Value) : Prop := ∀ (i j : Nat) (f g : Fu) (a c : Addr) (n m k l : Nat), i < j → fs[i]? = some f → fs[j]? = some g → f.code ≠ [] → g.code ≠ [] → xs[i * 3 + 2]? = some (.slice (some a) n k) → xs[j * 3 + 2]? = some (.slice (some c) m l) → a.block < c.block
theorem Srt.nil : Srt [] [] := fun i j f g a c n m k l _ h _ _ _ _ _ => by simp at h
theorem Srt.snoc {K : Nat → TypeId → Prop} {W : World} {fs : List Fu} {xs : List Value} {f : Fu} {ca : Option Addr} {n cc fb : Nat} {u v : Value} (h : Srt fs xs) (hv : FnsV K W fs xs) (hK : ∀ b, K b 58 → b < fb) (hc : ∀ a, ca = some a → f.code ≠ [] → fb < a.block) : Srt (fs ++ [f]) (xs ++ [u, v, .slice ca n cc]) := by
 intro i j f1 g1 a c n1 m1 k1 l1 hij e1 e2 n2 n3 x1 x2
 have hl := hv.1
 have hj : j < fs.length + 1 := by
  have := (List.getElem?_eq_some_iff.1 e2).1
  simpa using this
 have hi : i < fs.length := by omega
 rw [List.getElem?_append_left hi] at e1
 rw [List.getElem?_append_left (by omega)] at x1
 rcases Nat.lt_or_ge j fs.length with q | q
 ·rw [List.getElem?_append_left q] at e2
  rw [List.getElem?_append_left (by omega)] at x2
  exact h i j f1 g1 a c n1 m1 k1 l1 hij e1 e2 n2 n3 x1 x2
 ·obtain rfl : j = fs.length := by omega
  rw [List.getElem?_append_right (Nat.le_refl _), Nat.sub_self] at e2
  cases e2
  rw [List.getElem?_append_right (by omega), show fs.length * 3 + 2 - xs.length = 2 by omega] at x2
  simp at x2
  have h2 := hc c x2.1 n3
  obtain ⟨ca', cc', -, -, r2, -, r4 | ⟨b, cs, r4, r5, -, -⟩⟩ := hv.2 i f1 e1
  ·exact absurd r4 n2
  ·dsimp only at r2
   rw [r2, r4] at x1
   simp at x1
   have := hK b r5
   rw [← x1.1]
   show b < c.block
   omega
/-- the lists of live registers of a function are nil -/
def FnN (W : World) (f : Fu) (r : Nat → Option Value) : Prop := f.code = [] ∨ ∃ b cc cs, r 2 = some (.slice (some ⟨b, 0, none⟩) f.code.length cc) ∧ W.heap[b]? = some (.cells cs 58 (0, 0)) ∧ ∀ k, k < f.code.length → cs[k * 6 + 5]? = some (Value.slice none 0 0)
theorem FnN.kp {K : Nat → TypeId → Prop} {W V : World} {f : Fu} {r : Nat → Option Value} (h : FnN W f r) (hv : FnV K W f r) (q : Kp K W V) : FnN V f r := by
 rcases h with h | ⟨b, cc, cs, h1, h2, h3⟩
 ·exact .inl h
 ·obtain ⟨ca, c2, -, -, r2, -, r4 | ⟨b2, cs2, r4, r5, r6, -⟩⟩ := hv
  ·exact .inl r4
  ·rw [r2, r4] at h1
   simp only [Option.some.injEq, Value.slice.injEq, Addr.mk.injEq] at h1
   have e := h1.1.1
   subst e
   exact .inr ⟨b2, cc, cs, by rw [r2, r4, h1.2.2], q.k _ _ _ r5 h2, h3⟩
def FnsN (W : World) (fs : List Fu) (xs : List Value) : Prop := ∀ i f, fs[i]? = some f → FnN W f (fun k => xs[i * 3 + k]?)
theorem FnsN.nil (W : World) : FnsN W [] [] := fun i f h => by simp at h
theorem FnsN.kp {K : Nat → TypeId → Prop} {W V : World} {fs : List Fu} {xs : List Value} (h : FnsN W fs xs) (hv : FnsV K W fs xs) (q : Kp K W V) : FnsN V fs xs := fun i f e => (h i f e).kp (hv.2 i f e) q
theorem FnN.same {W : World} {f : Fu} {r r' : Nat → Option Value} (h : FnN W f r) (e : r' 2 = r 2) : FnN W f r' := by
 rcases h with h | ⟨b, cc, cs, h1, h2, h3⟩
 ·exact .inl h
 ·exact .inr ⟨b, cc, cs, e.trans h1, h2, h3⟩
theorem FnsN.snoc {K : Nat → TypeId → Prop} {W : World} {fs : List Fu} {xs ys : List Value} {f : Fu} (h : FnsN W fs xs) (hv : FnsV K W fs xs) (hx : FnN W f (fun k => ys[k]?)) : FnsN W (fs ++ [f]) (xs ++ ys) := by
 intro i y e
 have h1 := hv.1
 rcases Nat.lt_or_ge i fs.length with hi | hi
 ·rw [List.getElem?_append_left hi] at e
  exact (h i y e).same (List.getElem?_append_left (by omega))
 ·have hi2 : i = fs.length := by
   have := (List.getElem?_eq_some_iff.1 e).1
   simp at this; omega
  subst hi2
  rw [List.getElem?_append_right (Nat.le_refl _), Nat.sub_self] at e
  cases e
  exact hx.same (by show (xs ++ ys)[fs.length * 3 + 2]? = ys[2]?; rw [List.getElem?_append_right (by omega)]; congr 1; omega)
def N5 (n : Nat) (ys : List Value) : Prop := ys.length = n * 6 ∧ ∀ k, k < n → ys[k * 6 + 5]? = some (Value.slice none 0 0)
theorem N5.snoc {n : Nat} {ys : List Value} {a b c d e : Value} (h : N5 n ys) : N5 (n + 1) (ys ++ [a, b, c, d, e, .slice none 0 0]) := by
 have h1 := h.1
 refine ⟨by simp [h1]; omega, fun k hk => ?_⟩
 by_cases q : k < n
 ·rw [List.getElem?_append_left (by omega)]; exact h.2 k q
 ·obtain rfl : k = n := by omega
  rw [List.getElem?_append_right (by omega), show k * 6 + 5 - ys.length = 5 by omega]; rfl
theorem N5.fn {W : World} {B : Nat} {f : Fu} {u v w0 : Value} {n : Nat} {ys : List Value} (h : N5 f.code.length ys) (ho : W.ownsRow B 58 6 w0 n ys) (hn : n = f.code.length) : FnN W f (fun k => [u, v, w0][k]?) := by
 subst hn
 rcases Nat.eq_zero_or_pos f.code.length with q | q
 ·exact .inl (List.length_eq_zero_iff.1 q)
 ·obtain ⟨g, cap, cur, rfl, q1, q2, q3, q4, q5⟩ := own_parts ho q
  exact .inr ⟨g, cap, cur, rfl, q2, fun k hk => by rw [q5 _ (by omega)]; exact h.2 k hk⟩
/-- a program at rest in blocks of a kind, its codes in rising ones -/
structure PgD (bare : Bool) (K : Nat → TypeId → Prop) (W : World) (fa sa ra : Option Addr) (P : Pg) : Prop where
 f : P.fs.length ≤ maxLen ∧ (P.fs = [] ∨ ∃ b cs, fa = some ⟨b, 0, none⟩ ∧ K b 48 ∧ W.heap[b]? = some (.cells cs 48 (0, 0)) ∧ (∀ i f, P.fs[i]? = some f → FnV K W f (fun k => cs[i * 3 + k]?)) ∧ Srt P.fs cs.toList ∧ (bare = true → ∀ i f, P.fs[i]? = some f → FnN W f (fun k => cs[i * 3 + k]?)))
 s : StrsK K W sa P.ss
 u : NumsK K 45 .u64 W ra P.us
 z : ∀ u ∈ P.us, 0 ≤ u ∧ u < 18446744073709551616
theorem PgD.pg {bare : Bool} {K : Nat → TypeId → Prop} {W : World} {fa sa ra : Option Addr} {P : Pg} (h : PgD bare K W fa sa ra P) : PgK K W fa sa ra P := by
 refine ⟨⟨h.f.1, ?_⟩, h.s, h.u, h.z⟩
 rcases h.f.2 with h1 | ⟨b, cs, h1, h2, h3, h4, h5⟩
 ·exact .inl h1
 ·exact .inr ⟨b, cs, h1, h2, h3, h4⟩
theorem PgD.kp {bare : Bool} {K : Nat → TypeId → Prop} {W V : World} {fa sa ra : Option Addr} {P : Pg} (h : PgD bare K W fa sa ra P) (q : Kp K W V) : PgD bare K V fa sa ra P := by
 refine ⟨⟨h.f.1, ?_⟩, h.s.kp q, h.u.kp q, h.z⟩
 rcases h.f.2 with h1 | ⟨b, cs, h1, h2, h3, h4, h5⟩
 ·exact .inl h1
 ·exact .inr ⟨b, cs, h1, h2, q.k b cs _ h2 h3, fun i f e => (h4 i f e).kp q, h5.1, fun hb i f e => (h5.2 hb i f e).kp (h4 i f e) q⟩
theorem PgD.wk {bare : Bool} {K K' : Nat → TypeId → Prop} {W : World} {fa sa ra : Option Addr} {P : Pg} (h : PgD bare K W fa sa ra P) (hK : ∀ b T, b < W.heap.size → K b T → K' b T) : PgD bare K' W fa sa ra P := by
 refine ⟨⟨h.f.1, ?_⟩, h.s.wk (fun b q k => hK b _ q k), h.u.wk (fun b q k => hK b _ q k), h.z⟩
 rcases h.f.2 with h1 | ⟨b, cs, h1, h2, h3, h4, h5⟩
 ·exact .inl h1
 ·exact .inr ⟨b, cs, h1, hK b _ (heap_lt h3) h2, h3, fun i f e => (h4 i f e).wk (fun b q k => hK b _ q k) (fun b q k => hK b _ q k), h5⟩
theorem pg_put5 {W : World} {S B : Nat} {fs : List Fu} {xs : List Value} {sa : Option Addr} {ss : List (List UInt8)} {ra : Option Addr} {us : List Int} {fa : Option Addr} {fc : Nat}
  (o : W.ownsRow B 48 3 (.slice fa fs.length fc) fs.length xs) (r : RsT (KO S) W fs xs sa ss ra us) (hs : Srt fs xs) {bare : Bool} (hN : bare = true → FnsN W fs xs) (hm : S < B) (hu : ∀ u ∈ us, 0 ≤ u ∧ u < 18446744073709551616) (en' : Int) (a b c d : Value) :
  PgD bare (KUp S) ((((W.setCell ⟨S, 0, none⟩ a).setCell ⟨S, 1, none⟩ b).setCell ⟨S, 2, none⟩ c).setCell ⟨S, 3, none⟩ d) fa sa ra ⟨fs, ss, us, en'⟩ := by
 have h0 : PgD bare (KUp S) W fa sa ra ⟨fs, ss, us, en'⟩ := by
  have r2 : RsT (KUp S) W fs xs sa ss ra us := r.wk (fun b _ k => k.1) (fun b _ k => k.1) (fun b _ k => k.1) (fun b _ k => k.1)
  rcases Nat.eq_zero_or_pos fs.length with h0 | h0
  ·obtain rfl := List.length_eq_zero_iff.1 h0
   exact ⟨⟨Nat.zero_le _, .inl rfl⟩, r2.s, r2.u, hu⟩
  ·obtain ⟨g, cap, cur, hv, q1, q2, q3, q4, q5⟩ := own_parts o h0
   cases hv
   have q6 : Srt fs cur.toList := by
    intro i j f g2 a' c' n m k l hij e1 e2 n1 n2 x1 x2
    have hj : j < fs.length := (List.getElem?_eq_some_iff.1 e2).1
    rw [Array.getElem?_toList, q5 _ (by omega)] at x1 x2
    exact hs i j f g2 a' c' n m k l hij e1 e2 n1 n2 x1 x2
   refine ⟨⟨q4, .inr ⟨g, cur, rfl, by show S < g; omega, q2, fun i f e => ?_, q6, fun hb i f e => ?_⟩⟩, r2.s, r2.u, hu⟩
   ·have hi : i < fs.length := (List.getElem?_eq_some_iff.1 e).1
    exact (r2.f.2 i f e).same (fun k hk => q5 _ (by omega))
   ·have hi : i < fs.length := (List.getElem?_eq_some_iff.1 e).1
    exact (hN hb i f e).same (q5 _ (by omega))
 have q : ∀ (W : World) i v, Kp (KUp S) W (W.setCell ⟨S, i, none⟩ v) := fun W i v => Kp.set ⟨S, i, none⟩ v (fun _ _ _ h => Nat.lt_irrefl S h)
 exact (((h0.kp (q _ 0 a)).kp (q _ 1 b)).kp (q _ 2 c)).kp (q _ 3 d)
def CpD (bare : Bool) (P : Pg) (w : World) (e : Ending) (w' : World) : Prop :=
 ∃ fa fc sa sc ra rc, e = .returned (.agg #[.slice fa P.fs.length fc, .slice sa P.ss.length sc, .slice ra P.us.length rc, .int .i64 P.en]) ∧ PgD bare (KUp w.heap.size) w' fa sa ra (cpP bare P) ∧ Below w.heap.size w w'
end Go.Proofs.YtokjkligechcoaaGreatDoor
