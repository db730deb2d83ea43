/- Walks of layer 16's reference: a program in new memory: its strings and reals. -/
import Derived.Test.YtokjkligechcoaaGreatDoorHa
import Derived.Test.YtokjkligechcoaaGreatDoorGr
set_option linter.unusedVariables false
namespace Go.Proofs.YtokjkligechcoaaGreatDoor
open _root_.Go.Lib (hid)
open Go.RowKit
attribute [local go_sem] ext_mk size_mk toList_mk get_mk take_drop_len take_tail_len ByteArray.mk_append_mk List.append_toArray
theorem RowK.alloc {W : World} {B : Nat} {T : TypeId} {a : Option Addr} {xs : List Value} (h : RowK W B T a xs) (o : Obj) : RowK (W.alloc o) B T a xs := h.below ((Below.refl _ _).alloc (Nat.le_refl _) _)
theorem RowK.put4q {W : World} {B m : Nat} {T T0 : TypeId} {a : Option Addr} {xs : List Value} {cs0 : Array Value} (h : RowK W B T a xs) (k : KAt W m (.cells cs0 T0 (0, 0))) (hT : T0 ≠ T) (v0 v1 v2 v3 : Value) : RowK ((((W.setCell ⟨m, 0, none⟩ v0).setCell ⟨m, 1, none⟩ v1).setCell ⟨m, 2, none⟩ v2).setCell ⟨m, 3, none⟩ v3) B T a xs := by
 rcases h with h | ⟨g, cs, h1, h2, h3, h4⟩
 ·exact .inl h
 ·have hn : g ≠ m := by
   rintro rfl
   have e := k.x
   rw [h3] at e
   simp only [Option.some.injEq, Obj.cells.injEq] at e
   exact hT e.2.1.symm
  exact .inr ⟨g, cs, h1, h2, by rw [Below.heap_setCell _ _ _ _ hn, Below.heap_setCell _ _ _ _ hn, Below.heap_setCell _ _ _ _ hn, Below.heap_setCell _ _ _ _ hn]; exact h3, h4⟩
theorem kat_new1 (W : World) (o z : Obj) : KAt ((W.alloc o).alloc z) (W.heap.size + 1) z := by
 have h := KAt.new (W.alloc o) z
 rw [show (W.alloc o).heap.size = W.heap.size + 1 from by simp] at h; exact h
theorem kat_new2 (W : World) (o o2 z : Obj) : KAt (((W.alloc o).alloc o2).alloc z) (W.heap.size + 1 + 1) z := by
 have h := KAt.new ((W.alloc o).alloc o2) z
 rw [show ((W.alloc o).alloc o2).heap.size = W.heap.size + 1 + 1 from by simp] at h; exact h
theorem KAt.set4 {W : World} {m : Nat} {T : TypeId} {a b c d : Value} (h : KAt W m (.cells #[a, b, c, d] T (0, 0))) (v0 v1 v2 v3 : Value) : KAt ((((W.setCell ⟨m, 0, none⟩ v0).setCell ⟨m, 1, none⟩ v1).setCell ⟨m, 2, none⟩ v2).setCell ⟨m, 3, none⟩ v3) m (.cells #[v0, v1, v2, v3] T (0, 0)) :=
 ⟨heap_setCell_same (i := 3) _ _ _ _ _ (heap_setCell_same (i := 2) _ _ _ _ _ (heap_setCell_same (i := 1) _ _ _ _ _ (heap_setCell_same (i := 0) _ _ _ _ _ h.x)))⟩
theorem frz4 {W : World} {m : Nat} {T : TypeId} {cs : Array Value} (h : KAt W m (.cells cs T (0, 0))) : W.frozen? ⟨m, 0, none⟩ = false ∧ W.frozen? ⟨m, 1, none⟩ = false ∧ W.frozen? ⟨m, 2, none⟩ = false ∧ W.frozen? ⟨m, 3, none⟩ = false :=
 ⟨frozen_of_row _ _ _ _ _ h.x, frozen_of_row _ _ _ _ _ h.x, frozen_of_row _ _ _ _ _ h.x, frozen_of_row _ _ _ _ _ h.x⟩
theorem one_str (ss : List (List UInt8)) : ∀ u ∈ strC ss, u.oneCell' = true := by
 intro u hu; obtain ⟨s, _, rfl⟩ := List.mem_map.1 hu; rfl
theorem one_int {k : IntKind} (l : List Int) : ∀ u ∈ l.map (Value.int k), u.oneCell' = true := by
 intro u hu; obtain ⟨s, _, rfl⟩ := List.mem_map.1 hu; rfl
theorem KAt.set6_4 {W : World} {m : Nat} {a b c d e f : Value} (h : KAt W m (.cells #[a, b, c, d, e, f] 58 (0, 0))) (u : Value) : KAt (W.setCell ⟨m, 4, none⟩ u) m (.cells #[a, b, c, d, u, f] 58 (0, 0)) := ⟨heap_setCell_same (i := 4) _ _ _ _ _ h.x⟩
theorem KAt.set6_5 {W : World} {m : Nat} {a b c d e f : Value} (h : KAt W m (.cells #[a, b, c, d, e, f] 58 (0, 0))) (u : Value) : KAt (W.setCell ⟨m, 5, none⟩ u) m (.cells #[a, b, c, d, e, u] 58 (0, 0)) := ⟨heap_setCell_same (i := 5) _ _ _ _ _ h.x⟩
theorem cell_bw {W V : World} {p : Addr} {v : Value} (h : W.cell? p = some v) (hb : Below W.heap.size W V) : V.cell? p = some v := (hb.cell (World.block_lt_of_cell? W p h)).trans h
/-- the functions' codes lie in rising blocks -/
def Srt (fs : List Fu) (xs : List Value) : Prop := ∀ (i j : Nat) (f g : Fu) (a c : Addr) (n m k l : Nat), i < j → fs[i]? = some f → fs[j]? = some g → f.code ≠ [] → g.code ≠ [] → xs[i * 3 + 2]? = some (.slice (some a) n k) → xs[j * 3 + 2]? = some (.slice (some c) m l) → a.block < c.block
theorem Srt.nil : Srt [] [] := fun i j f g a c n m k l _ h _ _ _ _ _ => by simp at h
theorem Srt.snoc {K : Nat → TypeId → Prop} {W : World} {fs : List Fu} {xs : List Value} {f : Fu} {ca : Option Addr} {n cc fb : Nat} {u v : Value} (h : Srt fs xs) (hv : FnsV K W fs xs) (hK : ∀ b, K b 58 → b < fb) (hc : ∀ a, ca = some a → f.code ≠ [] → fb < a.block) : Srt (fs ++ [f]) (xs ++ [u, v, .slice ca n cc]) := by
 intro i j f1 g1 a c n1 m1 k1 l1 hij e1 e2 n2 n3 x1 x2
 have hl := hv.1
 have hj : j < fs.length + 1 := by
  have := (List.getElem?_eq_some_iff.1 e2).1
  simpa using this
 have hi : i < fs.length := by omega
 rw [List.getElem?_append_left hi] at e1
 rw [List.getElem?_append_left (by omega)] at x1
 rcases Nat.lt_or_ge j fs.length with q | q
 ·rw [List.getElem?_append_left q] at e2
  rw [List.getElem?_append_left (by omega)] at x2
  exact h i j f1 g1 a c n1 m1 k1 l1 hij e1 e2 n2 n3 x1 x2
 ·obtain rfl : j = fs.length := by omega
  rw [List.getElem?_append_right (Nat.le_refl _), Nat.sub_self] at e2
  cases e2
  rw [List.getElem?_append_right (by omega), show fs.length * 3 + 2 - xs.length = 2 by omega] at x2
  simp at x2
  have h2 := hc c x2.1 n3
  obtain ⟨ca', cc', -, -, r2, -, r4 | ⟨b, cs, r4, r5, -, -⟩⟩ := hv.2 i f1 e1
  ·exact absurd r4 n2
  ·dsimp only at r2
   rw [r2, r4] at x1
   simp at x1
   have := hK b r5
   rw [← x1.1]
   show b < c.block
   omega
/-- the lists of live registers of a function are nil -/
def FnN (W : World) (f : Fu) (r : Nat → Option Value) : Prop := f.code = [] ∨ ∃ b cc cs, r 2 = some (.slice (some ⟨b, 0, none⟩) f.code.length cc) ∧ W.heap[b]? = some (.cells cs 58 (0, 0)) ∧ ∀ k, k < f.code.length → cs[k * 6 + 5]? = some (Value.slice none 0 0)
theorem FnN.kp {K : Nat → TypeId → Prop} {W V : World} {f : Fu} {r : Nat → Option Value} (h : FnN W f r) (hv : FnV K W f r) (q : Kp K W V) : FnN V f r := by
 rcases h with h | ⟨b, cc, cs, h1, h2, h3⟩
 ·exact .inl h
 ·obtain ⟨ca, c2, -, -, r2, -, r4 | ⟨b2, cs2, r4, r5, r6, -⟩⟩ := hv
  ·exact .inl r4
  ·rw [r2, r4] at h1
   simp only [Option.some.injEq, Value.slice.injEq, Addr.mk.injEq] at h1
   have e := h1.1.1
   subst e
   exact .inr ⟨b2, cc, cs, by rw [r2, r4, h1.2.2], q.k _ _ _ r5 h2, h3⟩
def FnsN (W : World) (fs : List Fu) (xs : List Value) : Prop := ∀ i f, fs[i]? = some f → FnN W f (fun k => xs[i * 3 + k]?)
theorem FnsN.nil (W : World) : FnsN W [] [] := fun i f h => by simp at h
theorem FnsN.kp {K : Nat → TypeId → Prop} {W V : World} {fs : List Fu} {xs : List Value} (h : FnsN W fs xs) (hv : FnsV K W fs xs) (q : Kp K W V) : FnsN V fs xs := fun i f e => (h i f e).kp (hv.2 i f e) q
theorem FnN.same {W : World} {f : Fu} {r r' : Nat → Option Value} (h : FnN W f r) (e : r' 2 = r 2) : FnN W f r' := by
 rcases h with h | ⟨b, cc, cs, h1, h2, h3⟩
 ·exact .inl h
 ·exact .inr ⟨b, cc, cs, e.trans h1, h2, h3⟩
theorem FnsN.snoc {K : Nat → TypeId → Prop} {W : World} {fs : List Fu} {xs ys : List Value} {f : Fu} (h : FnsN W fs xs) (hv : FnsV K W fs xs) (hx : FnN W f (fun k => ys[k]?)) : FnsN W (fs ++ [f]) (xs ++ ys) := by
 intro i y e
 have h1 := hv.1
 rcases Nat.lt_or_ge i fs.length with hi | hi
 ·rw [List.getElem?_append_left hi] at e
  exact (h i y e).same (List.getElem?_append_left (by omega))
 ·have hi2 : i = fs.length := by
   have := (List.getElem?_eq_some_iff.1 e).1
   simp at this; omega
  subst hi2
  rw [List.getElem?_append_right (Nat.le_refl _), Nat.sub_self] at e
  cases e
  exact hx.same (by show (xs ++ ys)[fs.length * 3 + 2]? = ys[2]?; rw [List.getElem?_append_right (by omega)]; congr 1; omega)
def N5 (n : Nat) (ys : List Value) : Prop := ys.length = n * 6 ∧ ∀ k, k < n → ys[k * 6 + 5]? = some (Value.slice none 0 0)
theorem N5.snoc {n : Nat} {ys : List Value} {a b c d e : Value} (h : N5 n ys) : N5 (n + 1) (ys ++ [a, b, c, d, e, .slice none 0 0]) := by
 have h1 := h.1
 refine ⟨by simp [h1]; omega, fun k hk => ?_⟩
 by_cases q : k < n
 ·rw [List.getElem?_append_left (by omega)]; exact h.2 k q
 ·obtain rfl : k = n := by omega
  rw [List.getElem?_append_right (by omega), show k * 6 + 5 - ys.length = 5 by omega]; rfl
theorem N5.fn {W : World} {B : Nat} {f : Fu} {u v w0 : Value} {n : Nat} {ys : List Value} (h : N5 f.code.length ys) (ho : W.ownsRow B 58 6 w0 n ys) (hn : n = f.code.length) : FnN W f (fun k => [u, v, w0][k]?) := by
 subst hn
 rcases Nat.eq_zero_or_pos f.code.length with q | q
 ·exact .inl (List.length_eq_zero_iff.1 q)
 ·obtain ⟨g, cap, cur, rfl, q1, q2, q3, q4, q5⟩ := own_parts ho q
  exact .inr ⟨g, cap, cur, rfl, q2, fun k hk => by rw [q5 _ (by omega)]; exact h.2 k hk⟩
/-- a program at rest in blocks of a kind, its codes in rising ones -/
structure PgD (bare : Bool) (K : Nat → TypeId → Prop) (W : World) (fa sa ra : Option Addr) (P : Pg) : Prop where
 f : P.fs.length ≤ maxLen ∧ (P.fs = [] ∨ ∃ b cs, fa = some ⟨b, 0, none⟩ ∧ K b 48 ∧ W.heap[b]? = some (.cells cs 48 (0, 0)) ∧ (∀ i f, P.fs[i]? = some f → FnV K W f (fun k => cs[i * 3 + k]?)) ∧ Srt P.fs cs.toList ∧ (bare = true → ∀ i f, P.fs[i]? = some f → FnN W f (fun k => cs[i * 3 + k]?)))
 s : StrsK K W sa P.ss
 u : NumsK K 45 .u64 W ra P.us
 z : ∀ u ∈ P.us, 0 ≤ u ∧ u < 18446744073709551616
theorem PgD.pg {bare : Bool} {K : Nat → TypeId → Prop} {W : World} {fa sa ra : Option Addr} {P : Pg} (h : PgD bare K W fa sa ra P) : PgK K W fa sa ra P := by
 refine ⟨⟨h.f.1, ?_⟩, h.s, h.u, h.z⟩
 rcases h.f.2 with h1 | ⟨b, cs, h1, h2, h3, h4, h5⟩
 ·exact .inl h1
 ·exact .inr ⟨b, cs, h1, h2, h3, h4⟩
theorem PgD.kp {bare : Bool} {K : Nat → TypeId → Prop} {W V : World} {fa sa ra : Option Addr} {P : Pg} (h : PgD bare K W fa sa ra P) (q : Kp K W V) : PgD bare K V fa sa ra P := by
 refine ⟨⟨h.f.1, ?_⟩, h.s.kp q, h.u.kp q, h.z⟩
 rcases h.f.2 with h1 | ⟨b, cs, h1, h2, h3, h4, h5⟩
 ·exact .inl h1
 ·exact .inr ⟨b, cs, h1, h2, q.k b cs _ h2 h3, fun i f e => (h4 i f e).kp q, h5.1, fun hb i f e => (h5.2 hb i f e).kp (h4 i f e) q⟩
theorem PgD.wk {bare : Bool} {K K' : Nat → TypeId → Prop} {W : World} {fa sa ra : Option Addr} {P : Pg} (h : PgD bare K W fa sa ra P) (hK : ∀ b T, b < W.heap.size → K b T → K' b T) : PgD bare K' W fa sa ra P := by
 refine ⟨⟨h.f.1, ?_⟩, h.s.wk (fun b q k => hK b _ q k), h.u.wk (fun b q k => hK b _ q k), h.z⟩
 rcases h.f.2 with h1 | ⟨b, cs, h1, h2, h3, h4, h5⟩
 ·exact .inl h1
 ·exact .inr ⟨b, cs, h1, hK b _ (heap_lt h3) h2, h3, fun i f e => (h4 i f e).wk (fun b q k => hK b _ q k) (fun b q k => hK b _ q k), h5⟩
theorem pg_put5 {W : World} {S B : Nat} {fs : List Fu} {xs : List Value} {sa : Option Addr} {ss : List (List UInt8)} {ra : Option Addr} {us : List Int} {fa : Option Addr} {fc : Nat}
  (o : W.ownsRow B 48 3 (.slice fa fs.length fc) fs.length xs) (r : RsT (KO S) W fs xs sa ss ra us) (hs : Srt fs xs) {bare : Bool} (hN : bare = true → FnsN W fs xs) (hm : S < B) (hu : ∀ u ∈ us, 0 ≤ u ∧ u < 18446744073709551616) (en' : Int) (a b c d : Value) :
  PgD bare (KUp S) ((((W.setCell ⟨S, 0, none⟩ a).setCell ⟨S, 1, none⟩ b).setCell ⟨S, 2, none⟩ c).setCell ⟨S, 3, none⟩ d) fa sa ra ⟨fs, ss, us, en'⟩ := by
 have h0 : PgD bare (KUp S) W fa sa ra ⟨fs, ss, us, en'⟩ := by
  have r2 : RsT (KUp S) W fs xs sa ss ra us := r.wk (fun b _ k => k.1) (fun b _ k => k.1) (fun b _ k => k.1) (fun b _ k => k.1)
  rcases Nat.eq_zero_or_pos fs.length with h0 | h0
  ·obtain rfl := List.length_eq_zero_iff.1 h0
   exact ⟨⟨Nat.zero_le _, .inl rfl⟩, r2.s, r2.u, hu⟩
  ·obtain ⟨g, cap, cur, hv, q1, q2, q3, q4, q5⟩ := own_parts o h0
   cases hv
   have q6 : Srt fs cur.toList := by
    intro i j f g2 a' c' n m k l hij e1 e2 n1 n2 x1 x2
    have hj : j < fs.length := (List.getElem?_eq_some_iff.1 e2).1
    rw [Array.getElem?_toList, q5 _ (by omega)] at x1 x2
    exact hs i j f g2 a' c' n m k l hij e1 e2 n1 n2 x1 x2
   refine ⟨⟨q4, .inr ⟨g, cur, rfl, by show S < g; omega, q2, fun i f e => ?_, q6, fun hb i f e => ?_⟩⟩, r2.s, r2.u, hu⟩
   ·have hi : i < fs.length := (List.getElem?_eq_some_iff.1 e).1
    exact (r2.f.2 i f e).same (fun k hk => q5 _ (by omega))
   ·have hi : i < fs.length := (List.getElem?_eq_some_iff.1 e).1
    exact (hN hb i f e).same (q5 _ (by omega))
 have q : ∀ (W : World) i v, Kp (KUp S) W (W.setCell ⟨S, i, none⟩ v) := fun W i v => Kp.set ⟨S, i, none⟩ v (fun _ _ _ h => Nat.lt_irrefl S h)
 exact (((h0.kp (q _ 0 a)).kp (q _ 1 b)).kp (q _ 2 c)).kp (q _ 3 d)
/-- what Copy answers -/
def CpR (bare : Bool) (P : Pg) (w : World) (e : Ending) (w' : World) : Prop :=
 ∃ fa fc sa sc ra rc, e = .returned (.agg #[.slice fa P.fs.length fc, .slice sa P.ss.length sc, .slice ra P.us.length rc, .int .i64 P.en]) ∧ PgK (KUp w.heap.size) w' fa sa ra (cpP bare P) ∧ Below w.heap.size w w'
def CpD (bare : Bool) (P : Pg) (w : World) (e : Ending) (w' : World) : Prop :=
 ∃ fa fc sa sc ra rc, e = .returned (.agg #[.slice fa P.fs.length fc, .slice sa P.ss.length sc, .slice ra P.us.length rc, .int .i64 P.en]) ∧ PgD bare (KUp w.heap.size) w' fa sa ra (cpP bare P) ∧ Below w.heap.size w w'
set_option maxHeartbeats 20000000 in
set_option maxRecDepth 8000 in
theorem rcopy_srt (bare : Bool) (fa sa ra : Option Addr) (fc sc rc : Nat) (P : Pg) (w : World) (hP : PgAt w fa sa ra P) (hR : PgR P) :
  Calls Tryz.prog 21 #[.agg #[.slice fa P.fs.length fc, .slice sa P.ss.length sc, .slice ra P.us.length rc, .int .i64 P.en], .bool bare] w (CpD bare P w) := by
 obtain ⟨W0, hW0⟩ : ∃ W, (w.alloc (.cells #[.slice fa P.fs.length fc, .slice sa P.ss.length sc, .slice ra P.us.length rc, .int .i64 P.en] 26)).alloc rzBlk = W := ⟨_, rfl⟩
 have hb0 : Below w.heap.size w W0 := by rw [← hW0]; exact ((Below.refl _ _).alloc (Nat.le_refl _) _).alloc (by simp) _
 have k0 : KAt W0 w.heap.size (pgBlk (.slice fa P.fs.length fc) (.slice sa P.ss.length sc) (.slice ra P.us.length rc) P.en) := by rw [← hW0]; exact (KAt.new w _).alloc _
 have k1 : KAt W0 (w.heap.size + 1) rzBlk := by
  have h := KAt.new (w.alloc (.cells #[.slice fa P.fs.length fc, .slice sa P.ss.length sc, .slice ra P.us.length rc, .int .i64 P.en] 26)) rzBlk
  rw [show (w.alloc (.cells #[.slice fa P.fs.length fc, .slice sa P.ss.length sc, .slice ra P.us.length rc, .int .i64 P.en] 26)).heap.size = w.heap.size + 1 from by simp] at h
  rw [← hW0]; exact h
 have z0 : W0.heap.size = w.heap.size + 2 := by rw [← hW0]; simp
 have HP := hid (hP.below hb0)
 have HR := hid hR
 have HPW := hid hP
 have K0 := hid k0
 have K1 := hid k1
 have HB0 := hid hb0
 have HZ0 := hid z0
 obtain ⟨nf, hnf⟩ : ∃ n, P.fs.length = n := ⟨_, rfl⟩
 obtain ⟨ns, hns⟩ : ∃ n, P.ss.length = n := ⟨_, rfl⟩
 obtain ⟨nu, hnu⟩ : ∃ n, P.us.length = n := ⟨_, rfl⟩
 obtain ⟨en, hen⟩ : ∃ n, P.en = n := ⟨_, rfl⟩
 have m1 : nf ≤ maxLen := by rw [← hnf]; exact hP.f.1
 have m2 : ns ≤ maxLen := by rw [← hns]; exact hP.s.1
 have m3 : nu ≤ maxLen := by rw [← hnu]; exact hP.u.1
 have MS := hid m2
 have MU := hid m3
 have BS := hid (show ns * 16 ≤ 140737488355328 by rw [← hns]; exact hR.s)
 have BU := hid (show nu * 8 ≤ 140737488355328 by rw [← hnu]; exact hR.u)
 have LS := hid (show (strC P.ss).length = ns by rw [← hns]; simp [strC])
 have LU := hid (show (u64C P.us).length = nu by rw [← hnu]; simp [u64C])
 unfold maxLen at m1 m2 m3
 obtain ⟨SS, hSS⟩ : ∃ SS : World → Prop, SS = fun V => Below W0.heap.size W0 V := ⟨_, rfl⟩
 have SB : Hid (∀ V, SS V → Below W0.heap.size W0 V) := hid (by rw [hSS]; exact fun V h => h)
 have SC : Hid (∀ V, SS V → SrcAt V sa (strC P.ss) ∧ SrcAt V ra (u64C P.us)) := hid (by rw [hSS]; exact fun V h => ⟨(HP.out.s.src).below h, (HP.out.u.src).below h⟩)
 unfold CpD
 rw [hnf, hns, hnu, hen] at hW0 K0 ⊢
 have SK : Hid (∀ V, Below W0.heap.size W0 V → (V.cell? ⟨w.heap.size, 1, none⟩ = some (.slice sa ns sc) ∧ V.cell? ⟨w.heap.size, 2, none⟩ = some (.slice ra nu rc) ∧ V.cell? ⟨w.heap.size, 3, none⟩ = some (.int .i64 en)) ∧ SS V) := hid (by
  rw [hSS]
  intro V h
  have := (K0.out.below h).pg
  exact ⟨⟨this.2.1, this.2.2.1, this.2.2.2.1⟩, h⟩)
 have HNF := hid hnf
 have HEN := hid hen
 clear hP hR hb0 k0 k1 hnf hns hnu hen hSS z0
 unfold rzBlk at hW0
 go_enter Tryz.func21, Tryz.ntmps21
 go_wp2_with fail
 try rw [hW0]
 have S0 : Hid (SS W0.drew) := hid (SK.out _ (Below.refl _ _).drew).2
 have SA : Hid (∀ V o, SS V → SS (V.alloc o)) := hid (fun V o h => (SK.out _ ((SB.out V h).alloc (SB.out V h).size o)).2)
 have SD : Hid (∀ (V : World) (o : Obj), SS V.drew → SS (V.alloc o).drew) := hid (fun V o h => SA.out V.drew o h)
 have SP : Hid (∀ (V : World) (q : Nat) (a b c d : Value), SS V → W0.heap.size ≤ q → SS ((((V.setCell ⟨q, 0, none⟩ a).setCell ⟨q, 1, none⟩ b).setCell ⟨q, 2, none⟩ c).setCell ⟨q, 3, none⟩ d)) := hid (fun V q a b c d h hq =>
  (SK.out _ (((((SB.out V h).setCell (p := ⟨q, 0, none⟩) hq a).setCell (p := ⟨q, 1, none⟩) hq b).setCell (p := ⟨q, 2, none⟩) hq c).setCell (p := ⟨q, 3, none⟩) hq d)).2)
 have ST : Hid (∀ V V', SS V → Below V.heap.size V V' → SS V') := hid (fun V V' h hb => (SK.out _ ((SB.out V h).trans (hb.mono (SB.out V h).size))).2)
 have SX : Hid (∀ V, SS V → V.cell? ⟨w.heap.size, 1, none⟩ = some (.slice sa ns sc) ∧ V.cell? ⟨w.heap.size, 2, none⟩ = some (.slice ra nu rc) ∧ V.cell? ⟨w.heap.size, 3, none⟩ = some (.int .i64 en) ∧ SS V) := hid (fun V h => by
  obtain ⟨⟨h1, h2, h3⟩, h4⟩ := SK.out V (SB.out V h)
  exact ⟨h1, h2, h3, h4⟩)
 go_cut [5] from 10 to 85 (fun v5 wx => ∃ m sa' sc' ra' rc', v5 = .pointer (some ⟨m, 0, none⟩) ∧ W0.heap.size ≤ m ∧ Below W0.heap.size W0 wx ∧ KAt wx m (.cells #[.slice none 0 0, .slice sa' ns sc', .slice ra' nu rc', .int .i64 en] 26 (0, 0)) ∧ RowK wx W0.heap.size 9 sa' (strC P.ss) ∧ RowK wx W0.heap.size 45 ra' (u64C P.us))
 case first =>
  go_region_held_law (fun w' => w'.cell? ⟨w.heap.size, 1, none⟩ = some (.slice sa ns sc) ∧ w'.cell? ⟨w.heap.size, 2, none⟩ = some (.slice ra nu rc) ∧ w'.cell? ⟨w.heap.size, 3, none⟩ = some (.int .i64 en) ∧ SS w')
   (first
    | with_reducible exact SX.out _ S0.out
    | with_reducible exact SX.out _ HS.out
    | with_reducible exact SX.out _ (SA.out _ _ HS.out)
    | with_reducible exact SX.out _ (SP.out _ _ _ _ _ _ HS.out (by omega))
    | (go_split_ands; with_reducible exact SX.out _ (SA.out _ _ (by assumption)))
    | (go_split_ands; with_reducible exact SX.out _ (SD.out _ _ (by assumption))))
   (first
    | (refine step_fresh infoStr Tryz.underlying23 rfl rfl _ _ rfl _ rfl (strC P.ss) sa ns sc LS.out rfl (SC.out _ (by go_split_ands; assumption)).1 (one_str _) MS.out BS.out ?_; intro a1 c1 V1 k1 _ hbx; have HS := hid (ST.out _ _ (by go_split_ands; assumption) hbx); have hz1 := (SB.out _ HS.out).size; have k1 := RowK.mono k1 (SB.out _ (by go_split_ands; assumption)).size; (first | (have hbp : Below V2.heap.size V2 V1 := (by first | with_reducible exact hbx | with_reducible exact ((Below.refl _ _).alloc (Nat.le_refl _) _).trans (hbx.mono (by (simp; done))) | with_reducible exact (((Below.refl _ _).alloc (Nat.le_refl _) _).alloc (by simp) _).trans (hbx.mono (by simp; omega))); have k2 := k2.below hbp; (first | (have kq := kq.below hbp) | skip); (first | (with_reducible have kq := (KAt.new V2 (.cells #[.slice none 0 0, .slice none 0 0, .slice none 0 0, .int .i64 0] 26 (0, 0))).below hbx) | (with_reducible have kq := ((KAt.new V2 (.cells #[.slice none 0 0, .slice none 0 0, .slice none 0 0, .int .i64 0] 26 (0, 0))).alloc _).below hbx) | (with_reducible have kq := (((KAt.new V2 (.cells #[.slice none 0 0, .slice none 0 0, .slice none 0 0, .int .i64 0] 26 (0, 0))).alloc _).alloc _).below hbx) | (with_reducible have kq := (kat_new1 V2 _ (.cells #[.slice none 0 0, .slice none 0 0, .slice none 0 0, .int .i64 0] 26 (0, 0))).below hbx) | (with_reducible have kq := ((kat_new1 V2 _ (.cells #[.slice none 0 0, .slice none 0 0, .slice none 0 0, .int .i64 0] 26 (0, 0))).alloc _).below hbx) | (with_reducible have kq := (kat_new2 V2 _ _ (.cells #[.slice none 0 0, .slice none 0 0, .slice none 0 0, .int .i64 0] 26 (0, 0))).below hbx) | skip)) | (first | (with_reducible have kq := (KAt.new W0 (.cells #[.slice none 0 0, .slice none 0 0, .slice none 0 0, .int .i64 0] 26 (0, 0))).drew.below hbx) | (with_reducible have kq := ((KAt.new W0 (.cells #[.slice none 0 0, .slice none 0 0, .slice none 0 0, .int .i64 0] 26 (0, 0))).alloc _).drew.below hbx) | (with_reducible have kq := (((KAt.new W0 (.cells #[.slice none 0 0, .slice none 0 0, .slice none 0 0, .int .i64 0] 26 (0, 0))).alloc _).alloc _).drew.below hbx) | (with_reducible have kq := (kat_new1 W0 _ (.cells #[.slice none 0 0, .slice none 0 0, .slice none 0 0, .int .i64 0] 26 (0, 0))).drew.below hbx) | (with_reducible have kq := ((kat_new1 W0 _ (.cells #[.slice none 0 0, .slice none 0 0, .slice none 0 0, .int .i64 0] 26 (0, 0))).alloc _).drew.below hbx) | (with_reducible have kq := (kat_new2 W0 _ _ (.cells #[.slice none 0 0, .slice none 0 0, .slice none 0 0, .int .i64 0] 26 (0, 0))).drew.below hbx) | skip)); (first | (have hq := pbx kq; have hf := frz4 kq; obtain ⟨q0, q1, q2, q3⟩ := hq; obtain ⟨f0, f1, f2, f3⟩ := hf) | skip))
    | (refine step_fresh infoU64 Tryz.underlying24 rfl rfl _ _ rfl _ rfl (u64C P.us) ra nu rc LU.out rfl (SC.out _ (by go_split_ands; assumption)).2 (one_int _) MU.out BU.out ?_; intro a2 c2 V2 k2 _ hbx; have HS := hid (ST.out _ _ (by go_split_ands; assumption) hbx); have hz2 := (SB.out _ HS.out).size; have k2 := RowK.mono k2 (SB.out _ (by go_split_ands; assumption)).size; (first | (have hbp : Below V1.heap.size V1 V2 := (by first | with_reducible exact hbx | with_reducible exact ((Below.refl _ _).alloc (Nat.le_refl _) _).trans (hbx.mono (by (simp; done))) | with_reducible exact (((Below.refl _ _).alloc (Nat.le_refl _) _).alloc (by simp) _).trans (hbx.mono (by simp; omega))); have k1 := k1.below hbp; (first | (have kq := kq.below hbp) | skip); (first | (with_reducible have kq := (KAt.new V1 (.cells #[.slice none 0 0, .slice none 0 0, .slice none 0 0, .int .i64 0] 26 (0, 0))).below hbx) | (with_reducible have kq := ((KAt.new V1 (.cells #[.slice none 0 0, .slice none 0 0, .slice none 0 0, .int .i64 0] 26 (0, 0))).alloc _).below hbx) | (with_reducible have kq := (((KAt.new V1 (.cells #[.slice none 0 0, .slice none 0 0, .slice none 0 0, .int .i64 0] 26 (0, 0))).alloc _).alloc _).below hbx) | (with_reducible have kq := (kat_new1 V1 _ (.cells #[.slice none 0 0, .slice none 0 0, .slice none 0 0, .int .i64 0] 26 (0, 0))).below hbx) | (with_reducible have kq := ((kat_new1 V1 _ (.cells #[.slice none 0 0, .slice none 0 0, .slice none 0 0, .int .i64 0] 26 (0, 0))).alloc _).below hbx) | (with_reducible have kq := (kat_new2 V1 _ _ (.cells #[.slice none 0 0, .slice none 0 0, .slice none 0 0, .int .i64 0] 26 (0, 0))).below hbx) | skip)) | (first | (with_reducible have kq := (KAt.new W0 (.cells #[.slice none 0 0, .slice none 0 0, .slice none 0 0, .int .i64 0] 26 (0, 0))).drew.below hbx) | (with_reducible have kq := ((KAt.new W0 (.cells #[.slice none 0 0, .slice none 0 0, .slice none 0 0, .int .i64 0] 26 (0, 0))).alloc _).drew.below hbx) | (with_reducible have kq := (((KAt.new W0 (.cells #[.slice none 0 0, .slice none 0 0, .slice none 0 0, .int .i64 0] 26 (0, 0))).alloc _).alloc _).drew.below hbx) | (with_reducible have kq := (kat_new1 W0 _ (.cells #[.slice none 0 0, .slice none 0 0, .slice none 0 0, .int .i64 0] 26 (0, 0))).drew.below hbx) | (with_reducible have kq := ((kat_new1 W0 _ (.cells #[.slice none 0 0, .slice none 0 0, .slice none 0 0, .int .i64 0] 26 (0, 0))).alloc _).drew.below hbx) | (with_reducible have kq := (kat_new2 W0 _ _ (.cells #[.slice none 0 0, .slice none 0 0, .slice none 0 0, .int .i64 0] 26 (0, 0))).drew.below hbx) | skip)); (first | (have hq := pbx kq; have hf := frz4 kq; obtain ⟨q0, q1, q2, q3⟩ := hq; obtain ⟨f0, f1, f2, f3⟩ := hf) | skip)))
  all_goals go_wp2_with fail
  all_goals go_meet
  all_goals go_split_ands
  all_goals first
   | (refine ⟨_, a1, c1, a2, c2, rfl, (by omega), (SB.out _ (by assumption)), ?_, ?_, ?_⟩; (with_reducible exact KAt.new _ _); (with_reducible exact k1.alloc _); (with_reducible exact k2.alloc _))
   | (refine ⟨_, a1, c1, a2, c2, rfl, (by omega), (SB.out _ (by assumption)), ?_, ?_, ?_⟩; (with_reducible exact kq.set4 _ _ _ _); (with_reducible exact k1.put4q kq (by decide) _ _ _ _); (with_reducible exact k2.put4q kq (by decide) _ _ _ _))
 case rest =>
  clear S0 SA SD SP ST SX SK SB SC hW0
  obtain ⟨m, sa', sc', ra', rc', rfl, hm, hbx, hk, hs, hu⟩ := hcut
  have hz := HZ0.out
  obtain ⟨PB, hPB⟩ : ∃ o, pgBlk (.slice fa nf fc) (.slice sa ns sc) (.slice ra nu rc) en = o := ⟨_, rfl⟩
  have HPB := hid hPB
  rw [hPB] at K0
  have C0 := hid (show CcAt w wc m PB rzBlk (.slice none 0 0) (.slice sa' ns sc') (.slice ra' nu rc') en from ⟨HB0.out.trans (hbx.mono HB0.out.size), K0.out.below hbx, K1.out.below hbx, hk, by omega⟩)
  have R0 := hid (show RsT (KO (w.heap.size + 1)) wc [] [] sa' P.ss ra' P.us from ⟨FnsV.nil _ _, hs.strs (by rw [show P.ss.length = ns by have := LS.out; simpa [strC] using this]; exact MS.out) HPW.out.s.2.1 (fun b hb _ => ⟨by omega, .inr (.inr (.inl rfl))⟩), hu.nums (by rw [show P.us.length = nu by have := LU.out; simpa [u64C] using this]; exact MU.out) (fun b hb _ => ⟨by omega, .inr (.inr (.inr rfl))⟩)⟩)
  have D0 := hid (CoAt.start C0.out 48 3)
  obtain ⟨B3, hB3⟩ : ∃ B, wc.heap.size = B := ⟨_, rfl⟩
  rw [hB3] at D0
  clear hPB hm hbx hk hs hu hz hB3 C0 HP K0 K1 HB0 HZ0 LS LU MS MU BS BU
  go_wp2_with fail
  go_loopw [6] (fun v6 wr => ∃ (k : Nat) (v : Value) (fs : List Fu) (xs : List Value), k ≤ nf ∧ v6 = .int .i64 (k : Int) ∧ fs = (P.fs.take k).map (cpF bare) ∧ CoAt w wr m PB rzBlk v (.slice sa' ns sc') (.slice ra' nu rc') en B3 48 3 v fs.length xs ∧ RsT (KO (w.heap.size + 1)) wr fs xs sa' P.ss ra' P.us ∧ Srt fs xs ∧ (bare = true → FnsN wr fs xs)) (fun v6 _ => nf - (intOf v6).toNat)
  case atStart => exact ⟨0, _, [], [], Nat.zero_le _, rfl, rfl, D0.out, R0.out, Srt.nil, fun _ => FnsN.nil _⟩
  case round =>
   clear D0 R0
   obtain ⟨k, v, fs, xs, hk, rfl, hfs, hC, hRs, hSr, hFN⟩ := hrel
   have HSr := hid hSr
   have HFN := hid hFN
   clear hSr hFN
   have C := hid hC
   have R := hid hRs
   have HFS := hid hfs
   obtain ⟨p0, p1, p2, p3, -, -, -, -⟩ := (show KAt wr w.heap.size _ by rw [← HPB.out] at hC; exact hC.d.r).pg
   by_cases hkn : k < nf
   ·obtain ⟨ga, oa, f, rfl, es, ca, ccp, x0, x1, x2, xc⟩ := fns_cell HPW.out.f (show k < P.fs.length by rw [HNF.out]; exact hkn)
    obtain ⟨ps, rs, code⟩ := f
    dsimp only at x0 x1 x2 xc
    have XC := hid xc
    have ES := hid es
    have kt : ((k : Int)).toNat = k := Int.toNat_natCast k
    have HRC := hid (HR.out.c _ (List.mem_of_getElem? es))
    have HFL := hid (show fs.length = k by rw [hfs]; simp; rw [HNF.out]; omega)
    obtain ⟨nc, hnc⟩ : ∃ n, code.length = n := ⟨_, rfl⟩
    have HNC := hid hnc
    have m4 : nc ≤ maxLen := by rw [← hnc]; exact xc.1
    unfold maxLen at m4
    rw [hnc] at x2
    have X2 := hid x2
    have x0 := cell_bw x0 hC.d.be
    have x1 := cell_bw x1 hC.d.be
    have x2 := cell_bw x2 hC.d.be
    clear hC hRs hfs xc es hnc
    have p0p := cell_a1 p0; have x0p := cell_a1 x0; have x1p := cell_a1 x1
    go_upto_region 5 with (fail)
    go_cut [7] from 21 to 84 (fun v7 wx => v7 = .pointer (some ⟨wr.heap.size, 0, none⟩) ∧ wx = (wr.alloc (fbBlk ps rs (.slice none 0 0))).drew)
    case first =>
     go_region
     all_goals go_wp2_with fail
     all_goals go_meet
     all_goals exact ⟨rfl, rfl⟩
    case rest =>
     obtain ⟨rfl, rfl⟩ := hcut
     have hcd : Below wr.heap.size wr wr.drew := (Below.refl _ _).drew
     have F0 := hid (CfAt.start (C.out.below hcd) (R.out.kp (Kp.below hcd)) ps rs)
     have HFB := hid (show B3 ≤ wr.heap.size from C.out.hB)
     obtain ⟨fb, hfb⟩ : ∃ b, wr.heap.size = b := ⟨_, rfl⟩
     obtain ⟨W5, hW5⟩ : ∃ W, (wr.alloc (fbBlk ps rs (.slice none 0 0))).drew = W := ⟨_, rfl⟩
     have F1 : CfAt w W5 m PB rzBlk (.slice sa' ns sc') (.slice ra' nu rc') en B3 v fs xs sa' P.ss ra' P.us fb ps rs (.slice none 0 0) [] [] := by rw [← hW5, ← hfb]; exact F0.out
     rw [hfb, hW5]
     have F5 := hid F1
     have HF5 := hid (fun hb => (show FnsN W5 fs xs from (HFN.out hb).kp R.out.f (by rw [← hW5]; exact Kp.below (((Below.refl _ _).alloc (Nat.le_refl _) _).drew))))
     clear p0 p0p p1 p2 p3 x0 x0p x1 x1p x2 F0 F1 hfb hW5 hcd C R
     go_wp2_with fail
     go_loopw [8] (fun v8 wr => ∃ (j : Nat) (vc : Value) (cd : List In) (ys : List Value), j ≤ nc ∧ v8 = .int .i64 (j : Int) ∧ cd = (code.take j).map (cpI bare) ∧ CfAt w wr m PB rzBlk (.slice sa' ns sc') (.slice ra' nu rc') en B3 v fs xs sa' P.ss ra' P.us fb ps rs vc cd ys ∧ (bare = true → N5 cd.length ys ∧ FnsN wr fs xs)) (fun v8 _ => nc - (intOf v8).toNat)
     case atStart => exact ⟨0, _, [], [], Nat.zero_le _, rfl, rfl, F5.out, fun hb => ⟨⟨rfl, fun k hk => absurd hk (Nat.not_lt_zero _)⟩, HF5.out hb⟩⟩
     case round =>
      clear F5
      obtain ⟨j, vc, cd, ys, hj, rfl, hcd, hF, hN5⟩ := hrel
      have HN5 := hid hN5
      clear hN5 HF5
      have F := hid hF
      have HCD := hid hcd
      obtain ⟨p0, p1, p2, p3, -, -, -, -⟩ := (show KAt wr w.heap.size _ by rw [← HPB.out] at hF; exact hF.d.r).pg
      have x2 := cell_bw X2.out hF.d.be
      have HFZ := hid (heap_lt hF.f.x)
      by_cases hjn : j < nc
      ·obtain ⟨gc, oc, x, rfl, ex, la, lc, va, vc', q0, q1, q2, q3, q4, q5, pl, pv⟩ := cd_cell (XC.out.below hF.d.be) (show j < code.length by rw [HNC.out]; exact hjn)
       have HX := hid (HRC.out.2 _ (List.mem_of_getElem? ex))
       have EX := hid ex
       have jt : ((j : Int)).toNat = j := Int.toNat_natCast j
       obtain ⟨xo, xa, xb, xc, xl, xv⟩ := x
       dsimp only at q0 q1 q2 q3 q4 q5 pl pv HX
       have PL := hid pl
       have PV := hid pv
       have HCL := hid (show cd.length = j by rw [hcd]; simp; rw [HNC.out]; omega)
       obtain ⟨nl, hnl⟩ : ∃ n, xl.length = n := ⟨_, rfl⟩
       obtain ⟨nv, hnv⟩ : ∃ n, xv.length = n := ⟨_, rfl⟩
       rw [hnl] at q4
       rw [hnv] at q5
       have HNL := hid hnl
       have HNV := hid hnv
       have HXL := hid (show nl ≤ maxLen ∧ nl * 8 ≤ 140737488355328 by rw [← hnl]; exact ⟨pl.1, HX.out.1⟩)
       have HXV := hid (show nv ≤ maxLen ∧ nv * 8 ≤ 140737488355328 by rw [← hnv]; exact ⟨pv.1, HX.out.2⟩)
       clear hF hcd ex pl pv hnl hnv
       obtain ⟨W9, hW9⟩ : ∃ W, wr.alloc (.cells #[.int .i64 xo, .int .i64 xa, .int .i64 xb, .int .i64 xc, .slice la nl lc, .slice va nv vc'] 58) = W := ⟨_, rfl⟩
       have H9 := hid hW9
       have K9 := hid (KAt.new wr (.cells #[.int .i64 xo, .int .i64 xa, .int .i64 xb, .int .i64 xc, .slice la nl lc, .slice va nv vc'] 58 (0, 0)))
       clear hW9
       have BX2 := hid (fun o1 o2 => (show Below wr.heap.size wr ((wr.alloc o1).alloc o2) from ((Below.refl _ _).alloc (Nat.le_refl _) _).alloc (by simp) _))
       have hfx : fb ≠ wr.heap.size := Nat.ne_of_lt HFZ.out
       have hfx2 : wr.heap.size ≠ fb := Ne.symm hfx
       clear p1 p2 p3
       rcases bare with _ | _
       ·go_wp2_with (first
         | (at_builtin; (refine app_fresh infoInt Tryz.underlying56 rfl rfl _ _ rfl _ rfl (xl.map (Value.int .i64)) la nl lc (by rw [List.length_map]; exact HNL.out) rfl (PL.out.below (BX2.out _ _)).src (one_int _) HXL.out.1 HXL.out.2 ?_); (intro a1 c1 V1 r1 n1 hb1; have B1 := hid ((BX2.out _ _).trans (hb1.mono (BX2.out _ _).size)); have KX := hid ((K9.out.alloc _).below hb1); have R1 := hid (r1.mono (B' := wr.heap.size + 1) (by simp)); obtain ⟨y0, y1, y2, y3, y4, y5⟩ := xbx KX.out; have z4 : V1.frozen? ⟨wr.heap.size, 4, none⟩ = false := frozen_of_row _ _ _ _ _ KX.out.x; have y5p : ∀ o, ((V1.setCell ⟨wr.heap.size, 4, none⟩ (.slice a1 nl c1)).alloc o).cell? ⟨wr.heap.size, 5, none⟩ = some (.slice va nv vc') := (fun o => (xbx ((KX.out.set6_4 (.slice a1 nl c1)).alloc o)).2.2.2.2.2); clear r1 n1 hb1))
         | (at_builtin; (refine app_fresh (w := (V1.setCell ⟨wr.heap.size, 4, none⟩ (.slice a1 nl c1)).alloc (.cells #[] 3)) infoInt Tryz.underlying56 rfl rfl _ _ rfl _ rfl (xv.map (Value.int .i64)) va nv vc' (by rw [List.length_map]; exact HNV.out) rfl (PV.out.below ((B1.out.setCell (p := ⟨wr.heap.size, 4, none⟩) (Nat.le_refl _) _).alloc (by simp [World.setCell]; exact B1.out.size) _)).src (one_int _) HXV.out.1 HXV.out.2 ?_); (intro a2 c2 V2 r2 n2 hb2; have bs : Below wr.heap.size wr ((V1.setCell ⟨wr.heap.size, 4, none⟩ (.slice a1 nl c1)).alloc (.cells #[] 3)) := ((B1.out.setCell (p := ⟨wr.heap.size, 4, none⟩) (Nat.le_refl _) _).alloc (by simp [World.setCell]; exact B1.out.size) _); have B2 := hid (bs.trans (hb2.mono bs.size)); have KY := hid ((((KX.out.set6_4 (.slice a1 nl c1)).alloc _).below hb2)); have R2 := hid (r2.mono (B' := wr.heap.size + 1) (by simp [World.setCell]; have := heap_lt KX.out.x; omega)); have R1 := hid (((R1.out.put (Nat.lt_succ_self _) 4 (.slice a1 nl c1)).alloc _).below hb2); clear y0 y1 y2 y3 y4 y5 z4 y5p; obtain ⟨y0, y1, y2, y3, y4, y5⟩ := xbx KY.out; have z5 : V2.frozen? ⟨wr.heap.size, 5, none⟩ = false := frozen_of_row _ _ _ _ _ KY.out.x; have A3 := hid (F.out.below (B2.out.setCell (p := ⟨wr.heap.size, 5, none⟩) (Nat.le_refl _) (.slice a2 nv c2))); have y6 := F.out.below B2.out; have y7 := y6.f.fb.2.2.1; clear y6 r2 n2 hb2 bs))
         | (at_builtin; go_loud (refine wp_oneG (W := V2.setCell ⟨wr.heap.size, 5, none⟩ (.slice a2 nv c2)) (news := [.int .i64 xo, .int .i64 xa, .int .i64 xb, .int .i64 xc, .slice a1 nl c1, .slice a2 nv c2]) infoInsn Tryz.underlying46 rfl (by decide) A3.out.o (heap_lt A3.out.f.x) rfl _ _ rfl rfl V2.heap.size (by simp [World.setCell]) rfl rfl (by intro u hu; simp at hu; rcases hu with rfl | rfl | rfl | rfl | rfl | rfl <;> rfl) (by have := HCL.out; unfold maxLen; omega) (by have := HCL.out; have := HRC.out.1; have := HNC.out; omega) ?_); (intro g7 c7 V o7 hb7 kp7; have O7 := hid o7; have B7 := hid hb7; have K7 := hid kp7; have F7 := (show KAt V fb (fbBlk ps rs vc) from ⟨by rw [hb7.block fb (Nat.lt_succ_self _)]; exact A3.out.f.x⟩); have y8 := F7.fb.2.2.1; have z8 := F7.fb.2.2.2; clear F7 o7 hb7 kp7)))
        go_roundw
        case rel =>
         have hm1 := A3.out.hm
         have hm2 := A3.out.d.hm
         have hm3 := A3.out.hB
         have hm4 := HFZ.out
         have hk9 : ∀ b, wr.heap.size + 1 ≤ b → KI (w.heap.size + 1) fb b 3 := fun b h1 => ⟨by omega, by omega, .inl rfl⟩
         have hK := K7.out (KI (w.heap.size + 1) fb) (fun b hb h => by
          rcases h.2.2 with q | q | q | q
          ·exact absurd q (by decide)
          ·exact absurd q (by decide)
          ·exact absurd q (by decide)
          ·have := q.2; omega)
         have n1 := ((R1.out.put (Nat.lt_succ_self _) 5 (.slice a2 nv c2)).nums (K := KI (w.heap.size + 1) fb) (by rw [HNL.out]; exact HXL.out.1) (fun b h _ => hk9 b h)).kp hK
         have n2 := ((R2.out.put (Nat.lt_succ_self _) 5 (.slice a2 nv c2)).nums (K := KI (w.heap.size + 1) fb) (by rw [HNV.out]; exact HXV.out.1) (fun b h _ => hk9 b h)).kp hK
         have A4 := A3.out.app O7.out B7.out hK rfl (x := ⟨xo, xa, xb, xc, xl, xv⟩) ⟨a1, c1, a2, c2, rfl, rfl, rfl, rfl, by rw [HNL.out]; rfl, by rw [HNV.out]; rfl, n1, n2⟩
         exact ⟨j + 1, _, cd ++ [⟨xo, xa, xb, xc, xl, xv⟩], _, by omega, rfl, by rw [HCD.out, List.take_add_one, EX.out]; simp [cpI], A4, fun hb => by cases hb⟩
        case measure => simp only [intOf]; omega
       ·go_wp2_with (first
         | (at_builtin; (refine app_fresh infoInt Tryz.underlying56 rfl rfl _ _ rfl _ rfl (xl.map (Value.int .i64)) la nl lc (by rw [List.length_map]; exact HNL.out) rfl (PL.out.below (BX2.out _ _)).src (one_int _) HXL.out.1 HXL.out.2 ?_); (intro a1 c1 V1 r1 n1 hb1; have B1 := hid ((BX2.out _ _).trans (hb1.mono (BX2.out _ _).size)); have KX := hid ((K9.out.alloc _).below hb1); have R1 := hid (r1.mono (B' := wr.heap.size + 1) (by simp)); obtain ⟨y0, y1, y2, y3, y4, y5⟩ := xbx KX.out; have z4 : V1.frozen? ⟨wr.heap.size, 4, none⟩ = false := frozen_of_row _ _ _ _ _ KX.out.x; have y5p : ∀ o, ((V1.setCell ⟨wr.heap.size, 4, none⟩ (.slice a1 nl c1)).alloc o).cell? ⟨wr.heap.size, 5, none⟩ = some (.slice va nv vc') := (fun o => (xbx ((KX.out.set6_4 (.slice a1 nl c1)).alloc o)).2.2.2.2.2); clear r1 n1 hb1))
         | (at_builtin; (refine app_fresh (w := (V1.setCell ⟨wr.heap.size, 4, none⟩ (.slice a1 nl c1)).alloc (.cells #[] 3)) infoInt Tryz.underlying56 rfl rfl _ _ rfl _ rfl (xv.map (Value.int .i64)) va nv vc' (by rw [List.length_map]; exact HNV.out) rfl (PV.out.below ((B1.out.setCell (p := ⟨wr.heap.size, 4, none⟩) (Nat.le_refl _) _).alloc (by simp [World.setCell]; exact B1.out.size) _)).src (one_int _) HXV.out.1 HXV.out.2 ?_); (intro a2 c2 V2 r2 n2 hb2; have bs : Below wr.heap.size wr ((V1.setCell ⟨wr.heap.size, 4, none⟩ (.slice a1 nl c1)).alloc (.cells #[] 3)) := ((B1.out.setCell (p := ⟨wr.heap.size, 4, none⟩) (Nat.le_refl _) _).alloc (by simp [World.setCell]; exact B1.out.size) _); have B2 := hid (bs.trans (hb2.mono bs.size)); have KY := hid ((((KX.out.set6_4 (.slice a1 nl c1)).alloc _).below hb2)); have R2 := hid (r2.mono (B' := wr.heap.size + 1) (by simp [World.setCell]; have := heap_lt KX.out.x; omega)); have R1 := hid (((R1.out.put (Nat.lt_succ_self _) 4 (.slice a1 nl c1)).alloc _).below hb2); clear y0 y1 y2 y3 y4 y5 z4 y5p; obtain ⟨y0, y1, y2, y3, y4, y5⟩ := xbx KY.out; have z5 : V2.frozen? ⟨wr.heap.size, 5, none⟩ = false := frozen_of_row _ _ _ _ _ KY.out.x; have A3 := hid (F.out.below ((B2.out.setCell (p := ⟨wr.heap.size, 5, none⟩) (Nat.le_refl _) (.slice a2 nv c2)).setCell (p := ⟨wr.heap.size, 5, none⟩) (Nat.le_refl _) (.slice none 0 0))); have y6 := F.out.below B2.out; have y7 := y6.f.fb.2.2.1; clear y6 r2 n2 hb2 bs))
         | (at_builtin; go_loud (refine wp_oneG (W := (V2.setCell ⟨wr.heap.size, 5, none⟩ (.slice a2 nv c2)).setCell ⟨wr.heap.size, 5, none⟩ (.slice none 0 0)) (news := [.int .i64 xo, .int .i64 xa, .int .i64 xb, .int .i64 xc, .slice a1 nl c1, .slice none 0 0]) infoInsn Tryz.underlying46 rfl (by decide) A3.out.o (heap_lt A3.out.f.x) rfl _ _ rfl rfl V2.heap.size (by simp [World.setCell]) rfl rfl (by intro u hu; simp at hu; rcases hu with rfl | rfl | rfl | rfl | rfl | rfl <;> rfl) (by have := HCL.out; unfold maxLen; omega) (by have := HCL.out; have := HRC.out.1; have := HNC.out; omega) ?_); (intro g7 c7 V o7 hb7 kp7; have O7 := hid o7; have B7 := hid hb7; have K7 := hid kp7; have F7 := (show KAt V fb (fbBlk ps rs vc) from ⟨by rw [hb7.block fb (Nat.lt_succ_self _)]; exact A3.out.f.x⟩); have y8 := F7.fb.2.2.1; have z8 := F7.fb.2.2.2; clear F7 o7 hb7 kp7)))
        go_roundw
        case rel =>
         have hm1 := A3.out.hm
         have hm2 := A3.out.d.hm
         have hm3 := A3.out.hB
         have hm4 := HFZ.out
         have hk9 : ∀ b, wr.heap.size + 1 ≤ b → KI (w.heap.size + 1) fb b 3 := fun b h1 => ⟨by omega, by omega, .inl rfl⟩
         have hK := K7.out (KI (w.heap.size + 1) fb) (fun b hb h => by
          rcases h.2.2 with q | q | q | q
          ·exact absurd q (by decide)
          ·exact absurd q (by decide)
          ·exact absurd q (by decide)
          ·have := q.2; omega)
         have n1 := (((R1.out.put (Nat.lt_succ_self _) 5 (.slice a2 nv c2)).put (Nat.lt_succ_self _) 5 (.slice none 0 0)).nums (K := KI (w.heap.size + 1) fb) (by rw [HNL.out]; exact HXL.out.1) (fun b h _ => hk9 b h)).kp hK
         have A4 := A3.out.app O7.out B7.out hK rfl (x := ⟨xo, xa, xb, xc, xl, []⟩) ⟨a1, c1, none, 0, rfl, rfl, rfl, rfl, by rw [HNL.out]; rfl, rfl, n1, NumsK.nil _ _ _ _⟩
         have n5 := HN5.out rfl
         have fn1 := n5.2.kp F.out.r.f (Kp.below (show Below wr.heap.size wr _ from (B2.out.setCell (p := ⟨wr.heap.size, 5, none⟩) (Nat.le_refl _) (.slice a2 nv c2)).setCell (p := ⟨wr.heap.size, 5, none⟩) (Nat.le_refl _) (.slice none 0 0)))
         have fn2 := fn1.kp A3.out.r.f hK
         have hf7 : KAt V fb (fbBlk ps rs vc) := ⟨by rw [B7.out.block fb (Nat.lt_succ_self _)]; exact A3.out.f.x⟩
         have fn3 := fn2.kp (A3.out.r.f.kp hK) (Kp.set2 hf7 (fun k => k.2.1 rfl) 2 (.slice (some ⟨g7, 0, none⟩) (cd.length + 1) c7))
         exact ⟨j + 1, _, cd ++ [⟨xo, xa, xb, xc, xl, []⟩], _, by omega, rfl, by rw [HCD.out, List.take_add_one, EX.out]; simp [cpI], A4, fun _ => ⟨by rw [List.length_append]; exact n5.1.snoc, fn3⟩⟩
        case measure => simp only [intOf]; omega
      ·have hjn2 : j = nc := by omega
       have HCE := hid (show cd = code.map (cpI bare) by rw [hcd, hjn2, ← HNC.out, List.take_length])
       obtain ⟨ca2, cc2, rfl, -, -⟩ := own_form hF.o
       have hfl := HFL.out
       have x7 := hF.f.fb.1
       have x8 := hF.f.fb.2.1
       have x9 := hF.f.fb.2.2.1
       have HQ := hid hF.out
       obtain ⟨s0, s1, s2, s3, w0, w1, w2, w3⟩ := hF.d.q.pg
       clear hF hcd p1 p2 p3
       go_wp2_with (first
        | (at_builtin; (refine wp_oneG (W := wr) (news := [.int .i64 ps, .int .i64 rs, .slice ca2 cd.length cc2]) infoFunc Tryz.underlying22 rfl (by decide) F.out.out.o F.out.out.hB rfl _ _ rfl rfl _ rfl rfl rfl (by intro u hu; simp at hu; rcases hu with rfl | rfl | rfl <;> rfl) (by rw [hfl]; unfold maxLen; omega) (by have := HR.out.f; rw [HNF.out] at this; rw [hfl]; omega) ?_); (intro g7 c7 V o7 hb7 kp7; have S6 := hid (F.out.out.grown o7 hb7); have KP7 := hid (kp7 (KO (w.heap.size + 1)) (fun b _ h => absurd h.2 (by decide))); clear s0 s1 s2 s3 w0 w1 w2 w3; obtain ⟨s0, s1, s2, s3, w0, w1, w2, w3⟩ := S6.out.d.q.pg)))
       go_roundw
       case rel =>
        have hSn : Srt (fs ++ [⟨ps, rs, cd⟩]) (xs ++ [.int .i64 ps, .int .i64 rs, .slice ca2 cd.length cc2]) := HSr.out.snoc (fb := fb) F.out.r.f (fun b h => by
         rcases h.2.2 with q | q | q | q
         ·exact absurd q (by decide)
         ·exact absurd q (by decide)
         ·exact absurd q (by decide)
         ·exact q.2) (fun a' ea hne => by
         obtain ⟨g, cap', cur, hv, q1, -⟩ := own_parts F.out.o (List.length_pos_iff.2 hne)
         cases hv; cases ea; exact q1)
        have hf := (F.out.fn.kp KP7.out)
        have hR := ((F.out.rest.kp KP7.out))
        have hR2 : RsT (KO (w.heap.size + 1)) V (fs ++ [⟨ps, rs, cd⟩]) (xs ++ [.int .i64 ps, .int .i64 rs, .slice ca2 cd.length cc2]) sa' P.ss ra' P.us := ⟨hR.f.snoc rfl hf, hR.s, hR.u⟩
        have hFn : ∀ u, bare = true → FnsN (V.setCell ⟨m, 0, none⟩ u) (fs ++ [⟨ps, rs, cd⟩]) (xs ++ [.int .i64 ps, .int .i64 rs, .slice ca2 cd.length cc2]) := fun u hb => by
         have a1 := (HN5.out hb).2.kp F.out.rest.f KP7.out
         have a2 := ((HN5.out hb).1.fn (f := ⟨ps, rs, cd⟩) (u := .int .i64 ps) (v := .int .i64 rs) F.out.o rfl).kp F.out.fn KP7.out
         exact (a1.snoc hR.f a2).kp hR2.f (Kp.set2 S6.out.d.q (fun h => absurd h.2 (by decide)) 0 _)
        refine ⟨k + 1, .slice (some ⟨g7, 0, none⟩) (fs.length + 1) c7, fs ++ [⟨ps, rs, cd⟩], _, by omega, rfl, ?_, ?_, hR2.kp (Kp.set2 S6.out.d.q (fun h => absurd h.2 (by decide)) 0 _), hSn, hFn _⟩
        ·rw [HFS.out, List.take_add_one, ES.out, HCE.out]; simp [cpF]
        ·have := S6.out.put0 (.slice (some ⟨g7, 0, none⟩) (fs.length + 1) c7)
         simpa [hfl] using this
       case measure => simp only [intOf]; omega
   ·have hk2 : k = nf := by omega
    have HFE := hid (show fs = P.fs.map (cpF bare) by rw [hfs, hk2, ← HNF.out, List.take_length])
    have hlen : fs.length = nf := by rw [HFE.out, List.length_map]; exact HNF.out
    obtain ⟨fa2, fc2, rfl, -, -⟩ := own_form hC.o
    rw [hlen] at hC
    have HL := hid hlen
    have C2 := hid hC
    obtain ⟨s0, s1, s2, s3, -, -, -, -⟩ := hC.d.q.pg
    have w0 : wr.frozen? ⟨w.heap.size + 1, 0, none⟩ = false := frozen_of_row _ _ _ _ _ hC.d.b.x
    have w1 : wr.frozen? ⟨w.heap.size + 1, 1, none⟩ = false := frozen_of_row _ _ _ _ _ hC.d.b.x
    have w2 : wr.frozen? ⟨w.heap.size + 1, 2, none⟩ = false := frozen_of_row _ _ _ _ _ hC.d.b.x
    have w3 : wr.frozen? ⟨w.heap.size + 1, 3, none⟩ = false := frozen_of_row _ _ _ _ _ hC.d.b.x
    obtain ⟨t0, t1, t2, t3⟩ := pbx hC.d.b
    clear hC hRs hfs p1 p2 p3 C
    go_wp2_with fail
    have hi' : (Tryz.prog.info? 26).map (·.size) = some 4 := by kernel_rfl
    (try simp only [Exit.inBlock, Exit.then]); refine bodyPost_ret (results_cell_row rfl _ _ (w.heap.size + 1) 26 _ (0, 0) _ rfl (p_set C2.out.d.b _ _ _ _) Tryz.underlying26 rfl hi') rfl ?_
    have hm1 := C2.out.d.hm
    have hm2 := C2.out.h
    have ho := C2.out.o
    rw [← HL.out] at ho
    have hpk := pg_put5 (S := w.heap.size + 1) ho R.out HSr.out HFN.out (by omega) HPW.out.z en (.slice fa2 nf fc2) (.slice sa' ns sc') (.slice ra' nu rc') (.int .i64 en)
    refine ⟨fa2, fc2, sa', sc', ra', rc', rfl, ?_, ((((C2.out.d.be.setCell (p := ⟨w.heap.size + 1, 0, none⟩) (Nat.le_succ _) _).setCell (p := ⟨w.heap.size + 1, 1, none⟩) (Nat.le_succ _) _).setCell (p := ⟨w.heap.size + 1, 2, none⟩) (Nat.le_succ _) _).setCell (p := ⟨w.heap.size + 1, 3, none⟩) (Nat.le_succ _) _)⟩
    rw [HFE.out] at hpk
    have := hpk.wk (K' := KUp w.heap.size) (fun b T _ h => Nat.lt_of_succ_lt h)
    unfold cpP
    rw [HEN.out]
    exact this
theorem rcopy_any (bare : Bool) (fa sa ra : Option Addr) (fc sc rc : Nat) (P : Pg) (w : World) (hP : PgAt w fa sa ra P) (hR : PgR P) :
  Calls Tryz.prog 21 #[.agg #[.slice fa P.fs.length fc, .slice sa P.ss.length sc, .slice ra P.us.length rc, .int .i64 P.en], .bool bare] w (CpR bare P w) := by
 refine (rcopy_srt bare fa sa ra fc sc rc P w hP hR).mono ?_
 rintro e w' ⟨fa, fc, sa, sc, ra, rc, rfl, h, hb⟩
 exact ⟨fa, fc, sa, sc, ra, rc, rfl, h.pg, hb⟩
end Go.Proofs.YtokjkligechcoaaGreatDoor
