/- Walks of layer 16's reference: the program that bytes are: what the walk keeps. -/
import Derived.Test.YtokjkligechcoaaGreatDoorJb
import Derived.Test.YtokjkligechcoaaGreatDoorGf
set_option linter.unusedVariables false
namespace Go.Proofs.YtokjkligechcoaaGreatDoor
open Go.RowKit
attribute [local go_sem] ext_mk size_mk toList_mk get_mk take_drop_len take_tail_len ByteArray.mk_append_mk List.append_toArray
/-- so many strings, read by the reference: one that is none is not kept -/
def rstrs (l : List UInt8) : Nat → Nat → Bool → List (List UInt8) × Nat × Bool
 | 0, i, b => ([], i, b)
 | _ + 1, i, true => ([], i, true)
 | n + 1, i, false =>
  if (rcntL l i false).2.2 then ([], (rcntL l i false).2.1, true)
  else ((l.drop (rcntL l i false).2.1).take (rcntL l i false).1 :: (rstrs l n ((rcntL l i false).2.1 + (rcntL l i false).1) false).1, (rstrs l n ((rcntL l i false).2.1 + (rcntL l i false).1) false).2)
/-- a real's bytes, one by one -/
def rwordL (l : List UInt8) (i : Nat) (b : Bool) : Nat → Nat × Nat × Bool
 | 0 => (0, i, b)
 | k + 1 =>
  if l.length ≤ (rwordL l i b k).2.1 then ((rwordL l i b k).1, (rwordL l i b k).2.1, true)
  else ((rwordL l i b k).1 + (l.getD (rwordL l i b k).2.1 0).toNat * 2 ^ (8 * k), (rwordL l i b k).2.1 + 1, (rwordL l i b k).2.2)
def rrealL (l : List UInt8) (i : Nat) (b : Bool) : Int × Nat × Bool := (((rwordL l i b 8).1 : Nat), (rwordL l i b 8).2)
def rfnL (l : List UInt8) (i : Nat) (b : Bool) : Fu × Nat × Bool :=
 let p := rnatI l i b
 let r := rnatI l p.2.1 p.2.2
 let n := rcntL l r.2.1 r.2.2
 let C := listL (insnR l) n.1 n.2.1 n.2.2
 (⟨p.1, r.1, C.1⟩, C.2)
def rdecP (l : List UInt8) : Pg × Nat × Bool :=
 let en := rnatI l 0 false
 let ns := rcntL l en.2.1 en.2.2
 let ST := rstrs l ns.1 ns.2.1 ns.2.2
 let nr := rcntL l ST.2.1 ST.2.2
 let UT := listL (rrealL l) nr.1 nr.2.1 nr.2.2
 let nf := rcntL l UT.2.1 UT.2.2
 let FT := listL (rfnL l) nf.1 nf.2.1 nf.2.2
 (⟨FT.1, ST.1, UT.1, en.1⟩, FT.2)
/-- what the reference's Decode answers -/
noncomputable def rdecodeL (l : List UInt8) : Pg × Int :=
 if 16777216 < l.length then (pg0, 2)
 else if (rdecP l).2.2 = true ∨ (rdecP l).2.1 ≠ l.length ∨ (checkL (rdecP l).1).2.2 ≠ 0 then (pg0, 163) else ((rdecP l).1, 0)
theorem rstrs_zero (l : List UInt8) (i : Nat) (b : Bool) : rstrs l 0 i b = ([], i, b) := rfl
theorem rstrs_bad (l : List UInt8) (n i : Nat) : rstrs l n i true = ([], i, true) := by cases n <;> rfl
theorem rwordL_lt (l : List UInt8) (i : Nat) (b : Bool) : ∀ k, (rwordL l i b k).1 < 2 ^ (8 * k)
 | 0 => Nat.lt_of_lt_of_le Nat.zero_lt_one (Nat.one_le_two_pow)
 | k + 1 => by
  have h := rwordL_lt l i b k
  have h1 := (l.getD (rwordL l i b k).2.1 0).toNat_lt
  have h2 : (l.getD (rwordL l i b k).2.1 0).toNat * 2 ^ (8 * k) ≤ 255 * 2 ^ (8 * k) := Nat.mul_le_mul_right _ (by omega)
  have h3 : 2 ^ (8 * (k + 1)) = 256 * 2 ^ (8 * k) := by rw [show 8 * (k + 1) = 8 * k + 8 by omega, Nat.pow_add]; omega
  unfold rwordL
  split
  ·show (rwordL l i b k).1 < _; omega
  ·show (rwordL l i b k).1 + _ < _; omega
theorem rwordL_le (l : List UInt8) (i : Nat) (b : Bool) (h : i ≤ l.length) : ∀ k, (rwordL l i b k).2.1 ≤ l.length
 | 0 => h
 | k + 1 => by
  have h1 := rwordL_le l i b h k
  unfold rwordL
  split
  ·exact h1
  ·show (rwordL l i b k).2.1 + 1 ≤ _; omega
theorem rstrs_le (l : List UInt8) : ∀ n i b, i ≤ l.length → (rstrs l n i b).2.1 ≤ l.length
 | 0, i, b, h => h
 | n + 1, i, true, h => h
 | n + 1, i, false, h => by
  have h1 := rcntL_le l i false h
  have h2 := rcntL_fit l i false
  unfold rstrs
  split
  ·exact h1
  ·exact rstrs_le l n _ _ (by omega)
theorem rstrs_len (l : List UInt8) : ∀ n i b, ∀ s ∈ (rstrs l n i b).1, s.length ≤ l.length
 | 0, i, b, s, h => by simp [rstrs] at h
 | n + 1, i, true, s, h => by simp [rstrs] at h
 | n + 1, i, false, s, h => by
  unfold rstrs at h
  split at h
  ·simp at h
  ·rcases List.mem_cons.1 h with rfl | h
   ·simp; omega
   ·exact rstrs_len l n _ _ s h
theorem rrealL_le (l : List UInt8) (i : Nat) (b : Bool) (h : i ≤ l.length) : (rrealL l i b).2.1 ≤ l.length := rwordL_le l i b h 8
theorem rfnL_le (l : List UInt8) (i : Nat) (b : Bool) (h : i ≤ l.length) : (rfnL l i b).2.1 ≤ l.length := by
 unfold rfnL
 exact listL_le (fun i b hi => insnR_le l i b hi) _ _ _ (rcntL_le l _ _ (rnatI_le l _ _ (rnatI_le l _ _ h)))
/-- what Decode keeps: the result's box, the reader, the program's box -/
structure EcAt (w W : World) (m : Nat) (sl : Value) (i : Nat) (bad : Bool) (v0 v1 v2 : Value) (en : Int) : Prop where
 be : Below w.heap.size w W
 r : KAt W w.heap.size rzBlk
 b : KAt W (w.heap.size + 1) (rbBlk sl i bad)
 q : KAt W m (pgBlk v0 v1 v2 en)
 hm : w.heap.size + 1 < m
section
variable {w W V : World} {m : Nat} {sl : Value} {i : Nat} {bad : Bool} {v0 v1 v2 : Value} {en : Int}
theorem EcAt.call (h : EcAt w W m sl i bad v0 v1 v2 en) {j : Nat} {bad' : Bool} (k : BxAt W V (w.heap.size + 1) (rbBlk sl j bad')) : EcAt w V m sl j bad' v0 v1 v2 en := by
 have h1 := h.hm
 exact ⟨h.be.trans (k.be.mono (Nat.le_succ _)), k.blk h.r (by omega), k.k, k.blk h.q (by omega), h1⟩
theorem EcAt.low (h : EcAt w W m sl i bad v0 v1 v2 en) {B : Nat} (hb : Below B W V) (hB : m < B) : EcAt w V m sl i bad v0 v1 v2 en := by
 have h1 := h.hm
 exact ⟨h.be.trans (hb.mono (by omega)), ⟨by rw [hb.block _ (by omega)]; exact h.r.x⟩, ⟨by rw [hb.block _ (by omega)]; exact h.b.x⟩, ⟨by rw [hb.block _ hB]; exact h.q.x⟩, h1⟩
theorem EcAt.below (h : EcAt w W m sl i bad v0 v1 v2 en) (hb : Below W.heap.size W V) : EcAt w V m sl i bad v0 v1 v2 en := h.low hb (heap_lt h.q.x)
theorem EcAt.put0 (h : EcAt w W m sl i bad v0 v1 v2 en) (u : Value) : EcAt w (W.setCell ⟨m, 0, none⟩ u) m sl i bad u v1 v2 en := by
 have h1 := h.hm
 exact ⟨h.be.setCell (p := ⟨m, 0, none⟩) (by show _ ≤ m; omega) _, h.r.put ⟨m, 0, none⟩ (by show _ ≠ m; omega) u, h.b.put ⟨m, 0, none⟩ (by show _ ≠ m; omega) u, ⟨heap_setCell_same (i := 0) _ _ _ _ u h.q.x⟩, h1⟩
theorem EcAt.put1 (h : EcAt w W m sl i bad v0 v1 v2 en) (u : Value) : EcAt w (W.setCell ⟨m, 1, none⟩ u) m sl i bad v0 u v2 en := by
 have h1 := h.hm
 exact ⟨h.be.setCell (p := ⟨m, 1, none⟩) (by show _ ≤ m; omega) _, h.r.put ⟨m, 1, none⟩ (by show _ ≠ m; omega) u, h.b.put ⟨m, 1, none⟩ (by show _ ≠ m; omega) u, ⟨heap_setCell_same (i := 1) _ _ _ _ u h.q.x⟩, h1⟩
theorem EcAt.put2 (h : EcAt w W m sl i bad v0 v1 v2 en) (u : Value) : EcAt w (W.setCell ⟨m, 2, none⟩ u) m sl i bad v0 v1 u en := by
 have h1 := h.hm
 exact ⟨h.be.setCell (p := ⟨m, 2, none⟩) (by show _ ≤ m; omega) _, h.r.put ⟨m, 2, none⟩ (by show _ ≠ m; omega) u, h.b.put ⟨m, 2, none⟩ (by show _ ≠ m; omega) u, ⟨heap_setCell_same (i := 2) _ _ _ _ u h.q.x⟩, h1⟩
/-- the reader is moved -/
theorem EcAt.seek (h : EcAt w W m sl i bad v0 v1 v2 en) (j : Nat) : EcAt w (W.setCell ⟨w.heap.size + 1, 1, none⟩ (.int .i64 (j : Int))) m sl j bad v0 v1 v2 en := by
 have h1 := h.hm
 exact ⟨h.be.setCell (p := ⟨w.heap.size + 1, 1, none⟩) (Nat.le_succ _) _, h.r.put ⟨w.heap.size + 1, 1, none⟩ (by show _ ≠ w.heap.size + 1; omega) _, ⟨heap_setCell_same (i := 1) _ _ _ _ _ h.b.x⟩, h.q.put ⟨w.heap.size + 1, 1, none⟩ (by show m ≠ w.heap.size + 1; omega) _, h1⟩
theorem EcAt.rd (h : EcAt w W m sl i bad v0 v1 v2 en) : BxAt W W (w.heap.size + 1) (rbBlk sl i bad) := BxAt.start h.b
theorem EcAt.bys (h : EcAt w W m sl i bad v0 v1 v2 en) {a : Option Addr} {l : List UInt8} (hB : BysAt w a l) : BysAt W a l := hB.below h.be
end
/-- and a row of the call's own -/
structure EoAt (w W : World) (m : Nat) (sl : Value) (i : Nat) (bad : Bool) (v0 v1 v2 : Value) (en : Int) (B : Nat) (T : TypeId) (size : Nat) (v : Value) (n : Nat) (xs : List Value) : Prop where
 d : EcAt w W m sl i bad v0 v1 v2 en
 o : W.ownsRow B T size v n xs
 h : m < B
 hB : B ≤ W.heap.size
section
variable {w W V : World} {m : Nat} {sl : Value} {i : Nat} {bad : Bool} {v0 v1 v2 : Value} {en : Int} {B : Nat} {T : TypeId} {size : Nat} {v : Value} {n : Nat} {xs : List Value}
theorem EoAt.call (h : EoAt w W m sl i bad v0 v1 v2 en B T size v n xs) {j : Nat} {bad' : Bool} (k : BxAt W V (w.heap.size + 1) (rbBlk sl j bad')) : EoAt w V m sl j bad' v0 v1 v2 en B T size v n xs := by
 have h1 := h.h
 have h2 := h.d.hm
 exact ⟨h.d.call k, row_bx h.o (by omega) k, h1, Nat.le_trans h.hB k.be.size⟩
theorem EoAt.below (h : EoAt w W m sl i bad v0 v1 v2 en B T size v n xs) (hb : Below W.heap.size W V) : EoAt w V m sl i bad v0 v1 v2 en B T size v n xs := ⟨h.d.below hb, row_below h.o hb, h.h, Nat.le_trans h.hB hb.size⟩
theorem EoAt.put0 (h : EoAt w W m sl i bad v0 v1 v2 en B T size v n xs) (u : Value) : EoAt w (W.setCell ⟨m, 0, none⟩ u) m sl i bad u v1 v2 en B T size v n xs := ⟨h.d.put0 u, ownsRow_setCell_below h.o (a := ⟨m, 0, none⟩) h.h u, h.h, by simpa [World.setCell] using h.hB⟩
theorem EoAt.put1 (h : EoAt w W m sl i bad v0 v1 v2 en B T size v n xs) (u : Value) : EoAt w (W.setCell ⟨m, 1, none⟩ u) m sl i bad v0 u v2 en B T size v n xs := ⟨h.d.put1 u, ownsRow_setCell_below h.o (a := ⟨m, 1, none⟩) h.h u, h.h, by simpa [World.setCell] using h.hB⟩
theorem EoAt.put2 (h : EoAt w W m sl i bad v0 v1 v2 en B T size v n xs) (u : Value) : EoAt w (W.setCell ⟨m, 2, none⟩ u) m sl i bad v0 v1 u en B T size v n xs := ⟨h.d.put2 u, ownsRow_setCell_below h.o (a := ⟨m, 2, none⟩) h.h u, h.h, by simpa [World.setCell] using h.hB⟩
theorem EoAt.seek (h : EoAt w W m sl i bad v0 v1 v2 en B T size v n xs) (j : Nat) : EoAt w (W.setCell ⟨w.heap.size + 1, 1, none⟩ (.int .i64 (j : Int))) m sl j bad v0 v1 v2 en B T size v n xs := by
 have h1 := h.h
 have h2 := h.d.hm
 exact ⟨h.d.seek j, ownsRow_setCell_below h.o (a := ⟨w.heap.size + 1, 1, none⟩) (by show w.heap.size + 1 < B; omega) _, h1, by simpa [World.setCell] using h.hB⟩
theorem EoAt.start (h : EcAt w W m sl i bad v0 v1 v2 en) (T : TypeId) (size : Nat) : EoAt w W m sl i bad v0 v1 v2 en W.heap.size T size (.slice none 0 0) 0 [] :=
 ⟨h, World.ownsRow_nil _ _ _ _, heap_lt h.q.x, Nat.le_refl _⟩
/-- behind an append -/
theorem EoAt.grown (h : EoAt w W m sl i bad v0 v1 v2 en B T size v n xs) {v' : Value} {n' : Nat} {xs' : List Value} (ho : V.ownsRow B T size v' n' xs') (hb : Below B W V) : EoAt w V m sl i bad v0 v1 v2 en B T size v' n' xs' :=
 ⟨h.d.low hb h.h, ho, h.h, Nat.le_trans h.hB hb.size⟩
end
/-- within the reading of a function's code -/
structure EfAt (w W : World) (m : Nat) (sl : Value) (i : Nat) (bad : Bool) (v1 v2 : Value) (en : Int) (B : Nat) (v : Value) (fs : List Fu) (xs : List Value) (sa : Option Addr) (ss : List (List UInt8)) (ra : Option Addr) (us : List Int) (fb : Nat) (ps rs : Int) (vc : Value) (code : List In) (ys : List Value) : Prop where
 d : EcAt w W m sl i bad v v1 v2 en
 oo : W.ownsRow B 48 3 v fs.length xs
 ov : ∀ g, v.ownBlock = some g → g < fb
 f : KAt W fb (fbBlk ps rs vc)
 o : W.ownsRow (fb + 1) 58 6 vc code.length ys
 r : RsT (KI m fb) W fs xs sa ss ra us
 c : CdV (KI m fb) W code ys
 hm : m < B
 hB : B ≤ fb
section
variable {w W V : World} {m : Nat} {sl : Value} {i : Nat} {bad : Bool} {v1 v2 : Value} {en : Int} {B : Nat} {v : Value} {fs : List Fu} {xs : List Value} {sa : Option Addr} {ss : List (List UInt8)} {ra : Option Addr} {us : List Int} {fb : Nat} {ps rs : Int} {vc : Value} {code : List In} {ys : List Value}
theorem EfAt.start (h : EoAt w W m sl i bad v v1 v2 en B 48 3 v fs.length xs) (r : RsT (KO m) W fs xs sa ss ra us) (ps rs : Int) :
  EfAt w (W.alloc (fbBlk ps rs (.slice none 0 0))) m sl i bad v1 v2 en B v fs xs sa ss ra us W.heap.size ps rs (.slice none 0 0) [] [] := by
 have hA : Below W.heap.size W (W.alloc (fbBlk ps rs (.slice none 0 0))) := (Below.refl _ _).alloc (Nat.le_refl _) _
 have r2 : RsT (KI m W.heap.size) W fs xs sa ss ra us := r.wk (fun b hb k => ⟨k.1, by omega, .inl rfl⟩) (fun b hb k => ⟨k.1, by omega, .inr (.inr (.inr ⟨rfl, hb⟩))⟩) (fun b hb k => ⟨k.1, by omega, .inr (.inl rfl)⟩) (fun b hb k => ⟨k.1, by omega, .inr (.inr (.inl rfl))⟩)
 exact ⟨h.d.below hA, row_below h.o hA, fun g hg => (h.o.lt g hg).2, KAt.new _ _, World.ownsRow_nil _ _ _ _, r2.kp (Kp.below hA), CdV.nil _ _, h.h, h.hB⟩
theorem EfAt.call (h : EfAt w W m sl i bad v1 v2 en B v fs xs sa ss ra us fb ps rs vc code ys) {j : Nat} {bad' : Bool} (k : BxAt W V (w.heap.size + 1) (rbBlk sl j bad')) : EfAt w V m sl j bad' v1 v2 en B v fs xs sa ss ra us fb ps rs vc code ys := by
 have h1 := h.hm
 have h2 := h.d.hm
 have h3 := h.hB
 have q : Kp (KI m fb) W V := Kp.bx k (fun T h => by have := h.1; omega)
 exact ⟨h.d.call k, row_bx h.oo (by omega) k, h.ov, k.blk h.f (by omega), row_bx h.o (by omega) k, h.r.kp q, h.c.kp q, h1, h3⟩
theorem EfAt.below (h : EfAt w W m sl i bad v1 v2 en B v fs xs sa ss ra us fb ps rs vc code ys) (hb : Below W.heap.size W V) : EfAt w V m sl i bad v1 v2 en B v fs xs sa ss ra us fb ps rs vc code ys :=
 ⟨h.d.below hb, row_below h.oo hb, h.ov, h.f.below hb, row_below h.o hb, h.r.kp (Kp.below hb), h.c.kp (Kp.below hb), h.hm, h.hB⟩
theorem EfAt.app (h : EfAt w W m sl i bad v1 v2 en B v fs xs sa ss ra us fb ps rs vc code ys) {vc' : Value} {x : In} {zs : List Value} (ho : V.ownsRow (fb + 1) 58 6 vc' (code.length + 1) (ys ++ zs)) (hb : Below (fb + 1) W V) (hk : Kp (KI m fb) W V) (hz : zs.length = 6) (hx : InV (KI m fb) V x (fun k => zs[k]?)) :
  EfAt w (V.setCell ⟨fb, 2, none⟩ vc') m sl i bad v1 v2 en B v fs xs sa ss ra us fb ps rs vc' (code ++ [x]) (ys ++ zs) := by
 have h1 := h.hm
 have h2 := h.d.hm
 have h3 := h.hB
 have hf : KAt V fb (fbBlk ps rs vc) := ⟨by rw [hb.block fb (Nat.lt_succ_self _)]; exact h.f.x⟩
 have hs : Kp (KI m fb) V (V.setCell ⟨fb, 2, none⟩ vc') := Kp.set2 hf (fun k => k.2.1 rfl) 2 vc'
 have hbs : Below fb V (V.setCell ⟨fb, 2, none⟩ vc') := (Below.refl fb V).setCell (p := ⟨fb, 2, none⟩) (Nat.le_refl _) _
 refine ⟨(h.d.low hb (by omega)).low hbs (by omega), own_low (own_low h.oo (fun g hg => Nat.lt_succ_of_lt (h.ov g hg)) hb) h.ov hbs, h.ov, ⟨heap_setCell_same (i := 2) _ _ _ _ vc' hf.x⟩, ?_, (h.r.kp hk).kp hs, ((h.c.kp hk).snoc hz hx).kp hs, h1, h3⟩
 have := ownsRow_setCell_below ho (a := ⟨fb, 2, none⟩) (Nat.lt_succ_self fb) vc'
 simpa using this
/-- the function that has been read, at rest -/
theorem EfAt.fn (h : EfAt w W m sl i bad v1 v2 en B v fs xs sa ss ra us fb ps rs vc code ys) : FnV (KO m) W ⟨ps, rs, code⟩ (fun k => [Value.int .i64 ps, .int .i64 rs, vc][k]?) := by
 have h1 := h.hm
 have h3 := h.hB
 rcases Nat.eq_zero_or_pos code.length with h0 | h0
 ·obtain rfl := List.length_eq_zero_iff.1 h0
  obtain ⟨a, cap, rfl, q1, q2⟩ := own_form h.o
  exact ⟨a, cap, rfl, rfl, rfl, q2, .inl rfl⟩
 ·obtain ⟨g, cap, cur, rfl, q1, q2, q3, q4, q5⟩ := own_parts h.o h0
  refine ⟨_, cap, rfl, rfl, rfl, q4, .inr ⟨g, cur, rfl, ⟨by omega, .inr (.inl rfl)⟩, q2, fun i x e => ?_⟩⟩
  have hi : i < code.length := by
   rcases Nat.lt_or_ge i code.length with hi | hi
   ·exact hi
   ·rw [List.getElem?_eq_none hi] at e; cases e
  exact ((h.c.2 i x e).wk (fun b _ k => ⟨k.1, .inl rfl⟩)).same (fun k hk => q5 _ (by omega))
theorem EfAt.rest (h : EfAt w W m sl i bad v1 v2 en B v fs xs sa ss ra us fb ps rs vc code ys) : RsT (KO m) W fs xs sa ss ra us :=
 h.r.wk (fun b _ k => ⟨k.1, .inl rfl⟩) (fun b _ k => ⟨k.1, .inr (.inl rfl)⟩) (fun b _ k => ⟨k.1, .inr (.inr (.inl rfl))⟩) (fun b _ k => ⟨k.1, .inr (.inr (.inr rfl))⟩)
theorem EfAt.out (h : EfAt w W m sl i bad v1 v2 en B v fs xs sa ss ra us fb ps rs vc code ys) : EoAt w W m sl i bad v v1 v2 en B 48 3 v fs.length xs := ⟨h.d, h.oo, h.hm, Nat.le_trans h.hB (Nat.le_of_lt (heap_lt h.f.x))⟩
end
theorem ec_start {w w1 : World} {sl : Value} {j : Nat} {b' : Bool} (en : Int) (h : BxAt ((w.alloc rzBlk).alloc (rbBlk sl 0 false)) w1 (w.heap.size + 1) (rbBlk sl j b')) :
  EcAt w (w1.alloc (pgBlk (.slice none 0 0) (.slice none 0 0) (.slice none 0 0) en)) w1.heap.size sl j b' (.slice none 0 0) (.slice none 0 0) (.slice none 0 0) en := by
 have hz : (w.alloc rzBlk).heap.size = w.heap.size + 1 := by simp
 have hb0 : Below w.heap.size w ((w.alloc rzBlk).alloc (rbBlk sl 0 false)) := ((Below.refl _ _).alloc (Nat.le_refl _) _).alloc (by simp) _
 have kr : KAt ((w.alloc rzBlk).alloc (rbBlk sl 0 false)) w.heap.size rzBlk := (KAt.new w rzBlk).alloc _
 have hl := heap_lt h.k.x
 have hA : Below w1.heap.size w1 (w1.alloc (pgBlk (.slice none 0 0) (.slice none 0 0) (.slice none 0 0) en)) := (Below.refl _ _).alloc (Nat.le_refl _) _
 have hbe := h.be.mono (Nat.le_succ w.heap.size)
 exact ⟨(hb0.trans hbe).trans (hA.mono (by omega)), (h.blk kr (by omega)).below hA, h.k.below hA, KAt.new _ _, hl⟩
end Go.Proofs.YtokjkligechcoaaGreatDoor
