/- Laws of layer 21, walked: how what was printed is parted plays no part. -/
import Derived.Test.YtkjdigojajcgkaaDoorPl1
import Derived.Deep.RegionWith
namespace Go.Proofs.YtkjdigojajcgkaaDoor
open Go.RowKit
open Pt (Oc)
set_option linter.unusedVariables false
attribute [local go_sem] ext_mk size_mk toList_mk get_mk take_drop_len take_tail_len ByteArray.mk_append_mk List.append_toArray

theorem bcell {W w1 : World} (hb : Below W.heap.size W w1) : (∀ b o, b < W.heap.size → w1.cell? ⟨b, o, none⟩ = W.cell? ⟨b, o, none⟩) ∧ (∀ b o, b < W.heap.size → w1.frozen? ⟨b, o, none⟩ = W.frozen? ⟨b, o, none⟩) :=
  ⟨fun b o h => hb.cell (p := ⟨b, o, none⟩) h, fun b o h => hb.frozen (p := ⟨b, o, none⟩) h⟩

theorem bx0 {w : World} {cs : Array Value} {t : TypeId} {o2 : Obj} {i : Nat} {v : Value} (h : cs[i]? = some v) : World.cell? ((w.alloc (.cells cs t)).alloc o2).drew ⟨w.heap.size, i, none⟩ = some v := by
  have hb : Below (w.alloc (.cells cs t)).heap.size (w.alloc (.cells cs t)) ((w.alloc (.cells cs t)).alloc o2).drew := ((Below.refl _ _).alloc (Nat.le_refl _) _).drew
  rw [hb.cell (p := ⟨w.heap.size, i, none⟩) (by simp)]
  simp [h]

theorem bx1 {w : World} {cs : Array Value} {t : TypeId} {o1 : Obj} {i : Nat} {v : Value} (h : cs[i]? = some v) : World.cell? ((w.alloc o1).alloc (.cells cs t)).drew ⟨w.heap.size + 1, i, none⟩ = some v := by
  have e : (w.alloc o1).heap.size = w.heap.size + 1 := by simp
  have gen : ∀ W : World, World.cell? (W.alloc (.cells cs t)) ⟨W.heap.size, i, none⟩ = some v := fun W => by simp [h]
  have g := gen (w.alloc o1)
  rw [e] at g
  exact g

/-- what region 1 holds: all below the two boxes' end is as it was -/
structure RowsP (n : Nat) (W0 W : World) : Prop where
  be : Below n W0 W
  sz : n ≤ W0.heap.size

theorem RowsP.le {n : Nat} {W0 W : World} (h : RowsP n W0 W) : n ≤ W.heap.size := Nat.le_trans h.sz h.be.size

theorem RowsP.keep {n : Nat} {W0 W W' : World} (h : RowsP n W0 W) (hb : Below W.heap.size W W') : RowsP n W0 W' := ⟨h.be.trans (hb.mono h.le), h.sz⟩

theorem RowsP.alloc {n : Nat} {W0 W : World} (h : RowsP n W0 W) (o : Obj) : RowsP n W0 (W.alloc o) := ⟨h.be.alloc h.le o, h.sz⟩

theorem RowsP.set {n : Nat} {W0 W : World} (h : RowsP n W0 W) {p : Addr} (hp : n ≤ p.block) (v : Value) : RowsP n W0 (W.setCell p v) := ⟨h.be.setCell hp v, h.sz⟩

theorem RowsP.cell {n : Nat} {W0 W : World} {p : Addr} {v : Value} (h : RowsP n W0 W) (hp : p.block < n) (h0 : W0.cell? p = some v) : W.cell? p = some v := by rw [h.be.cell hp]; exact h0

theorem start2p {w : World} {o1 o2 : Obj} : RowsP (w.heap.size + 2) ((w.alloc o1).alloc o2).drew ((w.alloc o1).alloc o2).drew := ⟨Below.refl _ _, by simp⟩

/-- the third outcome: what was printed in one part -/
structure ThirdP (n : Nat) (W0 : World) (d s : Nat) (f : List UInt8) (t : Int) (x : List UInt8) (k : Int) (W : World) : Prop where
  rp : RowsP n W0 W
  ld : d < W.heap.size
  ls : s < W.heap.size
  c0 : W.cell? ⟨d, 0, none⟩ = some (.slice (some ⟨s, 0, none⟩) 1 1)
  c1 : W.cell? ⟨d, 1, none⟩ = some (.int .i64 t)
  c2 : W.cell? ⟨d, 2, none⟩ = some (.string ⟨x.toArray⟩)
  c3 : W.cell? ⟨d, 3, none⟩ = some (.int .i64 k)
  cs : W.cell? ⟨s, 0, none⟩ = some (.string ⟨f.toArray⟩)

theorem cell_new {W : World} {C : Array Value} {t : TypeId} {i : Nat} {v : Value} (h : C[i]? = some v) : World.cell? (W.alloc (.cells C t)) ⟨W.heap.size, i, none⟩ = some v := by simp [h]

theorem cell_new1 {W : World} {o : Obj} {C : Array Value} {t : TypeId} {i : Nat} {v : Value} (h : C[i]? = some v) : World.cell? ((W.alloc o).alloc (.cells C t)) ⟨W.heap.size + 1, i, none⟩ = some v := by
  have e : (W.alloc o).heap.size = W.heap.size + 1 := by simp
  have g := cell_new (W := W.alloc o) (t := t) h
  rw [e] at g
  exact g

theorem cell_old {W : World} {o : Obj} {b i : Nat} {v : Value} (h : W.cell? ⟨b, i, none⟩ = some v) (hb : b < W.heap.size) : World.cell? (W.alloc o) ⟨b, i, none⟩ = some v := by
  rw [((Below.refl W.heap.size W).alloc (Nat.le_refl _) o).cell (p := ⟨b, i, none⟩) hb]; exact h

theorem third1 {n : Nat} {W0 W : World} {f : List UInt8} {t : Int} {x : List UInt8} {k : Int} {ty ts : TypeId} (h : RowsP n W0 W) :
    ThirdP n W0 (W.heap.size + 1) W.heap.size f t x k ((W.alloc (.cells #[.string ⟨f.toArray⟩] ts)).alloc (.cells #[.slice (some ⟨W.heap.size, 0, none⟩) 1 1, .int .i64 t, .string ⟨x.toArray⟩, .int .i64 k] ty)) :=
  ⟨(h.alloc _).alloc _, by simp, by simp; omega, cell_new1 rfl, cell_new1 rfl, cell_new1 rfl, cell_new1 rfl, cell_old (cell_new rfl) (by simp)⟩

theorem third2 {n : Nat} {W0 W : World} {f : List UInt8} {t : Int} {x : List UInt8} {k : Int} {ty ts : TypeId} (h : RowsP n W0 W) :
    ThirdP n W0 W.heap.size (W.heap.size + 1) f t x k ((W.alloc (.cells #[.slice (some ⟨W.heap.size + 1, 0, none⟩) 1 1, .int .i64 t, .string ⟨x.toArray⟩, .int .i64 k] ty)).alloc (.cells #[.string ⟨f.toArray⟩] ts)) :=
  ⟨(h.alloc _).alloc _, by simp; omega, by simp, cell_old (cell_new rfl) (by simp), cell_old (cell_new rfl) (by simp), cell_old (cell_new rfl) (by simp), cell_old (cell_new rfl) (by simp), cell_new1 rfl⟩

theorem set_o {V : World} {d i k : Nat} {v x : Value} (h : V.cell? ⟨d, k, none⟩ = some v) (hn : i ≠ k) : (V.setCell ⟨d, i, none⟩ x).cell? ⟨d, k, none⟩ = some v := by
  rw [World.cell?_setCell_other _ _ _ _ (by intro e; cases e; exact hn rfl)]; exact h

theorem set_s {V : World} {d k : Nat} {v x : Value} (h : V.cell? ⟨d, k, none⟩ = some v) : (V.setCell ⟨d, k, none⟩ x).cell? ⟨d, k, none⟩ = some x := World.cell?_setCell_same _ _ _ h

theorem set_f {V : World} {d b i k : Nat} {v x : Value} (h : V.cell? ⟨b, k, none⟩ = some v) (hn : d ≠ b) : (V.setCell ⟨d, i, none⟩ x).cell? ⟨b, k, none⟩ = some v := by
  rw [World.cell?_setCell_far _ _ _ _ hn]; exact h

theorem third3 {n : Nat} {W0 W : World} {f : List UInt8} {t : Int} {x : List UInt8} {k : Int} {ts : TypeId} {d : Nat} {v0 v1 v2 v3 : Value} (h : RowsP n W0 W) (hd : n ≤ d) (hl : d < W.heap.size)
    (h0 : W.cell? ⟨d, 0, none⟩ = some v0) (h1 : W.cell? ⟨d, 1, none⟩ = some v1) (h2 : W.cell? ⟨d, 2, none⟩ = some v2) (h3 : W.cell? ⟨d, 3, none⟩ = some v3) :
    ThirdP n W0 d W.heap.size f t x k (((((W.alloc (.cells #[.string ⟨f.toArray⟩] ts)).setCell ⟨d, 0, none⟩ (.slice (some ⟨W.heap.size, 0, none⟩) 1 1)).setCell ⟨d, 1, none⟩ (.int .i64 t)).setCell ⟨d, 2, none⟩ (.string ⟨x.toArray⟩)).setCell ⟨d, 3, none⟩ (.int .i64 k)) := by
  have g0 := cell_old (o := .cells #[.string ⟨f.toArray⟩] ts) h0 hl
  have g1 := cell_old (o := .cells #[.string ⟨f.toArray⟩] ts) h1 hl
  have g2 := cell_old (o := .cells #[.string ⟨f.toArray⟩] ts) h2 hl
  have g3 := cell_old (o := .cells #[.string ⟨f.toArray⟩] ts) h3 hl
  have gs := cell_new (W := W) (C := #[.string ⟨f.toArray⟩]) (t := ts) (i := 0) rfl
  have hne : d ≠ W.heap.size := by omega
  refine ⟨((((h.alloc _).set hd _).set hd _).set hd _).set hd _, ?_, ?_, ?_, ?_, ?_, ?_, ?_⟩
  · simp; omega
  · simp
  · exact set_o (set_o (set_o (set_s g0) (by decide)) (by decide)) (by decide)
  · exact set_o (set_o (set_s (set_o g1 (by decide))) (by decide)) (by decide)
  · exact set_o (set_s (set_o (set_o g2 (by decide)) (by decide))) (by decide)
  · exact set_s (set_o (set_o (set_o g3 (by decide)) (by decide)) (by decide))
  · exact set_f (set_f (set_f (set_f gs hne) hne) hne) hne

/-- what region 2 holds beside three boxed outcomes' cells -/
structure RowsD (w : World) (n d : Nat) (pa pb pc : Option Addr) (la lb lc : List (List UInt8)) (W : World) : Prop where
  lt : n + 1 < W.heap.size
  ld : d < W.heap.size
  ra : StrsAt W pa la
  rb : StrsAt W pb lb
  rc : StrsAt W pc lc
  be : Below w.heap.size w W

theorem RowsD.keep {w W W' : World} {n d : Nat} {pa pb pc : Option Addr} {la lb lc : List (List UInt8)} (h : RowsD w n d pa pb pc la lb lc W) (hb : Below W.heap.size W W') : RowsD w n d pa pb pc la lb lc W' :=
  ⟨Nat.lt_of_lt_of_le h.lt hb.size, Nat.lt_of_lt_of_le h.ld hb.size, strsAt_below h.ra hb, strsAt_below h.rb hb, strsAt_below h.rc hb, h.be.trans (hb.mono h.be.size)⟩

theorem RowsD.cellA {w W W' : World} {n d k : Nat} {va : Value} {pa pb pc : Option Addr} {la lb lc : List (List UInt8)} (h : RowsD w n d pa pb pc la lb lc W) (h1 : W.cell? ⟨n, k, none⟩ = some va) (hb : Below W.heap.size W W') : W'.cell? ⟨n, k, none⟩ = some va := by
  rw [hb.cell (p := ⟨n, k, none⟩) (show n < _ by have := h.lt; omega)]; exact h1

theorem RowsD.cellB {w W W' : World} {n d k : Nat} {va : Value} {pa pb pc : Option Addr} {la lb lc : List (List UInt8)} (h : RowsD w n d pa pb pc la lb lc W) (h1 : W.cell? ⟨n + 1, k, none⟩ = some va) (hb : Below W.heap.size W W') : W'.cell? ⟨n + 1, k, none⟩ = some va := by
  rw [hb.cell (p := ⟨n + 1, k, none⟩) (show n + 1 < _ by have := h.lt; omega)]; exact h1

theorem RowsD.cellC {w W W' : World} {n d k : Nat} {va : Value} {pa pb pc : Option Addr} {la lb lc : List (List UInt8)} (h : RowsD w n d pa pb pc la lb lc W) (h1 : W.cell? ⟨d, k, none⟩ = some va) (hb : Below W.heap.size W W') : W'.cell? ⟨d, k, none⟩ = some va := by
  rw [hb.cell (p := ⟨d, k, none⟩) h.ld]; exact h1

theorem one_at {W : World} {s : Nat} {f : List UInt8} (h : W.cell? ⟨s, 0, none⟩ = some (.string ⟨f.toArray⟩)) : ∀ i, i < [f].length → W.cell? ⟨s, 0 + i, none⟩ = some (.string ⟨([f].getD i []).toArray⟩) := by
  intro i hi
  cases i with
  | zero => exact h
  | succ j => simp at hi

theorem ocC {W : World} {s : Nat} {f : List UInt8} {t : Int} {x : List UInt8} {k : Int} (h : StrsAt W (some ⟨s, 0, none⟩) [f]) : OcAt W (.agg #[.slice (some ⟨s, 0, none⟩) 1 1, .int .i64 t, .string ⟨x.toArray⟩, .int .i64 k]) ⟨[f], t, x, k⟩ := ⟨_, 1, rfl, h, Nat.le_refl _⟩

set_option maxHeartbeats 4000000 in
set_option maxRecDepth 100000 in
theorem portsParts_walk (a b : Oc) (va vb : Value) (w : World) (hv : PortVars w) (ha : OcAt w va a) (hb : OcAt w vb b) (sa : a.out.flatten.length ≤ 140737488351232) (sb : b.out.flatten.length ≤ 140737488351232) :
    Calls Tryd.prog 6 #[va, vb] w fun e w' => e = .returned (.bool true) ∧ Below w.heap.size w w' := by
  obtain ⟨pa, ca, rfl, ha1, ha2⟩ := ha
  obtain ⟨pb, cb, rfl, hb1, hb2⟩ := hb
  have HV := Lib.hid hv
  have he0 : World.cell? ((w.alloc (.cells #[.slice pa a.out.length ca, .int .i64 a.st, .string ⟨a.exn.toArray⟩, .int .i64 a.steps] 25)).alloc (.cells #[.slice pb b.out.length cb, .int .i64 b.st, .string ⟨b.exn.toArray⟩, .int .i64 b.steps] 25)).drew ⟨w.heap.size, 0, none⟩ = some (.slice pa a.out.length ca) := bx0 rfl
  have he1 : World.cell? ((w.alloc (.cells #[.slice pa a.out.length ca, .int .i64 a.st, .string ⟨a.exn.toArray⟩, .int .i64 a.steps] 25)).alloc (.cells #[.slice pb b.out.length cb, .int .i64 b.st, .string ⟨b.exn.toArray⟩, .int .i64 b.steps] 25)).drew ⟨w.heap.size, 1, none⟩ = some (.int .i64 a.st) := bx0 rfl
  have he2 : World.cell? ((w.alloc (.cells #[.slice pa a.out.length ca, .int .i64 a.st, .string ⟨a.exn.toArray⟩, .int .i64 a.steps] 25)).alloc (.cells #[.slice pb b.out.length cb, .int .i64 b.st, .string ⟨b.exn.toArray⟩, .int .i64 b.steps] 25)).drew ⟨w.heap.size, 2, none⟩ = some (.string ⟨a.exn.toArray⟩) := bx0 rfl
  have he3 : World.cell? ((w.alloc (.cells #[.slice pa a.out.length ca, .int .i64 a.st, .string ⟨a.exn.toArray⟩, .int .i64 a.steps] 25)).alloc (.cells #[.slice pb b.out.length cb, .int .i64 b.st, .string ⟨b.exn.toArray⟩, .int .i64 b.steps] 25)).drew ⟨w.heap.size, 3, none⟩ = some (.int .i64 a.steps) := bx0 rfl
  have hf0 : World.cell? ((w.alloc (.cells #[.slice pa a.out.length ca, .int .i64 a.st, .string ⟨a.exn.toArray⟩, .int .i64 a.steps] 25)).alloc (.cells #[.slice pb b.out.length cb, .int .i64 b.st, .string ⟨b.exn.toArray⟩, .int .i64 b.steps] 25)).drew ⟨w.heap.size + 1, 0, none⟩ = some (.slice pb b.out.length cb) := bx1 rfl
  have hf1 : World.cell? ((w.alloc (.cells #[.slice pa a.out.length ca, .int .i64 a.st, .string ⟨a.exn.toArray⟩, .int .i64 a.steps] 25)).alloc (.cells #[.slice pb b.out.length cb, .int .i64 b.st, .string ⟨b.exn.toArray⟩, .int .i64 b.steps] 25)).drew ⟨w.heap.size + 1, 1, none⟩ = some (.int .i64 b.st) := bx1 rfl
  have hf2 : World.cell? ((w.alloc (.cells #[.slice pa a.out.length ca, .int .i64 a.st, .string ⟨a.exn.toArray⟩, .int .i64 a.steps] 25)).alloc (.cells #[.slice pb b.out.length cb, .int .i64 b.st, .string ⟨b.exn.toArray⟩, .int .i64 b.steps] 25)).drew ⟨w.heap.size + 1, 2, none⟩ = some (.string ⟨b.exn.toArray⟩) := bx1 rfl
  have hf3 : World.cell? ((w.alloc (.cells #[.slice pa a.out.length ca, .int .i64 a.st, .string ⟨a.exn.toArray⟩, .int .i64 a.steps] 25)).alloc (.cells #[.slice pb b.out.length cb, .int .i64 b.st, .string ⟨b.exn.toArray⟩, .int .i64 b.steps] 25)).drew ⟨w.heap.size + 1, 3, none⟩ = some (.int .i64 b.steps) := bx1 rfl
  have hr0 := start2p (w := w) (o1 := (.cells #[.slice pa a.out.length ca, .int .i64 a.st, .string ⟨a.exn.toArray⟩, .int .i64 a.steps] 25)) (o2 := (.cells #[.slice pb b.out.length cb, .int .i64 b.st, .string ⟨b.exn.toArray⟩, .int .i64 b.steps] 25))
  have hB2 := start2 (o1 := (.cells #[.slice pa a.out.length ca, .int .i64 a.st, .string ⟨a.exn.toArray⟩, .int .i64 a.steps] 25)) (o2 := (.cells #[.slice pb b.out.length cb, .int .i64 b.st, .string ⟨b.exn.toArray⟩, .int .i64 b.steps] 25)) ha1 hb1
  go_enter Tryd.func6, Tryd.ntmps6
  go_upto_region 1 with fail
  obtain ⟨W0, hW0⟩ : ∃ W0, ((w.alloc (.cells #[.slice pa a.out.length ca, .int .i64 a.st, .string ⟨a.exn.toArray⟩, .int .i64 a.steps] 25)).alloc (.cells #[.slice pb b.out.length cb, .int .i64 b.st, .string ⟨b.exn.toArray⟩, .int .i64 b.steps] 25)).drew = W0 := ⟨_, rfl⟩
  rw [hW0] at he0 he1 he2 he3 hf0 hf1 hf2 hf3 hr0 hB2
  have hBe := hB2.be
  have HW := Lib.hid hW0
  clear hB2
  have HSA : Hid (∀ W, RowsP (w.heap.size + 2) W0 W → StrsAt W pa a.out) := Lib.hid fun W h => strsAt_below ha1 (hBe.trans (h.be.mono (by omega)))
  have HSB : Hid (∀ W, RowsP (w.heap.size + 2) W0 W → StrsAt W pb b.out) := Lib.hid fun W h => strsAt_below hb1 (hBe.trans (h.be.mono (by omega)))
  have HK : Hid (∀ W', RowsP (w.heap.size + 2) W0 W' → W'.cell? ⟨w.heap.size, 0, none⟩ = some (.slice pa a.out.length ca) ∧ W'.cell? ⟨w.heap.size, 1, none⟩ = some (.int .i64 a.st) ∧ W'.cell? ⟨w.heap.size, 2, none⟩ = some (.string ⟨a.exn.toArray⟩) ∧ W'.cell? ⟨w.heap.size + 1, 3, none⟩ = some (.int .i64 b.steps) ∧ RowsP (w.heap.size + 2) W0 W') := Lib.hid fun W' hrq => ⟨hrq.cell (by simp) he0, hrq.cell (by simp) he1, hrq.cell (by simp) he2, hrq.cell (by simp) hf3, hrq⟩
  have l0 := hr0.le
  have HR1 := Lib.hid hr0
  clear hr0
  go_cut [2, 3, 5] (fun v2 v3 v5 wx => ∃ d s : Nat, v2 = .pointer (some ⟨w.heap.size, 0, none⟩) ∧ v3 = .pointer (some ⟨w.heap.size + 1, 0, none⟩) ∧ v5 = .pointer (some ⟨d, 0, none⟩) ∧ ThirdP (w.heap.size + 2) W0 d s a.out.flatten a.st a.exn b.steps wx)
  case first =>
    go_region_held3 (fun w' => w'.cell? ⟨w.heap.size, 0, none⟩ = some (.slice pa a.out.length ca) ∧ w'.cell? ⟨w.heap.size, 1, none⟩ = some (.int .i64 a.st) ∧ w'.cell? ⟨w.heap.size, 2, none⟩ = some (.string ⟨a.exn.toArray⟩) ∧ w'.cell? ⟨w.heap.size + 1, 3, none⟩ = some (.int .i64 b.steps) ∧ RowsP (w.heap.size + 2) W0 w')
      (first
        | (rw [HW.out]; exact HK.out _ HR1.out)
        | (go_split_ands; exact HK.out _ (RowsP.keep (by assumption) hbx))
        | (go_split_ands; refine HK.out _ ?_; repeat' (first | assumption | refine RowsP.alloc ?_ _ | refine RowsP.set ?_ (by simp; omega) _)))
      (first | (go_at_call 16; refine (sjoined_any pa a.out ca _ ?_ ha2 sa).mono ?_; (go_split_ands; exact HSA.out _ (by assumption)); rintro e w1 ⟨rfl, hbx⟩; have hq1 : RowsP (w.heap.size + 2) W0 w1 := (by go_split_ands; exact RowsP.keep (by assumption) hbx); have lz := hbx.size; try simp at lz; try (obtain ⟨hc, hf⟩ := bcell hbx; have s0 := hc W0.heap.size 0 (by simp); simp at s0; have t0 := hf W0.heap.size 0 (by simp); simp at t0; have s1 := hc W0.heap.size 1 (by simp); simp at s1; have t1 := hf W0.heap.size 1 (by simp); simp at t1; have s2 := hc W0.heap.size 2 (by simp); simp at s2; have t2 := hf W0.heap.size 2 (by simp); simp at t2; have s3 := hc W0.heap.size 3 (by simp); simp at s3; have t3 := hf W0.heap.size 3 (by simp); simp at t3; have u0 : ∀ o : Obj, World.cell? (w1.alloc o) ⟨W0.heap.size, 0, none⟩ = _ := (fun o => (((Below.refl w1.heap.size w1).alloc (Nat.le_refl _) o).cell (p := ⟨W0.heap.size, 0, none⟩) (by show W0.heap.size < _; omega)).trans s0); have v0 : ∀ o : Obj, World.frozen? (w1.alloc o) ⟨W0.heap.size, 0, none⟩ = false := (fun o => (((Below.refl w1.heap.size w1).alloc (Nat.le_refl _) o).frozen (p := ⟨W0.heap.size, 0, none⟩) (by show W0.heap.size < _; omega)).trans t0); have u1 : ∀ o : Obj, World.cell? (w1.alloc o) ⟨W0.heap.size, 1, none⟩ = _ := (fun o => (((Below.refl w1.heap.size w1).alloc (Nat.le_refl _) o).cell (p := ⟨W0.heap.size, 1, none⟩) (by show W0.heap.size < _; omega)).trans s1); have v1 : ∀ o : Obj, World.frozen? (w1.alloc o) ⟨W0.heap.size, 1, none⟩ = false := (fun o => (((Below.refl w1.heap.size w1).alloc (Nat.le_refl _) o).frozen (p := ⟨W0.heap.size, 1, none⟩) (by show W0.heap.size < _; omega)).trans t1); have u2 : ∀ o : Obj, World.cell? (w1.alloc o) ⟨W0.heap.size, 2, none⟩ = _ := (fun o => (((Below.refl w1.heap.size w1).alloc (Nat.le_refl _) o).cell (p := ⟨W0.heap.size, 2, none⟩) (by show W0.heap.size < _; omega)).trans s2); have v2 : ∀ o : Obj, World.frozen? (w1.alloc o) ⟨W0.heap.size, 2, none⟩ = false := (fun o => (((Below.refl w1.heap.size w1).alloc (Nat.le_refl _) o).frozen (p := ⟨W0.heap.size, 2, none⟩) (by show W0.heap.size < _; omega)).trans t2); have u3 : ∀ o : Obj, World.cell? (w1.alloc o) ⟨W0.heap.size, 3, none⟩ = _ := (fun o => (((Below.refl w1.heap.size w1).alloc (Nat.le_refl _) o).cell (p := ⟨W0.heap.size, 3, none⟩) (by show W0.heap.size < _; omega)).trans s3); have v3 : ∀ o : Obj, World.frozen? (w1.alloc o) ⟨W0.heap.size, 3, none⟩ = false := (fun o => (((Below.refl w1.heap.size w1).alloc (Nat.le_refl _) o).frozen (p := ⟨W0.heap.size, 3, none⟩) (by show W0.heap.size < _; omega)).trans t3); clear hc hf)))
    all_goals (try go_wp2_with fail)
    all_goals go_meet
    case rel => exact ⟨_, _, rfl, rfl, rfl, third1 hq1⟩
    case rel => exact ⟨_, _, rfl, rfl, rfl, third2 hq1⟩
    case rel => exact ⟨_, _, rfl, rfl, rfl, third3 hq1 (by omega) (by omega) s0 s1 s2 s3⟩
  case rest =>
    obtain ⟨d, s, rfl, rfl, rfl, ht⟩ := hcut
    obtain ⟨z, hz⟩ : ∃ z, Pt.alikeB a b = z := ⟨_, rfl⟩
    have hcb : Pt.alikeB ⟨[a.out.flatten], a.st, a.exn, b.steps⟩ b = z := by rw [← hz]; exact (Pt.alike_parts (a := a) (b := b) (c := ⟨[a.out.flatten], a.st, a.exn, b.steps⟩) rfl rfl (by simp)).symm
    have hca : Pt.alikeB ⟨[a.out.flatten], a.st, a.exn, b.steps⟩ a = true := by rw [← Pt.alike_self a]; exact (Pt.alike_parts (a := a) (b := a) (c := ⟨[a.out.flatten], a.st, a.exn, b.steps⟩) rfl rfl (by simp)).symm
    have hac : Pt.alikeB a ⟨[a.out.flatten], a.st, a.exn, b.steps⟩ = true := by rw [Pt.alike_comm]; exact hca
    have sc : ([a.out.flatten] : List (List UInt8)).flatten.length ≤ 140737488351232 := by simpa using sa
    have c1 := fun v u W h g => alike_any a b v u W h g sa sb
    have c2 := fun v u W h g => alike_any ⟨[a.out.flatten], a.st, a.exn, b.steps⟩ b v u W h g sc sb
    have c3 := fun v u W h g => begins_any a ⟨[a.out.flatten], a.st, a.exn, b.steps⟩ v u W h g sa sc
    have c4 := fun v u W h g => begins_any ⟨[a.out.flatten], a.st, a.exn, b.steps⟩ a v u W h g sc sa
    have c5 := fun v u W h g => alike_any a ⟨[a.out.flatten], a.st, a.exn, b.steps⟩ v u W h g sa sc
    rw [hz] at c1
    rw [hcb] at c2
    rw [hac] at c5
    have hfl : ([a.out.flatten] : List (List UInt8)).flatten = a.out.flatten := by simp
    rw [show Pt.begB a.out.flatten (Pt.Oc.mk [a.out.flatten] a.st a.exn b.steps).out.flatten = true from by show Pt.begB a.out.flatten ([a.out.flatten] : List (List UInt8)).flatten = true; rw [hfl]; exact Pt.begB_self _] at c3
    rw [show Pt.begB (Pt.Oc.mk [a.out.flatten] a.st a.exn b.steps).out.flatten a.out.flatten = true from by show Pt.begB ([a.out.flatten] : List (List UInt8)).flatten a.out.flatten = true; rw [hfl]; exact Pt.begB_self _] at c4
    have C1 := Lib.hid c1
    have C2 := Lib.hid c2
    have C3 := Lib.hid c3
    have C4 := Lib.hid c4
    have C5 := Lib.hid c5
    have bd : Below wc.heap.size wc wc.drew := (Below.refl _ _).drew
    have hrd : RowsD w w.heap.size d pa pb (some ⟨s, 0, none⟩) a.out b.out [a.out.flatten] wc := ⟨by have := ht.rp.le; omega, ht.ld, HSA.out _ ht.rp, HSB.out _ ht.rp, ⟨by simp, .inr ⟨s, 0, rfl, ht.ls, one_at ht.cs⟩⟩, hBe.trans (ht.rp.be.mono (by omega))⟩
    have HS2 := Lib.hid (show (fun w' => w'.cell? ⟨w.heap.size, 0, none⟩ = some (.slice pa a.out.length ca) ∧ w'.cell? ⟨w.heap.size, 1, none⟩ = some (.int .i64 a.st) ∧ w'.cell? ⟨w.heap.size, 2, none⟩ = some (.string ⟨a.exn.toArray⟩) ∧ w'.cell? ⟨w.heap.size, 3, none⟩ = some (.int .i64 a.steps) ∧ w'.cell? ⟨w.heap.size + 1, 0, none⟩ = some (.slice pb b.out.length cb) ∧ w'.cell? ⟨w.heap.size + 1, 1, none⟩ = some (.int .i64 b.st) ∧ w'.cell? ⟨w.heap.size + 1, 2, none⟩ = some (.string ⟨b.exn.toArray⟩) ∧ w'.cell? ⟨w.heap.size + 1, 3, none⟩ = some (.int .i64 b.steps) ∧ w'.cell? ⟨d, 0, none⟩ = some (.slice (some ⟨s, 0, none⟩) 1 1) ∧ w'.cell? ⟨d, 1, none⟩ = some (.int .i64 a.st) ∧ w'.cell? ⟨d, 2, none⟩ = some (.string ⟨a.exn.toArray⟩) ∧ w'.cell? ⟨d, 3, none⟩ = some (.int .i64 b.steps) ∧ RowsD w w.heap.size d pa pb (some ⟨s, 0, none⟩) a.out b.out [a.out.flatten] w') wc.drew from ⟨hrd.cellA (ht.rp.cell (by simp) he0) bd, hrd.cellA (ht.rp.cell (by simp) he1) bd, hrd.cellA (ht.rp.cell (by simp) he2) bd, hrd.cellA (ht.rp.cell (by simp) he3) bd, hrd.cellB (ht.rp.cell (by simp) hf0) bd, hrd.cellB (ht.rp.cell (by simp) hf1) bd, hrd.cellB (ht.rp.cell (by simp) hf2) bd, hrd.cellB (ht.rp.cell (by simp) hf3) bd, hrd.cellC ht.c0 bd, hrd.cellC ht.c1 bd, hrd.cellC ht.c2 bd, hrd.cellC ht.c3 bd, hrd.keep bd⟩)
    clear c1 c2 c3 c4 c5 hz hcb hca hac ht hrd he0 he1 he2 he3 hf0 hf1 hf2 hf3 hBe
    go_wp2_with fail
    go_region_held3 (fun w' => w'.cell? ⟨w.heap.size, 0, none⟩ = some (.slice pa a.out.length ca) ∧ w'.cell? ⟨w.heap.size, 1, none⟩ = some (.int .i64 a.st) ∧ w'.cell? ⟨w.heap.size, 2, none⟩ = some (.string ⟨a.exn.toArray⟩) ∧ w'.cell? ⟨w.heap.size, 3, none⟩ = some (.int .i64 a.steps) ∧ w'.cell? ⟨w.heap.size + 1, 0, none⟩ = some (.slice pb b.out.length cb) ∧ w'.cell? ⟨w.heap.size + 1, 1, none⟩ = some (.int .i64 b.st) ∧ w'.cell? ⟨w.heap.size + 1, 2, none⟩ = some (.string ⟨b.exn.toArray⟩) ∧ w'.cell? ⟨w.heap.size + 1, 3, none⟩ = some (.int .i64 b.steps) ∧ w'.cell? ⟨d, 0, none⟩ = some (.slice (some ⟨s, 0, none⟩) 1 1) ∧ w'.cell? ⟨d, 1, none⟩ = some (.int .i64 a.st) ∧ w'.cell? ⟨d, 2, none⟩ = some (.string ⟨a.exn.toArray⟩) ∧ w'.cell? ⟨d, 3, none⟩ = some (.int .i64 b.steps) ∧ RowsD w w.heap.size d pa pb (some ⟨s, 0, none⟩) a.out b.out [a.out.flatten] w')
      (first
        | exact HS2.out
        | (go_split_ands; exact ⟨RowsD.cellA (by assumption) (by assumption) hbx, RowsD.cellA (by assumption) (by assumption) hbx, RowsD.cellA (by assumption) (by assumption) hbx, RowsD.cellA (by assumption) (by assumption) hbx, RowsD.cellB (by assumption) (by assumption) hbx, RowsD.cellB (by assumption) (by assumption) hbx, RowsD.cellB (by assumption) (by assumption) hbx, RowsD.cellB (by assumption) (by assumption) hbx, RowsD.cellC (by assumption) (by assumption) hbx, RowsD.cellC (by assumption) (by assumption) hbx, RowsD.cellC (by assumption) (by assumption) hbx, RowsD.cellC (by assumption) (by assumption) hbx, RowsD.keep (by assumption) hbx⟩))
      (first | (go_at_call 13; refine (C1.out _ _ _ (by go_split_ands; exact ocAt_mk (RowsD.ra (by assumption)) ha2) (by go_split_ands; exact ocAt_mk (RowsD.rb (by assumption)) hb2)).mono ?_; rintro e w1 ⟨rfl, hbx⟩) | (go_at_call 13; refine (C2.out _ _ _ (by go_split_ands; exact ocC (RowsD.rc (by assumption))) (by go_split_ands; exact ocAt_mk (RowsD.rb (by assumption)) hb2)).mono ?_; rintro e w1 ⟨rfl, hbx⟩) | (go_at_call 11; refine (C3.out _ _ _ (by go_split_ands; exact ocAt_mk (RowsD.ra (by assumption)) ha2) (by go_split_ands; exact ocC (RowsD.rc (by assumption)))).mono ?_; rintro e w1 ⟨rfl, hbx⟩) | (go_at_call 11; refine (C4.out _ _ _ (by go_split_ands; exact ocC (RowsD.rc (by assumption))) (by go_split_ands; exact ocAt_mk (RowsD.ra (by assumption)) ha2)).mono ?_; rintro e w1 ⟨rfl, hbx⟩) | (go_at_call 13; refine (C5.out _ _ _ (by go_split_ands; exact ocAt_mk (RowsD.ra (by assumption)) ha2) (by go_split_ands; exact ocC (RowsD.rc (by assumption)))).mono ?_; rintro e w1 ⟨rfl, hbx⟩) | (go_at_call 10; refine (alive_any _ (by go_split_ands; exact HV.out.below (RowsD.be (by assumption)))).mono ?_; rintro e w1 ⟨rfl, hbx⟩))
    go_wp2_with fail
    go_ret
    exact ⟨rfl, (by go_split_ands; exact RowsD.be (by assumption))⟩
end Go.Proofs.YtkjdigojajcgkaaDoor
