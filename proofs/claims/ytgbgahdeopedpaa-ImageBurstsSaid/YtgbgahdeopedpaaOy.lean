/- Layer 24's laws, walked: the bytes of every image. -/
import Derived.Test.YtgbgahdeopedpaaEf
import Derived.Test.YtgbgahdeopedpaaLi
import Derived.Test.YtgbgahdeopedpaaOp
import Derived.Test.YtgbgahdeopedpaaRows
namespace Go.Proofs.Ytgbgahdeopedpaa
open Go.RowKit
set_option linter.unusedVariables false
attribute [local go_sem] ext_mk size_mk toList_mk get_mk take_drop_len take_tail_len ByteArray.mk_append_mk List.append_toArray

set_option maxHeartbeats 2000000 in
set_option maxRecDepth 8000 in
theorem imagePacks_any (T Y : List UInt8) (fa sa ra : Option Addr) (fc sc rc : Nat) (P : Pg) (w : World) (hT : T.length ≤ maxLen) (hY : Y.length ≤ maxLen) (hP : PgAt w fa sa ra P) :
    Calls Try.prog 4 #[.agg #[.string ⟨T.toArray⟩, .string ⟨Y.toArray⟩, .slice fa P.fs.length fc, .slice sa P.ss.length sc, .slice ra P.us.length rc, .int .i64 P.en]] w fun e w' => e = .returned (.bool true) ∧ Below w.heap.size w w' := by
  have S := Lib.hid hP
  have CP := Lib.hid (fun W h => pack_any T Y fa sa ra fc sc rc P W hT hY h)
  have CR := Lib.hid (fun W h => rpack_any T Y fa sa ra fc sc rc P W hT hY h)
  have CA := Lib.hid (fun W => awake_24 W)
  have hA : Below w.heap.size w (w.alloc (.cells #[.string ⟨T.toArray⟩, .string ⟨Y.toArray⟩, .slice fa P.fs.length fc, .slice sa P.ss.length sc, .slice ra P.us.length rc, .int .i64 P.en] 33)) := (Below.refl _ _).alloc (Nat.le_refl _) _
  have HA := Lib.hid hA
  have X0 := Lib.hid (KAt.new w (.cells #[.string ⟨T.toArray⟩, .string ⟨Y.toArray⟩, .slice fa P.fs.length fc, .slice sa P.ss.length sc, .slice ra P.us.length rc, .int .i64 P.en] 33 (0, 0)))
  obtain ⟨⟨B, er⟩, hR⟩ : ∃ t, packR T Y P = t := ⟨_, rfl⟩
  rw [hR] at CP CR
  dsimp only at CP CR
  clear hA hP hT hY hR
  go_enter Try.func4, Try.ntmps4
  go_wp2_with (first
    | (go_at_call 13; refine (CP.out _ (S.out.below HA.out)).mono ?_; rintro e w1 ⟨v, rfl, hB, hb1⟩; have HB1 := Lib.hid (HA.out.trans (hb1.mono HA.out.size)); have X1 := Lib.hid (X0.out.below hb1); obtain ⟨a1, c1, rfl⟩ := hB.form; have O1 := Lib.hid hB; clear hB hb1; obtain ⟨p0, p1, p2, p3, p4, p5⟩ := mkbox_cells X1.out)
    | (go_at_call 14; refine (CR.out _ (S.out.below HB1.out)).mono ?_; rintro e w2 ⟨v, rfl, hB, hb2⟩; have HB2 := Lib.hid (HB1.out.trans (hb2.mono HB1.out.size)); obtain ⟨a2, c2, rfl⟩ := hB.form; have hc1 := conv_own (O1.out.keep hb2); have hc2 := conv_own hB; clear hB hb2 p0 p1 p2 p3 p4 p5)
    | (go_at_call 12; refine (CA.out _).mono ?_; rintro e w3 ⟨rfl, hb3⟩; have HB3 := Lib.hid (HB2.out.trans (hb3.mono HB2.out.size)); clear hb3))
  go_ret
  exact ⟨rfl, HB3.out⟩
end Go.Proofs.Ytgbgahdeopedpaa
/- Arguments opened: an image, with all that its program holds. -/
namespace Go.Proofs.Ytgbgahdeopedpaa
open Go.ChangeShapes Go.WideShapes Go.Deep Go.RowKit
open Opn
set_option linter.unusedVariables false

theorem choose_list {α : Type} (Q : Nat → α → Prop) : ∀ n : Nat, (∀ i, i < n → ∃ a, Q i a) → ∃ l : List α, l.length = n ∧ ∀ i x, l[i]? = some x → Q i x
  | 0, _ => ⟨[], rfl, fun i x hi => by simp at hi⟩
  | n + 1, h => by
    obtain ⟨l, hl, hq⟩ := choose_list Q n (fun i hi => h i (by omega))
    obtain ⟨a, ha⟩ := h n (by omega)
    refine ⟨l ++ [a], by simp [hl], fun i x hi => ?_⟩
    by_cases hin : i < l.length
    · rw [List.getElem?_append_left hin] at hi; exact hq i x hi
    · have hlt := (List.getElem?_eq_some_iff.1 hi).1
      have : i = l.length := by simp at hlt; omega
      subst this
      rw [List.getElem?_append_right (Nat.le_refl _)] at hi
      simp at hi
      subst hi
      rw [hl]; exact ha
section
variable {H : Type} {enc : TypeId × Value → H} {w : World}
abbrev Rd (enc : TypeId × Value → H) (w : World) (fuel : Nat) (t : TypeId) (cs : List Value) (x : DataW H × List MemPlace) : Prop := DataW.trod enc Try.prog w 0 (fun _ => true) true fuel t cs = some x
abbrev Wt (t : TypeId) (d : DataW H) : Prop := ∀ y ∈ DataW.weights Try.prog t d, y ≤ reachBytes

theorem reach_len {n k : Nat} (h : n * k ≤ reachBytes) (hk : 0 < k) : n ≤ maxLen := by
  have h1 : n ≤ n * k := Nat.le_mul_of_pos_right n hk
  have h2 : reachBytes = 140737488351232 := rfl
  unfold maxLen; omega

theorem open_intsK {t e : TypeId} {k : IntKind} {fuel bytes : Nat} {cs : List Value} {x : DataW H × List MemPlace} (ht : Try.prog.underlying t = some (.slice e)) (he : Try.prog.underlying e = some (.int k)) (hC : Try.prog.cellsOf e = 1) (hby : Try.prog.bytesOf e = bytes) (hb0 : 0 < bytes)
    (h : Rd enc w fuel t cs x) (hw : Wt t x.1) : ∃ (a : Option Addr) (l : List Int) (cap : Nat), cs = [.slice a l.length cap] ∧ IntsAt k w a l ∧ ∀ n ∈ l, k.min ≤ n ∧ n ≤ k.max := by
  obtain ⟨a, len, cap, hcs, hl, hm, hb, hr⟩ := open_sl ht hC (by decide) h hw
  rw [hby] at hb
  have hlm := reach_len hb hb0
  rcases hr with rfl | ⟨b, off, rfl, hblt, hc⟩
  · exact ⟨a, [], cap, hcs, ⟨by simp, .inl rfl⟩, by simp⟩
  · obtain ⟨l, hls, hq⟩ := choose_list (fun i (n : Int) => w.cell? ⟨b, off + i, none⟩ = some (.int k n) ∧ k.min ≤ n ∧ n ≤ k.max) len (fun i hi => by
      obtain ⟨cs', y, n, h1, h2, h3, h4⟩ := hc i hi
      obtain ⟨z, rfl, hz⟩ := open_in he h3
      exact ⟨z, by have := h2 0 (by decide); simpa using this, hz⟩)
    subst hls
    refine ⟨_, l, cap, hcs, ⟨hlm, .inr ⟨b, off, rfl, fun i hi => ?_⟩⟩, fun n hn => ?_⟩
    · have := hq i l[i] (List.getElem?_eq_getElem hi)
      rw [this.1]; simp [List.getD, hi]
    · obtain ⟨i, hi, rfl⟩ := List.getElem_of_mem hn
      exact (hq i _ (List.getElem?_eq_getElem hi)).2

theorem cell1 {l : List Value} {o : Nat} {v : Value} (h : (l.drop o).take 1 = [v]) : l[o]? = some v := by
  have := congrArg (fun z => z[0]?) h
  simpa [List.getElem?_take, List.getElem?_drop] using this

theorem open_code {fuel : Nat} {cs : List Value} {x : DataW H × List MemPlace} (h : Rd enc w fuel 59 cs x) (hw : Wt 59 x.1) : ∃ (a : Option Addr) (code : List In) (cap : Nat), cs = [.slice a code.length cap] ∧ CdAt w a code := by
  obtain ⟨a, len, cap, hcs, hl, hm, hb, hr⟩ := open_sl Try.underlying59 (show Try.prog.cellsOf 58 = 6 by kernel_rfl) (by decide) h hw
  rw [show Try.prog.bytesOf 58 = 80 by kernel_rfl] at hb
  have hlm := reach_len hb (by decide)
  rcases hr with rfl | ⟨b, off, rfl, hblt, hc⟩
  · exact ⟨a, [], cap, hcs, ⟨by simp, .inl rfl⟩⟩
  · obtain ⟨l, hls, hq⟩ := choose_list (fun i (x : In) => XAt w b (off + i * 6) x) len (fun i hi => by
      obtain ⟨cs', y, n, h1, h2, h3, h4⟩ := hc i hi
      obtain ⟨_, hfs⟩ := open_st Try.underlying58 h3 h4
      obtain ⟨y0, n0, r0, s0⟩ := hfs 0 _ rfl
      obtain ⟨y1, n1, r1, s1⟩ := hfs 1 _ rfl
      obtain ⟨y2, n2, r2, s2⟩ := hfs 2 _ rfl
      obtain ⟨y3, n3, r3, s3⟩ := hfs 3 _ rfl
      obtain ⟨y4, n4, r4, s4⟩ := hfs 4 _ rfl
      obtain ⟨y5, n5, r5, s5⟩ := hfs 5 _ rfl
      obtain ⟨op, e0, _⟩ := open_in (k := .i64) Try.underlying55 r0
      obtain ⟨xa, e1, _⟩ := open_in (k := .i64) Try.underlying3 r1
      obtain ⟨xb, e2, _⟩ := open_in (k := .i64) Try.underlying3 r2
      obtain ⟨xc, e3, _⟩ := open_in (k := .i64) Try.underlying3 r3
      obtain ⟨la, l, lc, e4, hil, _⟩ := open_intsK (k := .i64) Try.underlying56 Try.underlying3 (by kernel_rfl) (show Try.prog.bytesOf 3 = 8 by kernel_rfl) (by decide) r4 s4
      obtain ⟨va, lv, vc, e5, hiv, _⟩ := open_intsK (k := .i64) Try.underlying56 Try.underlying3 (by kernel_rfl) (show Try.prog.bytesOf 3 = 8 by kernel_rfl) (by decide) r5 s5
      have d0 : (cs'.drop 0).take (Try.prog.cellsOf 55) = [.int .i64 op] := e0
      have d1 : (cs'.drop 1).take (Try.prog.cellsOf 3) = [.int .i64 xa] := e1
      have d2 : (cs'.drop 2).take (Try.prog.cellsOf 3) = [.int .i64 xb] := e2
      have d3 : (cs'.drop 3).take (Try.prog.cellsOf 3) = [.int .i64 xc] := e3
      have d4 : (cs'.drop 4).take (Try.prog.cellsOf 56) = [.slice la l.length lc] := e4
      have d5 : (cs'.drop 5).take (Try.prog.cellsOf 56) = [.slice va lv.length vc] := e5
      rw [show Try.prog.cellsOf 55 = 1 by kernel_rfl] at d0
      rw [show Try.prog.cellsOf 3 = 1 by kernel_rfl] at d1 d2 d3
      rw [show Try.prog.cellsOf 56 = 1 by kernel_rfl] at d4 d5
      have f : ∀ j v, j < 6 → cs'[j]? = some v → w.cell? ⟨b, off + i * 6 + j, none⟩ = some v := fun j v hj hv => by rw [Nat.add_assoc, h2 j hj, hv]
      exact ⟨⟨op, xa, xb, xc, l, lv⟩, la, lc, va, vc, f 0 _ (by decide) (cell1 d0), f 1 _ (by decide) (cell1 d1), f 2 _ (by decide) (cell1 d2), f 3 _ (by decide) (cell1 d3), f 4 _ (by decide) (cell1 d4), f 5 _ (by decide) (cell1 d5), hil, hiv⟩)
    subst hls
    exact ⟨_, l, cap, hcs, hlm, .inr ⟨b, off, rfl, hq⟩⟩

theorem open_fns {fuel : Nat} {cs : List Value} {x : DataW H × List MemPlace} (h : Rd enc w fuel 27 cs x) (hw : Wt 27 x.1) : ∃ (a : Option Addr) (fs : List Fu) (cap : Nat), cs = [.slice a fs.length cap] ∧ FnsAt w a fs := by
  obtain ⟨a, len, cap, hcs, hl, hm, hb, hr⟩ := open_sl Try.underlying27 (show Try.prog.cellsOf 61 = 3 by kernel_rfl) (by decide) h hw
  rw [show Try.prog.bytesOf 61 = 40 by kernel_rfl] at hb
  have hlm := reach_len hb (by decide)
  rcases hr with rfl | ⟨b, off, rfl, hblt, hc⟩
  · exact ⟨a, [], cap, hcs, ⟨by simp, .inl rfl⟩⟩
  · obtain ⟨l, hls, hq⟩ := choose_list (fun i (f : Fu) => FnAt w b (off + i * 3) f) len (fun i hi => by
      obtain ⟨cs', y, n, h1, h2, h3, h4⟩ := hc i hi
      obtain ⟨_, hfs⟩ := open_st Try.underlying61 h3 h4
      obtain ⟨y0, n0, r0, s0⟩ := hfs 0 _ rfl
      obtain ⟨y1, n1, r1, s1⟩ := hfs 1 _ rfl
      obtain ⟨y2, n2, r2, s2⟩ := hfs 2 _ rfl
      obtain ⟨ps, e0, _⟩ := open_in (k := .i64) Try.underlying3 r0
      obtain ⟨rs, e1, _⟩ := open_in (k := .i64) Try.underlying3 r1
      obtain ⟨ca, code, cc, e2, hcd⟩ := open_code r2 s2
      have d0 : (cs'.drop 0).take (Try.prog.cellsOf 3) = [.int .i64 ps] := e0
      have d1 : (cs'.drop 1).take (Try.prog.cellsOf 3) = [.int .i64 rs] := e1
      have d2 : (cs'.drop 2).take (Try.prog.cellsOf 59) = [.slice ca code.length cc] := e2
      rw [show Try.prog.cellsOf 3 = 1 by kernel_rfl] at d0 d1
      rw [show Try.prog.cellsOf 59 = 1 by kernel_rfl] at d2
      have f : ∀ j v, j < 3 → cs'[j]? = some v → w.cell? ⟨b, off + i * 3 + j, none⟩ = some v := fun j v hj hv => by rw [Nat.add_assoc, h2 j hj, hv]
      exact ⟨⟨ps, rs, code⟩, ca, cc, f 0 _ (by decide) (cell1 d0), f 1 _ (by decide) (cell1 d1), f 2 _ (by decide) (cell1 d2), hcd⟩)
    subst hls
    exact ⟨_, l, cap, hcs, hlm, .inr ⟨b, off, rfl, hq⟩⟩

theorem open_strsA {fuel : Nat} {cs : List Value} {x : DataW H × List MemPlace} (h : Rd enc w fuel 28 cs x) (hw : Wt 28 x.1) : ∃ (a : Option Addr) (ss : List (List UInt8)) (cap : Nat), cs = [.slice a ss.length cap] ∧ StrsAt w a ss := by
  obtain ⟨a, len, cap, hcs, hl, hm, hb, hr⟩ := open_sl Try.underlying28 (show Try.prog.cellsOf 9 = 1 by kernel_rfl) (by decide) h hw
  rw [show Try.prog.bytesOf 9 = 16 by kernel_rfl] at hb
  have hlm := reach_len hb (by decide)
  rcases hr with rfl | ⟨b, off, rfl, hblt, hc⟩
  · exact ⟨a, [], cap, hcs, ⟨by simp, by simp, .inl rfl⟩⟩
  · obtain ⟨ls, hls, hq⟩ := choose_list (fun i (l : List UInt8) => w.cell? ⟨b, off + i, none⟩ = some (.string ⟨l.toArray⟩) ∧ l.length ≤ 140737488351232) len (fun i hi => by
      obtain ⟨cs', y, n, h1, h2, h3, h4⟩ := hc i hi
      obtain ⟨l, rfl, hl2⟩ := open_str Try.underlying9 h3 h4
      exact ⟨l, by have := h2 0 (by decide); simpa using this, hl2⟩)
    subst hls
    refine ⟨_, ls, cap, hcs, hlm, fun s hs => ?_, .inr ⟨b, off, rfl, fun i s hi => (hq i s hi).1⟩⟩
    obtain ⟨i, hi, rfl⟩ := List.getElem_of_mem hs
    have := (hq i _ (List.getElem?_eq_getElem hi)).2
    unfold maxLen; omega
set_option maxRecDepth 100000 in
theorem image_arg {base : Nat} {v : Value} {d : DataW H} {p : List MemPlace}
    (k : DataW.Trod enc Try.prog w 0 (fun _ => true) true 33 v d p) (o : Value.okWide Try.prog w .any base 33 v) (s : ∀ y ∈ DataW.weights Try.prog 33 d, y ≤ reachBytes) :
    ∃ (T Y : List UInt8) (fa sa ra : Option Addr) (fc sc rc : Nat) (P : Pg), v = .agg #[.string ⟨T.toArray⟩, .string ⟨Y.toArray⟩, .slice fa P.fs.length fc, .slice sa P.ss.length sc, .slice ra P.us.length rc, .int .i64 P.en] ∧ T.length ≤ maxLen ∧ Y.length ≤ maxLen ∧ PgAt w fa sa ra P := by
  obtain ⟨fuel, hf⟩ := k
  obtain ⟨cs, rfl, hsz⟩ := okWide_struct Try.underlying33 o
  obtain ⟨hlen, hfs⟩ := open_st Try.underlying33 hf s
  obtain ⟨l⟩ := cs
  obtain ⟨y0, n0, h0, s0⟩ := hfs 0 _ rfl
  obtain ⟨y1, n1, h1, s1⟩ := hfs 1 _ rfl
  obtain ⟨y2, n2, h2, s2⟩ := hfs 2 _ rfl
  obtain ⟨T, e0, hT⟩ := open_str Try.underlying9 h0 s0
  obtain ⟨Y, e1, hY⟩ := open_str Try.underlying9 h1 s1
  obtain ⟨hlen2, hps⟩ := open_st Try.underlying31 h2 s2
  obtain ⟨z0, m0, r0, q0⟩ := hps 0 _ rfl
  obtain ⟨z1, m1, r1, q1⟩ := hps 1 _ rfl
  obtain ⟨z2, m2, r2, q2⟩ := hps 2 _ rfl
  obtain ⟨z3, m3, r3, q3⟩ := hps 3 _ rfl
  obtain ⟨fa, fs, fc, g0, hF⟩ := open_fns r0 q0
  obtain ⟨sa, ss, sc, g1, hS⟩ := open_strsA r1 q1
  obtain ⟨ra, us, rc, g2, hU, hz⟩ := open_intsK (k := .u64) Try.underlying29 Try.underlying83 (by kernel_rfl) (show Try.prog.bytesOf 83 = 8 by kernel_rfl) (by decide) r2 q2
  obtain ⟨en, g3, _⟩ := open_in (k := .i64) Try.underlying3 r3
  have c0 : Try.prog.cellsOf 9 = 1 := by kernel_rfl
  have c1 : Try.prog.cellsOf 31 = 4 := by kernel_rfl
  have c2 : Try.prog.cellsOf 27 = 1 := by kernel_rfl
  have c3 : Try.prog.cellsOf 28 = 1 := by kernel_rfl
  have c4 : Try.prog.cellsOf 29 = 1 := by kernel_rfl
  have c5 : Try.prog.cellsOf 3 = 1 := by kernel_rfl
  have hlen6 : l.length = 6 := by rw [show Try.prog.cellsOf 33 = 6 by kernel_rfl] at hlen; exact hlen
  have f0 : (l.drop 0).take (Try.prog.cellsOf 9) = [.string ⟨T.toArray⟩] := e0
  have f1 : (l.drop 1).take (Try.prog.cellsOf 9) = [.string ⟨Y.toArray⟩] := e1
  have f2 : (((l.drop 2).take (Try.prog.cellsOf 31)).drop 0).take (Try.prog.cellsOf 27) = [.slice fa fs.length fc] := g0
  have f3 : (((l.drop 2).take (Try.prog.cellsOf 31)).drop 1).take (Try.prog.cellsOf 28) = [.slice sa ss.length sc] := g1
  have f4 : (((l.drop 2).take (Try.prog.cellsOf 31)).drop 2).take (Try.prog.cellsOf 29) = [.slice ra us.length rc] := g2
  have f5 : (((l.drop 2).take (Try.prog.cellsOf 31)).drop 3).take (Try.prog.cellsOf 3) = [.int .i64 en] := g3
  rw [c0] at f0 f1
  rw [c1, c2] at f2
  rw [c1, c3] at f3
  rw [c1, c4] at f4
  rw [c1, c5] at f5
  clear e0 e1 g0 g1 g2 g3 hf hfs h0 h1 h2 hps r0 r1 r2 r3 o hsz hlen hlen2
  match l, hlen6 with
  | [v0, v1, v2, v3, v4, v5], _ =>
    simp only [List.drop_zero, List.drop_succ_cons, List.take_succ_cons, List.take_zero, List.cons.injEq, and_true] at f0 f1 f2 f3 f4 f5
    subst f0; subst f1; subst f2; subst f3; subst f4; subst f5
    refine ⟨T, Y, fa, sa, ra, fc, sc, rc, ⟨fs, ss, us, en⟩, rfl, by unfold maxLen; omega, by unfold maxLen; omega, ⟨hF, hS, hU, fun u hu => ?_⟩⟩
    have := hz u hu
    have e1 : IntKind.u64.min = 0 := rfl
    have e2 : IntKind.u64.max = 18446744073709551615 := rfl
    omega
end
end Go.Proofs.Ytgbgahdeopedpaa
/- Arguments opened: bytes, with their bulk. -/
namespace Go.Proofs.Ytgbgahdeopedpaa.Opn
open Go.ChangeShapes Go.WideShapes Go.Deep
variable {H : Type} {enc : TypeId × Value → H} {P : Program} {w : World} {base : Nat} {spare : Nat → Bool} {held : Bool}

theorem one_le (d : DataW H) : 1 ≤ Rows.uptoBulk d := by
  cases d with
  | lit l => cases l <;> simp [Rows.uptoBulk]
  | nil => simp [Rows.uptoBulk]
  | ptr d => simp [Rows.uptoBulk]
  | slice elems spare => simp [Rows.uptoBulk]
  | agg parts => simp [Rows.uptoBulk]
  | iface t d => simp [Rows.uptoBulk]
  | map entries => simp [Rows.uptoBulk]
  | held h => simp [Rows.uptoBulk]

theorem part_le {d : DataW H} {l : List (DataW H)} (h : d ∈ l) : Rows.uptoBulk d ≤ Rows.uptoBulkAll l := by
  induction l with
  | nil => cases h
  | cons x r ih =>
    simp only [Rows.uptoBulkAll]
    cases List.mem_cons.1 h with
    | inl e => subst e; omega
    | inr e => have := ih e; omega

/-- A slice's elements, cell by cell. -/
theorem open_sl2 {t e : TypeId} {C fuel : Nat} {cs : List Value} {x : DataW H × List MemPlace} (ht : P.underlying t = some (.slice e)) (hC : P.cellsOf e = C) (hC0 : 0 < C)
    (h : DataW.trod enc P w base spare held fuel t cs = some x) (hw : ∀ y ∈ DataW.weights P t x.1, y ≤ reachBytes) :
    ∃ (a : Option Addr) (len cap : Nat) (D : Nat → DataW H) (R : List (DataW H)), cs = [.slice a len cap] ∧ (len = 0 ∨ x.1 = .slice ((List.range len).map D) R) ∧ len ≤ cap ∧ cap ≤ maxLen ∧ len * P.bytesOf e ≤ reachBytes ∧ (a = none → cap = 0) ∧
      (len = 0 ∨ ∃ b off, a = some ⟨b, off, none⟩ ∧ b < w.heap.size ∧ ∀ i, i < len → ∃ (cs' : List Value) (Pl : List MemPlace) (n : Nat), cs'.length = C ∧ (∀ j, j < C → w.cell? ⟨b, off + (i * C + j), none⟩ = cs'[j]?) ∧
        DataW.trod enc P w base spare held n e cs' = some (D i, Pl) ∧ ∀ z ∈ DataW.weights P e (D i), z ≤ reachBytes) := by
  rcases open_slice ht h with ⟨rfl, rfl⟩ | ⟨a, len, cap, m, n, D, Pl, rfl, hb, hl, hm, hmm, rfl, hi⟩
  · exact ⟨none, 0, 0, fun _ => .nil, [], rfl, .inl rfl, Nat.le_refl _, Nat.zero_le _, by omega, fun _ => rfl, .inl rfl⟩
  · have hmm' : len ≤ m := by rw [hmm]; split <;> omega
    have hwt : ∀ y, y ∈ ((((List.range len).map D).length + ((List.range (m - len)).map fun j => D (len + j)).length) * P.bytesOf e :: (DataW.weightsAll P e ((List.range len).map D) ++ DataW.weightsAll P e ((List.range (m - len)).map fun j => D (len + j)))) → y ≤ reachBytes := by
      intro y hy
      apply hw
      unfold DataW.weights
      rw [ht]; exact hy
    refine ⟨some a, len, cap, D, _, rfl, .inr rfl, hl, hm, ?_, (fun h => by cases h), ?_⟩
    · have h1 := hwt _ List.mem_cons_self
      simp only [List.length_map, List.length_range] at h1
      rw [show len + (m - len) = m by omega] at h1
      exact Nat.le_trans (Nat.mul_le_mul_right _ hmm') h1
    · by_cases h0 : len = 0
      · exact .inl h0
      · right
        obtain ⟨b, off, spot⟩ := a
        have key : ∀ i, i < len → ∃ (cs' : List Value), cs'.length = C ∧ (∀ j, j < C → w.cell? ((⟨b, off, spot⟩ : Addr).add (i * C + j)) = cs'[j]?) ∧ DataW.trod enc P w base spare held n e cs' = some (D i, Pl i) := by
          intro i hil
          obtain ⟨cs', hc, ht'⟩ := hi i (by omega)
          rw [hC] at hc
          obtain ⟨_, hcl, hat⟩ := World.cells?_some hc
          refine ⟨cs', hcl, fun j hj => ?_, ht'⟩
          rw [← hat j hj, add_add]
        obtain ⟨cs0, hl0, hc0, _⟩ := key 0 (by omega)
        have hc00 := hc0 0 hC0
        rw [List.getElem?_eq_getElem (by omega)] at hc00
        have hs : spot = none := by simpa [Addr.add] using World.cell?_spot hc00
        subst hs
        have hblt : b < w.heap.size := World.block_lt_of_cell? w (⟨b, off, none⟩ : Addr) (by simpa [Addr.add] using hc00)
        refine ⟨b, off, rfl, hblt, fun i hil => ?_⟩
        obtain ⟨cs', h1, h2, h3⟩ := key i hil
        refine ⟨cs', _, n, h1, fun j hj => ?_, h3, fun z hz => hwt z (List.mem_cons_of_mem _ (List.mem_append_left _ (mem_all (List.mem_map.2 ⟨i, List.mem_range.2 hil, rfl⟩) hz)))⟩
        rw [← h2 j hj]
        unfold Addr.add
        split
        next g => rw [g]; rfl
        next => rfl

theorem bulk_len (l : List (DataW H)) : l.length ≤ Rows.uptoBulkAll l := by
  induction l with
  | nil => exact Nat.zero_le _
  | cons x r ih =>
    have := one_le x
    simp only [Rows.uptoBulkAll, List.length_cons]
    omega
end Go.Proofs.Ytgbgahdeopedpaa.Opn
namespace Go.Proofs.Ytgbgahdeopedpaa
open Go.ChangeShapes Go.WideShapes Go.Deep Go.RowKit
open Opn
set_option linter.unusedVariables false
set_option maxRecDepth 100000 in
theorem bytes_arg {H : Type} {enc : TypeId × Value → H} {w : World} {base : Nat} {v : Value} {d : DataW H} {p : List MemPlace}
    (k : DataW.Trod enc Try.prog w 0 (fun _ => true) true 22 v d p) (o : Value.okWide Try.prog w .any base 22 v) (s : ∀ y ∈ DataW.weights Try.prog 22 d, y ≤ reachBytes) :
    ∃ (a : Option Addr) (l : List UInt8) (cap : Nat), v = .slice a l.length cap ∧ l.length ≤ cap ∧ (a = none → cap = 0) ∧ BysAt w a l ∧ l.length ≤ Rows.uptoBulk d ∧ l.length ≤ reachBytes := by
  obtain ⟨fuel, hf⟩ := k
  obtain ⟨a, len, cap, D, R, hcs, hx, hl, hm, hb, hn, hr⟩ := open_sl2 Try.underlying22 (show Try.prog.cellsOf 5 = 1 by kernel_rfl) (by decide) hf s
  obtain ⟨a1, l1, c1, rfl⟩ := okWide_slice Try.underlying22 o
  simp [Value.cells] at hcs
  obtain ⟨rfl, rfl, rfl⟩ := hcs
  rw [show Try.prog.bytesOf 5 = 1 by kernel_rfl] at hb
  have hlm : l1 ≤ maxLen := Nat.le_trans hl hm
  by_cases h0 : l1 = 0
  · subst h0
    exact ⟨a1, [], c1, rfl, hl, hn, ⟨by simp, .inl rfl⟩, by simp, by simp⟩
  · obtain ⟨b, off, rfl, hblt, hc⟩ := hr.resolve_left h0
    obtain ⟨ls, hls, hq⟩ := choose_list (fun i (c : UInt8) => w.cell? ⟨b, off + i, none⟩ = some (.int .u8 (c.toNat : Int))) l1 (fun i hi => by
      obtain ⟨cs', Pl, n, h1, h2, h3, h4⟩ := hc i hi
      obtain ⟨z, rfl, hz⟩ := open_in (k := .u8) Try.underlying5 h3
      have hz1 : 0 ≤ z := hz.1
      have hz2 : z ≤ 255 := hz.2
      refine ⟨UInt8.ofNat z.toNat, ?_⟩
      have := h2 0 (by decide)
      have e : ((UInt8.ofNat z.toNat).toNat : Int) = z := by simp; omega
      rw [e]
      simpa using this)
    subst hls
    refine ⟨_, ls, c1, rfl, hl, hn, ⟨hlm, .inr ⟨b, off, rfl, hblt, fun i hi => ?_⟩⟩, ?_, by omega⟩
    · rw [hq i ls[i] (List.getElem?_eq_getElem hi)]; simp [List.getD, hi]
    · have hx2 : d = .slice ((List.range ls.length).map D) R := hx.resolve_left h0
      rw [hx2]
      have := bulk_len (List.map D (List.range ls.length))
      simp at this
      simp only [Rows.uptoBulk]
      omega
end Go.Proofs.Ytgbgahdeopedpaa
