/- Walks of layer 24: the sections of any bytes. -/
import Derived.Test.YtgbgahdeopedpaaGj
import Derived.Test.YtgbgahdeopedpaaEk
import Derived.Test.YtgbgahdeopedpaaGf
namespace Go.Proofs.Ytgbgahdeopedpaa
open Go.RowKit
set_option linter.unusedVariables false
attribute [local go_sem] ext_mk size_mk toList_mk get_mk take_drop_len take_tail_len ByteArray.mk_append_mk List.append_toArray

/-- the three sections behind an image's first five bytes -/
def sec3L (r : List UInt8) : Int × List UInt8 × List UInt8 × List UInt8 :=
  match secL 1 r with
  | none => (243, [], [], [])
  | some (s0, r0) => match secL 2 r0 with
    | none => (243, [], [], [])
    | some (s1, r1) => match secL 3 r1 with
      | none => (243, [], [], [])
      | some (s2, r2) => if r2 ≠ [] ∨ 255 < s0.length ∨ 1048576 < s1.length then (243, [], [], []) else (0, s0, s1, s2)

/-- an image's sections -/
def secsL (l : List UInt8) : Int × List UInt8 × List UInt8 × List UInt8 :=
  if l.length < 9 then (240, [], [], [])
  else if l.take 4 ≠ [107, 105, 108, 110] then (240, [], [], [])
  else if l.getD 4 0 ≠ 1 then (241, [], [], [])
  else if Im.leN (l.drop (l.length - 4)) ≠ Im.sumL (l.take (l.length - 4)) then (242, [], [], [])
  else sec3L ((l.take (l.length - 4)).drop 5)

/-- what sections answers -/
def SecR (w : World) (t : Int × List UInt8 × List UInt8 × List UInt8) (x : Ending) (w' : World) : Prop :=
  ∃ a0 c0 a1 c1 a2 c2, x = .returned (.tuple #[.agg #[.slice a0 t.2.1.length c0, .slice a1 t.2.2.1.length c1, .slice a2 t.2.2.2.length c2], .int .i64 t.1]) ∧ BysAt w' a0 t.2.1 ∧ BysAt w' a1 t.2.2.1 ∧ BysAt w' a2 t.2.2.2 ∧ t.2.1.length ≤ c0 ∧ t.2.2.1.length ≤ c1 ∧ t.2.2.2.length ≤ c2 ∧ Below w.heap.size w w'

theorem bys_nil (W : World) (a : Option Addr) : BysAt W a [] := ⟨by decide, .inl rfl⟩

theorem SecR.err {w w' : World} {er : Int} {t : Int × List UInt8 × List UInt8 × List UInt8} (ht : t = (er, [], [], [])) (hb : Below w.heap.size w w') : SecR w t (.returned (.tuple #[.agg #[.slice none 0 0, .slice none 0 0, .slice none 0 0], .int .i64 er])) w' := by
  subst ht
  exact ⟨none, 0, none, 0, none, 0, rfl, bys_nil _ _, bys_nil _ _, bys_nil _ _, Nat.le_refl _, Nat.le_refl _, Nat.le_refl _, hb⟩

/-- what the sections' loop keeps -/
structure SeG (w W : World) (q g : Nat) (v0 v1 v2 : Value) (r : List UInt8) : Prop where
  be : Below w.heap.size w W
  z : KAt W w.heap.size zBlk
  o : KAt W (w.heap.size + 1) (oBlk v0 v1 v2)
  b : ∃ off c, r.length + 4 ≤ c ∧ KAt W q (rBlk g off r.length c) ∧ BysAt W (some ⟨g, off, none⟩) r
  hq : w.heap.size + 1 < q
  hg : g < w.heap.size

theorem SeG.next {w W V : World} {q g off c : Nat} {v0 v1 v2 : Value} {r r' : List UInt8} (h : SeG w W q g v0 v1 v2 r) (k : BxAt W V q (rBlk g off r'.length c)) (hc : r'.length + 4 ≤ c) (hb : BysAt V (some ⟨g, off, none⟩) r') : SeG w V q g v0 v1 v2 r' := by
  have h1 := h.hq
  exact ⟨h.be.trans (k.be.mono (by omega)), k.blk h.z (by omega), k.blk h.o (by omega), ⟨off, c, hc, k.k, hb⟩, h1, h.hg⟩

theorem SeG.put {w W : World} {q g : Nat} {v0 v1 v2 : Value} {r : List UInt8} (h : SeG w W q g v0 v1 v2 r) (i : Nat) (v : Value) :
    SeG w (W.setCell ⟨w.heap.size + 1, i, none⟩ v) q g (if i = 0 then v else v0) (if i = 1 then v else v1) (if i = 2 then v else v2) r := by
  have h1 := h.hq
  have h2 := h.hg
  obtain ⟨off, c, hc, hk, hb⟩ := h.b
  refine ⟨h.be.setCell (p := ⟨w.heap.size + 1, i, none⟩) (Nat.le_succ _) _, h.z.put _ (by show w.heap.size ≠ w.heap.size + 1; omega) _, ⟨?_⟩, ⟨off, c, hc, hk.put _ (by show q ≠ w.heap.size + 1; omega) _, hb.put2 (a := ⟨w.heap.size + 1, i, none⟩) (by show g ≠ w.heap.size + 1; omega) _⟩, h1, h2⟩
  have e := heap_setCell_same (i := i) _ _ _ _ v h.o.x
  rw [e]
  match i with
  | 0 | 1 | 2 => rfl
  | (i + 3) => simp [oBlk]

theorem SeG.cells {w W : World} {q g : Nat} {v0 v1 v2 : Value} {r : List UInt8} (h : SeG w W q g v0 v1 v2 r) :
    W.cell? ⟨w.heap.size + 1, 0, none⟩ = some v0 ∧ W.cell? ⟨w.heap.size + 1, 1, none⟩ = some v1 ∧ W.cell? ⟨w.heap.size + 1, 2, none⟩ = some v2 ∧
    W.frozen? ⟨w.heap.size + 1, 0, none⟩ = false ∧ W.frozen? ⟨w.heap.size + 1, 1, none⟩ = false ∧ W.frozen? ⟨w.heap.size + 1, 2, none⟩ = false := by
  refine ⟨?_, ?_, ?_, frozen_of_row _ _ _ _ _ h.o.x, frozen_of_row _ _ _ _ _ h.o.x, frozen_of_row _ _ _ _ _ h.o.x⟩
  all_goals (rw [cell_of_row _ _ _ _ _ _ h.o.x]; rfl)

theorem SeG.zcells {w W : World} {q g : Nat} {v0 v1 v2 : Value} {r : List UInt8} (h : SeG w W q g v0 v1 v2 r) :
    W.cell? ⟨w.heap.size, 0, none⟩ = some (.slice none 0 0) ∧ W.cell? ⟨w.heap.size, 1, none⟩ = some (.slice none 0 0) ∧ W.cell? ⟨w.heap.size, 2, none⟩ = some (.slice none 0 0) ∧
    W.frozen? ⟨w.heap.size, 0, none⟩ = false ∧ W.frozen? ⟨w.heap.size, 1, none⟩ = false ∧ W.frozen? ⟨w.heap.size, 2, none⟩ = false := by
  refine ⟨?_, ?_, ?_, frozen_of_row _ _ _ _ _ h.z.x, frozen_of_row _ _ _ _ _ h.z.x, frozen_of_row _ _ _ _ _ h.z.x⟩
  all_goals (rw [cell_of_row _ _ _ _ _ _ h.z.x]; rfl)

/-- a section that has been read, kept -/
structure SdAt (W : World) (q s : Nat) (S : List UInt8) : Prop where
  h : q < s
  b : BysAt W (some ⟨s, 0, none⟩) S

theorem SdAt.bx {W V : World} {q s : Nat} {S : List UInt8} {o : Obj} (h : SdAt W q s S) (k : BxAt W V q o) : SdAt V q s S := ⟨h.h, h.b.bx2 (Nat.ne_of_gt h.h) k⟩

theorem SdAt.put {W : World} {q s : Nat} {S : List UInt8} (h : SdAt W q s S) (a : Addr) (ha : a.block < q) (v : Value) : SdAt (W.setCell a v) q s S := ⟨h.h, h.b.put2 (by have := h.h; omega) v⟩

theorem seg_start {w WA wc : World} {g off c : Nat} {r : List UInt8} (hA : Below w.heap.size w WA) (hR : BysAt WA (some ⟨g, off, none⟩) r) (k0 : KAt WA w.heap.size zBlk) (k1 : KAt WA (w.heap.size + 1) zBlk) (hb : Below WA.heap.size WA wc) (hc : r.length + 4 ≤ c) (hg : g < w.heap.size) :
    SeG w (wc.alloc (rBlk g off r.length c)) wc.heap.size g (.slice none 0 0) (.slice none 0 0) (.slice none 0 0) r := by
  have hz : Below wc.heap.size wc (wc.alloc (rBlk g off r.length c)) := (Below.refl _ _).alloc (Nat.le_refl _) _
  have h1 := heap_lt k1.x
  have h2 := hb.size
  exact ⟨(hA.trans (hb.mono hA.size)).trans (hz.mono (by omega)), (k0.below hb).alloc _, (k1.below hb).alloc _, ⟨off, c, hc, KAt.new _ _, (hR.below hb).below hz⟩, by omega, hg⟩

set_option maxHeartbeats 4000000 in
set_option maxRecDepth 8000 in
theorem sections_short (a : Option Addr) (cap : Nat) (l : List UInt8) (w : World) (h9 : l.length < 9) :
    Calls Try.prog 26 #[.slice a l.length cap] w (SecR w (secsL l)) := by
  have HS := Lib.hid (show secsL l = (240, [], [], []) from if_pos h9)
  obtain ⟨n, hn⟩ : ∃ n, l.length = n := ⟨_, rfl⟩
  rw [hn] at h9 ⊢
  have k0 : decide ((n : Int) < 9) = true := decide_eq_true (by omega)
  have KZ := Lib.hid ((KAt.new w zBlk).alloc zBlk)
  unfold zBlk at KZ
  have HA2 : ∀ o1 o2, Below w.heap.size w ((w.alloc o1).alloc o2) := fun o1 o2 => ((Below.refl _ _).alloc (Nat.le_refl _) _).alloc (by simp) _
  have HA3 := Lib.hid HA2
  clear HA2 hn h9
  go_enter Try.func26, Try.ntmps26
  go_wp2_with fail
  have hi' : (Try.prog.info? 67).map (·.size) = some 3 := by kernel_rfl
  (try simp only [Exit.inBlock, Exit.then]); refine bodyPost_ret (results_cell2 rfl _ _ w.heap.size 67 _ (0, 0) _ rfl (KZ.out.x) Try.underlying67 rfl hi') rfl ?_
  exact SecR.err HS.out (HA3.out _ _)
end Go.Proofs.Ytgbgahdeopedpaa
/- Walks of layer 24: the sections of nine bytes or more. -/
namespace Go.Proofs.Ytgbgahdeopedpaa
open Go.RowKit
set_option linter.unusedVariables false
attribute [local go_sem] ext_mk size_mk toList_mk get_mk take_drop_len take_tail_len ByteArray.mk_append_mk List.append_toArray

theorem bys_at1 {W : World} {g off : Nat} {l : List UInt8} (h : BysAt W (some ⟨g, off, none⟩) l) {i : Nat} (hi : i < l.length) : W.cell? ⟨g, off + i, none⟩ = some (.int .u8 ((l.getD i 0).toNat : Int)) := by
  rcases h.2 with h | ⟨b, o, ha, hb, hc⟩
  · subst h; simp at hi
  · cases ha
    exact hc i hi

set_option maxHeartbeats 4000000 in
set_option maxRecDepth 8000 in
theorem sections_long (g off cap : Nat) (l : List UInt8) (w : World) (hB : BysAt w (some ⟨g, off, none⟩) l) (hc : l.length ≤ cap) (h9 : 9 ≤ l.length) :
    Calls Try.prog 26 #[.slice (some ⟨g, off, none⟩) l.length cap] w (SecR w (secsL l)) := by
  obtain ⟨a0, a1, a2, a3, a4, mid, t0, t1, t2, t3, he⟩ := parts9 h9
  obtain ⟨m, hm⟩ : ∃ m, mid.length + 5 = m := ⟨_, rfl⟩
  have hn : l.length = m + 4 := by rw [he, ← hm]; simp
  have HB := Lib.hid hB
  have hb : ∀ i, i < l.length → w.cell? ⟨g, off + i, none⟩ = some (.int .u8 ((l.getD i 0).toNat : Int)) := fun i hi => bys_at1 hB hi
  have b0 := hb 0 (by omega)
  have b1 := hb 1 (by omega)
  have b2 := hb 2 (by omega)
  have b3 := hb 3 (by omega)
  have b4 := hb 4 (by omega)
  have c0 := hb m (by omega)
  have c1 := hb (m + 1) (by omega)
  have c2 := hb (m + 2) (by omega)
  have c3 := hb (m + 3) (by omega)
  have hd : ∀ i v, i < 4 → [t0, t1, t2, t3].getD i 0 = v → l.getD (m + i) 0 = v := by
    intro i v hi hv
    rw [he, ← hv]
    simp only [List.getD_eq_getElem?_getD]
    rw [List.getElem?_append_right (by simp; omega)]
    simp [← hm]
  rw [show m = m + 0 from rfl, hd 0 t0 (by decide) rfl] at c0
  rw [hd 1 t1 (by decide) rfl] at c1
  rw [hd 2 t2 (by decide) rfl] at c2
  rw [hd 3 t3 (by decide) rfl] at c3
  rw [show l.getD 0 0 = a0 by rw [he]; rfl] at b0
  rw [show l.getD 1 0 = a1 by rw [he]; rfl] at b1
  rw [show l.getD 2 0 = a2 by rw [he]; rfl] at b2
  rw [show l.getD 3 0 = a3 by rw [he]; rfl] at b3
  rw [show l.getD 4 0 = a4 by rw [he]; rfl] at b4
  have ht4 : l.take 4 = [a0, a1, a2, a3] := by rw [he]; rfl
  have h44 : l.getD 4 0 = a4 := by rw [he]; rfl
  have hbody : BysAt w (some ⟨g, off, none⟩) ([a0, a1, a2, a3, a4] ++ mid) := by
    refine ⟨by have := hB.1; rw [hn] at this; simp [hm]; omega, .inr ⟨g, off, rfl, World.block_lt_of_cell? w _ b0, fun i hi => ?_⟩⟩
    have hi2 : i < m := by rw [← hm]; simpa using hi
    rw [hb i (by omega), he]
    congr 3
    simp only [List.getD_eq_getElem?_getD]
    rw [List.getElem?_append_left hi]
  have hbl : ([a0, a1, a2, a3, a4] ++ mid).length = m := by rw [← hm]; simp
  have htk : l.take (l.length - 4) = [a0, a1, a2, a3, a4] ++ mid := by rw [hn, Nat.add_sub_cancel, he]; exact List.take_left' hbl
  have hdr : l.drop (l.length - 4) = [t0, t1, t2, t3] := by rw [hn, Nat.add_sub_cancel, he]; exact List.drop_left' hbl
  have hmid : (l.take (l.length - 4)).drop 5 = mid := by rw [htk]; rfl
  have hmb : BysAt w (some ⟨g, off + 5, none⟩) mid := hbody.drop (n := 5) (by simp)
  have HD1 := Lib.hid (fun (h : [a0, a1, a2, a3] ≠ [107, 105, 108, 110]) => (show secsL l = (240, [], [], []) by unfold secsL; rw [if_neg (by omega), if_pos (by rw [ht4]; exact h)]))
  have HD2 := Lib.hid (fun (h : [a0, a1, a2, a3] = [107, 105, 108, 110]) (h4 : a4 ≠ 1) => (show secsL l = (241, [], [], []) by unfold secsL; rw [if_neg (by omega), if_neg (by rw [ht4]; exact fun q => q h), if_pos (by rw [h44]; exact h4)]))
  have HD3 := Lib.hid (fun (h : [a0, a1, a2, a3] = [107, 105, 108, 110]) (h4 : a4 = 1) (hs : Im.leN [t0, t1, t2, t3] ≠ Im.sumL ([a0, a1, a2, a3, a4] ++ mid)) => (show secsL l = (242, [], [], []) by unfold secsL; rw [if_neg (by omega), if_neg (by rw [ht4]; exact fun q => q h), if_neg (by rw [h44]; exact fun q => q h4), if_pos (by rw [hdr, htk]; exact hs)]))
  have HD4 := Lib.hid (fun (h : [a0, a1, a2, a3] = [107, 105, 108, 110]) (h4 : a4 = 1) (hs : Im.leN [t0, t1, t2, t3] = Im.sumL ([a0, a1, a2, a3, a4] ++ mid)) => (show secsL l = sec3L mid by unfold secsL; rw [if_neg (by omega), if_neg (by rw [ht4]; exact fun q => q h), if_neg (by rw [h44]; exact fun q => q h4), if_neg (by rw [hdr, htk]; exact fun q => q hs), hmid]))
  have hgl : g < w.heap.size := World.block_lt_of_cell? w _ b0
  have hA2 : ∀ o1 o2, Below w.heap.size w ((w.alloc o1).alloc o2) := fun o1 o2 => ((Below.refl _ _).alloc (Nat.le_refl _) _).alloc (by simp) _
  have hcv : ∀ o1 o2, Sem.run Try.prog (convert 22 9 (.slice (some ⟨g, off, none⟩) 4 cap)) ((w.alloc o1).alloc o2) = .ok (.string ⟨#[a0, a1, a2, a3]⟩) ((w.alloc o1).alloc o2) := fun o1 o2 => by
    refine conv_bys (l := [a0, a1, a2, a3]) cap (BysAt.news (l := [a0, a1, a2, a3]) (off := off) fun i hi => ?_)
    have e : ∀ i, ((w.alloc o1).alloc o2).cell? ⟨g, off + i, none⟩ = w.cell? ⟨g, off + i, none⟩ := fun i => by exact (hA2 o1 o2).cell (p := ⟨g, off + i, none⟩) hgl
    rw [e]
    match i, hi with
    | 0, _ => exact b0
    | 1, _ => exact b1
    | 2, _ => exact b2
    | 3, _ => exact b3
  obtain ⟨n, hnn⟩ : ∃ n, l.length = n := ⟨_, rfl⟩
  have hm4 : (n : Int) ≤ 9223372036854775807 := by have := hB.1; unfold maxLen at this; omega
  have g1 : decide ((n : Int) < 9) = false := decide_eq_false (by omega)
  have g2 : IntKind.i64.wrap ((n : Int) - 4) = (m : Int) := by rw [IntWalk.i64_in _ (by omega)]; omega
  have g3 : (n : Int) - 4 = (m : Int) := by omega
  have g4 : 4 ≤ cap := by omega
  have g5 : n ≤ cap := by omega
  have g6 : m ≤ n := by omega
  have g7 : n - m = 4 := by omega
  have gx : (4 : Int) < (n : Int) := by omega
  have gy : decide ((4 : Int) < (n : Int)) = true := decide_eq_true gx
  rw [hnn] at hc ⊢
  have HA2 := Lib.hid hA2
  have KZ := Lib.hid ((KAt.new w zBlk).alloc zBlk)
  unfold zBlk at KZ
  rw [Nat.add_zero] at c0
  have HBO := Lib.hid hbody
  have HBL := Lib.hid hbl
  have HMB := Lib.hid hmb
  have HMM := Lib.hid hm
  clear hmb hmid ht4 h44 htk hdr hb hd hB hA2 he hn h9 hm hbody hbl hnn hc
  have hBl : (⟨#[a0, a1, a2, a3]⟩ : ByteArray).toList = [a0, a1, a2, a3] := toList_mk [a0, a1, a2, a3]
  obtain ⟨B, hBB⟩ : ∃ B, (⟨#[a0, a1, a2, a3]⟩ : ByteArray) = B := ⟨_, rfl⟩
  rw [hBB] at hcv hBl
  clear hBB b0 b1 b2 b3
  by_cases hM : [a0, a1, a2, a3] = [107, 105, 108, 110]
  rotate_left
  · have hs : (B.toList == [107, 105, 108, 110]) = false := by rw [hBl]; simpa using hM
    have HDZ := Lib.hid (HD1.out hM)
    clear hM hBl c0 c1 c2 c3
    go_enter Try.func26, Try.ntmps26
    go_wp2_with fail
    have hi' : (Try.prog.info? 67).map (·.size) = some 3 := by kernel_rfl
    (try simp only [Exit.inBlock, Exit.then]); refine bodyPost_ret (results_cell2 rfl _ _ w.heap.size 67 _ (0, 0) _ rfl (KZ.out.x) Try.underlying67 rfl hi') rfl ?_
    exact SecR.err HDZ.out (HA2.out _ _)
  have hs : (B.toList == [107, 105, 108, 110]) = true := by rw [hBl]; simpa using hM
  have HM := Lib.hid hM
  clear hM hBl
  have b4' : ∀ o1 o2, ((w.alloc o1).alloc o2).cell? ⟨g, off + 4, none⟩ = some (.int .u8 (a4.toNat : Int)) := fun o1 o2 => ((HA2.out o1 o2).cell (p := ⟨g, off + 4, none⟩) hgl).trans b4
  by_cases h4 : a4 = 1
  rotate_left
  · have hv : ((a4.toNat : Int) == 1) = false := by
      rw [beq_eq_false_iff_ne]
      intro q
      exact h4 (UInt8.toNat_inj.1 (by have : a4.toNat = 1 := by omega
                                      rw [this]; rfl))
    have HDZ := Lib.hid (HD2.out HM.out h4)
    clear h4 c0 c1 c2 c3
    go_enter Try.func26, Try.ntmps26
    go_wp2_with fail
    have hi' : (Try.prog.info? 67).map (·.size) = some 3 := by kernel_rfl
    (try simp only [Exit.inBlock, Exit.then]); refine bodyPost_ret (results_cell2 rfl _ _ w.heap.size 67 _ (0, 0) _ rfl (KZ.out.x) Try.underlying67 rfl hi') rfl ?_
    exact SecR.err HDZ.out (HA2.out _ _)
  subst h4
  obtain ⟨S1, hS1⟩ : ∃ S, Im.sumL ([a0, a1, a2, a3, 1] ++ mid) = S := ⟨_, rfl⟩
  obtain ⟨S2, hS2⟩ : ∃ S, Im.leN [t0, t1, t2, t3] = S := ⟨_, rfl⟩
  have HD5 := Lib.hid (HD3.out HM.out rfl)
  have HD6 := Lib.hid (HD4.out HM.out rfl)
  rw [hS1, hS2] at HD5 HD6
  have h4e := or4 t0 t1 t2 t3
  rw [hS2] at h4e
  obtain ⟨u0, hu0⟩ : ∃ u : Int, (t0.toNat : Int) = u := ⟨_, rfl⟩
  obtain ⟨u1, hu1⟩ : ∃ u : Int, (t1.toNat : Int) = u := ⟨_, rfl⟩
  obtain ⟨u2, hu2⟩ : ∃ u : Int, (t2.toNat : Int) = u := ⟨_, rfl⟩
  obtain ⟨u3, hu3⟩ : ∃ u : Int, (t3.toNat : Int) = u := ⟨_, rfl⟩
  have l0 := t0.toNat_lt
  have l1 := t1.toNat_lt
  have l2 := t2.toNat_lt
  have l3 := t3.toNat_lt
  have r0 : 0 ≤ u0 ∧ u0 < 256 := by omega
  have r1 : 0 ≤ u1 ∧ u1 < 256 := by omega
  have r2 : 0 ≤ u2 ∧ u2 < 256 := by omega
  have r3 : 0 ≤ u3 ∧ u3 < 256 := by omega
  rw [hu0] at c0 h4e
  rw [hu1] at c1 h4e
  rw [hu2] at c2 h4e
  rw [hu3] at c3 h4e
  have w0 : IntKind.u32.wrap u0 = u0 := IntWalk.u32_in _ (by omega)
  have w1' : IntKind.u32.wrap u1 = u1 := IntWalk.u32_in _ (by omega)
  have w2' : IntKind.u32.wrap u2 = u2 := IntWalk.u32_in _ (by omega)
  have w3' : IntKind.u32.wrap u3 = u3 := IntWalk.u32_in _ (by omega)
  have v1 : IntKind.u32.wrap (u1 * 256) = u1 * 256 := IntWalk.u32_in _ (by omega)
  have v2 : IntKind.u32.wrap (u2 * 65536) = u2 * 65536 := IntWalk.u32_in _ (by omega)
  have v3 : IntKind.u32.wrap (u3 * 16777216) = u3 * 16777216 := IntWalk.u32_in _ (by omega)
  clear hu0 hu1 hu2 hu3 l0 l1 l2 l3 hS2
  go_enter Try.func26, Try.ntmps26
  go_wp2_with fail
  go_quiet (fail)
  go_wp2_with fail
  obtain ⟨WA, hWA⟩ : ∃ W, (((w.alloc (.cells #[.slice none 0 0, .slice none 0 0, .slice none 0 0] 67)).alloc (.cells #[.slice none 0 0, .slice none 0 0, .slice none 0 0] 67)).drewN nq) = W := ⟨_, rfl⟩
  have hAA : Below w.heap.size w WA := by rw [← hWA]; exact below_drewN (HA2.out _ _) _
  have kz : KAt WA w.heap.size zBlk := by rw [← hWA]; exact ((KAt.new w zBlk).alloc zBlk).below (below_drewN (Below.refl _ _) _)
  have ky : KAt WA (w.heap.size + 1) zBlk := by
    have h := KAt.new (w.alloc zBlk) zBlk
    rw [show (w.alloc zBlk).heap.size = w.heap.size + 1 from by simp] at h
    rw [← hWA]; exact h.below (below_drewN (Below.refl _ _) _)
  rw [hWA]
  clear hWA hcv b4'
  obtain ⟨SS, hSS⟩ : ∃ SS : World → Prop, SS = fun V => Below WA.heap.size WA V := ⟨_, rfl⟩
  have c0' := (hAA.cell (p := ⟨g, off + m, none⟩) hgl).trans c0
  have c1' := (hAA.cell (p := ⟨g, off + m + 1, none⟩) hgl).trans c1
  have c2' := (hAA.cell (p := ⟨g, off + m + 2, none⟩) hgl).trans c2
  have c3' := (hAA.cell (p := ⟨g, off + m + 3, none⟩) hgl).trans c3
  clear c0 c1 c2 c3
  have hgA : g < WA.heap.size := Nat.lt_of_lt_of_le hgl hAA.size
  have SK : Hid (∀ A w', SS A → Below A.heap.size A w' → (w'.cell? ⟨g, off + m, none⟩ = some (.int .u8 u0) ∧ w'.cell? ⟨g, off + m + 1, none⟩ = some (.int .u8 u1) ∧ w'.cell? ⟨g, off + m + 2, none⟩ = some (.int .u8 u2) ∧ w'.cell? ⟨g, off + m + 3, none⟩ = some (.int .u8 u3)) ∧ SS w') := Lib.hid (by
    rw [hSS]
    rintro A B h hb
    have h2 : Below WA.heap.size WA B := h.trans (hb.mono h.size)
    exact ⟨⟨(h2.cell (p := ⟨g, off + m, none⟩) hgA).trans c0', (h2.cell (p := ⟨g, off + m + 1, none⟩) hgA).trans c1', (h2.cell (p := ⟨g, off + m + 2, none⟩) hgA).trans c2', (h2.cell (p := ⟨g, off + m + 3, none⟩) hgA).trans c3'⟩, h2⟩)
  have hS0 : SS WA.drew := by rw [hSS]; exact (Below.refl _ _).drew
  have CT : Hid (∀ V, SS V → Calls Try.prog 10 #[.slice (some ⟨g, off, none⟩) m cap] V fun x w' => x = .returned (.int .u32 (S1 : Int)) ∧ Below V.heap.size V w') := Lib.hid (by
    rw [hSS]
    intro V h
    have := sum_any (some ⟨g, off, none⟩) ([a0, a1, a2, a3, 1] ++ mid) cap V ((HBO.out.below hAA).below h)
    rw [HBL.out, hS1] at this
    exact this)
  have HBS : Hid (∀ V, SS V → Below w.heap.size w V ∧ KAt V w.heap.size zBlk ∧ KAt V (w.heap.size + 1) zBlk) := Lib.hid (by rw [hSS]; exact fun V h => ⟨hAA.trans (h.mono hAA.size), kz.below h, ky.below h⟩)
  have HGL := Lib.hid hgl
  clear hSS kz ky hAA hgA hgl hS1
  obtain ⟨bb, hbb⟩ : ∃ bb : Bool, ((S1 : Int) != (S2 : Int)) = bb := ⟨_, rfl⟩
  have HBB := Lib.hid hbb
  go_cut [61] from 37 to 61 (fun v61 wx => v61 = .bool bb ∧ SS wx)
  case first =>
    go_region_held3 (fun w' => w'.cell? ⟨g, off + m, none⟩ = some (.int .u8 u0) ∧ w'.cell? ⟨g, off + m + 1, none⟩ = some (.int .u8 u1) ∧ w'.cell? ⟨g, off + m + 2, none⟩ = some (.int .u8 u2) ∧ w'.cell? ⟨g, off + m + 3, none⟩ = some (.int .u8 u3) ∧ SS w')
      (first
        | (go_keep; done)
        | (refine ⟨?_, ?_, ?_, ?_, hS0⟩ <;> (go_keep; done))
        | (go_split_ands; (obtain ⟨⟨y0, y1, y2, y3⟩, y4⟩ := SK.out _ _ (by assumption) hbx); exact ⟨y0, y1, y2, y3, y4⟩))
      (first | (go_at_call 10; (with_reducible refine (CT.out _ ?_).mono ?_); (go_split_ands; assumption); rintro e w1 ⟨rfl, hbx⟩))
    all_goals go_wp2_with fail
    all_goals go_meet
    all_goals (go_split_ands; exact ⟨rfl, by assumption⟩)
  case rest =>
    obtain ⟨rfl, hsc⟩ := hcut
    obtain ⟨zb, z1, z2⟩ := HBS.out _ hsc
    have HSC := Lib.hid hsc
    clear hsc SK hS0 CT c0' c1' c2' c3' h4e w0 w1' w2' w3' v1 v2 v3 hbb
    by_cases hs : S2 = S1
    rotate_left
    · have hb1 : bb = true := by rw [← HBB.out, bne, Bool.not_eq_true', beq_eq_false_iff_ne]; omega
      have HDZ := Lib.hid (HD5.out hs)
      obtain ⟨e0, e1, e2⟩ := z1.ocells
      obtain ⟨f0, f1, f2⟩ := z2.ocells
      have Z0 := Lib.hid zb
      have Z1 := Lib.hid z1
      have fr0 : wc.frozen? ⟨w.heap.size, 0, none⟩ = false := frozen_of_row _ _ _ _ _ z1.x
      have fr1 : wc.frozen? ⟨w.heap.size, 1, none⟩ = false := frozen_of_row _ _ _ _ _ z1.x
      have fr2 : wc.frozen? ⟨w.heap.size, 2, none⟩ = false := frozen_of_row _ _ _ _ _ z1.x
      subst hb1
      clear z1 z2 zb hs
      go_wp2_with fail
      have hi' : (Try.prog.info? 67).map (·.size) = some 3 := by kernel_rfl
      (try simp only [Exit.inBlock, Exit.then]); refine bodyPost_ret (results_cell2 rfl _ _ w.heap.size 67 _ (0, 0) _ rfl (z_set Z1.out _ _ _) Try.underlying67 rfl hi') rfl ?_
      exact SecR.err HDZ.out (((Z0.out.setCell (p := ⟨w.heap.size, 0, none⟩) (Nat.le_refl _) _).setCell (p := ⟨w.heap.size, 1, none⟩) (Nat.le_refl _) _).setCell (p := ⟨w.heap.size, 2, none⟩) (Nat.le_refl _) _)
    · have hb1 : bb = false := by rw [← HBB.out, hs, bne, Bool.not_eq_false', beq_iff_eq]
      have HDZ := Lib.hid (HD6.out hs)
      have hm5 : 5 ≤ m := by have := HMM.out; omega
      have hc5 : ¬ (cap = 5) := by omega
      have hml : m - 5 = mid.length := by have := HMM.out; omega
      have SE := Lib.hid (seg_start zb (HMB.out.below zb) z1 z2 (Below.refl wc.heap.size wc) (show mid.length + 4 ≤ cap - 5 by omega) HGL.out)
      have hmf : ∀ (fn : Fn) (first cap : Array Value) (w : World), (Instr.makeFunc fn first cap).run Try.prog w = .ok (.func fn first cap) w := fun _ _ _ _ => rfl
      rw [← hml] at SE
      have HML := Lib.hid hml
      subst hb1
      clear z1 z2 zb hs hml
      go_wp2_with fail
      obtain ⟨W3, hW3⟩ : ∃ W, wc.alloc (.cells #[.slice (some ⟨g, off + 5, none⟩) (m - 5) (cap - 5)] 22) = W := ⟨_, rfl⟩
      have se := SE.out
      unfold rBlk at se
      rw [hW3] at se
      rw [hW3]
      obtain ⟨q, hq⟩ : ∃ q, wc.heap.size = q := ⟨_, rfl⟩
      rw [hq] at se
      rw [hq]
      clear SE hW3 hq
      have SE := Lib.hid se
      clear se
      have NX := Lib.hid (fun k hk r off c W h1 h2 h3 h4 => sec_next k hk r q g off c W h1 h2 h3 h4)
      go_loopw [66] (fun vi wr => (vi = .int .i64 0 ∧ SeG w wr q g (.slice none 0 0) (.slice none 0 0) (.slice none 0 0) mid) ∨ (vi = .int .i64 1 ∧ ∃ s0 D0 r0, secL 1 mid = some (D0, r0) ∧ SeG w wr q g (.slice (some ⟨s0, 0, none⟩) D0.length D0.length) (.slice none 0 0) (.slice none 0 0) r0 ∧ SdAt wr q s0 D0) ∨ (vi = .int .i64 2 ∧ ∃ s0 D0 r0 s1 D1 r1, secL 1 mid = some (D0, r0) ∧ secL 2 r0 = some (D1, r1) ∧ SeG w wr q g (.slice (some ⟨s0, 0, none⟩) D0.length D0.length) (.slice (some ⟨s1, 0, none⟩) D1.length D1.length) (.slice none 0 0) r1 ∧ SdAt wr q s0 D0 ∧ SdAt wr q s1 D1) ∨ (vi = .int .i64 3 ∧ ∃ s0 D0 r0 s1 D1 r1 s2 D2 r2, secL 1 mid = some (D0, r0) ∧ secL 2 r0 = some (D1, r1) ∧ secL 3 r1 = some (D2, r2) ∧ SeG w wr q g (.slice (some ⟨s0, 0, none⟩) D0.length D0.length) (.slice (some ⟨s1, 0, none⟩) D1.length D1.length) (.slice (some ⟨s2, 0, none⟩) D2.length D2.length) r2 ∧ SdAt wr q s0 D0 ∧ SdAt wr q s1 D1 ∧ SdAt wr q s2 D2)) (fun vi _ => 3 - (intOf vi).toNat)
      case atStart => exact .inl ⟨rfl, SE.out⟩
      case round =>
        obtain ⟨W0, hW0⟩ : ∃ W, W = wr := ⟨_, rfl⟩
        subst hW0
        clear SE
        rcases hrel with ⟨rfl, h0⟩ | ⟨rfl, s0, D0, r0, E1, h0, d0⟩ | ⟨rfl, s0, D0, r0, s1, D1, r1, E1, E2, h0, d0, d1⟩ | ⟨rfl, s0, D0, r0, s1, D1, r1, s2, D2, r2, E1, E2, E3, h0, d0, d1, d2⟩
        · have H := Lib.hid h0
          have CN := Lib.hid (fun off c W h1 h2 h3 h4 => NX.out 1 (by decide) mid off c W h1 h2 h3 h4)
          cases hs1 : secL 1 mid with
          | none =>
            have HE1 := Lib.hid (HDZ.out.trans (show sec3L mid = (243, [], [], []) by unfold sec3L; rw [hs1]))
            rw [hs1] at CN
            clear h0 hs1
            go_wp2_with (first | (go_at_call 39; (obtain ⟨of, c, hc, hk, hr⟩ := H.out.b); refine (CN.out of c _ hk hc hr (by have := H.out.hg; have := H.out.hq; omega)).mono ?_; rintro e w1 ⟨rfl, ob, hX⟩; have Z1 := Lib.hid (hX.blk H.out.z (by have := H.out.hq; omega)); have B1 := Lib.hid (H.out.be.trans (hX.be.mono (by have := H.out.hq; omega))); obtain ⟨y0, y1, y2⟩ := Z1.out.ocells; have x0 : w1.frozen? ⟨w.heap.size, 0, none⟩ = false := frozen_of_row _ _ _ _ _ Z1.out.x; have x1 : w1.frozen? ⟨w.heap.size, 1, none⟩ = false := frozen_of_row _ _ _ _ _ Z1.out.x; have x2 : w1.frozen? ⟨w.heap.size, 2, none⟩ = false := frozen_of_row _ _ _ _ _ Z1.out.x; clear hk hr hc hX))
            have hi' : (Try.prog.info? 67).map (·.size) = some 3 := by kernel_rfl
            (try simp only [Exit.inBlock, Exit.then]); refine bodyPost_ret (results_cell2 rfl _ _ w.heap.size 67 _ (0, 0) _ rfl (z_set Z1.out _ _ _) Try.underlying67 rfl hi') rfl ?_
            exact SecR.err HE1.out (((B1.out.setCell (p := ⟨w.heap.size, 0, none⟩) (Nat.le_refl _) _).setCell (p := ⟨w.heap.size, 1, none⟩) (Nat.le_refl _) _).setCell (p := ⟨w.heap.size, 2, none⟩) (Nat.le_refl _) _)
          | some D =>
            obtain ⟨D0, r0⟩ := D
            have HE1 := Lib.hid hs1
            rw [hs1] at CN
            clear h0 hs1
            go_wp2_with (first | (go_at_call 39; (obtain ⟨of, c, hc, hk, hr⟩ := H.out.b); refine (CN.out of c _ hk hc hr (by have := H.out.hg; have := H.out.hq; omega)).mono ?_; rintro e w1 ⟨sb, of2, c2, rfl, hsb, hB, hX, hc2, hr2⟩; have H1 := Lib.hid (H.out.next hX hc2 hr2); have HX := Lib.hid hX; have HS := Lib.hid (SdAt.mk (Nat.lt_of_lt_of_le (heap_lt hk.x) hsb) hB); clear hk hr hc hsb hB hX hc2 hr2; obtain ⟨e0, e1, e2, z0, z1, z2⟩ := H1.out.cells))
            go_roundw
            case rel => exact .inr (.inl ⟨rfl, sb, D0, r0, rfl, H1.out.put 0 _, HS.out.put ⟨_, 0, none⟩ (by have := H1.out.hq; exact this) _⟩)
            case measure => simp [intOf]
        · have H := Lib.hid h0
          have CN := Lib.hid (fun off c W h1 h2 h3 h4 => NX.out 2 (by decide) r0 off c W h1 h2 h3 h4)
          have HE0 := Lib.hid E1
          have T0 := Lib.hid d0
          cases hs1 : secL 2 r0 with
          | none =>
            have HE1 := Lib.hid (HDZ.out.trans (show sec3L mid = (243, [], [], []) by unfold sec3L; rw [E1]; dsimp only; rw [hs1]))
            rw [hs1] at CN
            clear h0 hs1 E1 d0
            go_wp2_with (first | (go_at_call 39; (obtain ⟨of, c, hc, hk, hr⟩ := H.out.b); refine (CN.out of c _ hk hc hr (by have := H.out.hg; have := H.out.hq; omega)).mono ?_; rintro e w1 ⟨rfl, ob, hX⟩; have Z1 := Lib.hid (hX.blk H.out.z (by have := H.out.hq; omega)); have B1 := Lib.hid (H.out.be.trans (hX.be.mono (by have := H.out.hq; omega))); obtain ⟨y0, y1, y2⟩ := Z1.out.ocells; have x0 : w1.frozen? ⟨w.heap.size, 0, none⟩ = false := frozen_of_row _ _ _ _ _ Z1.out.x; have x1 : w1.frozen? ⟨w.heap.size, 1, none⟩ = false := frozen_of_row _ _ _ _ _ Z1.out.x; have x2 : w1.frozen? ⟨w.heap.size, 2, none⟩ = false := frozen_of_row _ _ _ _ _ Z1.out.x; clear hk hr hc hX))
            have hi' : (Try.prog.info? 67).map (·.size) = some 3 := by kernel_rfl
            (try simp only [Exit.inBlock, Exit.then]); refine bodyPost_ret (results_cell2 rfl _ _ w.heap.size 67 _ (0, 0) _ rfl (z_set Z1.out _ _ _) Try.underlying67 rfl hi') rfl ?_
            exact SecR.err HE1.out (((B1.out.setCell (p := ⟨w.heap.size, 0, none⟩) (Nat.le_refl _) _).setCell (p := ⟨w.heap.size, 1, none⟩) (Nat.le_refl _) _).setCell (p := ⟨w.heap.size, 2, none⟩) (Nat.le_refl _) _)
          | some D =>
            obtain ⟨D1, r1⟩ := D
            have HE1 := Lib.hid hs1
            rw [hs1] at CN
            clear h0 hs1 E1 d0
            go_wp2_with (first | (go_at_call 39; (obtain ⟨of, c, hc, hk, hr⟩ := H.out.b); refine (CN.out of c _ hk hc hr (by have := H.out.hg; have := H.out.hq; omega)).mono ?_; rintro e w1 ⟨sb, of2, c2, rfl, hsb, hB, hX, hc2, hr2⟩; have H1 := Lib.hid (H.out.next hX hc2 hr2); have HX := Lib.hid hX; have HS := Lib.hid (SdAt.mk (Nat.lt_of_lt_of_le (heap_lt hk.x) hsb) hB); clear hk hr hc hsb hB hX hc2 hr2; obtain ⟨e0, e1, e2, z0, z1, z2⟩ := H1.out.cells))
            go_roundw
            case rel => exact .inr (.inr (.inl ⟨rfl, s0, D0, r0, sb, D1, r1, HE0.out, HE1.out, H1.out.put 1 _, (T0.out.bx HX.out).put ⟨_, 1, none⟩ (by have := H1.out.hq; exact this) _, HS.out.put ⟨_, 1, none⟩ (by have := H1.out.hq; exact this) _⟩))
            case measure => simp [intOf]
        · have H := Lib.hid h0
          have CN := Lib.hid (fun off c W h1 h2 h3 h4 => NX.out 3 (by decide) r1 off c W h1 h2 h3 h4)
          have HE0 := Lib.hid (And.intro E1 E2)
          have T0 := Lib.hid (And.intro d0 d1)
          cases hs1 : secL 3 r1 with
          | none =>
            have HE1 := Lib.hid (HDZ.out.trans (show sec3L mid = (243, [], [], []) by unfold sec3L; rw [E1]; dsimp only; rw [E2]; dsimp only; rw [hs1]))
            rw [hs1] at CN
            clear h0 hs1 E1 E2 d0 d1
            go_wp2_with (first | (go_at_call 39; (obtain ⟨of, c, hc, hk, hr⟩ := H.out.b); refine (CN.out of c _ hk hc hr (by have := H.out.hg; have := H.out.hq; omega)).mono ?_; rintro e w1 ⟨rfl, ob, hX⟩; have Z1 := Lib.hid (hX.blk H.out.z (by have := H.out.hq; omega)); have B1 := Lib.hid (H.out.be.trans (hX.be.mono (by have := H.out.hq; omega))); obtain ⟨y0, y1, y2⟩ := Z1.out.ocells; have x0 : w1.frozen? ⟨w.heap.size, 0, none⟩ = false := frozen_of_row _ _ _ _ _ Z1.out.x; have x1 : w1.frozen? ⟨w.heap.size, 1, none⟩ = false := frozen_of_row _ _ _ _ _ Z1.out.x; have x2 : w1.frozen? ⟨w.heap.size, 2, none⟩ = false := frozen_of_row _ _ _ _ _ Z1.out.x; clear hk hr hc hX))
            have hi' : (Try.prog.info? 67).map (·.size) = some 3 := by kernel_rfl
            (try simp only [Exit.inBlock, Exit.then]); refine bodyPost_ret (results_cell2 rfl _ _ w.heap.size 67 _ (0, 0) _ rfl (z_set Z1.out _ _ _) Try.underlying67 rfl hi') rfl ?_
            exact SecR.err HE1.out (((B1.out.setCell (p := ⟨w.heap.size, 0, none⟩) (Nat.le_refl _) _).setCell (p := ⟨w.heap.size, 1, none⟩) (Nat.le_refl _) _).setCell (p := ⟨w.heap.size, 2, none⟩) (Nat.le_refl _) _)
          | some D =>
            obtain ⟨D2, r2⟩ := D
            have HE1 := Lib.hid hs1
            rw [hs1] at CN
            clear h0 hs1 E1 E2 d0 d1
            go_wp2_with (first | (go_at_call 39; (obtain ⟨of, c, hc, hk, hr⟩ := H.out.b); refine (CN.out of c _ hk hc hr (by have := H.out.hg; have := H.out.hq; omega)).mono ?_; rintro e w1 ⟨sb, of2, c2, rfl, hsb, hB, hX, hc2, hr2⟩; have H1 := Lib.hid (H.out.next hX hc2 hr2); have HX := Lib.hid hX; have HS := Lib.hid (SdAt.mk (Nat.lt_of_lt_of_le (heap_lt hk.x) hsb) hB); clear hk hr hc hsb hB hX hc2 hr2; obtain ⟨e0, e1, e2, z0, z1, z2⟩ := H1.out.cells))
            go_roundw
            case rel => exact .inr (.inr (.inr ⟨rfl, s0, D0, r0, s1, D1, r1, sb, D2, r2, HE0.out.1, HE0.out.2, HE1.out, H1.out.put 2 _, (T0.out.1.bx HX.out).put ⟨_, 2, none⟩ (by have := H1.out.hq; exact this) _, (T0.out.2.bx HX.out).put ⟨_, 2, none⟩ (by have := H1.out.hq; exact this) _, HS.out.put ⟨_, 2, none⟩ (by have := H1.out.hq; exact this) _⟩))
            case measure => simp [intOf]
        · have HZ := Lib.hid (HDZ.out.trans (show sec3L mid = if r2 ≠ [] ∨ 255 < D0.length ∨ 1048576 < D1.length then (243, [], [], []) else (0, D0, D1, D2) by unfold sec3L; rw [E1]; dsimp only; rw [E2]; dsimp only; rw [E3]))
          have H := Lib.hid h0
          obtain ⟨of, c, hc, hk, hr⟩ := h0.b
          obtain ⟨e0, e1, e2, z0, z1, z2⟩ := h0.cells
          obtain ⟨y0, y1, y2, x0, x1, x2⟩ := h0.zcells
          have eq := hk.rcells.1
          have hi' : (Try.prog.info? 67).map (·.size) = some 3 := by kernel_rfl
          have T0 := Lib.hid d0
          have T1 := Lib.hid d1
          have T2 := Lib.hid d2
          obtain ⟨L0, hL0⟩ : ∃ L, D0.length = L := ⟨_, rfl⟩
          obtain ⟨L1, hL1⟩ : ∃ L, D1.length = L := ⟨_, rfl⟩
          obtain ⟨L2, hL2⟩ : ∃ L, D2.length = L := ⟨_, rfl⟩
          obtain ⟨Lr, hLr⟩ : ∃ L, r2.length = L := ⟨_, rfl⟩
          rw [hL0] at e0
          rw [hL1] at e1
          rw [hL2] at e2
          rw [hLr] at eq
          by_cases hbad : r2 ≠ [] ∨ 255 < D0.length ∨ 1048576 < D1.length
          · have HE1 := Lib.hid (HZ.out.trans (if_pos hbad))
            have kb : 0 < Lr ∨ (¬ (0 < Lr) ∧ decide ((255 : Int) < (L0 : Int)) = true) ∨ (¬ (0 < Lr) ∧ decide ((255 : Int) < (L0 : Int)) = false ∧ decide ((1048576 : Int) < (L1 : Int)) = true) := by
              by_cases h1 : 0 < Lr
              · left; exact h1
              · right
                have hr0 : r2 = [] := List.length_eq_zero_iff.1 (by omega)
                by_cases h2 : 255 < L0
                · left; exact ⟨h1, decide_eq_true (by omega)⟩
                · right; refine ⟨h1, decide_eq_false (by omega), decide_eq_true ?_⟩
                  rcases hbad with q | q | q
                  · exact absurd hr0 q
                  · omega
                  · omega
            clear hbad h0 hk hr hc E1 E2 E3 d0 d1 d2 hL0 hL1 hL2 hLr
            have B1 := Lib.hid H.out.be
            have Z1 := Lib.hid H.out.z
            rcases kb with k0 | ⟨k0, k1⟩ | ⟨k0, k1, k2⟩
            all_goals
              go_wp2_with fail
              have hi' : (Try.prog.info? 67).map (·.size) = some 3 := by kernel_rfl
              (try simp only [Exit.inBlock, Exit.then]); refine bodyPost_ret (results_cell2 rfl _ _ w.heap.size 67 _ (0, 0) _ rfl (z_set Z1.out _ _ _) Try.underlying67 rfl hi') rfl ?_
              exact SecR.err HE1.out (((B1.out.setCell (p := ⟨w.heap.size, 0, none⟩) (Nat.le_refl _) _).setCell (p := ⟨w.heap.size, 1, none⟩) (Nat.le_refl _) _).setCell (p := ⟨w.heap.size, 2, none⟩) (Nat.le_refl _) _)
          · have HE1 := Lib.hid (HZ.out.trans (if_neg hbad))
            have k0 : ¬ (0 < Lr) := by
              intro h
              exact hbad (Or.inl (by rintro rfl; simp at hLr; omega))
            have k1 : decide ((255 : Int) < (L0 : Int)) = false := decide_eq_false (by have := fun q => hbad (Or.inr (Or.inl q)); omega)
            have k2 : decide ((1048576 : Int) < (L1 : Int)) = false := decide_eq_false (by have := fun q => hbad (Or.inr (Or.inr q)); omega)
            have HLL := Lib.hid (And.intro hL0 (And.intro hL1 hL2))
            clear hbad h0 hk hr hc E1 E2 E3 d0 d1 d2 hL0 hL1 hL2 hLr
            go_wp2_with fail
            (try simp only [Exit.inBlock, Exit.then]); refine bodyPost_ret (results_cell2 rfl _ _ w.heap.size 67 _ (0, 0) _ rfl (z_set H.out.z _ _ _) Try.underlying67 rfl hi') rfl ?_
            obtain ⟨rfl, rfl, rfl⟩ := HLL.out
            have hq := H.out.hq
            have hp3 : ∀ {s : Nat} {D : List UInt8}, SdAt W0 q s D → BysAt (((W0.setCell ⟨w.heap.size, 0, none⟩ (.slice (some ⟨s0, 0, none⟩) D0.length D0.length)).setCell ⟨w.heap.size, 1, none⟩ (.slice (some ⟨s1, 0, none⟩) D1.length D1.length)).setCell ⟨w.heap.size, 2, none⟩ (.slice (some ⟨s2, 0, none⟩) D2.length D2.length)) (some ⟨s, 0, none⟩) D := fun h =>
              (((h.put ⟨_, 0, none⟩ (by show w.heap.size < q; omega) _).put ⟨_, 1, none⟩ (by show w.heap.size < q; omega) _).put ⟨_, 2, none⟩ (by show w.heap.size < q; omega) _).b
            rw [HE1.out]
            exact ⟨some ⟨s0, 0, none⟩, D0.length, some ⟨s1, 0, none⟩, D1.length, some ⟨s2, 0, none⟩, D2.length, rfl, hp3 T0.out, hp3 T1.out, hp3 T2.out, Nat.le_refl _, Nat.le_refl _, Nat.le_refl _, ((H.out.be.setCell (p := ⟨w.heap.size, 0, none⟩) (Nat.le_refl _) _).setCell (p := ⟨w.heap.size, 1, none⟩) (Nat.le_refl _) _).setCell (p := ⟨w.heap.size, 2, none⟩) (Nat.le_refl _) _⟩

theorem sections_any (a : Option Addr) (cap : Nat) (l : List UInt8) (w : World) (hB : BysAt w a l) (hc : l.length ≤ cap) :
    Calls Try.prog 26 #[.slice a l.length cap] w (SecR w (secsL l)) := by
  by_cases h9 : l.length < 9
  · exact sections_short a cap l w h9
  · obtain ⟨g, off, rfl⟩ : ∃ g off, a = some ⟨g, off, none⟩ := by
      rcases hB.2 with h | ⟨b, off, ha, -⟩
      · subst h; simp at h9
      · exact ⟨b, off, ha⟩
    exact sections_long g off cap l w hB hc (by omega)
end Go.Proofs.Ytgbgahdeopedpaa
/- Walks of layer 24: the image that bytes are. -/
namespace Go.Proofs.Ytgbgahdeopedpaa
open Go.RowKit
set_option linter.unusedVariables false
attribute [local go_sem] ext_mk size_mk toList_mk get_mk take_drop_len take_tail_len ByteArray.mk_append_mk List.append_toArray

theorem decode_any (a : Option Addr) (l : List UInt8) (cap : Nat) (w : World) (hB : BysAt w a l) (hc : l.length ≤ cap) :
    Calls Try.prog 27 #[.slice a l.length cap] w fun x w' => ∃ fa fc sa sc ra rc, x = .returned (.tuple #[.agg #[.slice fa (decodeL l).1.fs.length fc, .slice sa (decodeL l).1.ss.length sc, .slice ra (decodeL l).1.us.length rc, .int .i64 (decodeL l).1.en], .int .i64 (decodeL l).2]) ∧ PgK (KUp w.heap.size) w' fa sa ra (decodeL l).1 ∧ Below w.heap.size w w' := by
  by_cases hl : 16777216 < l.length
  · have hD : decodeL l = (pg0, 2) := if_pos hl
    rw [hD]
    refine (decode_long a l cap w hB hl).mono ?_
    rintro e w' ⟨rfl, hb⟩
    exact ⟨none, 0, none, 0, none, 0, rfl, pg0_at _ _, hb⟩
  · exact decode_fit a l cap w hB hc (by omega)

/-- the image that bytes are: title, types, program, error -/
noncomputable def unpackL (l : List UInt8) : List UInt8 × List UInt8 × Pg × Int :=
  if (secsL l).1 ≠ 0 then ([], [], pg0, (secsL l).1)
  else if (decodeL (secsL l).2.2.2).2 ≠ 0 then ([], [], pg0, (decodeL (secsL l).2.2.2).2)
  else ((secsL l).2.1, (secsL l).2.2.1, (decodeL (secsL l).2.2.2).1, 0)

/-- what Unpack answers -/
def UnR (w : World) (t : List UInt8 × List UInt8 × Pg × Int) (x : Ending) (w' : World) : Prop :=
  ∃ fa fc sa sc ra rc, x = .returned (.tuple #[.agg #[.string ⟨t.1.toArray⟩, .string ⟨t.2.1.toArray⟩, .slice fa t.2.2.1.fs.length fc, .slice sa t.2.2.1.ss.length sc, .slice ra t.2.2.1.us.length rc, .int .i64 t.2.2.1.en], .int .i64 t.2.2.2]) ∧ PgK (KUp w.heap.size) w' fa sa ra t.2.2.1 ∧ Below w.heap.size w w'

theorem UnR.err {w w' : World} {er : Int} {t : List UInt8 × List UInt8 × Pg × Int} (ht : t = ([], [], pg0, er)) (hb : Below w.heap.size w w') : UnR w t (.returned (.tuple #[.agg #[.string ⟨#[]⟩, .string ⟨#[]⟩, .slice none 0 0, .slice none 0 0, .slice none 0 0, .int .i64 0], .int .i64 er])) w' := by
  subst ht
  exact ⟨none, 0, none, 0, none, 0, rfl, pg0_at _ _, hb⟩

theorem conv_any {W : World} {a : Option Addr} {l : List UInt8} (h : BysAt W a l) (cap : Nat) : Sem.run Try.prog (convert 22 9 (.slice a l.length cap)) W = .ok (.string ⟨l.toArray⟩) W := by
  rcases h.2 with q | ⟨b, o, rfl, q2, q3⟩
  · subst q
    cases a with
    | none =>
      refine (run_convert_bytes_string W 22 9 5 none 0 cap Try.underlying22 Try.underlying5 Try.underlying9).trans ?_
      rfl
    | some ad => exact run_convert_bytes_back W 22 9 5 ad cap [] Try.underlying22 Try.underlying5 Try.underlying9 (fun j hj => absurd hj (Nat.not_lt_zero j))
  · exact conv_bys cap (BysAt.news q3)

set_option maxHeartbeats 4000000 in
set_option maxRecDepth 8000 in
theorem unpack_any (a : Option Addr) (cap : Nat) (l : List UInt8) (w : World) (hB : BysAt w a l) (hc : l.length ≤ cap) :
    Calls Try.prog 15 #[.slice a l.length cap] w (UnR w (unpackL l)) := by
  have CS := Lib.hid (fun W h => sections_any a cap l W h hc)
  have CD := Lib.hid (fun a l cap W h hc => decode_any a l cap W h hc)
  have hA : Below w.heap.size w (w.alloc izBlk) := (Below.refl _ _).alloc (Nat.le_refl _) _
  have K := Lib.hid (KAt.new w izBlk)
  have HA := Lib.hid hA
  have HB := Lib.hid (hB.below hA)
  have hi' : (Try.prog.info? 33).map (·.size) = some 6 := by kernel_rfl
  obtain ⟨n, hnn⟩ : ∃ n, l.length = n := ⟨_, rfl⟩
  rw [hnn] at CS ⊢
  obtain ⟨⟨er, S0, S1, S2⟩, hs⟩ : ∃ s, secsL l = s := ⟨_, rfl⟩
  rw [hs] at CS
  clear hA hB hc hnn
  by_cases her : er = 0
  rotate_left
  · have HU := Lib.hid (show unpackL l = ([], [], pg0, er) by unfold unpackL; rw [hs]; exact if_pos her)
    have hk : (er == 0) = false := by simpa using her
    clear hs her
    go_enter Try.func15, Try.ntmps15
    go_wp2_with (first
      | (go_at_call 26; refine (CS.out _ HB.out).mono ?_; rintro e w1 ⟨a0, c0, a1, c1, a2, c2, rfl, h0, h1, h2, l0, l1, l2, hb⟩; have K1 := Lib.hid (K.out.below hb); have HB1 := Lib.hid (HA.out.trans (hb.mono HA.out.size)); have K2 := Lib.hid (K1.out.alloc (oBlk (.slice a0 S0.length c0) (.slice a1 S1.length c1) (.slice a2 S2.length c2))); have hz := K2.out.izcells; obtain ⟨e0, e1, e2, e3, e4, e5⟩ := hz; obtain ⟨f0, f1, f2, f3, f4, f5⟩ := K2.out.izfrozen; unfold oBlk at e0 e1 e2 e3 e4 e5 f0 f1 f2 f3 f4 f5; clear hb h0 h1 h2 l0 l1 l2))
    (try simp only [Exit.inBlock, Exit.then]); refine bodyPost_ret (results_cell2 rfl _ _ w.heap.size 33 _ (0, 0) _ rfl (i_set K2.out _ _ _ _ _ _) Try.underlying33 rfl hi') rfl ?_
    have hl := HB1.out.alloc HB1.out.size (oBlk (.slice a0 S0.length c0) (.slice a1 S1.length c1) (.slice a2 S2.length c2))
    exact UnR.err HU.out
      ((((((hl.setCell (p := ⟨w.heap.size, 0, none⟩) (Nat.le_refl _) _).setCell (p := ⟨w.heap.size, 1, none⟩) (Nat.le_refl _) _).setCell (p := ⟨w.heap.size, 2, none⟩) (Nat.le_refl _) _).setCell (p := ⟨w.heap.size, 3, none⟩) (Nat.le_refl _) _).setCell (p := ⟨w.heap.size, 4, none⟩) (Nat.le_refl _) _).setCell (p := ⟨w.heap.size, 5, none⟩) (Nat.le_refl _) _)
  · subst her
    obtain ⟨⟨P, de⟩, hd⟩ : ∃ d, decodeL S2 = d := ⟨_, rfl⟩
    have HU := Lib.hid (show unpackL l = if de ≠ 0 then ([], [], pg0, de) else (S0, S1, P, 0) by unfold unpackL; rw [hs]; dsimp only; rw [if_neg (fun q => q rfl), hd])
    have CD2 := Lib.hid (fun a cap W h hc => CD.out a S2 cap W h hc)
    rw [hd] at CD2
    clear hs hd CD
    by_cases hde : de = 0
    rotate_left
    · have HU2 := Lib.hid (HU.out.trans (if_pos hde))
      have hk : (de == 0) = false := by simpa using hde
      clear hde
      go_enter Try.func15, Try.ntmps15
      go_wp2_with (first
        | (go_at_call 26; refine (CS.out _ HB.out).mono ?_; rintro e w1 ⟨a0, c0, a1, c1, a2, c2, rfl, h0, h1, h2, l0, l1, l2, hb⟩; have hb2 : Below w1.heap.size w1 (w1.alloc (oBlk (.slice a0 S0.length c0) (.slice a1 S1.length c1) (.slice a2 S2.length c2))) := (Below.refl _ _).alloc (Nat.le_refl _) _; have H0 := Lib.hid (h0.below hb2); have H1 := Lib.hid (h1.below hb2); have H2 := Lib.hid (h2.below hb2); have L2 := Lib.hid l2; have K1 := Lib.hid ((K.out.below hb).below hb2); have HB1 := Lib.hid (HA.out.trans ((hb.trans (hb2.mono hb.size)).mono HA.out.size)); have O1 := Lib.hid (KAt.new w1 (oBlk (.slice a0 S0.length c0) (.slice a1 S1.length c1) (.slice a2 S2.length c2))); obtain ⟨e0, e1, e2⟩ := O1.out.ocells; unfold oBlk at e0 e1 e2; clear h0 h1 h2 l0 l1 l2 hb hb2)
        | (go_at_call 27; refine (CD2.out a2 c2 _ H2.out L2.out).mono ?_; rintro e w2 ⟨fa, fc, sa, sc, ra, rc, rfl, hP, hb⟩; have HP := Lib.hid hP; have K2 := Lib.hid (K1.out.below hb); have G0 := Lib.hid (H0.out.below hb); have G1 := Lib.hid (H1.out.below hb); have O2 := Lib.hid (O1.out.below hb); have HB2 := Lib.hid (HB1.out.trans (hb.mono HB1.out.size)); have HZ2 := Lib.hid hb.size; clear hP hb e0 e1 e2; obtain ⟨e0, e1, e2, e3, e4, e5⟩ := (K2.out.alloc (pgBlk (.slice fa P.fs.length fc) (.slice sa P.ss.length sc) (.slice ra P.us.length rc) P.en)).izcells; obtain ⟨f0, f1, f2, f3, f4, f5⟩ := (K2.out.alloc (pgBlk (.slice fa P.fs.length fc) (.slice sa P.ss.length sc) (.slice ra P.us.length rc) P.en)).izfrozen; obtain ⟨o0, o1, o2⟩ := (O2.out.alloc (pgBlk (.slice fa P.fs.length fc) (.slice sa P.ss.length sc) (.slice ra P.us.length rc) P.en)).ocells; have cv0 := conv_any (G0.out.below ((Below.refl _ _).alloc (Nat.le_refl _) (pgBlk (.slice fa P.fs.length fc) (.slice sa P.ss.length sc) (.slice ra P.us.length rc) P.en))) c0; have cv1 := conv_any (G1.out.below ((Below.refl _ _).alloc (Nat.le_refl _) (pgBlk (.slice fa P.fs.length fc) (.slice sa P.ss.length sc) (.slice ra P.us.length rc) P.en))) c1; unfold pgBlk at e0 e1 e2 e3 e4 e5 f0 f1 f2 f3 f4 f5 o0 o1 o2 cv0 cv1))
      (try simp only [Exit.inBlock, Exit.then]); refine bodyPost_ret (results_cell2 rfl _ _ w.heap.size 33 _ (0, 0) _ rfl (i_set (K2.out.alloc _) _ _ _ _ _ _) Try.underlying33 rfl hi') rfl ?_
      have hl := HB2.out.alloc HB2.out.size (pgBlk (.slice fa P.fs.length fc) (.slice sa P.ss.length sc) (.slice ra P.us.length rc) P.en)
      exact UnR.err HU2.out
        ((((((hl.setCell (p := ⟨w.heap.size, 0, none⟩) (Nat.le_refl _) _).setCell (p := ⟨w.heap.size, 1, none⟩) (Nat.le_refl _) _).setCell (p := ⟨w.heap.size, 2, none⟩) (Nat.le_refl _) _).setCell (p := ⟨w.heap.size, 3, none⟩) (Nat.le_refl _) _).setCell (p := ⟨w.heap.size, 4, none⟩) (Nat.le_refl _) _).setCell (p := ⟨w.heap.size, 5, none⟩) (Nat.le_refl _) _)
    · subst hde
      have HU2 := Lib.hid (HU.out.trans (if_neg (fun q => q rfl)))
      go_enter Try.func15, Try.ntmps15
      go_wp2_with (first
        | (go_at_call 26; refine (CS.out _ HB.out).mono ?_; rintro e w1 ⟨a0, c0, a1, c1, a2, c2, rfl, h0, h1, h2, l0, l1, l2, hb⟩; have hb2 : Below w1.heap.size w1 (w1.alloc (oBlk (.slice a0 S0.length c0) (.slice a1 S1.length c1) (.slice a2 S2.length c2))) := (Below.refl _ _).alloc (Nat.le_refl _) _; have H0 := Lib.hid (h0.below hb2); have H1 := Lib.hid (h1.below hb2); have H2 := Lib.hid (h2.below hb2); have L2 := Lib.hid l2; have K1 := Lib.hid ((K.out.below hb).below hb2); have HB1 := Lib.hid (HA.out.trans ((hb.trans (hb2.mono hb.size)).mono HA.out.size)); have O1 := Lib.hid (KAt.new w1 (oBlk (.slice a0 S0.length c0) (.slice a1 S1.length c1) (.slice a2 S2.length c2))); obtain ⟨e0, e1, e2⟩ := O1.out.ocells; unfold oBlk at e0 e1 e2; clear h0 h1 h2 l0 l1 l2 hb hb2)
        | (go_at_call 27; refine (CD2.out a2 c2 _ H2.out L2.out).mono ?_; rintro e w2 ⟨fa, fc, sa, sc, ra, rc, rfl, hP, hb⟩; have HP := Lib.hid hP; have K2 := Lib.hid (K1.out.below hb); have G0 := Lib.hid (H0.out.below hb); have G1 := Lib.hid (H1.out.below hb); have O2 := Lib.hid (O1.out.below hb); have HB2 := Lib.hid (HB1.out.trans (hb.mono HB1.out.size)); have HZ2 := Lib.hid hb.size; clear hP hb e0 e1 e2; obtain ⟨e0, e1, e2, e3, e4, e5⟩ := (K2.out.alloc (pgBlk (.slice fa P.fs.length fc) (.slice sa P.ss.length sc) (.slice ra P.us.length rc) P.en)).izcells; obtain ⟨f0, f1, f2, f3, f4, f5⟩ := (K2.out.alloc (pgBlk (.slice fa P.fs.length fc) (.slice sa P.ss.length sc) (.slice ra P.us.length rc) P.en)).izfrozen; obtain ⟨o0, o1, o2⟩ := (O2.out.alloc (pgBlk (.slice fa P.fs.length fc) (.slice sa P.ss.length sc) (.slice ra P.us.length rc) P.en)).ocells; have cv0 := conv_any (G0.out.below ((Below.refl _ _).alloc (Nat.le_refl _) (pgBlk (.slice fa P.fs.length fc) (.slice sa P.ss.length sc) (.slice ra P.us.length rc) P.en))) c0; have cv1 := conv_any (G1.out.below ((Below.refl _ _).alloc (Nat.le_refl _) (pgBlk (.slice fa P.fs.length fc) (.slice sa P.ss.length sc) (.slice ra P.us.length rc) P.en))) c1; unfold pgBlk at e0 e1 e2 e3 e4 e5 f0 f1 f2 f3 f4 f5 o0 o1 o2 cv0 cv1))
      (try simp only [Exit.inBlock, Exit.then]); refine bodyPost_ret (results_cell2 rfl _ _ w.heap.size 33 _ (0, 0) _ rfl (i_set (K2.out.alloc _) _ _ _ _ _ _) Try.underlying33 rfl hi') rfl ?_
      have hl := HB2.out.alloc HB2.out.size (pgBlk (.slice fa P.fs.length fc) (.slice sa P.ss.length sc) (.slice ra P.us.length rc) P.en)
      have hlo := heap_lt K1.out.x
      have q : ∀ (W : World) i v, Kp (KUp (w1.alloc (oBlk (.slice a0 S0.length c0) (.slice a1 S1.length c1) (.slice a2 S2.length c2))).heap.size) W (W.setCell ⟨w.heap.size, i, none⟩ v) := fun W i v => Kp.set ⟨w.heap.size, i, none⟩ v (fun _ _ _ h => Nat.lt_asymm hlo h)
      have hp := HP.out.kp (Kp.below ((Below.refl _ _).alloc (Nat.le_refl _) (pgBlk (.slice fa P.fs.length fc) (.slice sa P.ss.length sc) (.slice ra P.us.length rc) P.en)))
      have hp6 := (((((hp.kp (q _ 0 (.string ⟨S0.toArray⟩))).kp (q _ 1 (.string ⟨S1.toArray⟩))).kp (q _ 2 (.slice fa P.fs.length fc))).kp (q _ 3 (.slice sa P.ss.length sc))).kp (q _ 4 (.slice ra P.us.length rc))).kp (q _ 5 (.int .i64 P.en))
      rw [HU2.out]
      exact ⟨fa, fc, sa, sc, ra, rc, rfl, hp6.wk (fun b T _ h => Nat.lt_trans hlo h),
        ((((((hl.setCell (p := ⟨w.heap.size, 0, none⟩) (Nat.le_refl _) _).setCell (p := ⟨w.heap.size, 1, none⟩) (Nat.le_refl _) _).setCell (p := ⟨w.heap.size, 2, none⟩) (Nat.le_refl _) _).setCell (p := ⟨w.heap.size, 3, none⟩) (Nat.le_refl _) _).setCell (p := ⟨w.heap.size, 4, none⟩) (Nat.le_refl _) _).setCell (p := ⟨w.heap.size, 5, none⟩) (Nat.le_refl _) _)
        ⟩
end Go.Proofs.Ytgbgahdeopedpaa
