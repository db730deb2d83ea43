/- Walks of layer 24: a section, read by the reference. -/
import Derived.Test.YtgbgahdeopedpaaJg
import Derived.Deep.CutRange
import Derived.Deep.CutBlock
import Derived.Test.YtgbgahdeopedpaaGm
namespace Go.Proofs.Ytgbgahdeopedpaa
open Go.RowKit
set_option linter.unusedVariables false
attribute [local go_sem] ext_mk size_mk toList_mk get_mk take_drop_len take_tail_len ByteArray.mk_append_mk List.append_toArray

/-- what section answers -/
def SeR (w : World) (g off : Nat) (l : List UInt8) (t : Option (List UInt8 × List UInt8)) (x : Ending) (w' : World) : Prop :=
  (t = none → x = .returned (.tuple #[.slice none 0 0, .int .i64 (-1)])) ∧
  (∀ s r, t = some (s, r) → ∃ j c t, t = j + s.length ∧ t + r.length = l.length ∧ s = (l.drop j).take s.length ∧ r = l.drop t ∧ s.length ≤ c ∧ x = .returned (.tuple #[.slice (some ⟨g, off + j, none⟩) s.length c, .int .i64 (t : Int)])) ∧ Below w.heap.size w w'

theorem SeR.no {w w' : World} {g off : Nat} {l : List UInt8} {t : Option (List UInt8 × List UInt8)} (h : t = none) (hb : Below w.heap.size w w') : SeR w g off l t (.returned (.tuple #[.slice none 0 0, .int .i64 (-1)])) w' :=
  ⟨fun _ => rfl, fun s r e => absurd (h.symm.trans e) (by simp), hb⟩

set_option maxHeartbeats 4000000 in
set_option maxRecDepth 8000 in
theorem rsec_any (g off cap : Nat) (l : List UInt8) (i0 k0 : Nat) (w : World) (hk : k0 < 256) (hi : i0 ≤ l.length) (hB : BysAt w (some ⟨g, off, none⟩) l) (hc : l.length < cap) :
    Calls Try.prog 44 #[.slice (some ⟨g, off, none⟩) l.length cap, .int .i64 (i0 : Int), .int .u8 (k0 : Int)] w (SeR w g off l (secL k0 (l.drop i0))) := by
  have HB := Lib.hid hB
  have HC := Lib.hid hc
  have hm : (l.length : Int) ≤ 9223372036854775807 := by have := hB.1; unfold maxLen at this; omega
  by_cases hle : l.length ≤ i0
  · have k1 : decide ((l.length : Int) ≤ (i0 : Int)) = true := decide_eq_true (by omega)
    have HE := Lib.hid (show secL k0 (l.drop i0) = none by rw [List.drop_eq_nil_of_le hle]; rfl)
    clear hB hc
    go_enter Try.func44, Try.ntmps44
    go_wp2_with fail
    go_ret2
    exact SeR.no HE.out (Below.refl _ _)
  · have k1 : decide ((l.length : Int) ≤ (i0 : Int)) = false := decide_eq_false (by omega)
    have k1b : decide ((i0 : Int) < (l.length : Int)) = true := decide_eq_true (by omega)
    obtain ⟨b, o, hbo, hcell⟩ := bys_get hB (show i0 < l.length by omega)
    cases hbo
    obtain ⟨c, hcc⟩ : ∃ c, (l.getD i0 0).toNat = c := ⟨_, rfl⟩
    rw [hcc] at hcell
    have hd := drop_getD (show i0 < l.length by omega)
    have k2 : IntKind.i64.wrap ((i0 : Int) + 1) = (i0 : Int) + 1 := IntWalk.i64_in _ (by omega)
    by_cases hx : c = k0
    rotate_left
    · have HE := Lib.hid (show secL k0 (l.drop i0) = none by rw [hd]; exact if_pos (.inr (by rw [hcc]; exact hx)))
      have k3 : ((c : Int) == (k0 : Int)) = false := by simp; omega
      clear hB hc hd hcc
      go_enter Try.func44, Try.ntmps44
      go_wp2_with fail
      go_ret2
      exact SeR.no HE.out (Below.refl _ _)
    · subst hx
      have HE := Lib.hid (show secL c (l.drop i0) = secT (lenF 5 0 (l.drop (i0 + 1))) by
        rw [hd]
        show (if l.drop (i0 + 1) = [] ∨ (l.getD i0 0).toNat ≠ c then none else secT (lenF 5 0 (l.drop (i0 + 1)))) = _
        by_cases hn : l.drop (i0 + 1) = []
        · rw [if_pos (.inl hn), hn, lenF_nil]; rfl
        · rw [if_neg (by rintro (q | q); exact hn q; exact q hcc)])
      clear hB hc hd hcc
      go_enter Try.func44, Try.ntmps44
      go_wp2_with fail
      go_loopw [1, 8, 9] (fun v1 v8 v9 wr => ∃ f n i k : Nat, f ≤ 5 ∧ k = 5 - f ∧ v1 = .int .i64 (i : Int) ∧ v8 = .int .i64 (n : Int) ∧ v9 = .int .i64 (k : Int) ∧ n < 2 ^ (7 * k) ∧ i ≤ l.length ∧ secL c (l.drop i0) = secT (lenF f n (l.drop i)) ∧ Below w.heap.size w wr) (fun _ _ v9 _ => 9 - (intOf v9).toNat)
      case atStart => exact ⟨5, 0, i0 + 1, 0, Nat.le_refl _, rfl, rfl, rfl, rfl, by decide, by omega, HE.out, Below.refl _ _⟩
      case round =>
        obtain ⟨f, n, i, k, hf, hk5, rfl, rfl, rfl, hn, hi, he, hb⟩ := hrel
        have HE1 := Lib.hid he
        have HBw := Lib.hid hb
        clear he hb
        by_cases hle : l.length ≤ i
        · have k1 : decide ((l.length : Int) ≤ (i : Int)) = true := decide_eq_true (by omega)
          have HU := Lib.hid (show secL c (l.drop i0) = none by rw [HE1.out, List.drop_eq_nil_of_le hle, lenF_nil]; rfl)
          go_wp2_with fail
          go_ret2
          exact SeR.no HU.out HBw.out
        · have k1 : decide ((l.length : Int) ≤ (i : Int)) = false := decide_eq_false (by omega)
          have k1b : decide ((i : Int) < (l.length : Int)) = true := decide_eq_true (by omega)
          cases f with
          | zero =>
            have k4 : decide ((4 : Int) < (k : Int)) = true := decide_eq_true (by omega)
            have HU := Lib.hid (show secL c (l.drop i0) = none by rw [HE1.out]; rfl)
            go_wp2_with fail
            go_ret2
            exact SeR.no HU.out HBw.out
          | succ f =>
            have k4 : decide ((4 : Int) < (k : Int)) = false := decide_eq_false (by omega)
            obtain ⟨b, o, hbo, hcell2⟩ := bys_get (HB.out.below HBw.out) (show i < l.length by omega)
            cases hbo
            obtain ⟨d, hdd⟩ : ∃ d, (l.getD i 0).toNat = d := ⟨_, rfl⟩
            have hd256 : d < 256 := by rw [← hdd]; exact (l.getD i 0).toNat_lt
            rw [hdd] at hcell2
            have hdr := drop_getD (show i < l.length by omega)
            have k2 : IntKind.i64.wrap ((i : Int) + 1) = (i : Int) + 1 := IntWalk.i64_in _ (by omega)
            have hk4 : k = 4 - f := by omega
            have hs28 : 7 * k ≤ 28 := by omega
            obtain ⟨t, N, kt, kor, hN, hNlt, hN35⟩ := or_step n (d % 128) (7 * k) hn (by omega) hs28
            have HM := Lib.hid (show secL c (l.drop i0) = secT (if d < 128 then (if d = 0 ∧ f < 4 then none else some (N, l.drop (i + 1))) else lenF f N (l.drop (i + 1))) by
              rw [HE1.out, hdr, lenF_cons, hdd, ← hk4, hN])
            have k2b : 0 ≤ (i : Int) + 1 := by omega
            have k11 : IntKind.i64.wrap ((k : Int) + 1) = (k : Int) + 1 := IntWalk.i64_in _ (by omega)
            have hk8 : 7 * (k : Int) ≤ 28 := by omega
            have hk9 : 0 ≤ 7 * (k : Int) := by omega
            have HK4 := Lib.hid hk4
            have HF := Lib.hid hf
            have KT := Lib.hid kt
            have KO := Lib.hid kor
            have HN := Lib.hid hN
            have HNL := Lib.hid hNlt
            clear hk4 hk5 hf hs28 kt kor hN hNlt hdd hdr
            go_upto_region 11 with (fail)
            go_cut [8] from 42 to 49 (fun v8 wx => v8 = .int .i64 (N : Int) ∧ wx = wr)
            case first =>
              go_wp2_with fail
              go_meet
              exact ⟨by rw [show wrap64 ((d : Int) % 128 * 2 ^ (7 * k)) = (t : Int) from KT.out, KO.out], rfl⟩
            case rest =>
              obtain ⟨rfl, rfl⟩ := hcut
              by_cases hlt : d < 128
              · have k5 : decide ((d : Int) < 128) = true := decide_eq_true (by omega)
                by_cases hz : d = 0 ∧ f < 4
                · have HU := Lib.hid (show secL c (l.drop i0) = none by rw [HM.out, if_pos hlt, if_pos hz]; rfl)
                  have k6 : ((d : Int) == 0) = true := by simp [hz.1]
                  have k7 : decide (0 < k) = true := decide_eq_true (by have := HK4.out; omega)
                  clear hz hlt
                  go_wp2_with fail
                  all_goals
                    go_ret2
                    exact SeR.no HU.out HBw.out
                · have HU := Lib.hid (show secL c (l.drop i0) = secT (some (N, l.drop (i + 1))) by rw [HM.out, if_pos hlt, if_neg hz])
                  have hq : (((d : Int) == 0) = false) ∨ (((d : Int) == 0) = true ∧ decide (0 < k) = false) := by
                    have h1 := HF.out
                    have h2 := HK4.out
                    by_cases h : d = 0
                    · right; exact ⟨by simp [h], decide_eq_false (by omega)⟩
                    · left; simpa using h
                  have HL0 := Lib.hid (show (l.drop (i + 1)).length = l.length - (i + 1) from List.length_drop)
                  by_cases hfit : (l.drop (i + 1)).length < N
                  · have HV := Lib.hid (show secL c (l.drop i0) = none by rw [HU.out]; exact if_pos hfit)
                    have k9 : decide ((l.length : Int) - ((i : Int) + 1) < (N : Int)) = true := decide_eq_true (by rw [HL0.out] at hfit; omega)
                    clear hfit hz hlt
                    rcases hq with kz | ⟨kz, kf⟩
                    · go_wp2_with fail
                      go_ret2
                      exact SeR.no HV.out HBw.out
                    · go_wp2_with fail
                      go_ret2
                      exact SeR.no HV.out HBw.out
                  · have HV := Lib.hid (show secL c (l.drop i0) = some ((l.drop (i + 1)).take N, (l.drop (i + 1)).drop N) by rw [HU.out]; exact if_neg hfit)
                    have g1 : i + 1 + N ≤ l.length := by rw [HL0.out] at hfit; omega
                    have HL := Lib.hid g1
                    have k9 : decide ((l.length : Int) - ((i : Int) + 1) < (N : Int)) = false := decide_eq_false (by omega)
                    have k10 : IntKind.i64.wrap ((i : Int) + 1 + (N : Int)) = (i : Int) + 1 + (N : Int) := IntWalk.i64_in _ (by omega)
                    have g2 : i + 1 + N < cap := by have := HC.out; omega
                    clear hfit hz hlt
                    have HR : Hid (∀ c2, N ≤ c2 → SeR w g off l (secL c (l.drop i0)) (.returned (.tuple #[.slice (some ⟨g, off + (i + 1), none⟩) N c2, .int .i64 ((i : Int) + 1 + (N : Int))])) wc) := Lib.hid (fun c2 hc2 => by
                      rw [HV.out]
                      have hln : ((l.drop (i + 1)).take N).length = N := by simp; omega
                      refine ⟨(fun q => by cases q), fun s r e => ?_, HBw.out⟩
                      cases e
                      refine ⟨i + 1, c2, i + 1 + N, by rw [hln], ?_, by rw [hln], by rw [List.drop_drop], by rw [hln]; exact hc2, by rw [hln]; simp⟩
                      simp; omega)
                    rcases hq with kz | ⟨kz, kf⟩
                    · go_wp2_with fail
                      go_ret2
                      rw [show i + 1 + N - (i + 1) = N by omega]
                      exact HR.out _ (by omega)
                    · go_wp2_with fail
                      go_ret2
                      rw [show i + 1 + N - (i + 1) = N by omega]
                      exact HR.out _ (by omega)
              · have k5 : decide ((d : Int) < 128) = false := decide_eq_false (by omega)
                have HU := Lib.hid (show secL c (l.drop i0) = secT (lenF f N (l.drop (i + 1))) by rw [HM.out, if_neg hlt])
                clear hlt
                go_wp2_with fail
                go_roundw
                case rel => exact ⟨f, N, i + 1, k + 1, by have := HF.out; omega, by have := HF.out; have := HK4.out; omega, rfl, rfl, rfl, by rw [Nat.mul_succ]; exact HNL.out, by omega, HU.out, HBw.out⟩
                case measure => have := HK4.out; have := HF.out; simp only [intOf]; omega
end Go.Proofs.Ytgbgahdeopedpaa
/- Walks of layer 24: the three sections of any bytes, read by the reference. -/
namespace Go.Proofs.Ytgbgahdeopedpaa
open Go.RowKit
set_option linter.unusedVariables false
attribute [local go_sem] ext_mk size_mk toList_mk get_mk take_drop_len take_tail_len ByteArray.mk_append_mk List.append_toArray

/-- an append of one element to a row of the call's own, however long -/
theorem wp_oneG {W : World} {B n size bytes : Nat} {T t : TypeId} {v z : Value} {xs news : List Value} {T2 : TypeId} {ops : Array Oper} {rest : List Oper} {o : Oper} {a : Act} {Q : Exit → Act → World → Prop}
    (hi : (Try.prog.info? T).map (fun i => (i.zero, i.size, i.bytes)) = some (some z, size, bytes)) (ht : Try.prog.underlying t = some (.slice T)) (hzs : z.cells.size = size) (hsz : 0 < size)
    (ho : W.ownsRow B T size v n xs) (hB : B ≤ W.heap.size) (hgd : o.guard = none) (s x : Operand) (hop : o.op = .call { callee := .builtin .append, args := #[s, x], argTypes := #[t, t] })
    (hs : a.eval s = v) (H : Nat) (hH : W.heap.size = H) (hx : a.eval x = .slice (some ⟨H, 0, none⟩) 1 1) (hl : news.length = size) (h1 : ∀ u ∈ news, u.oneCell' = true) (hn : n + 1 ≤ maxLen) (hby : (n + 1) * bytes ≤ 140737488355328)
    (h : ∀ g cap V, V.ownsRow B T size (.slice (some ⟨g, 0, none⟩) (n + 1) cap) (n + 1) (xs ++ news) → Below B W V → (∀ K', (∀ b, B ≤ b → ¬ K' b T) → Kp K' W V) → wpList Try.prog ops Q rest (a.put o.dst (.slice (some ⟨g, 0, none⟩) (n + 1) cap)) V) :
    wpList Try.prog ops Q (o :: rest) a (W.alloc (.cells news.toArray T2)) := by
  obtain ⟨i0, hi, hz0, hz1, hz2⟩ := info_parts hi
  subst hH
  have hb0 : Below W.heap.size W (W.alloc (.cells news.toArray T2)) := (Below.refl _ _).alloc (Nat.le_refl _) _
  have hown1 := row_below ho hb0
  refine wpList_append_lies _ hgd s x t hop B T i0 z size bytes ht hi hz0 hz1 hz2 hzs hsz v n xs hs hown1 ⟨W.heap.size, 0, none⟩ 1 1 news hx (by omega) (World.news_of_block (heap_alloc_new _ _)) h1 (by decide) hn hby (Nat.le_trans hB hb0.size) _ rfl ?_
  intro g cap V k1 k2 _ _
  have hbe : Below B W V := (hb0.mono hB).trans ((Below.refl B _).grown k2 (Nat.le_trans hB hb0.size) (fun j hj => (hown1.lt j hj).1))
  exact h _ _ V k1 hbe (fun K' hK => (Kp.below hb0).trans (Kp.grown hown1 k2 hK))

theorem infoBys : (Try.prog.info? 22).map (fun i => (i.zero, i.size, i.bytes)) = some (some (.slice none 0 0), 1, 24) := by kernel_rfl

/-- the sections that are left -/
def secN : Nat → List (List UInt8) → List UInt8 → Int × List (List UInt8)
  | 0, ss, r => if r ≠ [] ∨ 255 < (ss.getD 0 []).length ∨ 1048576 < (ss.getD 1 []).length then (243, []) else (0, ss)
  | d + 1, ss, r => match secL (3 - d) r with
    | none => (243, [])
    | some (s, r') => secN d (ss ++ [s]) r'

theorem secN_none {d : Nat} {ss : List (List UInt8)} {r : List UInt8} (h : secL (3 - d) r = none) : secN (d + 1) ss r = (243, []) := by
  unfold secN; rw [h]

theorem secN_some {d : Nat} {ss : List (List UInt8)} {r s r' : List UInt8} (h : secL (3 - d) r = some (s, r')) : secN (d + 1) ss r = secN d (ss ++ [s]) r' := by
  conv => lhs; unfold secN
  rw [h]

theorem secN_sec (r : List UInt8) : sec3L r = ((secN 3 [] r).1, (secN 3 [] r).2.getD 0 [], (secN 3 [] r).2.getD 1 [], (secN 3 [] r).2.getD 2 []) := by
  unfold sec3L secN
  cases secL 1 r with
  | none => rfl
  | some x =>
    obtain ⟨s0, r0⟩ := x
    dsimp only
    unfold secN
    show _ = ((match secL 2 r0 with | none => _ | some (s, r') => _ : Int × List (List UInt8)).1, _)
    cases secL 2 r0 with
    | none => rfl
    | some x =>
      obtain ⟨s1, r1⟩ := x
      dsimp only
      unfold secN
      show _ = ((match secL 3 r1 with | none => _ | some (s, r') => _ : Int × List (List UInt8)).1, _)
      cases secL 3 r1 with
      | none => rfl
      | some x =>
        obtain ⟨s2, r2⟩ := x
        dsimp only
        unfold secN
        by_cases h : r2 ≠ [] ∨ 255 < s0.length ∨ 1048576 < s1.length
        · rw [if_pos h, if_pos (by simpa using h)]; rfl
        · rw [if_neg h, if_neg (by simpa using h)]; rfl

/-- slices that have been read -/
def SlR (w : World) (xs : List Value) (ss : List (List UInt8)) : Prop := xs.length = ss.length ∧ ∀ (i : Nat) (s : List UInt8), ss[i]? = some s → ∃ (a : Option Addr) (c : Nat), xs[i]? = some (Value.slice a s.length c) ∧ BysAt w a s ∧ s.length ≤ c

theorem SlR.snoc {w : World} {xs : List Value} {ss : List (List UInt8)} (h : SlR w xs ss) {a : Option Addr} {s : List UInt8} {n c : Nat} (hn : n = s.length) (hb : BysAt w a s) (hc : s.length ≤ c) : SlR w (xs ++ [Value.slice a n c]) (ss ++ [s]) := by
  subst hn
  refine ⟨by simp [h.1], fun i t ht => ?_⟩
  rcases Nat.lt_trichotomy i ss.length with q | q | q
  · rw [List.getElem?_append_left q] at ht
    rw [List.getElem?_append_left (by rw [h.1]; exact q)]
    exact h.2 i t ht
  · subst q
    rw [List.getElem?_append_right (Nat.le_refl _), Nat.sub_self] at ht
    rw [List.getElem?_append_right (by rw [h.1]; exact Nat.le_refl _), h.1, Nat.sub_self]
    cases ht
    exact ⟨a, c, rfl, hb, hc⟩
  · rw [List.getElem?_eq_none (by simp; omega)] at ht; cases ht

/-- what Open answers -/
def OpR (w : World) (t : Int × List UInt8 × List UInt8 × List UInt8) (x : Ending) (w' : World) : Prop :=
  (t.1 ≠ 0 ∧ x = .returned (.tuple #[.slice none 0 0, .int .i64 t.1]) ∧ Below w.heap.size w w') ∨
  (t.1 = 0 ∧ ∃ g c a0 c0 a1 c1 a2 c2, x = .returned (.tuple #[.slice (some ⟨g, 0, none⟩) 3 c, .int .i64 0]) ∧ w'.cell? ⟨g, 0, none⟩ = some (.slice a0 t.2.1.length c0) ∧ w'.cell? ⟨g, 1, none⟩ = some (.slice a1 t.2.2.1.length c1) ∧ w'.cell? ⟨g, 2, none⟩ = some (.slice a2 t.2.2.2.length c2) ∧ BysAt w' a0 t.2.1 ∧ BysAt w' a1 t.2.2.1 ∧ BysAt w' a2 t.2.2.2 ∧ t.2.1.length ≤ c0 ∧ t.2.2.1.length ≤ c1 ∧ t.2.2.2.length ≤ c2 ∧ 3 ≤ c ∧ Below w.heap.size w w')

theorem OpR.err {w w' : World} {er : Int} {t : Int × List UInt8 × List UInt8 × List UInt8} (ht : t = (er, [], [], [])) (he : er ≠ 0) (hb : Below w.heap.size w w') : OpR w t (.returned (.tuple #[.slice none 0 0, .int .i64 er])) w' := by
  subst ht
  exact .inl ⟨he, rfl, hb⟩

set_option maxHeartbeats 4000000 in
set_option maxRecDepth 8000 in
theorem ropen_short (a : Option Addr) (cap : Nat) (l : List UInt8) (w : World) (h9 : l.length < 9) :
    Calls Try.prog 29 #[.slice a l.length cap] w (OpR w (secsL l)) := by
  have HS := Lib.hid (show secsL l = (240, [], [], []) from if_pos h9)
  obtain ⟨n, hn⟩ : ∃ n, l.length = n := ⟨_, rfl⟩
  rw [hn] at h9 ⊢
  have k0 : decide ((n : Int) < 9) = true := decide_eq_true (by omega)
  clear hn h9
  go_enter Try.func29, Try.ntmps29
  go_wp2_with fail
  go_ret2
  exact OpR.err HS.out (by decide) (Below.refl _ _)
end Go.Proofs.Ytgbgahdeopedpaa
/- Walks of layer 24's reference: the sections of nine bytes or more. -/
namespace Go.Proofs.Ytgbgahdeopedpaa
open Go.RowKit
set_option linter.unusedVariables false
attribute [local go_sem] ext_mk size_mk toList_mk get_mk take_drop_len take_tail_len ByteArray.mk_append_mk List.append_toArray

theorem le4_eq (t0 t1 t2 t3 : UInt8) (S : Nat) (hS : S < 4294967296) : Im.leN [t0, t1, t2, t3] = S ↔ (t0.toNat = S % 256 ∧ t1.toNat = S / 256 % 256 ∧ t2.toNat = S / 65536 % 256 ∧ t3.toNat = S / 16777216 % 256) := by
  have l0 := t0.toNat_lt
  have l1 := t1.toNat_lt
  have l2 := t2.toNat_lt
  have l3 := t3.toNat_lt
  simp only [Im.leN]
  omega

/-- the loop's state -/
def OpG (w W : World) (g off cap m : Nat) (mid : List UInt8) (j d : Nat) (v6 : Value) (at' : Nat) (bs : List UInt8) : Prop :=
  ∃ xs ss, W.ownsRow w.heap.size 22 1 v6 j xs ∧ ss.length = j ∧ SlR w xs ss ∧ secN 3 [] mid = secN d ss (bs.drop at') ∧ at' ≤ m ∧ Below w.heap.size w W

set_option maxHeartbeats 4000000 in
set_option maxRecDepth 8000 in
theorem ropen_long (g off cap : Nat) (l : List UInt8) (w : World) (hB : BysAt w (some ⟨g, off, none⟩) l) (hc : l.length ≤ cap) (h9 : 9 ≤ l.length) :
    Calls Try.prog 29 #[.slice (some ⟨g, off, none⟩) l.length cap] w (OpR w (secsL l)) := by
  obtain ⟨a0, a1, a2, a3, a4, mid, t0, t1, t2, t3, he⟩ := parts9 h9
  obtain ⟨m, hm⟩ : ∃ m, mid.length + 5 = m := ⟨_, rfl⟩
  have hn : l.length = m + 4 := by rw [he, ← hm]; simp
  have hb : ∀ i, i < l.length → w.cell? ⟨g, off + i, none⟩ = some (.int .u8 ((l.getD i 0).toNat : Int)) := fun i hi => bys_at1 hB hi
  have b0 := hb 0 (by omega)
  have b1 := hb 1 (by omega)
  have b2 := hb 2 (by omega)
  have b3 := hb 3 (by omega)
  have b4 := hb 4 (by omega)
  have c0 := hb m (by omega)
  have c1 : w.cell? ⟨g, off + (m + 1), none⟩ = some (.int .u8 ((l.getD (m + 1) 0).toNat : Int)) := hb (m + 1) (by omega)
  have c2 := hb (m + 2) (by omega)
  have c3 := hb (m + 3) (by omega)
  have hd : ∀ i v, i < 4 → [t0, t1, t2, t3].getD i 0 = v → l.getD (m + i) 0 = v := by
    intro i v hi hv
    rw [he, ← hv]
    simp only [List.getD_eq_getElem?_getD]
    rw [List.getElem?_append_right (by simp; omega)]
    simp [← hm]
  rw [show m = m + 0 from rfl, hd 0 t0 (by decide) rfl] at c0
  rw [hd 1 t1 (by decide) rfl] at c1
  rw [hd 2 t2 (by decide) rfl] at c2
  rw [hd 3 t3 (by decide) rfl] at c3
  rw [show l.getD 0 0 = a0 by rw [he]; rfl] at b0
  rw [show l.getD 1 0 = a1 by rw [he]; rfl] at b1
  rw [show l.getD 2 0 = a2 by rw [he]; rfl] at b2
  rw [show l.getD 3 0 = a3 by rw [he]; rfl] at b3
  rw [show l.getD 4 0 = a4 by rw [he]; rfl] at b4
  have ht4 : l.take 4 = [a0, a1, a2, a3] := by rw [he]; rfl
  have h44 : l.getD 4 0 = a4 := by rw [he]; rfl
  obtain ⟨bs, hbs⟩ : ∃ bs, [a0, a1, a2, a3, a4] ++ mid = bs := ⟨_, rfl⟩
  have hbl : bs.length = m := by rw [← hbs, ← hm]; simp
  have htk : l.take (l.length - 4) = bs := by rw [hn, Nat.add_sub_cancel, he, ← hbs]; exact List.take_left' (by rw [← hm]; simp)
  have hdr : l.drop (l.length - 4) = [t0, t1, t2, t3] := by rw [hn, Nat.add_sub_cancel, he]; exact List.drop_left' (by rw [← hm]; simp)
  have hmid : bs.drop 5 = mid := by rw [← hbs]; rfl
  have hbody : BysAt w (some ⟨g, off, none⟩) bs := by rw [← htk]; exact hB.take2 _
  have HD1 := Lib.hid (fun (h : [a0, a1, a2, a3] ≠ [107, 105, 108, 110]) => (show secsL l = (240, [], [], []) by unfold secsL; rw [if_neg (by omega), if_pos (by rw [ht4]; exact h)]))
  have HD2 := Lib.hid (fun (h : [a0, a1, a2, a3] = [107, 105, 108, 110]) (h4 : a4 ≠ 1) => (show secsL l = (241, [], [], []) by unfold secsL; rw [if_neg (by omega), if_neg (by rw [ht4]; exact fun q => q h), if_pos (by rw [h44]; exact h4)]))
  have HD3 := Lib.hid (fun (h : [a0, a1, a2, a3] = [107, 105, 108, 110]) (h4 : a4 = 1) (hs : Im.leN [t0, t1, t2, t3] ≠ Im.sumL bs) => (show secsL l = (242, [], [], []) by unfold secsL; rw [if_neg (by omega), if_neg (by rw [ht4]; exact fun q => q h), if_neg (by rw [h44]; exact fun q => q h4), if_pos (by rw [hdr, htk]; exact hs)]))
  have HD4 := Lib.hid (fun (h : [a0, a1, a2, a3] = [107, 105, 108, 110]) (h4 : a4 = 1) (hs : Im.leN [t0, t1, t2, t3] = Im.sumL bs) => (show secsL l = sec3L mid by unfold secsL; rw [if_neg (by omega), if_neg (by rw [ht4]; exact fun q => q h), if_neg (by rw [h44]; exact fun q => q h4), if_neg (by rw [hdr, htk]; exact fun q => q hs), htk, hmid]))
  have hgl : g < w.heap.size := World.block_lt_of_cell? w _ b0
  have hcv : Sem.run Try.prog (convert 22 9 (.slice (some ⟨g, off, none⟩) 4 cap)) w = .ok (.string ⟨#[a0, a1, a2, a3]⟩) w := by
    refine conv_bys (l := [a0, a1, a2, a3]) cap (BysAt.news (l := [a0, a1, a2, a3]) (off := off) fun i hi => ?_)
    match i, hi with
    | 0, _ => exact b0
    | 1, _ => exact b1
    | 2, _ => exact b2
    | 3, _ => exact b3
  obtain ⟨n, hnn⟩ : ∃ n, l.length = n := ⟨_, rfl⟩
  have hm4 : (n : Int) ≤ 9223372036854775807 := by have := hB.1; unfold maxLen at this; omega
  have g1 : decide ((n : Int) < 9) = false := decide_eq_false (by omega)
  have g2 : IntKind.i64.wrap ((n : Int) - 4) = (m : Int) := by rw [IntWalk.i64_in _ (by omega)]; omega
  have g3 : (n : Int) - 4 = (m : Int) := by omega
  have g4 : 4 ≤ cap := by omega
  have g5 : n ≤ cap := by omega
  have g6 : m ≤ n := by omega
  have g7 : m ≤ cap := by omega
  have gx : (4 : Int) < (n : Int) := by omega
  have gy : decide ((4 : Int) < (n : Int)) = true := decide_eq_true gx
  have gz : m < cap := by omega
  rw [hnn] at hc ⊢
  rw [Nat.add_zero] at c0
  have HBO := Lib.hid hbody
  have HBW := Lib.hid hbody
  have HBL := Lib.hid hbl
  have HMI := Lib.hid hmid
  have HMM := Lib.hid hm
  have HNN := Lib.hid hnn
  have HCAP := Lib.hid gz
  have HHN := Lib.hid (show n = m + 4 by omega)
  clear hmid ht4 h44 htk hdr hb hd hB he hn h9 hm hbody hbl hnn hc hbs gz
  have hBl : (⟨#[a0, a1, a2, a3]⟩ : ByteArray).toList = [a0, a1, a2, a3] := toList_mk [a0, a1, a2, a3]
  obtain ⟨B, hBB⟩ : ∃ B, (⟨#[a0, a1, a2, a3]⟩ : ByteArray) = B := ⟨_, rfl⟩
  rw [hBB] at hcv hBl
  clear hBB b0 b1 b2 b3
  by_cases hM : [a0, a1, a2, a3] = [107, 105, 108, 110]
  rotate_left
  · have hs : (B.toList == [107, 105, 108, 110]) = false := by rw [hBl]; simpa using hM
    have HDZ := Lib.hid (HD1.out hM)
    clear hM hBl c0 c1 c2 c3
    go_enter Try.func29, Try.ntmps29
    go_wp2_with fail
    go_ret2
    exact OpR.err HDZ.out (by decide) (Below.refl _ _)
  have hs : (B.toList == [107, 105, 108, 110]) = true := by rw [hBl]; simpa using hM
  have HM := Lib.hid hM
  clear hM hBl
  by_cases h4 : a4 = 1
  rotate_left
  · have hv : ((a4.toNat : Int) == 1) = false := by
      rw [beq_eq_false_iff_ne]
      intro q
      exact h4 (UInt8.toNat_inj.1 (by have : a4.toNat = 1 := by omega
                                      rw [this]; rfl))
    have HDZ := Lib.hid (HD2.out HM.out h4)
    clear h4 c0 c1 c2 c3
    go_enter Try.func29, Try.ntmps29
    go_wp2_with fail
    go_ret2
    exact OpR.err HDZ.out (by decide) (Below.refl _ _)
  subst h4
  replace b4 : w.cell? ⟨g, off + 4, none⟩ = some (.int .u8 1) := b4
  obtain ⟨S1, hS1⟩ : ∃ S, Im.sumL bs = S := ⟨_, rfl⟩
  have hSl : S1 < 4294967296 := by rw [← hS1]; exact sum_lt _
  have HQ4 := Lib.hid (le4_eq t0 t1 t2 t3 S1 hSl)
  have HD5 := Lib.hid (HD3.out HM.out rfl)
  have HD6 := Lib.hid (HD4.out HM.out rfl)
  rw [hS1] at HD5 HD6
  have CT : Hid (Calls Try.prog 11 #[.slice (some ⟨g, off, none⟩) m cap] w fun x w' => x = .returned (.int .u32 (S1 : Int)) ∧ Below w.heap.size w w') := Lib.hid (by
    have := rsum_any (some ⟨g, off, none⟩) bs cap w HBO.out
    rw [HBL.out, hS1] at this
    exact this)
  obtain ⟨u0, hu0⟩ : ∃ u : Nat, t0.toNat = u := ⟨_, rfl⟩
  obtain ⟨u1, hu1⟩ : ∃ u : Nat, t1.toNat = u := ⟨_, rfl⟩
  obtain ⟨u2, hu2⟩ : ∃ u : Nat, t2.toNat = u := ⟨_, rfl⟩
  obtain ⟨u3, hu3⟩ : ∃ u : Nat, t3.toNat = u := ⟨_, rfl⟩
  rw [hu0] at c0 HQ4
  rw [hu1] at c1 HQ4
  rw [hu2] at c2 HQ4
  rw [hu3] at c3 HQ4
  have hcb : ∀ W, Below w.heap.size w W → W.cell? ⟨g, off + m, none⟩ = some (.int .u8 (u0 : Int)) ∧ W.cell? ⟨g, off + (m + 1), none⟩ = some (.int .u8 (u1 : Int)) ∧ W.cell? ⟨g, off + (m + 2), none⟩ = some (.int .u8 (u2 : Int)) ∧ W.cell? ⟨g, off + (m + 3), none⟩ = some (.int .u8 (u3 : Int)) := fun W h => ⟨(h.cell (p := ⟨g, off + m, none⟩) hgl).trans c0, (h.cell (p := ⟨g, off + (m + 1), none⟩) hgl).trans c1, (h.cell (p := ⟨g, off + (m + 2), none⟩) hgl).trans c2, (h.cell (p := ⟨g, off + (m + 3), none⟩) hgl).trans c3⟩
  have HCB := Lib.hid hcb
  clear hS1 hu0 hu1 hu2 hu3 c0 c1 c2 c3 hgl hcb
  have r0 : 0 ≤ (u0 : Int) := by omega
  have a1 : IntKind.i64.wrap ((m : Int) + 1) = (m : Int) + 1 := IntWalk.i64_in _ (by have := HHN.out; omega)
  have a2 : IntKind.i64.wrap ((m : Int) + 2) = (m : Int) + 2 := IntWalk.i64_in _ (by have := HHN.out; omega)
  have a3 : IntKind.i64.wrap ((m : Int) + 3) = (m : Int) + 3 := IntWalk.i64_in _ (by have := HHN.out; omega)
  by_cases q0 : u0 = S1 % 256
  rotate_left
  · have f0 : ¬ ((u0 : Int) = (S1 : Int) % 256) := by omega
    have HDZ := Lib.hid (HD5.out (fun q => q0 (HQ4.out.1 q).1))
    clear q0
    go_enter Try.func29, Try.ntmps29
    go_wp2_with (go_at_call 11; refine (CT.out).mono ?_; rintro e w1 ⟨rfl, hb⟩; obtain ⟨y0, y1, y2, y3⟩ := HCB.out _ hb; have HB1 := Lib.hid hb; clear hb)
    go_ret2
    exact OpR.err HDZ.out (by decide) HB1.out
  have f0 : (u0 : Int) = (S1 : Int) % 256 := by omega
  by_cases q1 : u1 = S1 / 256 % 256
  rotate_left
  · have f1 : ¬ ((u1 : Int) = (S1 : Int) / 256 % 256) := by omega
    have HDZ := Lib.hid (HD5.out (fun q => q1 (HQ4.out.1 q).2.1))
    clear q1 q0
    go_enter Try.func29, Try.ntmps29
    go_wp2_with (go_at_call 11; refine (CT.out).mono ?_; rintro e w1 ⟨rfl, hb⟩; obtain ⟨y0, y1, y2, y3⟩ := HCB.out _ hb; have HB1 := Lib.hid hb; clear hb)
    go_ret2
    exact OpR.err HDZ.out (by decide) HB1.out
  have f1 : (u1 : Int) = (S1 : Int) / 256 % 256 := by omega
  by_cases q2 : u2 = S1 / 65536 % 256
  rotate_left
  · have f2 : ¬ ((u2 : Int) = (S1 : Int) / 65536 % 256) := by omega
    have HDZ := Lib.hid (HD5.out (fun q => q2 (HQ4.out.1 q).2.2.1))
    clear q2 q1 q0
    go_enter Try.func29, Try.ntmps29
    go_wp2_with (go_at_call 11; refine (CT.out).mono ?_; rintro e w1 ⟨rfl, hb⟩; obtain ⟨y0, y1, y2, y3⟩ := HCB.out _ hb; have HB1 := Lib.hid hb; clear hb)
    go_ret2
    exact OpR.err HDZ.out (by decide) HB1.out
  have f2 : (u2 : Int) = (S1 : Int) / 65536 % 256 := by omega
  by_cases q3 : u3 = S1 / 16777216 % 256
  rotate_left
  · have f3 : ¬ ((u3 : Int) = (S1 : Int) / 16777216) := by omega
    have HDZ := Lib.hid (HD5.out (fun q => q3 (HQ4.out.1 q).2.2.2))
    clear q3 q2 q1 q0
    go_enter Try.func29, Try.ntmps29
    go_wp2_with (go_at_call 11; refine (CT.out).mono ?_; rintro e w1 ⟨rfl, hb⟩; obtain ⟨y0, y1, y2, y3⟩ := HCB.out _ hb; have HB1 := Lib.hid hb; clear hb)
    go_ret2
    exact OpR.err HDZ.out (by decide) HB1.out
  have f3 : (u3 : Int) = (S1 : Int) / 16777216 := by omega
  have HDZ := Lib.hid (HD6.out (HQ4.out.2 ⟨q0, q1, q2, q3⟩))
  have CS := Lib.hid (fun (at' k : Nat) (W : World) (hk : k < 256) (ha : at' ≤ m) (h : BysAt W (some ⟨g, off, none⟩) bs) => (show Calls Try.prog 44 #[.slice (some ⟨g, off, none⟩) m cap, .int .i64 (at' : Int), .int .u8 (k : Int)] W (SeR W g off bs (secL k (bs.drop at'))) by
    have := rsec_any g off cap bs at' k W hk (by rw [HBL.out]; exact ha) h (by rw [HBL.out]; exact HCAP.out)
    rw [HBL.out] at this; exact this))
  clear q3 q2 q1 q0
  go_enter Try.func29, Try.ntmps29
  go_wp2_with (go_at_call 11; refine (CT.out).mono ?_; rintro e w1 ⟨rfl, hb⟩; obtain ⟨y0, y1, y2, y3⟩ := HCB.out _ hb; have HB1 := Lib.hid hb; clear hb)
  have G0 := Lib.hid (show OpG w w1 g off cap m mid 0 3 (.slice none 0 0) 5 bs from ⟨[], [], World.ownsRow_nil _ _ _ _, rfl, ⟨rfl, fun i s h => by simp at h⟩, by rw [HMI.out], by have := HMM.out; omega, HB1.out⟩)
  go_loopw [6, 7, 8] (fun v6 v7 v8 wr => ∃ (j : Nat) (kk : Int) (d at' : Nat), ((j = 0 ∧ kk = 1 ∧ d = 3) ∨ (j = 1 ∧ kk = 2 ∧ d = 2) ∨ (j = 2 ∧ kk = 3 ∧ d = 1) ∨ (j = 3 ∧ kk = 4 ∧ d = 0)) ∧ v8 = .int .i64 kk ∧ v7 = .int .i64 (at' : Int) ∧ OpG w wr g off cap m mid j d v6 at' bs) (fun _ _ v8 _ => 9 - (intOf v8).toNat)
  case atStart => exact ⟨0, 1, 3, 5, by decide, rfl, rfl, G0.out⟩
  case round =>
    clear G0 y0 y1 y2 y3 f0 f1 f2 f3
    obtain ⟨j, kk, d, at', hj, rfl, rfl, h0⟩ := hrel
    rcases hj with ⟨rfl, rfl, rfl⟩ | ⟨rfl, rfl, rfl⟩ | ⟨rfl, rfl, rfl⟩ | ⟨rfl, rfl, rfl⟩
    ·
      cases hs1 : secL 1 (bs.drop at') with
      | none =>
        have CN : Hid (∀ W, at' ≤ m → BysAt W (some ⟨g, off, none⟩) bs → Calls Try.prog 44 #[.slice (some ⟨g, off, none⟩) m cap, .int .i64 (at' : Int), .int .u8 1] W (SeR W g off bs (secL 1 (bs.drop at')))) := Lib.hid (fun W h1 h2 => CS.out at' 1 W (by decide) h1 h2)
        obtain ⟨xs, ss, o1, o2, o3, o4, o5, o6⟩ := h0
        have HE1 := Lib.hid (HDZ.out.trans ((secN_sec mid).trans (by rw [o4.trans (secN_none (d := 2) hs1)]; rfl)) : secsL l = (243, [], [], []))
        have HO6 := Lib.hid o6
        have HO5 := Lib.hid o5
        have HS1 := Lib.hid hs1
        clear o1 o2 o3 o4 o5 o6 hs1
        go_wp2_with (go_at_call 44; (with_reducible refine (CN.out _ HO5.out (HBO.out.below HO6.out)).mono ?_); rintro e w1 ⟨q1, -, q3⟩; have q4 := q1 HS1.out; subst q4; have HQ := Lib.hid (HO6.out.trans (q3.mono HO6.out.size)); clear q1 q3)
        go_ret2
        exact OpR.err HE1.out (by decide) HQ.out
      | some D =>
        obtain ⟨s, r⟩ := D
        have CN : Hid (∀ W, at' ≤ m → BysAt W (some ⟨g, off, none⟩) bs → Calls Try.prog 44 #[.slice (some ⟨g, off, none⟩) m cap, .int .i64 (at' : Int), .int .u8 1] W (SeR W g off bs (secL 1 (bs.drop at')))) := Lib.hid (fun W h1 h2 => CS.out at' 1 W (by decide) h1 h2)
        obtain ⟨xs, ss, o1, o2, o3, o4, o5, o6⟩ := h0
        have O1 := Lib.hid o1
        have O2 := Lib.hid o2
        have O3 := Lib.hid o3
        have HE4 := Lib.hid (o4.trans (secN_some (d := 2) hs1))
        have HO6 := Lib.hid o6
        have HO5 := Lib.hid o5
        have HS1 := Lib.hid hs1
        clear o1 o2 o3 o4 o5 o6 hs1
        go_wp2_with (first
          | (go_at_call 44; (with_reducible refine (CN.out _ HO5.out (HBO.out.below HO6.out)).mono ?_); rintro e w1 ⟨-, q2, q3⟩; obtain ⟨jj, cc, tt, y0, y1, y2, y3, y4, y5⟩ := q2 s r HS1.out; subst y5; have HQ := Lib.hid (HO6.out.trans (q3.mono HO6.out.size)); have OQ := Lib.hid (row_below O1.out q3); have HY0 := Lib.hid y0; have HY1 := Lib.hid y1; have HY2 := Lib.hid y2; have HY3 := Lib.hid y3; have HY4 := Lib.hid y4; clear q2 q3 y0 y1 y2 y3 y4)
          | (at_builtin; (refine wp_oneG (W := w1) (news := [.slice (some ⟨g, off + jj, none⟩) s.length cc]) infoBys Try.underlying63 rfl (by decide) OQ.out HQ.out.size rfl _ _ rfl rfl _ rfl rfl rfl (by intro u hu; simp at hu; subst hu; rfl) (by unfold maxLen; omega) (by omega) ?_); (intro g7 c7 V o7 hb7 kp7; have O7 := Lib.hid o7; have B7 := Lib.hid (HQ.out.trans hb7); clear o7 hb7 kp7)))
        go_roundw
        case rel => exact ⟨1, 2, 2, tt, by decide, rfl, rfl, xs ++ [_], ss ++ [s], O7.out, by rw [List.length_append, O2.out]; rfl, O3.out.snoc rfl (by rw [HY2.out]; exact (HBW.out.drop (by have := HY0.out; have := HY1.out; have := HBL.out; omega)).take2 _) HY4.out, by rw [HE4.out, HY3.out], by have := HY1.out; have := HBL.out; omega, B7.out⟩
        case measure => simp [intOf]
    ·
      cases hs1 : secL 2 (bs.drop at') with
      | none =>
        have CN : Hid (∀ W, at' ≤ m → BysAt W (some ⟨g, off, none⟩) bs → Calls Try.prog 44 #[.slice (some ⟨g, off, none⟩) m cap, .int .i64 (at' : Int), .int .u8 2] W (SeR W g off bs (secL 2 (bs.drop at')))) := Lib.hid (fun W h1 h2 => CS.out at' 2 W (by decide) h1 h2)
        obtain ⟨xs, ss, o1, o2, o3, o4, o5, o6⟩ := h0
        have HE1 := Lib.hid (HDZ.out.trans ((secN_sec mid).trans (by rw [o4.trans (secN_none (d := 1) hs1)]; rfl)) : secsL l = (243, [], [], []))
        have HO6 := Lib.hid o6
        have HO5 := Lib.hid o5
        have HS1 := Lib.hid hs1
        clear o1 o2 o3 o4 o5 o6 hs1
        go_wp2_with (go_at_call 44; (with_reducible refine (CN.out _ HO5.out (HBO.out.below HO6.out)).mono ?_); rintro e w1 ⟨q1, -, q3⟩; have q4 := q1 HS1.out; subst q4; have HQ := Lib.hid (HO6.out.trans (q3.mono HO6.out.size)); clear q1 q3)
        go_ret2
        exact OpR.err HE1.out (by decide) HQ.out
      | some D =>
        obtain ⟨s, r⟩ := D
        have CN : Hid (∀ W, at' ≤ m → BysAt W (some ⟨g, off, none⟩) bs → Calls Try.prog 44 #[.slice (some ⟨g, off, none⟩) m cap, .int .i64 (at' : Int), .int .u8 2] W (SeR W g off bs (secL 2 (bs.drop at')))) := Lib.hid (fun W h1 h2 => CS.out at' 2 W (by decide) h1 h2)
        obtain ⟨xs, ss, o1, o2, o3, o4, o5, o6⟩ := h0
        have O1 := Lib.hid o1
        have O2 := Lib.hid o2
        have O3 := Lib.hid o3
        have HE4 := Lib.hid (o4.trans (secN_some (d := 1) hs1))
        have HO6 := Lib.hid o6
        have HO5 := Lib.hid o5
        have HS1 := Lib.hid hs1
        clear o1 o2 o3 o4 o5 o6 hs1
        go_wp2_with (first
          | (go_at_call 44; (with_reducible refine (CN.out _ HO5.out (HBO.out.below HO6.out)).mono ?_); rintro e w1 ⟨-, q2, q3⟩; obtain ⟨jj, cc, tt, y0, y1, y2, y3, y4, y5⟩ := q2 s r HS1.out; subst y5; have HQ := Lib.hid (HO6.out.trans (q3.mono HO6.out.size)); have OQ := Lib.hid (row_below O1.out q3); have HY0 := Lib.hid y0; have HY1 := Lib.hid y1; have HY2 := Lib.hid y2; have HY3 := Lib.hid y3; have HY4 := Lib.hid y4; clear q2 q3 y0 y1 y2 y3 y4)
          | (at_builtin; (refine wp_oneG (W := w1) (news := [.slice (some ⟨g, off + jj, none⟩) s.length cc]) infoBys Try.underlying63 rfl (by decide) OQ.out HQ.out.size rfl _ _ rfl rfl _ rfl rfl rfl (by intro u hu; simp at hu; subst hu; rfl) (by unfold maxLen; omega) (by omega) ?_); (intro g7 c7 V o7 hb7 kp7; have O7 := Lib.hid o7; have B7 := Lib.hid (HQ.out.trans hb7); clear o7 hb7 kp7)))
        go_roundw
        case rel => exact ⟨2, 3, 1, tt, by decide, rfl, rfl, xs ++ [_], ss ++ [s], O7.out, by rw [List.length_append, O2.out]; rfl, O3.out.snoc rfl (by rw [HY2.out]; exact (HBW.out.drop (by have := HY0.out; have := HY1.out; have := HBL.out; omega)).take2 _) HY4.out, by rw [HE4.out, HY3.out], by have := HY1.out; have := HBL.out; omega, B7.out⟩
        case measure => simp [intOf]
    ·
      cases hs1 : secL 3 (bs.drop at') with
      | none =>
        have CN : Hid (∀ W, at' ≤ m → BysAt W (some ⟨g, off, none⟩) bs → Calls Try.prog 44 #[.slice (some ⟨g, off, none⟩) m cap, .int .i64 (at' : Int), .int .u8 3] W (SeR W g off bs (secL 3 (bs.drop at')))) := Lib.hid (fun W h1 h2 => CS.out at' 3 W (by decide) h1 h2)
        obtain ⟨xs, ss, o1, o2, o3, o4, o5, o6⟩ := h0
        have HE1 := Lib.hid (HDZ.out.trans ((secN_sec mid).trans (by rw [o4.trans (secN_none (d := 0) hs1)]; rfl)) : secsL l = (243, [], [], []))
        have HO6 := Lib.hid o6
        have HO5 := Lib.hid o5
        have HS1 := Lib.hid hs1
        clear o1 o2 o3 o4 o5 o6 hs1
        go_wp2_with (go_at_call 44; (with_reducible refine (CN.out _ HO5.out (HBO.out.below HO6.out)).mono ?_); rintro e w1 ⟨q1, -, q3⟩; have q4 := q1 HS1.out; subst q4; have HQ := Lib.hid (HO6.out.trans (q3.mono HO6.out.size)); clear q1 q3)
        go_ret2
        exact OpR.err HE1.out (by decide) HQ.out
      | some D =>
        obtain ⟨s, r⟩ := D
        have CN : Hid (∀ W, at' ≤ m → BysAt W (some ⟨g, off, none⟩) bs → Calls Try.prog 44 #[.slice (some ⟨g, off, none⟩) m cap, .int .i64 (at' : Int), .int .u8 3] W (SeR W g off bs (secL 3 (bs.drop at')))) := Lib.hid (fun W h1 h2 => CS.out at' 3 W (by decide) h1 h2)
        obtain ⟨xs, ss, o1, o2, o3, o4, o5, o6⟩ := h0
        have O1 := Lib.hid o1
        have O2 := Lib.hid o2
        have O3 := Lib.hid o3
        have HE4 := Lib.hid (o4.trans (secN_some (d := 0) hs1))
        have HO6 := Lib.hid o6
        have HO5 := Lib.hid o5
        have HS1 := Lib.hid hs1
        clear o1 o2 o3 o4 o5 o6 hs1
        go_wp2_with (first
          | (go_at_call 44; (with_reducible refine (CN.out _ HO5.out (HBO.out.below HO6.out)).mono ?_); rintro e w1 ⟨-, q2, q3⟩; obtain ⟨jj, cc, tt, y0, y1, y2, y3, y4, y5⟩ := q2 s r HS1.out; subst y5; have HQ := Lib.hid (HO6.out.trans (q3.mono HO6.out.size)); have OQ := Lib.hid (row_below O1.out q3); have HY0 := Lib.hid y0; have HY1 := Lib.hid y1; have HY2 := Lib.hid y2; have HY3 := Lib.hid y3; have HY4 := Lib.hid y4; clear q2 q3 y0 y1 y2 y3 y4)
          | (at_builtin; (refine wp_oneG (W := w1) (news := [.slice (some ⟨g, off + jj, none⟩) s.length cc]) infoBys Try.underlying63 rfl (by decide) OQ.out HQ.out.size rfl _ _ rfl rfl _ rfl rfl rfl (by intro u hu; simp at hu; subst hu; rfl) (by unfold maxLen; omega) (by omega) ?_); (intro g7 c7 V o7 hb7 kp7; have O7 := Lib.hid o7; have B7 := Lib.hid (HQ.out.trans hb7); clear o7 hb7 kp7)))
        go_roundw
        case rel => exact ⟨3, 4, 0, tt, by decide, rfl, rfl, xs ++ [_], ss ++ [s], O7.out, by rw [List.length_append, O2.out]; rfl, O3.out.snoc rfl (by rw [HY2.out]; exact (HBW.out.drop (by have := HY0.out; have := HY1.out; have := HBL.out; omega)).take2 _) HY4.out, by rw [HE4.out, HY3.out], by have := HY1.out; have := HBL.out; omega, B7.out⟩
        case measure => simp [intOf]
    · obtain ⟨xs, ss, o1, o2, o3, o4, o5, o6⟩ := h0
      match ss, o2 with
      | [s0, s1, s2], _ =>
      obtain ⟨gg, cc, cur, rfl, p1, p2, p3, p4, p5⟩ := own_parts o1 (by decide)
      obtain ⟨a0, c0, x0, b0, l0⟩ := o3.2 0 s0 rfl
      obtain ⟨a1, c1, x1, b1, l1⟩ := o3.2 1 s1 rfl
      obtain ⟨a2, c2, x2, b2, l2⟩ := o3.2 2 s2 rfl
      have hx : ∀ i v, i < 3 → xs[i]? = some v → wr.cell? ⟨gg, i, none⟩ = some v := fun i v hi h => by rw [cell_of_row _ _ _ _ _ _ p2, p5 i (by omega), h]
      have z0 := hx 0 _ (by decide) x0
      have z1 := hx 1 _ (by decide) x1
      have z2 := hx 2 _ (by decide) x2
      have hs3 : secsL l = (if bs.drop at' ≠ [] ∨ 255 < s0.length ∨ 1048576 < s1.length then (243, [], [], []) else (0, s0, s1, s2)) := by
        by_cases q : bs.drop at' ≠ [] ∨ 255 < s0.length ∨ 1048576 < s1.length
        · rw [if_pos q, HDZ.out, secN_sec, o4, show secN 0 [s0, s1, s2] (bs.drop at') = (243, []) from if_pos q]; rfl
        · rw [if_neg q, HDZ.out, secN_sec, o4, show secN 0 [s0, s1, s2] (bs.drop at') = (0, [s0, s1, s2]) from if_neg q]; rfl
      have HO6 := Lib.hid o6
      have HBZ := Lib.hid (And.intro b0 (And.intro b1 b2))
      have HLZ := Lib.hid (And.intro l0 (And.intro l1 l2))
      have HC3 := Lib.hid p3
      have HZZ := Lib.hid (And.intro z0 (And.intro z1 z2))
      have hd : bs.drop at' = [] ↔ at' = m := by
        rw [List.drop_eq_nil_iff, HBL.out]; omega
      clear o1 o3 o4 o5 o6 p1 p2 p4 p5 x0 x1 x2 b0 b1 b2 l0 l1 l2 hx
      by_cases q0 : at' = m
      rotate_left
      · have e0 : ¬ ((at' : Int) = (m : Int)) := by omega
        have HE1 := Lib.hid (hs3.trans (if_pos (.inl (fun q => q0 (hd.1 q)))))
        clear q0 hs3 hd
        go_wp2_with fail
        go_ret2
        exact OpR.err HE1.out (by decide) HO6.out
      have e0 : (at' : Int) = (m : Int) := by omega
      obtain ⟨n0, hn0⟩ : ∃ n, s0.length = n := ⟨_, rfl⟩
      obtain ⟨n1, hn1⟩ : ∃ n, s1.length = n := ⟨_, rfl⟩
      rw [hn0] at z0 hs3
      rw [hn1] at z1 hs3
      have HN0 := Lib.hid hn0
      have HN1 := Lib.hid hn1
      by_cases q1 : 255 < n0
      · have e1 : (255 : Int) < (n0 : Int) := by omega
        have HE1 := Lib.hid (hs3.trans (if_pos (.inr (.inl q1))))
        clear q0 q1 hs3 hd hn0 hn1
        go_wp2_with fail
        go_ret2
        exact OpR.err HE1.out (by decide) HO6.out
      have e1 : (n0 : Int) ≤ 255 := by omega
      by_cases q2 : 1048576 < n1
      · have e2 : decide ((1048576 : Int) < (n1 : Int)) = true := decide_eq_true (by omega)
        have HE1 := Lib.hid (hs3.trans (if_pos (.inr (.inr q2))))
        clear q0 q1 q2 hs3 hd hn0 hn1
        go_wp2_with fail
        go_ret2
        exact OpR.err HE1.out (by decide) HO6.out
      have e2 : decide ((1048576 : Int) < (n1 : Int)) = false := decide_eq_false (by omega)
      have HE1 := Lib.hid (hs3.trans (if_neg (fun q => by rcases q with q | q | q; exact q (hd.2 q0); exact q1 q; exact q2 q)))
      clear q0 q1 q2 hs3 hd hn0 hn1
      go_wp2_with fail
      go_ret2
      rw [HE1.out]
      exact .inr ⟨rfl, gg, cc, a0, c0, a1, c1, a2, c2, rfl, HZZ.out.1, HZZ.out.2.1, HZZ.out.2.2, HBZ.out.1.below HO6.out, HBZ.out.2.1.below HO6.out, HBZ.out.2.2.below HO6.out, HLZ.out.1, HLZ.out.2.1, HLZ.out.2.2, HC3.out, HO6.out⟩

theorem ropen_any (a : Option Addr) (cap : Nat) (l : List UInt8) (w : World) (hB : BysAt w a l) (hc : l.length ≤ cap) :
    Calls Try.prog 29 #[.slice a l.length cap] w (OpR w (secsL l)) := by
  by_cases h9 : l.length < 9
  · exact ropen_short a cap l w h9
  · rcases hB.2 with q | ⟨b, o, q1, q2, q3⟩
    · subst q; exact absurd (show ([] : List UInt8).length < 9 by decide) h9
    · subst q1; exact ropen_long b o cap l w hB hc (by omega)
end Go.Proofs.Ytgbgahdeopedpaa
