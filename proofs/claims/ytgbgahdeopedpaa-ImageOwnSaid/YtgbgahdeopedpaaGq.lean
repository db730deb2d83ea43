/- Layer 24's laws, walked: no beginning of an image's bytes is one, nor are they with bytes behind them. -/
import Derived.Test.YtgbgahdeopedpaaAw
import Derived.Test.YtgbgahdeopedpaaOy
import Derived.Laws.AppendOwnNone
namespace Go.Proofs.Ytgbgahdeopedpaa
open Go.RowKit
set_option linter.unusedVariables false
attribute [local go_sem] ext_mk size_mk toList_mk get_mk take_drop_len take_tail_len ByteArray.mk_append_mk List.append_toArray

theorem app_none {w : World} {ops : Array Oper} {rest : List Oper} {o : Oper} {a : Act} {Q : Exit → Act → World → Prop} (hgd : o.guard = none) (sl x : Operand)
    (ho : o.op = .call { callee := .builtin .append, args := #[sl, x], argTypes := #[22, 22] })
    (base : Nat) (v : Value) (l : List UInt8) (hs : a.eval sl = v) (hown : OwnB w base v l) (hx : a.eval x = .slice none 0 0)
    (h : wpList Try.prog ops Q rest (a.put o.dst v) w) : wpList Try.prog ops Q (o :: rest) a w := by
  obtain ⟨i0, hi, hz0, hz1, hz2⟩ := info_parts infoU8
  exact wpList_append_own_none hgd sl x 22 ho base 5 i0 1 Try.underlying22 hi v l.length (Lib.byteCells l) hs hown hx h

theorem BysAt.newA {W : World} {ad : Addr} {l : List UInt8} (h : BysAt W (some ad) l) : ∀ j u, (Lib.byteCells l)[j]? = some u → W.cell? (ad.add j) = some u := by
  rcases h.2 with q | ⟨b, o, q1, q2, q3⟩
  · subst q; intro j u hu; simp [Lib.byteCells] at hu
  · cases q1
    exact BysAt.news q3

theorem app_nilcells (W : World) (g : Nat) : ∀ j u, (Lib.byteCells [])[j]? = some u → W.cell? ((⟨g, 0, none⟩ : Addr).add j) = some u := by
  intro j u hu
  simp [Lib.byteCells] at hu

set_option maxHeartbeats 4000000 in
set_option maxRecDepth 8000 in
theorem imageCuts_any (T Y : List UInt8) (fa sa ra : Option Addr) (fc sc rc : Nat) (P : Pg) (at' : Int) (ma : Option Addr) (M : List UInt8) (mc : Nat) (w : World) (hT : T.length ≤ maxLen) (hY : Y.length ≤ maxLen) (hP : PgAt w fa sa ra P) (hM : BysAt w ma M) (hmc : M.length ≤ mc) (hmn : ma = none → mc = 0) (hml : M.length ≤ 100000000) :
    Calls Try.prog 7 #[.agg #[.string ⟨T.toArray⟩, .string ⟨Y.toArray⟩, .slice fa P.fs.length fc, .slice sa P.ss.length sc, .slice ra P.us.length rc, .int .i64 P.en], .int .i64 at', .slice ma M.length mc] w fun e w' => e = .returned (.bool true) ∧ Below w.heap.size w w' := by
  have S := Lib.hid hP
  have CP := Lib.hid (fun W h => pack_any T Y fa sa ra fc sc rc P W hT hY h)
  have CA := Lib.hid (fun W => awake_24 W)
  have CU := Lib.hid (fun a cap l W h1 h2 => unpack_any a cap l W h1 h2)
  have hA : Below w.heap.size w (w.alloc (.cells #[.string ⟨T.toArray⟩, .string ⟨Y.toArray⟩, .slice fa P.fs.length fc, .slice sa P.ss.length sc, .slice ra P.us.length rc, .int .i64 P.en] 33)) := (Below.refl _ _).alloc (Nat.le_refl _) _
  have HA := Lib.hid hA
  have X0 := Lib.hid (KAt.new w (.cells #[.string ⟨T.toArray⟩, .string ⟨Y.toArray⟩, .slice fa P.fs.length fc, .slice sa P.ss.length sc, .slice ra P.us.length rc, .int .i64 P.en] 33 (0, 0)))
  have HM := Lib.hid hM
  have KC := Lib.hid (fun (h : (packR T Y P).2 = 0) k hk => unpack_cut (T := T) (Y := Y) (P := P) h (k := k) hk)
  have KM := Lib.hid (fun (h : (packR T Y P).2 = 0) more hm => unpack_more (T := T) (Y := Y) (P := P) (more := more) h hm)
  have KU := Lib.hid (fun (h : (packR T Y P).2 = 0) => unpack_img h hP.z)
  have KL := Lib.hid (fun (h : (packR T Y P).2 = 0) => (okSum_img h).2)
  obtain ⟨⟨B, er⟩, hR⟩ : ∃ t, packR T Y P = t := ⟨_, rfl⟩
  rw [hR] at CP KC KM KU KL
  dsimp only at CP KC KM KU KL
  clear hA hP hT hY hR hM
  by_cases her : er = 0
  rotate_left
  · have hk : (er == 0) = false := by simpa using her
    have hk2 : (er != 0) = true := by simpa using her
    clear KC KM KU KL her
    go_enter Try.func7, Try.ntmps7
    go_wp2_with (first
      | (go_at_call 13; refine (CP.out _ (S.out.below HA.out)).mono ?_; rintro e w1 ⟨v, rfl, hB, hb1⟩; have HB1 := Lib.hid (HA.out.trans (hb1.mono HA.out.size)); obtain ⟨a1, c1, rfl⟩ := hB.form; clear hB hb1)
      | (go_at_call 12; refine (CA.out _).mono ?_; rintro e w3 ⟨rfl, hb3⟩; have HB1 := Lib.hid (HB1.out.trans (hb3.mono HB1.out.size)); clear hb3))
    go_ret
    exact ⟨rfl, HB1.out⟩
  · subst her
    have hKL := KL.out rfl
    obtain ⟨n, hn⟩ : ∃ n, B.length = n := ⟨_, rfl⟩
    rw [hn] at hKL
    obtain ⟨k, hk⟩ : ∃ k : Nat, (IntKind.u64.wrap at') % (n : Int) = (k : Int) := by
      have h0 : 0 ≤ (IntKind.u64.wrap at') % (n : Int) := Int.emod_nonneg _ (by omega)
      exact ⟨((IntKind.u64.wrap at') % (n : Int)).toNat, (Int.toNat_of_nonneg h0).symm⟩
    have hkn : k < n := by have := Int.emod_lt_of_pos (IntKind.u64.wrap at') (b := (n : Int)) (by omega); omega
    have H1 := Lib.hid (KC.out rfl k (by omega))
    have hw : IntKind.u64.wrap (n : Int) = (n : Int) := IntWalk.u64_in _ (by omega)
    have hn0 : ((n : Int) == 0) = false := by rw [beq_eq_false_iff_ne]; omega
    have HN := Lib.hid hn
    have HKN := Lib.hid hkn
    have hkn2 : (k : Int) < (n : Int) := by omega
    obtain ⟨u0, hu0⟩ : ∃ u, IntKind.u64.wrap at' = u := ⟨_, rfl⟩
    rw [hu0] at hk
    have hU0 : 0 ≤ u0 := by rw [← hu0, IntKind.wrap_u64]; omega
    have HBB := Lib.hid (show 0 < B.length by omega)
    have HKL := Lib.hid (show (B.take k).length = k by rw [List.length_take]; omega)
    have kt : ((k : Int)).toNat = k := Int.toNat_natCast k
    obtain ⟨⟨T1, Y1, P1, e1⟩, hu1⟩ : ∃ t, unpackL (B.take k) = t := ⟨_, rfl⟩
    rw [hu1] at H1
    have he1 : (e1 == 0) = false := by simpa using H1.out
    have he1' : (e1 != 0) = true := by simpa using H1.out
    have CU1 := Lib.hid (fun a cap W h1 h2 => CU.out a cap (B.take k) W h1 h2)
    rw [hu1, HKL.out] at CU1
    have hML : (B ++ M).length = n + M.length := by rw [List.length_append, hn]
    obtain ⟨⟨T2, Y2, P2, e2⟩, hu2⟩ : ∃ t, unpackL (B ++ M) = t := ⟨_, rfl⟩
    have CU2 := Lib.hid (fun a cap W h1 h2 => CU.out a cap (B ++ M) W h1 h2)
    rw [hu2, hML] at CU2
    have he2 : ∃ bb : Bool, (e2 == 0) = bb ∧ ((M.length : Int) == 0) = bb := by
      by_cases hm0 : M = []
      · have h2 := KU.out rfl
        rw [hm0, List.append_nil, h2] at hu2
        refine ⟨true, ?_, by rw [hm0]; rfl⟩
        cases hu2
        rfl
      · have h2 := KM.out rfl M hm0
        rw [hu2] at h2
        exact ⟨false, by simpa using h2, by rw [beq_eq_false_iff_ne]; have := List.length_pos_iff.2 hm0; omega⟩
    obtain ⟨bb, hb1, hb2⟩ := he2
    have HBE := Lib.hid (And.intro hb1 hb2)
    obtain ⟨mm, hmm⟩ : ∃ m, M.length = m := ⟨_, rfl⟩
    rw [hmm] at hb2 hmc hml hML CU2 ⊢
    have HMM := Lib.hid hmm
    have HML := Lib.hid hML
    have HKC := Lib.hid (fun c (h : n ≤ c) => (show k ≤ c by omega))
    clear hn KC KL KM KU hu1 hu2 hmm hML hkn H1 HBE
    cases ma with
    | none =>
      obtain rfl : mc = 0 := hmn rfl
      obtain rfl : mm = 0 := by omega
      have hM0 : M = [] := List.length_eq_zero_iff.1 HMM.out
      have HM0 := Lib.hid hM0
      rw [Nat.add_zero] at CU2 HML
      obtain rfl : bb = true := by rw [← hb2]; rfl
      clear hM0 hmn
      go_enter Try.func7, Try.ntmps7
      go_wp2_with (first
        | (go_at_call 13; refine (CP.out _ (S.out.below HA.out)).mono ?_; rintro e w1 ⟨v, rfl, hB, hb1⟩; have HB1 := Lib.hid (HA.out.trans (hb1.mono HA.out.size)); have OB := Lib.hid hB; obtain ⟨g, c1, rfl⟩ := hB.some HBB.out; have hcp : n ≤ c1 := (by have := ownB_cap hB; rw [HN.out] at this; exact this); clear hB hb1; rw [HN.out])
        | (go_at_call 12; refine (CA.out _).mono ?_; rintro e w3 ⟨rfl, hb3⟩; have HB2 := Lib.hid (HB1.out.trans (hb3.mono HB1.out.size)); have OB := Lib.hid (OB.out.keep hb3); clear hb3)
        | (go_at_call 15; (with_reducible refine (CU1.out (some ⟨g, 0, none⟩) c1 _ (OB.out.bys.take2 k) ?_).mono ?_); (exact HKC.out c1 hcp); rintro e w4 ⟨xa, xb, xc, xd, xe, xf, rfl, hpk, hb4⟩; have HB3 := Lib.hid (HB2.out.trans (hb4.mono HB2.out.size)); have OB4 := Lib.hid (OB.out.keep hb4); have hA4 : ∀ o1 o2, Below w4.heap.size w4 ((w4.alloc o1).alloc o2) := (fun o1 o2 => ((Below.refl _ _).alloc (Nat.le_refl _) _).alloc (by simp) _); have HA4 := Lib.hid hA4; have HEM := Lib.hid (fun W => app_nilcells W (w4.heap.size + 1)); clear hpk hb4 hA4)
        | (at_builtin; (refine app_full rfl _ _ rfl [] B (w4.heap.size + 1) rfl (HEM.out _) c1 ⟨g, 0, none⟩ (by rw [HN.out]; rfl) (OB4.out.bys.below (HA4.out _ _)).new HBB.out (by have := HN.out; simp; omega) ?_); (intro v5 w5 h1 h2; have O5 := Lib.hid (show OwnB w5 _ v5 B from h1); have HB5 := Lib.hid (((HA4.out _ _).trans (h2.mono (HA4.out _ _).size))); have HS5 := Lib.hid h2.size; clear h1 h2))
        | (at_builtin; (refine app_none rfl _ _ rfl _ v5 B rfl O5.out rfl ?_); have O6 := Lib.hid (show OwnB w5 _ v5 (B ++ M) by rw [HM0.out, List.append_nil]; exact O5.out); have HB6 := HB5; obtain ⟨g6, c6, rfl⟩ := O6.out.some (by rw [List.length_append]; have := HBB.out; omega); have hcq := ownB_cap O6.out; rw [HML.out] at hcq ⊢)
        | (go_at_call 15; (with_reducible refine (CU2.out (some ⟨g6, 0, none⟩) c6 _ O6.out.bys hcq).mono ?_); rintro e w7 ⟨ya, yb, yc, yd, ye, yf, rfl, hpk, hb7⟩; have HB7 := Lib.hid (HB6.out.trans (hb7.mono HB6.out.size)); clear hpk hb7))
      go_ret
      exact ⟨rfl, (HB3.out.trans (HB7.out.mono HB3.out.size)).alloc (HB3.out.trans (HB7.out.mono HB3.out.size)).size _⟩
    | some ad =>
      clear hmn
      cases bb
      ·
        go_enter Try.func7, Try.ntmps7
        go_wp2_with (first
          | (go_at_call 13; refine (CP.out _ (S.out.below HA.out)).mono ?_; rintro e w1 ⟨v, rfl, hB, hb1⟩; have HB1 := Lib.hid (HA.out.trans (hb1.mono HA.out.size)); have OB := Lib.hid hB; obtain ⟨g, c1, rfl⟩ := hB.some HBB.out; have hcp : n ≤ c1 := (by have := ownB_cap hB; rw [HN.out] at this; exact this); clear hB hb1; rw [HN.out])
          | (go_at_call 12; refine (CA.out _).mono ?_; rintro e w3 ⟨rfl, hb3⟩; have HB2 := Lib.hid (HB1.out.trans (hb3.mono HB1.out.size)); have OB := Lib.hid (OB.out.keep hb3); clear hb3)
          | (go_at_call 15; (with_reducible refine (CU1.out (some ⟨g, 0, none⟩) c1 _ (OB.out.bys.take2 k) ?_).mono ?_); (exact HKC.out c1 hcp); rintro e w4 ⟨xa, xb, xc, xd, xe, xf, rfl, hpk, hb4⟩; have HB3 := Lib.hid (HB2.out.trans (hb4.mono HB2.out.size)); have OB4 := Lib.hid (OB.out.keep hb4); have hA4 : ∀ o1 o2, Below w4.heap.size w4 ((w4.alloc o1).alloc o2) := (fun o1 o2 => ((Below.refl _ _).alloc (Nat.le_refl _) _).alloc (by simp) _); have HA4 := Lib.hid hA4; have HEM := Lib.hid (fun W => app_nilcells W (w4.heap.size + 1)); clear hpk hb4 hA4)
          | (at_builtin; (refine app_full rfl _ _ rfl [] B (w4.heap.size + 1) rfl (HEM.out _) c1 ⟨g, 0, none⟩ (by rw [HN.out]; rfl) (OB4.out.bys.below (HA4.out _ _)).new HBB.out (by have := HN.out; simp; omega) ?_); (intro v5 w5 h1 h2; have O5 := Lib.hid (show OwnB w5 _ v5 B from h1); have HB5 := Lib.hid (((HA4.out _ _).trans (h2.mono (HA4.out _ _).size))); have HS5 := Lib.hid h2.size; clear h1 h2))
          | (at_builtin; (refine app_bytes rfl _ _ rfl _ v5 B M mc ad rfl O5.out (by rw [HMM.out]; rfl) ((HM.out.below (HB3.out.trans (HB5.out.mono HB3.out.size))).newA) (by have := HMM.out; have := HN.out; omega) HS5.out ?_); (intro v6 w6 h1 h2 h3; have O6 := Lib.hid h1; have HB6 := Lib.hid (HB5.out.trans (h2.mono (HA4.out _ _).size)); clear h1 h2 h3; obtain ⟨g6, c6, rfl⟩ := O6.out.some (by rw [List.length_append]; have := HBB.out; omega); have hcq := ownB_cap O6.out; rw [HML.out] at hcq ⊢))
          | (go_at_call 15; (with_reducible refine (CU2.out (some ⟨g6, 0, none⟩) c6 _ O6.out.bys hcq).mono ?_); rintro e w7 ⟨ya, yb, yc, yd, ye, yf, rfl, hpk, hb7⟩; have HB7 := Lib.hid (HB6.out.trans (hb7.mono HB6.out.size)); clear hpk hb7))
        go_ret
        exact ⟨rfl, (HB3.out.trans (HB7.out.mono HB3.out.size)).alloc (HB3.out.trans (HB7.out.mono HB3.out.size)).size _⟩
      ·
        go_enter Try.func7, Try.ntmps7
        go_wp2_with (first
          | (go_at_call 13; refine (CP.out _ (S.out.below HA.out)).mono ?_; rintro e w1 ⟨v, rfl, hB, hb1⟩; have HB1 := Lib.hid (HA.out.trans (hb1.mono HA.out.size)); have OB := Lib.hid hB; obtain ⟨g, c1, rfl⟩ := hB.some HBB.out; have hcp : n ≤ c1 := (by have := ownB_cap hB; rw [HN.out] at this; exact this); clear hB hb1; rw [HN.out])
          | (go_at_call 12; refine (CA.out _).mono ?_; rintro e w3 ⟨rfl, hb3⟩; have HB2 := Lib.hid (HB1.out.trans (hb3.mono HB1.out.size)); have OB := Lib.hid (OB.out.keep hb3); clear hb3)
          | (go_at_call 15; (with_reducible refine (CU1.out (some ⟨g, 0, none⟩) c1 _ (OB.out.bys.take2 k) ?_).mono ?_); (exact HKC.out c1 hcp); rintro e w4 ⟨xa, xb, xc, xd, xe, xf, rfl, hpk, hb4⟩; have HB3 := Lib.hid (HB2.out.trans (hb4.mono HB2.out.size)); have OB4 := Lib.hid (OB.out.keep hb4); have hA4 : ∀ o1 o2, Below w4.heap.size w4 ((w4.alloc o1).alloc o2) := (fun o1 o2 => ((Below.refl _ _).alloc (Nat.le_refl _) _).alloc (by simp) _); have HA4 := Lib.hid hA4; have HEM := Lib.hid (fun W => app_nilcells W (w4.heap.size + 1)); clear hpk hb4 hA4)
          | (at_builtin; (refine app_full rfl _ _ rfl [] B (w4.heap.size + 1) rfl (HEM.out _) c1 ⟨g, 0, none⟩ (by rw [HN.out]; rfl) (OB4.out.bys.below (HA4.out _ _)).new HBB.out (by have := HN.out; simp; omega) ?_); (intro v5 w5 h1 h2; have O5 := Lib.hid (show OwnB w5 _ v5 B from h1); have HB5 := Lib.hid (((HA4.out _ _).trans (h2.mono (HA4.out _ _).size))); have HS5 := Lib.hid h2.size; clear h1 h2))
          | (at_builtin; (refine app_bytes rfl _ _ rfl _ v5 B M mc ad rfl O5.out (by rw [HMM.out]; rfl) ((HM.out.below (HB3.out.trans (HB5.out.mono HB3.out.size))).newA) (by have := HMM.out; have := HN.out; omega) HS5.out ?_); (intro v6 w6 h1 h2 h3; have O6 := Lib.hid h1; have HB6 := Lib.hid (HB5.out.trans (h2.mono (HA4.out _ _).size)); clear h1 h2 h3; obtain ⟨g6, c6, rfl⟩ := O6.out.some (by rw [List.length_append]; have := HBB.out; omega); have hcq := ownB_cap O6.out; rw [HML.out] at hcq ⊢))
          | (go_at_call 15; (with_reducible refine (CU2.out (some ⟨g6, 0, none⟩) c6 _ O6.out.bys hcq).mono ?_); rintro e w7 ⟨ya, yb, yc, yd, ye, yf, rfl, hpk, hb7⟩; have HB7 := Lib.hid (HB6.out.trans (hb7.mono HB6.out.size)); clear hpk hb7))
        go_ret
        exact ⟨rfl, (HB3.out.trans (HB7.out.mono HB3.out.size)).alloc (HB3.out.trans (HB7.out.mono HB3.out.size)).size _⟩
end Go.Proofs.Ytgbgahdeopedpaa
/- Layer 24's laws, walked: up to 32 bits in a row, turned anywhere, are told. -/
namespace Go.Proofs.Ytgbgahdeopedpaa
open Go.RowKit
set_option linter.unusedVariables false
attribute [local go_sem] ext_mk size_mk toList_mk get_mk take_drop_len take_tail_len ByteArray.mk_append_mk List.append_toArray

/-- the bits that have been turned: those below k that lie within the bytes -/
def turnE (bits from1 n k : Nat) : Nat := bits % 2 ^ (min k (8 * n - from1))

theorem turnE_zero (bits from1 n : Nat) : turnE bits from1 n 0 = 0 := by unfold turnE; simp [Nat.mod_one]

theorem mod_succ (b k : Nat) : b % 2 ^ (k + 1) = b % 2 ^ k + b / 2 ^ k % 2 * 2 ^ k := by
  rw [Nat.pow_succ, Nat.mod_mul, Nat.mul_comm (b / 2 ^ k % 2)]

theorem turnE_off {bits from1 n k : Nat} (h : ¬ (bits / 2 ^ k % 2 = 1 ∧ from1 + k < 8 * n)) : turnE bits from1 n (k + 1) = turnE bits from1 n k := by
  unfold turnE
  by_cases hk : from1 + k < 8 * n
  · rw [Nat.min_eq_left (by omega), Nat.min_eq_left (by omega), mod_succ]
    have : bits / 2 ^ k % 2 = 0 := by
      have h2 := Nat.mod_two_eq_zero_or_one (bits / 2 ^ k)
      rcases h2 with h2 | h2
      · exact h2
      · exact absurd ⟨h2, hk⟩ h
    rw [this]; simp
  · rw [Nat.min_eq_right (by omega), Nat.min_eq_right (by omega)]

theorem turnE_on {bits from1 n k : Nat} (h1 : bits / 2 ^ k % 2 = 1) (hk : from1 + k < 8 * n) : turnE bits from1 n (k + 1) = turnE bits from1 n k + 2 ^ k ∧ turnE bits from1 n k < 2 ^ k := by
  unfold turnE
  rw [Nat.min_eq_left (by omega), Nat.min_eq_left (by omega), mod_succ, h1, Nat.one_mul]
  exact ⟨rfl, Nat.mod_lt _ (Nat.pow_pos (by decide))⟩

theorem turnE_lt (bits from1 n k : Nat) (hb : bits < 4294967296) : turnE bits from1 n k < 4294967296 := Nat.lt_of_le_of_lt (Nat.mod_le _ _) hb

theorem xor_step {e k f : Nat} (he : e < 2 ^ k) : 2 ^ f * e ^^^ 2 ^ (f + k) = 2 ^ f * (e + 2 ^ k) := by
  have h1 : e + 2 ^ k = e ^^^ 2 ^ k := by
    have := Im.add_xor he 1
    simpa using this
  rw [h1, Nat.pow_add]
  have h := Nat.shiftLeft_xor_distrib (a := e) (b := 2 ^ k) (i := f)
  simp only [Nat.shiftLeft_eq] at h
  rw [Nat.mul_comm (2 ^ f) (e ^^^ 2 ^ k), h, Nat.mul_comm e, Nat.mul_comm (2 ^ k)]

/-- a byte of a row of the call's own, turned -/
theorem own_turn {W : World} {base g n c i : Nat} {L : List UInt8} (h : OwnB W base (.slice (some ⟨g, 0, none⟩) n c) L) (hi : i < L.length) (u : UInt8) : OwnB (W.setCell ⟨g, i, none⟩ (.int .u8 (u.toNat : Int))) base (.slice (some ⟨g, 0, none⟩) n c) (L.set i u) := by
  obtain ⟨h1, h2⟩ := h
  rcases h2 with ⟨q, -⟩ | ⟨g', cap, cur, q, q1, q2, q3, q4, q5, q6⟩
  · cases q
  · cases q
    refine ⟨by simp [Lib.byteCells], .inr ⟨g, c, cur.setIfInBounds i (.int .u8 (u.toNat : Int)), by simp, q1, heap_setCell_same (i := i) _ _ _ _ _ q2, by simpa using q3, q4, by simpa using q5, ?_⟩⟩
    have e : (Lib.byteCells (L.set i u)) = (Lib.byteCells L).set i (.int .u8 (u.toNat : Int)) := by simp [Lib.byteCells]
    rw [e, ← q6]
    simp [List.take_set]

theorem and1_u32 (x : Nat) (h : x < 4294967296) : bits .and .u32 (x : Int) 1 = ((x % 2 : Nat) : Int) := by
  have := u32_and_nat x 1 h (by decide)
  rw [Nat.and_one_is_mod] at this
  exact this

theorem xor_u8 {cc j : Nat} (hc : cc < 256) (hj : j < 8) : bits .xor .u8 (cc : Int) (IntKind.u8.wrap (2 ^ j : Int)) = ((UInt8.ofNat (cc ^^^ 2 ^ j)).toNat : Int) := by
  have hj2 : (2 : Nat) ^ j < 2 ^ 8 := Nat.pow_lt_pow_right (by decide) hj
  have h8 : (2 : Nat) ^ 8 = 256 := rfl
  have hx : cc ^^^ 2 ^ j < 2 ^ 8 := Nat.xor_lt_two_pow (by omega) hj2
  have e : ((2 : Int) ^ j) = ((2 ^ j : Nat) : Int) := by rw [Int.natCast_pow]; rfl
  obtain ⟨p, hp⟩ : ∃ p, (2 : Nat) ^ j = p := ⟨_, rfl⟩
  rw [e]
  rw [hp] at hj2 hx ⊢
  rw [IntWalk.u8_in _ (by omega), u8_xor_nat cc p hc (by omega), UInt8.toNat_ofNat', Nat.mod_eq_of_lt hx]

set_option maxHeartbeats 4000000 in
set_option maxRecDepth 8000 in
theorem imageBursts_any (T Y : List UInt8) (fa sa ra : Option Addr) (fc sc rc : Nat) (P : Pg) (at' : Int) (bs : Nat) (hbs : bs < 4294967296) (w : World) (hT : T.length ≤ maxLen) (hY : Y.length ≤ maxLen) (hP : PgAt w fa sa ra P) :
    Calls Try.prog 6 #[.agg #[.string ⟨T.toArray⟩, .string ⟨Y.toArray⟩, .slice fa P.fs.length fc, .slice sa P.ss.length sc, .slice ra P.us.length rc, .int .i64 P.en], .int .i64 at', .int .u32 (bs : Int)] w fun e w' => e = .returned (.bool true) ∧ Below w.heap.size w w' := by
  have S := Lib.hid hP
  have CP := Lib.hid (fun W h => pack_any T Y fa sa ra fc sc rc P W hT hY h)
  have CA := Lib.hid (fun W => awake_24 W)
  have CU := Lib.hid (fun a cap l W h1 h2 => unpack_any a cap l W h1 h2)
  have CB := Lib.hid (fun g cap l W h1 h2 h3 h4 => unpack_bad g cap l W h1 h2 h3 h4)
  have CZ := Lib.hid (fun W => isame_zero W)
  have hA : Below w.heap.size w (w.alloc (.cells #[.string ⟨T.toArray⟩, .string ⟨Y.toArray⟩, .slice fa P.fs.length fc, .slice sa P.ss.length sc, .slice ra P.us.length rc, .int .i64 P.en] 33)) := (Below.refl _ _).alloc (Nat.le_refl _) _
  have HA := Lib.hid hA
  have KL := Lib.hid (fun (h : (packR T Y P).2 = 0) => okSum_img h)
  obtain ⟨⟨B, er⟩, hR⟩ : ∃ t, packR T Y P = t := ⟨_, rfl⟩
  rw [hR] at CP KL
  dsimp only at CP KL
  clear hA hP hT hY hR
  by_cases her : er = 0 ∧ bs ≠ 0
  rotate_left
  · have kk : (er == 0) = false ∧ (er != 0) = true ∨ (er == 0) = true ∧ (er != 0) = false ∧ ((bs : Int) == 0) = true := by
      by_cases h : er = 0
      · right
        have : bs = 0 := Classical.byContradiction fun q => her ⟨h, q⟩
        exact ⟨by simpa using h, by simpa using h, by rw [this]; rfl⟩
      · left; exact ⟨by simpa using h, by simpa using h⟩
    clear KL her
    rcases kk with ⟨k1, k2⟩ | ⟨k1, k2, k3⟩
    all_goals
      go_enter Try.func6, Try.ntmps6
      go_wp2_with (first
        | (go_at_call 13; refine (CP.out _ (S.out.below HA.out)).mono ?_; rintro e w1 ⟨v, rfl, hB, hb1⟩; have HB1 := Lib.hid (HA.out.trans (hb1.mono HA.out.size)); obtain ⟨a1, c1, rfl⟩ := hB.form; clear hB hb1)
        | (go_at_call 12; refine (CA.out _).mono ?_; rintro e w3 ⟨rfl, hb3⟩; have HB1 := Lib.hid (HB1.out.trans (hb3.mono HB1.out.size)); clear hb3))
      go_ret
      exact ⟨rfl, HB1.out⟩
  · obtain ⟨rfl, hb0⟩ := her
    obtain ⟨hok, hn9, hn20⟩ := KL.out rfl
    obtain ⟨n, hn⟩ : ∃ n, B.length = n := ⟨_, rfl⟩
    rw [hn] at hn9 hn20
    have hb0' : ((bs : Int) == 0) = false := by rw [beq_eq_false_iff_ne]; omega
    obtain ⟨u0, hu0⟩ : ∃ u, IntKind.u64.wrap at' = u := ⟨_, rfl⟩
    have hU0 : 0 ≤ u0 := by rw [← hu0, IntKind.wrap_u64]; omega
    obtain ⟨f, hf⟩ : ∃ k : Nat, u0 % (8 * (n : Int)) = (k : Int) := by
      have h0 : 0 ≤ u0 % (8 * (n : Int)) := Int.emod_nonneg _ (by omega)
      exact ⟨(u0 % (8 * (n : Int))).toNat, (Int.toNat_of_nonneg h0).symm⟩
    have hfn : f < 8 * n := by have := Int.emod_lt_of_pos u0 (b := 8 * (n : Int)) (by omega); omega
    have h8n : ((8 * (n : Int)) == 0) = false := by rw [beq_eq_false_iff_ne]; omega
    have HN := Lib.hid hn
    have HOK := Lib.hid hok
    have HBB := Lib.hid (show 0 < B.length by omega)
    clear hn hok KL hb0
    go_enter Try.func6, Try.ntmps6
    go_wp2_with (first
      | (go_at_call 13; refine (CP.out _ (S.out.below HA.out)).mono ?_; rintro e w1 ⟨v, rfl, hB, hb1⟩; have HB1 := Lib.hid (HA.out.trans (hb1.mono HA.out.size)); have OB := Lib.hid hB; obtain ⟨g, c1, rfl⟩ := hB.some HBB.out; clear hB hb1; rw [HN.out])
      | (go_at_call 12; refine (CA.out _).mono ?_; rintro e w3 ⟨rfl, hb3⟩; have HB2 := Lib.hid (HB1.out.trans (hb3.mono HB1.out.size)); have OB4 := Lib.hid (OB.out.keep hb3); have HA4 := Lib.hid (fun o1 => (show Below w3.heap.size w3 (w3.alloc o1) from (Below.refl _ _).alloc (Nat.le_refl _) _)); have HEM := Lib.hid (fun W => app_nilcells W w3.heap.size); clear hb3)
      | (at_builtin; (refine app_full rfl _ _ rfl [] B w3.heap.size rfl (HEM.out _) c1 ⟨g, 0, none⟩ (by rw [HN.out]; rfl) (OB4.out.bys.below (HA4.out _)).new HBB.out (by have := HN.out; simp; omega) ?_); (intro v5 w5 h1 h2; have O5 := Lib.hid (show OwnB w5 _ v5 B from h1); have HB5 := Lib.hid (((HA4.out _).trans (h2.mono (HA4.out _).size))); obtain ⟨g5, c5, rfl⟩ := O5.out.some HBB.out; have hc5 := ownB_cap O5.out; rw [HN.out] at hc5 ⊢; clear h1 h2)))
    have O5b := Lib.hid (O5.out.base (HA4.out (.cells #[] 5)).size)
    clear O5
    go_loopw [11, 12] (fun v11 v12 wr => ∃ (k : Nat) (L : List UInt8), k ≤ 32 ∧ v12 = .int .i64 (k : Int) ∧ v11 = .bool (decide (turnE bs f n k ≠ 0)) ∧ L.length = n ∧ OwnB wr w3.heap.size (.slice (some ⟨g5, 0, none⟩) n c5) L ∧ Below w3.heap.size w3 wr ∧ Im.leN L = Im.leN B ^^^ 2 ^ f * turnE bs f n k) (fun _ v12 _ => 32 - (intOf v12).toNat)
    case atStart => exact ⟨0, B, by omega, rfl, by rw [turnE_zero]; rfl, HN.out, by have := O5b.out; rw [HN.out] at this; exact this, HB5.out, by rw [turnE_zero]; simp⟩
    case round =>
      obtain ⟨k, L, hk, rfl, rfl, hL, hO, hBe, hle⟩ := hrel
      have O := Lib.hid hO
      have BE := Lib.hid hBe
      have HLE := Lib.hid hle
      have HL := Lib.hid hL
      clear hle hO hBe
      by_cases hk32 : k < 32
      · obtain ⟨q, hq⟩ : ∃ q, bs / 2 ^ k = q := ⟨_, rfl⟩
        have hqb : q < 4294967296 := by rw [← hq]; exact Nat.lt_of_le_of_lt (Nat.div_le_self _ _) hbs
        by_cases hbit : q % 2 = 1 ∧ f + k < 8 * n
        · obtain ⟨i, hi⟩ : ∃ i, (f + k) / 8 = i := ⟨_, rfl⟩
          obtain ⟨j, hj⟩ : ∃ j, (f + k) % 8 = j := ⟨_, rfl⟩
          have ki : ((f : Int) + (k : Int)) / 8 = (i : Int) := by omega
          have kj : ((f : Int) + (k : Int)) % 8 = (j : Int) := by omega
          have hin : i < n := by omega
          have hj8 : j < 8 := by omega
          have kit : ((i : Int)).toNat = i := Int.toNat_natCast i
          obtain ⟨cc, hcc⟩ : ∃ cc, (L.getD i 0).toNat = cc := ⟨_, rfl⟩
          have hc256 : cc < 256 := by rw [← hcc]; exact (L.getD i 0).toNat_lt
          have hO2 : OwnB wr w3.heap.size (.slice (some ⟨g5, 0, none⟩) L.length c5) L := by rw [hL]; exact O.out
          have b0 : wr.cell? ⟨g5, i, none⟩ = some (.int .u8 (cc : Int)) := by rw [← hcc]; exact bys_at0 hO2.bys (by omega)
          obtain ⟨hg5, cur, hcur⟩ : w3.heap.size ≤ g5 ∧ ∃ cur, wr.heap[g5]? = some (.cells cur 5 (0, 0)) := by
            rcases O.out.2 with ⟨q, -⟩ | ⟨g', cap, cur, q, q1, q2, -⟩
            · cases q
            · cases q; exact ⟨q1, cur, q2⟩
          have z0 : wr.frozen? ⟨g5, i, none⟩ = false := frozen_of_row _ _ _ _ _ hcur
          have k1 : q % 2 = 1 := hbit.1
          have k2 : (f : Int) + (k : Int) < 8 * (n : Int) := by have := hbit.2; omega
          have kq : bits .and .u32 (q : Int) 1 = 1 := by rw [and1_u32 q hqb, k1]; rfl
          have kdv : (bs : Int) / 2 ^ k = (q : Int) := by rw [← hq, Int.natCast_ediv, Int.natCast_pow]; rfl
          have HXU := Lib.hid (xor_u8 hc256 hj8)
          have HTU := Lib.hid (turnE_on (bits := bs) (from1 := f) (n := n) (k := k) (by rw [hq]; exact k1) hbit.2)
          have HFL := Lib.hid (Im.leN_flip L i j (by omega) hj8)
          have HIJ := Lib.hid (show 8 * i + j = f + k by omega)
          have HOT := Lib.hid (own_turn O.out (show i < L.length by omega) (UInt8.ofNat (cc ^^^ 2 ^ j)))
          have HCC := Lib.hid hcc
          have HG5 := Lib.hid hg5
          clear hcc hi hj hq hbit hO2 hcur hL hg5
          go_wp2_with fail
          go_roundw
          case rel =>
            have hE1 := HTU.out.1
            have hE2 := HTU.out.2
            have hpk : 0 < 2 ^ k := Nat.pow_pos (by decide)
            refine ⟨k + 1, L.set i (UInt8.ofNat (cc ^^^ 2 ^ j)), by omega, rfl, ?_, by rw [List.length_set]; exact HL.out, ?_, BE.out.setCell (p := ⟨g5, i, none⟩) HG5.out _, ?_⟩
            · rw [decide_eq_true (by rw [hE1]; omega)]
            · have := HOT.out
              rw [← HXU.out] at this
              exact this
            · have h1 := HFL.out
              rw [HCC.out] at h1
              rw [h1, HLE.out, HIJ.out, Nat.xor_assoc, xor_step hE2, hE1]
          case measure => simp only [intOf]; omega
        · have HOFF := Lib.hid (turnE_off (bits := bs) (from1 := f) (n := n) (k := k) (by rw [hq]; exact hbit))
          have kk : q % 2 = 0 ∨ (q % 2 = 1 ∧ ¬ ((f : Int) + (k : Int) < 8 * (n : Int))) := by
            rcases Nat.mod_two_eq_zero_or_one q with h | h
            · left; exact h
            · right; exact ⟨h, by have := fun x => hbit ⟨h, x⟩; omega⟩
          have kdv : (bs : Int) / 2 ^ k = (q : Int) := by rw [← hq, Int.natCast_ediv, Int.natCast_pow]; rfl
          have HQ := Lib.hid (and1_u32 q hqb)
          clear hq hbit hL
          rcases kk with k1 | ⟨k1, k2⟩
          · have kq : bits .and .u32 (q : Int) 1 = 0 := by rw [HQ.out, k1]; rfl
            go_wp2_with fail
            go_roundw
            case rel => exact ⟨k + 1, L, by omega, rfl, by rw [HOFF.out], HL.out, O.out, BE.out, by rw [HOFF.out]; exact HLE.out⟩
            case measure => simp only [intOf]; omega
          · have kq : bits .and .u32 (q : Int) 1 = 1 := by rw [HQ.out, k1]; rfl
            have k3 : 8 * (n : Int) ≤ (f : Int) + (k : Int) := by omega
            go_wp2_with fail
            go_roundw
            case rel => exact ⟨k + 1, L, by omega, rfl, by rw [HOFF.out], HL.out, O.out, BE.out, by rw [HOFF.out]; exact HLE.out⟩
            case measure => simp only [intOf]; omega
      · have k0 : decide ((k : Int) < 32) = false := decide_eq_false (by omega)
        obtain ⟨E, hE⟩ : ∃ E, turnE bs f n k = E := ⟨_, rfl⟩
        rw [hE] at HLE ⊢
        have hElt : E < 4294967296 := by rw [← hE]; exact turnE_lt _ _ _ _ hbs
        have hO2 : OwnB wr w3.heap.size (.slice (some ⟨g5, 0, none⟩) L.length c5) L := by rw [hL]; exact O.out
        have HBY := Lib.hid hO2.bys
        have HB9 := Lib.hid (HB2.out.trans (BE.out.mono HB2.out.size))
        clear hE hk hk32
        by_cases hE0 : E = 0
        · obtain ⟨tv, htv⟩ : ∃ tv : Bool, decide (E ≠ 0) = tv := ⟨_, rfl⟩
          obtain rfl : tv = false := by rw [← htv]; simp [hE0]
          rw [htv]
          have CL := Lib.hid (CU.out (some ⟨g5, 0, none⟩) c5 L wr HBY.out (by rw [hL]; exact hc5))
          rw [hL] at CL
          obtain ⟨⟨T2, Y2, P2, e2⟩, hu2⟩ : ∃ t, unpackL L = t := ⟨_, rfl⟩
          rw [hu2] at CL
          clear hE0 hL hO2 hu2 htv
          go_wp2_with (first
            | (go_at_call 15; (with_reducible refine CL.out.mono ?_); rintro e w7 ⟨ya, yb, yc, yd, ye, yf, rfl, hpk, hb7⟩; have HB7 := Lib.hid (HB9.out.trans (hb7.mono HB9.out.size)); clear hpk hb7))
          go_ret
          exact ⟨rfl, HB7.out.alloc HB7.out.size _⟩
        · obtain ⟨tv, htv⟩ : ∃ tv : Bool, decide (E ≠ 0) = tv := ⟨_, rfl⟩
          obtain rfl : tv = true := by rw [← htv]; simp [hE0]
          rw [htv]
          have hbad := Im.burst (b := B) (c := L) (from1 := f) (e := E) (by rw [hL, HN.out]) hElt hE0 HLE.out HOK.out
          have CL := Lib.hid (CB.out g5 c5 L wr HBY.out (by rw [hL]; exact hc5) (by omega) (.inr (.inr hbad)))
          rw [hL] at CL
          clear hE0 hL hO2 htv hbad
          go_wp2_with (first
            | (go_at_call 15; (with_reducible refine CL.out.mono ?_); rintro e w7 ⟨er, her, rfl, hb7⟩; have hk1 : (er == 0) = false := (by simpa using her); have hk2 : (er != 0) = true := (by simpa using her); have HB7 := Lib.hid (HB9.out.trans (hb7.mono HB9.out.size)); clear hb7 her)
            | (go_at_call 16; (refine (CZ.out _).mono ?_); rintro e w8 ⟨rfl, hb8⟩; have HB8 := Lib.hid ((HB7.out.alloc HB7.out.size (.cells #[.string ⟨#[]⟩, .string ⟨#[]⟩, .slice none 0 0, .slice none 0 0, .slice none 0 0, .int .i64 0] 33)).trans (hb8.mono (HB7.out.alloc HB7.out.size _).size)); clear hb8))
          go_ret
          exact ⟨rfl, HB8.out⟩
end Go.Proofs.Ytgbgahdeopedpaa
