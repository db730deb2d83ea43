/- The plain law of layer 24's check sum: up to 32 bits in a row, turned anywhere, are told. No program in sight. -/
import Derived.Test.YtokjkligechcoaaGreatDoorEf
import Derived.Test.YtokjkligechcoaaGreatDoorGf
import Derived.Laws.AppendOwnNone
set_option linter.unusedVariables false
namespace Go.Proofs.YtokjkligechcoaaGreatDoor.Im
open Go.RowKit
end Go.Proofs.YtokjkligechcoaaGreatDoor.Im
/- Walks of layer 24: bytes that are no image's, by their first bytes or their sum. -/
namespace Go.Proofs.YtokjkligechcoaaGreatDoor
open Go.RowKit
attribute [local go_sem] ext_mk size_mk toList_mk get_mk take_drop_len take_tail_len ByteArray.mk_append_mk List.append_toArray
end Go.Proofs.YtokjkligechcoaaGreatDoor
/- Walks of layer 24: two empty images are the same. -/
namespace Go.Proofs.YtokjkligechcoaaGreatDoor
open Go.RowKit
attribute [local go_sem] ext_mk size_mk toList_mk get_mk take_drop_len take_tail_len ByteArray.mk_append_mk List.append_toArray
end Go.Proofs.YtokjkligechcoaaGreatDoor
/- Walks of layer 24: the sections of any bytes. -/
namespace Go.Proofs.YtokjkligechcoaaGreatDoor
open Go.RowKit
attribute [local go_sem] ext_mk size_mk toList_mk get_mk take_drop_len take_tail_len ByteArray.mk_append_mk List.append_toArray
/-- a section that has been read, kept -/
structure SdAt (W : World) (q s : Nat) (S : List UInt8) : Prop where
 h : q < s
 b : BysAt W (some ⟨s, 0, none⟩) S
theorem SdAt.bx {W V : World} {q s : Nat} {S : List UInt8} {o : Obj} (h : SdAt W q s S) (k : BxAt W V q o) : SdAt V q s S := ⟨h.h, h.b.bx2 (Nat.ne_of_gt h.h) k⟩
theorem SdAt.put {W : World} {q s : Nat} {S : List UInt8} (h : SdAt W q s S) (a : Addr) (ha : a.block < q) (v : Value) : SdAt (W.setCell a v) q s S := ⟨h.h, h.b.put2 (by have := h.h; omega) v⟩
end Go.Proofs.YtokjkligechcoaaGreatDoor
/- Walks of layer 24: the sections of nine bytes or more. -/
namespace Go.Proofs.YtokjkligechcoaaGreatDoor
open Go.RowKit
attribute [local go_sem] ext_mk size_mk toList_mk get_mk take_drop_len take_tail_len ByteArray.mk_append_mk List.append_toArray
end Go.Proofs.YtokjkligechcoaaGreatDoor
/- Walks of layer 24: the image that bytes are. -/
namespace Go.Proofs.YtokjkligechcoaaGreatDoor
open Go.RowKit
attribute [local go_sem] ext_mk size_mk toList_mk get_mk take_drop_len take_tail_len ByteArray.mk_append_mk List.append_toArray
theorem decode_any (a : Option Addr) (l : List UInt8) (cap : Nat) (w : World) (hB : BysAt w a l) (hc : l.length ≤ cap) :
  Calls Tryz.prog 23 #[.slice a l.length cap] w fun x w' => ∃ fa fc sa sc ra rc, x = .returned (.tuple #[.agg #[.slice fa (decodeL l).1.fs.length fc, .slice sa (decodeL l).1.ss.length sc, .slice ra (decodeL l).1.us.length rc, .int .i64 (decodeL l).1.en], .int .i64 (decodeL l).2]) ∧ PgK (KUp w.heap.size) w' fa sa ra (decodeL l).1 ∧ Below w.heap.size w w' := by
 by_cases hl : 16777216 < l.length
 ·have hD : decodeL l = (pg0, 2) := if_pos hl
  rw [hD]
  refine (decode_long a l cap w hB hl).mono ?_
  rintro e w' ⟨rfl, hb⟩
  exact ⟨none, 0, none, 0, none, 0, rfl, pg0_at _ _, hb⟩
 ·exact decode_fit a l cap w hB hc (by omega)
end Go.Proofs.YtokjkligechcoaaGreatDoor
/- What a program is written as is read as that program (plain lists). -/
namespace Go.Proofs.YtokjkligechcoaaGreatDoor
open Go.RowKit
theorem pow_up (s : Nat) : 2 ^ (s + 7) = 128 * 2 ^ s := by rw [Nat.pow_add, Nat.mul_comm]
theorem plainF_nat : ∀ (f : Nat) (v acc : Nat) (pre post : List UInt8), f ≤ 9 → v * 2 ^ (7 * (9 - f)) < 18446744073709551616 → (f < 9 → v ≠ 0) →
  plainF (pre ++ natE v ++ post) (f + 1) pre.length acc = (acc + v * 2 ^ (7 * (9 - f)), (pre ++ natE v).length, false) := by
 intro f
 induction f with
 | zero =>
  intro v acc pre post _ hv hz
  have h63 : (2 : Nat) ^ (7 * (9 - 0)) = 9223372036854775808 := rfl
  rw [h63] at hv
  have hv2 : v < 2 := by omega
  rw [natE_lo (by omega)]
  have hc : (UInt8.ofNat v).toNat = v := by simp; omega
  unfold plainF
  rw [if_neg (by simp)]
  rw [show (pre ++ [UInt8.ofNat v] ++ post).getD pre.length 0 = UInt8.ofNat v by simp, hc]
  rw [if_neg (by omega), if_pos (by omega)]
  have h1 : v ≠ 0 := hz (by omega)
  simp [h1, Nat.mod_eq_of_lt (show v < 128 by omega)]
 | succ f ih =>
  intro v acc pre post hf hv hz
  by_cases hlo : v < 128
  ·rw [natE_lo hlo]
   have hc : (UInt8.ofNat v).toNat = v := by simp; omega
   unfold plainF
   rw [if_neg (by simp)]
   rw [show (pre ++ [UInt8.ofNat v] ++ post).getD pre.length 0 = UInt8.ofNat v by simp, hc]
   rw [if_neg (by omega), if_pos hlo, Nat.mod_eq_of_lt hlo]
   have h1 : ¬ (v = 0 ∧ f + 1 < 9) := fun q => hz q.2 q.1
   simp [h1]
  ·rw [natE_hi hlo]
   have hc : (UInt8.ofNat (v % 128 + 128)).toNat = v % 128 + 128 := by simp; omega
   have e : pre ++ UInt8.ofNat (v % 128 + 128) :: natE (v / 128) ++ post = (pre ++ [UInt8.ofNat (v % 128 + 128)]) ++ natE (v / 128) ++ post := by simp
   unfold plainF
   rw [if_neg (by simp)]
   rw [show (pre ++ UInt8.ofNat (v % 128 + 128) :: natE (v / 128) ++ post).getD pre.length 0 = UInt8.ofNat (v % 128 + 128) by simp, hc]
   rw [if_neg (by omega), if_neg (by omega)]
   rw [show (v % 128 + 128) % 128 = v % 128 by omega, e]
   have hs : 7 * (9 - f) = 7 * (9 - (f + 1)) + 7 := by omega
   obtain ⟨s, hs2⟩ : ∃ s, 7 * (9 - (f + 1)) = s := ⟨_, rfl⟩
   have ih2 := ih (v / 128) (acc + v % 128 * 2 ^ s) (pre ++ [UInt8.ofNat (v % 128 + 128)]) post (by omega)
   rw [hs, hs2, pow_up] at ih2
   rw [hs2] at hv ⊢
   have hm : v / 128 * (128 * 2 ^ s) + v % 128 * 2 ^ s = v * 2 ^ s := by
    rw [← Nat.mul_assoc, ← Nat.add_mul]
    congr 1
    omega
   have hl : pre.length + 1 = (pre ++ [UInt8.ofNat (v % 128 + 128)]).length := by simp
   rw [hl, ih2 (by omega) (fun _ => by omega)]
   refine Prod.ext ?_ (Prod.ext ?_ rfl)
   ·show acc + _ + _ = acc + _; omega
   ·simp
theorem plainL_nat (v : Nat) (pre post : List UInt8) (h : v < 18446744073709551616) : plainL (pre ++ natE v ++ post) pre.length = (v, (pre ++ natE v).length, false) := by
 unfold plainL
 rw [plainF_nat 9 v 0 pre post (Nat.le_refl _) (by simpa using h) (fun q => absurd q (by decide))]
 simp
theorem smallI_nat (v : Nat) (pre post : List UInt8) (h : v ≤ 4611686018427387904) : smallI (pre ++ natE v ++ post) pre.length false = ((v : Int), (pre ++ natE v).length, false) := by
 unfold smallI smallL
 rw [plainL_nat v pre post (by omega), if_neg (by show ¬ _ < v; omega)]
 rfl
theorem countL_nat (v d : Nat) (pre post : List UInt8) (h : v < 18446744073709551616) (hp : v ≤ post.length / d) : countL (pre ++ natE v ++ post) d pre.length false = (v, (pre ++ natE v).length, false) := by
 unfold countL
 rw [plainL_nat v pre post h]
 rw [if_neg]
 rintro (q | q)
 ·cases q
 ·have e : (pre ++ natE v ++ post).length - (pre ++ natE v).length = post.length := by simp; omega
  simp only [e] at q
  omega
theorem unzig_sgn {n : Int} (h : I64 n) : unzig (sgnU n) = n := by
 unfold unzig sgnU
 obtain ⟨h1, h2⟩ := h
 split <;> split <;> omega
theorem signedL_sgn {n : Int} (pre post : List UInt8) (h : I64 n) : signedL (pre ++ sgnE n ++ post) pre.length false = (n, (pre ++ sgnE n).length, false) := by
 unfold signedL sgnE
 rw [plainL_nat _ pre post (sgnU_lt h.1 h.2)]
 simp only [unzig_sgn h]
 rfl
/-- things read one behind the other -/
theorem listL_flat {α : Type} (rd : Nat → Bool → α × Nat × Bool) (enc : α → List UInt8) (l : List UInt8) : ∀ (xs : List α) (pre post : List UInt8), l = pre ++ xs.flatMap enc ++ post →
  (∀ x ∈ xs, ∀ pre post, l = pre ++ enc x ++ post → rd pre.length false = (x, (pre ++ enc x).length, false)) → listL rd xs.length pre.length false = (xs, (pre ++ xs.flatMap enc).length, false) := by
 intro xs
 induction xs with
 | nil => intro pre post _ _; simp [listL_zero]
 | cons x xs ih =>
  intro pre post hl h
  have h1 := h x (List.mem_cons_self) pre (xs.flatMap enc ++ post) (by rw [hl]; simp)
  have h2 := ih (pre ++ enc x) post (by rw [hl]; simp) (fun y hy => h y (List.mem_cons_of_mem _ hy))
  rw [List.length_cons, listL_succ, h1]
  simp only [h2]
  refine Prod.ext rfl (Prod.ext ?_ rfl)
  simp
theorem natE_pos2 (n : Nat) : 1 ≤ (natE n).length := natE_pos n
theorem flat_ge {α : Type} {f : α → List UInt8} {c : Nat} : ∀ {l : List α}, (∀ x ∈ l, c ≤ (f x).length) → l.length * c ≤ (l.flatMap f).length := by
 intro l
 induction l with
 | nil => intro _; simp
 | cons x l ih =>
  intro h
  have h1 := h x (List.mem_cons_self)
  have h2 := ih (fun y hy => h y (List.mem_cons_of_mem _ hy))
  simp only [List.flatMap_cons, List.length_append, List.length_cons]
  rw [Nat.add_mul]
  omega
theorem le_div {n d m : Nat} (hd : 0 < d) (h : n * d ≤ m) : n ≤ m / d := (Nat.le_div_iff_mul_le hd).2 h
/-- what an instruction's fields may be, to be read back -/
structure InW (x : In) : Prop where
 i : InI x
 o1 : 0 ≤ x.op
 o2 : x.op ≤ 4611686018427387904
 p : ∀ n ∈ x.lv, 0 ≤ n ∧ n ≤ 4611686018427387904
 l : x.l.length < 18446744073709551616
 v : x.lv.length < 18446744073709551616
theorem insnL_insE (x : In) (h : InW x) (pre post : List UInt8) : insnL (pre ++ insE x ++ post) pre.length false = (x, (pre ++ insE x).length, false) := by
 obtain ⟨op, a, b, c, L, V⟩ := x
 have h0 := h.o1
 have h00 := h.o2
 dsimp only at h0 h00
 obtain ⟨L1, hL1⟩ : ∃ t, pre ++ insE ⟨op, a, b, c, L, V⟩ ++ post = t := ⟨_, rfl⟩
 rw [hL1]
 have e := hL1.symm
 unfold insE at e ⊢
 dsimp only at e ⊢
 have n0 : ((op.toNat : Nat) : Int) = op := Int.toNat_of_nonneg h0
 have s0 : smallI L1 pre.length false = (op, (pre ++ natE op.toNat).length, false) := by
  rw [show L1 = pre ++ natE op.toNat ++ (sgnE a ++ sgnE b ++ sgnE c ++ sgnsE L ++ natsE V ++ post) by rw [e]; simp, smallI_nat _ _ _ (by omega), n0]
 have s1 : signedL L1 (pre ++ natE op.toNat).length false = (a, (pre ++ natE op.toNat ++ sgnE a).length, false) := by
  rw [show L1 = (pre ++ natE op.toNat) ++ sgnE a ++ (sgnE b ++ sgnE c ++ sgnsE L ++ natsE V ++ post) by rw [e]; simp, signedL_sgn _ _ h.i.a]
 have s2 : signedL L1 (pre ++ natE op.toNat ++ sgnE a).length false = (b, (pre ++ natE op.toNat ++ sgnE a ++ sgnE b).length, false) := by
  rw [show L1 = (pre ++ natE op.toNat ++ sgnE a) ++ sgnE b ++ (sgnE c ++ sgnsE L ++ natsE V ++ post) by rw [e]; simp, signedL_sgn _ _ h.i.b]
 have s3 : signedL L1 (pre ++ natE op.toNat ++ sgnE a ++ sgnE b).length false = (c, (pre ++ natE op.toNat ++ sgnE a ++ sgnE b ++ sgnE c).length, false) := by
  rw [show L1 = (pre ++ natE op.toNat ++ sgnE a ++ sgnE b) ++ sgnE c ++ (sgnsE L ++ natsE V ++ post) by rw [e]; simp, signedL_sgn _ _ h.i.c]
 obtain ⟨p3, hp3⟩ : ∃ t, pre ++ natE op.toNat ++ sgnE a ++ sgnE b ++ sgnE c = t := ⟨_, rfl⟩
 rw [hp3] at s3
 have e2 : L1 = p3 ++ sgnsE L ++ natsE V ++ post := by rw [e, ← hp3]; simp
 have c1 : countL L1 1 p3.length false = (L.length, (p3 ++ natE L.length).length, false) := by
  rw [show L1 = p3 ++ natE L.length ++ (L.flatMap sgnE ++ natsE V ++ post) by rw [e2]; unfold sgnsE; simp]
  refine countL_nat _ _ _ _ h.l (le_div (by decide) ?_)
  have := flat_ge (c := 1) (l := L) (f := sgnE) (fun x _ => natE_pos2 _)
  simp only [List.length_append]
  omega
 have f1 : listL (signedL L1) L.length (p3 ++ natE L.length).length false = (L, (p3 ++ natE L.length ++ L.flatMap sgnE).length, false) := by
  refine listL_flat _ sgnE L1 L (p3 ++ natE L.length) (natsE V ++ post) (by rw [e2]; unfold sgnsE; simp) (fun n hn q1 q2 hq => ?_)
  rw [hq, signedL_sgn _ _ (h.i.l n hn)]
 obtain ⟨p4, hp4⟩ : ∃ t, p3 ++ natE L.length ++ L.flatMap sgnE = t := ⟨_, rfl⟩
 rw [hp4] at f1
 have e3 : L1 = p4 ++ natsE V ++ post := by rw [e2, ← hp4]; unfold sgnsE; simp
 have c2 : countL L1 1 p4.length false = (V.length, (p4 ++ natE V.length).length, false) := by
  rw [show L1 = p4 ++ natE V.length ++ (V.flatMap (fun n => natE n.toNat) ++ post) by rw [e3]; unfold natsE; simp]
  refine countL_nat _ _ _ _ h.v (le_div (by decide) ?_)
  have := flat_ge (c := 1) (l := V) (f := fun n => natE n.toNat) (fun x _ => natE_pos2 _)
  simp only [List.length_append]
  omega
 have f2 : listL (smallI L1) V.length (p4 ++ natE V.length).length false = (V, (p4 ++ natE V.length ++ V.flatMap (fun n => natE n.toNat)).length, false) := by
  refine listL_flat _ (fun n => natE n.toNat) L1 V (p4 ++ natE V.length) post (by rw [e3]; unfold natsE; simp) (fun n hn q1 q2 hq => ?_)
  have hh := h.p n hn
  rw [hq, smallI_nat _ _ _ (by omega), Int.toNat_of_nonneg hh.1]
 unfold insnL
 simp only [s0, s1, s2, s3, c1, f1, c2, f2]
 refine Prod.ext rfl (Prod.ext ?_ rfl)
 rw [← hp4, ← hp3]
 unfold sgnsE natsE
 simp
theorem wordL_word (u : Int) (hu : 0 ≤ u ∧ u < 18446744073709551616) (pre post : List UInt8) : wordL (pre ++ wordE u ++ post) pre.length 8 = u.toNat := by
 obtain ⟨v, rfl⟩ := Int.eq_ofNat_of_zero_le hu.1
 have hv : v < 18446744073709551616 := by omega
 rw [Int.toNat_natCast]
 have hg : ∀ k, k < 8 → ((pre ++ wordE (v : Int) ++ post).getD (pre.length + k) 0).toNat = v / 2 ^ (8 * k) % 256 := by
  intro k hk
  simp only [List.getD_eq_getElem?_getD]
  rw [List.append_assoc, List.getElem?_append_right (by omega), Nat.add_sub_cancel_left, List.getElem?_append_left (by rw [wordE_len]; exact hk)]
  unfold wordE
  rw [List.getElem?_map, List.getElem?_range hk]
  simp
 have hs : ∀ k, k ≤ 8 → wordL (pre ++ wordE (v : Int) ++ post) pre.length k = v % 2 ^ (8 * k) := by
  intro k
  induction k with
  | zero => intro _; show 0 = v % 1; omega
  | succ k ih =>
   intro hk
   show wordL _ _ k + _ * 2 ^ (8 * k) = _
   rw [ih (by omega), hg k (by omega), show 8 * (k + 1) = 8 * k + 8 by omega, Nat.pow_add, Nat.mod_mul, Nat.mul_comm (v / 2 ^ (8 * k) % 256)]
 rw [hs 8 (Nat.le_refl _)]
 exact Nat.mod_eq_of_lt (by simpa using hv)
theorem realL_word (u : Int) (hu : 0 ≤ u ∧ u < 18446744073709551616) (pre post : List UInt8) : realL (pre ++ wordE u ++ post) pre.length false = (u, (pre ++ wordE u).length, false) := by
 unfold realL
 rw [wordL_word u hu, Int.toNat_of_nonneg hu.1]
 refine Prod.ext rfl (Prod.ext ?_ rfl)
 simp [wordE_len]
theorem strL_str (s : List UInt8) (hs : s.length < 18446744073709551616) (pre post : List UInt8) : strL (pre ++ strE s ++ post) pre.length false = (s, (pre ++ strE s).length, false) := by
 unfold strL strE
 have c : countL (pre ++ (natE s.length ++ s) ++ post) 1 pre.length false = (s.length, (pre ++ natE s.length).length, false) := by
  rw [show pre ++ (natE s.length ++ s) ++ post = pre ++ natE s.length ++ (s ++ post) by simp]
  exact countL_nat _ _ _ _ hs (le_div (by decide) (by simp))
 rw [c]
 refine Prod.ext ?_ (Prod.ext ?_ rfl)
 ·show ((pre ++ (natE s.length ++ s) ++ post).drop (pre ++ natE s.length).length).take s.length = s
  rw [show pre ++ (natE s.length ++ s) ++ post = (pre ++ natE s.length) ++ (s ++ post) by simp, List.drop_left, List.take_left]
 ·show (pre ++ natE s.length).length + s.length = _
  simp; omega
structure FuW (f : Fu) : Prop where
 p : 0 ≤ f.ps ∧ f.ps ≤ 4611686018427387904
 r : 0 ≤ f.rs ∧ f.rs ≤ 4611686018427387904
 c : f.code.length < 18446744073709551616
 x : ∀ x ∈ f.code, InW x
theorem insE_ge (x : In) : 6 ≤ (insE x).length := by
 unfold insE sgnsE natsE sgnE
 have h1 := natE_pos2 x.op.toNat
 have h2 := natE_pos2 (sgnU x.a)
 have h3 := natE_pos2 (sgnU x.b)
 have h4 := natE_pos2 (sgnU x.c)
 have h5 := natE_pos2 x.l.length
 have h6 := natE_pos2 x.lv.length
 simp only [List.length_append]
 omega
theorem funE_ge (f : Fu) : 3 ≤ (funE f).length := by
 unfold funE
 have h1 := natE_pos2 f.ps.toNat
 have h2 := natE_pos2 f.rs.toNat
 have h3 := natE_pos2 f.code.length
 simp only [List.length_append]
 omega
theorem fnL_fun (f : Fu) (h : FuW f) (pre post : List UInt8) : fnL (pre ++ funE f ++ post) pre.length false = (f, (pre ++ funE f).length, false) := by
 obtain ⟨ps, rs, code⟩ := f
 have hp := h.p
 have hr := h.r
 dsimp only at hp hr
 obtain ⟨L1, hL1⟩ : ∃ t, pre ++ funE ⟨ps, rs, code⟩ ++ post = t := ⟨_, rfl⟩
 rw [hL1]
 have e := hL1.symm
 unfold funE at e ⊢
 dsimp only at e ⊢
 have s0 : smallI L1 pre.length false = (ps, (pre ++ natE ps.toNat).length, false) := by
  rw [show L1 = pre ++ natE ps.toNat ++ (natE rs.toNat ++ natE code.length ++ code.flatMap insE ++ post) by rw [e]; simp, smallI_nat _ _ _ (by omega), Int.toNat_of_nonneg hp.1]
 have s1 : smallI L1 (pre ++ natE ps.toNat).length false = (rs, (pre ++ natE ps.toNat ++ natE rs.toNat).length, false) := by
  rw [show L1 = (pre ++ natE ps.toNat) ++ natE rs.toNat ++ (natE code.length ++ code.flatMap insE ++ post) by rw [e]; simp, smallI_nat _ _ _ (by omega), Int.toNat_of_nonneg hr.1]
 obtain ⟨p3, hp3⟩ : ∃ t, pre ++ natE ps.toNat ++ natE rs.toNat = t := ⟨_, rfl⟩
 rw [hp3] at s1
 have e2 : L1 = p3 ++ natE code.length ++ code.flatMap insE ++ post := by rw [e, ← hp3]; simp
 have c1 : countL L1 6 p3.length false = (code.length, (p3 ++ natE code.length).length, false) := by
  rw [show L1 = p3 ++ natE code.length ++ (code.flatMap insE ++ post) by rw [e2]; simp]
  refine countL_nat _ _ _ _ h.c (le_div (by decide) ?_)
  have := flat_ge (c := 6) (l := code) (f := insE) (fun x _ => insE_ge x)
  simp only [List.length_append]
  omega
 have f1 : listL (insnL L1) code.length (p3 ++ natE code.length).length false = (code, (p3 ++ natE code.length ++ code.flatMap insE).length, false) := by
  refine listL_flat _ insE L1 code _ post e2 (fun n hn q1 q2 hq => ?_)
  rw [hq, insnL_insE _ (h.x n hn)]
 unfold fnL
 simp only [s0, s1, c1, f1]
 refine Prod.ext rfl (Prod.ext ?_ rfl)
 rw [← hp3]
 simp
structure PgW (P : Pg) : Prop where
 e : 0 ≤ P.en ∧ P.en ≤ 4611686018427387904
 s : P.ss.length < 18446744073709551616
 sl : ∀ s ∈ P.ss, s.length < 18446744073709551616
 u : P.us.length < 18446744073709551616
 ul : ∀ u ∈ P.us, 0 ≤ u ∧ u < 18446744073709551616
 f : P.fs.length < 18446744073709551616
 fl : ∀ f ∈ P.fs, FuW f
theorem decP_prog (P : Pg) (h : PgW P) : decP (progE P) = (P, (progE P).length, false) := by
 obtain ⟨fs, ss, us, en⟩ := P
 have he := h.e
 dsimp only at he
 obtain ⟨L1, hL1⟩ : ∃ t, progE ⟨fs, ss, us, en⟩ = t := ⟨_, rfl⟩
 rw [hL1]
 have e := hL1.symm
 unfold progE headE at e
 dsimp only at e
 have s0 : smallI L1 0 false = (en, (natE en.toNat).length, false) := by
  have := smallI_nat en.toNat [] (natE ss.length ++ ss.flatMap strE ++ natE us.length ++ us.flatMap wordE ++ natE fs.length ++ fs.flatMap funE) (by omega)
  rw [Int.toNat_of_nonneg he.1] at this
  rw [show L1 = [] ++ natE en.toNat ++ (natE ss.length ++ ss.flatMap strE ++ natE us.length ++ us.flatMap wordE ++ natE fs.length ++ fs.flatMap funE) by rw [e]; simp]
  exact this
 have c1 : countL L1 1 (natE en.toNat).length false = (ss.length, (natE en.toNat ++ natE ss.length).length, false) := by
  rw [show L1 = natE en.toNat ++ natE ss.length ++ (ss.flatMap strE ++ natE us.length ++ us.flatMap wordE ++ natE fs.length ++ fs.flatMap funE) by rw [e]; simp]
  refine countL_nat _ _ _ _ h.s (le_div (by decide) ?_)
  have := flat_ge (c := 1) (l := ss) (f := strE) (fun x _ => by unfold strE; have := natE_pos2 x.length; simp only [List.length_append]; omega)
  simp only [List.length_append]
  omega
 obtain ⟨p1, hp1⟩ : ∃ t, natE en.toNat ++ natE ss.length = t := ⟨_, rfl⟩
 rw [hp1] at c1
 have e1 : L1 = p1 ++ ss.flatMap strE ++ (natE us.length ++ us.flatMap wordE ++ natE fs.length ++ fs.flatMap funE) := by rw [e, ← hp1]; simp
 have f1 : listL (strL L1) ss.length p1.length false = (ss, (p1 ++ ss.flatMap strE).length, false) := by
  refine listL_flat _ strE L1 ss _ _ e1 (fun n hn q1 q2 hq => ?_)
  rw [hq, strL_str _ (h.sl n hn)]
 obtain ⟨p2, hp2⟩ : ∃ t, p1 ++ ss.flatMap strE = t := ⟨_, rfl⟩
 rw [hp2] at f1 e1
 have c2 : countL L1 8 p2.length false = (us.length, (p2 ++ natE us.length).length, false) := by
  rw [show L1 = p2 ++ natE us.length ++ (us.flatMap wordE ++ natE fs.length ++ fs.flatMap funE) by rw [e1]; simp]
  refine countL_nat _ _ _ _ h.u (le_div (by decide) ?_)
  have := flat_ge (c := 8) (l := us) (f := wordE) (fun x _ => by rw [wordE_len]; exact Nat.le_refl _)
  simp only [List.length_append]
  omega
 obtain ⟨p3, hp3⟩ : ∃ t, p2 ++ natE us.length = t := ⟨_, rfl⟩
 rw [hp3] at c2
 have e2 : L1 = p3 ++ us.flatMap wordE ++ (natE fs.length ++ fs.flatMap funE) := by rw [e1, ← hp3]; simp
 have f2 : listL (realL L1) us.length p3.length false = (us, (p3 ++ us.flatMap wordE).length, false) := by
  refine listL_flat _ wordE L1 us _ _ e2 (fun n hn q1 q2 hq => ?_)
  rw [hq, realL_word _ (h.ul n hn)]
 obtain ⟨p4, hp4⟩ : ∃ t, p3 ++ us.flatMap wordE = t := ⟨_, rfl⟩
 rw [hp4] at f2 e2
 have c3 : countL L1 3 p4.length false = (fs.length, (p4 ++ natE fs.length).length, false) := by
  rw [show L1 = p4 ++ natE fs.length ++ (fs.flatMap funE) by rw [e2]; simp]
  refine countL_nat _ _ _ _ h.f (le_div (by decide) ?_)
  exact flat_ge (c := 3) (l := fs) (f := funE) (fun x _ => funE_ge x)
 obtain ⟨p5, hp5⟩ : ∃ t, p4 ++ natE fs.length = t := ⟨_, rfl⟩
 rw [hp5] at c3
 have e3 : L1 = p5 ++ fs.flatMap funE ++ [] := by rw [e2, ← hp5]; simp
 have f3 : listL (fnL L1) fs.length p5.length false = (fs, (p5 ++ fs.flatMap funE).length, false) := by
  refine listL_flat _ funE L1 fs _ _ e3 (fun n hn q1 q2 hq => ?_)
  rw [hq, fnL_fun _ (h.fl n hn)]
 unfold decP
 simp only [s0, c1, f1, c2, f2, c3, f3]
 refine Prod.ext rfl (Prod.ext ?_ rfl)
 rw [e3]
 simp
theorem good_w {P : Pg} (h : (checkL P).2.2 = 0) (hu : ∀ u ∈ P.us, 0 ≤ u ∧ u < 18446744073709551616) : PgW P := by
 obtain ⟨h1, h2⟩ := check_good h
 obtain ⟨l1, l2, l3, l4, l5, l6⟩ := headB_len h2
 refine ⟨by omega, by omega, fun s hs => by have := l4 s hs; omega, by omega, hu, by omega, fun f hf => ?_⟩
 have g := h1 f hf
 have g1 := g.ps
 have g2 := g.le
 have g3 := g.rs
 have g4 := g.cn
 refine ⟨by omega, by omega, by omega, fun x hx => ?_⟩
 obtain ⟨k, hk⟩ := List.getElem?_of_mem hx
 have gx := g.x k x hk
 have gi := form_in gx g3 g4 l2 l3 (by simpa [fpL] using l1)
 have o1 := gi.o1
 have o2 := gi.o2
 have o3 := gi.l
 have o4 := gi.v
 unfold formI at gx
 rw [Bool.and_eq_true] at gx
 obtain ⟨v1, v2⟩ := live_in gx.1
 exact ⟨gi.i, by omega, by omega, fun n hn => by have := v1 n hn; omega, by omega, by omega⟩
/-- a program's bytes are that program -/
theorem decode_prog {P : Pg} (h : (checkL P).2.2 = 0) (hu : ∀ u ∈ P.us, 0 ≤ u ∧ u < 18446744073709551616) (hl : (progE P).length ≤ 16777216) : decodeL (progE P) = (P, 0) := by
 unfold decodeL
 rw [decP_prog P (good_w h hu), if_neg (by omega), if_neg (by simp [h])]
end Go.Proofs.YtokjkligechcoaaGreatDoor
/- The plain law of images: an image's bytes are read as that image; no beginning is one, nor with more behind. -/
namespace Go.Proofs.YtokjkligechcoaaGreatDoor
open Go.RowKit
end Go.Proofs.YtokjkligechcoaaGreatDoor
