/- Layer 16's small program: its roots, its text, its bytes. -/
import Derived.Test.YtokjkligechcoaaGreatDoorKn
import Derived.Test.YtokjkligechcoaaGreatDoorKs
set_option linter.unusedVariables false
namespace Go.Proofs.YtokjkligechcoaaGreatDoor
open _root_.Go.Lib (hid)
open Go.RowKit
attribute [local go_sem] ext_mk size_mk toList_mk get_mk take_drop_len take_tail_len ByteArray.mk_append_mk List.append_toArray
def smC : List In := [⟨1, 0, -5, 0, [], []⟩, ⟨2, 1, 0, 0, [], []⟩, ⟨13, 0, 1, 0, [], []⟩]
def smD : List In := [⟨1, 0, -5, 0, [], []⟩, ⟨2, 1, 0, 0, [], [0]⟩, ⟨13, 0, 1, 0, [], []⟩]
/-- the small program -/
def sm : Pg := ⟨[⟨0, 2, smC⟩], [[97]], [], 0⟩
/-- with its roots -/
def smR : Pg := ⟨[⟨0, 2, smD⟩], [[97]], [], 0⟩
def smT : List UInt8 := [101, 110, 116, 114, 121, 32, 48, 10, 115, 116, 114, 105, 110, 103, 32, 34, 97, 34, 10, 102, 117, 110, 99, 32, 48, 32, 50, 10, 32, 102, 105, 120, 32, 48, 32, 126, 53, 10, 32, 115, 116, 114, 32, 49, 32, 48, 32, 108, 105, 118, 101, 32, 48, 10, 32, 104, 97, 108, 116, 32, 48, 32, 49, 10]
theorem sm_bare : cpP true sm = sm := rfl
theorem sm_forms : formsL sm = (0, 0, 0) := by decide +kernel
theorem sm_okQ : OkQ 2 smC := by
 obtain ⟨-, h, -⟩ := formsL_good (p := sm) (by rw [sm_forms])
 exact good_okQ (h _ List.mem_cons_self)
theorem sm_fin : finC smC = [0, 1, 1] := by
 unfold finC
 have h := fin_eq (m := 2) (ahd_ok sm_okQ) (zero_inv sm_okQ) (by decide +kernel)
 rw [← h]
 decide +kernel
theorem sm_roots : rootsC 2 smC = smD := by
 unfold rootsC rootI
 rw [sm_fin]
 kernel_rfl
theorem sm_rootP : rootP (cpP true sm) = smR := by
 rw [sm_bare]
 unfold rootP rootF sm
 simp only [List.map_cons, List.map_nil]
 rw [show (2 : Int).toNat = 2 from rfl, sm_roots]
 rfl
theorem sm_unset : unsetS smD 0 = -1 := by
 have h := finS_eq (code := smD) (ps := 0) (n := 3) (by decide +kernel)
 unfold unsetS
 rw [← h]
 decide +kernel
theorem sm_check : checkL smR = (0, 0, 0) := by
 unfold checkL
 rw [if_neg (by decide +kernel)]
 unfold smR
 dsimp only
 unfold checkF
 rw [if_neg (by decide +kernel), if_neg (by rw [show (0 : Int).toNat = 0 from rfl, sm_unset]; decide)]
 rfl
theorem sm_enc : encR smR = (progE smR, 0) := by
 unfold encR
 rw [sm_check, if_neg (by decide), if_pos (by decide +kernel)]
theorem sm_len : (progE smR).length = 28 := by decide +kernel
theorem nS0 : numS 0 = [48] := by unfold numS; rw [if_neg (by decide)]; exact Lib.decDigits_one (by decide)
theorem nS1 : numS 1 = [49] := by unfold numS; rw [if_neg (by decide)]; exact Lib.decDigits_one (by decide)
theorem nS2 : numS 2 = [50] := by unfold numS; rw [if_neg (by decide)]; exact Lib.decDigits_one (by decide)
theorem nS5 : numS (-5) = [126, 53] := by unfold numS; rw [if_pos (by decide)]; exact congrArg _ (Lib.decDigits_one (by decide))
theorem sm_text : printS smR = smT := by
 unfold printS smR smD enT strT fnT fnH insT lineS lineP
 simp only [List.map_cons, List.map_nil, List.flatten_cons, List.flatten_nil]
 simp only [nS0, nS1, nS2, nS5]
 decide +kernel
theorem sm_pr3 : Pr3 smR := by
 refine ⟨sm_check, ?_, rfl, ⟨by decide, by decide⟩, ?_, by rw [sm_text]; decide⟩
 ·intro s hs
  simpa [smR] using hs
 ·intro f hf
  have e : f = ⟨0, 2, smD⟩ := by simpa [smR] using hf
  subst e
  refine ⟨⟨by decide, by decide⟩, ⟨by decide, by decide⟩, fun x hx => ?_⟩
  have hx : x ∈ smD := hx
  simp only [smD, List.mem_cons, List.not_mem_nil, or_false] at hx
  rcases hx with rfl | rfl | rfl
  ·exact ⟨.inl rfl, ⟨by decide, by decide⟩, ⟨by decide, by decide⟩, (fun n hn => absurd hn List.not_mem_nil), by decide⟩
  ·exact ⟨.inr (.inl rfl), ⟨by decide, by decide⟩, ⟨by decide, by decide⟩, fun n hn => by
    obtain rfl : n = 0 := by simpa using hn
    exact ⟨by decide, by decide⟩, by decide⟩
  ·exact ⟨.inr (.inr rfl), ⟨by decide, by decide⟩, ⟨by decide, by decide⟩, (fun n hn => absurd hn List.not_mem_nil), by decide⟩
theorem sm_pgR : PgR sm := by
 refine ⟨by decide, by decide, by decide, fun f hf => ?_⟩
 have e : f = ⟨0, 2, smC⟩ := by simpa [sm] using hf
 subst e
 refine ⟨by decide, fun x hx => ?_⟩
 have hx : x ∈ smC := hx
 simp only [smC, List.mem_cons, List.not_mem_nil, or_false] at hx
 rcases hx with rfl | rfl | rfl <;> exact ⟨by decide, by decide⟩
theorem roots_sm (fa sa : Option Addr) (W : World) (h : PgAt W fa sa none sm) : Calls Tryz.prog 16 #[.agg #[.slice fa 1 1, .slice sa 1 1, .slice none 0 0, .int .i64 0]] W fun e w' => ∃ ga gc ta tc va vc, e = .returned (.tuple #[.agg #[.slice ga 1 gc, .slice ta 1 tc, .slice va 0 vc, .int .i64 0], .int .i64 0]) ∧ PgAt w' ga ta va smR ∧ Below W.heap.size W w' := by
 refine (crootsP_any fa sa none 1 1 0 sm W h sm_pgR).mono ?_
 rintro e w' ⟨hb, ⟨-, ga, gc, ta, tc, va, vc, rfl, hk⟩ | ⟨hne, -⟩⟩
 ·rw [sm_rootP] at hk
  exact ⟨ga, gc, ta, tc, va, vc, rfl, hk.at, hb⟩
 ·rw [sm_bare, sm_forms] at hne
  exact absurd rfl hne
theorem print_sm (fa sa ra : Option Addr) (fc sc rc : Nat) (W : World) (h : PgAt W fa sa ra smR) (hV : PrVars W) : Calls Tryz.prog 22 #[.agg #[.slice fa 1 fc, .slice sa 1 sc, .slice ra 0 rc, .int .i64 0]] W fun e w' => e = .returned (.tuple #[.string ⟨#[101, 110, 116, 114, 121, 32, 48, 10, 115, 116, 114, 105, 110, 103, 32, 34, 97, 34, 10, 102, 117, 110, 99, 32, 48, 32, 50, 10, 32, 102, 105, 120, 32, 48, 32, 126, 53, 10, 32, 115, 116, 114, 32, 49, 32, 48, 32, 108, 105, 118, 101, 32, 48, 10, 32, 104, 97, 108, 116, 32, 48, 32, 49, 10]⟩, .int .i64 0]) ∧ Below W.heap.size W w' := by
 have := print_three fa sa ra fc sc rc smR W h sm_pr3 hV
 rw [sm_text] at this
 exact this
theorem encode_sm (fa sa ra : Option Addr) (fc sc rc : Nat) (W : World) (h : PgAt W fa sa ra smR) : Calls Tryz.prog 19 #[.agg #[.slice fa 1 fc, .slice sa 1 sc, .slice ra 0 rc, .int .i64 0]] W fun e w' => ∃ g cap, e = .returned (.tuple #[.slice (some ⟨g, 0, none⟩) 28 cap, .int .i64 0]) ∧ Below W.heap.size W w' := by
 refine (encode_any fa sa ra fc sc rc smR W h).mono ?_
 rintro e w' ⟨v, rfl, hv, hb⟩
 rw [sm_enc] at hv ⊢
 obtain ⟨g, cap, rfl⟩ := hv.some (by show 0 < (progE smR).length; rw [sm_len]; decide)
 exact ⟨g, cap, by show _ = Ending.returned (.tuple #[.slice (some ⟨g, 0, none⟩) 28 cap, .int .i64 0]); rw [← sm_len], hb⟩
theorem sm_lies {W : World} {S I F : Nat} (hS : KAt W S (.cells #[.string ⟨#[97]⟩] 9 (0, 0))) (hI : KAt W I (.cells #[.int .i64 1, .int .i64 0, .int .i64 (-5), .int .i64 0, .slice none 0 0, .slice none 0 0, .int .i64 2, .int .i64 1, .int .i64 0, .int .i64 0, .slice none 0 0, .slice none 0 0, .int .i64 13, .int .i64 0, .int .i64 1, .int .i64 0, .slice none 0 0, .slice none 0 0] 58 (0, 0))) (hF : KAt W F (.cells #[.int .i64 0, .int .i64 2, .slice (some ⟨I, 0, none⟩) 3 3] 48 (0, 0))) : PgAt W (some ⟨F, 0, none⟩) (some ⟨S, 0, none⟩) none sm := by
 have hn : ∀ (W : World) (k : IntKind), IntsAt k W none [] := fun W k => ⟨by decide, .inl rfl⟩
 refine ⟨⟨by decide, .inr ⟨_, 0, rfl, fun i f hf => ?_⟩⟩, ⟨by decide, fun s hs => by
  have e : s = [97] := by simpa [sm] using hs
  subst e; decide, .inr ⟨_, 0, rfl, fun i s hs => ?_⟩⟩, hn _ _, (fun u hu => absurd hu (List.not_mem_nil))⟩
 ·match i, hf with
  | 0, hf =>
   obtain rfl := Option.some.inj hf
   refine ⟨some ⟨I, 0, none⟩, 3, ?_, ?_, ?_, by decide, .inr ⟨_, 0, rfl, fun j x hx => ?_⟩⟩
   ·rw [cell_of_row _ _ _ _ _ _ hF.x]; rfl
   ·rw [cell_of_row _ _ _ _ _ _ hF.x]; rfl
   ·rw [cell_of_row _ _ _ _ _ _ hF.x]; rfl
   ·match j, hx with
    | 0, hx | 1, hx | 2, hx =>
     obtain rfl := Option.some.inj hx
     refine ⟨none, 0, none, 0, ?_, ?_, ?_, ?_, ?_, ?_, hn _ _, hn _ _⟩
     all_goals (rw [cell_of_row _ _ _ _ _ _ hI.x]; rfl)
 ·match i, hs with
  | 0, hs =>
   obtain rfl := Option.some.inj hs
   rw [cell_of_row _ _ _ _ _ _ hS.x]; rfl
set_option maxHeartbeats 2000000 in
theorem small_any (w : World) : Calls Tryz.prog 34 #[] w fun e w' => ∃ fa sa, e = .returned (.agg #[.slice fa 1 1, .slice sa 1 1, .slice none 0 0, .int .i64 0]) ∧ PgAt w' fa sa none sm ∧ Below w.heap.size w w' := by
 obtain ⟨W1, h1⟩ : ∃ W, w.alloc rzBlk = W := ⟨_, rfl⟩
 obtain ⟨W2, h2⟩ : ∃ W, W1.alloc (.cells #[.string ⟨#[97]⟩] 9) = W := ⟨_, rfl⟩
 obtain ⟨W3, h3⟩ : ∃ W, W2.alloc (.cells #[.int .i64 1, .int .i64 0, .int .i64 (-5), .int .i64 0, .slice none 0 0, .slice none 0 0, .int .i64 2, .int .i64 1, .int .i64 0, .int .i64 0, .slice none 0 0, .slice none 0 0, .int .i64 13, .int .i64 0, .int .i64 1, .int .i64 0, .slice none 0 0, .slice none 0 0] 58) = W := ⟨_, rfl⟩
 obtain ⟨W4, h4⟩ : ∃ W, W3.alloc (.cells #[.int .i64 0, .int .i64 2, .slice (some ⟨W2.heap.size, 0, none⟩) 3 3] 48) = W := ⟨_, rfl⟩
 have kz : KAt W4 w.heap.size rzBlk := by rw [← h4, ← h3, ← h2, ← h1]; exact (((KAt.new w rzBlk).alloc _).alloc _).alloc _
 have ks : KAt W4 W1.heap.size (.cells #[.string ⟨#[97]⟩] 9 (0, 0)) := by
  have h := ((KAt.new W1 (.cells #[.string ⟨#[97]⟩] 9 (0, 0))).alloc (.cells #[.int .i64 1, .int .i64 0, .int .i64 (-5), .int .i64 0, .slice none 0 0, .slice none 0 0, .int .i64 2, .int .i64 1, .int .i64 0, .int .i64 0, .slice none 0 0, .slice none 0 0, .int .i64 13, .int .i64 0, .int .i64 1, .int .i64 0, .slice none 0 0, .slice none 0 0] 58)).alloc (.cells #[.int .i64 0, .int .i64 2, .slice (some ⟨W2.heap.size, 0, none⟩) 3 3] 48)
  rw [h2, h3, h4] at h; exact h
 have ki : KAt W4 W2.heap.size (.cells #[.int .i64 1, .int .i64 0, .int .i64 (-5), .int .i64 0, .slice none 0 0, .slice none 0 0, .int .i64 2, .int .i64 1, .int .i64 0, .int .i64 0, .slice none 0 0, .slice none 0 0, .int .i64 13, .int .i64 0, .int .i64 1, .int .i64 0, .slice none 0 0, .slice none 0 0] 58 (0, 0)) := by
  have h := (KAt.new W2 (.cells #[.int .i64 1, .int .i64 0, .int .i64 (-5), .int .i64 0, .slice none 0 0, .slice none 0 0, .int .i64 2, .int .i64 1, .int .i64 0, .int .i64 0, .slice none 0 0, .slice none 0 0, .int .i64 13, .int .i64 0, .int .i64 1, .int .i64 0, .slice none 0 0, .slice none 0 0] 58 (0, 0))).alloc (.cells #[.int .i64 0, .int .i64 2, .slice (some ⟨W2.heap.size, 0, none⟩) 3 3] 48)
  rw [h3, h4] at h; exact h
 have kf : KAt W4 W3.heap.size (.cells #[.int .i64 0, .int .i64 2, .slice (some ⟨W2.heap.size, 0, none⟩) 3 3] 48 (0, 0)) := by
  have h := KAt.new W3 (.cells #[.int .i64 0, .int .i64 2, .slice (some ⟨W2.heap.size, 0, none⟩) 3 3] 48 (0, 0))
  rw [h4] at h; exact h
 have b4 : Below w.heap.size w W4 := by
  rw [← h4, ← h3, ← h2, ← h1]
  exact ((((Below.refl _ _).alloc (Nat.le_refl _) _).alloc (by simp) _).alloc (by simp; omega) _).alloc (by simp; omega) _
 have KZ := hid kz
 have KS := hid ks
 have KI := hid ki
 have KF := hid kf
 have B4 := hid b4
 obtain ⟨r0, r1, r2, r3, y0, y1, y2, y3⟩ := kz.zcells
 have HS := hid (show W1.heap.size ≠ w.heap.size by rw [← h1]; simp)
 have HI := hid (show W2.heap.size ≠ w.heap.size by rw [← h2, ← h1]; simp <;> omega)
 have HF := hid (show W3.heap.size ≠ w.heap.size by rw [← h3, ← h2, ← h1]; simp <;> omega)
 clear kz ks ki kf b4
 unfold rzBlk at h1
 go_enter Tryz.func34, Tryz.ntmps34
 go_wp2_with fail
 have hi' : (Tryz.prog.info? 26).map (·.size) = some 4 := by kernel_rfl
 (try simp only [Exit.inBlock, Exit.then]); refine bodyPost_ret (results_cell_row rfl _ _ w.heap.size 26 _ (0, 0) _ rfl (p_set KZ.out _ _ _ _) Tryz.underlying26 rfl hi') rfl ?_
 refine ⟨_, _, rfl, sm_lies ((((KS.out.put _ HS.out _).put _ HS.out _).put _ HS.out _).put _ HS.out _) ((((KI.out.put _ HI.out _).put _ HI.out _).put _ HI.out _).put _ HI.out _) ((((KF.out.put _ HF.out _).put _ HF.out _).put _ HF.out _).put _ HF.out _), ?_⟩
 exact (((B4.out.setCell (p := ⟨w.heap.size, 0, none⟩) (Nat.le_refl _) _).setCell (p := ⟨w.heap.size, 1, none⟩) (Nat.le_refl _) _).setCell (p := ⟨w.heap.size, 2, none⟩) (Nat.le_refl _) _).setCell (p := ⟨w.heap.size, 3, none⟩) (Nat.le_refl _) _
set_option maxHeartbeats 4000000 in
set_option maxRecDepth 8000 in
theorem awake_16 (w : World) (hV : PrVars w) : Calls Tryz.prog 13 #[] w fun x w' => x = .returned (.bool true) ∧ Below w.heap.size w w' := by
 have PV := hid hV
 have CS := hid small_any
 have CR := hid roots_sm
 have CP := hid print_sm
 have CE := hid encode_sm
 clear hV
 go_enter Tryz.func13, Tryz.ntmps13
 go_wp2_with (first
  | (go_at_call 34; refine (CS.out _).mono ?_; rintro e w1 ⟨fa, sa, rfl, hp, hb1⟩; have P1 := hid hp; have B1 := hid hb1; clear hp hb1)
  | (go_at_call 16; refine (CR.out fa sa _ P1.out).mono ?_; rintro e w2 ⟨ga, gc, ta, tc, va, vc, rfl, hp, hb2⟩; have P2 := hid (hp.below ((Below.refl _ _).alloc (Nat.le_refl _) (.cells #[.slice ga 1 gc, .slice ta 1 tc, .slice va 0 vc, .int .i64 0] 26))); have B2 := hid ((B1.out.trans (hb2.mono B1.out.size)).alloc (Nat.le_trans B1.out.size hb2.size) (.cells #[.slice ga 1 gc, .slice ta 1 tc, .slice va 0 vc, .int .i64 0] 26)); have K2 := hid (KAt.new w2 (.cells #[.slice ga 1 gc, .slice ta 1 tc, .slice va 0 vc, .int .i64 0] 26 (0, 0))); clear hp hb2)
  | (go_at_call 22; refine (CP.out ga ta va gc tc vc _ P2.out (PV.out.below B2.out)).mono ?_; rintro e w3 ⟨rfl, hb3⟩; have P3 := hid (P2.out.below hb3); have B3 := hid (B2.out.trans (hb3.mono B2.out.size)); obtain ⟨p0, p1, p2, p3⟩ := pbox_cells (K2.out.below hb3); clear hb3)
  | (go_at_call 19; refine (CE.out ga ta va gc tc vc _ P3.out).mono ?_; rintro e w4 ⟨g, cap, rfl, hb4⟩; have B4 := hid (B3.out.trans (hb4.mono B3.out.size)); clear hb4))
 go_ret
 exact ⟨rfl, B4.out⟩
end Go.Proofs.YtokjkligechcoaaGreatDoor
