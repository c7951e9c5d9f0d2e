/- Law: TreeopsSmallest. (Printed by gen_small.py.) -/
import Derived.Test.YthkfjnmnoanhlaaGreatDoorTwL
import Derived.Test.YthkfjnmnoanhlaaGreatDoorLbl
import Derived.Test.YthkfjnmnoanhlaaGreatDoorSmQ
import Derived.Test.YthkfjnmnoanhlaaGreatDoorAcc
import Derived.Test.YthkfjnmnoanhlaaGreatDoorSay
import Derived.Deep.DeepCutAuto
set_option linter.unusedSimpArgs false
set_option linter.unusedVariables false
namespace Go.Proofs.YthkfjnmnoanhlaaGreatDoor
open Go.RowKit

theorem accS_self {D : Dta} {V : Nat} {tl : List Lf} (hc : checkT tl (V : Int) = 0) : accR D V tl = (D.fin (D.run (btOf tl)), 0) := by unfold accR; rw [if_pos hc]
theorem accS_bad {D : Dta} {V : Nat} {tl : List Lf} (hc : ¬ checkT tl (V : Int) = 0) : accR D V tl = (false, checkT tl (V : Int)) := by unfold accR; rw [if_neg hc]
set_option maxRecDepth 100000 in
set_option maxHeartbeats 16000000 in
theorem smallest_law (hsub : CSub 4 1) (haw : CAwk) (rp : Raw) (vp vt : Value) (tr : List Lf) (w : World) (hvp : TD w vp rp) (hvt : TS w vt tr) :
    Calls Tryz.prog 10 #[vp, vt] w fun e w' => e = .returned (.bool true) ∧ Below w.heap.size w w' := by
  have SP := Lib.hid (fun W (h : Below w.heap.size w W) => hsub rp vp W (hvp.below h (Nat.le_refl _)))
  have ST := Lib.hid (fun W (h : Below w.heap.size w W) => labelled_any 1 (by omega) tr vt W (hvt.below h (Nat.le_refl _)))
  have AWK := Lib.hid haw
  clear hsub haw
  obtain ⟨At, ct, rfl⟩ := hvt.form
  obtain ⟨nt, q1⟩ : ∃ n, n = tr.length := ⟨_, rfl⟩
  rw [← q1] at ST ⊢
  clear hvt q1
  obtain ⟨tl, htl⟩ : ∃ l, l = modL 1 (tr.take 15) := ⟨_, rfl⟩
  rw [← htl] at ST
  have h15 : tl.length ≤ 15 := by rw [htl]; unfold modL; rw [List.length_map, List.length_take]; omega
  have H15 := Lib.hid h15
  clear htl h15
  obtain ⟨Ap, cp, Bp, dp, rfl⟩ := hvp.form
  obtain ⟨np, q1⟩ : ∃ n, n = rp.next.length := ⟨_, rfl⟩
  obtain ⟨mp, q2⟩ : ∃ n, n = rp.fin.length := ⟨_, rfl⟩
  obtain ⟨ip, q3⟩ : ∃ n, n = rp.vars := ⟨_, rfl⟩
  obtain ⟨jp, q4⟩ : ∃ n, n = rp.empty := ⟨_, rfl⟩
  rw [← q1, ← q2, ← q3, ← q4] at SP ⊢
  clear hvp q1 q2 q3 q4
  go_enter Tryz.func10, Tryz.ntmps10
  go_upto_region 1 with fail
  refine wp_abs (fun X => Below w.heap.size w X ∧ ∃ gp, gp = w.heap.size ∧ gp < X.heap.size ∧ Row X gp 25 #[.int .i64 ip, .int .i64 jp, .slice Ap np cp, .slice Bp mp dp]) ⟨by go_grown, _, rfl, by simp, by (repeat (first | (refine Row.lit ?_; simp only [World.size_alloc] <;> omega) | apply Row.alloc))⟩ ?_
  rintro W0 ⟨hw, gp, hgp, hlt, r1⟩
  rw [← hgp]
  have HB := Lib.hid hw; have RP := Lib.hid r1
  clear hw r1 hgp hlt
  have y0 := RP.out.cell
  go_upto_region 2 with (first
    | (go_at_call 29; refine (SP.out _ HB.out).mono ?_; intro e wx hx; obtain ⟨D, hD, hDn, ia, ja, na, ca, ma, da, Aa, Ba, rfl, hb, ht⟩ := RetSub.open hx; have HX := Lib.hid (show Below W0.heap.size W0 wx from hb); have HT := Lib.hid ht; clear hx hb ht)
    | (go_at_call 42; refine (ST.out _ (HB.out.trans (HX.out.mono HB.out.size))).mono ?_; rintro e wy ⟨v, rfl, hb, ht⟩; obtain ⟨A8, c8, rfl⟩ := TS.form (show TS wy v tl from ht.ts); have HY := Lib.hid (show Below wx.heap.size wx wy from hb); have HL := Lib.hid (show TS wy _ tl from ht.ts); clear hb ht))
  clear y0
  refine wp_abs (fun X => Below w.heap.size w X ∧ (∃ g, g = wy.heap.size ∧ Box X g ia ja na ca ma da Aa Ba (D.raw 1)) ∧ TS X (.slice A8 tl.length c8) tl) ⟨HB.out.trans ((HX.out.trans ((HY.out.alloc HY.out.size _).mono HX.out.size)).mono HB.out.size), ⟨_, rfl, Row.new _ _ _, HT.out.below (HY.out.alloc HY.out.size _) (Nat.le_refl _)⟩, HL.out.below (Below.alloc (Below.refl _ _) (Nat.le_refl _) _) (Nat.le_refl _)⟩ ?_
  clear HX HY HT HL
  rintro wc ⟨hb, ⟨ga, hg, ha⟩, ht9⟩
  rw [← hg]
  clear hg RP SP ST HB
  have HB := Lib.hid hb; have Ha := Lib.hid ha; have HT8 := Lib.hid ht9
  have hlb : ∀ m ∈ tl, 0 ≤ m.label := fun m hm => (ht9.lb m hm).1
  clear hb ha ht9
  have hcs := small_law hD hlb H15.out
  have SML := Lib.hid fun W u (h : TD W u (D.raw 1)) => smallest_ok D 1 hD u W h
  have EMP := Lib.hid fun W u (h : TD W u (D.raw 1)) => empty_ok D 1 hD u W h
  obtain ⟨n8, hn8⟩ : ∃ n, n = tl.length := ⟨_, rfl⟩
  simp only [← hn8] at HT8 ⊢
  clear hn8
  rcases hcs with ⟨he, hs, hf⟩ | ⟨he, hs, hf⟩ | ⟨t, he, hs, htt, hts, hft, hz, hp, hcmp⟩
  · rw [hs] at SML; rw [he] at EMP
    by_cases hc : checkT tl ((1 : Nat) : Int) = 0
    · have hf2 := hf hc
      have A1 := Lib.hid fun W u s (h : TD W u (D.raw 1)) (h2 : TS W s tl) => (show Calls Tryz.prog 43 #[u, s] W (fun e w' => e = .returned (.tuple #[.bool (false), .int .i64 (0)]) ∧ Below W.heap.size W w') from by have q := accepts_ok D 1 hD u s tl W h h2 hlb; rw [accS_self hc, hf2] at q; exact q)
      clear hc hf hs he hlb hD hDn hf2
      have ya := Ha.out.cell
      go_upto_region 3 with (go_at_call 19; (with_reducible refine (SML.out _ _ Ha.out.td).mono ?_); intro ee w9 hx; obtain ⟨A9, c9, rfl, hb⟩ := RetSm.open (z := 0) rfl hx; clear hx; replace HB := Lib.hid (HB.out.trans (hb.mono HB.out.size)); replace Ha := Lib.hid (Ha.out.to hb); replace HT8 := Lib.hid (HT8.out.below hb (Nat.le_refl _)); clear ya; have ya := Ha.out.cell; clear hb)
      go_upto_region 4 with (go_at_call 21; (with_reducible refine (EMP.out _ _ Ha.out.td).mono ?_); rintro ee w10 ⟨rfl, hb⟩; replace HB := Lib.hid (HB.out.trans (hb.mono HB.out.size)); replace Ha := Lib.hid (Ha.out.to hb); replace HT8 := Lib.hid (HT8.out.below hb (Nat.le_refl _)); clear ya; have ya := Ha.out.cell; clear hb)
      go_wp2_with (first
        | (go_at_call 43; (with_reducible refine (A1.out _ _ _ Ha.out.td HT8.out).mono ?_); rintro ee w21 ⟨rfl, hb⟩; replace HB := Lib.hid (HB.out.trans (hb.mono HB.out.size)); replace Ha := Lib.hid (Ha.out.to hb); replace HT8 := Lib.hid (HT8.out.below hb (Nat.le_refl _)); clear ya; have ya := Ha.out.cell; clear hb)
        | (go_at_call 28; (with_reducible refine (AWK.out _).mono ?_); rintro ee w40 ⟨rfl, hb⟩; replace HB := Lib.hid (HB.out.trans (hb.mono HB.out.size)); replace Ha := Lib.hid (Ha.out.to hb); clear ya; have ya := Ha.out.cell; clear hb))
      go_returns
      exact ⟨by first | rfl | simp, HB.out⟩
    · obtain ⟨z, hz⟩ : ∃ z, z = checkT tl ((1 : Nat) : Int) := ⟨_, rfl⟩
      have A1 := Lib.hid fun W u s (h : TD W u (D.raw 1)) (h2 : TS W s tl) => (show Calls Tryz.prog 43 #[u, s] W (fun e w' => e = .returned (.tuple #[.bool (false), .int .i64 (z)]) ∧ Below W.heap.size W w') from by have q := accepts_ok D 1 hD u s tl W h h2 hlb; rw [accS_bad hc, ← hz] at q; exact q)
      have hz0 : ¬ z = 0 := by rw [hz]; exact hc
      clear hz
      clear hc hf hs he hlb hD hDn
      have ya := Ha.out.cell
      go_upto_region 3 with (go_at_call 19; (with_reducible refine (SML.out _ _ Ha.out.td).mono ?_); intro ee w9 hx; obtain ⟨A9, c9, rfl, hb⟩ := RetSm.open (z := 0) rfl hx; clear hx; replace HB := Lib.hid (HB.out.trans (hb.mono HB.out.size)); replace Ha := Lib.hid (Ha.out.to hb); replace HT8 := Lib.hid (HT8.out.below hb (Nat.le_refl _)); clear ya; have ya := Ha.out.cell; clear hb)
      go_upto_region 4 with (go_at_call 21; (with_reducible refine (EMP.out _ _ Ha.out.td).mono ?_); rintro ee w10 ⟨rfl, hb⟩; replace HB := Lib.hid (HB.out.trans (hb.mono HB.out.size)); replace Ha := Lib.hid (Ha.out.to hb); replace HT8 := Lib.hid (HT8.out.below hb (Nat.le_refl _)); clear ya; have ya := Ha.out.cell; clear hb)
      go_wp2_with (first
        | (go_at_call 43; (with_reducible refine (A1.out _ _ _ Ha.out.td HT8.out).mono ?_); rintro ee w21 ⟨rfl, hb⟩; replace HB := Lib.hid (HB.out.trans (hb.mono HB.out.size)); replace Ha := Lib.hid (Ha.out.to hb); replace HT8 := Lib.hid (HT8.out.below hb (Nat.le_refl _)); clear ya; have ya := Ha.out.cell; clear hb)
        | (go_at_call 28; (with_reducible refine (AWK.out _).mono ?_); rintro ee w40 ⟨rfl, hb⟩; replace HB := Lib.hid (HB.out.trans (hb.mono HB.out.size)); replace Ha := Lib.hid (Ha.out.to hb); clear ya; have ya := Ha.out.cell; clear hb))
      go_returns
      exact ⟨by first | rfl | simp, HB.out⟩
  · rw [hs] at SML; rw [he] at EMP
    by_cases hc : checkT tl ((1 : Nat) : Int) = 0
    · have hf2 := hf hc
      have A1 := Lib.hid fun W u s (h : TD W u (D.raw 1)) (h2 : TS W s tl) => (show Calls Tryz.prog 43 #[u, s] W (fun e w' => e = .returned (.tuple #[.bool (false), .int .i64 (0)]) ∧ Below W.heap.size W w') from by have q := accepts_ok D 1 hD u s tl W h h2 hlb; rw [accS_self hc, hf2] at q; exact q)
      clear hc hf hs he hlb hD hDn hf2
      have ya := Ha.out.cell
      go_upto_region 3 with (go_at_call 19; (with_reducible refine (SML.out _ _ Ha.out.td).mono ?_); intro ee w9 hx; obtain ⟨A9, c9, rfl, hb⟩ := RetSm.open (z := 4) rfl hx; clear hx; replace HB := Lib.hid (HB.out.trans (hb.mono HB.out.size)); replace Ha := Lib.hid (Ha.out.to hb); replace HT8 := Lib.hid (HT8.out.below hb (Nat.le_refl _)); clear ya; have ya := Ha.out.cell; clear hb)
      go_upto_region 4 with (go_at_call 21; (with_reducible refine (EMP.out _ _ Ha.out.td).mono ?_); rintro ee w10 ⟨rfl, hb⟩; replace HB := Lib.hid (HB.out.trans (hb.mono HB.out.size)); replace Ha := Lib.hid (Ha.out.to hb); replace HT8 := Lib.hid (HT8.out.below hb (Nat.le_refl _)); clear ya; have ya := Ha.out.cell; clear hb)
      go_wp2_with (first
        | (go_at_call 43; (with_reducible refine (A1.out _ _ _ Ha.out.td HT8.out).mono ?_); rintro ee w21 ⟨rfl, hb⟩; replace HB := Lib.hid (HB.out.trans (hb.mono HB.out.size)); replace Ha := Lib.hid (Ha.out.to hb); replace HT8 := Lib.hid (HT8.out.below hb (Nat.le_refl _)); clear ya; have ya := Ha.out.cell; clear hb)
        | (go_at_call 28; (with_reducible refine (AWK.out _).mono ?_); rintro ee w40 ⟨rfl, hb⟩; replace HB := Lib.hid (HB.out.trans (hb.mono HB.out.size)); replace Ha := Lib.hid (Ha.out.to hb); clear ya; have ya := Ha.out.cell; clear hb))
      go_returns
      exact ⟨by first | rfl | simp, HB.out⟩
    · obtain ⟨z, hz⟩ : ∃ z, z = checkT tl ((1 : Nat) : Int) := ⟨_, rfl⟩
      have A1 := Lib.hid fun W u s (h : TD W u (D.raw 1)) (h2 : TS W s tl) => (show Calls Tryz.prog 43 #[u, s] W (fun e w' => e = .returned (.tuple #[.bool (false), .int .i64 (z)]) ∧ Below W.heap.size W w') from by have q := accepts_ok D 1 hD u s tl W h h2 hlb; rw [accS_bad hc, ← hz] at q; exact q)
      have hz0 : ¬ z = 0 := by rw [hz]; exact hc
      clear hz
      clear hc hf hs he hlb hD hDn
      have ya := Ha.out.cell
      go_upto_region 3 with (go_at_call 19; (with_reducible refine (SML.out _ _ Ha.out.td).mono ?_); intro ee w9 hx; obtain ⟨A9, c9, rfl, hb⟩ := RetSm.open (z := 4) rfl hx; clear hx; replace HB := Lib.hid (HB.out.trans (hb.mono HB.out.size)); replace Ha := Lib.hid (Ha.out.to hb); replace HT8 := Lib.hid (HT8.out.below hb (Nat.le_refl _)); clear ya; have ya := Ha.out.cell; clear hb)
      go_upto_region 4 with (go_at_call 21; (with_reducible refine (EMP.out _ _ Ha.out.td).mono ?_); rintro ee w10 ⟨rfl, hb⟩; replace HB := Lib.hid (HB.out.trans (hb.mono HB.out.size)); replace Ha := Lib.hid (Ha.out.to hb); replace HT8 := Lib.hid (HT8.out.below hb (Nat.le_refl _)); clear ya; have ya := Ha.out.cell; clear hb)
      go_wp2_with (first
        | (go_at_call 43; (with_reducible refine (A1.out _ _ _ Ha.out.td HT8.out).mono ?_); rintro ee w21 ⟨rfl, hb⟩; replace HB := Lib.hid (HB.out.trans (hb.mono HB.out.size)); replace Ha := Lib.hid (Ha.out.to hb); replace HT8 := Lib.hid (HT8.out.below hb (Nat.le_refl _)); clear ya; have ya := Ha.out.cell; clear hb)
        | (go_at_call 28; (with_reducible refine (AWK.out _).mono ?_); rintro ee w40 ⟨rfl, hb⟩; replace HB := Lib.hid (HB.out.trans (hb.mono HB.out.size)); replace Ha := Lib.hid (Ha.out.to hb); clear ya; have ya := Ha.out.cell; clear hb))
      go_returns
      exact ⟨by first | rfl | simp, HB.out⟩
  · rw [hs] at SML; rw [he] at EMP
    have hck : checkT (t.enc 0) ((1 : Nat) : Int) = 0 := check_of (V := 1) (by omega) hts htt
    have hbt : btOf (t.enc 0) = t := btOf_enc t
    have hlb9 : ∀ m ∈ t.enc 0, 0 ≤ m.label := fun m hm => (lb_labels htt m hm).1
    have A2 := Lib.hid fun W u s (h : TD W u (D.raw 1)) (h2 : TS W s (t.enc 0)) => (show Calls Tryz.prog 43 #[u, s] W (fun e w' => e = .returned (.tuple #[.bool (true), .int .i64 (0)]) ∧ Below W.heap.size W w') from by have q := accepts_ok D 1 hD u s (t.enc 0) W h h2 hlb9; rw [accS_self hck, hbt, hft] at q; exact q)
    have CMP := Lib.hid fun W u s (h : TS W u tl) (h2 : TS W s (t.enc 0)) => Compare_any tl (t.enc 0) u s W h h2
    obtain ⟨q, hq⟩ : ∃ q, q = compareS tl (t.enc 0) := ⟨_, rfl⟩
    rw [← hq] at CMP hcmp
    obtain ⟨k9, hk9⟩ : ∃ n, n = t.size := ⟨_, rfl⟩
    rw [← hk9] at hts hz hp
    have CS := Lib.hid fun (n : Nat) (hn : n < k9) W u (h : TD W u (D.raw 1)) => (show Calls Tryz.prog 47 #[u, .int .i64 (n : Int), .int .u64 0] W (fun e w' => e = .returned (.bool true) ∧ Below W.heap.size W w') from by have q := counts_any D 1 hD u n (by omega) 0 W h; rw [hz n hn] at q; exact q)
    obtain ⟨m, hm⟩ : ∃ m : Nat, m = accN D k9 % M64 := ⟨_, rfl⟩
    have CN := Lib.hid fun W u (h : TD W u (D.raw 1)) => (show Calls Tryz.prog 23 #[u, .int .i64 (k9 : Int)] W (fun e w' => e = .returned (.tuple #[.int .u64 (m : Int), .int .i64 0]) ∧ Below W.heap.size W w') from by have q := count_ok D 1 hD u k9 hts W h; rw [← hm] at q; exact q)
    have hmm : (0 : Int) < (m : Int) ∨ (¬ (0 : Int) < (m : Int) ∧ (12 : Int) < (k9 : Int)) := by
      by_cases h12 : k9 ≤ 12
      · left
        have h1 := accN_le D k9
        have h2 := bN_small k9 h12
        have hL : D.L = 2 := hD.L
        rw [hL] at h1
        rw [Nat.mod_eq_of_lt (by omega)] at hm
        omega
      · by_cases h0 : (0 : Int) < (m : Int)
        · exact .inl h0
        · exact .inr ⟨h0, by omega⟩
    have HMM := Lib.hid hmm
    have hne9 : (t.enc 0).length = k9 := by rw [Bt.enc_len, hk9]
    clear hm hmm hz hp hck hbt hlb9 htt hft hs he hk9
    by_cases hc : checkT tl ((1 : Nat) : Int) = 0
    · cases hfv : D.fin (D.run (btOf tl))
      · skip
        have A1 := Lib.hid fun W u s (h : TD W u (D.raw 1)) (h2 : TS W s tl) => (show Calls Tryz.prog 43 #[u, s] W (fun e w' => e = .returned (.tuple #[.bool (false), .int .i64 (0)]) ∧ Below W.heap.size W w') from by have q := accepts_ok D 1 hD u s tl W h h2 hlb; rw [accS_self hc, hfv] at q; exact q)
        clear hfv
        clear hc hcmp hlb hD hDn hq
        have ya := Ha.out.cell
        go_upto_region 3 with (go_at_call 19; (with_reducible refine (SML.out _ _ Ha.out.td).mono ?_); intro ee w9 hx; obtain ⟨A9, c9, rfl, hb, ht⟩ := RetSm.openT (z := 0) rfl hx; clear hx; have HT9 := Lib.hid ht; clear ht; replace HB := Lib.hid (HB.out.trans (hb.mono HB.out.size)); replace Ha := Lib.hid (Ha.out.to hb); replace HT8 := Lib.hid (HT8.out.below hb (Nat.le_refl _)); clear ya; have ya := Ha.out.cell; clear hb)
        try rw [hne9] at HT9
        try rw [hne9]
        clear hne9
        go_upto_region 4 with (go_at_call 21; (with_reducible refine (EMP.out _ _ Ha.out.td).mono ?_); rintro ee w10 ⟨rfl, hb⟩; replace HB := Lib.hid (HB.out.trans (hb.mono HB.out.size)); replace Ha := Lib.hid (Ha.out.to hb); replace HT8 := Lib.hid (HT8.out.below hb (Nat.le_refl _)); replace HT9 := Lib.hid (HT9.out.below hb (Nat.le_refl _)); clear ya; have ya := Ha.out.cell; clear hb)
        go_upto_region 5 with (go_at_call 43; (with_reducible refine (A1.out _ _ _ Ha.out.td HT8.out).mono ?_); rintro ee w21 ⟨rfl, hb⟩; replace HB := Lib.hid (HB.out.trans (hb.mono HB.out.size)); replace Ha := Lib.hid (Ha.out.to hb); replace HT8 := Lib.hid (HT8.out.below hb (Nat.le_refl _)); replace HT9 := Lib.hid (HT9.out.below hb (Nat.le_refl _)); clear ya; have ya := Ha.out.cell; clear hb)
        go_upto_region 12 with (first
          | (go_at_call 43; (with_reducible refine (A2.out _ _ _ Ha.out.td HT9.out).mono ?_); rintro ee w22 ⟨rfl, hb⟩; replace HB := Lib.hid (HB.out.trans (hb.mono HB.out.size)); replace Ha := Lib.hid (Ha.out.to hb); replace HT8 := Lib.hid (HT8.out.below hb (Nat.le_refl _)); replace HT9 := Lib.hid (HT9.out.below hb (Nat.le_refl _)); clear ya; have ya := Ha.out.cell; clear hb)
          | fail)
        go_upto_region 13 with fail
        clear ya
        clear HT8 HT9 SML EMP A1 A2 CMP
        go_loopg [16] k9 (fun gk s16 W => ∃ n : Nat, n ≤ k9 ∧ gk = k9 - n ∧ s16 = .int .i64 n ∧ Below w.heap.size w W ∧ Box W ga ia ja na ca ma da Aa Ba (D.raw 1))
        case atStart => exact ⟨0, Nat.zero_le _, rfl, rfl, HB.out, Ha.out⟩
        case round =>
          clear HB Ha
          obtain ⟨n, hn, rfl, rfl, hb, ha⟩ := hrel
          have HB := Lib.hid hb; have Ha := Lib.hid ha
          clear hb ha
          by_cases hlt : n < k9
          · have hlti : (n : Int) < (k9 : Int) := by omega
            have ya := Ha.out.cell
            go_wp2_with (go_at_call 47; (with_reducible refine (CS.out n hlt _ _ Ha.out.td).mono ?_); rintro ee w31 ⟨rfl, hb⟩; replace HB := Lib.hid (HB.out.trans (hb.mono HB.out.size)); replace Ha := Lib.hid (Ha.out.to hb); clear ya; have ya := Ha.out.cell; clear hb)
            go_roundg (k9 - (n + 1))
            case rel => exact ⟨n + 1, by omega, rfl, by go_num, HB.out, Ha.out⟩
            case measure => omega
          · have hlti : ¬ (n : Int) < (k9 : Int) := by omega
            have ya := Ha.out.cell
            rcases HMM.out with hm1 | ⟨hm1, hm2⟩
            all_goals
              go_wp2_with (first
                | (go_at_call 23; (with_reducible refine (CN.out _ _ Ha.out.td).mono ?_); rintro ee w32 ⟨rfl, hb⟩; replace HB := Lib.hid (HB.out.trans (hb.mono HB.out.size)); replace Ha := Lib.hid (Ha.out.to hb); clear ya; have ya := Ha.out.cell; clear hb)
                | (go_at_call 28; (with_reducible refine (AWK.out _).mono ?_); rintro ee w40 ⟨rfl, hb⟩; replace HB := Lib.hid (HB.out.trans (hb.mono HB.out.size)); replace Ha := Lib.hid (Ha.out.to hb); clear ya; have ya := Ha.out.cell; clear hb))
              go_returns
              exact ⟨by first | rfl | simp, HB.out⟩
      · skip
        have A1 := Lib.hid fun W u s (h : TD W u (D.raw 1)) (h2 : TS W s tl) => (show Calls Tryz.prog 43 #[u, s] W (fun e w' => e = .returned (.tuple #[.bool (true), .int .i64 (0)]) ∧ Below W.heap.size W w') from by have q := accepts_ok D 1 hD u s tl W h h2 hlb; rw [accS_self hc, hfv] at q; exact q)
        have hq0 : ¬ q < 0 := by have := hcmp hc hfv; omega
        clear hfv
        clear hc hcmp hlb hD hDn hq
        have ya := Ha.out.cell
        go_upto_region 3 with (go_at_call 19; (with_reducible refine (SML.out _ _ Ha.out.td).mono ?_); intro ee w9 hx; obtain ⟨A9, c9, rfl, hb, ht⟩ := RetSm.openT (z := 0) rfl hx; clear hx; have HT9 := Lib.hid ht; clear ht; replace HB := Lib.hid (HB.out.trans (hb.mono HB.out.size)); replace Ha := Lib.hid (Ha.out.to hb); replace HT8 := Lib.hid (HT8.out.below hb (Nat.le_refl _)); clear ya; have ya := Ha.out.cell; clear hb)
        try rw [hne9] at HT9
        try rw [hne9]
        clear hne9
        go_upto_region 4 with (go_at_call 21; (with_reducible refine (EMP.out _ _ Ha.out.td).mono ?_); rintro ee w10 ⟨rfl, hb⟩; replace HB := Lib.hid (HB.out.trans (hb.mono HB.out.size)); replace Ha := Lib.hid (Ha.out.to hb); replace HT8 := Lib.hid (HT8.out.below hb (Nat.le_refl _)); replace HT9 := Lib.hid (HT9.out.below hb (Nat.le_refl _)); clear ya; have ya := Ha.out.cell; clear hb)
        go_upto_region 5 with (go_at_call 43; (with_reducible refine (A1.out _ _ _ Ha.out.td HT8.out).mono ?_); rintro ee w21 ⟨rfl, hb⟩; replace HB := Lib.hid (HB.out.trans (hb.mono HB.out.size)); replace Ha := Lib.hid (Ha.out.to hb); replace HT8 := Lib.hid (HT8.out.below hb (Nat.le_refl _)); replace HT9 := Lib.hid (HT9.out.below hb (Nat.le_refl _)); clear ya; have ya := Ha.out.cell; clear hb)
        go_upto_region 12 with (first
          | (go_at_call 43; (with_reducible refine (A2.out _ _ _ Ha.out.td HT9.out).mono ?_); rintro ee w22 ⟨rfl, hb⟩; replace HB := Lib.hid (HB.out.trans (hb.mono HB.out.size)); replace Ha := Lib.hid (Ha.out.to hb); replace HT8 := Lib.hid (HT8.out.below hb (Nat.le_refl _)); replace HT9 := Lib.hid (HT9.out.below hb (Nat.le_refl _)); clear ya; have ya := Ha.out.cell; clear hb)
          | (go_at_call 46; (with_reducible refine (CMP.out _ _ _ HT8.out HT9.out).mono ?_); rintro ee w23 ⟨rfl, hb⟩; replace HB := Lib.hid (HB.out.trans (hb.mono HB.out.size)); replace Ha := Lib.hid (Ha.out.to hb); replace HT8 := Lib.hid (HT8.out.below hb (Nat.le_refl _)); replace HT9 := Lib.hid (HT9.out.below hb (Nat.le_refl _)); clear ya; have ya := Ha.out.cell; clear hb)
          | fail)
        go_upto_region 13 with fail
        clear ya
        clear HT8 HT9 SML EMP A1 A2 CMP
        go_loopg [16] k9 (fun gk s16 W => ∃ n : Nat, n ≤ k9 ∧ gk = k9 - n ∧ s16 = .int .i64 n ∧ Below w.heap.size w W ∧ Box W ga ia ja na ca ma da Aa Ba (D.raw 1))
        case atStart => exact ⟨0, Nat.zero_le _, rfl, rfl, HB.out, Ha.out⟩
        case round =>
          clear HB Ha
          obtain ⟨n, hn, rfl, rfl, hb, ha⟩ := hrel
          have HB := Lib.hid hb; have Ha := Lib.hid ha
          clear hb ha
          by_cases hlt : n < k9
          · have hlti : (n : Int) < (k9 : Int) := by omega
            have ya := Ha.out.cell
            go_wp2_with (go_at_call 47; (with_reducible refine (CS.out n hlt _ _ Ha.out.td).mono ?_); rintro ee w31 ⟨rfl, hb⟩; replace HB := Lib.hid (HB.out.trans (hb.mono HB.out.size)); replace Ha := Lib.hid (Ha.out.to hb); clear ya; have ya := Ha.out.cell; clear hb)
            go_roundg (k9 - (n + 1))
            case rel => exact ⟨n + 1, by omega, rfl, by go_num, HB.out, Ha.out⟩
            case measure => omega
          · have hlti : ¬ (n : Int) < (k9 : Int) := by omega
            have ya := Ha.out.cell
            rcases HMM.out with hm1 | ⟨hm1, hm2⟩
            all_goals
              go_wp2_with (first
                | (go_at_call 23; (with_reducible refine (CN.out _ _ Ha.out.td).mono ?_); rintro ee w32 ⟨rfl, hb⟩; replace HB := Lib.hid (HB.out.trans (hb.mono HB.out.size)); replace Ha := Lib.hid (Ha.out.to hb); clear ya; have ya := Ha.out.cell; clear hb)
                | (go_at_call 28; (with_reducible refine (AWK.out _).mono ?_); rintro ee w40 ⟨rfl, hb⟩; replace HB := Lib.hid (HB.out.trans (hb.mono HB.out.size)); replace Ha := Lib.hid (Ha.out.to hb); clear ya; have ya := Ha.out.cell; clear hb))
              go_returns
              exact ⟨by first | rfl | simp, HB.out⟩
    · obtain ⟨z, hz⟩ : ∃ z, z = checkT tl ((1 : Nat) : Int) := ⟨_, rfl⟩
      have A1 := Lib.hid fun W u s (h : TD W u (D.raw 1)) (h2 : TS W s tl) => (show Calls Tryz.prog 43 #[u, s] W (fun e w' => e = .returned (.tuple #[.bool (false), .int .i64 (z)]) ∧ Below W.heap.size W w') from by have q := accepts_ok D 1 hD u s tl W h h2 hlb; rw [accS_bad hc, ← hz] at q; exact q)
      have hz0 : ¬ z = 0 := by rw [hz]; exact hc
      clear hz
      clear hc hcmp hlb hD hDn hq
      have ya := Ha.out.cell
      go_upto_region 3 with (go_at_call 19; (with_reducible refine (SML.out _ _ Ha.out.td).mono ?_); intro ee w9 hx; obtain ⟨A9, c9, rfl, hb, ht⟩ := RetSm.openT (z := 0) rfl hx; clear hx; have HT9 := Lib.hid ht; clear ht; replace HB := Lib.hid (HB.out.trans (hb.mono HB.out.size)); replace Ha := Lib.hid (Ha.out.to hb); replace HT8 := Lib.hid (HT8.out.below hb (Nat.le_refl _)); clear ya; have ya := Ha.out.cell; clear hb)
      try rw [hne9] at HT9
      try rw [hne9]
      clear hne9
      go_upto_region 4 with (go_at_call 21; (with_reducible refine (EMP.out _ _ Ha.out.td).mono ?_); rintro ee w10 ⟨rfl, hb⟩; replace HB := Lib.hid (HB.out.trans (hb.mono HB.out.size)); replace Ha := Lib.hid (Ha.out.to hb); replace HT8 := Lib.hid (HT8.out.below hb (Nat.le_refl _)); replace HT9 := Lib.hid (HT9.out.below hb (Nat.le_refl _)); clear ya; have ya := Ha.out.cell; clear hb)
      go_upto_region 5 with (go_at_call 43; (with_reducible refine (A1.out _ _ _ Ha.out.td HT8.out).mono ?_); rintro ee w21 ⟨rfl, hb⟩; replace HB := Lib.hid (HB.out.trans (hb.mono HB.out.size)); replace Ha := Lib.hid (Ha.out.to hb); replace HT8 := Lib.hid (HT8.out.below hb (Nat.le_refl _)); replace HT9 := Lib.hid (HT9.out.below hb (Nat.le_refl _)); clear ya; have ya := Ha.out.cell; clear hb)
      go_upto_region 12 with (first
        | (go_at_call 43; (with_reducible refine (A2.out _ _ _ Ha.out.td HT9.out).mono ?_); rintro ee w22 ⟨rfl, hb⟩; replace HB := Lib.hid (HB.out.trans (hb.mono HB.out.size)); replace Ha := Lib.hid (Ha.out.to hb); replace HT8 := Lib.hid (HT8.out.below hb (Nat.le_refl _)); replace HT9 := Lib.hid (HT9.out.below hb (Nat.le_refl _)); clear ya; have ya := Ha.out.cell; clear hb)
        | fail)
      go_upto_region 13 with fail
      clear ya
      clear HT8 HT9 SML EMP A1 A2 CMP
      go_loopg [16] k9 (fun gk s16 W => ∃ n : Nat, n ≤ k9 ∧ gk = k9 - n ∧ s16 = .int .i64 n ∧ Below w.heap.size w W ∧ Box W ga ia ja na ca ma da Aa Ba (D.raw 1))
      case atStart => exact ⟨0, Nat.zero_le _, rfl, rfl, HB.out, Ha.out⟩
      case round =>
        clear HB Ha
        obtain ⟨n, hn, rfl, rfl, hb, ha⟩ := hrel
        have HB := Lib.hid hb; have Ha := Lib.hid ha
        clear hb ha
        by_cases hlt : n < k9
        · have hlti : (n : Int) < (k9 : Int) := by omega
          have ya := Ha.out.cell
          go_wp2_with (go_at_call 47; (with_reducible refine (CS.out n hlt _ _ Ha.out.td).mono ?_); rintro ee w31 ⟨rfl, hb⟩; replace HB := Lib.hid (HB.out.trans (hb.mono HB.out.size)); replace Ha := Lib.hid (Ha.out.to hb); clear ya; have ya := Ha.out.cell; clear hb)
          go_roundg (k9 - (n + 1))
          case rel => exact ⟨n + 1, by omega, rfl, by go_num, HB.out, Ha.out⟩
          case measure => omega
        · have hlti : ¬ (n : Int) < (k9 : Int) := by omega
          have ya := Ha.out.cell
          rcases HMM.out with hm1 | ⟨hm1, hm2⟩
          all_goals
            go_wp2_with (first
              | (go_at_call 23; (with_reducible refine (CN.out _ _ Ha.out.td).mono ?_); rintro ee w32 ⟨rfl, hb⟩; replace HB := Lib.hid (HB.out.trans (hb.mono HB.out.size)); replace Ha := Lib.hid (Ha.out.to hb); clear ya; have ya := Ha.out.cell; clear hb)
              | (go_at_call 28; (with_reducible refine (AWK.out _).mono ?_); rintro ee w40 ⟨rfl, hb⟩; replace HB := Lib.hid (HB.out.trans (hb.mono HB.out.size)); replace Ha := Lib.hid (Ha.out.to hb); clear ya; have ya := Ha.out.cell; clear hb))
            go_returns
            exact ⟨by first | rfl | simp, HB.out⟩
end Go.Proofs.YthkfjnmnoanhlaaGreatDoor
