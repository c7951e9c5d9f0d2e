/- Law: TreeopsIncluded. -/
import Derived.Test.YthkfjnmnoanhlaaGreatDoorTwJ
import Derived.Test.YthkfjnmnoanhlaaGreatDoorAwP
import Derived.Test.YthkfjnmnoanhlaaGreatDoorInP
import Derived.Test.YthkfjnmnoanhlaaGreatDoorEqD
import Derived.Test.YthkfjnmnoanhlaaGreatDoorAcc
import Derived.Test.YthkfjnmnoanhlaaGreatDoorDtL
import Derived.Deep.DeepCutAuto
set_option linter.unusedSimpArgs false
set_option linter.unusedVariables false
namespace Go.Proofs.YthkfjnmnoanhlaaGreatDoor
open Go.RowKit

set_option maxRecDepth 100000 in
set_option maxHeartbeats 16000000 in
theorem included_law (hsub : CSub 5 1) (haw : CAwk) (rp rq : Raw) (vp vq : Value) (w : World) (hvp : TD w vp rp) (hvq : TD w vq rq) :
    Calls Tryz.prog 9 #[vp, vq] w fun e w' => e = .returned (.bool true) ∧ Below w.heap.size w w' := by
  have SP := Lib.hid (fun W (h : Below w.heap.size w W) => hsub rp vp W (hvp.below h (Nat.le_refl _)))
  have SQ := Lib.hid (fun W (h : Below w.heap.size w W) => hsub rq vq W (hvq.below h (Nat.le_refl _)))
  have AWK := Lib.hid haw
  clear hsub haw
  obtain ⟨Ap, cp, Bp, dp, rfl⟩ := hvp.form
  obtain ⟨Aq, cq, Bq, dq, rfl⟩ := hvq.form
  obtain ⟨np, q1⟩ : ∃ n, n = rp.next.length := ⟨_, rfl⟩
  obtain ⟨mp, q2⟩ : ∃ n, n = rp.fin.length := ⟨_, rfl⟩
  obtain ⟨ip, q3⟩ : ∃ n, n = rp.vars := ⟨_, rfl⟩
  obtain ⟨jp, q4⟩ : ∃ n, n = rp.empty := ⟨_, rfl⟩
  rw [← q1, ← q2, ← q3, ← q4] at SP ⊢
  clear hvp q1 q2 q3 q4
  obtain ⟨nq, q1⟩ : ∃ n, n = rq.next.length := ⟨_, rfl⟩
  obtain ⟨mq, q2⟩ : ∃ n, n = rq.fin.length := ⟨_, rfl⟩
  obtain ⟨iq, q3⟩ : ∃ n, n = rq.vars := ⟨_, rfl⟩
  obtain ⟨jq, q4⟩ : ∃ n, n = rq.empty := ⟨_, rfl⟩
  rw [← q1, ← q2, ← q3, ← q4] at SQ ⊢
  clear hvq q1 q2 q3 q4
  go_enter Tryz.func9, Tryz.ntmps9
  go_upto_region 1 with fail
  refine wp_abs (fun X => Below w.heap.size w X ∧ ∃ gp gq, gp = w.heap.size ∧ gq = w.heap.size + 1 ∧ gq < X.heap.size ∧ Row X gp 25 #[.int .i64 ip, .int .i64 jp, .slice Ap np cp, .slice Bp mp dp] ∧ Row X gq 25 #[.int .i64 iq, .int .i64 jq, .slice Aq nq cq, .slice Bq mq dq]) ⟨by go_grown, _, _, rfl, rfl, by simp, by (repeat (first | (refine Row.lit ?_; simp only [World.size_alloc] <;> omega) | apply Row.alloc)), by (repeat (first | (refine Row.lit ?_; simp only [World.size_alloc] <;> omega) | apply Row.alloc))⟩ ?_
  rintro W0 ⟨hw, gp, gq, hgp, hgq, hlt, r1, r2⟩
  rw [← hgq, ← hgp]
  have HB := Lib.hid hw; have RP := Lib.hid r1; have RQ := Lib.hid r2; have HL := Lib.hid hlt
  clear hw r1 r2 hgp hgq hlt
  go_cut [5, 6] from 18 to 21 (fun u5 u6 wx => ∃ (x y : Nat) (D E : Dta), u5 = .pointer (some ⟨x, 0, none⟩) ∧ u6 = .pointer (some ⟨y, 0, none⟩) ∧ Below w.heap.size w wx ∧ D.Fit 1 ∧ E.Fit 1 ∧ D.n ≤ 5 ∧ E.n ≤ 5 ∧ (∃ i j n c m d A B, Box wx x i j n c m d A B (D.raw 1)) ∧ (∃ i j n c m d A B, Box wx y i j n c m d A B (E.raw 1)))
  case first =>
    refine region_slots (by kernel_rfl) (by kernel_rfl) [18, 20, 19, 21, 5, 6] [undef, undef, undef, undef, undef, undef] rfl rfl (fun f vs W => ∃ xa xb ra rb pa pb, vs = [xa, xb, ra, rb, pa, pb] ∧ TwoJ w W0.heap.size 5 1 gp gq #[.int .i64 ip, .int .i64 jp, .slice Ap np cp, .slice Bp mp dp] #[.int .i64 iq, .int .i64 jq, .slice Aq nq cq, .slice Bq mq dq] (.agg #[.int .i64 ip, .int .i64 jp, .slice Ap np cp, .slice Bp mp dp]) (.agg #[.int .i64 iq, .int .i64 jq, .slice Aq nq cq, .slice Bq mq dq]) (f 0) (f 2) (f 1) (f 3) (f 4) (f 5) (f 6) (f 7) xa xb ra rb pa pb W) ?_ ?_ ?_
    · exact ⟨_, _, _, _, _, _, rfl, HB.out.size, Nat.le_refl _, RP.out.lt, RQ.out.lt, HB.out.drew, RP.out.drew, RQ.out.drew, by simp, by simp, by simp, by simp, by simp, by simp, by simp, by simp, by simp⟩
    · refine StepsJ.cons ?_ (StepsJ.cons ?_ (StepsJ.cons ?_ (StepsJ.cons ?_ (StepsJ.cons ?_ (StepsJ.cons ?_ (StepsJ.cons ?_ (StepsJ.cons ?_ StepsJ.nil)))))))
      · rintro f vs W hl hf hd ⟨xa, xb, ra, rb, pa, pb, rfl, hJ⟩ K hK
        have y0 := hJ.hrp.cell
        have HJ := Lib.hid hJ
        clear hJ
        simp only [putS, Act.put, List.setIfInBounds_toArray, List.set_cons_zero, List.set_cons_succ]
        go_simp
        have hz := hK.out [_, xb, ra, rb, pa, pb] W rfl ⟨_, _, _, _, _, _, rfl, HJ.out.loadA⟩
        simp only [putS, Act.put, List.setIfInBounds_toArray, List.set_cons_zero, List.set_cons_succ] at hz
        exact hz
      · rintro f vs W hl hf hd ⟨xa, xb, ra, rb, pa, pb, rfl, hJ⟩ K hK
        have e0 := hJ.hxa (dep_of hd 0 (by kernel_rfl))
        subst e0
        have HJ := Lib.hid hJ
        clear hJ
        simp only [putS, Act.put, List.setIfInBounds_toArray, List.set_cons_zero, List.set_cons_succ]
        go_simp
        go_at_call 29
        refine (SP.out W HJ.out.below).mono ?_
        rintro e wx ⟨D, hD, hDn, v, rfl, hb, ht⟩
        have hs : SubJ wx W.heap.size 5 1 v := ⟨D, hD, hDn, ht⟩
        have hz := hK.out [_, xb, _, rb, pa, pb] wx rfl ⟨_, _, _, _, _, _, rfl, HJ.out.callA hb hs hf⟩
        simp only [putS, Act.put, List.setIfInBounds_toArray, List.set_cons_zero, List.set_cons_succ] at hz
        exact hz
      · rintro f vs W hl hf hd ⟨xa, xb, ra, rb, pa, pb, rfl, hJ⟩ K hK
        have y0 := hJ.hrq.cell
        have HJ := Lib.hid hJ
        clear hJ
        simp only [putS, Act.put, List.setIfInBounds_toArray, List.set_cons_zero, List.set_cons_succ]
        go_simp
        have hz := hK.out [xa, _, ra, rb, pa, pb] W rfl ⟨_, _, _, _, _, _, rfl, HJ.out.loadB⟩
        simp only [putS, Act.put, List.setIfInBounds_toArray, List.set_cons_zero, List.set_cons_succ] at hz
        exact hz
      · rintro f vs W hl hf hd ⟨xa, xb, ra, rb, pa, pb, rfl, hJ⟩ K hK
        have e0 := hJ.hxb (dep_of hd 2 (by kernel_rfl))
        subst e0
        have HJ := Lib.hid hJ
        clear hJ
        simp only [putS, Act.put, List.setIfInBounds_toArray, List.set_cons_zero, List.set_cons_succ]
        go_simp
        go_at_call 29
        refine (SQ.out W HJ.out.below).mono ?_
        rintro e wx ⟨D, hD, hDn, v, rfl, hb, ht⟩
        have hs : SubJ wx W.heap.size 5 1 v := ⟨D, hD, hDn, ht⟩
        have hz := hK.out [xa, _, ra, _, pa, pb] wx rfl ⟨_, _, _, _, _, _, rfl, HJ.out.callB hb hs hf⟩
        simp only [putS, Act.put, List.setIfInBounds_toArray, List.set_cons_zero, List.set_cons_succ] at hz
        exact hz
      · rintro f vs W hl hf hd ⟨xa, xb, ra, rb, pa, pb, rfl, hJ⟩ K hK
        have HJ := Lib.hid hJ
        clear hJ
        simp only [putS, Act.put, List.setIfInBounds_toArray, List.set_cons_zero, List.set_cons_succ]
        go_simp
        have hz := hK.out [xa, xb, ra, rb, _, pb] (W.alloc (.cells #[.int .i64 0, .int .i64 0, .slice none 0 0, .slice none 0 0] 25)) rfl ⟨_, _, _, _, _, _, rfl, HJ.out.allocA hf⟩
        simp only [putS, Act.put, List.setIfInBounds_toArray, List.set_cons_zero, List.set_cons_succ] at hz
        exact hz
      · rintro f vs W hl hf hd ⟨xa, xb, ra, rb, pa, pb, rfl, hJ⟩ K hK
        have HJ := Lib.hid hJ
        clear hJ
        simp only [putS, Act.put, List.setIfInBounds_toArray, List.set_cons_zero, List.set_cons_succ]
        go_simp
        have hz := hK.out [xa, xb, ra, rb, pa, _] (W.alloc (.cells #[.int .i64 0, .int .i64 0, .slice none 0 0, .slice none 0 0] 25)) rfl ⟨_, _, _, _, _, _, rfl, HJ.out.allocB hf⟩
        simp only [putS, Act.put, List.setIfInBounds_toArray, List.set_cons_zero, List.set_cons_succ] at hz
        exact hz
      · rintro f vs W hl hf hd ⟨xa, xb, ra, rb, pa, pb, rfl, hJ⟩ K hK
        have d1 : f 4 = true := dep_of hd 4 (by kernel_rfl)
        have d2 : f 1 = true := dep_of hd 1 (by kernel_rfl)
        revert hK
        generalize hgen : (Shut _ → _) = G
        obtain ⟨g, x0, x1, x2, x3, rfl, hg1, hg2, _⟩ := hJ.hpa d1
        obtain ⟨D, hD, hDn, hto⟩ := hJ.hra d2
        obtain ⟨i, j, A, n, c, A', m, d, rfl⟩ := hto.shape
        subst hgen
        intro hK
        have y0 := hg2.cell; have y1 := hg2.free; have y2 := hg2.lt
        have q0 := y0 0; have q1 := y0 1; have q2 := y0 2; have q3 := y0 3
        simp only [List.getElem?_toArray, List.getElem?_cons_zero, List.getElem?_cons_succ] at q0 q1 q2 q3
        clear y0
        have HJ := Lib.hid hJ; have HD1 := Lib.hid d1; have HD2 := Lib.hid d2
        clear hJ hto hg1 d1 d2
        simp only [putS, Act.put, List.setIfInBounds_toArray, List.set_cons_zero, List.set_cons_succ]
        go_simp
        have hz := hK.out [xa, xb, _, rb, _, pb] (set4 W g (.int .i64 i) (.int .i64 j) (.slice A n c) (.slice A' m d)) rfl ⟨_, _, _, _, _, _, rfl, HJ.out.storeA HD1.out HD2.out rfl rfl⟩
        simp only [putS, Act.put, List.setIfInBounds_toArray, List.set_cons_zero, List.set_cons_succ] at hz
        unfold set4 at hz
        exact hz
      · rintro f vs W hl hf hd ⟨xa, xb, ra, rb, pa, pb, rfl, hJ⟩ K hK
        have d1 : f 5 = true := dep_of hd 5 (by kernel_rfl)
        have d2 : f 3 = true := dep_of hd 3 (by kernel_rfl)
        revert hK
        generalize hgen : (Shut _ → _) = G
        obtain ⟨g, x0, x1, x2, x3, rfl, hg1, hg2, _⟩ := hJ.hpb d1
        obtain ⟨D, hD, hDn, hto⟩ := hJ.hrb d2
        obtain ⟨i, j, A, n, c, A', m, d, rfl⟩ := hto.shape
        subst hgen
        intro hK
        have y0 := hg2.cell; have y1 := hg2.free; have y2 := hg2.lt
        have q0 := y0 0; have q1 := y0 1; have q2 := y0 2; have q3 := y0 3
        simp only [List.getElem?_toArray, List.getElem?_cons_zero, List.getElem?_cons_succ] at q0 q1 q2 q3
        clear y0
        have HJ := Lib.hid hJ; have HD1 := Lib.hid d1; have HD2 := Lib.hid d2
        clear hJ hto hg1 d1 d2
        simp only [putS, Act.put, List.setIfInBounds_toArray, List.set_cons_zero, List.set_cons_succ]
        go_simp
        have hz := hK.out [xa, xb, ra, _, pa, _] (set4 W g (.int .i64 i) (.int .i64 j) (.slice A n c) (.slice A' m d)) rfl ⟨_, _, _, _, _, _, rfl, HJ.out.storeB HD1.out HD2.out rfl rfl⟩
        simp only [putS, Act.put, List.setIfInBounds_toArray, List.set_cons_zero, List.set_cons_succ] at hz
        unfold set4 at hz
        exact hz
    · rintro f vs W hl hall ⟨xa, xb, ra, rb, pa, pb, rfl, hJ⟩
      obtain ⟨x, x0, x1, x2, x3, rfl, _, hx, hxs⟩ := hJ.hpa (hall 4 (by decide))
      obtain ⟨y, y0, y1, y2, y3, rfl, _, hy, hys⟩ := hJ.hpb (hall 5 (by decide))
      obtain ⟨D, hD, hDn, ht⟩ := hJ.hra (hall 1 (by decide))
      obtain ⟨E, hE, hEn, hu⟩ := hJ.hrb (hall 3 (by decide))
      have hx2 := hxs (hall 6 (by decide)); have hy2 := hys (hall 7 (by decide))
      obtain ⟨A1, c1, B1, d1, rfl⟩ := ht.td.form
      obtain ⟨A2, c2, B2, d2, rfl⟩ := hu.td.form
      simp only [Value.agg.injEq, Array.mk.injEq, List.cons.injEq, and_true] at hx2 hy2
      obtain ⟨rfl, rfl, rfl, rfl⟩ := hx2
      obtain ⟨rfl, rfl, rfl, rfl⟩ := hy2
      have HF : Hid (∃ (x' y' : Nat) (D E : Dta), Value.pointer (some ⟨x, 0, none⟩) = .pointer (some ⟨x', 0, none⟩) ∧ Value.pointer (some ⟨y, 0, none⟩) = .pointer (some ⟨y', 0, none⟩) ∧ Below w.heap.size w W ∧ D.Fit 1 ∧ E.Fit 1 ∧ D.n ≤ 5 ∧ E.n ≤ 5 ∧ (∃ i j n c m d A B, Box W x' i j n c m d A B (D.raw 1)) ∧ (∃ i j n c m d A B, Box W y' i j n c m d A B (E.raw 1))) := ⟨x, y, D, E, rfl, rfl, hJ.below, hD, hE, hDn, hEn, ⟨_, _, _, _, _, _, _, _, hx, ht.td⟩, _, _, _, _, _, _, _, _, hy, hu.td⟩
      clear hJ hx hy ht hu hxs hys
      simp only [putS, Act.put, List.setIfInBounds_toArray, List.set_cons_zero, List.set_cons_succ]
      go_wp2
      go_meet
      exact HF.out
  case rest =>
    obtain ⟨ga, gb, D, E, rfl, rfl, hb, hD, hE, hDn, hEn, ⟨ia, ja, na, ca, ma, da, Aa, Ba, ha⟩, ib, jb, nb, cb, mb, db, Ab, Bb, hbb⟩ := hcut
    rename_i wc
    clear HB RP RQ HL SP SQ
    have HB := Lib.hid hb; have Ha := Lib.hid ha; have Hb := Lib.hid hbb
    clear hb ha hbb
    have hL : D.L = E.L := hD.L.trans hE.L.symm
    have hpl : (prodO D E).length ≤ 64 := Nat.le_trans (prodO_len hD.ok hE.ok hL) (Nat.le_trans (Nat.mul_le_mul hDn hEn) (by omega))
    have hcs := incl_cases hD hE hpl
    have hPlow := (prodM_fit hD hE (fun p q => p && q) hpl).low
    have INC := Lib.hid fun W u s (h : TD W u (D.raw 1)) (h2 : TD W s (E.raw 1)) => included_ok D E 1 hD hE u s W h h2
    have MIN := Lib.hid fun W u (h : TD W u (D.raw 1)) => minimize_ok D 1 hD u W h
    have AND := Lib.hid fun W u s (h : TD W u (D.raw 1)) (h2 : TD W s (E.raw 1)) => (show Calls Tryz.prog 31 #[u, s] W (RetR W ((prodM D E fun p q => p && q).raw 1) 0) from by have q := And_ok D E 1 hD hE u s W h h2; rw [opR_ok hpl] at q; exact q)
    have EQT := Lib.hid fun W u s (h : TD W u ((prodM D E fun p q => p && q).raw 1)) (h2 : TD W s (D.mini.raw 1)) => equalTD _ _ u s W h h2 hPlow
    have AC1 := Lib.hid fun W u s t (h : TD W u (D.raw 1)) (h2 : TS W s t) (h3 : ∀ m ∈ t, 0 ≤ m.label) => accepts_ok D 1 hD u s t W h h2 h3
    have AC2 := Lib.hid fun W u s t (h : TD W u (E.raw 1)) (h2 : TS W s t) (h3 : ∀ m ∈ t, 0 ≤ m.label) => accepts_ok E 1 hE u s t W h h2 h3
    clear hpl hPlow hL hDn hEn
    rcases hcs with ⟨hi, hr⟩ | ⟨hi, hr⟩ | ⟨t, hi, htl, hts, hf1, hf2, hr⟩
    · clear AC1 AC2
      rw [hi] at INC
      have EQ2 := Lib.hid fun W u s (h : TD W u ((prodM D E fun p q => p && q).raw 1)) (h2 : TD W s (D.mini.raw 1)) => (show Calls Tryz.prog 18 #[u, s] W (fun e w' => e = .returned (.bool true) ∧ Below W.heap.size W w') from by have q := EQT.out W u s h h2; rw [show eqR ((prodM D E fun p q => p && q).raw 1) (D.mini.raw 1) = true from (eqR_iff _ _).2 hr] at q; exact q)
      clear EQT hi hr
      have ya := Ha.out.cell
      have yb := Hb.out.cell
      go_upto_region 3 with (go_at_call 30; (with_reducible refine (INC.out _ _ _ Ha.out.td Hb.out.td).mono ?_); intro ee w9 hx; obtain ⟨A9, c9, rfl, hb⟩ := RetSm.open (z := 0) rfl hx; clear hx; replace HB := Lib.hid (HB.out.trans (hb.mono HB.out.size)); replace Ha := Lib.hid (Ha.out.to hb); replace Hb := Lib.hid (Hb.out.to hb); clear ya; have ya := Ha.out.cell; clear yb; have yb := Hb.out.cell; clear hb)
      clear ya yb
      have ya := Ha.out.cell
      have yb := Hb.out.cell
      go_upto_region 4 with (go_at_call 41; refine (MIN.out _ _ Ha.out.td).mono ?_; intro e wx hx; obtain ⟨ik, jk, nk, ck, mk, dk, Ak, Bk, rfl, hb, ht⟩ := RetR.open (z := 0) rfl hx; have HX := Lib.hid (show Below w9.heap.size w9 wx from hb); have HT := Lib.hid ht; clear hx hb ht)
      clear ya yb
      refine wp_abs (fun X => Below w.heap.size w X ∧ Box X ga ia ja na ca ma da Aa Ba (D.raw 1) ∧ Box X gb ib jb nb cb mb db Ab Bb (E.raw 1) ∧ ∃ g, g = wx.heap.size ∧ Box X g ik jk nk ck mk dk Ak Bk (D.mini.raw 1)) ⟨HB.out.trans ((HX.out.alloc HX.out.size _).mono HB.out.size), Ha.out.to (HX.out.alloc HX.out.size _), Hb.out.to (HX.out.alloc HX.out.size _), _, rfl, Row.new _ _ _, HT.out.below (Below.alloc (Below.refl _ _) (Nat.le_refl _) _) (Nat.le_refl _)⟩ ?_
      clear HX HT
      rintro W1 ⟨hw, ha, hb, gk, hg, hk⟩
      rw [← hg]
      replace HB := Lib.hid hw; replace Ha := Lib.hid ha; replace Hb := Lib.hid hb; have Hk := Lib.hid hk
      clear hw ha hb hk hg
      have ya := Ha.out.cell
      have yb := Hb.out.cell
      have yk := Hk.out.cell
      go_upto_region 5 with (go_at_call 31; refine (AND.out _ _ _ Ha.out.td Hb.out.td).mono ?_; intro e wx hx; obtain ⟨ie, je, ne, ce, me, de, Ae, Be, rfl, hb, ht⟩ := RetR.open (z := 0) rfl hx; have HX := Lib.hid (show Below W1.heap.size W1 wx from hb); have HT := Lib.hid ht; clear hx hb ht)
      clear ya yb yk
      refine wp_abs (fun X => Below w.heap.size w X ∧ Box X ga ia ja na ca ma da Aa Ba (D.raw 1) ∧ Box X gb ib jb nb cb mb db Ab Bb (E.raw 1) ∧ Box X gk ik jk nk ck mk dk Ak Bk (D.mini.raw 1) ∧ ∃ g, g = wx.heap.size ∧ Box X g ie je ne ce me de Ae Be ((prodM D E fun p q => p && q).raw 1)) ⟨HB.out.trans ((HX.out.alloc HX.out.size _).mono HB.out.size), Ha.out.to (HX.out.alloc HX.out.size _), Hb.out.to (HX.out.alloc HX.out.size _), Hk.out.to (HX.out.alloc HX.out.size _), _, rfl, Row.new _ _ _, HT.out.below (Below.alloc (Below.refl _ _) (Nat.le_refl _) _) (Nat.le_refl _)⟩ ?_
      clear HX HT
      rintro W2 ⟨hw, ha, hb, hk, ge, hg, he⟩
      rw [← hg]
      replace HB := Lib.hid hw; replace Ha := Lib.hid ha; replace Hb := Lib.hid hb; replace Hk := Lib.hid hk; have He := Lib.hid he
      clear hw ha hb hk he hg
      have ya := Ha.out.cell
      have yb := Hb.out.cell
      have yk := Hk.out.cell
      have ye := He.out.cell
      go_wp2_with (first
        | (go_at_call 18; (with_reducible refine (EQ2.out _ _ _ He.out.td Hk.out.td).mono ?_); rintro ee w11 ⟨rfl, hb⟩; replace HB := Lib.hid (HB.out.trans (hb.mono HB.out.size)); replace Ha := Lib.hid (Ha.out.to hb); replace Hb := Lib.hid (Hb.out.to hb); replace Hk := Lib.hid (Hk.out.to hb); replace He := Lib.hid (He.out.to hb); clear ya; have ya := Ha.out.cell; clear yb; have yb := Hb.out.cell; clear yk; have yk := Hk.out.cell; clear ye; have ye := He.out.cell; clear hb)
        | (go_at_call 28; (with_reducible refine (AWK.out _).mono ?_); rintro ee w12 ⟨rfl, hb⟩; replace HB := Lib.hid (HB.out.trans (hb.mono HB.out.size)); replace Ha := Lib.hid (Ha.out.to hb); replace Hb := Lib.hid (Hb.out.to hb); replace Hk := Lib.hid (Hk.out.to hb); replace He := Lib.hid (He.out.to hb); clear ya; have ya := Ha.out.cell; clear yb; have yb := Hb.out.cell; clear yk; have yk := Hk.out.cell; clear ye; have ye := He.out.cell; clear hb))
      go_returns
      exact ⟨by first | rfl | simp, HB.out⟩
    · clear AC1 AC2
      rw [hi] at INC
      have EQ2 := Lib.hid fun W u s (h : TD W u ((prodM D E fun p q => p && q).raw 1)) (h2 : TD W s (D.mini.raw 1)) => (show Calls Tryz.prog 18 #[u, s] W (fun e w' => e = .returned (.bool false) ∧ Below W.heap.size W w') from by have q := EQT.out W u s h h2; rw [show eqR ((prodM D E fun p q => p && q).raw 1) (D.mini.raw 1) = false from by cases h9 : eqR ((prodM D E fun p q => p && q).raw 1) (D.mini.raw 1) with | false => rfl | true => exact absurd ((eqR_iff _ _).1 h9) hr] at q; exact q)
      clear EQT hi hr
      have ya := Ha.out.cell
      have yb := Hb.out.cell
      go_upto_region 3 with (go_at_call 30; (with_reducible refine (INC.out _ _ _ Ha.out.td Hb.out.td).mono ?_); intro ee w9 hx; obtain ⟨A9, c9, rfl, hb⟩ := RetSm.open (z := 4) rfl hx; clear hx; replace HB := Lib.hid (HB.out.trans (hb.mono HB.out.size)); replace Ha := Lib.hid (Ha.out.to hb); replace Hb := Lib.hid (Hb.out.to hb); clear ya; have ya := Ha.out.cell; clear yb; have yb := Hb.out.cell; clear hb)
      clear ya yb
      have ya := Ha.out.cell
      have yb := Hb.out.cell
      go_upto_region 4 with (go_at_call 41; refine (MIN.out _ _ Ha.out.td).mono ?_; intro e wx hx; obtain ⟨ik, jk, nk, ck, mk, dk, Ak, Bk, rfl, hb, ht⟩ := RetR.open (z := 0) rfl hx; have HX := Lib.hid (show Below w9.heap.size w9 wx from hb); have HT := Lib.hid ht; clear hx hb ht)
      clear ya yb
      refine wp_abs (fun X => Below w.heap.size w X ∧ Box X ga ia ja na ca ma da Aa Ba (D.raw 1) ∧ Box X gb ib jb nb cb mb db Ab Bb (E.raw 1) ∧ ∃ g, g = wx.heap.size ∧ Box X g ik jk nk ck mk dk Ak Bk (D.mini.raw 1)) ⟨HB.out.trans ((HX.out.alloc HX.out.size _).mono HB.out.size), Ha.out.to (HX.out.alloc HX.out.size _), Hb.out.to (HX.out.alloc HX.out.size _), _, rfl, Row.new _ _ _, HT.out.below (Below.alloc (Below.refl _ _) (Nat.le_refl _) _) (Nat.le_refl _)⟩ ?_
      clear HX HT
      rintro W1 ⟨hw, ha, hb, gk, hg, hk⟩
      rw [← hg]
      replace HB := Lib.hid hw; replace Ha := Lib.hid ha; replace Hb := Lib.hid hb; have Hk := Lib.hid hk
      clear hw ha hb hk hg
      have ya := Ha.out.cell
      have yb := Hb.out.cell
      have yk := Hk.out.cell
      go_upto_region 5 with (go_at_call 31; refine (AND.out _ _ _ Ha.out.td Hb.out.td).mono ?_; intro e wx hx; obtain ⟨ie, je, ne, ce, me, de, Ae, Be, rfl, hb, ht⟩ := RetR.open (z := 0) rfl hx; have HX := Lib.hid (show Below W1.heap.size W1 wx from hb); have HT := Lib.hid ht; clear hx hb ht)
      clear ya yb yk
      refine wp_abs (fun X => Below w.heap.size w X ∧ Box X ga ia ja na ca ma da Aa Ba (D.raw 1) ∧ Box X gb ib jb nb cb mb db Ab Bb (E.raw 1) ∧ Box X gk ik jk nk ck mk dk Ak Bk (D.mini.raw 1) ∧ ∃ g, g = wx.heap.size ∧ Box X g ie je ne ce me de Ae Be ((prodM D E fun p q => p && q).raw 1)) ⟨HB.out.trans ((HX.out.alloc HX.out.size _).mono HB.out.size), Ha.out.to (HX.out.alloc HX.out.size _), Hb.out.to (HX.out.alloc HX.out.size _), Hk.out.to (HX.out.alloc HX.out.size _), _, rfl, Row.new _ _ _, HT.out.below (Below.alloc (Below.refl _ _) (Nat.le_refl _) _) (Nat.le_refl _)⟩ ?_
      clear HX HT
      rintro W2 ⟨hw, ha, hb, hk, ge, hg, he⟩
      rw [← hg]
      replace HB := Lib.hid hw; replace Ha := Lib.hid ha; replace Hb := Lib.hid hb; replace Hk := Lib.hid hk; have He := Lib.hid he
      clear hw ha hb hk he hg
      have ya := Ha.out.cell
      have yb := Hb.out.cell
      have yk := Hk.out.cell
      have ye := He.out.cell
      go_wp2_with (first
        | (go_at_call 18; (with_reducible refine (EQ2.out _ _ _ He.out.td Hk.out.td).mono ?_); rintro ee w11 ⟨rfl, hb⟩; replace HB := Lib.hid (HB.out.trans (hb.mono HB.out.size)); replace Ha := Lib.hid (Ha.out.to hb); replace Hb := Lib.hid (Hb.out.to hb); replace Hk := Lib.hid (Hk.out.to hb); replace He := Lib.hid (He.out.to hb); clear ya; have ya := Ha.out.cell; clear yb; have yb := Hb.out.cell; clear yk; have yk := Hk.out.cell; clear ye; have ye := He.out.cell; clear hb)
        | (go_at_call 28; (with_reducible refine (AWK.out _).mono ?_); rintro ee w12 ⟨rfl, hb⟩; replace HB := Lib.hid (HB.out.trans (hb.mono HB.out.size)); replace Ha := Lib.hid (Ha.out.to hb); replace Hb := Lib.hid (Hb.out.to hb); replace Hk := Lib.hid (Hk.out.to hb); replace He := Lib.hid (He.out.to hb); clear ya; have ya := Ha.out.cell; clear yb; have yb := Hb.out.cell; clear yk; have yk := Hk.out.cell; clear ye; have ye := He.out.cell; clear hb))
      go_returns
      exact ⟨by first | rfl | simp, HB.out⟩
    · have hck : checkT (t.enc 0) ((1 : Nat) : Int) = 0 := check_of (V := 1) (by omega) hts htl
      have hbt : btOf (t.enc 0) = t := btOf_enc t
      have hlb : ∀ m ∈ t.enc 0, 0 ≤ m.label := fun m hm => (lb_labels htl m hm).1
      have A1 := Lib.hid fun W u s (h : TD W u (D.raw 1)) (h2 : TS W s (t.enc 0)) => (show Calls Tryz.prog 43 #[u, s] W (fun e w' => e = .returned (.tuple #[.bool true, .int .i64 0]) ∧ Below W.heap.size W w') from by have q := AC1.out W u s (t.enc 0) h h2 hlb; unfold accR at q; rw [if_pos hck, hbt, hf1] at q; exact q)
      have A2 := Lib.hid fun W u s (h : TD W u (E.raw 1)) (h2 : TS W s (t.enc 0)) => (show Calls Tryz.prog 43 #[u, s] W (fun e w' => e = .returned (.tuple #[.bool false, .int .i64 0]) ∧ Below W.heap.size W w') from by have q := AC2.out W u s (t.enc 0) h h2 hlb; unfold accR at q; rw [if_pos hck, hbt, hf2] at q; exact q)
      clear AC1 AC2 hck hbt hlb htl hts hf1 hf2
      rw [hi] at INC
      have EQ2 := Lib.hid fun W u s (h : TD W u ((prodM D E fun p q => p && q).raw 1)) (h2 : TD W s (D.mini.raw 1)) => (show Calls Tryz.prog 18 #[u, s] W (fun e w' => e = .returned (.bool false) ∧ Below W.heap.size W w') from by have q := EQT.out W u s h h2; rw [show eqR ((prodM D E fun p q => p && q).raw 1) (D.mini.raw 1) = false from by cases h9 : eqR ((prodM D E fun p q => p && q).raw 1) (D.mini.raw 1) with | false => rfl | true => exact absurd ((eqR_iff _ _).1 h9) hr] at q; exact q)
      clear EQT hi hr
      have ya := Ha.out.cell
      have yb := Hb.out.cell
      go_upto_region 3 with (go_at_call 30; (with_reducible refine (INC.out _ _ _ Ha.out.td Hb.out.td).mono ?_); intro ee w9 hx; obtain ⟨A9, c9, rfl, hb, ht⟩ := RetSm.openT (z := 0) rfl hx; clear hx; have HT9 := Lib.hid ht; clear ht; replace HB := Lib.hid (HB.out.trans (hb.mono HB.out.size)); replace Ha := Lib.hid (Ha.out.to hb); replace Hb := Lib.hid (Hb.out.to hb); clear ya; have ya := Ha.out.cell; clear yb; have yb := Hb.out.cell; clear hb)
      clear ya yb
      have ya := Ha.out.cell
      have yb := Hb.out.cell
      go_upto_region 4 with (go_at_call 41; refine (MIN.out _ _ Ha.out.td).mono ?_; intro e wx hx; obtain ⟨ik, jk, nk, ck, mk, dk, Ak, Bk, rfl, hb, ht⟩ := RetR.open (z := 0) rfl hx; have HX := Lib.hid (show Below w9.heap.size w9 wx from hb); have HT := Lib.hid ht; clear hx hb ht)
      clear ya yb
      refine wp_abs (fun X => Below w.heap.size w X ∧ Box X ga ia ja na ca ma da Aa Ba (D.raw 1) ∧ Box X gb ib jb nb cb mb db Ab Bb (E.raw 1) ∧ TS X (.slice A9 (t.enc 0).length c9) (t.enc 0) ∧ ∃ g, g = wx.heap.size ∧ Box X g ik jk nk ck mk dk Ak Bk (D.mini.raw 1)) ⟨HB.out.trans ((HX.out.alloc HX.out.size _).mono HB.out.size), Ha.out.to (HX.out.alloc HX.out.size _), Hb.out.to (HX.out.alloc HX.out.size _), HT9.out.below (HX.out.alloc HX.out.size _) (Nat.le_refl _), _, rfl, Row.new _ _ _, HT.out.below (Below.alloc (Below.refl _ _) (Nat.le_refl _) _) (Nat.le_refl _)⟩ ?_
      clear HX HT
      rintro W1 ⟨hw, ha, hb, ht9, gk, hg, hk⟩
      rw [← hg]
      replace HB := Lib.hid hw; replace Ha := Lib.hid ha; replace Hb := Lib.hid hb; have Hk := Lib.hid hk; replace HT9 := Lib.hid ht9
      clear hw ha hb hk ht9 hg
      have ya := Ha.out.cell
      have yb := Hb.out.cell
      have yk := Hk.out.cell
      go_upto_region 5 with (go_at_call 31; refine (AND.out _ _ _ Ha.out.td Hb.out.td).mono ?_; intro e wx hx; obtain ⟨ie, je, ne, ce, me, de, Ae, Be, rfl, hb, ht⟩ := RetR.open (z := 0) rfl hx; have HX := Lib.hid (show Below W1.heap.size W1 wx from hb); have HT := Lib.hid ht; clear hx hb ht)
      clear ya yb yk
      refine wp_abs (fun X => Below w.heap.size w X ∧ Box X ga ia ja na ca ma da Aa Ba (D.raw 1) ∧ Box X gb ib jb nb cb mb db Ab Bb (E.raw 1) ∧ Box X gk ik jk nk ck mk dk Ak Bk (D.mini.raw 1) ∧ TS X (.slice A9 (t.enc 0).length c9) (t.enc 0) ∧ ∃ g, g = wx.heap.size ∧ Box X g ie je ne ce me de Ae Be ((prodM D E fun p q => p && q).raw 1)) ⟨HB.out.trans ((HX.out.alloc HX.out.size _).mono HB.out.size), Ha.out.to (HX.out.alloc HX.out.size _), Hb.out.to (HX.out.alloc HX.out.size _), Hk.out.to (HX.out.alloc HX.out.size _), HT9.out.below (HX.out.alloc HX.out.size _) (Nat.le_refl _), _, rfl, Row.new _ _ _, HT.out.below (Below.alloc (Below.refl _ _) (Nat.le_refl _) _) (Nat.le_refl _)⟩ ?_
      clear HX HT
      rintro W2 ⟨hw, ha, hb, hk, ht9, ge, hg, he⟩
      rw [← hg]
      replace HB := Lib.hid hw; replace Ha := Lib.hid ha; replace Hb := Lib.hid hb; replace Hk := Lib.hid hk; have He := Lib.hid he; replace HT9 := Lib.hid ht9
      clear hw ha hb hk he ht9 hg
      have ya := Ha.out.cell
      have yb := Hb.out.cell
      have yk := Hk.out.cell
      have ye := He.out.cell
      obtain ⟨n9, hn9⟩ : ∃ n, n = (t.enc 0).length := ⟨_, rfl⟩
      simp only [← hn9] at HT9 ⊢
      clear hn9
      go_wp2_with (first
        | (go_at_call 43; (with_reducible refine (A1.out _ _ _ Ha.out.td HT9.out).mono ?_); rintro ee w21 ⟨rfl, hb⟩; replace HB := Lib.hid (HB.out.trans (hb.mono HB.out.size)); replace Ha := Lib.hid (Ha.out.to hb); replace Hb := Lib.hid (Hb.out.to hb); replace Hk := Lib.hid (Hk.out.to hb); replace He := Lib.hid (He.out.to hb); replace HT9 := Lib.hid (HT9.out.below hb (Nat.le_refl _)); clear ya; have ya := Ha.out.cell; clear yb; have yb := Hb.out.cell; clear yk; have yk := Hk.out.cell; clear ye; have ye := He.out.cell; clear hb)
        | (go_at_call 43; (with_reducible refine (A2.out _ _ _ Hb.out.td HT9.out).mono ?_); rintro ee w22 ⟨rfl, hb⟩; replace HB := Lib.hid (HB.out.trans (hb.mono HB.out.size)); replace Ha := Lib.hid (Ha.out.to hb); replace Hb := Lib.hid (Hb.out.to hb); replace Hk := Lib.hid (Hk.out.to hb); replace He := Lib.hid (He.out.to hb); replace HT9 := Lib.hid (HT9.out.below hb (Nat.le_refl _)); clear ya; have ya := Ha.out.cell; clear yb; have yb := Hb.out.cell; clear yk; have yk := Hk.out.cell; clear ye; have ye := He.out.cell; clear hb)
        | (go_at_call 18; (with_reducible refine (EQ2.out _ _ _ He.out.td Hk.out.td).mono ?_); rintro ee w11 ⟨rfl, hb⟩; replace HB := Lib.hid (HB.out.trans (hb.mono HB.out.size)); replace Ha := Lib.hid (Ha.out.to hb); replace Hb := Lib.hid (Hb.out.to hb); replace Hk := Lib.hid (Hk.out.to hb); replace He := Lib.hid (He.out.to hb); replace HT9 := Lib.hid (HT9.out.below hb (Nat.le_refl _)); clear ya; have ya := Ha.out.cell; clear yb; have yb := Hb.out.cell; clear yk; have yk := Hk.out.cell; clear ye; have ye := He.out.cell; clear hb)
        | (go_at_call 28; (with_reducible refine (AWK.out _).mono ?_); rintro ee w12 ⟨rfl, hb⟩; replace HB := Lib.hid (HB.out.trans (hb.mono HB.out.size)); replace Ha := Lib.hid (Ha.out.to hb); replace Hb := Lib.hid (Hb.out.to hb); replace Hk := Lib.hid (Hk.out.to hb); replace He := Lib.hid (He.out.to hb); clear ya; have ya := Ha.out.cell; clear yb; have yb := Hb.out.cell; clear yk; have yk := Hk.out.cell; clear ye; have ye := He.out.cell; clear hb))
      go_returns
      exact ⟨by first | rfl | simp, HB.out⟩
end Go.Proofs.YthkfjnmnoanhlaaGreatDoor
