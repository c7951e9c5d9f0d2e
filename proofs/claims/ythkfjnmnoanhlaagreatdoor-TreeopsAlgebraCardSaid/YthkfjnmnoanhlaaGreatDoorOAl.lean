/- Law: TreeopsAlgebra. -/
import Derived.Test.YthkfjnmnoanhlaaGreatDoorTwJ
import Derived.Test.YthkfjnmnoanhlaaGreatDoorAwP
import Derived.Test.YthkfjnmnoanhlaaGreatDoorAlP
import Derived.Test.YthkfjnmnoanhlaaGreatDoorPrd
import Derived.Test.YthkfjnmnoanhlaaGreatDoorEqD
import Derived.Test.YthkfjnmnoanhlaaGreatDoorDtL
import Derived.Deep.DeepCutAuto
set_option linter.unusedSimpArgs false
set_option linter.unusedVariables false
namespace Go.Proofs.YthkfjnmnoanhlaaGreatDoor
open Go.RowKit

set_option maxRecDepth 100000 in
set_option maxHeartbeats 16000000 in
theorem algebra_law (hsub : CSub 5 1) (haw : CAwk) (rp rq : Raw) (vp vq : Value) (w : World) (hvp : TD w vp rp) (hvq : TD w vq rq) :
    Calls Tryz.prog 7 #[vp, vq] w fun e w' => e = .returned (.bool true) ∧ Below w.heap.size w w' := by
  have SP := Lib.hid (fun W (h : Below w.heap.size w W) => hsub rp vp W (hvp.below h (Nat.le_refl _)))
  have SQ := Lib.hid (fun W (h : Below w.heap.size w W) => hsub rq vq W (hvq.below h (Nat.le_refl _)))
  have AWK := Lib.hid haw
  clear hsub haw
  obtain ⟨Ap, cp, Bp, dp, rfl⟩ := hvp.form
  obtain ⟨Aq, cq, Bq, dq, rfl⟩ := hvq.form
  obtain ⟨np, q1⟩ : ∃ n, n = rp.next.length := ⟨_, rfl⟩
  obtain ⟨mp, q2⟩ : ∃ n, n = rp.fin.length := ⟨_, rfl⟩
  obtain ⟨ip, q3⟩ : ∃ n, n = rp.vars := ⟨_, rfl⟩
  obtain ⟨jp, q4⟩ : ∃ n, n = rp.empty := ⟨_, rfl⟩
  rw [← q1, ← q2, ← q3, ← q4] at SP ⊢
  clear hvp q1 q2 q3 q4
  obtain ⟨nq, q1⟩ : ∃ n, n = rq.next.length := ⟨_, rfl⟩
  obtain ⟨mq, q2⟩ : ∃ n, n = rq.fin.length := ⟨_, rfl⟩
  obtain ⟨iq, q3⟩ : ∃ n, n = rq.vars := ⟨_, rfl⟩
  obtain ⟨jq, q4⟩ : ∃ n, n = rq.empty := ⟨_, rfl⟩
  rw [← q1, ← q2, ← q3, ← q4] at SQ ⊢
  clear hvq q1 q2 q3 q4
  go_enter Tryz.func7, Tryz.ntmps7
  go_upto_region 1 with fail
  refine wp_abs (fun X => Below w.heap.size w X ∧ ∃ gp gq, gp = w.heap.size ∧ gq = w.heap.size + 1 ∧ gq < X.heap.size ∧ Row X gp 25 #[.int .i64 ip, .int .i64 jp, .slice Ap np cp, .slice Bp mp dp] ∧ Row X gq 25 #[.int .i64 iq, .int .i64 jq, .slice Aq nq cq, .slice Bq mq dq]) ⟨by go_grown, _, _, rfl, rfl, by simp, by (repeat (first | (refine Row.lit ?_; simp only [World.size_alloc] <;> omega) | apply Row.alloc)), by (repeat (first | (refine Row.lit ?_; simp only [World.size_alloc] <;> omega) | apply Row.alloc))⟩ ?_
  rintro W0 ⟨hw, gp, gq, hgp, hgq, hlt, r1, r2⟩
  rw [← hgq, ← hgp]
  have HB := Lib.hid hw; have RP := Lib.hid r1; have RQ := Lib.hid r2; have HL := Lib.hid hlt
  clear hw r1 r2 hgp hgq hlt
  go_cut [5, 6] from 29 to 32 (fun u5 u6 wx => ∃ (x y : Nat) (D E : Dta), u5 = .pointer (some ⟨x, 0, none⟩) ∧ u6 = .pointer (some ⟨y, 0, none⟩) ∧ Below w.heap.size w wx ∧ D.Fit 1 ∧ E.Fit 1 ∧ D.n ≤ 5 ∧ E.n ≤ 5 ∧ (∃ i j n c m d A B, Box wx x i j n c m d A B (D.raw 1)) ∧ (∃ i j n c m d A B, Box wx y i j n c m d A B (E.raw 1)))
  case first =>
    refine region_slots (by kernel_rfl) (by kernel_rfl) [29, 31, 30, 32, 5, 6] [undef, undef, undef, undef, undef, undef] rfl rfl (fun f vs W => ∃ xa xb ra rb pa pb, vs = [xa, xb, ra, rb, pa, pb] ∧ TwoJ w W0.heap.size 5 1 gp gq #[.int .i64 ip, .int .i64 jp, .slice Ap np cp, .slice Bp mp dp] #[.int .i64 iq, .int .i64 jq, .slice Aq nq cq, .slice Bq mq dq] (.agg #[.int .i64 ip, .int .i64 jp, .slice Ap np cp, .slice Bp mp dp]) (.agg #[.int .i64 iq, .int .i64 jq, .slice Aq nq cq, .slice Bq mq dq]) (f 0) (f 2) (f 1) (f 3) (f 4) (f 5) (f 6) (f 7) xa xb ra rb pa pb W) ?_ ?_ ?_
    · exact ⟨_, _, _, _, _, _, rfl, HB.out.size, Nat.le_refl _, RP.out.lt, RQ.out.lt, HB.out.drew, RP.out.drew, RQ.out.drew, by simp, by simp, by simp, by simp, by simp, by simp, by simp, by simp, by simp⟩
    · refine StepsJ.cons ?_ (StepsJ.cons ?_ (StepsJ.cons ?_ (StepsJ.cons ?_ (StepsJ.cons ?_ (StepsJ.cons ?_ (StepsJ.cons ?_ (StepsJ.cons ?_ StepsJ.nil)))))))
      · rintro f vs W hl hf hd ⟨xa, xb, ra, rb, pa, pb, rfl, hJ⟩ K hK
        have y0 := hJ.hrp.cell
        have HJ := Lib.hid hJ
        clear hJ
        simp only [putS, Act.put, List.setIfInBounds_toArray, List.set_cons_zero, List.set_cons_succ]
        go_simp
        have hz := hK.out [_, xb, ra, rb, pa, pb] W rfl ⟨_, _, _, _, _, _, rfl, HJ.out.loadA⟩
        simp only [putS, Act.put, List.setIfInBounds_toArray, List.set_cons_zero, List.set_cons_succ] at hz
        exact hz
      · rintro f vs W hl hf hd ⟨xa, xb, ra, rb, pa, pb, rfl, hJ⟩ K hK
        have e0 := hJ.hxa (dep_of hd 0 (by kernel_rfl))
        subst e0
        have HJ := Lib.hid hJ
        clear hJ
        simp only [putS, Act.put, List.setIfInBounds_toArray, List.set_cons_zero, List.set_cons_succ]
        go_simp
        go_at_call 29
        refine (SP.out W HJ.out.below).mono ?_
        rintro e wx ⟨D, hD, hDn, v, rfl, hb, ht⟩
        have hs : SubJ wx W.heap.size 5 1 v := ⟨D, hD, hDn, ht⟩
        have hz := hK.out [_, xb, _, rb, pa, pb] wx rfl ⟨_, _, _, _, _, _, rfl, HJ.out.callA hb hs hf⟩
        simp only [putS, Act.put, List.setIfInBounds_toArray, List.set_cons_zero, List.set_cons_succ] at hz
        exact hz
      · rintro f vs W hl hf hd ⟨xa, xb, ra, rb, pa, pb, rfl, hJ⟩ K hK
        have y0 := hJ.hrq.cell
        have HJ := Lib.hid hJ
        clear hJ
        simp only [putS, Act.put, List.setIfInBounds_toArray, List.set_cons_zero, List.set_cons_succ]
        go_simp
        have hz := hK.out [xa, _, ra, rb, pa, pb] W rfl ⟨_, _, _, _, _, _, rfl, HJ.out.loadB⟩
        simp only [putS, Act.put, List.setIfInBounds_toArray, List.set_cons_zero, List.set_cons_succ] at hz
        exact hz
      · rintro f vs W hl hf hd ⟨xa, xb, ra, rb, pa, pb, rfl, hJ⟩ K hK
        have e0 := hJ.hxb (dep_of hd 2 (by kernel_rfl))
        subst e0
        have HJ := Lib.hid hJ
        clear hJ
        simp only [putS, Act.put, List.setIfInBounds_toArray, List.set_cons_zero, List.set_cons_succ]
        go_simp
        go_at_call 29
        refine (SQ.out W HJ.out.below).mono ?_
        rintro e wx ⟨D, hD, hDn, v, rfl, hb, ht⟩
        have hs : SubJ wx W.heap.size 5 1 v := ⟨D, hD, hDn, ht⟩
        have hz := hK.out [xa, _, ra, _, pa, pb] wx rfl ⟨_, _, _, _, _, _, rfl, HJ.out.callB hb hs hf⟩
        simp only [putS, Act.put, List.setIfInBounds_toArray, List.set_cons_zero, List.set_cons_succ] at hz
        exact hz
      · rintro f vs W hl hf hd ⟨xa, xb, ra, rb, pa, pb, rfl, hJ⟩ K hK
        have HJ := Lib.hid hJ
        clear hJ
        simp only [putS, Act.put, List.setIfInBounds_toArray, List.set_cons_zero, List.set_cons_succ]
        go_simp
        have hz := hK.out [xa, xb, ra, rb, _, pb] (W.alloc (.cells #[.int .i64 0, .int .i64 0, .slice none 0 0, .slice none 0 0] 25)) rfl ⟨_, _, _, _, _, _, rfl, HJ.out.allocA hf⟩
        simp only [putS, Act.put, List.setIfInBounds_toArray, List.set_cons_zero, List.set_cons_succ] at hz
        exact hz
      · rintro f vs W hl hf hd ⟨xa, xb, ra, rb, pa, pb, rfl, hJ⟩ K hK
        have HJ := Lib.hid hJ
        clear hJ
        simp only [putS, Act.put, List.setIfInBounds_toArray, List.set_cons_zero, List.set_cons_succ]
        go_simp
        have hz := hK.out [xa, xb, ra, rb, pa, _] (W.alloc (.cells #[.int .i64 0, .int .i64 0, .slice none 0 0, .slice none 0 0] 25)) rfl ⟨_, _, _, _, _, _, rfl, HJ.out.allocB hf⟩
        simp only [putS, Act.put, List.setIfInBounds_toArray, List.set_cons_zero, List.set_cons_succ] at hz
        exact hz
      · rintro f vs W hl hf hd ⟨xa, xb, ra, rb, pa, pb, rfl, hJ⟩ K hK
        have d1 : f 4 = true := dep_of hd 4 (by kernel_rfl)
        have d2 : f 1 = true := dep_of hd 1 (by kernel_rfl)
        revert hK
        generalize hgen : (Shut _ → _) = G
        obtain ⟨g, x0, x1, x2, x3, rfl, hg1, hg2, _⟩ := hJ.hpa d1
        obtain ⟨D, hD, hDn, hto⟩ := hJ.hra d2
        obtain ⟨i, j, A, n, c, A', m, d, rfl⟩ := hto.shape
        subst hgen
        intro hK
        have y0 := hg2.cell; have y1 := hg2.free; have y2 := hg2.lt
        have q0 := y0 0; have q1 := y0 1; have q2 := y0 2; have q3 := y0 3
        simp only [List.getElem?_toArray, List.getElem?_cons_zero, List.getElem?_cons_succ] at q0 q1 q2 q3
        clear y0
        have HJ := Lib.hid hJ; have HD1 := Lib.hid d1; have HD2 := Lib.hid d2
        clear hJ hto hg1 d1 d2
        simp only [putS, Act.put, List.setIfInBounds_toArray, List.set_cons_zero, List.set_cons_succ]
        go_simp
        have hz := hK.out [xa, xb, _, rb, _, pb] (set4 W g (.int .i64 i) (.int .i64 j) (.slice A n c) (.slice A' m d)) rfl ⟨_, _, _, _, _, _, rfl, HJ.out.storeA HD1.out HD2.out rfl rfl⟩
        simp only [putS, Act.put, List.setIfInBounds_toArray, List.set_cons_zero, List.set_cons_succ] at hz
        unfold set4 at hz
        exact hz
      · rintro f vs W hl hf hd ⟨xa, xb, ra, rb, pa, pb, rfl, hJ⟩ K hK
        have d1 : f 5 = true := dep_of hd 5 (by kernel_rfl)
        have d2 : f 3 = true := dep_of hd 3 (by kernel_rfl)
        revert hK
        generalize hgen : (Shut _ → _) = G
        obtain ⟨g, x0, x1, x2, x3, rfl, hg1, hg2, _⟩ := hJ.hpb d1
        obtain ⟨D, hD, hDn, hto⟩ := hJ.hrb d2
        obtain ⟨i, j, A, n, c, A', m, d, rfl⟩ := hto.shape
        subst hgen
        intro hK
        have y0 := hg2.cell; have y1 := hg2.free; have y2 := hg2.lt
        have q0 := y0 0; have q1 := y0 1; have q2 := y0 2; have q3 := y0 3
        simp only [List.getElem?_toArray, List.getElem?_cons_zero, List.getElem?_cons_succ] at q0 q1 q2 q3
        clear y0
        have HJ := Lib.hid hJ; have HD1 := Lib.hid d1; have HD2 := Lib.hid d2
        clear hJ hto hg1 d1 d2
        simp only [putS, Act.put, List.setIfInBounds_toArray, List.set_cons_zero, List.set_cons_succ]
        go_simp
        have hz := hK.out [xa, xb, ra, _, pa, _] (set4 W g (.int .i64 i) (.int .i64 j) (.slice A n c) (.slice A' m d)) rfl ⟨_, _, _, _, _, _, rfl, HJ.out.storeB HD1.out HD2.out rfl rfl⟩
        simp only [putS, Act.put, List.setIfInBounds_toArray, List.set_cons_zero, List.set_cons_succ] at hz
        unfold set4 at hz
        exact hz
    · rintro f vs W hl hall ⟨xa, xb, ra, rb, pa, pb, rfl, hJ⟩
      obtain ⟨x, x0, x1, x2, x3, rfl, _, hx, hxs⟩ := hJ.hpa (hall 4 (by decide))
      obtain ⟨y, y0, y1, y2, y3, rfl, _, hy, hys⟩ := hJ.hpb (hall 5 (by decide))
      obtain ⟨D, hD, hDn, ht⟩ := hJ.hra (hall 1 (by decide))
      obtain ⟨E, hE, hEn, hu⟩ := hJ.hrb (hall 3 (by decide))
      have hx2 := hxs (hall 6 (by decide)); have hy2 := hys (hall 7 (by decide))
      obtain ⟨A1, c1, B1, d1, rfl⟩ := ht.td.form
      obtain ⟨A2, c2, B2, d2, rfl⟩ := hu.td.form
      simp only [Value.agg.injEq, Array.mk.injEq, List.cons.injEq, and_true] at hx2 hy2
      obtain ⟨rfl, rfl, rfl, rfl⟩ := hx2
      obtain ⟨rfl, rfl, rfl, rfl⟩ := hy2
      have HF : Hid (∃ (x' y' : Nat) (D E : Dta), Value.pointer (some ⟨x, 0, none⟩) = .pointer (some ⟨x', 0, none⟩) ∧ Value.pointer (some ⟨y, 0, none⟩) = .pointer (some ⟨y', 0, none⟩) ∧ Below w.heap.size w W ∧ D.Fit 1 ∧ E.Fit 1 ∧ D.n ≤ 5 ∧ E.n ≤ 5 ∧ (∃ i j n c m d A B, Box W x' i j n c m d A B (D.raw 1)) ∧ (∃ i j n c m d A B, Box W y' i j n c m d A B (E.raw 1))) := ⟨x, y, D, E, rfl, rfl, hJ.below, hD, hE, hDn, hEn, ⟨_, _, _, _, _, _, _, _, hx, ht.td⟩, _, _, _, _, _, _, _, _, hy, hu.td⟩
      clear hJ hx hy ht hu hxs hys
      simp only [putS, Act.put, List.setIfInBounds_toArray, List.set_cons_zero, List.set_cons_succ]
      go_wp2
      go_meet
      exact HF.out
  case rest =>
    obtain ⟨ga, gb, D, E, rfl, rfl, hb, hD, hE, hDn, hEn, ⟨ia, ja, na, ca, ma, da, Aa, Ba, ha⟩, ib, jb, nb, cb, mb, db, Ab, Bb, hbb⟩ := hcut
    rename_i wc
    clear HB RP RQ HL SP SQ
    have HB := Lib.hid hb; have Ha := Lib.hid ha; have Hb := Lib.hid hbb
    clear hb ha hbb
    have F := alg_facts hD hE hDn hEn
    have M1 := Lib.hid fun W u (h : TD W u (D.raw 1)) => (show Calls Tryz.prog 41 #[u] W (RetR W (D.mini.raw 1) 0) from by exact minimize_ok D 1 hD u W h)
    have N1x := Lib.hid fun W u (h : TD W u (D.raw 1)) => (show Calls Tryz.prog 14 #[u] W (RetR W (D.notM.raw 1) 0) from by exact not_ok D 1 hD u W h)
    have N2x := Lib.hid fun W u (h : TD W u (E.raw 1)) => (show Calls Tryz.prog 14 #[u] W (RetR W (E.notM.raw 1) 0) from by exact not_ok E 1 hE u W h)
    have N3x := Lib.hid fun W u (h : TD W u (D.notM.raw 1)) => (show Calls Tryz.prog 14 #[u] W (RetR W (D.mini.raw 1) 0) from by have q := not_ok D.notM 1 F.nx u W h; rw [show D.notM.neg.mini.raw 1 = D.mini.raw 1 from F.e1] at q; exact q)
    have A1x := Lib.hid fun W u s (h : TD W u (D.raw 1)) (h2 : TD W s (E.raw 1)) => (show Calls Tryz.prog 31 #[u, s] W (RetR W ((prodM D E fun p q => p && q).raw 1) 0) from by have q := And_ok D E 1 hD hE u s W h h2; rw [opR_ok F.lxy] at q; exact q)
    have A2x := Lib.hid fun W u s (h : TD W u (E.raw 1)) (h2 : TD W s (D.raw 1)) => (show Calls Tryz.prog 31 #[u, s] W (RetR W ((prodM D E fun p q => p && q).raw 1) 0) from by have q := And_ok E D 1 hE hD u s W h h2; rw [opR_ok F.lyx] at q; rw [← F.e2] at q; exact q)
    have O1x := Lib.hid fun W u s (h : TD W u (D.notM.raw 1)) (h2 : TD W s (E.notM.raw 1)) => (show Calls Tryz.prog 33 #[u, s] W (RetR W ((prodM D.notM E.notM fun p q => p || q).raw 1) 0) from by have q := Or_ok D.notM E.notM 1 F.nx F.ny u s W h h2; rw [opR_ok F.lnn] at q; exact q)
    have O2x := Lib.hid fun W u s (h : TD W u (E.notM.raw 1)) (h2 : TD W s (D.notM.raw 1)) => (show Calls Tryz.prog 33 #[u, s] W (RetR W ((prodM D.notM E.notM fun p q => p || q).raw 1) 0) from by have q := Or_ok E.notM D.notM 1 F.ny F.nx u s W h h2; rw [opR_ok F.lmm] at q; rw [← F.e3] at q; exact q)
    have N4x := Lib.hid fun W u (h : TD W u ((prodM D.notM E.notM fun p q => p || q).raw 1)) => (show Calls Tryz.prog 14 #[u] W (RetR W ((prodM D E fun p q => p && q).raw 1) 0) from by have q := not_ok (prodM D.notM E.notM fun p q => p || q) 1 F.or u W h; rw [show (prodM D.notM E.notM fun p q => p || q).neg.mini.raw 1 = (prodM D E fun p q => p && q).raw 1 from F.e4.symm] at q; exact q)
    have M2x := Lib.hid fun W u s (h : TD W u (D.raw 1)) (h2 : TD W s (E.raw 1)) => (show Calls Tryz.prog 35 #[u, s] W (RetR W ((prodM D E fun p q => p && !q).raw 1) 0) from by have q := Minus_ok D E 1 hD hE u s W h h2; rw [opR_ok F.lxy] at q; exact q)
    have A3x := Lib.hid fun W u s (h : TD W u (D.raw 1)) (h2 : TD W s (E.notM.raw 1)) => (show Calls Tryz.prog 31 #[u, s] W (RetR W ((prodM D E fun p q => p && !q).raw 1) 0) from by have q := And_ok D E.notM 1 hD F.ny u s W h h2; rw [opR_ok F.lxn] at q; rw [← F.e5] at q; exact q)
    have Q1x := Lib.hid fun W u s (h : TD W u (D.mini.raw 1)) (h2 : TD W s (D.mini.raw 1)) => (show Calls Tryz.prog 18 #[u, s] W (fun e w' => e = .returned (.bool true) ∧ Below W.heap.size W w') from by have q := equalTD _ _ u s W h h2 (show Dta.Fit 1 D.mini from ⟨Dta.mini_ok hD.ok, Nat.le_trans (Dta.mini_n hD.ok) hD.n64, hD.v3, (D.mini_canon hD.ok).2.1.trans hD.L⟩).low; rw [eqR_self] at q; exact q)
    have Q2x := Lib.hid fun W u s (h : TD W u ((prodM D E fun p q => p && q).raw 1)) (h2 : TD W s ((prodM D E fun p q => p && q).raw 1)) => (show Calls Tryz.prog 18 #[u, s] W (fun e w' => e = .returned (.bool true) ∧ Below W.heap.size W w') from by have q := equalTD _ _ u s W h h2 (prodM_fit hD hE _ F.lxy).low; rw [eqR_self] at q; exact q)
    have Q3x := Lib.hid fun W u s (h : TD W u ((prodM D.notM E.notM fun p q => p || q).raw 1)) (h2 : TD W s ((prodM D.notM E.notM fun p q => p || q).raw 1)) => (show Calls Tryz.prog 18 #[u, s] W (fun e w' => e = .returned (.bool true) ∧ Below W.heap.size W w') from by have q := equalTD _ _ u s W h h2 F.or.low; rw [eqR_self] at q; exact q)
    have Q4x := Lib.hid fun W u s (h : TD W u ((prodM D E fun p q => p && !q).raw 1)) (h2 : TD W s ((prodM D E fun p q => p && !q).raw 1)) => (show Calls Tryz.prog 18 #[u, s] W (fun e w' => e = .returned (.bool true) ∧ Below W.heap.size W w') from by have q := equalTD _ _ u s W h h2 (prodM_fit hD hE _ F.lxy).low; rw [eqR_self] at q; exact q)
    clear F hD hE hDn hEn
    have ya := Ha.out.cell
    have yb := Hb.out.cell
    go_upto_region 3 with (go_at_call 41; refine (M1.out _ _ Ha.out.td).mono ?_; intro e wx hx; obtain ⟨ic, jc, nc, cc, mc, dc, Ac, Bc, rfl, hb, ht⟩ := RetR.open (z := 0) rfl hx; have HX := Lib.hid (show Below wc.heap.size wc wx from hb); have HT := Lib.hid ht; clear hx hb ht)
    clear ya yb
    refine wp_abs (fun X => Below w.heap.size w X ∧ Box X ga ia ja na ca ma da Aa Ba (D.raw 1) ∧ Box X gb ib jb nb cb mb db Ab Bb (E.raw 1) ∧ ∃ g, g = wx.heap.size ∧ Box X g ic jc nc cc mc dc Ac Bc (D.mini.raw 1)) ⟨HB.out.trans ((HX.out.alloc HX.out.size _).mono HB.out.size), Ha.out.to (HX.out.alloc HX.out.size _), Hb.out.to (HX.out.alloc HX.out.size _), _, rfl, Row.new _ _ _, HT.out.below (Below.alloc (Below.refl _ _) (Nat.le_refl _) _) (Nat.le_refl _)⟩ ?_
    clear HX HT
    rintro W1 ⟨hw, ha, hb, gc, hg, hc⟩
    rw [← hg]
    replace HB := Lib.hid hw; replace Ha := Lib.hid ha; replace Hb := Lib.hid hb; have Hc := Lib.hid hc
    clear hw ha hb hc hg
    have ya := Ha.out.cell
    have yb := Hb.out.cell
    have yc := Hc.out.cell
    go_upto_region 4 with (go_at_call 14; refine (N1x.out _ _ Ha.out.td).mono ?_; intro e wx hx; obtain ⟨ie, je, ne, ce, me, de, Ae, Be, rfl, hb, ht⟩ := RetR.open (z := 0) rfl hx; have HX := Lib.hid (show Below W1.heap.size W1 wx from hb); have HT := Lib.hid ht; clear hx hb ht)
    clear ya yb yc
    refine wp_abs (fun X => Below w.heap.size w X ∧ Box X ga ia ja na ca ma da Aa Ba (D.raw 1) ∧ Box X gb ib jb nb cb mb db Ab Bb (E.raw 1) ∧ Box X gc ic jc nc cc mc dc Ac Bc (D.mini.raw 1) ∧ ∃ g, g = wx.heap.size ∧ Box X g ie je ne ce me de Ae Be (D.notM.raw 1)) ⟨HB.out.trans ((HX.out.alloc HX.out.size _).mono HB.out.size), Ha.out.to (HX.out.alloc HX.out.size _), Hb.out.to (HX.out.alloc HX.out.size _), Hc.out.to (HX.out.alloc HX.out.size _), _, rfl, Row.new _ _ _, HT.out.below (Below.alloc (Below.refl _ _) (Nat.le_refl _) _) (Nat.le_refl _)⟩ ?_
    clear HX HT
    rintro W2 ⟨hw, ha, hb, hc, ge, hg, he⟩
    rw [← hg]
    replace HB := Lib.hid hw; replace Ha := Lib.hid ha; replace Hb := Lib.hid hb; replace Hc := Lib.hid hc; have He := Lib.hid he
    clear hw ha hb hc he hg
    have ya := Ha.out.cell
    have yb := Hb.out.cell
    have yc := Hc.out.cell
    have ye := He.out.cell
    go_upto_region 5 with (go_at_call 14; refine (N2x.out _ _ Hb.out.td).mono ?_; intro e wx hx; obtain ⟨iq, jq, nq, cq, mq, dq, Aq, Bq, rfl, hb, ht⟩ := RetR.open (z := 0) rfl hx; have HX := Lib.hid (show Below W2.heap.size W2 wx from hb); have HT := Lib.hid ht; clear hx hb ht)
    clear ya yb yc ye
    refine wp_abs (fun X => Below w.heap.size w X ∧ Box X ga ia ja na ca ma da Aa Ba (D.raw 1) ∧ Box X gb ib jb nb cb mb db Ab Bb (E.raw 1) ∧ Box X gc ic jc nc cc mc dc Ac Bc (D.mini.raw 1) ∧ Box X ge ie je ne ce me de Ae Be (D.notM.raw 1) ∧ ∃ g, g = wx.heap.size ∧ Box X g iq jq nq cq mq dq Aq Bq (E.notM.raw 1)) ⟨HB.out.trans ((HX.out.alloc HX.out.size _).mono HB.out.size), Ha.out.to (HX.out.alloc HX.out.size _), Hb.out.to (HX.out.alloc HX.out.size _), Hc.out.to (HX.out.alloc HX.out.size _), He.out.to (HX.out.alloc HX.out.size _), _, rfl, Row.new _ _ _, HT.out.below (Below.alloc (Below.refl _ _) (Nat.le_refl _) _) (Nat.le_refl _)⟩ ?_
    clear HX HT
    rintro W3 ⟨hw, ha, hb, hc, he, gq, hg, hq⟩
    rw [← hg]
    replace HB := Lib.hid hw; replace Ha := Lib.hid ha; replace Hb := Lib.hid hb; replace Hc := Lib.hid hc; replace He := Lib.hid he; have Hq := Lib.hid hq
    clear hw ha hb hc he hq hg
    have ya := Ha.out.cell
    have yb := Hb.out.cell
    have yc := Hc.out.cell
    have ye := He.out.cell
    have yq := Hq.out.cell
    go_upto_region 6 with (go_at_call 14; refine (N3x.out _ _ He.out.td).mono ?_; intro e wx hx; obtain ⟨ih, jh, nh, ch, mh, dh, Ah, Bh, rfl, hb, ht⟩ := RetR.open (z := 0) rfl hx; have HX := Lib.hid (show Below W3.heap.size W3 wx from hb); have HT := Lib.hid ht; clear hx hb ht)
    clear ya yb yc ye yq
    refine wp_abs (fun X => Below w.heap.size w X ∧ Box X ga ia ja na ca ma da Aa Ba (D.raw 1) ∧ Box X gb ib jb nb cb mb db Ab Bb (E.raw 1) ∧ Box X gc ic jc nc cc mc dc Ac Bc (D.mini.raw 1) ∧ Box X ge ie je ne ce me de Ae Be (D.notM.raw 1) ∧ Box X gq iq jq nq cq mq dq Aq Bq (E.notM.raw 1) ∧ ∃ g, g = wx.heap.size ∧ Box X g ih jh nh ch mh dh Ah Bh (D.mini.raw 1)) ⟨HB.out.trans ((HX.out.alloc HX.out.size _).mono HB.out.size), Ha.out.to (HX.out.alloc HX.out.size _), Hb.out.to (HX.out.alloc HX.out.size _), Hc.out.to (HX.out.alloc HX.out.size _), He.out.to (HX.out.alloc HX.out.size _), Hq.out.to (HX.out.alloc HX.out.size _), _, rfl, Row.new _ _ _, HT.out.below (Below.alloc (Below.refl _ _) (Nat.le_refl _) _) (Nat.le_refl _)⟩ ?_
    clear HX HT
    rintro W4 ⟨hw, ha, hb, hc, he, hq, gh, hg, hh⟩
    rw [← hg]
    replace HB := Lib.hid hw; replace Ha := Lib.hid ha; replace Hb := Lib.hid hb; replace Hc := Lib.hid hc; replace He := Lib.hid he; replace Hq := Lib.hid hq; have Hh := Lib.hid hh
    clear hw ha hb hc he hq hh hg
    have ya := Ha.out.cell
    have yb := Hb.out.cell
    have yc := Hc.out.cell
    have ye := He.out.cell
    have yq := Hq.out.cell
    have yh := Hh.out.cell
    go_upto_region 7 with (go_at_call 31; refine (A1x.out _ _ _ Ha.out.td Hb.out.td).mono ?_; intro e wx hx; obtain ⟨ik, jk, nk, ck, mk, dk, Ak, Bk, rfl, hb, ht⟩ := RetR.open (z := 0) rfl hx; have HX := Lib.hid (show Below W4.heap.size W4 wx from hb); have HT := Lib.hid ht; clear hx hb ht)
    clear ya yb yc ye yq yh
    refine wp_abs (fun X => Below w.heap.size w X ∧ Box X ga ia ja na ca ma da Aa Ba (D.raw 1) ∧ Box X gb ib jb nb cb mb db Ab Bb (E.raw 1) ∧ Box X gc ic jc nc cc mc dc Ac Bc (D.mini.raw 1) ∧ Box X ge ie je ne ce me de Ae Be (D.notM.raw 1) ∧ Box X gq iq jq nq cq mq dq Aq Bq (E.notM.raw 1) ∧ Box X gh ih jh nh ch mh dh Ah Bh (D.mini.raw 1) ∧ ∃ g, g = wx.heap.size ∧ Box X g ik jk nk ck mk dk Ak Bk ((prodM D E fun p q => p && q).raw 1)) ⟨HB.out.trans ((HX.out.alloc HX.out.size _).mono HB.out.size), Ha.out.to (HX.out.alloc HX.out.size _), Hb.out.to (HX.out.alloc HX.out.size _), Hc.out.to (HX.out.alloc HX.out.size _), He.out.to (HX.out.alloc HX.out.size _), Hq.out.to (HX.out.alloc HX.out.size _), Hh.out.to (HX.out.alloc HX.out.size _), _, rfl, Row.new _ _ _, HT.out.below (Below.alloc (Below.refl _ _) (Nat.le_refl _) _) (Nat.le_refl _)⟩ ?_
    clear HX HT
    rintro W5 ⟨hw, ha, hb, hc, he, hq, hh, gk, hg, hk⟩
    rw [← hg]
    replace HB := Lib.hid hw; replace Ha := Lib.hid ha; replace Hb := Lib.hid hb; replace Hc := Lib.hid hc; replace He := Lib.hid he; replace Hq := Lib.hid hq; replace Hh := Lib.hid hh; have Hk := Lib.hid hk
    clear hw ha hb hc he hq hh hk hg
    have ya := Ha.out.cell
    have yb := Hb.out.cell
    have yc := Hc.out.cell
    have ye := He.out.cell
    have yq := Hq.out.cell
    have yh := Hh.out.cell
    have yk := Hk.out.cell
    go_upto_region 8 with (go_at_call 31; refine (A2x.out _ _ _ Hb.out.td Ha.out.td).mono ?_; intro e wx hx; obtain ⟨ip, jp, np, cp, mp, dp, Ap, Bp, rfl, hb, ht⟩ := RetR.open (z := 0) rfl hx; have HX := Lib.hid (show Below W5.heap.size W5 wx from hb); have HT := Lib.hid ht; clear hx hb ht)
    clear ya yb yc ye yq yh yk
    refine wp_abs (fun X => Below w.heap.size w X ∧ Box X ga ia ja na ca ma da Aa Ba (D.raw 1) ∧ Box X gb ib jb nb cb mb db Ab Bb (E.raw 1) ∧ Box X gc ic jc nc cc mc dc Ac Bc (D.mini.raw 1) ∧ Box X ge ie je ne ce me de Ae Be (D.notM.raw 1) ∧ Box X gq iq jq nq cq mq dq Aq Bq (E.notM.raw 1) ∧ Box X gh ih jh nh ch mh dh Ah Bh (D.mini.raw 1) ∧ Box X gk ik jk nk ck mk dk Ak Bk ((prodM D E fun p q => p && q).raw 1) ∧ ∃ g, g = wx.heap.size ∧ Box X g ip jp np cp mp dp Ap Bp ((prodM D E fun p q => p && q).raw 1)) ⟨HB.out.trans ((HX.out.alloc HX.out.size _).mono HB.out.size), Ha.out.to (HX.out.alloc HX.out.size _), Hb.out.to (HX.out.alloc HX.out.size _), Hc.out.to (HX.out.alloc HX.out.size _), He.out.to (HX.out.alloc HX.out.size _), Hq.out.to (HX.out.alloc HX.out.size _), Hh.out.to (HX.out.alloc HX.out.size _), Hk.out.to (HX.out.alloc HX.out.size _), _, rfl, Row.new _ _ _, HT.out.below (Below.alloc (Below.refl _ _) (Nat.le_refl _) _) (Nat.le_refl _)⟩ ?_
    clear HX HT
    rintro W6 ⟨hw, ha, hb, hc, he, hq, hh, hk, gp, hg, hp⟩
    rw [← hg]
    replace HB := Lib.hid hw; replace Ha := Lib.hid ha; replace Hb := Lib.hid hb; replace Hc := Lib.hid hc; replace He := Lib.hid he; replace Hq := Lib.hid hq; replace Hh := Lib.hid hh; replace Hk := Lib.hid hk; have Hp := Lib.hid hp
    clear hw ha hb hc he hq hh hk hp hg
    have ya := Ha.out.cell
    have yb := Hb.out.cell
    have yc := Hc.out.cell
    have ye := He.out.cell
    have yq := Hq.out.cell
    have yh := Hh.out.cell
    have yk := Hk.out.cell
    have yp := Hp.out.cell
    go_upto_region 9 with (go_at_call 33; refine (O1x.out _ _ _ He.out.td Hq.out.td).mono ?_; intro e wx hx; obtain ⟨iu, ju, nu, cu, mu, du, Au, Bu, rfl, hb, ht⟩ := RetR.open (z := 0) rfl hx; have HX := Lib.hid (show Below W6.heap.size W6 wx from hb); have HT := Lib.hid ht; clear hx hb ht)
    clear ya yb yc ye yq yh yk yp
    refine wp_abs (fun X => Below w.heap.size w X ∧ Box X ga ia ja na ca ma da Aa Ba (D.raw 1) ∧ Box X gb ib jb nb cb mb db Ab Bb (E.raw 1) ∧ Box X gc ic jc nc cc mc dc Ac Bc (D.mini.raw 1) ∧ Box X ge ie je ne ce me de Ae Be (D.notM.raw 1) ∧ Box X gq iq jq nq cq mq dq Aq Bq (E.notM.raw 1) ∧ Box X gh ih jh nh ch mh dh Ah Bh (D.mini.raw 1) ∧ Box X gk ik jk nk ck mk dk Ak Bk ((prodM D E fun p q => p && q).raw 1) ∧ Box X gp ip jp np cp mp dp Ap Bp ((prodM D E fun p q => p && q).raw 1) ∧ ∃ g, g = wx.heap.size ∧ Box X g iu ju nu cu mu du Au Bu ((prodM D.notM E.notM fun p q => p || q).raw 1)) ⟨HB.out.trans ((HX.out.alloc HX.out.size _).mono HB.out.size), Ha.out.to (HX.out.alloc HX.out.size _), Hb.out.to (HX.out.alloc HX.out.size _), Hc.out.to (HX.out.alloc HX.out.size _), He.out.to (HX.out.alloc HX.out.size _), Hq.out.to (HX.out.alloc HX.out.size _), Hh.out.to (HX.out.alloc HX.out.size _), Hk.out.to (HX.out.alloc HX.out.size _), Hp.out.to (HX.out.alloc HX.out.size _), _, rfl, Row.new _ _ _, HT.out.below (Below.alloc (Below.refl _ _) (Nat.le_refl _) _) (Nat.le_refl _)⟩ ?_
    clear HX HT
    rintro W7 ⟨hw, ha, hb, hc, he, hq, hh, hk, hp, gu, hg, hu⟩
    rw [← hg]
    replace HB := Lib.hid hw; replace Ha := Lib.hid ha; replace Hb := Lib.hid hb; replace Hc := Lib.hid hc; replace He := Lib.hid he; replace Hq := Lib.hid hq; replace Hh := Lib.hid hh; replace Hk := Lib.hid hk; replace Hp := Lib.hid hp; have Hu := Lib.hid hu
    clear hw ha hb hc he hq hh hk hp hu hg
    have ya := Ha.out.cell
    have yb := Hb.out.cell
    have yc := Hc.out.cell
    have ye := He.out.cell
    have yq := Hq.out.cell
    have yh := Hh.out.cell
    have yk := Hk.out.cell
    have yp := Hp.out.cell
    have yu := Hu.out.cell
    go_upto_region 10 with (go_at_call 33; refine (O2x.out _ _ _ Hq.out.td He.out.td).mono ?_; intro e wx hx; obtain ⟨iv, jv, nv, cv, mv, dv, Av, Bv, rfl, hb, ht⟩ := RetR.open (z := 0) rfl hx; have HX := Lib.hid (show Below W7.heap.size W7 wx from hb); have HT := Lib.hid ht; clear hx hb ht)
    clear ya yb yc ye yq yh yk yp yu
    refine wp_abs (fun X => Below w.heap.size w X ∧ Box X ga ia ja na ca ma da Aa Ba (D.raw 1) ∧ Box X gb ib jb nb cb mb db Ab Bb (E.raw 1) ∧ Box X gc ic jc nc cc mc dc Ac Bc (D.mini.raw 1) ∧ Box X ge ie je ne ce me de Ae Be (D.notM.raw 1) ∧ Box X gq iq jq nq cq mq dq Aq Bq (E.notM.raw 1) ∧ Box X gh ih jh nh ch mh dh Ah Bh (D.mini.raw 1) ∧ Box X gk ik jk nk ck mk dk Ak Bk ((prodM D E fun p q => p && q).raw 1) ∧ Box X gp ip jp np cp mp dp Ap Bp ((prodM D E fun p q => p && q).raw 1) ∧ Box X gu iu ju nu cu mu du Au Bu ((prodM D.notM E.notM fun p q => p || q).raw 1) ∧ ∃ g, g = wx.heap.size ∧ Box X g iv jv nv cv mv dv Av Bv ((prodM D.notM E.notM fun p q => p || q).raw 1)) ⟨HB.out.trans ((HX.out.alloc HX.out.size _).mono HB.out.size), Ha.out.to (HX.out.alloc HX.out.size _), Hb.out.to (HX.out.alloc HX.out.size _), Hc.out.to (HX.out.alloc HX.out.size _), He.out.to (HX.out.alloc HX.out.size _), Hq.out.to (HX.out.alloc HX.out.size _), Hh.out.to (HX.out.alloc HX.out.size _), Hk.out.to (HX.out.alloc HX.out.size _), Hp.out.to (HX.out.alloc HX.out.size _), Hu.out.to (HX.out.alloc HX.out.size _), _, rfl, Row.new _ _ _, HT.out.below (Below.alloc (Below.refl _ _) (Nat.le_refl _) _) (Nat.le_refl _)⟩ ?_
    clear HX HT
    rintro W8 ⟨hw, ha, hb, hc, he, hq, hh, hk, hp, hu, gv, hg, hv⟩
    rw [← hg]
    replace HB := Lib.hid hw; replace Ha := Lib.hid ha; replace Hb := Lib.hid hb; replace Hc := Lib.hid hc; replace He := Lib.hid he; replace Hq := Lib.hid hq; replace Hh := Lib.hid hh; replace Hk := Lib.hid hk; replace Hp := Lib.hid hp; replace Hu := Lib.hid hu; have Hv := Lib.hid hv
    clear hw ha hb hc he hq hh hk hp hu hv hg
    have ya := Ha.out.cell
    have yb := Hb.out.cell
    have yc := Hc.out.cell
    have ye := He.out.cell
    have yq := Hq.out.cell
    have yh := Hh.out.cell
    have yk := Hk.out.cell
    have yp := Hp.out.cell
    have yu := Hu.out.cell
    have yv := Hv.out.cell
    go_upto_region 11 with (go_at_call 14; refine (N4x.out _ _ Hu.out.td).mono ?_; intro e wx hx; obtain ⟨ix, jx, nx, cx, mx, dx, Ax, Bx, rfl, hb, ht⟩ := RetR.open (z := 0) rfl hx; have HX := Lib.hid (show Below W8.heap.size W8 wx from hb); have HT := Lib.hid ht; clear hx hb ht)
    clear ya yb yc ye yq yh yk yp yu yv
    refine wp_abs (fun X => Below w.heap.size w X ∧ Box X ga ia ja na ca ma da Aa Ba (D.raw 1) ∧ Box X gb ib jb nb cb mb db Ab Bb (E.raw 1) ∧ Box X gc ic jc nc cc mc dc Ac Bc (D.mini.raw 1) ∧ Box X ge ie je ne ce me de Ae Be (D.notM.raw 1) ∧ Box X gq iq jq nq cq mq dq Aq Bq (E.notM.raw 1) ∧ Box X gh ih jh nh ch mh dh Ah Bh (D.mini.raw 1) ∧ Box X gk ik jk nk ck mk dk Ak Bk ((prodM D E fun p q => p && q).raw 1) ∧ Box X gp ip jp np cp mp dp Ap Bp ((prodM D E fun p q => p && q).raw 1) ∧ Box X gu iu ju nu cu mu du Au Bu ((prodM D.notM E.notM fun p q => p || q).raw 1) ∧ Box X gv iv jv nv cv mv dv Av Bv ((prodM D.notM E.notM fun p q => p || q).raw 1) ∧ ∃ g, g = wx.heap.size ∧ Box X g ix jx nx cx mx dx Ax Bx ((prodM D E fun p q => p && q).raw 1)) ⟨HB.out.trans ((HX.out.alloc HX.out.size _).mono HB.out.size), Ha.out.to (HX.out.alloc HX.out.size _), Hb.out.to (HX.out.alloc HX.out.size _), Hc.out.to (HX.out.alloc HX.out.size _), He.out.to (HX.out.alloc HX.out.size _), Hq.out.to (HX.out.alloc HX.out.size _), Hh.out.to (HX.out.alloc HX.out.size _), Hk.out.to (HX.out.alloc HX.out.size _), Hp.out.to (HX.out.alloc HX.out.size _), Hu.out.to (HX.out.alloc HX.out.size _), Hv.out.to (HX.out.alloc HX.out.size _), _, rfl, Row.new _ _ _, HT.out.below (Below.alloc (Below.refl _ _) (Nat.le_refl _) _) (Nat.le_refl _)⟩ ?_
    clear HX HT
    rintro W9 ⟨hw, ha, hb, hc, he, hq, hh, hk, hp, hu, hv, gx, hg, hx⟩
    rw [← hg]
    replace HB := Lib.hid hw; replace Ha := Lib.hid ha; replace Hb := Lib.hid hb; replace Hc := Lib.hid hc; replace He := Lib.hid he; replace Hq := Lib.hid hq; replace Hh := Lib.hid hh; replace Hk := Lib.hid hk; replace Hp := Lib.hid hp; replace Hu := Lib.hid hu; replace Hv := Lib.hid hv; have Hx := Lib.hid hx
    clear hw ha hb hc he hq hh hk hp hu hv hx hg
    have ya := Ha.out.cell
    have yb := Hb.out.cell
    have yc := Hc.out.cell
    have ye := He.out.cell
    have yq := Hq.out.cell
    have yh := Hh.out.cell
    have yk := Hk.out.cell
    have yp := Hp.out.cell
    have yu := Hu.out.cell
    have yv := Hv.out.cell
    have yx := Hx.out.cell
    go_upto_region 12 with (go_at_call 35; refine (M2x.out _ _ _ Ha.out.td Hb.out.td).mono ?_; intro e wx hx; obtain ⟨iy, jy, ny, cy, my, dy, Ay, By, rfl, hb, ht⟩ := RetR.open (z := 0) rfl hx; have HX := Lib.hid (show Below W9.heap.size W9 wx from hb); have HT := Lib.hid ht; clear hx hb ht)
    clear ya yb yc ye yq yh yk yp yu yv yx
    refine wp_abs (fun X => Below w.heap.size w X ∧ Box X ga ia ja na ca ma da Aa Ba (D.raw 1) ∧ Box X gb ib jb nb cb mb db Ab Bb (E.raw 1) ∧ Box X gc ic jc nc cc mc dc Ac Bc (D.mini.raw 1) ∧ Box X ge ie je ne ce me de Ae Be (D.notM.raw 1) ∧ Box X gq iq jq nq cq mq dq Aq Bq (E.notM.raw 1) ∧ Box X gh ih jh nh ch mh dh Ah Bh (D.mini.raw 1) ∧ Box X gk ik jk nk ck mk dk Ak Bk ((prodM D E fun p q => p && q).raw 1) ∧ Box X gp ip jp np cp mp dp Ap Bp ((prodM D E fun p q => p && q).raw 1) ∧ Box X gu iu ju nu cu mu du Au Bu ((prodM D.notM E.notM fun p q => p || q).raw 1) ∧ Box X gv iv jv nv cv mv dv Av Bv ((prodM D.notM E.notM fun p q => p || q).raw 1) ∧ Box X gx ix jx nx cx mx dx Ax Bx ((prodM D E fun p q => p && q).raw 1) ∧ ∃ g, g = wx.heap.size ∧ Box X g iy jy ny cy my dy Ay By ((prodM D E fun p q => p && !q).raw 1)) ⟨HB.out.trans ((HX.out.alloc HX.out.size _).mono HB.out.size), Ha.out.to (HX.out.alloc HX.out.size _), Hb.out.to (HX.out.alloc HX.out.size _), Hc.out.to (HX.out.alloc HX.out.size _), He.out.to (HX.out.alloc HX.out.size _), Hq.out.to (HX.out.alloc HX.out.size _), Hh.out.to (HX.out.alloc HX.out.size _), Hk.out.to (HX.out.alloc HX.out.size _), Hp.out.to (HX.out.alloc HX.out.size _), Hu.out.to (HX.out.alloc HX.out.size _), Hv.out.to (HX.out.alloc HX.out.size _), Hx.out.to (HX.out.alloc HX.out.size _), _, rfl, Row.new _ _ _, HT.out.below (Below.alloc (Below.refl _ _) (Nat.le_refl _) _) (Nat.le_refl _)⟩ ?_
    clear HX HT
    rintro W10 ⟨hw, ha, hb, hc, he, hq, hh, hk, hp, hu, hv, hx, gy, hg, hy⟩
    rw [← hg]
    replace HB := Lib.hid hw; replace Ha := Lib.hid ha; replace Hb := Lib.hid hb; replace Hc := Lib.hid hc; replace He := Lib.hid he; replace Hq := Lib.hid hq; replace Hh := Lib.hid hh; replace Hk := Lib.hid hk; replace Hp := Lib.hid hp; replace Hu := Lib.hid hu; replace Hv := Lib.hid hv; replace Hx := Lib.hid hx; have Hy := Lib.hid hy
    clear hw ha hb hc he hq hh hk hp hu hv hx hy hg
    have ya := Ha.out.cell
    have yb := Hb.out.cell
    have yc := Hc.out.cell
    have ye := He.out.cell
    have yq := Hq.out.cell
    have yh := Hh.out.cell
    have yk := Hk.out.cell
    have yp := Hp.out.cell
    have yu := Hu.out.cell
    have yv := Hv.out.cell
    have yx := Hx.out.cell
    have yy := Hy.out.cell
    go_upto_region 13 with (go_at_call 31; refine (A3x.out _ _ _ Ha.out.td Hq.out.td).mono ?_; intro e wx hx; obtain ⟨iz, jz, nz, cz, mz, dz, Az, Bz, rfl, hb, ht⟩ := RetR.open (z := 0) rfl hx; have HX := Lib.hid (show Below W10.heap.size W10 wx from hb); have HT := Lib.hid ht; clear hx hb ht)
    clear ya yb yc ye yq yh yk yp yu yv yx yy
    refine wp_abs (fun X => Below w.heap.size w X ∧ Box X ga ia ja na ca ma da Aa Ba (D.raw 1) ∧ Box X gb ib jb nb cb mb db Ab Bb (E.raw 1) ∧ Box X gc ic jc nc cc mc dc Ac Bc (D.mini.raw 1) ∧ Box X ge ie je ne ce me de Ae Be (D.notM.raw 1) ∧ Box X gq iq jq nq cq mq dq Aq Bq (E.notM.raw 1) ∧ Box X gh ih jh nh ch mh dh Ah Bh (D.mini.raw 1) ∧ Box X gk ik jk nk ck mk dk Ak Bk ((prodM D E fun p q => p && q).raw 1) ∧ Box X gp ip jp np cp mp dp Ap Bp ((prodM D E fun p q => p && q).raw 1) ∧ Box X gu iu ju nu cu mu du Au Bu ((prodM D.notM E.notM fun p q => p || q).raw 1) ∧ Box X gv iv jv nv cv mv dv Av Bv ((prodM D.notM E.notM fun p q => p || q).raw 1) ∧ Box X gx ix jx nx cx mx dx Ax Bx ((prodM D E fun p q => p && q).raw 1) ∧ Box X gy iy jy ny cy my dy Ay By ((prodM D E fun p q => p && !q).raw 1) ∧ ∃ g, g = wx.heap.size ∧ Box X g iz jz nz cz mz dz Az Bz ((prodM D E fun p q => p && !q).raw 1)) ⟨HB.out.trans ((HX.out.alloc HX.out.size _).mono HB.out.size), Ha.out.to (HX.out.alloc HX.out.size _), Hb.out.to (HX.out.alloc HX.out.size _), Hc.out.to (HX.out.alloc HX.out.size _), He.out.to (HX.out.alloc HX.out.size _), Hq.out.to (HX.out.alloc HX.out.size _), Hh.out.to (HX.out.alloc HX.out.size _), Hk.out.to (HX.out.alloc HX.out.size _), Hp.out.to (HX.out.alloc HX.out.size _), Hu.out.to (HX.out.alloc HX.out.size _), Hv.out.to (HX.out.alloc HX.out.size _), Hx.out.to (HX.out.alloc HX.out.size _), Hy.out.to (HX.out.alloc HX.out.size _), _, rfl, Row.new _ _ _, HT.out.below (Below.alloc (Below.refl _ _) (Nat.le_refl _) _) (Nat.le_refl _)⟩ ?_
    clear HX HT
    rintro W11 ⟨hw, ha, hb, hc, he, hq, hh, hk, hp, hu, hv, hx, hy, gz, hg, hz⟩
    rw [← hg]
    replace HB := Lib.hid hw; replace Ha := Lib.hid ha; replace Hb := Lib.hid hb; replace Hc := Lib.hid hc; replace He := Lib.hid he; replace Hq := Lib.hid hq; replace Hh := Lib.hid hh; replace Hk := Lib.hid hk; replace Hp := Lib.hid hp; replace Hu := Lib.hid hu; replace Hv := Lib.hid hv; replace Hx := Lib.hid hx; replace Hy := Lib.hid hy; have Hz := Lib.hid hz
    clear hw ha hb hc he hq hh hk hp hu hv hx hy hz hg
    clear Ha Hb He Hq
    have yc := Hc.out.cell
    have yh := Hh.out.cell
    have yk := Hk.out.cell
    have yp := Hp.out.cell
    have yu := Hu.out.cell
    have yv := Hv.out.cell
    have yx := Hx.out.cell
    have yy := Hy.out.cell
    have yz := Hz.out.cell
    go_wp2_with (first
      | (go_at_call 18; (with_reducible refine (Q1x.out _ _ _ Hh.out.td Hc.out.td).mono ?_); rintro ee w30 ⟨rfl, hb⟩; replace HB := Lib.hid (HB.out.trans (hb.mono HB.out.size)); replace Hc := Lib.hid (Hc.out.to hb); replace Hh := Lib.hid (Hh.out.to hb); replace Hk := Lib.hid (Hk.out.to hb); replace Hp := Lib.hid (Hp.out.to hb); replace Hu := Lib.hid (Hu.out.to hb); replace Hv := Lib.hid (Hv.out.to hb); replace Hx := Lib.hid (Hx.out.to hb); replace Hy := Lib.hid (Hy.out.to hb); replace Hz := Lib.hid (Hz.out.to hb); clear yc; have yc := Hc.out.cell; clear yh; have yh := Hh.out.cell; clear yk; have yk := Hk.out.cell; clear yp; have yp := Hp.out.cell; clear yu; have yu := Hu.out.cell; clear yv; have yv := Hv.out.cell; clear yx; have yx := Hx.out.cell; clear yy; have yy := Hy.out.cell; clear yz; have yz := Hz.out.cell; clear hb)
      | (go_at_call 18; (with_reducible refine (Q2x.out _ _ _ Hk.out.td Hp.out.td).mono ?_); rintro ee w31 ⟨rfl, hb⟩; replace HB := Lib.hid (HB.out.trans (hb.mono HB.out.size)); replace Hc := Lib.hid (Hc.out.to hb); replace Hh := Lib.hid (Hh.out.to hb); replace Hk := Lib.hid (Hk.out.to hb); replace Hp := Lib.hid (Hp.out.to hb); replace Hu := Lib.hid (Hu.out.to hb); replace Hv := Lib.hid (Hv.out.to hb); replace Hx := Lib.hid (Hx.out.to hb); replace Hy := Lib.hid (Hy.out.to hb); replace Hz := Lib.hid (Hz.out.to hb); clear yc; have yc := Hc.out.cell; clear yh; have yh := Hh.out.cell; clear yk; have yk := Hk.out.cell; clear yp; have yp := Hp.out.cell; clear yu; have yu := Hu.out.cell; clear yv; have yv := Hv.out.cell; clear yx; have yx := Hx.out.cell; clear yy; have yy := Hy.out.cell; clear yz; have yz := Hz.out.cell; clear hb)
      | (go_at_call 18; (with_reducible refine (Q3x.out _ _ _ Hu.out.td Hv.out.td).mono ?_); rintro ee w32 ⟨rfl, hb⟩; replace HB := Lib.hid (HB.out.trans (hb.mono HB.out.size)); replace Hc := Lib.hid (Hc.out.to hb); replace Hh := Lib.hid (Hh.out.to hb); replace Hk := Lib.hid (Hk.out.to hb); replace Hp := Lib.hid (Hp.out.to hb); replace Hu := Lib.hid (Hu.out.to hb); replace Hv := Lib.hid (Hv.out.to hb); replace Hx := Lib.hid (Hx.out.to hb); replace Hy := Lib.hid (Hy.out.to hb); replace Hz := Lib.hid (Hz.out.to hb); clear yc; have yc := Hc.out.cell; clear yh; have yh := Hh.out.cell; clear yk; have yk := Hk.out.cell; clear yp; have yp := Hp.out.cell; clear yu; have yu := Hu.out.cell; clear yv; have yv := Hv.out.cell; clear yx; have yx := Hx.out.cell; clear yy; have yy := Hy.out.cell; clear yz; have yz := Hz.out.cell; clear hb)
      | (go_at_call 18; (with_reducible refine (Q2x.out _ _ _ Hk.out.td Hx.out.td).mono ?_); rintro ee w33 ⟨rfl, hb⟩; replace HB := Lib.hid (HB.out.trans (hb.mono HB.out.size)); replace Hc := Lib.hid (Hc.out.to hb); replace Hh := Lib.hid (Hh.out.to hb); replace Hk := Lib.hid (Hk.out.to hb); replace Hp := Lib.hid (Hp.out.to hb); replace Hu := Lib.hid (Hu.out.to hb); replace Hv := Lib.hid (Hv.out.to hb); replace Hx := Lib.hid (Hx.out.to hb); replace Hy := Lib.hid (Hy.out.to hb); replace Hz := Lib.hid (Hz.out.to hb); clear yc; have yc := Hc.out.cell; clear yh; have yh := Hh.out.cell; clear yk; have yk := Hk.out.cell; clear yp; have yp := Hp.out.cell; clear yu; have yu := Hu.out.cell; clear yv; have yv := Hv.out.cell; clear yx; have yx := Hx.out.cell; clear yy; have yy := Hy.out.cell; clear yz; have yz := Hz.out.cell; clear hb)
      | (go_at_call 18; (with_reducible refine (Q4x.out _ _ _ Hy.out.td Hz.out.td).mono ?_); rintro ee w34 ⟨rfl, hb⟩; replace HB := Lib.hid (HB.out.trans (hb.mono HB.out.size)); replace Hc := Lib.hid (Hc.out.to hb); replace Hh := Lib.hid (Hh.out.to hb); replace Hk := Lib.hid (Hk.out.to hb); replace Hp := Lib.hid (Hp.out.to hb); replace Hu := Lib.hid (Hu.out.to hb); replace Hv := Lib.hid (Hv.out.to hb); replace Hx := Lib.hid (Hx.out.to hb); replace Hy := Lib.hid (Hy.out.to hb); replace Hz := Lib.hid (Hz.out.to hb); clear yc; have yc := Hc.out.cell; clear yh; have yh := Hh.out.cell; clear yk; have yk := Hk.out.cell; clear yp; have yp := Hp.out.cell; clear yu; have yu := Hu.out.cell; clear yv; have yv := Hv.out.cell; clear yx; have yx := Hx.out.cell; clear yy; have yy := Hy.out.cell; clear yz; have yz := Hz.out.cell; clear hb)
      | (go_at_call 28; (with_reducible refine (AWK.out _).mono ?_); rintro ee w40 ⟨rfl, hb⟩; replace HB := Lib.hid (HB.out.trans (hb.mono HB.out.size)); replace Hc := Lib.hid (Hc.out.to hb); replace Hh := Lib.hid (Hh.out.to hb); replace Hk := Lib.hid (Hk.out.to hb); replace Hp := Lib.hid (Hp.out.to hb); replace Hu := Lib.hid (Hu.out.to hb); replace Hv := Lib.hid (Hv.out.to hb); replace Hx := Lib.hid (Hx.out.to hb); replace Hy := Lib.hid (Hy.out.to hb); replace Hz := Lib.hid (Hz.out.to hb); clear yc; have yc := Hc.out.cell; clear yh; have yh := Hh.out.cell; clear yk; have yk := Hk.out.cell; clear yp; have yp := Hp.out.cell; clear yu; have yu := Hu.out.cell; clear yv; have yv := Hv.out.cell; clear yx; have yx := Hx.out.cell; clear yy; have yy := Hy.out.cell; clear yz; have yz := Hz.out.cell; clear hb))
    go_returns
    exact ⟨rfl, HB.out⟩
end Go.Proofs.YthkfjnmnoanhlaaGreatDoor
