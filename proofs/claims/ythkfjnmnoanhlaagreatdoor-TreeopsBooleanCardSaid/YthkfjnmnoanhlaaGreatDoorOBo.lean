/- Law: TreeopsBoolean. (Printed by gen_bool.py.) -/
import Derived.Test.YthkfjnmnoanhlaaGreatDoorTwL
import Derived.Test.YthkfjnmnoanhlaaGreatDoorLbl
import Derived.Test.YthkfjnmnoanhlaaGreatDoorAwP
import Derived.Test.YthkfjnmnoanhlaaGreatDoorAcc
import Derived.Test.YthkfjnmnoanhlaaGreatDoorPrd
import Derived.Test.YthkfjnmnoanhlaaGreatDoorDtL
import Derived.Deep.DeepCutAuto
set_option linter.unusedSimpArgs false
set_option linter.unusedVariables false
namespace Go.Proofs.YthkfjnmnoanhlaaGreatDoor
open Go.RowKit

theorem acc_self {D : Dta} {V : Nat} {tl : List Lf} (hc : checkT tl (V : Int) = 0) : accR D V tl = (D.fin (D.run (btOf tl)), 0) := by unfold accR; rw [if_pos hc]
theorem acc_bad {D : Dta} {V : Nat} {tl : List Lf} (hc : ¬ checkT tl (V : Int) = 0) : accR D V tl = (false, checkT tl (V : Int)) := by unfold accR; rw [if_neg hc]
theorem acc_not {D : Dta} {V : Nat} {tl : List Lf} (hD : D.Fit V) (hlb : ∀ m ∈ tl, 0 ≤ m.label) (hc : checkT tl (V : Int) = 0) : accR D.notM V tl = (!D.fin (D.run (btOf tl)), 0) := by
  obtain ⟨h1, h2, h3⟩ := check_zero hD.v3 hlb hc
  rw [acc_self hc, (Dta.notM_is hD.ok).lang _ (bt_lb h1 hlb (by rw [hD.L]; exact h3))]
theorem acc_prod {D E : Dta} {V : Nat} {tl : List Lf} {g : Bool → Bool → Bool} (hD : D.Fit V) (hE : E.Fit V) (hlb : ∀ m ∈ tl, 0 ≤ m.label) (hc : checkT tl (V : Int) = 0) : accR (prodM D E g) V tl = (g (D.fin (D.run (btOf tl))) (E.fin (E.run (btOf tl))), 0) := by
  obtain ⟨h1, h2, h3⟩ := check_zero hD.v3 hlb hc
  rw [acc_self hc, (prodM_is hD.ok hE.ok (hD.L.trans hE.L.symm) g).lang _ (bt_lb h1 hlb (by rw [hD.L]; exact h3))]
set_option maxRecDepth 100000 in
set_option maxHeartbeats 16000000 in
theorem boolean_law (hsub : CSub 5 2) (haw : CAwk) (rp rq : Raw) (vp vq vt : Value) (tr : List Lf) (w : World) (hvp : TD w vp rp) (hvq : TD w vq rq) (hvt : TS w vt tr) :
    Calls Tryz.prog 11 #[vp, vq, vt] w fun e w' => e = .returned (.bool true) ∧ Below w.heap.size w w' := by
  have SP := Lib.hid (fun W (h : Below w.heap.size w W) => hsub rp vp W (hvp.below h (Nat.le_refl _)))
  have SQ := Lib.hid (fun W (h : Below w.heap.size w W) => hsub rq vq W (hvq.below h (Nat.le_refl _)))
  have ST := Lib.hid (fun W (h : Below w.heap.size w W) => labelled_any 2 (by omega) tr vt W (hvt.below h (Nat.le_refl _)))
  have AWK := Lib.hid haw
  clear hsub haw
  obtain ⟨At, ct, rfl⟩ := hvt.form
  obtain ⟨nt, q1⟩ : ∃ n, n = tr.length := ⟨_, rfl⟩
  rw [← q1] at ST ⊢
  clear hvt q1
  obtain ⟨tl, htl⟩ : ∃ l, l = modL 2 (tr.take 15) := ⟨_, rfl⟩
  rw [← htl] at ST
  have HTL := Lib.hid htl
  clear htl
  obtain ⟨Ap, cp, Bp, dp, rfl⟩ := hvp.form
  obtain ⟨Aq, cq, Bq, dq, rfl⟩ := hvq.form
  obtain ⟨np, q1⟩ : ∃ n, n = rp.next.length := ⟨_, rfl⟩
  obtain ⟨mp, q2⟩ : ∃ n, n = rp.fin.length := ⟨_, rfl⟩
  obtain ⟨ip, q3⟩ : ∃ n, n = rp.vars := ⟨_, rfl⟩
  obtain ⟨jp, q4⟩ : ∃ n, n = rp.empty := ⟨_, rfl⟩
  rw [← q1, ← q2, ← q3, ← q4] at SP ⊢
  clear hvp q1 q2 q3 q4
  obtain ⟨nq, q1⟩ : ∃ n, n = rq.next.length := ⟨_, rfl⟩
  obtain ⟨mq, q2⟩ : ∃ n, n = rq.fin.length := ⟨_, rfl⟩
  obtain ⟨iq, q3⟩ : ∃ n, n = rq.vars := ⟨_, rfl⟩
  obtain ⟨jq, q4⟩ : ∃ n, n = rq.empty := ⟨_, rfl⟩
  rw [← q1, ← q2, ← q3, ← q4] at SQ ⊢
  clear hvq q1 q2 q3 q4
  go_enter Tryz.func11, Tryz.ntmps11
  go_upto_region 1 with fail
  refine wp_abs (fun X => Below w.heap.size w X ∧ ∃ gp gq, gp = w.heap.size ∧ gq = w.heap.size + 1 ∧ gq < X.heap.size ∧ Row X gp 25 #[.int .i64 ip, .int .i64 jp, .slice Ap np cp, .slice Bp mp dp] ∧ Row X gq 25 #[.int .i64 iq, .int .i64 jq, .slice Aq nq cq, .slice Bq mq dq]) ⟨by go_grown, _, _, rfl, rfl, by simp, by (repeat (first | (refine Row.lit ?_; simp only [World.size_alloc] <;> omega) | apply Row.alloc)), by (repeat (first | (refine Row.lit ?_; simp only [World.size_alloc] <;> omega) | apply Row.alloc))⟩ ?_
  rintro W0 ⟨hw, gp, gq, hgp, hgq, hlt, r1, r2⟩
  rw [← hgq, ← hgp]
  have HB := Lib.hid hw; have RP := Lib.hid r1; have RQ := Lib.hid r2; have HL := Lib.hid hlt
  clear hw r1 r2 hgp hgq hlt
  go_cut [7, 8, 9] from 30 to 35 (fun u7 u8 u9 wx => ∃ (x y : Nat) (D E : Dta), u7 = .pointer (some ⟨x, 0, none⟩) ∧ u8 = .pointer (some ⟨y, 0, none⟩) ∧ Below w.heap.size w wx ∧ D.Fit 2 ∧ E.Fit 2 ∧ D.n ≤ 5 ∧ E.n ≤ 5 ∧ (∃ i j n c m d A B, Box wx x i j n c m d A B (D.raw 2)) ∧ (∃ i j n c m d A B, Box wx y i j n c m d A B (E.raw 2)) ∧ TS wx u9 tl)
  case first =>
    refine region_slots (by kernel_rfl) (by kernel_rfl) [30, 32, 31, 33, 7, 8, 34, 35, 9] [undef, undef, undef, undef, undef, undef, undef, undef, undef] rfl rfl (fun f vs W => ∃ xa xb ra rb pa pb xt rt st, vs = [xa, xb, ra, rb, pa, pb, xt, rt, st] ∧ TwoJ w W0.heap.size 5 2 gp gq #[.int .i64 ip, .int .i64 jp, .slice Ap np cp, .slice Bp mp dp] #[.int .i64 iq, .int .i64 jq, .slice Aq nq cq, .slice Bq mq dq] (.agg #[.int .i64 ip, .int .i64 jp, .slice Ap np cp, .slice Bp mp dp]) (.agg #[.int .i64 iq, .int .i64 jq, .slice Aq nq cq, .slice Bq mq dq]) (f 0) (f 2) (f 1) (f 3) (f 6) (f 7) (f 8) (f 9) xa xb ra rb pa pb W ∧ LabJ w.heap.size (.slice At nt ct) tl (f 4) (f 5) (f 10) xt rt st W) ?_ ?_ ?_
    · exact ⟨_, _, _, _, _, _, _, _, _, rfl, ⟨HB.out.size, Nat.le_refl _, RP.out.lt, RQ.out.lt, HB.out.drew, RP.out.drew, RQ.out.drew, by simp, by simp, by simp, by simp, by simp, by simp, by simp, by simp, by simp⟩, by simp, by simp, by simp⟩
    · refine StepsJ.cons ?_ (StepsJ.cons ?_ (StepsJ.cons ?_ (StepsJ.cons ?_ (StepsJ.cons ?_ (StepsJ.cons ?_ (StepsJ.cons ?_ (StepsJ.cons ?_ (StepsJ.cons ?_ (StepsJ.cons ?_ (StepsJ.cons ?_ (StepsJ.nil)))))))))))
      · rintro f vs W hl hf hd ⟨xa, xb, ra, rb, pa, pb, xt, rt, st, rfl, hJ, hT⟩ K hK
        have y0 := hJ.hrp.cell
        have HJ := Lib.hid hJ; have HT := Lib.hid hT
        clear hJ hT
        simp only [putS, Act.put, List.setIfInBounds_toArray, List.set_cons_zero, List.set_cons_succ]
        go_simp
        have hz := hK.out [_, xb, ra, rb, pa, pb, xt, rt, st] W rfl ⟨_, _, _, _, _, _, _, _, _, rfl, HJ.out.loadA, HT.out⟩
        simp only [putS, Act.put, List.setIfInBounds_toArray, List.set_cons_zero, List.set_cons_succ] at hz
        exact hz
      · rintro f vs W hl hf hd ⟨xa, xb, ra, rb, pa, pb, xt, rt, st, rfl, hJ, hT⟩ K hK
        have e0 := hJ.hxa (dep_of hd 0 (by kernel_rfl))
        subst e0
        have HJ := Lib.hid hJ; have HT := Lib.hid hT
        clear hJ hT
        simp only [putS, Act.put, List.setIfInBounds_toArray, List.set_cons_zero, List.set_cons_succ]
        go_simp
        go_at_call 29
        refine (SP.out W HJ.out.below).mono ?_
        rintro e wx ⟨D, hD, hDn, v, rfl, hb, ht⟩
        have hs : SubJ wx W.heap.size 5 2 v := ⟨D, hD, hDn, ht⟩
        have hz := hK.out [_, xb, _, rb, pa, pb, xt, rt, st] wx rfl ⟨_, _, _, _, _, _, _, _, _, rfl, HJ.out.callA hb hs hf, HT.out.to hb⟩
        simp only [putS, Act.put, List.setIfInBounds_toArray, List.set_cons_zero, List.set_cons_succ] at hz
        exact hz
      · rintro f vs W hl hf hd ⟨xa, xb, ra, rb, pa, pb, xt, rt, st, rfl, hJ, hT⟩ K hK
        have y0 := hJ.hrq.cell
        have HJ := Lib.hid hJ; have HT := Lib.hid hT
        clear hJ hT
        simp only [putS, Act.put, List.setIfInBounds_toArray, List.set_cons_zero, List.set_cons_succ]
        go_simp
        have hz := hK.out [xa, _, ra, rb, pa, pb, xt, rt, st] W rfl ⟨_, _, _, _, _, _, _, _, _, rfl, HJ.out.loadB, HT.out⟩
        simp only [putS, Act.put, List.setIfInBounds_toArray, List.set_cons_zero, List.set_cons_succ] at hz
        exact hz
      · rintro f vs W hl hf hd ⟨xa, xb, ra, rb, pa, pb, xt, rt, st, rfl, hJ, hT⟩ K hK
        have e0 := hJ.hxb (dep_of hd 2 (by kernel_rfl))
        subst e0
        have HJ := Lib.hid hJ; have HT := Lib.hid hT
        clear hJ hT
        simp only [putS, Act.put, List.setIfInBounds_toArray, List.set_cons_zero, List.set_cons_succ]
        go_simp
        go_at_call 29
        refine (SQ.out W HJ.out.below).mono ?_
        rintro e wx ⟨D, hD, hDn, v, rfl, hb, ht⟩
        have hs : SubJ wx W.heap.size 5 2 v := ⟨D, hD, hDn, ht⟩
        have hz := hK.out [xa, _, ra, _, pa, pb, xt, rt, st] wx rfl ⟨_, _, _, _, _, _, _, _, _, rfl, HJ.out.callB hb hs hf, HT.out.to hb⟩
        simp only [putS, Act.put, List.setIfInBounds_toArray, List.set_cons_zero, List.set_cons_succ] at hz
        exact hz
      · rintro f vs W hl hf hd ⟨xa, xb, ra, rb, pa, pb, xt, rt, st, rfl, hJ, hT⟩ K hK
        have HJ := Lib.hid hJ; have HT := Lib.hid hT
        clear hJ hT
        simp only [putS, Act.put, List.setIfInBounds_toArray, List.set_cons_zero, List.set_cons_succ]
        go_simp
        have hz := hK.out [xa, xb, ra, rb, pa, pb, _, rt, st] W rfl ⟨_, _, _, _, _, _, _, _, _, rfl, HJ.out, HT.out.load⟩
        simp only [putS, Act.put, List.setIfInBounds_toArray, List.set_cons_zero, List.set_cons_succ] at hz
        exact hz
      · rintro f vs W hl hf hd ⟨xa, xb, ra, rb, pa, pb, xt, rt, st, rfl, hJ, hT⟩ K hK
        have e0 := hT.hx (dep_of hd 4 (by kernel_rfl))
        subst e0
        have HJ := Lib.hid hJ; have HT := Lib.hid hT
        clear hJ hT
        simp only [putS, Act.put, List.setIfInBounds_toArray, List.set_cons_zero, List.set_cons_succ]
        go_simp
        go_at_call 42
        refine (ST.out W HJ.out.below).mono ?_
        rintro e wx ⟨v, rfl, hb, ht⟩
        have hz := hK.out [xa, xb, ra, rb, pa, pb, _, _, st] wx rfl ⟨_, _, _, _, _, _, _, _, _, rfl, HJ.out.to hb, HT.out.call hf ht HJ.out.below.size⟩
        simp only [putS, Act.put, List.setIfInBounds_toArray, List.set_cons_zero, List.set_cons_succ] at hz
        exact hz
      · rintro f vs W hl hf hd ⟨xa, xb, ra, rb, pa, pb, xt, rt, st, rfl, hJ, hT⟩ K hK
        have HJ := Lib.hid hJ; have HT := Lib.hid hT
        clear hJ hT
        simp only [putS, Act.put, List.setIfInBounds_toArray, List.set_cons_zero, List.set_cons_succ]
        go_simp
        have hz := hK.out [xa, xb, ra, rb, _, pb, xt, rt, st] (W.alloc (.cells #[.int .i64 0, .int .i64 0, .slice none 0 0, .slice none 0 0] 25)) rfl ⟨_, _, _, _, _, _, _, _, _, rfl, HJ.out.allocA hf, HT.out.to (Below.alloc (Below.refl _ _) (Nat.le_refl _) _)⟩
        simp only [putS, Act.put, List.setIfInBounds_toArray, List.set_cons_zero, List.set_cons_succ] at hz
        exact hz
      · rintro f vs W hl hf hd ⟨xa, xb, ra, rb, pa, pb, xt, rt, st, rfl, hJ, hT⟩ K hK
        have HJ := Lib.hid hJ; have HT := Lib.hid hT
        clear hJ hT
        simp only [putS, Act.put, List.setIfInBounds_toArray, List.set_cons_zero, List.set_cons_succ]
        go_simp
        have hz := hK.out [xa, xb, ra, rb, pa, _, xt, rt, st] (W.alloc (.cells #[.int .i64 0, .int .i64 0, .slice none 0 0, .slice none 0 0] 25)) rfl ⟨_, _, _, _, _, _, _, _, _, rfl, HJ.out.allocB hf, HT.out.to (Below.alloc (Below.refl _ _) (Nat.le_refl _) _)⟩
        simp only [putS, Act.put, List.setIfInBounds_toArray, List.set_cons_zero, List.set_cons_succ] at hz
        exact hz
      · rintro f vs W hl hf hd ⟨xa, xb, ra, rb, pa, pb, xt, rt, st, rfl, hJ, hT⟩ K hK
        have d1 : f 6 = true := dep_of hd 6 (by kernel_rfl)
        have d2 : f 1 = true := dep_of hd 1 (by kernel_rfl)
        revert hK
        generalize hgen : (Shut _ → _) = G
        obtain ⟨g, x0, x1, x2, x3, rfl, hg1, hg2, _⟩ := hJ.hpa d1
        obtain ⟨D, hD, hDn, hto⟩ := hJ.hra d2
        obtain ⟨i, j, A, n, c, A', m, d, rfl⟩ := hto.shape
        subst hgen
        intro hK
        have y0 := hg2.cell; have y1 := hg2.free; have y2 := hg2.lt
        have q0 := y0 0; have q1 := y0 1; have q2 := y0 2; have q3 := y0 3
        simp only [List.getElem?_toArray, List.getElem?_cons_zero, List.getElem?_cons_succ] at q0 q1 q2 q3
        clear y0
        have HG2 := Lib.hid hg2; have HD1 := Lib.hid d1; have HD2 := Lib.hid d2
        have HJ := Lib.hid hJ; have HT := Lib.hid hT
        clear hJ hT
        clear hto hg1 hg2 d1 d2
        simp only [putS, Act.put, List.setIfInBounds_toArray, List.set_cons_zero, List.set_cons_succ]
        go_simp
        have hz := hK.out [xa, xb, _, rb, _, pb, xt, rt, st] (set4 W g (.int .i64 i) (.int .i64 j) (.slice A n c) (.slice A' m d)) rfl ⟨_, _, _, _, _, _, _, _, _, rfl, HJ.out.storeA HD1.out HD2.out rfl rfl, HT.out.set4 HG2.out⟩
        simp only [putS, Act.put, List.setIfInBounds_toArray, List.set_cons_zero, List.set_cons_succ] at hz
        unfold set4 at hz
        exact hz
      · rintro f vs W hl hf hd ⟨xa, xb, ra, rb, pa, pb, xt, rt, st, rfl, hJ, hT⟩ K hK
        have d1 : f 7 = true := dep_of hd 7 (by kernel_rfl)
        have d2 : f 3 = true := dep_of hd 3 (by kernel_rfl)
        revert hK
        generalize hgen : (Shut _ → _) = G
        obtain ⟨g, x0, x1, x2, x3, rfl, hg1, hg2, _⟩ := hJ.hpb d1
        obtain ⟨D, hD, hDn, hto⟩ := hJ.hrb d2
        obtain ⟨i, j, A, n, c, A', m, d, rfl⟩ := hto.shape
        subst hgen
        intro hK
        have y0 := hg2.cell; have y1 := hg2.free; have y2 := hg2.lt
        have q0 := y0 0; have q1 := y0 1; have q2 := y0 2; have q3 := y0 3
        simp only [List.getElem?_toArray, List.getElem?_cons_zero, List.getElem?_cons_succ] at q0 q1 q2 q3
        clear y0
        have HG2 := Lib.hid hg2; have HD1 := Lib.hid d1; have HD2 := Lib.hid d2
        have HJ := Lib.hid hJ; have HT := Lib.hid hT
        clear hJ hT
        clear hto hg1 hg2 d1 d2
        simp only [putS, Act.put, List.setIfInBounds_toArray, List.set_cons_zero, List.set_cons_succ]
        go_simp
        have hz := hK.out [xa, xb, ra, _, pa, _, xt, rt, st] (set4 W g (.int .i64 i) (.int .i64 j) (.slice A n c) (.slice A' m d)) rfl ⟨_, _, _, _, _, _, _, _, _, rfl, HJ.out.storeB HD1.out HD2.out rfl rfl, HT.out.set4 HG2.out⟩
        simp only [putS, Act.put, List.setIfInBounds_toArray, List.set_cons_zero, List.set_cons_succ] at hz
        unfold set4 at hz
        exact hz
      · rintro f vs W hl hf hd ⟨xa, xb, ra, rb, pa, pb, xt, rt, st, rfl, hJ, hT⟩ K hK
        have d5 : f 5 = true := dep_of hd 5 (by kernel_rfl)
        have HD5 := Lib.hid d5; clear d5
        have HJ := Lib.hid hJ; have HT := Lib.hid hT
        clear hJ hT
        simp only [putS, Act.put, List.setIfInBounds_toArray, List.set_cons_zero, List.set_cons_succ]
        go_simp
        have hz := hK.out [xa, xb, ra, rb, pa, pb, xt, rt, _] W rfl ⟨_, _, _, _, _, _, _, _, _, rfl, HJ.out, HT.out.keep HD5.out⟩
        simp only [putS, Act.put, List.setIfInBounds_toArray, List.set_cons_zero, List.set_cons_succ] at hz
        exact hz
    · rintro f vs W hl hall ⟨xa, xb, ra, rb, pa, pb, xt, rt, st, rfl, hJ, hT⟩
      obtain ⟨x, x0, x1, x2, x3, rfl, _, hx, hxs⟩ := hJ.hpa (hall 6 (by decide))
      obtain ⟨y, y0, y1, y2, y3, rfl, _, hy, hys⟩ := hJ.hpb (hall 7 (by decide))
      obtain ⟨D, hD, hDn, ht⟩ := hJ.hra (hall 1 (by decide))
      obtain ⟨E, hE, hEn, hu⟩ := hJ.hrb (hall 3 (by decide))
      have hx2 := hxs (hall 8 (by decide)); have hy2 := hys (hall 9 (by decide))
      have ht5 := hT.hr (hall 5 (by decide))
      obtain rfl := (hT.hs (hall 10 (by decide))).2
      obtain ⟨A1, c1, B1, d1, rfl⟩ := ht.td.form
      obtain ⟨A2, c2, B2, d2, rfl⟩ := hu.td.form
      simp only [Value.agg.injEq, Array.mk.injEq, List.cons.injEq, and_true] at hx2 hy2
      obtain ⟨rfl, rfl, rfl, rfl⟩ := hx2
      obtain ⟨rfl, rfl, rfl, rfl⟩ := hy2
      have HF : Hid (∃ (x' y' : Nat) (D E : Dta), Value.pointer (some ⟨x, 0, none⟩) = .pointer (some ⟨x', 0, none⟩) ∧ Value.pointer (some ⟨y, 0, none⟩) = .pointer (some ⟨y', 0, none⟩) ∧ Below w.heap.size w W ∧ D.Fit 2 ∧ E.Fit 2 ∧ D.n ≤ 5 ∧ E.n ≤ 5 ∧ (∃ i j n c m d A B, Box W x' i j n c m d A B (D.raw 2)) ∧ (∃ i j n c m d A B, Box W y' i j n c m d A B (E.raw 2)) ∧ TS W st tl) := ⟨x, y, D, E, rfl, rfl, hJ.below, hD, hE, hDn, hEn, ⟨_, _, _, _, _, _, _, _, hx, ht.td⟩, ⟨_, _, _, _, _, _, _, _, hy, hu.td⟩, ht5.ts⟩
      clear hJ hT hx hy ht hu hxs hys ht5
      simp only [putS, Act.put, List.setIfInBounds_toArray, List.set_cons_zero, List.set_cons_succ]
      go_wp2
      go_meet
      exact HF.out
  case rest =>
    obtain ⟨ga, gb, D, E, rfl, rfl, hb, hD, hE, hDn, hEn, ⟨ia, ja, na, ca, ma, da, Aa, Ba, ha⟩, ⟨ib, jb, nb, cb, mb, db, Ab, Bb, hbb⟩, ht9⟩ := hcut
    rename_i wc
    clear HB RP RQ HL SP SQ ST HTL
    obtain ⟨A9, c9, rfl⟩ := ht9.form
    have HB := Lib.hid hb; have Ha := Lib.hid ha; have Hb := Lib.hid hbb; have HT9 := Lib.hid ht9
    have hlb : ∀ m ∈ tl, 0 ≤ m.label := fun m hm => (ht9.lb m hm).1
    clear hb ha hbb ht9
    have hL : D.L = E.L := hD.L.trans hE.L.symm
    have hpl : (prodO D E).length ≤ 64 := Nat.le_trans (prodO_len hD.ok hE.ok hL) (Nat.le_trans (Nat.mul_le_mul hDn hEn) (by omega))
    have NO := Lib.hid fun W u (h : TD W u (D.raw 2)) => (show Calls Tryz.prog 14 #[u] W (RetR W (D.notM.raw 2) 0) from by exact not_ok D 2 hD u W h)
    have AN := Lib.hid fun W u s (h : TD W u (D.raw 2)) (h2 : TD W s (E.raw 2)) => (show Calls Tryz.prog 31 #[u, s] W (RetR W ((prodM D E fun p q => p && q).raw 2) 0) from by have q := And_ok D E 2 hD hE u s W h h2; rw [opR_ok hpl] at q; exact q)
    have OO := Lib.hid fun W u s (h : TD W u (D.raw 2)) (h2 : TD W s (E.raw 2)) => (show Calls Tryz.prog 33 #[u, s] W (RetR W ((prodM D E fun p q => p || q).raw 2) 0) from by have q := Or_ok D E 2 hD hE u s W h h2; rw [opR_ok hpl] at q; exact q)
    have MI := Lib.hid fun W u s (h : TD W u (D.raw 2)) (h2 : TD W s (E.raw 2)) => (show Calls Tryz.prog 35 #[u, s] W (RetR W ((prodM D E fun p q => p && !q).raw 2) 0) from by have q := Minus_ok D E 2 hD hE u s W h h2; rw [opR_ok hpl] at q; exact q)
    by_cases hc : checkT tl ((2 : Nat) : Int) = 0
    · obtain ⟨P, hP⟩ : ∃ P, P = D.fin (D.run (btOf tl)) := ⟨_, rfl⟩
      obtain ⟨Q, hQ⟩ : ∃ Q, Q = E.fin (E.run (btOf tl)) := ⟨_, rfl⟩
      have A1 := Lib.hid fun W u s (h : TD W u (D.raw 2)) (h2 : TS W s tl) => (show Calls Tryz.prog 43 #[u, s] W (fun e w' => e = .returned (.tuple #[.bool (P), .int .i64 (0)]) ∧ Below W.heap.size W w') from by have q := accepts_ok D 2 hD u s tl W h h2 hlb; rw [acc_self hc, ← hP] at q; exact q)
      have A2 := Lib.hid fun W u s (h : TD W u (E.raw 2)) (h2 : TS W s tl) => (show Calls Tryz.prog 43 #[u, s] W (fun e w' => e = .returned (.tuple #[.bool (Q), .int .i64 (0)]) ∧ Below W.heap.size W w') from by have q := accepts_ok E 2 hE u s tl W h h2 hlb; rw [acc_self hc, ← hQ] at q; exact q)
      have A3 := Lib.hid fun W u s (h : TD W u (D.notM.raw 2)) (h2 : TS W s tl) => (show Calls Tryz.prog 43 #[u, s] W (fun e w' => e = .returned (.tuple #[.bool (!P), .int .i64 (0)]) ∧ Below W.heap.size W w') from by have q := accepts_ok D.notM 2 (notM_fit hD) u s tl W h h2 hlb; rw [acc_not hD hlb hc, ← hP] at q; exact q)
      have A4 := Lib.hid fun W u s (h : TD W u ((prodM D E fun p q => p && q).raw 2)) (h2 : TS W s tl) => (show Calls Tryz.prog 43 #[u, s] W (fun e w' => e = .returned (.tuple #[.bool (P && Q), .int .i64 (0)]) ∧ Below W.heap.size W w') from by have q := accepts_ok (prodM D E fun p q => p && q) 2 (prodM_fit hD hE _ hpl) u s tl W h h2 hlb; rw [acc_prod hD hE hlb hc, ← hP, ← hQ] at q; exact q)
      have A5 := Lib.hid fun W u s (h : TD W u ((prodM D E fun p q => p || q).raw 2)) (h2 : TS W s tl) => (show Calls Tryz.prog 43 #[u, s] W (fun e w' => e = .returned (.tuple #[.bool (P || Q), .int .i64 (0)]) ∧ Below W.heap.size W w') from by have q := accepts_ok (prodM D E fun p q => p || q) 2 (prodM_fit hD hE _ hpl) u s tl W h h2 hlb; rw [acc_prod hD hE hlb hc, ← hP, ← hQ] at q; exact q)
      have A6 := Lib.hid fun W u s (h : TD W u ((prodM D E fun p q => p && !q).raw 2)) (h2 : TS W s tl) => (show Calls Tryz.prog 43 #[u, s] W (fun e w' => e = .returned (.tuple #[.bool (P && !Q), .int .i64 (0)]) ∧ Below W.heap.size W w') from by have q := accepts_ok (prodM D E fun p q => p && !q) 2 (prodM_fit hD hE _ hpl) u s tl W h h2 hlb; rw [acc_prod hD hE hlb hc, ← hP, ← hQ] at q; exact q)
      clear hP hQ hc
      obtain ⟨n9, hn9⟩ : ∃ n, n = tl.length := ⟨_, rfl⟩
      simp only [← hn9] at HT9 ⊢
      clear hn9 hlb hpl hL hDn hEn hD hE
      have ya := Ha.out.cell
      have yb := Hb.out.cell
      go_upto_region 3 with (go_at_call 43; (with_reducible refine (A1.out _ _ _ Ha.out.td HT9.out).mono ?_); rintro ee w21 ⟨rfl, hb⟩; replace HB := Lib.hid (HB.out.trans (hb.mono HB.out.size)); replace Ha := Lib.hid (Ha.out.to hb); replace Hb := Lib.hid (Hb.out.to hb); replace HT9 := Lib.hid (HT9.out.below hb (Nat.le_refl _)); clear ya; have ya := Ha.out.cell; clear yb; have yb := Hb.out.cell; clear hb)
      go_upto_region 4 with (go_at_call 43; (with_reducible refine (A2.out _ _ _ Hb.out.td HT9.out).mono ?_); rintro ee w22 ⟨rfl, hb⟩; replace HB := Lib.hid (HB.out.trans (hb.mono HB.out.size)); replace Ha := Lib.hid (Ha.out.to hb); replace Hb := Lib.hid (Hb.out.to hb); replace HT9 := Lib.hid (HT9.out.below hb (Nat.le_refl _)); clear ya; have ya := Ha.out.cell; clear yb; have yb := Hb.out.cell; clear hb)
      clear ya yb
      have ya := Ha.out.cell
      have yb := Hb.out.cell
      go_upto_region 5 with (go_at_call 14; refine (NO.out _ _ Ha.out.td).mono ?_; intro e wx hx; obtain ⟨ie, je, ne, ce, me, de, Ae, Be, rfl, hb, ht⟩ := RetR.open (z := 0) rfl hx; have HX := Lib.hid (show Below w22.heap.size w22 wx from hb); have HT := Lib.hid ht; clear hx hb ht)
      clear ya yb
      refine wp_abs (fun X => Below w.heap.size w X ∧ Box X ga ia ja na ca ma da Aa Ba (D.raw 2) ∧ Box X gb ib jb nb cb mb db Ab Bb (E.raw 2) ∧ TS X (.slice A9 n9 c9) tl ∧ ∃ g, g = wx.heap.size ∧ Box X g ie je ne ce me de Ae Be (D.notM.raw 2)) ⟨HB.out.trans ((HX.out.alloc HX.out.size _).mono HB.out.size), Ha.out.to (HX.out.alloc HX.out.size _), Hb.out.to (HX.out.alloc HX.out.size _), HT9.out.below (HX.out.alloc HX.out.size _) (Nat.le_refl _), _, rfl, Row.new _ _ _, HT.out.below (Below.alloc (Below.refl _ _) (Nat.le_refl _) _) (Nat.le_refl _)⟩ ?_
      clear HX HT
      rintro W1 ⟨hw, ha, hb, ht9, ge, hg, he⟩
      rw [← hg]
      replace HB := Lib.hid hw; replace Ha := Lib.hid ha; replace Hb := Lib.hid hb; have He := Lib.hid he; replace HT9 := Lib.hid ht9
      clear hw ha hb he ht9 hg
      have ya := Ha.out.cell
      have yb := Hb.out.cell
      have ye := He.out.cell
      go_upto_region 6 with (go_at_call 31; refine (AN.out _ _ _ Ha.out.td Hb.out.td).mono ?_; intro e wx hx; obtain ⟨ik, jk, nk, ck, mk, dk, Ak, Bk, rfl, hb, ht⟩ := RetR.open (z := 0) rfl hx; have HX := Lib.hid (show Below W1.heap.size W1 wx from hb); have HT := Lib.hid ht; clear hx hb ht)
      clear ya yb ye
      refine wp_abs (fun X => Below w.heap.size w X ∧ Box X ga ia ja na ca ma da Aa Ba (D.raw 2) ∧ Box X gb ib jb nb cb mb db Ab Bb (E.raw 2) ∧ Box X ge ie je ne ce me de Ae Be (D.notM.raw 2) ∧ TS X (.slice A9 n9 c9) tl ∧ ∃ g, g = wx.heap.size ∧ Box X g ik jk nk ck mk dk Ak Bk ((prodM D E fun p q => p && q).raw 2)) ⟨HB.out.trans ((HX.out.alloc HX.out.size _).mono HB.out.size), Ha.out.to (HX.out.alloc HX.out.size _), Hb.out.to (HX.out.alloc HX.out.size _), He.out.to (HX.out.alloc HX.out.size _), HT9.out.below (HX.out.alloc HX.out.size _) (Nat.le_refl _), _, rfl, Row.new _ _ _, HT.out.below (Below.alloc (Below.refl _ _) (Nat.le_refl _) _) (Nat.le_refl _)⟩ ?_
      clear HX HT
      rintro W2 ⟨hw, ha, hb, he, ht9, gk, hg, hk⟩
      rw [← hg]
      replace HB := Lib.hid hw; replace Ha := Lib.hid ha; replace Hb := Lib.hid hb; replace He := Lib.hid he; have Hk := Lib.hid hk; replace HT9 := Lib.hid ht9
      clear hw ha hb he hk ht9 hg
      have ya := Ha.out.cell
      have yb := Hb.out.cell
      have ye := He.out.cell
      have yk := Hk.out.cell
      go_upto_region 7 with (go_at_call 33; refine (OO.out _ _ _ Ha.out.td Hb.out.td).mono ?_; intro e wx hx; obtain ⟨ix, jx, nx, cx, mx, dx, Ax, Bx, rfl, hb, ht⟩ := RetR.open (z := 0) rfl hx; have HX := Lib.hid (show Below W2.heap.size W2 wx from hb); have HT := Lib.hid ht; clear hx hb ht)
      clear ya yb ye yk
      refine wp_abs (fun X => Below w.heap.size w X ∧ Box X ga ia ja na ca ma da Aa Ba (D.raw 2) ∧ Box X gb ib jb nb cb mb db Ab Bb (E.raw 2) ∧ Box X ge ie je ne ce me de Ae Be (D.notM.raw 2) ∧ Box X gk ik jk nk ck mk dk Ak Bk ((prodM D E fun p q => p && q).raw 2) ∧ TS X (.slice A9 n9 c9) tl ∧ ∃ g, g = wx.heap.size ∧ Box X g ix jx nx cx mx dx Ax Bx ((prodM D E fun p q => p || q).raw 2)) ⟨HB.out.trans ((HX.out.alloc HX.out.size _).mono HB.out.size), Ha.out.to (HX.out.alloc HX.out.size _), Hb.out.to (HX.out.alloc HX.out.size _), He.out.to (HX.out.alloc HX.out.size _), Hk.out.to (HX.out.alloc HX.out.size _), HT9.out.below (HX.out.alloc HX.out.size _) (Nat.le_refl _), _, rfl, Row.new _ _ _, HT.out.below (Below.alloc (Below.refl _ _) (Nat.le_refl _) _) (Nat.le_refl _)⟩ ?_
      clear HX HT
      rintro W3 ⟨hw, ha, hb, he, hk, ht9, gx, hg, hx⟩
      rw [← hg]
      replace HB := Lib.hid hw; replace Ha := Lib.hid ha; replace Hb := Lib.hid hb; replace He := Lib.hid he; replace Hk := Lib.hid hk; have Hx := Lib.hid hx; replace HT9 := Lib.hid ht9
      clear hw ha hb he hk hx ht9 hg
      have ya := Ha.out.cell
      have yb := Hb.out.cell
      have ye := He.out.cell
      have yk := Hk.out.cell
      have yx := Hx.out.cell
      go_upto_region 8 with (go_at_call 35; refine (MI.out _ _ _ Ha.out.td Hb.out.td).mono ?_; intro e wx hx; obtain ⟨iy, jy, ny, cy, my, dy, Ay, By, rfl, hb, ht⟩ := RetR.open (z := 0) rfl hx; have HX := Lib.hid (show Below W3.heap.size W3 wx from hb); have HT := Lib.hid ht; clear hx hb ht)
      clear ya yb ye yk yx
      refine wp_abs (fun X => Below w.heap.size w X ∧ Box X ga ia ja na ca ma da Aa Ba (D.raw 2) ∧ Box X gb ib jb nb cb mb db Ab Bb (E.raw 2) ∧ Box X ge ie je ne ce me de Ae Be (D.notM.raw 2) ∧ Box X gk ik jk nk ck mk dk Ak Bk ((prodM D E fun p q => p && q).raw 2) ∧ Box X gx ix jx nx cx mx dx Ax Bx ((prodM D E fun p q => p || q).raw 2) ∧ TS X (.slice A9 n9 c9) tl ∧ ∃ g, g = wx.heap.size ∧ Box X g iy jy ny cy my dy Ay By ((prodM D E fun p q => p && !q).raw 2)) ⟨HB.out.trans ((HX.out.alloc HX.out.size _).mono HB.out.size), Ha.out.to (HX.out.alloc HX.out.size _), Hb.out.to (HX.out.alloc HX.out.size _), He.out.to (HX.out.alloc HX.out.size _), Hk.out.to (HX.out.alloc HX.out.size _), Hx.out.to (HX.out.alloc HX.out.size _), HT9.out.below (HX.out.alloc HX.out.size _) (Nat.le_refl _), _, rfl, Row.new _ _ _, HT.out.below (Below.alloc (Below.refl _ _) (Nat.le_refl _) _) (Nat.le_refl _)⟩ ?_
      clear HX HT
      rintro W4 ⟨hw, ha, hb, he, hk, hx, ht9, gy, hg, hy⟩
      rw [← hg]
      replace HB := Lib.hid hw; replace Ha := Lib.hid ha; replace Hb := Lib.hid hb; replace He := Lib.hid he; replace Hk := Lib.hid hk; replace Hx := Lib.hid hx; have Hy := Lib.hid hy; replace HT9 := Lib.hid ht9
      clear hw ha hb he hk hx hy ht9 hg
      clear Ha Hb
      have ye := He.out.cell
      have yk := Hk.out.cell
      have yx := Hx.out.cell
      have yy := Hy.out.cell
      rcases P with _ | _ <;> rcases Q with _ | _
      all_goals
        simp only [Bool.not_true, Bool.not_false, Bool.and_true, Bool.and_false, Bool.or_true, Bool.or_false, Bool.true_and, Bool.false_and, Bool.true_or, Bool.false_or, Bool.and_self, Bool.or_self] at A1 A2 A3 A4 A5 A6
        go_wp2_with (first
          | (go_at_call 43; (with_reducible refine (A3.out _ _ _ He.out.td HT9.out).mono ?_); rintro ee w30 ⟨rfl, hb⟩; replace HB := Lib.hid (HB.out.trans (hb.mono HB.out.size)); replace He := Lib.hid (He.out.to hb); replace Hk := Lib.hid (Hk.out.to hb); replace Hx := Lib.hid (Hx.out.to hb); replace Hy := Lib.hid (Hy.out.to hb); replace HT9 := Lib.hid (HT9.out.below hb (Nat.le_refl _)); clear ye; have ye := He.out.cell; clear yk; have yk := Hk.out.cell; clear yx; have yx := Hx.out.cell; clear yy; have yy := Hy.out.cell; clear hb)
          | (go_at_call 43; (with_reducible refine (A4.out _ _ _ Hk.out.td HT9.out).mono ?_); rintro ee w31 ⟨rfl, hb⟩; replace HB := Lib.hid (HB.out.trans (hb.mono HB.out.size)); replace He := Lib.hid (He.out.to hb); replace Hk := Lib.hid (Hk.out.to hb); replace Hx := Lib.hid (Hx.out.to hb); replace Hy := Lib.hid (Hy.out.to hb); replace HT9 := Lib.hid (HT9.out.below hb (Nat.le_refl _)); clear ye; have ye := He.out.cell; clear yk; have yk := Hk.out.cell; clear yx; have yx := Hx.out.cell; clear yy; have yy := Hy.out.cell; clear hb)
          | (go_at_call 43; (with_reducible refine (A5.out _ _ _ Hx.out.td HT9.out).mono ?_); rintro ee w32 ⟨rfl, hb⟩; replace HB := Lib.hid (HB.out.trans (hb.mono HB.out.size)); replace He := Lib.hid (He.out.to hb); replace Hk := Lib.hid (Hk.out.to hb); replace Hx := Lib.hid (Hx.out.to hb); replace Hy := Lib.hid (Hy.out.to hb); replace HT9 := Lib.hid (HT9.out.below hb (Nat.le_refl _)); clear ye; have ye := He.out.cell; clear yk; have yk := Hk.out.cell; clear yx; have yx := Hx.out.cell; clear yy; have yy := Hy.out.cell; clear hb)
          | (go_at_call 43; (with_reducible refine (A6.out _ _ _ Hy.out.td HT9.out).mono ?_); rintro ee w33 ⟨rfl, hb⟩; replace HB := Lib.hid (HB.out.trans (hb.mono HB.out.size)); replace He := Lib.hid (He.out.to hb); replace Hk := Lib.hid (Hk.out.to hb); replace Hx := Lib.hid (Hx.out.to hb); replace Hy := Lib.hid (Hy.out.to hb); replace HT9 := Lib.hid (HT9.out.below hb (Nat.le_refl _)); clear ye; have ye := He.out.cell; clear yk; have yk := Hk.out.cell; clear yx; have yx := Hx.out.cell; clear yy; have yy := Hy.out.cell; clear hb)
          | (go_at_call 28; (with_reducible refine (AWK.out _).mono ?_); rintro ee w40 ⟨rfl, hb⟩; replace HB := Lib.hid (HB.out.trans (hb.mono HB.out.size)); replace He := Lib.hid (He.out.to hb); replace Hk := Lib.hid (Hk.out.to hb); replace Hx := Lib.hid (Hx.out.to hb); replace Hy := Lib.hid (Hy.out.to hb); clear ye; have ye := He.out.cell; clear yk; have yk := Hk.out.cell; clear yx; have yx := Hx.out.cell; clear yy; have yy := Hy.out.cell; clear hb))
        go_returns
        exact ⟨by first | rfl | simp, HB.out⟩
    · obtain ⟨z, hz⟩ : ∃ z, z = checkT tl ((2 : Nat) : Int) := ⟨_, rfl⟩
      have A1 := Lib.hid fun W u s (h : TD W u (D.raw 2)) (h2 : TS W s tl) => (show Calls Tryz.prog 43 #[u, s] W (fun e w' => e = .returned (.tuple #[.bool (false), .int .i64 (z)]) ∧ Below W.heap.size W w') from by have q := accepts_ok D 2 hD u s tl W h h2 hlb; rw [acc_bad hc, ← hz] at q; exact q)
      have A2 := Lib.hid fun W u s (h : TD W u (E.raw 2)) (h2 : TS W s tl) => (show Calls Tryz.prog 43 #[u, s] W (fun e w' => e = .returned (.tuple #[.bool (false), .int .i64 (z)]) ∧ Below W.heap.size W w') from by have q := accepts_ok E 2 hE u s tl W h h2 hlb; rw [acc_bad hc, ← hz] at q; exact q)
      have CK := Lib.hid fun W s (h2 : TS W s tl) => (show Calls Tryz.prog 44 #[s, .int .i64 2] W (fun e w' => e = .returned (.int .i64 z) ∧ Below W.heap.size W w') from by have q := TreeCheck_any tl s ((2 : Nat) : Int) W h2; rw [← hz] at q; exact q)
      have hz0 : ¬ z = 0 := by rw [hz]; exact hc
      clear hz hc
      obtain ⟨n9, hn9⟩ : ∃ n, n = tl.length := ⟨_, rfl⟩
      simp only [← hn9] at HT9 ⊢
      clear hn9 hlb hpl hL hDn hEn hD hE
      have ya := Ha.out.cell
      have yb := Hb.out.cell
      go_upto_region 3 with (go_at_call 43; (with_reducible refine (A1.out _ _ _ Ha.out.td HT9.out).mono ?_); rintro ee w21 ⟨rfl, hb⟩; replace HB := Lib.hid (HB.out.trans (hb.mono HB.out.size)); replace Ha := Lib.hid (Ha.out.to hb); replace Hb := Lib.hid (Hb.out.to hb); replace HT9 := Lib.hid (HT9.out.below hb (Nat.le_refl _)); clear ya; have ya := Ha.out.cell; clear yb; have yb := Hb.out.cell; clear hb)
      go_upto_region 4 with (go_at_call 43; (with_reducible refine (A2.out _ _ _ Hb.out.td HT9.out).mono ?_); rintro ee w22 ⟨rfl, hb⟩; replace HB := Lib.hid (HB.out.trans (hb.mono HB.out.size)); replace Ha := Lib.hid (Ha.out.to hb); replace Hb := Lib.hid (Hb.out.to hb); replace HT9 := Lib.hid (HT9.out.below hb (Nat.le_refl _)); clear ya; have ya := Ha.out.cell; clear yb; have yb := Hb.out.cell; clear hb)
      clear ya yb
      have ya := Ha.out.cell
      have yb := Hb.out.cell
      go_upto_region 5 with (go_at_call 14; refine (NO.out _ _ Ha.out.td).mono ?_; intro e wx hx; obtain ⟨ie, je, ne, ce, me, de, Ae, Be, rfl, hb, ht⟩ := RetR.open (z := 0) rfl hx; have HX := Lib.hid (show Below w22.heap.size w22 wx from hb); have HT := Lib.hid ht; clear hx hb ht)
      clear ya yb
      refine wp_abs (fun X => Below w.heap.size w X ∧ Box X ga ia ja na ca ma da Aa Ba (D.raw 2) ∧ Box X gb ib jb nb cb mb db Ab Bb (E.raw 2) ∧ TS X (.slice A9 n9 c9) tl ∧ ∃ g, g = wx.heap.size ∧ Box X g ie je ne ce me de Ae Be (D.notM.raw 2)) ⟨HB.out.trans ((HX.out.alloc HX.out.size _).mono HB.out.size), Ha.out.to (HX.out.alloc HX.out.size _), Hb.out.to (HX.out.alloc HX.out.size _), HT9.out.below (HX.out.alloc HX.out.size _) (Nat.le_refl _), _, rfl, Row.new _ _ _, HT.out.below (Below.alloc (Below.refl _ _) (Nat.le_refl _) _) (Nat.le_refl _)⟩ ?_
      clear HX HT
      rintro W5 ⟨hw, ha, hb, ht9, ge, hg, he⟩
      rw [← hg]
      replace HB := Lib.hid hw; replace Ha := Lib.hid ha; replace Hb := Lib.hid hb; have He := Lib.hid he; replace HT9 := Lib.hid ht9
      clear hw ha hb he ht9 hg
      have ya := Ha.out.cell
      have yb := Hb.out.cell
      have ye := He.out.cell
      go_upto_region 6 with (go_at_call 31; refine (AN.out _ _ _ Ha.out.td Hb.out.td).mono ?_; intro e wx hx; obtain ⟨ik, jk, nk, ck, mk, dk, Ak, Bk, rfl, hb, ht⟩ := RetR.open (z := 0) rfl hx; have HX := Lib.hid (show Below W5.heap.size W5 wx from hb); have HT := Lib.hid ht; clear hx hb ht)
      clear ya yb ye
      refine wp_abs (fun X => Below w.heap.size w X ∧ Box X ga ia ja na ca ma da Aa Ba (D.raw 2) ∧ Box X gb ib jb nb cb mb db Ab Bb (E.raw 2) ∧ Box X ge ie je ne ce me de Ae Be (D.notM.raw 2) ∧ TS X (.slice A9 n9 c9) tl ∧ ∃ g, g = wx.heap.size ∧ Box X g ik jk nk ck mk dk Ak Bk ((prodM D E fun p q => p && q).raw 2)) ⟨HB.out.trans ((HX.out.alloc HX.out.size _).mono HB.out.size), Ha.out.to (HX.out.alloc HX.out.size _), Hb.out.to (HX.out.alloc HX.out.size _), He.out.to (HX.out.alloc HX.out.size _), HT9.out.below (HX.out.alloc HX.out.size _) (Nat.le_refl _), _, rfl, Row.new _ _ _, HT.out.below (Below.alloc (Below.refl _ _) (Nat.le_refl _) _) (Nat.le_refl _)⟩ ?_
      clear HX HT
      rintro W6 ⟨hw, ha, hb, he, ht9, gk, hg, hk⟩
      rw [← hg]
      replace HB := Lib.hid hw; replace Ha := Lib.hid ha; replace Hb := Lib.hid hb; replace He := Lib.hid he; have Hk := Lib.hid hk; replace HT9 := Lib.hid ht9
      clear hw ha hb he hk ht9 hg
      have ya := Ha.out.cell
      have yb := Hb.out.cell
      have ye := He.out.cell
      have yk := Hk.out.cell
      go_upto_region 7 with (go_at_call 33; refine (OO.out _ _ _ Ha.out.td Hb.out.td).mono ?_; intro e wx hx; obtain ⟨ix, jx, nx, cx, mx, dx, Ax, Bx, rfl, hb, ht⟩ := RetR.open (z := 0) rfl hx; have HX := Lib.hid (show Below W6.heap.size W6 wx from hb); have HT := Lib.hid ht; clear hx hb ht)
      clear ya yb ye yk
      refine wp_abs (fun X => Below w.heap.size w X ∧ Box X ga ia ja na ca ma da Aa Ba (D.raw 2) ∧ Box X gb ib jb nb cb mb db Ab Bb (E.raw 2) ∧ Box X ge ie je ne ce me de Ae Be (D.notM.raw 2) ∧ Box X gk ik jk nk ck mk dk Ak Bk ((prodM D E fun p q => p && q).raw 2) ∧ TS X (.slice A9 n9 c9) tl ∧ ∃ g, g = wx.heap.size ∧ Box X g ix jx nx cx mx dx Ax Bx ((prodM D E fun p q => p || q).raw 2)) ⟨HB.out.trans ((HX.out.alloc HX.out.size _).mono HB.out.size), Ha.out.to (HX.out.alloc HX.out.size _), Hb.out.to (HX.out.alloc HX.out.size _), He.out.to (HX.out.alloc HX.out.size _), Hk.out.to (HX.out.alloc HX.out.size _), HT9.out.below (HX.out.alloc HX.out.size _) (Nat.le_refl _), _, rfl, Row.new _ _ _, HT.out.below (Below.alloc (Below.refl _ _) (Nat.le_refl _) _) (Nat.le_refl _)⟩ ?_
      clear HX HT
      rintro W7 ⟨hw, ha, hb, he, hk, ht9, gx, hg, hx⟩
      rw [← hg]
      replace HB := Lib.hid hw; replace Ha := Lib.hid ha; replace Hb := Lib.hid hb; replace He := Lib.hid he; replace Hk := Lib.hid hk; have Hx := Lib.hid hx; replace HT9 := Lib.hid ht9
      clear hw ha hb he hk hx ht9 hg
      have ya := Ha.out.cell
      have yb := Hb.out.cell
      have ye := He.out.cell
      have yk := Hk.out.cell
      have yx := Hx.out.cell
      go_upto_region 8 with (go_at_call 35; refine (MI.out _ _ _ Ha.out.td Hb.out.td).mono ?_; intro e wx hx; obtain ⟨iy, jy, ny, cy, my, dy, Ay, By, rfl, hb, ht⟩ := RetR.open (z := 0) rfl hx; have HX := Lib.hid (show Below W7.heap.size W7 wx from hb); have HT := Lib.hid ht; clear hx hb ht)
      clear ya yb ye yk yx
      refine wp_abs (fun X => Below w.heap.size w X ∧ Box X ga ia ja na ca ma da Aa Ba (D.raw 2) ∧ Box X gb ib jb nb cb mb db Ab Bb (E.raw 2) ∧ Box X ge ie je ne ce me de Ae Be (D.notM.raw 2) ∧ Box X gk ik jk nk ck mk dk Ak Bk ((prodM D E fun p q => p && q).raw 2) ∧ Box X gx ix jx nx cx mx dx Ax Bx ((prodM D E fun p q => p || q).raw 2) ∧ TS X (.slice A9 n9 c9) tl ∧ ∃ g, g = wx.heap.size ∧ Box X g iy jy ny cy my dy Ay By ((prodM D E fun p q => p && !q).raw 2)) ⟨HB.out.trans ((HX.out.alloc HX.out.size _).mono HB.out.size), Ha.out.to (HX.out.alloc HX.out.size _), Hb.out.to (HX.out.alloc HX.out.size _), He.out.to (HX.out.alloc HX.out.size _), Hk.out.to (HX.out.alloc HX.out.size _), Hx.out.to (HX.out.alloc HX.out.size _), HT9.out.below (HX.out.alloc HX.out.size _) (Nat.le_refl _), _, rfl, Row.new _ _ _, HT.out.below (Below.alloc (Below.refl _ _) (Nat.le_refl _) _) (Nat.le_refl _)⟩ ?_
      clear HX HT
      rintro W8 ⟨hw, ha, hb, he, hk, hx, ht9, gy, hg, hy⟩
      rw [← hg]
      replace HB := Lib.hid hw; replace Ha := Lib.hid ha; replace Hb := Lib.hid hb; replace He := Lib.hid he; replace Hk := Lib.hid hk; replace Hx := Lib.hid hx; have Hy := Lib.hid hy; replace HT9 := Lib.hid ht9
      clear hw ha hb he hk hx hy ht9 hg
      clear Ha Hb
      have ye := He.out.cell
      have yk := Hk.out.cell
      have yx := Hx.out.cell
      have yy := Hy.out.cell
      go_wp2_with (first
        | (go_at_call 44; (with_reducible refine (CK.out _ _ HT9.out).mono ?_); rintro ee w30 ⟨rfl, hb⟩; replace HB := Lib.hid (HB.out.trans (hb.mono HB.out.size)); replace He := Lib.hid (He.out.to hb); replace Hk := Lib.hid (Hk.out.to hb); replace Hx := Lib.hid (Hx.out.to hb); replace Hy := Lib.hid (Hy.out.to hb); replace HT9 := Lib.hid (HT9.out.below hb (Nat.le_refl _)); clear ye; have ye := He.out.cell; clear yk; have yk := Hk.out.cell; clear yx; have yx := Hx.out.cell; clear yy; have yy := Hy.out.cell; clear hb)
        | (go_at_call 28; (with_reducible refine (AWK.out _).mono ?_); rintro ee w40 ⟨rfl, hb⟩; replace HB := Lib.hid (HB.out.trans (hb.mono HB.out.size)); replace He := Lib.hid (He.out.to hb); replace Hk := Lib.hid (Hk.out.to hb); replace Hx := Lib.hid (Hx.out.to hb); replace Hy := Lib.hid (Hy.out.to hb); clear ye; have ye := He.out.cell; clear yk; have yk := Hk.out.cell; clear yx; have yx := Hx.out.cell; clear yy; have yy := Hy.out.cell; clear hb))
      go_returns
      exact ⟨by first | rfl | simp, HB.out⟩
end Go.Proofs.YthkfjnmnoanhlaaGreatDoor
