/- Law: TreeopsQuantifies. (Printed by gen_l20.py.) -/
import Derived.Test.YthkfjnmnoanhlaaGreatDoorAwP
import Derived.Test.YthkfjnmnoanhlaaGreatDoorExt
import Derived.Test.YthkfjnmnoanhlaaGreatDoorEqD
set_option linter.unusedSimpArgs false
set_option linter.unusedVariables false
namespace Go.Proofs.YthkfjnmnoanhlaaGreatDoor
open Go.RowKit

set_option maxRecDepth 100000 in
set_option maxHeartbeats 16000000 in
theorem quantifies_law (hsub : CSub 4 2) (haw : CAwk) (rp : Raw) (vp : Value) (x0 : Int) (w : World) (hvp : TD w vp rp) :
    Calls Tryz.prog 4 #[vp, .int .i64 x0] w fun e w' => e = .returned (.bool true) ∧ Below w.heap.size w w' := by
  obtain ⟨Ap, cp, Bp, dp, rfl⟩ := hvp.form
  have Hdp := Lib.hid hvp
  obtain ⟨np, q1⟩ : ∃ n, n = rp.next.length := ⟨_, rfl⟩
  obtain ⟨mp, q2⟩ : ∃ n, n = rp.fin.length := ⟨_, rfl⟩
  obtain ⟨ip, q3⟩ : ∃ n, n = rp.vars := ⟨_, rfl⟩
  obtain ⟨jp, q4⟩ : ∃ n, n = rp.empty := ⟨_, rfl⟩
  rw [← q1, ← q2, ← q3, ← q4] at Hdp ⊢
  clear hvp q1 q2 q3 q4
  obtain ⟨v, hv⟩ : ∃ v : Nat, (wrap64 (x0.tmod 2 + 2)).tmod 2 = (v : Int) := ⟨((wrap64 (x0.tmod 2 + 2)).tmod 2).toNat, by have a1 := Int.lt_tmod_of_pos x0 (b := 2) (by omega); have a2 := Int.tmod_lt_of_pos x0 (b := 2) (by omega); rw [IntWalk.wrap64_in _ ⟨by omega, by omega⟩, Int.tmod_eq_emod_of_nonneg (by omega)]; omega⟩
  have hv2 : v < 2 := by have a1 := Int.lt_tmod_of_pos x0 (b := 2) (by omega); have a2 := Int.tmod_lt_of_pos x0 (b := 2) (by omega); rw [IntWalk.wrap64_in _ ⟨by omega, by omega⟩, Int.tmod_eq_emod_of_nonneg (by omega)] at hv; omega
  obtain ⟨z, hz⟩ : ∃ z : Nat, z = 1 - v := ⟨_, rfl⟩
  have hz2 : z < 2 := by omega
  have hzv : v ≠ z := by omega
  have hzi : wrap64 (1 - (v : Int)) = (z : Int) := by rw [IntWalk.wrap64_in _ ⟨by omega, by omega⟩]; omega
  have hzj : (1 : Int) - (v : Int) = (z : Int) := by omega
  clear hz
  have SU := Lib.hid fun W u (h : TD W u rp) => hsub rp u W h
  have AWK := Lib.hid haw
  clear hsub haw
  go_enter Tryz.func4, Tryz.ntmps4
  go_upto_region 1 with fail
  refine wp_abs (fun X => Below w.heap.size w X ∧ ∃ g, g = w.heap.size ∧ Box X g ip jp np cp mp dp Ap Bp rp) ⟨by go_grown, _, rfl, Row.new _ _ _, Hdp.out.below (Below.alloc (Below.refl _ _) (Nat.le_refl _) _) (Nat.le_refl _)⟩ ?_
  rintro W0 ⟨hw, gp, hg, hp⟩
  rw [← hg]
  have HB := Lib.hid hw; have Hp := Lib.hid hp
  clear hw hg hp Hdp
  have yp := Hp.out.cell
  go_upto_region 2 with (go_at_call 29; refine (SU.out _ _ Hp.out.td).mono ?_; intro e wx hx; obtain ⟨D, hD, hDn, ib, jb, nb, cb, mb, db, Ab, Bb, rfl, hb, ht⟩ := RetSub.open hx; have HX := Lib.hid (show Below W0.heap.size W0 wx from hb); have HT := Lib.hid ht; clear hx hb ht)
  clear yp
  refine wp_abs (fun X => Below w.heap.size w X ∧ Box X gp ip jp np cp mp dp Ap Bp rp ∧ ∃ g, g = wx.heap.size ∧ Box X g ib jb nb cb mb db Ab Bb (D.raw 2)) ⟨HB.out.trans ((HX.out.alloc HX.out.size _).mono HB.out.size), Hp.out.to (HX.out.alloc HX.out.size _), _, rfl, Row.new _ _ _, HT.out.below (Below.alloc (Below.refl _ _) (Nat.le_refl _) _) (Nat.le_refl _)⟩ ?_
  clear HX HT
  rintro W1 ⟨hw, hp, gb, hg, hb⟩
  rw [← hg]
  replace HB := Lib.hid hw; replace Hp := Lib.hid hp; have Hb := Lib.hid hb
  clear hw hp hb hg
  clear Hp
  have hl : (setO D v).length ≤ 16 := setO_small hD hv2 (Nat.pow_le_pow_right (by omega) hDn)
  have hlz : (setO D z).length ≤ 16 := setO_small hD hz2 (Nat.pow_le_pow_right (by omega) hDn)
  have hA := existsM_fit hD hv2 (by omega)
  have hX := existsM_fit hD hz2 (by omega)
  have e1 : exR D v 64 2 = ((existsM D v).raw 2, 0) := by unfold exR; rw [if_pos (by omega)]
  have e2 : exR D z 64 2 = ((existsM D z).raw 2, 0) := by unfold exR; rw [if_pos (by omega)]
  have e3 : exR (existsM D v) v 64 2 = ((existsM D v).raw 2, 0) := by unfold exR; rw [if_pos (Nat.le_trans (idle_len hD hv2 (by omega)) (by omega)), exists_twice hD hv2 (by omega)]
  obtain ⟨RC, hRC⟩ : ∃ R, R = exR (existsM D v) z 64 2 := ⟨_, rfl⟩
  obtain ⟨RY, hRY⟩ : ∃ R, R = exR (existsM D z) v 64 2 := ⟨_, rfl⟩
  have hRC2 : RC.2 = 0 ∧ RC.1 = (existsM (existsM D v) z).raw 2 ∨ RC.2 = 10 := by rw [hRC]; unfold exR; split; exact .inl ⟨rfl, rfl⟩; exact .inr rfl
  have hRY2 : RY.2 = 0 ∧ RY.1 = (existsM (existsM D z) v).raw 2 ∨ RY.2 = 10 := by rw [hRY]; unfold exR; split; exact .inl ⟨rfl, rfl⟩; exact .inr rfl
  have hcm := exists_comm hD hv2 hz2 hzv (by omega) (by omega)
  have hin := incl_exists hD hv2 (by omega) (Nat.le_trans (Nat.mul_le_mul hDn hl) (by omega))
  have hAlow := hA.low
  have hClow : ∀ h : (existsM (existsM D v) z).Fit 2, ((existsM (existsM D v) z).raw 2).Low := fun h => h.low
  have E1 := Lib.hid fun W u (h : TD W u (D.raw 2)) => (show Calls Tryz.prog 16 #[u, .int .i64 (v : Int), .int .i64 64] W (RetR W ((existsM D v).raw 2) 0) from by have q := exists_ok D 2 v 64 hD (by omega) (by omega) (by omega) u W h; rw [e1] at q; exact q)
  have E2 := Lib.hid fun W u (h : TD W u ((existsM D v).raw 2)) => (show Calls Tryz.prog 16 #[u, .int .i64 (v : Int), .int .i64 64] W (RetR W ((existsM D v).raw 2) 0) from by have q := exists_ok (existsM D v) 2 v 64 hA (by omega) (by omega) (by omega) u W h; rw [e3] at q; exact q)
  have E3 := Lib.hid fun W u (h : TD W u ((existsM D v).raw 2)) => (show Calls Tryz.prog 16 #[u, .int .i64 (z : Int), .int .i64 64] W (RetR W RC.1 RC.2) from by have q := exists_ok (existsM D v) 2 z 64 hA (by omega) (by omega) (by omega) u W h; rw [← hRC] at q; exact q)
  have E4 := Lib.hid fun W u (h : TD W u (D.raw 2)) => (show Calls Tryz.prog 16 #[u, .int .i64 (z : Int), .int .i64 64] W (RetR W ((existsM D z).raw 2) 0) from by have q := exists_ok D 2 z 64 hD (by omega) (by omega) (by omega) u W h; rw [e2] at q; exact q)
  have E5 := Lib.hid fun W u (h : TD W u ((existsM D z).raw 2)) => (show Calls Tryz.prog 16 #[u, .int .i64 (v : Int), .int .i64 64] W (RetR W RY.1 RY.2) from by have q := exists_ok (existsM D z) 2 v 64 hX (by omega) (by omega) (by omega) u W h; rw [← hRY] at q; exact q)
  have I1 := Lib.hid fun W u s (h : TD W u (D.raw 2)) (h2 : TD W s ((existsM D v).raw 2)) => (show Calls Tryz.prog 30 #[u, s] W (RetSm W ([], true, 0)) from by have q := included_ok D (existsM D v) 2 hD hA u s W h h2; rw [hin] at q; exact q)
  have Q1 := Lib.hid fun W u s (h : TD W u ((existsM D v).raw 2)) (h2 : TD W s ((existsM D v).raw 2)) => (show Calls Tryz.prog 18 #[u, s] W (fun e w' => e = .returned (.bool true) ∧ Below W.heap.size W w') from by have q := equalTD _ _ u s W h h2 hAlow; rw [eqR_self] at q; exact q)
  have Q2 := Lib.hid fun (h0 : RC.2 = 0) (h1 : RY.2 = 0) W u s (h : TD W u RC.1) (h2 : TD W s RY.1) => (show Calls Tryz.prog 18 #[u, s] W (fun e w' => e = .returned (.bool true) ∧ Below W.heap.size W w') from by have p1 : RC.1 = (existsM (existsM D v) z).raw 2 := (by rcases hRC2 with h' | h'; exact h'.2; omega); have p2 : RY.1 = (existsM (existsM D z) v).raw 2 := (by rcases hRY2 with h' | h'; exact h'.2; omega); rw [p1] at h; rw [p2, ← hcm] at h2; have hl3 : (setO (existsM D v) z).length ≤ 64 := (by have := h0; rw [hRC] at this; unfold exR at this; split at this; assumption; simp at this); have q := equalTD _ _ u s W h h2 (existsM_fit hA hz2 hl3).low; rw [eqR_self] at q; exact q)
  have hk1 : RC.2 = 0 ∨ RC.2 = 10 := by rcases hRC2 with h | h; exact .inl h.1; exact .inr h
  have hk2 : RY.2 = 0 ∨ RY.2 = 10 := by rcases hRY2 with h | h; exact .inl h.1; exact .inr h
  obtain ⟨R1, k1⟩ := RC
  obtain ⟨R2, k2⟩ := RY
  simp only at Q2 E3 E5 hk1 hk2
  clear hl hlz e1 e2 e3 hRC hRY hRC2 hRY2 hcm hin hAlow hClow hA hX hzv hv2 hz2 SU hD hDn
  go_upto_region 3 with fail
  try rw [hv]
  clear hv
  have yb := Hb.out.cell
  go_upto_region 4 with (go_at_call 16; refine (E1.out _ _ Hb.out.td).mono ?_; intro e wx hx; obtain ⟨ia, ja, na, ca, ma, da, Aa, Ba, rfl, hb, ht⟩ := RetR.open (z := 0) rfl hx; have HX := Lib.hid (show Below W1.heap.size W1 wx from hb); have HT := Lib.hid ht; clear hx hb ht)
  clear yb
  refine wp_abs (fun X => Below w.heap.size w X ∧ Box X gb ib jb nb cb mb db Ab Bb (D.raw 2) ∧ ∃ g, g = wx.heap.size ∧ Box X g ia ja na ca ma da Aa Ba ((existsM D v).raw 2)) ⟨HB.out.trans ((HX.out.alloc HX.out.size _).mono HB.out.size), Hb.out.to (HX.out.alloc HX.out.size _), _, rfl, Row.new _ _ _, HT.out.below (Below.alloc (Below.refl _ _) (Nat.le_refl _) _) (Nat.le_refl _)⟩ ?_
  clear HX HT
  rintro W2 ⟨hw, hb, ga, hg, ha⟩
  rw [← hg]
  replace HB := Lib.hid hw; replace Hb := Lib.hid hb; have Ha := Lib.hid ha
  clear hw hb ha hg
  have yb := Hb.out.cell
  have ya := Ha.out.cell
  go_upto_region 5 with (go_at_call 16; refine (E2.out _ _ Ha.out.td).mono ?_; intro e wx hx; obtain ⟨ie, je, ne, ce, me, de, Ae, Be, rfl, hb, ht⟩ := RetR.open (z := 0) rfl hx; have HX := Lib.hid (show Below W2.heap.size W2 wx from hb); have HT := Lib.hid ht; clear hx hb ht)
  clear yb ya
  refine wp_abs (fun X => Below w.heap.size w X ∧ Box X gb ib jb nb cb mb db Ab Bb (D.raw 2) ∧ Box X ga ia ja na ca ma da Aa Ba ((existsM D v).raw 2) ∧ ∃ g, g = wx.heap.size ∧ Box X g ie je ne ce me de Ae Be ((existsM D v).raw 2)) ⟨HB.out.trans ((HX.out.alloc HX.out.size _).mono HB.out.size), Hb.out.to (HX.out.alloc HX.out.size _), Ha.out.to (HX.out.alloc HX.out.size _), _, rfl, Row.new _ _ _, HT.out.below (Below.alloc (Below.refl _ _) (Nat.le_refl _) _) (Nat.le_refl _)⟩ ?_
  clear HX HT
  rintro W3 ⟨hw, hb, ha, ge, hg, he⟩
  rw [← hg]
  replace HB := Lib.hid hw; replace Hb := Lib.hid hb; replace Ha := Lib.hid ha; have He := Lib.hid he
  clear hw hb ha he hg
  have yb := Hb.out.cell
  have ya := Ha.out.cell
  have ye := He.out.cell
  go_upto_region 6 with (go_at_call 16; refine (E3.out _ _ Ha.out.td).mono ?_; intro e wx hx; obtain ⟨ik, jk, nk, ck, mk, dk, Ak, Bk, rfl, hb, ht⟩ := RetR.open (z := (k1 : Int)) rfl hx; have HX := Lib.hid (show Below W3.heap.size W3 wx from hb); have HT := Lib.hid ht; clear hx hb ht)
  clear yb ya ye
  refine wp_abs (fun X => Below w.heap.size w X ∧ Box X gb ib jb nb cb mb db Ab Bb (D.raw 2) ∧ Box X ga ia ja na ca ma da Aa Ba ((existsM D v).raw 2) ∧ Box X ge ie je ne ce me de Ae Be ((existsM D v).raw 2) ∧ ∃ g, g = wx.heap.size ∧ Box X g ik jk nk ck mk dk Ak Bk R1) ⟨HB.out.trans ((HX.out.alloc HX.out.size _).mono HB.out.size), Hb.out.to (HX.out.alloc HX.out.size _), Ha.out.to (HX.out.alloc HX.out.size _), He.out.to (HX.out.alloc HX.out.size _), _, rfl, Row.new _ _ _, HT.out.below (Below.alloc (Below.refl _ _) (Nat.le_refl _) _) (Nat.le_refl _)⟩ ?_
  clear HX HT
  rintro W4 ⟨hw, hb, ha, he, gk, hg, hk⟩
  rw [← hg]
  replace HB := Lib.hid hw; replace Hb := Lib.hid hb; replace Ha := Lib.hid ha; replace He := Lib.hid he; have Hk := Lib.hid hk
  clear hw hb ha he hk hg
  have yb := Hb.out.cell
  have ya := Ha.out.cell
  have ye := He.out.cell
  have yk := Hk.out.cell
  go_upto_region 7 with (go_at_call 16; refine (E4.out _ _ Hb.out.td).mono ?_; intro e wx hx; obtain ⟨ix, jx, nx, cx, mx, dx, Ax, Bx, rfl, hb, ht⟩ := RetR.open (z := 0) rfl hx; have HX := Lib.hid (show Below W4.heap.size W4 wx from hb); have HT := Lib.hid ht; clear hx hb ht)
  clear yb ya ye yk
  refine wp_abs (fun X => Below w.heap.size w X ∧ Box X gb ib jb nb cb mb db Ab Bb (D.raw 2) ∧ Box X ga ia ja na ca ma da Aa Ba ((existsM D v).raw 2) ∧ Box X ge ie je ne ce me de Ae Be ((existsM D v).raw 2) ∧ Box X gk ik jk nk ck mk dk Ak Bk R1 ∧ ∃ g, g = wx.heap.size ∧ Box X g ix jx nx cx mx dx Ax Bx ((existsM D z).raw 2)) ⟨HB.out.trans ((HX.out.alloc HX.out.size _).mono HB.out.size), Hb.out.to (HX.out.alloc HX.out.size _), Ha.out.to (HX.out.alloc HX.out.size _), He.out.to (HX.out.alloc HX.out.size _), Hk.out.to (HX.out.alloc HX.out.size _), _, rfl, Row.new _ _ _, HT.out.below (Below.alloc (Below.refl _ _) (Nat.le_refl _) _) (Nat.le_refl _)⟩ ?_
  clear HX HT
  rintro W5 ⟨hw, hb, ha, he, hk, gx, hg, hx⟩
  rw [← hg]
  replace HB := Lib.hid hw; replace Hb := Lib.hid hb; replace Ha := Lib.hid ha; replace He := Lib.hid he; replace Hk := Lib.hid hk; have Hx := Lib.hid hx
  clear hw hb ha he hk hx hg
  have yb := Hb.out.cell
  have ya := Ha.out.cell
  have ye := He.out.cell
  have yk := Hk.out.cell
  have yx := Hx.out.cell
  go_upto_region 8 with (go_at_call 16; refine (E5.out _ _ Hx.out.td).mono ?_; intro e wx hx; obtain ⟨iy, jy, ny, cy, my, dy, Ay, By, rfl, hb, ht⟩ := RetR.open (z := (k2 : Int)) rfl hx; have HX := Lib.hid (show Below W5.heap.size W5 wx from hb); have HT := Lib.hid ht; clear hx hb ht)
  clear yb ya ye yk yx
  refine wp_abs (fun X => Below w.heap.size w X ∧ Box X gb ib jb nb cb mb db Ab Bb (D.raw 2) ∧ Box X ga ia ja na ca ma da Aa Ba ((existsM D v).raw 2) ∧ Box X ge ie je ne ce me de Ae Be ((existsM D v).raw 2) ∧ Box X gk ik jk nk ck mk dk Ak Bk R1 ∧ Box X gx ix jx nx cx mx dx Ax Bx ((existsM D z).raw 2) ∧ ∃ g, g = wx.heap.size ∧ Box X g iy jy ny cy my dy Ay By R2) ⟨HB.out.trans ((HX.out.alloc HX.out.size _).mono HB.out.size), Hb.out.to (HX.out.alloc HX.out.size _), Ha.out.to (HX.out.alloc HX.out.size _), He.out.to (HX.out.alloc HX.out.size _), Hk.out.to (HX.out.alloc HX.out.size _), Hx.out.to (HX.out.alloc HX.out.size _), _, rfl, Row.new _ _ _, HT.out.below (Below.alloc (Below.refl _ _) (Nat.le_refl _) _) (Nat.le_refl _)⟩ ?_
  clear HX HT
  rintro W6 ⟨hw, hb, ha, he, hk, hx, gy, hg, hy⟩
  rw [← hg]
  replace HB := Lib.hid hw; replace Hb := Lib.hid hb; replace Ha := Lib.hid ha; replace He := Lib.hid he; replace Hk := Lib.hid hk; replace Hx := Lib.hid hx; have Hy := Lib.hid hy
  clear hw hb ha he hk hx hy hg
  clear Hx
  have yb := Hb.out.cell
  have ya := Ha.out.cell
  have ye := He.out.cell
  have yk := Hk.out.cell
  have yy := Hy.out.cell
  go_upto_region 9 with (go_at_call 30; (with_reducible refine (I1.out _ _ _ Hb.out.td Ha.out.td).mono ?_); intro ee w9 hx; obtain ⟨A9, c9, rfl, hb⟩ := RetSm.open (z := 0) rfl hx; clear hx; replace HB := Lib.hid (HB.out.trans (hb.mono HB.out.size)); replace Hb := Lib.hid (Hb.out.to hb); replace Ha := Lib.hid (Ha.out.to hb); replace He := Lib.hid (He.out.to hb); replace Hk := Lib.hid (Hk.out.to hb); replace Hy := Lib.hid (Hy.out.to hb); clear yb; have yb := Hb.out.cell; clear ya; have ya := Ha.out.cell; clear ye; have ye := He.out.cell; clear yk; have yk := Hk.out.cell; clear yy; have yy := Hy.out.cell; clear hb)
  clear yb ya ye yk yy
  clear Hb
  have ya := Ha.out.cell
  have ye := He.out.cell
  have yk := Hk.out.cell
  have yy := Hy.out.cell
  go_upto_region 11 with (go_at_call 18; (with_reducible refine (Q1.out _ _ _ Ha.out.td He.out.td).mono ?_); rintro ee w10 ⟨rfl, hb⟩; replace HB := Lib.hid (HB.out.trans (hb.mono HB.out.size)); replace Ha := Lib.hid (Ha.out.to hb); replace He := Lib.hid (He.out.to hb); replace Hk := Lib.hid (Hk.out.to hb); replace Hy := Lib.hid (Hy.out.to hb); clear ya; have ya := Ha.out.cell; clear ye; have ye := He.out.cell; clear yk; have yk := Hk.out.cell; clear yy; have yy := Hy.out.cell; clear hb)
  clear ya ye yk yy
  clear Ha He
  have yk := Hk.out.cell
  have yy := Hy.out.cell
  rcases hk1 with rfl | rfl <;> rcases hk2 with rfl | rfl
  all_goals
    go_wp2_with (first
      | (go_at_call 18; (with_reducible refine (Q2.out rfl rfl _ _ _ Hk.out.td Hy.out.td).mono ?_); rintro ee w11 ⟨rfl, hb⟩; replace HB := Lib.hid (HB.out.trans (hb.mono HB.out.size)); replace Hk := Lib.hid (Hk.out.to hb); replace Hy := Lib.hid (Hy.out.to hb); clear yk; have yk := Hk.out.cell; clear yy; have yy := Hy.out.cell; clear hb)
      | (go_at_call 28; (with_reducible refine (AWK.out _).mono ?_); rintro ee w12 ⟨rfl, hb⟩; replace HB := Lib.hid (HB.out.trans (hb.mono HB.out.size)); replace Hk := Lib.hid (Hk.out.to hb); replace Hy := Lib.hid (Hy.out.to hb); clear yk; have yk := Hk.out.cell; clear yy; have yy := Hy.out.cell; clear hb))
    go_returns
    exact ⟨rfl, HB.out⟩
end Go.Proofs.YthkfjnmnoanhlaaGreatDoor
