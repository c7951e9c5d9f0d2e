/- Law: TreeopsCounts. (Printed by gen_counts.py.) -/
import Derived.Test.YthkfjnmnoanhlaaGreatDoorSmQ
import Derived.Test.YthkfjnmnoanhlaaGreatDoorAcc
import Derived.Test.YthkfjnmnoanhlaaGreatDoorSay
import Derived.Test.YthkfjnmnoanhlaaGreatDoorAlT
import Derived.Deep.RegionHeld3
set_option linter.unusedSimpArgs false
set_option linter.unusedVariables false
namespace Go.Proofs.YthkfjnmnoanhlaaGreatDoor
open Go.RowKit

def allD : Dta := ⟨1, 0, 4, fun _ _ _ => 0, fun _ => true⟩
theorem allD_fit : allD.Fit 2 := ⟨⟨by decide, fun l r x _ _ _ => by show (0 : Nat) < 1; omega⟩, by decide, by omega, rfl⟩
theorem all_raw : allD.raw 2 = ⟨2, 0, [[[0, 0, 0, 0]]], [true]⟩ := by kernel_rfl
theorem each_one {α : Type} {P : Value → α → Prop} {u : Value} {x : α} (h1 : P u x) : ∀ (i : Nat) z, [u][i]? = some z → ∃ a, [x][i]? = some a ∧ P z a := by
  intro i z hz
  match i, hz with
  | 0, hz => simp at hz; subst hz; exact ⟨x, rfl, h1⟩
  | i + 1, hz => simp at hz
theorem bN4 : bN 4 0 = 1 ∧ bN 4 1 = 4 ∧ bN 4 2 = 32 ∧ bN 4 3 = 320 := by
  have h0 : bN 4 0 = 1 := rfl
  have h1 : bN 4 1 = 4 := by rw [bN_succ]; simp [List.range_succ, h0]
  have h2 : bN 4 2 = 32 := by rw [bN_succ]; simp [List.range_succ, h0, h1]
  have h3 : bN 4 3 = 320 := by rw [bN_succ]; simp [List.range_succ, h0, h1, h2]
  exact ⟨h0, h1, h2, h3⟩
theorem bts_small4 {m : Nat} (hm : m < 4) : (btsS 4 m).length ≤ 320 := by
  rw [← (ts_perm 4 m (Nat.lt_succ_self m)).length_eq]
  show bN 4 m ≤ 320
  obtain ⟨h0, h1, h2, h3⟩ := bN4
  match m, hm with
  | 0, _ => omega
  | 1, _ => omega
  | 2, _ => omega
  | 3, _ => omega
theorem all_small {m : Nat} (hm : m < 4) : allS 2 (m : Int) = ((btsS 4 m).map fun b => b.enc 0, 0) := by
  match m, hm with
  | 0, _ => rfl
  | 1, _ => unfold allS; rw [if_neg (by omega), if_neg (by omega), if_neg (by decide)]; rfl
  | 2, _ => unfold allS; rw [if_neg (by omega), if_neg (by omega), if_neg (by decide)]; rfl
  | 3, _ => unfold allS; rw [if_neg (by omega), if_neg (by omega), if_neg (by decide)]; rfl
theorem bts_each {m : Nat} (hm : m < 4) {b : Bt} (h : b ∈ btsS 4 m) : b.size ≤ 31 ∧ b.lb (2 ^ 2) := by
  obtain ⟨h1, h2⟩ := mem_bts.1 h
  exact ⟨by omega, lb_lt.2 h2⟩
theorem bts_count {D : Dta} (hL : D.L = 4) {m : Nat} (hm : m < 4) : accN D m % M64 = ((btsS 4 m).filter fun b => D.fin (D.run b)).length := by
  have h1 : accN D m = ((btsS 4 m).filter fun b => D.fin (D.run b)).length := by
    unfold accN
    rw [hL]
    exact ((ts_perm 4 m (Nat.lt_succ_self m)).filter _).length_eq
  have h2 := List.length_filter_le (fun b => D.fin (D.run b)) (btsS 4 m)
  have h3 := bts_small4 hm
  have h4 : M64 = 18446744073709551616 := rfl
  rw [h1, Nat.mod_eq_of_lt (by omega)]
theorem counts_add {D : Dta} {V : Nat} (hD : D.Fit V) (n : Nat) : (accN D n % M64 + accN D.notM n % M64) % M64 = bN D.L n % M64 := by
  rw [← Nat.add_mod, accN_neg (Dta.notM_is hD.ok).hL.symm n fun t ht => (Dta.notM_is hD.ok).lang t ht]; rfl
set_option maxRecDepth 100000 in
set_option maxHeartbeats 16000000 in
theorem counts_law (hsub : CSub 5 2) (haw : CAwk) (rp : Raw) (vp : Value) (x0 : Int) (w : World) (hvp : TD w vp rp) :
    Calls Tryz.prog 12 #[vp, .int .i64 x0] w fun e w' => e = .returned (.bool true) ∧ Below w.heap.size w w' := by
  obtain ⟨Ap, cp, Bp, dp, rfl⟩ := hvp.form
  have Hdp := Lib.hid hvp
  obtain ⟨np, q1⟩ : ∃ n, n = rp.next.length := ⟨_, rfl⟩
  obtain ⟨mp, q2⟩ : ∃ n, n = rp.fin.length := ⟨_, rfl⟩
  obtain ⟨ip, q3⟩ : ∃ n, n = rp.vars := ⟨_, rfl⟩
  obtain ⟨jp, q4⟩ : ∃ n, n = rp.empty := ⟨_, rfl⟩
  rw [← q1, ← q2, ← q3, ← q4] at Hdp ⊢
  clear hvp q1 q2 q3 q4
  obtain ⟨n, hn⟩ : ∃ v : Nat, (wrap64 (x0.tmod 32 + 32)).tmod 32 = (v : Int) := ⟨((wrap64 (x0.tmod 32 + 32)).tmod 32).toNat, by have a1 := Int.lt_tmod_of_pos x0 (b := 32) (by omega); have a2 := Int.tmod_lt_of_pos x0 (b := 32) (by omega); rw [IntWalk.wrap64_in _ ⟨by omega, by omega⟩, Int.tmod_eq_emod_of_nonneg (by omega)]; omega⟩
  have hn32 : n < 32 := by have a1 := Int.lt_tmod_of_pos x0 (b := 32) (by omega); have a2 := Int.tmod_lt_of_pos x0 (b := 32) (by omega); rw [IntWalk.wrap64_in _ ⟨by omega, by omega⟩, Int.tmod_eq_emod_of_nonneg (by omega)] at hn; omega
  obtain ⟨m, hm⟩ : ∃ m, m = n % 4 := ⟨_, rfl⟩
  have hm4 : m < 4 := by omega
  have hmi : (n : Int).tmod 4 = (m : Int) := by rw [Int.tmod_eq_emod_of_nonneg (by omega)]; omega
  clear hm
  have SU := Lib.hid fun W u (h : TD W u rp) => hsub rp u W h
  have AWK := Lib.hid haw
  clear hsub haw
  go_enter Tryz.func12, Tryz.ntmps12
  go_upto_region 1 with fail
  refine wp_abs (fun X => Below w.heap.size w X ∧ ∃ g, g = w.heap.size ∧ Box X g ip jp np cp mp dp Ap Bp rp) ⟨by go_grown, _, rfl, Row.new _ _ _, Hdp.out.below (Below.alloc (Below.refl _ _) (Nat.le_refl _) _) (Nat.le_refl _)⟩ ?_
  rintro W0 ⟨hw, gp, hg, hp⟩
  rw [← hg]
  have HB := Lib.hid hw; have Hp := Lib.hid hp
  clear hw hg hp Hdp
  have yp := Hp.out.cell
  go_upto_region 2 with (go_at_call 29; refine (SU.out _ _ Hp.out.td).mono ?_; intro e wx hx; obtain ⟨D, hD, hDn, ib, jb, nb, cb, mb, db, Ab, Bb, rfl, hb, ht⟩ := RetSub.open hx; have HX := Lib.hid (show Below W0.heap.size W0 wx from hb); have HT := Lib.hid ht; clear hx hb ht)
  clear yp
  refine wp_abs (fun X => Below w.heap.size w X ∧ Box X gp ip jp np cp mp dp Ap Bp rp ∧ ∃ g, g = wx.heap.size ∧ Box X g ib jb nb cb mb db Ab Bb (D.raw 2)) ⟨HB.out.trans ((HX.out.alloc HX.out.size _).mono HB.out.size), Hp.out.to (HX.out.alloc HX.out.size _), _, rfl, Row.new _ _ _, HT.out.below (Below.alloc (Below.refl _ _) (Nat.le_refl _) _) (Nat.le_refl _)⟩ ?_
  clear HX HT
  rintro W1 ⟨hw, hp, gb, hg, hb⟩
  rw [← hg]
  replace HB := Lib.hid hw; replace Hp := Lib.hid hp; have Hb := Lib.hid hb
  clear hw hp hb hg
  clear Hp
  have hDL : D.L = 4 := hD.L
  have hadd := counts_add hD n
  rw [hDL] at hadd
  have hall : accN allD n = bN 4 n := accN_all (fun _ => rfl) n
  obtain ⟨a, ha⟩ : ∃ a, a = accN D n % M64 := ⟨_, rfl⟩
  obtain ⟨b, hb⟩ : ∃ a, a = accN D.notM n % M64 := ⟨_, rfl⟩
  obtain ⟨c, hc⟩ : ∃ a, a = bN 4 n % M64 := ⟨_, rfl⟩
  rw [← ha, ← hb, ← hc] at hadd
  have habc : IntKind.u64.wrap ((a : Int) + (b : Int)) = (c : Int) := by rw [u64_mod _ (a + b) (by omega), hadd]
  have C1 := Lib.hid fun W u (h : TD W u (D.raw 2)) => (show Calls Tryz.prog 23 #[u, .int .i64 (n : Int)] W (fun e w' => e = .returned (.tuple #[.int .u64 (a : Int), .int .i64 0]) ∧ Below W.heap.size W w') from by have q := count_ok D 2 hD u n (by omega) W h; rw [← ha] at q; exact q)
  have C2 := Lib.hid fun W u (h : TD W u (D.notM.raw 2)) => (show Calls Tryz.prog 23 #[u, .int .i64 (n : Int)] W (fun e w' => e = .returned (.tuple #[.int .u64 (b : Int), .int .i64 0]) ∧ Below W.heap.size W w') from by have q := count_ok D.notM 2 (notM_fit hD) u n (by omega) W h; rw [← hb] at q; exact q)
  have C3 := Lib.hid fun W u (h : TD W u (allD.raw 2)) => (show Calls Tryz.prog 23 #[u, .int .i64 (n : Int)] W (fun e w' => e = .returned (.tuple #[.int .u64 (c : Int), .int .i64 0]) ∧ Below W.heap.size W w') from by have q := count_ok allD 2 allD_fit u n (by omega) W h; rw [hall, ← hc] at q; exact q)
  rw [all_raw] at C3
  have NO := Lib.hid fun W u (h : TD W u (D.raw 2)) => (show Calls Tryz.prog 14 #[u] W (RetR W (D.notM.raw 2) 0) from by exact not_ok D 2 hD u W h)
  obtain ⟨LL, hLL⟩ : ∃ l, l = btsS 4 m := ⟨_, rfl⟩
  obtain ⟨K, hK⟩ : ∃ k, k = LL.length := ⟨_, rfl⟩
  have hK320 : K ≤ 320 := by rw [hK, hLL]; exact bts_small4 hm4
  have ALL := Lib.hid fun W => (show Calls Tryz.prog 48 #[.int .i64 2, .int .i64 (m : Int)] W (fun e w' => ∃ A c vs, e = .returned (.tuple #[.slice A K c, .int .i64 0]) ∧ Below W.heap.size W w' ∧ AR w' (.slice A K c) vs (LL.map fun b => b.enc 0)) from by
    refine (All_any 2 (m : Int) W).mono ?_
    intro e w' h
    rw [all_small hm4, ← hLL] at h
    exact AR.of h K (by rw [hK, List.length_map]))
  have hcnt := bts_count hDL hm4
  rw [← hLL] at hcnt
  have CS := Lib.hid fun W u (h : TD W u (D.raw 2)) => (show Calls Tryz.prog 47 #[u, .int .i64 (m : Int), .int .u64 (((LL.filter fun b => D.fin (D.run b)).length : Nat) : Int)] W (fun e w' => e = .returned (.bool true) ∧ Below W.heap.size W w') from by have q := counts_any D 2 hD u m (by omega) ((LL.filter fun b => D.fin (D.run b)).length : Nat) W h; rw [hcnt] at q; simp only [decide_true] at q; exact q)
  have AC := Lib.hid fun (k : Nat) (bt : Bt) (hk : LL[k]? = some bt) W u s (h : TD W u (D.raw 2)) (h2 : TS W s (bt.enc 0)) => (show Calls Tryz.prog 43 #[u, s] W (fun e w' => e = .returned (.tuple #[.bool (D.fin (D.run bt)), .int .i64 0]) ∧ Below W.heap.size W w') from by
    have hmem : bt ∈ btsS 4 m := by rw [← hLL]; exact List.mem_of_getElem? hk
    obtain ⟨k1, k2⟩ := bts_each hm4 hmem
    have q := accepts_ok D 2 hD u s (bt.enc 0) W h h2 fun x hx => (lb_labels k2 x hx).1
    unfold accR at q
    rw [if_pos (check_of (V := 2) (by omega) k1 k2), btOf_enc] at q
    exact q)
  have HK := Lib.hid hK
  clear ha hb hc hadd hall hLL hK hcnt hD hDn SU hDL hm4
  have yb := Hb.out.cell
  go_upto_region 3 with (go_at_call 14; refine (NO.out _ _ Hb.out.td).mono ?_; intro e wx hx; obtain ⟨ie, je, ne, ce, me, de, Ae, Be, rfl, hb, ht⟩ := RetR.open (z := 0) rfl hx; have HX := Lib.hid (show Below W1.heap.size W1 wx from hb); have HT := Lib.hid ht; clear hx hb ht)
  clear yb
  refine wp_abs (fun X => Below w.heap.size w X ∧ Box X gb ib jb nb cb mb db Ab Bb (D.raw 2) ∧ ∃ g, g = wx.heap.size ∧ Box X g ie je ne ce me de Ae Be (D.notM.raw 2)) ⟨HB.out.trans ((HX.out.alloc HX.out.size _).mono HB.out.size), Hb.out.to (HX.out.alloc HX.out.size _), _, rfl, Row.new _ _ _, HT.out.below (Below.alloc (Below.refl _ _) (Nat.le_refl _) _) (Nat.le_refl _)⟩ ?_
  clear HX HT
  rintro W2 ⟨hw, hb, ge, hg, he⟩
  rw [← hg]
  replace HB := Lib.hid hw; replace Hb := Lib.hid hb; have He := Lib.hid he
  clear hw hb he hg
  go_upto_region 4 with fail
  try rw [hn]
  clear hn
  have yb := Hb.out.cell
  have ye := He.out.cell
  go_upto_region 5 with (go_at_call 23; (with_reducible refine (C1.out _ _ Hb.out.td).mono ?_); rintro ee w9 ⟨rfl, hb⟩; replace HB := Lib.hid (HB.out.trans (hb.mono HB.out.size)); replace Hb := Lib.hid (Hb.out.to hb); replace He := Lib.hid (He.out.to hb); clear yb; have yb := Hb.out.cell; clear ye; have ye := He.out.cell; clear hb)
  go_upto_region 6 with (go_at_call 23; (with_reducible refine (C2.out _ _ He.out.td).mono ?_); rintro ee w10 ⟨rfl, hb⟩; replace HB := Lib.hid (HB.out.trans (hb.mono HB.out.size)); replace Hb := Lib.hid (Hb.out.to hb); replace He := Lib.hid (He.out.to hb); clear yb; have yb := Hb.out.cell; clear ye; have ye := He.out.cell; clear hb)
  clear yb ye
  clear He
  have yb := Hb.out.cell
  go_upto_region 7 with (go_at_call 23; refine (C3.out _ _ (show TD _ _ _ from ⟨_, _, rfl, N3.row (n := 1) (vs := [_]) (by (repeat (first | (refine Row.lit ?_; simp only [World.size_alloc] <;> omega) | apply Row.alloc))) rfl (by omega) rfl (each_one (N2.row (n := 1) (vs := [_]) (by (repeat (first | (refine Row.lit ?_; simp only [World.size_alloc] <;> omega) | apply Row.alloc))) rfl (by omega) rfl (each_one (N1.row (n := 4) (by (repeat (first | (refine Row.lit ?_; simp only [World.size_alloc] <;> omega) | apply Row.alloc))) rfl rfl (by omega))))), NB.row (n := 1) (by (repeat (first | (refine Row.lit ?_; simp only [World.size_alloc] <;> omega) | apply Row.alloc))) rfl rfl (by omega)⟩)).mono ?_; rintro ee w13 ⟨rfl, hb⟩; have hz : Below w10.heap.size w10 w13 := Below.trans (by go_grown) (hb.mono (by simp only [World.size_alloc]; omega)); clear hb; replace HB := Lib.hid (HB.out.trans (hz.mono HB.out.size)); replace Hb := Lib.hid (Hb.out.to hz); clear yb; have yb := Hb.out.cell; clear hz)
  go_upto_region 9 with fail
  go_upto_region 12 with (go_at_call 48; refine (ALL.out _).mono ?_; rintro ee w14 ⟨A9, c9, vs9, rfl, hb, har⟩; replace HB := Lib.hid (HB.out.trans (hb.mono HB.out.size)); replace Hb := Lib.hid (Hb.out.to hb); clear yb; have yb := Hb.out.cell; have HAR := Lib.hid har; clear hb har)
  clear yb
  clear C1 C2 C3 NO ALL habc
  go_loopg [16, 17] K (fun gk s16 s17 W => ∃ k : Nat, k ≤ K ∧ gk = K - k ∧ s16 = .int .u64 ((((LL.take k).filter fun b => D.fin (D.run b)).length : Nat) : Int) ∧ s17 = .int .i64 k ∧ Below w.heap.size w W ∧ Box W gb ib jb nb cb mb db Ab Bb (D.raw 2) ∧ AR W (.slice A9 K c9) vs9 (LL.map fun b => b.enc 0))
  case atStart => exact ⟨0, Nat.zero_le _, rfl, rfl, rfl, HB.out, Hb.out, HAR.out⟩
  case round =>
    clear HB Hb HAR
    obtain ⟨k, hk, rfl, rfl, rfl, hb, hbb, har⟩ := hrel
    obtain ⟨wl, hwl⟩ : ∃ x, x = wr := ⟨_, rfl⟩
    subst hwl
    have HB := Lib.hid hb; have Hb := Lib.hid hbb; have HAR := Lib.hid har
    clear hb hbb har
    by_cases hlt : k < K
    · have hlti : (k : Int) < (K : Int) := by omega
      obtain ⟨bt, hbt⟩ : ∃ b, LL[k]? = some b := ⟨_, List.getElem?_eq_getElem (by rw [← HK.out]; exact hlt)⟩
      have hx : (LL.map fun b => b.enc 0)[k]? = some (bt.enc 0) := by rw [List.getElem?_map, hbt]; rfl
      obtain ⟨A1, c1, hv⟩ := HAR.out.at hx
      obtain ⟨bb, oo, rfl, hbl⟩ := HAR.out.addr hv
      have hcl := HAR.out.cell hv
      have HTS := Lib.hid (HAR.out.2.2 k _ _ hv hx)
      have hst : (LL.take (k + 1)) = LL.take k ++ [bt] := by rw [List.take_add_one, hbt]; rfl
      obtain ⟨n1, hn1⟩ : ∃ n, n = (bt.enc 0).length := ⟨_, rfl⟩
      rw [← hn1] at hcl HTS
      have A1x := Lib.hid fun W u s (h : TD W u (D.raw 2)) (h2 : TS W s (bt.enc 0)) => AC.out k bt hbt W u s h h2
      obtain ⟨S, hS⟩ : ∃ s, s = ((LL.take k).filter fun b => D.fin (D.run b)).length := ⟨_, rfl⟩
      have hS320 : S ≤ 320 := by rw [hS]; exact Nat.le_trans (List.length_filter_le _ _) (Nat.le_trans (List.length_take_le' _ _) (by rw [← HK.out]; exact hK320))
      have hs1 : IntKind.u64.wrap ((S : Int) + 1) = ((S + 1 : Nat) : Int) := by rw [u64_mod _ (S + 1) (by omega), Nat.mod_eq_of_lt (by have h4 : M64 = 18446744073709551616 := rfl; omega)]
      have HST : Hid (((LL.take (k + 1)).filter fun b => D.fin (D.run b)).length = S + if D.fin (D.run bt) then 1 else 0) := by unfold Hid; rw [hst, List.filter_append, List.length_append, ← hS]; congr 1; cases h : D.fin (D.run bt) <;> simp [h]
      rw [← hS]
      obtain ⟨F, hF⟩ : ∃ f, f = D.fin (D.run bt) := ⟨_, rfl⟩
      rw [← hF] at A1x HST
      clear hn1 hx hv hst hS hF hbt
      have hgl := Hb.out.1.lt; have y0 := Hb.out.cell 0; have y1 := Hb.out.cell 1; have y2 := Hb.out.cell 2; have y3 := Hb.out.cell 3
      simp only [List.getElem?_toArray, List.getElem?_cons_zero, List.getElem?_cons_succ] at y0 y1 y2 y3
      cases F
      all_goals
        go_upto_region 14 with fail
        first
        | go_region_held3 (fun W => W.cell? ⟨gb, 0, none⟩ = some (.int .i64 ib) ∧ W.cell? ⟨gb, 1, none⟩ = some (.int .i64 jb) ∧ W.cell? ⟨gb, 2, none⟩ = some (.slice Ab nb cb) ∧ W.cell? ⟨gb, 3, none⟩ = some (.slice Bb mb db) ∧ W.cell? ⟨bb, oo + k, none⟩ = some (.slice A1 n1 c1)) (first | exact ⟨y0, y1, y2, y3, hcl⟩ | exact HC3.out) (first | (go_at_call 43; (with_reducible refine (A1x.out _ _ _ (Hb.out.td.below (Below.refl wl.heap.size wl).drew (Nat.le_refl _)) (HTS.out.below (Below.refl wl.heap.size wl).drew (Nat.le_refl _))).mono ?_); rintro ee w21 ⟨rfl, hb⟩; have hz : Below wl.heap.size wl w21 := (Below.refl _ _).drew.trans hb; clear hb; replace HB := Lib.hid (HB.out.trans (hz.mono HB.out.size)); replace Hb := Lib.hid (Hb.out.to hz); replace HAR := Lib.hid (HAR.out.to hz); have HC3 := Lib.hid (show w21.cell? ⟨gb, 0, none⟩ = some (.int .i64 ib) ∧ w21.cell? ⟨gb, 1, none⟩ = some (.int .i64 jb) ∧ w21.cell? ⟨gb, 2, none⟩ = some (.slice Ab nb cb) ∧ w21.cell? ⟨gb, 3, none⟩ = some (.slice Bb mb db) ∧ w21.cell? ⟨bb, oo + k, none⟩ = some (.slice A1 n1 c1) from ⟨(hz.cell (p := ⟨gb, 0, none⟩) hgl).trans y0, (hz.cell (p := ⟨gb, 1, none⟩) hgl).trans y1, (hz.cell (p := ⟨gb, 2, none⟩) hgl).trans y2, (hz.cell (p := ⟨gb, 3, none⟩) hgl).trans y3, (hz.cell (p := ⟨bb, oo + k, none⟩) hbl).trans hcl⟩); clear hz))
        | fail
        go_wp2
        go_roundg (K - (k + 1))
        case rel => exact ⟨k + 1, by omega, rfl, by rw [HST.out]; first | rfl | (rw [hs1]; rfl), by go_num, HB.out, Hb.out, HAR.out⟩
        case measure => omega
    · have hlti : ¬ (k : Int) < (K : Int) := by omega
      have hke : K = k := by omega
      subst hke
      have htk : LL.take K = LL := by rw [List.take_of_length_le (by rw [← HK.out]; exact Nat.le_refl _)]
      rw [htk]
      have yb := Hb.out.cell
      clear htk HK
      go_wp2_with (first
        | (go_at_call 47; (with_reducible refine (CS.out _ _ Hb.out.td).mono ?_); rintro ee w32 ⟨rfl, hb⟩; replace HB := Lib.hid (HB.out.trans (hb.mono HB.out.size)); replace Hb := Lib.hid (Hb.out.to hb); clear yb; have yb := Hb.out.cell; clear hb)
        | (go_at_call 28; (with_reducible refine (AWK.out _).mono ?_); rintro ee w40 ⟨rfl, hb⟩; replace HB := Lib.hid (HB.out.trans (hb.mono HB.out.size)); replace Hb := Lib.hid (Hb.out.to hb); clear yb; have yb := Hb.out.cell; clear hb))
      go_returns
      exact ⟨by first | rfl | simp, HB.out⟩
end Go.Proofs.YthkfjnmnoanhlaaGreatDoor
