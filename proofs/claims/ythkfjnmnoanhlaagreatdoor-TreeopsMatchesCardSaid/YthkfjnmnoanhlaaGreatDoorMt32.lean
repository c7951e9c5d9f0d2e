/- Part 32 of the proof; it says: lemmas and contracts. No conditions but those that each theorem states. -/
import Derived.BigRegion
import Derived.Deep.RegionHeld3
import Derived.Test.YthkfjnmnoanhlaaGreatDoorMt01
import Derived.Test.YthkfjnmnoanhlaaGreatDoorMt02
import Derived.Test.YthkfjnmnoanhlaaGreatDoorMt11
import Derived.Test.YthkfjnmnoanhlaaGreatDoorMt12
import Derived.Test.YthkfjnmnoanhlaaGreatDoorMt17
import Derived.Test.YthkfjnmnoanhlaaGreatDoorMt18
import Derived.Test.YthkfjnmnoanhlaaGreatDoorMt21
import Derived.Test.YthkfjnmnoanhlaaGreatDoorMt23
import Derived.Test.YthkfjnmnoanhlaaGreatDoorMt28
import Derived.Test.YthkfjnmnoanhlaaGreatDoorMt30
import Derived.Test.YthkfjnmnoanhlaaGreatDoorMt31
set_option linter.unusedSimpArgs false
set_option linter.unusedVariables false
namespace Go.Proofs.YthkfjnmnoanhlaaGreatDoor
open Go.RowKit
theorem zc5 : zeroR.Low := ⟨by simp [zeroR], fun x hx => by simp [zeroR] at hx, fun x hx => by simp [zeroR] at hx, by simp [zeroR]⟩
theorem zrg (r : Raw) : (fewR r).Low := by
 have h := ziz r
 exact ⟨h.1, fun x hx => (h.2.2 x hx).1, fun x hx y hy => (h.2.2 x hx).2 y hy, h.2.1⟩
theorem zmc (r : Raw) : (resR (fun d => d.neg.mini) r).Low := by
 by_cases h0 : r.check = 0
 ·obtain ⟨V, hV, hd, _⟩ := Raw.check_dta h0
  rw [zc9 (D := r.dta) h0 hV]
  exact (show r.dta.neg.mini.Fit V from zcw hd).low
 ·rw [zbl h0]; exact zc5
theorem zpj (r : Raw) (v M : Int) : (exAny r v M).1.Low := by
 unfold exAny
 split
 ·exact zc5
 ·rename_i h0
  split
  ·exact zc5
  ·rename_i h1
   split
   ·exact zc5
   ·rename_i h2
    obtain ⟨V, hV, hd, _⟩ := Raw.check_dta (show r.check = 0 by omega)
    unfold exR
    split
    ·rename_i h3
     have hlt : v.toNat < V := by rw [hV] at h1; omega
     have := (zj4 hd hlt (by omega)).low
     rw [hV, Int.toNat_natCast]
     exact this
    ·exact zc5
theorem zl8 {d : Dta} (h : d.OK) : (zas d).1.length <= 31 := by
 unfold zas
 split
 ·simp
 ·cases hs : zck d.mini with
  | none => simp
  | some t =>
   obtain ⟨k, hk, h1, _⟩ := zdo hs
   have := (ze2 (Dta.mini_ok h) h1).1
   simp only [Bt.enc_len]; omega
theorem znf (r : Raw) : (smAny r).1.length <= 31 := by
 unfold smAny
 split
 ·simp
 ·rename_i h0
  obtain ⟨V, hV, hd, _⟩ := Raw.check_dta (show r.check = 0 by omega)
  exact zl8 hd.ok
theorem RetSm.openO {w : World} {R : List Lf × Bool × Nat} {e : Ending} {w' : World} (h : RetSm w R e w') : ∃ A c, e = .returned (.tuple #[.slice A R.1.length c, .bool R.2.1, .int .i64 ((R.2.2 : Nat) : Int)]) /\ Below w.heap.size w w' /\ TO w' w.heap.size (.slice A R.1.length c) R.1 := by
 obtain ⟨v, rfl, hb, ht⟩ := h
 obtain ⟨A, c, rfl⟩ := TS.form (show TS w' v R.1 from ht.ts)
 exact ⟨A, c, rfl, hb, ht⟩
theorem RetR.openO {w : World} {r : Raw} {k : Nat} {e : Ending} {w' : World} (h : RetR w r k e w') : ∃ A c Af cf, e = .returned (.tuple #[.agg #[.int .i64 r.vars, .int .i64 r.empty, .slice A r.next.length c, .slice Af r.fin.length cf], .int .i64 (k : Int)]) /\ Below w.heap.size w w' /\ TDO w' w.heap.size (.agg #[.int .i64 r.vars, .int .i64 r.empty, .slice A r.next.length c, .slice Af r.fin.length cf]) r := by
 obtain ⟨A, c, Af, cf, rfl, hb, ht⟩ := h.unfold
 exact ⟨A, c, Af, cf, rfl, hb, ht⟩
structure MtI (w : World) (gd gn gi : Nat) (rp F : Raw) (n0 n1 : Int) (aV bV : Array Value) (W : World) : Prop where
 below : Below w.heap.size w W
 bd : Row W gd 25 aV
 bn : Row W gn 26 #[.int .i64 n0, .int .i64 n1]
 bi : Row W gi 25 bV
 td : TD W (.agg aV) rp
 ti : TD W (.agg bV) F
theorem MtI.to {w W X : World} {gd gn gi : Nat} {rp F : Raw} {n0 n1 : Int} {aV bV : Array Value} (h : MtI w gd gn gi rp F n0 n1 aV bV W) (hb : Below W.heap.size W X) : MtI w gd gn gi rp F n0 n1 aV bV X :=
 ⟨h.below.trans (hb.mono h.below.size), h.bd.below hb h.bd.lt, h.bn.below hb h.bn.lt, h.bi.below hb h.bi.lt, h.td.below hb zn, h.ti.below hb zn⟩
set_option maxRecDepth 100000 in
set_option maxHeartbeats 16000000 in
theorem zjv (haw : CAwk) (rp : Raw) (vp : Value) (x0 n0 n1 : Int) (w : World) (hvp : TD w vp rp) :
  Calls Tryz.prog 3 #[vp, .int .i64 x0, .agg #[.int .i64 n0, .int .i64 n1]] w fun e w' => e = .returned (.bool true) /\ Below w.heap.size w w' := by
 obtain ⟨Fr, hFr⟩ := zx (fewR rp)
 have hsm : Small Fr := by rw [hFr]; exact zmn rp
 have hlow : Fr.Low := by rw [hFr]; exact zrg rp
 have CFEW := zh fun W v (h : TD W v rp) => (show Calls Tryz.prog 13 #[v] W fun e w' => ∃ v', e = .returned v' /\ Below W.heap.size W w' /\ TDO w' W.heap.size v' Fr from by rw [hFr]; exact few_any rp v W h)
 obtain ⟨RN, hRN⟩ := zx (resR (fun d => d.neg.mini) Fr)
 obtain ⟨kc, hkc⟩ := zx Fr.check
 obtain ⟨RE, hRE⟩ := zx ((exAny Fr x0 n0).1)
 obtain ⟨ke, hke⟩ := zx ((exAny Fr x0 n0).2)
 obtain ⟨RS, hRS⟩ := zx (smAny Fr)
 obtain ⟨RB, hRB⟩ := zx (zbd Fr)
 obtain ⟨RC, hRC⟩ := zx (((((cnAny Fr n1).1 : Nat) : Int)))
 obtain ⟨kd, hkd⟩ := zx ((cnAny Fr n1).2)
 have lRN : RN.Low := by rw [hRN]; exact zmc Fr
 have lRE : RE.Low := by rw [hRE]; exact zpj Fr x0 n0
 have lRS : RS.1.length <= 31 := by rw [hRS]; exact znf Fr
 have CN1 := zh fun W v (h : TD W v Fr) => (show Calls Tryz.prog 14 #[v] W (RetR W RN kc) from by rw [hRN, hkc]; exact Not_any Fr v W h hsm)
 have CN2 := zh fun W v (h : TD W v Fr) => (show Calls Tryz.prog 15 #[v] W (RetR W RN kc) from by rw [hRN, hkc]; exact not20 Fr v W h hsm)
 have CE1 := zh fun W v (h : TD W v Fr) => (show Calls Tryz.prog 16 #[v, .int .i64 x0, .int .i64 n0] W (RetR W RE ke) from by rw [hRE, hke]; exact zm6 Fr x0 n0 v W h hsm)
 have CE2 := zh fun W v (h : TD W v Fr) => (show Calls Tryz.prog 17 #[v, .int .i64 x0, .int .i64 n0] W (RetR W RE ke) from by rw [hRE, hke]; exact zi4 Fr x0 n0 v W h hsm)
 have CS1 := zh fun W v (h : TD W v Fr) => (show Calls Tryz.prog 19 #[v] W (RetSm W RS) from by rw [hRS]; exact zji Fr v W h hsm)
 have CS2 := zh fun W v (h : TD W v Fr) => (show Calls Tryz.prog 20 #[v] W (RetSm W RS) from by rw [hRS]; exact zgl Fr v W h hsm)
 have CB1 := zh fun W v (h : TD W v Fr) => (show Calls Tryz.prog 21 #[v] W fun e w' => e = .returned (.tuple #[.bool RB, .int .i64 (kc : Nat)]) /\ Below W.heap.size W w' from by rw [hRB, hkc]; exact zjl Fr v W h hsm)
 have CB2 := zh fun W v (h : TD W v Fr) => (show Calls Tryz.prog 22 #[v] W fun e w' => e = .returned (.tuple #[.bool RB, .int .i64 (kc : Nat)]) /\ Below W.heap.size W w' from by rw [hRB, hkc]; exact zh0 Fr v W h hsm)
 have CC1 := zh fun W v (h : TD W v Fr) => (show Calls Tryz.prog 23 #[v, .int .i64 n1] W fun e w' => e = .returned (.tuple #[.int .u64 RC, .int .i64 (kd : Nat)]) /\ Below W.heap.size W w' from by rw [hRC, hkd]; exact zqc Fr n1 v W h hsm)
 have CC2 := zh fun W v (h : TD W v Fr) => (show Calls Tryz.prog 24 #[v, .int .i64 n1] W fun e w' => e = .returned (.tuple #[.int .u64 RC, .int .i64 (kd : Nat)]) /\ Below W.heap.size W w' from by rw [hRC, hkd]; exact zkb Fr n1 v W h hsm)
 have CEQ := zh fun W r v u (hl : Raw.Low r) (h1 : TD W v r) (h2 : TD W u r) => (show Calls Tryz.prog 18 #[v, u] W fun e w' => e = .returned (.bool true) /\ Below W.heap.size W w' from by have q := zpl r r v u W h1 h2 hl; rw [zlr] at q; exact q)
 have CET := zh fun W v u (h1 : TS W v RS.1) (h2 : TS W u RS.1) => (show Calls Tryz.prog 25 #[v, u] W fun e w' => e = .returned (.bool true) /\ Below W.heap.size W w' from by have q := zpk RS.1 RS.1 v u W h1 h2 (by omega); rw [decide_eq_true rfl] at q; exact q)
 have AWK := zh haw
 have LN := zh lRN; have LE := zh lRE; have LF := zh hlow
 clear hFr hRN hkc hRE hke hRS hRB hRC hkd lRN lRE lRS hsm hlow haw
 obtain ⟨A0, c0, B0, d0, rfl⟩ := hvp.form
 have HVP := zh hvp
 clear hvp
 obtain ⟨j1, h1⟩ := zx rp.vars
 obtain ⟨j2, h2⟩ := zx rp.empty
 obtain ⟨j3, h3⟩ := zx rp.next.length
 obtain ⟨j4, h4⟩ := zx rp.fin.length
 rw [<- h1, <- h2, <- h3, <- h4] at HVP ⊢
 clear h1 h2 h3 h4
 go_enter Tryz.func3, Tryz.ntmps3
 go_upto_region 1 with fail
 refine zab (fun X => ∃ gd gn, gd = w.heap.size /\ gn = w.heap.size + 1 /\ Below w.heap.size w X /\ Row X gd 25 #[.int .i64 j1, .int .i64 j2, .slice A0 j3 c0, .slice B0 j4 d0] /\ Row X gn 26 #[.int .i64 n0, .int .i64 n1]) ⟨_, _, rfl, rfl, by go_grown, (Row.new _ _ _).alloc _, Row.lit (by simp)⟩ ?_
 rintro W0 ⟨gd, gn, hgd, hgn, hb, hd, hn⟩
 rw [<- hgn, <- hgd]
 clear hgd hgn
 have HB0 := zh hb; have HD0 := zh hd; have HN0 := zh hn
 have y0 := hd.cell
 clear hb hd hn
 go_upto_region 2 with (go_at_call 13; refine (CFEW.out _ _ (HVP.out.below HB0.out zn)).mono ?_; rintro e w2 ⟨v2, rfl, hb2, ht2⟩; obtain ⟨A1, c1, B1, d1, rfl⟩ := ht2.td.form; have HT2 := zh ht2.td; have HB2 := zh hb2; clear hb2 ht2)
 clear y0
 obtain ⟨i1, h1⟩ := zx Fr.vars
 obtain ⟨i2, h2⟩ := zx Fr.empty
 obtain ⟨i3, h3⟩ := zx Fr.next.length
 obtain ⟨i4, h4⟩ := zx Fr.fin.length
 rw [<- h1, <- h2, <- h3, <- h4] at HT2 ⊢
 clear h1 h2 h3 h4
 refine zab (fun X => ∃ gi, gi = w2.heap.size /\ MtI w gd gn gi rp Fr n0 n1 #[.int .i64 j1, .int .i64 j2, .slice A0 j3 c0, .slice B0 j4 d0] #[.int .i64 i1, .int .i64 i2, .slice A1 i3 c1, .slice B1 i4 d1] X) ⟨_, rfl, by have h1 := HB0.out; have h2 := HB2.out; have h3 := h1.size; have h4 := h2.size; exact (h1.trans (h2.mono h3)).alloc (by omega) _, (HD0.out.below HB2.out HD0.out.lt).alloc _, (HN0.out.below HB2.out HN0.out.lt).alloc _, Row.new _ _ _, ((HVP.out.below HB0.out zn).below HB2.out zn).below (Below.alloc (Below.refl _ _) zn _) zn, HT2.out.below (Below.alloc (Below.refl _ _) zn _) zn⟩ ?_
 clear HB0 HD0 HN0 HB2 HT2 HVP
 rintro W1 ⟨gi, hgi, hm⟩
 rw [<- hgi]
 have HM := zh hm
 clear hgi hm
 go_wp2
 go_loopg [8] 2 (fun gk q8 wr => ∃ z : Nat, z <= 2 /\ gk = 2 - z /\ q8 = .int .i64 z /\ MtI w gd gn gi rp Fr n0 n1 #[.int .i64 j1, .int .i64 j2, .slice A0 j3 c0, .slice B0 j4 d0] #[.int .i64 i1, .int .i64 i2, .slice A1 i3 c1, .slice B1 i4 d1] wr)
 case atStart => exact ⟨0, by omega, rfl, rfl, HM.out⟩
 case round =>
  clear HM
  obtain ⟨z, hz, rfl, rfl, hm⟩ := hrel
  have HM := zh hm
  clear hm
  by_cases hlt : z < 2
  ·have hlti : (z : Int) < 2 := by omega
   obtain ⟨W, hW⟩ := zx wr
   subst hW
   have HB := zh (Below.refl W.heap.size W)
   have HMS := zh HM.out
   have y0 := HM.out.bi.cell
   go_upto_region 6 with (go_at_call 14; refine (CN1.out _ _ HM.out.ti).mono ?_; intro e wx hx; obtain ⟨Aa, ca, Ba, da, rfl, hb, ht⟩ := hx.openO; have HX := zh (show Below W.heap.size W wx from hb); have HT := zh ht; clear hx hb ht)
   clear y0
   refine zab (fun X1 => (Below W.heap.size W X1) /\ (MtI w gd gn gi rp Fr n0 n1 #[.int .i64 j1, .int .i64 j2, .slice A0 j3 c0, .slice B0 j4 d0] #[.int .i64 i1, .int .i64 i2, .slice A1 i3 c1, .slice B1 i4 d1] X1) /\ (∃ g, g = wx.heap.size /\ Row X1 g 25 #[.int .i64 RN.vars, .int .i64 RN.empty, .slice Aa RN.next.length ca, .slice Ba RN.fin.length da] /\ TDO X1 W.heap.size (.agg #[.int .i64 RN.vars, .int .i64 RN.empty, .slice Aa RN.next.length ca, .slice Ba RN.fin.length da]) RN)) ⟨HB.out.trans ((HX.out.alloc HX.out.size _).mono HB.out.size), HM.out.to (HX.out.alloc HX.out.size _), _, rfl, Row.new _ _ _, (HT.out.mono HB.out.size).below (Below.alloc (Below.refl _ _) zn _) zn⟩ ?_
   clear HX HT
   rintro X1 ⟨hw, hm, ga, hg, ra, ta⟩
   rw [<- hg]
   clear hg
   replace HB := zh hw; replace HM := zh hm; have Ra := zh ra; have Ta := zh ta
   clear hw hm ra ta
   have y0 := HM.out.bi.cell
   go_upto_region 7 with (go_at_call 15; refine (CN2.out _ _ HM.out.ti).mono ?_; intro e wx hx; obtain ⟨Ab, cb, Bb, db, rfl, hb, ht⟩ := hx.openO; have HX := zh (show Below X1.heap.size X1 wx from hb); have HT := zh ht; clear hx hb ht)
   clear y0
   refine zab (fun X2 => (Below W.heap.size W X2) /\ (MtI w gd gn gi rp Fr n0 n1 #[.int .i64 j1, .int .i64 j2, .slice A0 j3 c0, .slice B0 j4 d0] #[.int .i64 i1, .int .i64 i2, .slice A1 i3 c1, .slice B1 i4 d1] X2) /\ (Row X2 ga 25 #[.int .i64 RN.vars, .int .i64 RN.empty, .slice Aa RN.next.length ca, .slice Ba RN.fin.length da] /\ TDO X2 W.heap.size (.agg #[.int .i64 RN.vars, .int .i64 RN.empty, .slice Aa RN.next.length ca, .slice Ba RN.fin.length da]) RN) /\ (∃ g, g = wx.heap.size /\ Row X2 g 25 #[.int .i64 RN.vars, .int .i64 RN.empty, .slice Ab RN.next.length cb, .slice Bb RN.fin.length db] /\ TDO X2 W.heap.size (.agg #[.int .i64 RN.vars, .int .i64 RN.empty, .slice Ab RN.next.length cb, .slice Bb RN.fin.length db]) RN)) ⟨HB.out.trans ((HX.out.alloc HX.out.size _).mono HB.out.size), HM.out.to (HX.out.alloc HX.out.size _), ⟨Ra.out.below (HX.out.alloc HX.out.size _) Ra.out.lt, Ta.out.below (HX.out.alloc HX.out.size _) zn⟩, _, rfl, Row.new _ _ _, (HT.out.mono HB.out.size).below (Below.alloc (Below.refl _ _) zn _) zn⟩ ?_
   clear HX HT
   rintro X2 ⟨hw, hm, ⟨ra, ta⟩, gb, hg, rb, tb⟩
   rw [<- hg]
   clear hg
   replace HB := zh hw; replace HM := zh hm; replace Ra := zh ra; replace Ta := zh ta; have Rb := zh rb; have Tb := zh tb
   clear hw hm ra ta rb tb
   have y0 := HM.out.bi.cell; have y1 := HM.out.bn.cell
   go_upto_region 8 with (go_at_call 16; refine (CE1.out _ _ HM.out.ti).mono ?_; intro e wx hx; obtain ⟨Ac, cc, Bc, dc, rfl, hb, ht⟩ := hx.openO; have HX := zh (show Below X2.heap.size X2 wx from hb); have HT := zh ht; clear hx hb ht)
   clear y0 y1
   refine zab (fun X3 => (Below W.heap.size W X3) /\ (MtI w gd gn gi rp Fr n0 n1 #[.int .i64 j1, .int .i64 j2, .slice A0 j3 c0, .slice B0 j4 d0] #[.int .i64 i1, .int .i64 i2, .slice A1 i3 c1, .slice B1 i4 d1] X3) /\ (Row X3 ga 25 #[.int .i64 RN.vars, .int .i64 RN.empty, .slice Aa RN.next.length ca, .slice Ba RN.fin.length da] /\ TDO X3 W.heap.size (.agg #[.int .i64 RN.vars, .int .i64 RN.empty, .slice Aa RN.next.length ca, .slice Ba RN.fin.length da]) RN) /\ (Row X3 gb 25 #[.int .i64 RN.vars, .int .i64 RN.empty, .slice Ab RN.next.length cb, .slice Bb RN.fin.length db] /\ TDO X3 W.heap.size (.agg #[.int .i64 RN.vars, .int .i64 RN.empty, .slice Ab RN.next.length cb, .slice Bb RN.fin.length db]) RN) /\ (∃ g, g = wx.heap.size /\ Row X3 g 25 #[.int .i64 RE.vars, .int .i64 RE.empty, .slice Ac RE.next.length cc, .slice Bc RE.fin.length dc] /\ TDO X3 W.heap.size (.agg #[.int .i64 RE.vars, .int .i64 RE.empty, .slice Ac RE.next.length cc, .slice Bc RE.fin.length dc]) RE)) ⟨HB.out.trans ((HX.out.alloc HX.out.size _).mono HB.out.size), HM.out.to (HX.out.alloc HX.out.size _), ⟨Ra.out.below (HX.out.alloc HX.out.size _) Ra.out.lt, Ta.out.below (HX.out.alloc HX.out.size _) zn⟩, ⟨Rb.out.below (HX.out.alloc HX.out.size _) Rb.out.lt, Tb.out.below (HX.out.alloc HX.out.size _) zn⟩, _, rfl, Row.new _ _ _, (HT.out.mono HB.out.size).below (Below.alloc (Below.refl _ _) zn _) zn⟩ ?_
   clear HX HT
   rintro X3 ⟨hw, hm, ⟨ra, ta⟩, ⟨rb, tb⟩, gc, hg, rc, tc⟩
   rw [<- hg]
   clear hg
   replace HB := zh hw; replace HM := zh hm; replace Ra := zh ra; replace Ta := zh ta; replace Rb := zh rb; replace Tb := zh tb; have Rc := zh rc; have Tc := zh tc
   clear hw hm ra ta rb tb rc tc
   have y0 := HM.out.bi.cell; have y1 := HM.out.bn.cell
   go_upto_region 9 with (go_at_call 17; refine (CE2.out _ _ HM.out.ti).mono ?_; intro e wx hx; obtain ⟨Ax, cx, Bx, dx, rfl, hb, ht⟩ := hx.openO; have HX := zh (show Below X3.heap.size X3 wx from hb); have HT := zh ht; clear hx hb ht)
   clear y0 y1
   refine zab (fun X4 => (Below W.heap.size W X4) /\ (MtI w gd gn gi rp Fr n0 n1 #[.int .i64 j1, .int .i64 j2, .slice A0 j3 c0, .slice B0 j4 d0] #[.int .i64 i1, .int .i64 i2, .slice A1 i3 c1, .slice B1 i4 d1] X4) /\ (Row X4 ga 25 #[.int .i64 RN.vars, .int .i64 RN.empty, .slice Aa RN.next.length ca, .slice Ba RN.fin.length da] /\ TDO X4 W.heap.size (.agg #[.int .i64 RN.vars, .int .i64 RN.empty, .slice Aa RN.next.length ca, .slice Ba RN.fin.length da]) RN) /\ (Row X4 gb 25 #[.int .i64 RN.vars, .int .i64 RN.empty, .slice Ab RN.next.length cb, .slice Bb RN.fin.length db] /\ TDO X4 W.heap.size (.agg #[.int .i64 RN.vars, .int .i64 RN.empty, .slice Ab RN.next.length cb, .slice Bb RN.fin.length db]) RN) /\ (Row X4 gc 25 #[.int .i64 RE.vars, .int .i64 RE.empty, .slice Ac RE.next.length cc, .slice Bc RE.fin.length dc] /\ TDO X4 W.heap.size (.agg #[.int .i64 RE.vars, .int .i64 RE.empty, .slice Ac RE.next.length cc, .slice Bc RE.fin.length dc]) RE) /\ (∃ g, g = wx.heap.size /\ Row X4 g 25 #[.int .i64 RE.vars, .int .i64 RE.empty, .slice Ax RE.next.length cx, .slice Bx RE.fin.length dx] /\ TDO X4 W.heap.size (.agg #[.int .i64 RE.vars, .int .i64 RE.empty, .slice Ax RE.next.length cx, .slice Bx RE.fin.length dx]) RE)) ⟨HB.out.trans ((HX.out.alloc HX.out.size _).mono HB.out.size), HM.out.to (HX.out.alloc HX.out.size _), ⟨Ra.out.below (HX.out.alloc HX.out.size _) Ra.out.lt, Ta.out.below (HX.out.alloc HX.out.size _) zn⟩, ⟨Rb.out.below (HX.out.alloc HX.out.size _) Rb.out.lt, Tb.out.below (HX.out.alloc HX.out.size _) zn⟩, ⟨Rc.out.below (HX.out.alloc HX.out.size _) Rc.out.lt, Tc.out.below (HX.out.alloc HX.out.size _) zn⟩, _, rfl, Row.new _ _ _, (HT.out.mono HB.out.size).below (Below.alloc (Below.refl _ _) zn _) zn⟩ ?_
   clear HX HT
   rintro X4 ⟨hw, hm, ⟨ra, ta⟩, ⟨rb, tb⟩, ⟨rc, tc⟩, gx, hg, rx, tx⟩
   rw [<- hg]
   clear hg
   replace HB := zh hw; replace HM := zh hm; replace Ra := zh ra; replace Ta := zh ta; replace Rb := zh rb; replace Tb := zh tb; replace Rc := zh rc; replace Tc := zh tc; have Rx := zh rx; have Tx := zh tx
   clear hw hm ra ta rb tb rc tc rx tx
   have ya := Ra.out.cell; have yb := Rb.out.cell; have yc := Rc.out.cell; have yx := Rx.out.cell
   have hkc : ((kc : Int) != (kc : Int)) = false := by simp
   have hke : ((ke : Int) != (ke : Int)) = false := by simp
   go_upto_region 11 with (first | (go_at_call 18; (with_reducible refine (CEQ.out _ RN _ _ LN.out Ta.out.td Tb.out.td).mono ?_); rintro e w7 ⟨rfl, hb⟩; replace HM := zh (HM.out.to hb); replace Ra := zh (Ra.out.below hb Ra.out.lt); replace Ta := zh (Ta.out.below hb zn); replace Rb := zh (Rb.out.below hb Rb.out.lt); replace Tb := zh (Tb.out.below hb zn); replace Rc := zh (Rc.out.below hb Rc.out.lt); replace Tc := zh (Tc.out.below hb zn); replace Rx := zh (Rx.out.below hb Rx.out.lt); replace Tx := zh (Tx.out.below hb zn); replace HB := zh (HB.out.trans (hb.mono HB.out.size)); clear ya; have ya := Ra.out.cell; clear yb; have yb := Rb.out.cell; clear yc; have yc := Rc.out.cell; clear yx; have yx := Rx.out.cell; clear hb) | (go_at_call 18; (with_reducible refine (CEQ.out _ RE _ _ LE.out Tc.out.td Tx.out.td).mono ?_); rintro e w8 ⟨rfl, hb⟩; replace HM := zh (HM.out.to hb); replace Ra := zh (Ra.out.below hb Ra.out.lt); replace Ta := zh (Ta.out.below hb zn); replace Rb := zh (Rb.out.below hb Rb.out.lt); replace Tb := zh (Tb.out.below hb zn); replace Rc := zh (Rc.out.below hb Rc.out.lt); replace Tc := zh (Tc.out.below hb zn); replace Rx := zh (Rx.out.below hb Rx.out.lt); replace Tx := zh (Tx.out.below hb zn); replace HB := zh (HB.out.trans (hb.mono HB.out.size)); clear ya; have ya := Ra.out.cell; clear yb; have yb := Rb.out.cell; clear yc; have yc := Rc.out.cell; clear yx; have yx := Rx.out.cell; clear hb))
   clear ya yb yc yx Rb Tb Rx Tx
   have y0 := HM.out.bi.cell
   go_upto_region 12 with (go_at_call 19; refine (CS1.out _ _ HM.out.ti).mono ?_; intro e wt hx; obtain ⟨At, ct, rfl, hb, ht⟩ := hx.openO; have HTt := zh (ht.mono HB.out.size); replace HM := zh (HM.out.to hb); replace Ra := zh (Ra.out.below hb Ra.out.lt); replace Ta := zh (Ta.out.below hb zn); replace Rc := zh (Rc.out.below hb Rc.out.lt); replace Tc := zh (Tc.out.below hb zn); replace HB := zh (HB.out.trans (hb.mono HB.out.size)); clear hx hb ht)
   clear y0
   have y0 := HM.out.bi.cell
   go_upto_region 13 with (go_at_call 20; refine (CS2.out _ _ HM.out.ti).mono ?_; intro e wu hx; obtain ⟨Au, cu, rfl, hb, ht⟩ := hx.openO; have HTu := zh (ht.mono HB.out.size); replace HM := zh (HM.out.to hb); replace Ra := zh (Ra.out.below hb Ra.out.lt); replace Ta := zh (Ta.out.below hb zn); replace Rc := zh (Rc.out.below hb Rc.out.lt); replace Tc := zh (Tc.out.below hb zn); replace HTt := zh (HTt.out.below hb zn); replace HB := zh (HB.out.trans (hb.mono HB.out.size)); clear hx hb ht)
   clear y0
   have y0 := HM.out.bi.cell
   go_upto_region 14 with (go_at_call 21; refine (CB1.out _ _ HM.out.ti).mono ?_; rintro e wp ⟨rfl, hb⟩; replace HM := zh (HM.out.to hb); replace Ra := zh (Ra.out.below hb Ra.out.lt); replace Ta := zh (Ta.out.below hb zn); replace Rc := zh (Rc.out.below hb Rc.out.lt); replace Tc := zh (Tc.out.below hb zn); replace HTt := zh (HTt.out.below hb zn); replace HTu := zh (HTu.out.below hb zn); replace HB := zh (HB.out.trans (hb.mono HB.out.size)); clear hb)
   clear y0
   have y0 := HM.out.bi.cell
   go_upto_region 15 with (go_at_call 22; refine (CB2.out _ _ HM.out.ti).mono ?_; rintro e wq ⟨rfl, hb⟩; replace HM := zh (HM.out.to hb); replace Ra := zh (Ra.out.below hb Ra.out.lt); replace Ta := zh (Ta.out.below hb zn); replace Rc := zh (Rc.out.below hb Rc.out.lt); replace Tc := zh (Tc.out.below hb zn); replace HTt := zh (HTt.out.below hb zn); replace HTu := zh (HTu.out.below hb zn); replace HB := zh (HB.out.trans (hb.mono HB.out.size)); clear hb)
   clear y0
   have y0 := HM.out.bi.cell; have y1 := HM.out.bn.cell
   go_upto_region 16 with (go_at_call 23; refine (CC1.out _ _ HM.out.ti).mono ?_; rintro e wm ⟨rfl, hb⟩; replace HM := zh (HM.out.to hb); replace Ra := zh (Ra.out.below hb Ra.out.lt); replace Ta := zh (Ta.out.below hb zn); replace Rc := zh (Rc.out.below hb Rc.out.lt); replace Tc := zh (Tc.out.below hb zn); replace HTt := zh (HTt.out.below hb zn); replace HTu := zh (HTu.out.below hb zn); replace HB := zh (HB.out.trans (hb.mono HB.out.size)); clear hb)
   clear y0 y1
   have y0 := HM.out.bi.cell; have y1 := HM.out.bn.cell
   go_upto_region 17 with (go_at_call 24; refine (CC2.out _ _ HM.out.ti).mono ?_; rintro e wr ⟨rfl, hb⟩; replace HM := zh (HM.out.to hb); replace Ra := zh (Ra.out.below hb Ra.out.lt); replace Ta := zh (Ta.out.below hb zn); replace Rc := zh (Rc.out.below hb Rc.out.lt); replace Tc := zh (Tc.out.below hb zn); replace HTt := zh (HTt.out.below hb zn); replace HTu := zh (HTu.out.below hb zn); replace HB := zh (HB.out.trans (hb.mono HB.out.size)); clear hb)
   clear y0 y1
   have hks : (((RS.2.2 : Nat) : Int) != ((RS.2.2 : Nat) : Int)) = false := by simp
   have hkd : ((kd : Int) != (kd : Int)) = false := by simp
   have hkr : (RC != RC) = false := by simp
   have hb1 : (RS.2.1 != RS.2.1) = false := by simp
   have hb2 : (RB != RB) = false := by simp
   obtain ⟨Wq, hWq⟩ := zx wr
   subst hWq
   have HSX : Hid (∀ X, Below Wq.heap.size Wq X -> X.cell? ⟨gi, 0, none⟩ = some (.int .i64 i1) /\ X.cell? ⟨gi, 1, none⟩ = some (.int .i64 i2) /\ X.cell? ⟨gi, 2, none⟩ = some (.slice A1 i3 c1) /\ X.cell? ⟨gi, 3, none⟩ = some (.slice B1 i4 d1) /\ X.cell? ⟨gd, 0, none⟩ = some (.int .i64 j1) /\ X.cell? ⟨gd, 1, none⟩ = some (.int .i64 j2) /\ X.cell? ⟨gd, 2, none⟩ = some (.slice A0 j3 c0) /\ X.cell? ⟨gd, 3, none⟩ = some (.slice B0 j4 d0)) := by
    intro X hX
    have h1 := (HM.out.to hX).bi.cell; have h2 := (HM.out.to hX).bd.cell
    exact ⟨(h1 0).trans rfl, (h1 1).trans rfl, (h1 2).trans rfl, (h1 3).trans rfl, (h2 0).trans rfl, (h2 1).trans rfl, (h2 2).trans rfl, (h2 3).trans rfl⟩
   refine wp_region_held_drew (S := (fun X => X.cell? ⟨gi, 0, none⟩ = some (.int .i64 i1) /\ X.cell? ⟨gi, 1, none⟩ = some (.int .i64 i2) /\ X.cell? ⟨gi, 2, none⟩ = some (.slice A1 i3 c1) /\ X.cell? ⟨gi, 3, none⟩ = some (.slice B1 i4 d1) /\ X.cell? ⟨gd, 0, none⟩ = some (.int .i64 j1) /\ X.cell? ⟨gd, 1, none⟩ = some (.int .i64 j2) /\ X.cell? ⟨gd, 2, none⟩ = some (.slice A0 j3 c0) /\ X.cell? ⟨gd, 3, none⟩ = some (.slice B0 j4 d0))) (by kernel_rfl) (HSX.out _ (Below.refl _ _).drew) (fun hHeld => ?_)
   refine tk 0 (oi := ⟨some 119, _, _, _, _, _⟩) ?_
   try simp only [zp]
   refine tk 1 (oi := ⟨some 120, _, _, _, _, _⟩) ?_
   try simp only [zp]
   have d0 : Below Wq.heap.size Wq Wq.drew := (Below.refl _ _).drew
   refine wpAnyH_ready (rs := [2]) (by kernel_rfl) (by simp) ?_
   refine AllReadyH.cons rfl (fun K hK => ?_) AllReadyH.nil
   go_simp
   (go_at_call 25; refine (CET.out _ _ _ (HTt.out.ts.below d0 zn) (HTu.out.ts.below d0 zn)).mono ?_; rintro ee wa ⟨rfl, hba⟩)
   have a1 : Below Wq.heap.size Wq wa := d0.trans hba
   refine hK.out _ _ (HSX.out _ a1) (fun hHeld1 => ?_)
   clear hK K hHeld hba
   try simp only [zp]
   refine tk 3 (oi := ⟨some 122, _, _, _, _, _⟩) ?_
   try simp only [zp]
   refine tk 4 (oi := ⟨some 123, _, _, _, _, _⟩) ?_
   try simp only [zp]
   refine tk 5 (oi := ⟨some 124, _, _, _, _, _⟩) ?_
   try simp only [zp]
   refine tk 6 (oi := ⟨some 125, _, _, _, _, _⟩) ?_
   try simp only [zp]
   refine tk 7 (oi := ⟨some 126, _, _, _, _, _⟩) ?_
   try simp only [zp]
   refine tk 8 (oi := ⟨some 127, _, _, _, _, _⟩) ?_
   try simp only [zp]
   refine tk 9 (oi := ⟨some 128, _, _, _, _, _⟩) ?_
   try simp only [zp]
   refine tk 10 (oi := ⟨some 129, _, _, _, _, _⟩) ?_
   try simp only [zp]
   refine tk 11 (oi := ⟨some 130, _, _, _, _, _⟩) ?_
   try simp only [zp]
   refine tk 12 (oi := ⟨some 131, _, _, _, _, _⟩) ?_
   try simp only [zp]
   refine tk 13 (oi := ⟨some 132, _, _, _, _, _⟩) ?_
   try simp only [zp]
   refine tk 14 (oi := ⟨some 133, _, _, _, _, _⟩) ?_
   try simp only [zp]
   refine tk 15 (oi := ⟨some 134, _, _, _, _, _⟩) ?_
   try simp only [zp]
   refine tk 16 (oi := ⟨some 135, _, _, _, _, _⟩) ?_
   try simp only [zp]
   refine tk 17 (oi := ⟨some 136, _, _, _, _, _⟩) ?_
   try simp only [zp]
   refine tk 18 (oi := ⟨some 137, _, _, _, _, _⟩) ?_
   try simp only [zp]
   refine tk 19 (oi := ⟨some 138, _, _, _, _, _⟩) ?_
   try simp only [zp]
   refine tk 20 (oi := ⟨some 139, _, _, _, _, _⟩) ?_
   try simp only [zp]
   refine tk 21 (oi := ⟨some 140, _, _, _, _, _⟩) ?_
   try simp only [zp]
   refine tk 22 (oi := ⟨some 141, _, _, _, _, _⟩) ?_
   try simp only [zp]
   refine tk 23 (oi := ⟨some 142, _, _, _, _, _⟩) ?_
   try simp only [zp]
   refine tk 24 (oi := ⟨some 143, _, _, _, _, _⟩) ?_
   try simp only [zp]
   refine tk 25 (oi := ⟨some 144, _, _, _, _, _⟩) ?_
   try simp only [zp]
   refine tk 26 (oi := ⟨some 145, _, _, _, _, _⟩) ?_
   try simp only [zp]
   refine tk 27 (oi := ⟨some 146, _, _, _, _, _⟩) ?_
   try simp only [zp]
   refine tk 28 (oi := ⟨some 147, _, _, _, _, _⟩) ?_
   try simp only [zp]
   refine tk 29 (oi := ⟨some 148, _, _, _, _, _⟩) ?_
   try simp only [zp]
   refine tk 30 (oi := ⟨some 149, _, _, _, _, _⟩) ?_
   try simp only [zp]
   refine tk 31 (oi := ⟨some 150, _, _, _, _, _⟩) ?_
   try simp only [zp]
   refine tk 32 (oi := ⟨some 151, _, _, _, _, _⟩) ?_
   try simp only [zp]
   refine tk 33 (oi := ⟨some 152, _, _, _, _, _⟩) ?_
   try simp only [zp]
   refine tk 34 (oi := ⟨some 153, _, _, _, _, _⟩) ?_
   try simp only [zp]
   refine tk 35 (oi := ⟨some 154, _, _, _, _, _⟩) ?_
   try simp only [zp]
   refine tk 36 (oi := ⟨some 155, _, _, _, _, _⟩) ?_
   try simp only [zp]
   refine wpAnyH_ready (rs := [37]) (by kernel_rfl) (by simp) ?_
   refine AllReadyH.cons rfl (fun K hK => ?_) AllReadyH.nil
   go_simp
   (go_at_call 13; refine (CFEW.out _ _ (HM.out.to a1).td).mono ?_; rintro ee wb ⟨vb, rfl, hbb, htb⟩)
   obtain ⟨A8, c8, B8, d8, rfl⟩ := htb.td.form
   have a2 : Below Wq.heap.size Wq wb := a1.trans (hbb.mono a1.size)
   refine hK.out _ _ (HSX.out _ a2) (fun hHeld2 => ?_)
   have HT8 := zh htb.td
   clear hK K hHeld1 hbb htb
   try simp only [zp]
   refine wpAnyH_ready (rs := [38]) (by kernel_rfl) (by simp) ?_
   refine AllReadyH.cons rfl (fun K hK => ?_) AllReadyH.nil
   go_simp
   (go_at_call 18; refine (CEQ.out _ Fr _ _ LF.out (HM.out.to a2).ti HT8.out).mono ?_; rintro ee wc ⟨rfl, hbc⟩)
   have a3 : Below Wq.heap.size Wq wc := a2.trans (hbc.mono a2.size)
   refine hK.out _ _ (HSX.out _ a3) (fun hHeld3 => ?_)
   clear hK K hHeld2 hbc HT8
   try simp only [zp]
   refine tk 39 (oi := ⟨some 158, _, _, _, _, _⟩) ?_
   try simp only [zp]
   refine tk 40 (oi := ⟨some 159, _, _, _, _, _⟩) ?_
   try simp only [zp]
   refine wpAnyH_done (by kernel_rfl) ?_ _
   clear hHeld3 HSX
   replace HM := zh (HM.out.to a3); replace Ra := zh (Ra.out.below a3 Ra.out.lt); replace Ta := zh (Ta.out.below a3 zn); replace Rc := zh (Rc.out.below a3 Rc.out.lt); replace Tc := zh (Tc.out.below a3 zn); replace HTt := zh (HTt.out.below a3 zn); replace HTu := zh (HTu.out.below a3 zn); replace HB := zh (HB.out.trans (a3.mono HB.out.size))
   clear a1 a2 a3 d0
   have ya := Ra.out.cell; have yc := Rc.out.cell
   go_upto_region 20 with (go_at_call 26; (with_reducible refine (zob _ W.heap.size _ (Ta.out.wd) HB.out.size).mono ?_); rintro e wva ⟨rfl, hv⟩; have HWa := zh hv; clear hv)
   obtain ⟨c1', r1', s1', e1', -⟩ := HWa.out.row _ _ _ Rc.out
   have e1 := e1' (by decide) (by decide)
   subst e1
   have Rc2 := zh r1'; have Tc2 := zh (Tc.out.wd.wipe HWa.out); have HTt2 := zh (HTt.out.wipe HWa.out)
   have HBa := zh (HB.out.trans HWa.out.below)
   clear ya yc r1' s1' e1'
   have yc := Rc2.out.cell
   go_upto_region 21 with (go_at_call 26; (with_reducible refine (zob _ W.heap.size _ Tc2.out HBa.out.size).mono ?_); rintro e wvc ⟨rfl, hv⟩; have HWc := zh hv; clear hv)
   have HTt3 := zh (HTt2.out.wipe HWc.out); have HBc := zh (HBa.out.trans HWc.out.below)
   clear yc
   go_wp2_with (go_at_call 27; (with_reducible refine (zoa _ _ W.heap.size _ HTt3.out).mono ?_); rintro e wvt ⟨rfl, hv⟩; have HG := zh hv; clear hv)
   have HBE : Hid (Below W.heap.size W wvt) := HBc.out.grown HG.out HBc.out.size (fun k hk => (HTt3.out.blk hk).1)
   go_roundg (2 - (z + 1))
   case rel => exact ⟨z + 1, by omega, rfl, by go_num, HMS.out.to HBE.out⟩
   case measure => omega
  ·obtain rfl : z = 2 := by omega
   have hlti : ¬ ((2 : Nat) : Int) < 2 := by omega
   go_wp2_with (go_at_call 28; refine (AWK.out _).mono ?_; rintro e w9 ⟨rfl, hb9⟩; have HB9 := zh (HM.out.below.trans (hb9.mono HM.out.below.size)); clear hb9)
   go_returns
   exact ⟨rfl, HB9.out⟩
end Go.Proofs.YthkfjnmnoanhlaaGreatDoor
