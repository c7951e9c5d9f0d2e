/- Part 35 of the proof; it says: lemmas and contracts. No conditions but those that each theorem states. -/
import Derived.Deep.RegionHeld3
import Derived.Test.YthdabkmkgkkmcaaGreatDoorPb01
import Derived.Test.YthdabkmkgkkmcaaGreatDoorPb21
import Derived.Test.YthdabkmkgkkmcaaGreatDoorPb34
set_option linter.unusedSimpArgs false
set_option linter.unusedVariables false
set_option maxRecDepth 100000
set_option maxHeartbeats 32000000
namespace Go.Proofs.YthdabkmkgkkmcaaGreatDoor
open Go.RowKit
theorem zi4 (f:List Mk) (v:Value) (V M:Nat) (w:World) (hv:MS w v f) (d:Dta) (hd:d.Fit V) (hc:compS f V M = (d.raw V,0)) :
  Calls Tryz.prog 26 #[v,.int .i64 (V:Int),.int .i64 (M:Int)] w (RetSm w (zbf d)):=by
 have hcm:=fun W (h:Below w.heap.size w W) => zax f v V M W (hv.below h zn)
 rw [hc] at hcm
 have hsm:=fun va W (h:TD W va (d.raw V)) => zgi d V hd va W h
 obtain ⟨R,hR⟩:=zx (zbf d)
 rw [<- hR] at hsm ⊢
 obtain ⟨_,A,c,rfl,_⟩:=id hv
 have HCM:=zh hcm; have HSM:=zh hsm
 clear hcm hsm hv hc hR
 obtain ⟨R1,R2,R3⟩:=R
 go_enter Tryz.func26,Tryz.ntmps26
 go_wp2_with (first
  | (go_at_call 11; go_must (refine (HCM.out _ (by go_grown)).mono ?_; rintro e w1 ⟨A1,n1,c1,A2,n2,c2,rfl,hb,ht⟩; have HB:=zh (show Below w.heap.size w w1 from hb); have HT:=zh ht; clear hb ht))
  | (go_at_call 60; go_must (refine (HSM.out _ _ (HT.out.td.below (B:=w1.heap.size) (by go_grown) zn)).mono ?_; rintro e w2 ⟨v2,rfl,hb,ho⟩; have HB2:=zh (HB.out.trans (((by go_grown:Below w1.heap.size w1 _).trans (hb.mono (by go_grown))).mono HB.out.size)); have HO:=zh (show TO w2 w.heap.size v2 R1 from ho.mono (by have:=HB.out.size; simp; omega)); clear hb ho)))
 go_returns
 exact ⟨_,rfl,HB2.out,HO.out⟩
theorem zhp (d:Dta) (V:Nat) (hd:d.Fit V) (i j:Int) (A1 A2:Option Addr) (n1 c1 n2 c2:Nat) (w:World) (hv:TD w (.agg #[.int .i64 i,.int .i64 j,.slice A1 n1 c1,.slice A2 n2 c2]) (d.raw V)) :
  Calls Tryz.prog 45 #[.agg #[.int .i64 i,.int .i64 j,.slice A1 n1 c1,.slice A2 n2 c2],.int .i64 0] w (RetSm w (refS d)):=by
 have hsm:=fun va W (h:TD W va (d.raw V)) => zgi d V hd va W h
 unfold refS
 obtain ⟨R,hR⟩:=zx (zbf d)
 rw [<- hR] at hsm ⊢
 have HSM:=zh hsm; have HV:=zh hv
 clear hsm hv hR
 obtain ⟨R1,R2,R3⟩:=R
 by_cases h3:R3 = 0
 ·subst h3
  go_enter Tryz.func45,Tryz.ntmps45
  go_wp2_with (go_at_call 60; go_must (refine (HSM.out _ _ (HV.out.below (B:=w.heap.size) (by go_grown) zn)).mono ?_; rintro e w2 ⟨v2,rfl,hb,ho⟩; have HB2:=zh ((by go_grown:Below w.heap.size w _).trans (hb.mono (by go_grown))); have HO:=zh (show TO w2 w.heap.size v2 R1 from ho.mono (by simp)); clear hb ho))
  all_goals
   go_returns
   exact ⟨v2,by simp,HB2.out,HO.out⟩
 ·have h3':((R3:Nat):Int) ≠ 0:=by omega
  go_enter Tryz.func45,Tryz.ntmps45
  go_wp2_with (go_at_call 60; go_must (refine (HSM.out _ _ (HV.out.below (B:=w.heap.size) (by go_grown) zn)).mono ?_; rintro e w2 ⟨v2,rfl,hb,ho⟩; have HB2:=zh ((by go_grown:Below w.heap.size w _).trans (hb.mono (by go_grown))); have HO:=zh (show TO w2 w.heap.size v2 R1 from ho.mono (by simp)); clear hb ho))
  all_goals
   go_returns
   exact ⟨v2,by simp [h3],HB2.out,HO.out⟩
theorem zh6 (f:List Mk) (v:Value) (V M:Nat) (w:World) (hv:MS w v f) (d:Dta) (hd:d.Fit V) (hc:compS f V M = (d.raw V,0)) :
  Calls Tryz.prog 17 #[v,.int .i64 (V:Int),.int .i64 (M:Int)] w (RetSm w (refS d.notM)):=by
 have hcm:=fun W (h:Below w.heap.size w W) => zax f v V M W (hv.below h zn)
 rw [hc] at hcm
 have hsm:=fun i j A1 A2 n1 c1 n2 c2 W h => zhp d.notM V (zbt hd) i j A1 A2 n1 c1 n2 c2 W h
 have hno:=fun va W (h:TD W va (d.raw V)) => (show Calls Tryz.prog 21 #[va] W (RetR W (d.notM.raw V) 0) from zot d V hd va W h)
 obtain ⟨R,hR⟩:=zx (refS d.notM)
 rw [<- hR] at hsm ⊢
 obtain ⟨_,A,c,rfl,_⟩:=id hv
 have HCM:=zh hcm; have HSM:=zh hsm; have HNO:=zh hno
 clear hcm hsm hv hc hR hno
 obtain ⟨R1,R2,R3⟩:=R
 go_enter Tryz.func17,Tryz.ntmps17
 go_wp2_with (first
  | (go_at_call 11; go_must (refine (HCM.out _ (by go_grown)).mono ?_; rintro e w1 ⟨A1,n1,c1,A2,n2,c2,rfl,hb,ht⟩; have HB:=zh (show Below w.heap.size w w1 from hb); have HT:=zh ht; clear hb ht))
  | (go_at_call 21; go_must (refine (HNO.out _ _ (HT.out.td.below (B:=w1.heap.size) (by go_grown) zn)).mono ?_; rintro e w2 ⟨v2,rfl,hb,ho⟩; obtain ⟨B1,d1,B2,d2,rfl⟩:=ho.form; have HB2:=zh (HB.out.trans (((by go_grown:Below w1.heap.size w1 _).trans (hb.mono (by go_grown))).mono HB.out.size)); have HT2:=zh ho.td; clear hb ho))
  | (go_at_call 45; go_must (refine (HSM.out _ _ _ _ _ _ _ _ _ (HT2.out.below (B:=w2.heap.size) (by go_grown) zn)).mono ?_; rintro e w3 ⟨v3,rfl,hb,ho⟩; have HB3:=zh (HB2.out.trans (((by go_grown:Below w2.heap.size w2 _).trans (hb.mono (by go_grown))).mono HB2.out.size)); have HO:=zh (show TO w3 w.heap.size v3 R1 from ho.mono (by have:=HB2.out.size; first | exact this | (simp; omega))); clear hb ho)))
 go_returns
 exact ⟨_,rfl,HB3.out,HO.out⟩
structure EqI (W:World) (V ga gb:Nat) (xa xb:Array Value) (ra rb:Raw) (S:Option (List Dta)) (X:World):Prop where
 c:CpT W.heap.size W.heap.size 0 0 V S X
 b:Below W.heap.size W X
 a1:Row X ga 30 xa
 b1:Row X gb 30 xb
 ta:TD X (.agg xa) ra
 tb:TD X (.agg xb) rb
 wa:TD W (.agg xa) ra
 wb:TD W (.agg xb) rb
 la:ga < W.heap.size
 lb:gb < W.heap.size
theorem EqI.keep2 {W:World} {V ga gb:Nat} {xa xb:Array Value} {ra rb:Raw} {S S':Option (List Dta)} {X Y:World} (h:EqI W V ga gb xa xb ra rb S X) (hf:CpF W.heap.size W.heap.size X Y) (hc:CpT W.heap.size W.heap.size 0 0 V S' Y):EqI W V ga gb xa xb ra rb S' Y :=
 ⟨hc,h.b.trans hf.below,h.a1.below hf.below h.la,h.b1.below hf.below h.lb,h.wa.below (h.b.trans hf.below) zn,h.wb.below (h.b.trans hf.below) zn,h.wa,h.wb,h.la,h.lb⟩
theorem EqI.keep {W:World} {V ga gb:Nat} {xa xb:Array Value} {ra rb:Raw} {S:Option (List Dta)} {X Y:World} (h:EqI W V ga gb xa xb ra rb S X) (hb:Below X.heap.size X Y):EqI W V ga gb xa xb ra rb S Y :=
 ⟨h.c.below hb,h.b.trans (hb.mono h.b.size),h.a1.below hb h.a1.lt,h.b1.below hb h.b1.lt,h.ta.below hb zn,h.tb.below hb zn,h.wa,h.wb,h.la,h.lb⟩
theorem znk (f g:List Mk) (v u:Value) (V M:Nat) (w:World) (hv:MS w v f) (hu:MS w u g) (a b c1 c2 d:Dta) (ha:a.Fit V) (hb:b.Fit V) (hca:compS f V M = (a.raw V,0)) (hcb:compS g V M = (b.raw V,0)) (h1:opC (fun p q => p && !q) a b = some c1) (h2:opC (fun p q => p && !q) b a = some c2) (h3:opC (fun p q => p || q) c1 c2 = some d) :
  Calls Tryz.prog 33 #[v,u,.int .i64 (V:Int),.int .i64 (M:Int)] w (RetSm w (refS d)):=by
 have fc1:=zbz ha hb h1
 have fc2:=zbz hb ha h2
 have fd:=zbz fc1 fc2 h3
 have hcm:=fun W (h:Below w.heap.size w W) => zax f v V M W (hv.below h zn)
 have hcn:=fun W (h:Below w.heap.size w W) => zax g u V M W (hu.below h zn)
 rw [hca] at hcm
 rw [hcb] at hcn
 have hm1:=fun va vb W (h:TD W va (a.raw V)) (h':TD W vb (b.raw V)) => zma a b V ha hb va vb W h h'
 have hm2:=fun va vb W (h:TD W va (a.raw V)) (h':TD W vb (b.raw V)) => zma b a V hb ha vb va W h' h
 rw [zdp,h1] at hm1
 rw [zdp,h2] at hm2
 obtain ⟨_,A,c,rfl,_⟩:=id hv
 obtain ⟨_,A',c',rfl,_⟩:=id hu
 have HCM:=zh hcm; have HCN:=zh hcn; have HM1:=zh hm1; have HM2:=zh hm2; have H3:=zh h3
 clear hcm hcn hm1 hm2 hv hu hca hcb h1 h2 h3
 have hrf:=fun i j A1 A2 n1 c1 n2 c2 W h => zhp d V fd i j A1 A2 n1 c1 n2 c2 W h
 obtain ⟨R,hR⟩:=zx (refS d)
 rw [<- hR] at hrf ⊢
 have HRF:=zh hrf
 clear hrf hR
 obtain ⟨R1,R2,R3⟩:=R
 go_enter Tryz.func33,Tryz.ntmps33
 go_upto_region 7 with (first
  | (go_at_call 11; (with_reducible refine (HCM.out _ (Below.refl _ _)).mono ?_); rintro e w1 ⟨A1,n1,d1,A2,n2,d2,rfl,hb,ht⟩; have HB:=zh (show Below w.heap.size w w1 from hb); have HT:=zh ht.td; clear hb ht)
  | (go_at_call 11; go_must (refine (HCN.out _ (HB.out.trans ((by go_grown:Below w1.heap.size w1 _).mono HB.out.size))).mono ?_; rintro e w2 ⟨B1,m1,e1,B2,m2,e2,rfl,hb,ht⟩; have HB2:=zh (show Below w1.heap.size w1 w2 from (by go_grown:Below w1.heap.size w1 _).trans (hb.mono (by simp))); have HR1:=zh ((Row.new w1 30 #[.int .i64 (a.raw V).vars,.int .i64 (a.raw V).empty,.slice A1 n1 d1,.slice A2 n2 d2]).below hb (by simp)); have HT2:=zh ht.td; clear hb ht)))
 refine zaa (fun W => Below w.heap.size w W /\ Row W w1.heap.size 30 #[.int .i64 (a.raw V).vars,.int .i64 (a.raw V).empty,.slice A1 n1 d1,.slice A2 n2 d2] /\ Row W w2.heap.size 30 #[.int .i64 (b.raw V).vars,.int .i64 (b.raw V).empty,.slice B1 m1 e1,.slice B2 m2 e2] /\ TD W (.agg #[.int .i64 (a.raw V).vars,.int .i64 (a.raw V).empty,.slice A1 n1 d1,.slice A2 n2 d2]) (a.raw V) /\ TD W (.agg #[.int .i64 (b.raw V).vars,.int .i64 (b.raw V).empty,.slice B1 m1 e1,.slice B2 m2 e2]) (b.raw V))
  ⟨(HB.out.trans (HB2.out.mono HB.out.size)).trans (by have:=HB.out.size; have:=HB2.out.size; exact (by go_grown:Below w2.heap.size w2 _).mono (by omega)),HR1.out.alloc _,Row.new _ _ _,(HT.out.below HB2.out zn).below (B:=w2.heap.size) (by go_grown) zn,HT2.out.below (by go_grown) zn⟩ ?_
 rintro W ⟨hbW,ra,rb,ta,tb⟩
 have HBW:=zh hbW; have RA:=zh ra; have RB:=zh rb; have TA:=zh ta; have TB:=zh tb
 clear hbW ra rb ta tb HT HT2 HR1 HB HB2 HCM HCN
 go_upto_region 8 with fail
 have hb0:∀ o,Below W.heap.size W (W.alloc o):=fun o => Below.alloc (Below.refl _ _) zn o
 refine zaa (fun X => EqI W V w1.heap.size w2.heap.size #[.int .i64 (a.raw V).vars,.int .i64 (a.raw V).empty,.slice A1 n1 d1,.slice A2 n2 d2] #[.int .i64 (b.raw V).vars,.int .i64 (b.raw V).empty,.slice B1 m1 e1,.slice B2 m2 e2] (a.raw V) (b.raw V) (some []) X)
  ⟨⟨none,0,0,Row.new _ _ _,StkR.nil _ _,by simp,zn⟩,hb0 _,RA.out.alloc _,RB.out.alloc _,TA.out.below (hb0 _) zn,TB.out.below (hb0 _) zn,TA.out,TB.out,RA.out.lt,RB.out.lt⟩ ?_
 clear hb0
 rintro X h
 have r1:=h.a1.cell; have r2:=h.b1.cell; have H:=zh h
 clear h RA RB TA TB
 go_upto_region 11 with (first
  | (go_at_call 74; (with_reducible refine (HM1.out _ _ _ H.out.ta H.out.tb).mono ?_); rintro e w5 ⟨v5,rfl,hb,ho⟩; obtain ⟨C1,f1,C2,f2,rfl⟩:=ho.form; have h:=H.out.keep hb; have HO:=zh (ho.mono H.out.c.le); have r1:=h.a1.cell; have r2:=h.b1.cell; have H:=zh h; clear h hb ho)
  | (go_at_call 74; (with_reducible refine (HM2.out _ _ _ H.out.ta H.out.tb).mono ?_); rintro e w6 ⟨v6,rfl,hb,ho⟩; obtain ⟨C1,f1,C2,f2,rfl⟩:=ho.form; have h:=H.out.keep hb; have HO:=zh (ho.mono H.out.c.le); have r1:=h.a1.cell; have r2:=h.b1.cell; have H:=zh h; clear h hb ho)
  | (go_at_call 71; go_must (refine (zdf W.heap.size W.heap.size V 0 0 _ (fun s e => by cases e; simp) _ H.out.c (some _) _ _ _ _ _ _ _ _ HO.out _ rfl).mono ?_; rintro e w7 ⟨rfl,hf,hc⟩; have h:=H.out.keep2 hf hc; have r1:=h.a1.cell; have r2:=h.b1.cell; have H:=zh h; clear h hf hc))
  | (go_at_call 75; go_must (refine (zp9 W.heap.size W.heap.size V 0 0 _ ⟨fun s e => by cases e; simp,fun s e => by cases e; intro x hx; simp at hx; rcases hx with rfl | rfl; exact fc2; exact fc1⟩ _ H.out.c).mono ?_; rintro e w8 ⟨rfl,hf,hc⟩; have h:=H.out.keep2 hf hc; have H:=zh h; clear h hf hc)))
 have q:CpT W.heap.size W.heap.size 0 0 V ((opC (fun p q => p || q) c1 c2).map (· :: [])) w8:=H.out.c
 rw [H3.out] at q
 have HC:Hid (CpT W.heap.size W.heap.size 0 0 V (some [d]) w8):=q
 have HB8:Hid (Below w.heap.size w w8):=HBW.out.trans (H.out.b.mono HBW.out.size)
 obtain ⟨stk,hr⟩:=HC.out.row
 have p1:w8.cell? ⟨W.heap.size,3,none⟩ = some (.int .i64 0):=hr.cell 3
 have y2:=hr.lt
 clear q hr H r1 r2 HO HM1 HM2
 go_region_held3 (fun X => X.cell? ⟨W.heap.size,3,none⟩ = some (.int .i64 0)) (first | exact p1 | exact p2 | exact p3) (first
  | (go_at_call 31; refine (zcr W.heap.size W.heap.size V 0 0 (some [d]) (fun s e => by cases e; simp) _ (HC.out.below (by go_grown))).mono ?_; rintro e w9 ⟨i,j,D1,g1,h1,D2,g2,h2,rfl,ht,hf,hc⟩; have HT:=zh (ht d [] rfl).td; have R9:Hid (∃ stk,Row w9 W.heap.size 67 #[.int .i64 0,.int .i64 0,stk,.int .i64 0]):=hc.row; have p2:w9.cell? ⟨W.heap.size,3,none⟩ = some (.int .i64 0):=(by obtain ⟨_,h⟩:=R9.out; exact h.cell 3); have HB9:=zh (HB8.out.trans ((((by go_grown:Below w8.heap.size w8 _).mono HC.out.le).trans hf.below).mono HBW.out.size)); clear ht hf hc)
  | (go_at_call 45; refine (HRF.out _ _ _ _ _ _ _ _ _ (HT.out.below (by go_grown) zn)).mono ?_; rintro e w10 ⟨v10,rfl,hb,ho⟩; have p3:w10.cell? ⟨W.heap.size,3,none⟩ = some (.int .i64 0):=(by obtain ⟨_,h⟩:=R9.out; exact ((h.below (by go_grown) h.lt).below hb (h.below (by go_grown) h.lt).lt).cell 3); have HB10:=zh (HB9.out.trans (((by go_grown:Below w9.heap.size w9 _).trans (hb.mono (by simp))).mono HB9.out.size)); have HO:=zh (show TO w10 w.heap.size v10 R1 from ho.mono (by have:=HB9.out.size; simp; omega)); clear hb ho))
 all_goals
  go_wp2
  go_returns
  exact ⟨_,rfl,HB10.out,HO.out⟩
end Go.Proofs.YthdabkmkgkkmcaaGreatDoor
