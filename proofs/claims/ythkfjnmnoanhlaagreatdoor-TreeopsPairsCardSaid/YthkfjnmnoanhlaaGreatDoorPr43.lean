/- Part 43 of the proof; it says: lemmas and contracts. No conditions but those that each theorem states. -/
import Derived.Test.YthkfjnmnoanhlaaGreatDoorPr01
import Derived.Test.YthkfjnmnoanhlaaGreatDoorPr22
import Derived.Test.YthkfjnmnoanhlaaGreatDoorPr24
import Derived.Test.YthkfjnmnoanhlaaGreatDoorPr28
import Derived.Test.YthkfjnmnoanhlaaGreatDoorPr42
set_option linter.unusedSimpArgs false
set_option linter.unusedVariables false
set_option maxRecDepth 100000
set_option maxHeartbeats 32000000
namespace Go.Proofs.YthkfjnmnoanhlaaGreatDoor
open Go.RowKit
theorem zc4 (d:Dta) (V:Nat) (hd:d.Fit V) (va:Value) (t:List Lf) (s:List UInt8) (x:ByteArray) (hx:x = ⟨s.toArray⟩) (hs:zas d = (t,true,0)) (hf:zcf t = (s,0)) (w:World) (hva:TD w va (d.raw V)) :
  Calls Tryz.prog 75 #[va,.int .i64 0,.string x] w fun e w' => e = .returned (.bool true) /\ Below w.heap.size w w':=by
 have hsm:=fun W (h:Below w.heap.size w W) => zcq d V hd va W (hva.below h zn)
 rw [hs] at hsm
 have hfo:=fun v W (h:TS W v t) => zhi t v W h
 rw [hf] at hfo
 simp only [<- hx] at hfo
 obtain ⟨A1,c1,A2,c2,rfl⟩:=hva.form
 obtain ⟨n1,g1⟩:=zx ((d.raw V).next.length)
 obtain ⟨n2,g2⟩:=zx ((d.raw V).fin.length)
 obtain ⟨V1,g3⟩:=zx ((d.raw V).vars)
 obtain ⟨E1,g4⟩:=zx ((d.raw V).empty)
 rw [<- g1,<- g2,<- g3,<- g4] at hsm ⊢
 have HSM:=zh hsm; have HFO:=zh hfo
 clear hsm hfo hva g1 g2 g3 g4 hd hs hf hx
 go_enter Tryz.func75,Tryz.ntmps75
 go_upto_region 1 with fail
 refine zab (fun W => Below w.heap.size w W /\ Row W w.heap.size 25 #[.int .i64 V1,.int .i64 E1,.slice A1 n1 c1,.slice A2 n2 c2]) ⟨by go_grown,Row.new _ _ _⟩ ?_
 rintro W ⟨hb,r1⟩
 have y0:=r1.cell
 have HB:=zh hb
 clear hb r1
 go_upto_region 2 with (go_at_call 19; refine (HSM.out _ HB.out).mono ?_; rintro e w2 ⟨v2,rfl,hb2,ht2⟩; have HB2:=zh (HB.out.trans (hb2.mono HB.out.size)); have HT2:=zh (show TS w2 v2 t from ht2.ts); obtain ⟨A3,c3,rfl⟩:=TS.form HT2.out; clear hb2 ht2)
 clear y0
 obtain ⟨n3,hn3⟩:=zx t.length
 simp only [<- hn3] at HT2 ⊢
 clear hn3
 go_upto_region 3 with (go_at_call 114; refine (HFO.out _ _ HT2.out).mono ?_; rintro e w3 ⟨rfl,hb3⟩; have HB3:=zh (HB2.out.trans (hb3.mono HB2.out.size)); clear hb3)
 go_wp2
 go_returns
 exact ⟨by simp,HB3.out⟩
theorem zgh (a b:Dta) (V:Nat) (ha:a.Fit V) (hb:b.Fit V) (va vb:Value) (t:List Lf) (s:List UInt8) (x:ByteArray) (hx:x = ⟨s.toArray⟩) (hs:inclO a b = (t,false,0)) (hf:zcf t = (s,0)) (w:World) (hva:TD w va (a.raw V)) (hvb:TD w vb (b.raw V)) :
  Calls Tryz.prog 76 #[va,vb,.string x] w fun e w' => e = .returned (.bool true) /\ Below w.heap.size w w':=by
 have hsm:=fun W (h:Below w.heap.size w W) => zga a b V ha hb va vb W (hva.below h zn) (hvb.below h zn)
 rw [hs] at hsm
 have hfo:=fun v W (h:TS W v t) => zhi t v W h
 rw [hf] at hfo
 simp only [<- hx] at hfo
 obtain ⟨A1,c1,A2,c2,rfl⟩:=hva.form
 obtain ⟨A3,c3,A4,c4,rfl⟩:=hvb.form
 obtain ⟨n1,h1⟩:=zx ((a.raw V).next.length)
 obtain ⟨n2,h2⟩:=zx ((a.raw V).fin.length)
 obtain ⟨n3,h3⟩:=zx ((b.raw V).next.length)
 obtain ⟨n4,h4⟩:=zx ((b.raw V).fin.length)
 obtain ⟨V1,h5⟩:=zx ((a.raw V).vars)
 obtain ⟨E1,h6⟩:=zx ((a.raw V).empty)
 obtain ⟨V2,h7⟩:=zx ((b.raw V).vars)
 obtain ⟨E2,h8⟩:=zx ((b.raw V).empty)
 rw [<- h1,<- h2,<- h3,<- h4,<- h5,<- h6,<- h7,<- h8] at hsm ⊢
 have HSM:=zh hsm; have HFO:=zh hfo
 clear hsm hfo hva hvb h1 h2 h3 h4 h5 h6 h7 h8 ha hb hs hf hx
 go_enter Tryz.func76,Tryz.ntmps76
 go_upto_region 1 with fail
 refine zab (fun W => Below w.heap.size w W /\ Row W w.heap.size 25 #[.int .i64 V1,.int .i64 E1,.slice A1 n1 c1,.slice A2 n2 c2] /\ Row W (w.heap.size + 1) 25 #[.int .i64 V2,.int .i64 E2,.slice A3 n3 c3,.slice A4 n4 c4])
  ⟨by go_grown,(Row.new _ _ _).alloc _,Row.lit (by simp)⟩ ?_
 rintro W ⟨hb,r1,r2⟩
 have y0:=r1.cell; have y1:=r2.cell
 have HB:=zh hb
 clear hb r1 r2
 go_upto_region 2 with (go_at_call 30; refine (HSM.out _ HB.out).mono ?_; rintro e w2 ⟨v2,rfl,hb2,ht2⟩; have HB2:=zh (HB.out.trans (hb2.mono HB.out.size)); have HT2:=zh (show TS w2 v2 t from ht2.ts); obtain ⟨A5,c5,rfl⟩:=TS.form HT2.out; clear hb2 ht2)
 clear y0 y1
 obtain ⟨n5,hn5⟩:=zx t.length
 simp only [<- hn5] at HT2 ⊢
 clear hn5
 go_upto_region 3 with (go_at_call 114; refine (HFO.out _ _ HT2.out).mono ?_; rintro e w3 ⟨rfl,hb3⟩; have HB3:=zh (HB2.out.trans (hb3.mono HB2.out.size)); clear hb3)
 go_wp2
 go_returns
 exact ⟨by simp,HB3.out⟩
theorem zdt (d:Dta) (V:Nat) (hd:d.Fit V) (va:Value) (n:Nat) (hn:n <= 31) (c:Int) (w:World) (hva:TD w va (d.raw V)) :
  Calls Tryz.prog 47 #[va,.int .i64 (n:Int),.int .u64 c] w fun e w' => e = .returned (.bool (decide (((accN d n % M64:Nat):Int) = c))) /\ Below w.heap.size w w':=by
 have hct:=fun W (h:Below w.heap.size w W) => zra d V hd va n hn W (hva.below h zn)
 obtain ⟨k,hk⟩:=zx (((accN d n % M64:Nat):Int))
 rw [<- hk] at hct ⊢
 obtain ⟨A1,c1,A2,c2,rfl⟩:=hva.form
 obtain ⟨n1,g1⟩:=zx ((d.raw V).next.length)
 obtain ⟨n2,g2⟩:=zx ((d.raw V).fin.length)
 obtain ⟨V1,g3⟩:=zx ((d.raw V).vars)
 obtain ⟨E1,g4⟩:=zx ((d.raw V).empty)
 rw [<- g1,<- g2,<- g3,<- g4] at hct ⊢
 have HCT:=zh hct
 clear hct hva g1 g2 g3 g4 hd hk hn
 go_enter Tryz.func47,Tryz.ntmps47
 go_upto_region 1 with fail
 refine zab (fun W => Below w.heap.size w W /\ Row W w.heap.size 25 #[.int .i64 V1,.int .i64 E1,.slice A1 n1 c1,.slice A2 n2 c2]) ⟨by go_grown,Row.new _ _ _⟩ ?_
 rintro W ⟨hb,r1⟩
 have y0:=r1.cell
 have HB:=zh hb
 clear hb r1
 go_upto_region 2 with (go_at_call 23; refine (HCT.out _ HB.out).mono ?_; rintro e w2 ⟨rfl,hb2⟩; have HB2:=zh (HB.out.trans (hb2.mono HB.out.size)); clear hb2)
 by_cases h:k = c
 ·subst h
  go_wp2
  go_returns
  exact ⟨by simp,HB2.out⟩
 ·go_wp2
  go_returns
  exact ⟨by simp [h],HB2.out⟩
theorem e_f1:zcf [⟨1,-1,-1⟩] = ([40,49,32,45,32,45,41],0):=by decide +kernel
theorem e_f2:zcf [] = ([45],0):=by decide +kernel
theorem e_f3:zcf [⟨0,1,2⟩,⟨0,-1,-1⟩,⟨0,-1,-1⟩] = ([40,48,32,40,48,32,45,32,45,41,32,40,48,32,45,32,45,41,41],0):=by decide +kernel
theorem e_f4:zcf [⟨0,1,2⟩,⟨0,-1,-1⟩,⟨1,-1,-1⟩] = ([40,48,32,40,48,32,45,32,45,41,32,40,49,32,45,32,45,41,41],0):=by decide +kernel
theorem awake20 (w:World):Calls Tryz.prog 28 #[] w fun e w' => e = .returned (.bool true) /\ Below w.heap.size w w':=by
 have NO1:=zh fun W v (h:TD W v (someD.raw 1)) => (show Calls Tryz.prog 14 #[v] W (RetR W (someD.notM.raw 1) 0) from by exact not_ok someD 1 zaf v W h)
 have NO2:=zh fun W v (h:TD W v (slimD.raw 1)) => (show Calls Tryz.prog 14 #[v] W (RetR W (slimD.notM.raw 1) 0) from by exact not_ok slimD 1 zal v W h)
 have D1:=zh fun W v u (h:TD W v (someD.raw 1)) (h2:TD W u (someD.notM.raw 1)) => (show Calls Tryz.prog 31 #[v,u] W (RetR W ((prodM someD someD.notM fun p q => p && q).raw 1) 0) from by have q:=zp0 someD someD.notM 1 zaf (zdl zaf) v u W h h2; rw [opR_ok ev4] at q; exact q)
 have D2:=zh fun W v u (h:TD W v (someD.raw 1)) (h2:TD W u (slimD.raw 1)) => (show Calls Tryz.prog 31 #[v,u] W (RetR W ((prodM someD slimD fun p q => p && q).raw 1) 0) from by have q:=zp0 someD slimD 1 zaf zal v u W h h2; rw [opR_ok (Nat.le_trans ev6 (by omega))] at q; exact q)
 have S1:=zh fun W v (h:TD W v (someD.raw 1)) => (show Calls Tryz.prog 75 #[v,.int .i64 0,.string { data:=#[40,49,32,45,32,45,41] }] W fun e w' => e = .returned (.bool true) /\ Below W.heap.size W w' from by exact zc4 someD 1 zaf v _ _ _ rfl ev1 e_f1 W h)
 have S2:=zh fun W v (h:TD W v (slimD.raw 1)) => (show Calls Tryz.prog 75 #[v,.int .i64 0,.string { data:=#[45] }] W fun e w' => e = .returned (.bool true) /\ Below W.heap.size W w' from by exact zc4 slimD 1 zal v _ _ _ rfl ev2 e_f2 W h)
 have S3:=zh fun W v (h:TD W v (slimD.notM.raw 1)) => (show Calls Tryz.prog 75 #[v,.int .i64 0,.string { data:=#[40,48,32,40,48,32,45,32,45,41,32,40,48,32,45,32,45,41,41] }] W fun e w' => e = .returned (.bool true) /\ Below W.heap.size W w' from by exact zc4 slimD.notM 1 (zdl zal) v _ _ _ rfl ev3 e_f3 W h)
 have S4:=zh fun W v (h:TD W v ((prodM someD someD.notM fun p q => p && q).raw 1)) => (show Calls Tryz.prog 19 #[v] W (RetSm W ([],false,0)) from by have q:=zcq _ 1 (zec zaf (zdl zaf) _ ev4) v W h; rw [ev5] at q; exact q)
 have I1:=zh fun W v u (h:TD W v ((prodM someD slimD fun p q => p && q).raw 1)) (h2:TD W u (slimD.raw 1)) => (show Calls Tryz.prog 30 #[v,u] W (RetSm W ([],true,0)) from by have q:=zga _ _ 1 zid zal v u W h h2; rw [ev7] at q; exact q)
 have K1:=zh fun W v u (h:TD W v (someD.raw 1)) (h2:TD W u (slimD.raw 1)) => (show Calls Tryz.prog 76 #[v,u,.string { data:=#[40,48,32,40,48,32,45,32,45,41,32,40,49,32,45,32,45,41,41] }] W fun e w' => e = .returned (.bool true) /\ Below W.heap.size W w' from by exact zgh _ _ 1 zaf zal v u _ _ _ rfl ev8 e_f4 W h h2)
 have K2:=zh fun W v u (h:TD W v (slimD.raw 1)) (h2:TD W u (someD.raw 1)) => (show Calls Tryz.prog 76 #[v,u,.string { data:=#[45] }] W fun e w' => e = .returned (.bool true) /\ Below W.heap.size W w' from by exact zgh _ _ 1 zal zaf v u _ _ _ rfl ev9 e_f2 W h h2)
 have E1:=zh fun W v (h:TD W v (someD.raw 1)) => (show Calls Tryz.prog 16 #[v,.int .i64 0,.int .i64 64] W (RetR W ((zax someD 0).raw 1) 0) from by have q:=zi7 someD 1 0 64 zaf (by omega) (by omega) (by omega) v W h; rw [show exR someD 0 64 1 = ((zax someD 0).raw 1,0) from by unfold exR; rw [ev10]; rfl] at q; exact q)
 have E2:=zh fun W v (h:TD W v (someD.raw 1)) => (show Calls Tryz.prog 16 #[v,.int .i64 1,.int .i64 64] W (RetR W zeroR 7) from by exact zj7 someD 1 1 64 zaf (by omega) (by omega) v W h)
 have E3:=zh fun W v (h:TD W v (someD.raw 1)) => (show Calls Tryz.prog 16 #[v,.int .i64 0,.int .i64 0] W (RetR W zeroR 1) from by exact zmo someD 1 0 0 zaf (by omega) (by omega) v W h)
 have E4:=zh fun W v (h:TD W v (someD.raw 1)) => (show Calls Tryz.prog 16 #[v,.int .i64 0,.int .i64 1] W (RetR W zeroR 10) from by have q:=zi7 someD 1 0 1 zaf (by omega) (by omega) (by omega) v W h; rw [show exR someD 0 1 1 = (zeroR,10) from by unfold exR; rw [ev10]; rfl] at q; exact q)
 have Q1:=zh fun W v u (h:TD W v ((zax someD 0).raw 1)) (h2:TD W u wantR) => (show Calls Tryz.prog 18 #[v,u] W fun e w' => e = .returned (.bool true) /\ Below W.heap.size W w' from by have q:=zpa _ _ v u W h h2 (by rw [ev11]; exact ⟨by decide,by decide,by decide,by decide⟩); rw [ev11,zlr] at q; exact q)
 have C0:=zh fun W v (h:TD W v (someD.raw 1)) => (show Calls Tryz.prog 47 #[v,.int .i64 0,.int .u64 0] W fun e w' => e = .returned (.bool true) /\ Below W.heap.size W w' from by have q:=zdt someD 1 zaf v 0 (by omega) 0 W h; rw [ev12,show decide (((0 % M64:Nat):Int) = 0) = true from by decide] at q; exact q)
 have C1:=zh fun W v (h:TD W v (someD.raw 1)) => (show Calls Tryz.prog 47 #[v,.int .i64 1,.int .u64 1] W fun e w' => e = .returned (.bool true) /\ Below W.heap.size W w' from by have q:=zdt someD 1 zaf v 1 (by omega) 1 W h; rw [ev13,show decide (((1 % M64:Nat):Int) = 1) = true from by decide] at q; exact q)
 have C2:=zh fun W v (h:TD W v (someD.raw 1)) => (show Calls Tryz.prog 47 #[v,.int .i64 2,.int .u64 6] W fun e w' => e = .returned (.bool true) /\ Below W.heap.size W w' from by have q:=zdt someD 1 zaf v 2 (by omega) 6 W h; rw [ev14,show decide (((6 % M64:Nat):Int) = 6) = true from by decide] at q; exact q)
 have C3:=zh fun W v (h:TD W v (slimD.raw 1)) => (show Calls Tryz.prog 47 #[v,.int .i64 3,.int .u64 32] W fun e w' => e = .returned (.bool true) /\ Below W.heap.size W w' from by have q:=zdt slimD 1 zal v 3 (by omega) 32 W h; rw [ev15,show decide (((32 % M64:Nat):Int) = 32) = true from by decide] at q; exact q)
 go_enter Tryz.func28,Tryz.ntmps28
 go_upto_region 2 with (first
  | (go_at_call 38; refine (some_ok _).mono ?_; rintro e w1 ⟨Aa,Ba,rfl,hb,ht⟩; have HB1:=zh (show Below w.heap.size w w1 from hb); have T1:=zh ht; clear hb ht)
  | (go_at_call 39; refine (slim_ok _).mono ?_; rintro e w2 ⟨Ab,Bb,rfl,hb,ht⟩; have HB2:=zh (HB1.out.trans (hb.mono HB1.out.size)); have T1b:=zh (T1.out.below hb zn); have T2:=zh ht; clear hb ht))
 clear T1 HB1
 refine zab (fun W => ∃ ga gb,ga = w2.heap.size /\ gb = ga + 1 /\ Below w.heap.size w W /\ (∃ ia ja na ca ma da Aa' Ba',ia = 1 /\ ja = 0 /\ na = 2 /\ ca = 2 /\ ma = 2 /\ da = 2 /\ Aa' = some ⟨Aa,0,none⟩ /\ Ba' = some ⟨Ba,0,none⟩ /\ Box W ga ia ja na ca ma da Aa' Ba' (someD.raw 1)) /\ (∃ ia ja na ca ma da Aa' Ba',ia = 1 /\ ja = 0 /\ na = 3 /\ ca = 3 /\ ma = 3 /\ da = 3 /\ Aa' = some ⟨Ab,0,none⟩ /\ Ba' = some ⟨Bb,0,none⟩ /\ Box W gb ia ja na ca ma da Aa' Ba' (slimD.raw 1)))
  ⟨_,_,rfl,rfl,by have h1:=HB2.out; have h2:=h1.size; go_grown,⟨_,_,_,_,_,_,_,_,rfl,rfl,rfl,rfl,rfl,rfl,rfl,rfl,(Row.new _ _ _).alloc _,(T1b.out.below (Below.alloc (Below.refl _ _) zn _) zn).below (Below.alloc (Below.refl _ _) zn _) zn⟩,_,_,_,_,_,_,_,_,rfl,rfl,rfl,rfl,rfl,rfl,rfl,rfl,Row.lit (by simp),(T2.out.below (Below.alloc (Below.refl _ _) zn _) zn).below (Below.alloc (Below.refl _ _) zn _) zn⟩ ?_
 rintro W ⟨ga,gb,hga,hgb,hb,⟨ia,ja,na,ca,ma,da,Aa',Ba',h1,h2,h3,h4,h5,h6,h7,h8,ha⟩,⟨ib,jb,nb,cb,mb,db,Ab',Bb',k1,k2,k3,k4,k5,k6,k7,k8,hbb⟩⟩
 have q1:(1:Int) = ia:=h1.symm
 rw [<- hga,<- hgb]
 have HB:=zh hb; have Ha:=zh ha; have Hb:=zh hbb
 clear hb ha hbb hga hgb HB2 T1b T2 q1
 subst h1 h2 h3 h4 h5 h6 h7 h8 k1 k2 k3 k4 k5 k6 k7 k8
 have ya:=Ha.out.cell
 have yb:=Hb.out.cell
 go_upto_region 3 with (go_at_call 14; refine (NO1.out _ _ Ha.out.td).mono ?_; intro e wx hx; obtain ⟨ip,jp,np,cp,mp,dp,Ap,Bp,rfl,hb,ht⟩:=RetR.open (z:=0) rfl hx; have HX:=zh (show Below W.heap.size W wx from hb); have HT:=zh ht; clear hx hb ht)
 clear ya yb
 refine zab (fun X => Below w.heap.size w X /\ Box X ga 1 0 2 2 2 2 (some ⟨Aa,0,none⟩) (some ⟨Ba,0,none⟩) (someD.raw 1) /\ Box X gb 1 0 3 3 3 3 (some ⟨Ab,0,none⟩) (some ⟨Bb,0,none⟩) (slimD.raw 1) /\ ∃ g,g = wx.heap.size /\ Box X g ip jp np cp mp dp Ap Bp (someD.notM.raw 1)) ⟨HB.out.trans (((HX.out).alloc HX.out.size _).mono HB.out.size),Ha.out.to (HX.out.alloc HX.out.size _),Hb.out.to (HX.out.alloc HX.out.size _),_,rfl,Row.new _ _ _,HT.out.below (Below.alloc (Below.refl _ _) zn _) zn⟩ ?_
 clear HX HT
 rintro W1 ⟨hw,ha,hb,gp,hg,hp⟩
 rw [<- hg]
 replace HB:=zh hw; replace Ha:=zh ha; replace Hb:=zh hb; have Hp:=zh hp
 clear hw ha hb hp hg
 have ya:=Ha.out.cell
 have yb:=Hb.out.cell
 have yp:=Hp.out.cell
 go_upto_region 4 with (go_at_call 14; refine (NO2.out _ _ Hb.out.td).mono ?_; intro e wx hx; obtain ⟨iq,jq,nq,cq,mq,dq,Aq,Bq,rfl,hb,ht⟩:=RetR.open (z:=0) rfl hx; have HX:=zh (show Below W1.heap.size W1 wx from hb); have HT:=zh ht; clear hx hb ht)
 clear ya yb yp
 refine zab (fun X => Below w.heap.size w X /\ Box X ga 1 0 2 2 2 2 (some ⟨Aa,0,none⟩) (some ⟨Ba,0,none⟩) (someD.raw 1) /\ Box X gb 1 0 3 3 3 3 (some ⟨Ab,0,none⟩) (some ⟨Bb,0,none⟩) (slimD.raw 1) /\ Box X gp ip jp np cp mp dp Ap Bp (someD.notM.raw 1) /\ ∃ g,g = wx.heap.size /\ Box X g iq jq nq cq mq dq Aq Bq (slimD.notM.raw 1)) ⟨HB.out.trans (((HX.out).alloc HX.out.size _).mono HB.out.size),Ha.out.to (HX.out.alloc HX.out.size _),Hb.out.to (HX.out.alloc HX.out.size _),Hp.out.to (HX.out.alloc HX.out.size _),_,rfl,Row.new _ _ _,HT.out.below (Below.alloc (Below.refl _ _) zn _) zn⟩ ?_
 clear HX HT
 rintro W2 ⟨hw,ha,hb,hp,gq,hg,hq⟩
 rw [<- hg]
 replace HB:=zh hw; replace Ha:=zh ha; replace Hb:=zh hb; replace Hp:=zh hp; have Hq:=zh hq
 clear hw ha hb hp hq hg
 have ya:=Ha.out.cell
 have yb:=Hb.out.cell
 have yp:=Hp.out.cell
 have yq:=Hq.out.cell
 go_upto_region 5 with (go_at_call 31; refine (D1.out _ _ _ Ha.out.td Hp.out.td).mono ?_; intro e wx hx; obtain ⟨ie,je,ne,ce,me,de,Ae,Be,rfl,hb,ht⟩:=RetR.open (z:=0) rfl hx; have HX:=zh (show Below W2.heap.size W2 wx from hb); have HT:=zh ht; clear hx hb ht)
 clear ya yb yp yq
 refine zab (fun X => Below w.heap.size w X /\ Box X ga 1 0 2 2 2 2 (some ⟨Aa,0,none⟩) (some ⟨Ba,0,none⟩) (someD.raw 1) /\ Box X gb 1 0 3 3 3 3 (some ⟨Ab,0,none⟩) (some ⟨Bb,0,none⟩) (slimD.raw 1) /\ Box X gp ip jp np cp mp dp Ap Bp (someD.notM.raw 1) /\ Box X gq iq jq nq cq mq dq Aq Bq (slimD.notM.raw 1) /\ ∃ g,g = wx.heap.size /\ Box X g ie je ne ce me de Ae Be ((prodM someD someD.notM fun p q => p && q).raw 1)) ⟨HB.out.trans (((HX.out).alloc HX.out.size _).mono HB.out.size),Ha.out.to (HX.out.alloc HX.out.size _),Hb.out.to (HX.out.alloc HX.out.size _),Hp.out.to (HX.out.alloc HX.out.size _),Hq.out.to (HX.out.alloc HX.out.size _),_,rfl,Row.new _ _ _,HT.out.below (Below.alloc (Below.refl _ _) zn _) zn⟩ ?_
 clear HX HT
 rintro W3 ⟨hw,ha,hb,hp,hq,ge,hg,he⟩
 rw [<- hg]
 replace HB:=zh hw; replace Ha:=zh ha; replace Hb:=zh hb; replace Hp:=zh hp; replace Hq:=zh hq; have He:=zh he
 clear hw ha hb hp hq he hg
 clear Hp
 have ya:=Ha.out.cell
 have yb:=Hb.out.cell
 have yq:=Hq.out.cell
 have ye:=He.out.cell
 go_upto_region 6 with (go_at_call 31; refine (D2.out _ _ _ Ha.out.td Hb.out.td).mono ?_; intro e wx hx; obtain ⟨ik,jk,nk,ck,mk,dk,Ak,Bk,rfl,hb,ht⟩:=RetR.open (z:=0) rfl hx; have HX:=zh (show Below W3.heap.size W3 wx from hb); have HT:=zh ht; clear hx hb ht)
 clear ya yb yq ye
 refine zab (fun X => Below w.heap.size w X /\ Box X ga 1 0 2 2 2 2 (some ⟨Aa,0,none⟩) (some ⟨Ba,0,none⟩) (someD.raw 1) /\ Box X gb 1 0 3 3 3 3 (some ⟨Ab,0,none⟩) (some ⟨Bb,0,none⟩) (slimD.raw 1) /\ Box X gq iq jq nq cq mq dq Aq Bq (slimD.notM.raw 1) /\ Box X ge ie je ne ce me de Ae Be ((prodM someD someD.notM fun p q => p && q).raw 1) /\ ∃ g,g = wx.heap.size /\ Box X g ik jk nk ck mk dk Ak Bk ((prodM someD slimD fun p q => p && q).raw 1)) ⟨HB.out.trans (((HX.out).alloc HX.out.size _).mono HB.out.size),Ha.out.to (HX.out.alloc HX.out.size _),Hb.out.to (HX.out.alloc HX.out.size _),Hq.out.to (HX.out.alloc HX.out.size _),He.out.to (HX.out.alloc HX.out.size _),_,rfl,Row.new _ _ _,HT.out.below (Below.alloc (Below.refl _ _) zn _) zn⟩ ?_
 clear HX HT
 rintro W4 ⟨hw,ha,hb,hq,he,gk,hg,hk⟩
 rw [<- hg]
 replace HB:=zh hw; replace Ha:=zh ha; replace Hb:=zh hb; replace Hq:=zh hq; replace He:=zh he; have Hk:=zh hk
 clear hw ha hb hq he hk hg
 have ya:=Ha.out.cell
 have yb:=Hb.out.cell
 have yq:=Hq.out.cell
 have ye:=He.out.cell
 have yk:=Hk.out.cell
 go_upto_region 8 with (first
  | (go_at_call 75; (with_reducible refine (S1.out _ _ Ha.out.td).mono ?_); rintro e w0 ⟨rfl,hb⟩; replace HB:=zh (HB.out.trans (hb.mono HB.out.size)); replace Ha:=zh (Ha.out.to hb); replace Hb:=zh (Hb.out.to hb); replace Hq:=zh (Hq.out.to hb); replace He:=zh (He.out.to hb); replace Hk:=zh (Hk.out.to hb); clear ya; have ya:=Ha.out.cell; clear yb; have yb:=Hb.out.cell; clear yq; have yq:=Hq.out.cell; clear ye; have ye:=He.out.cell; clear yk; have yk:=Hk.out.cell; clear hb)
  | (go_at_call 75; (with_reducible refine (S2.out _ _ Hb.out.td).mono ?_); rintro e w1 ⟨rfl,hb⟩; replace HB:=zh (HB.out.trans (hb.mono HB.out.size)); replace Ha:=zh (Ha.out.to hb); replace Hb:=zh (Hb.out.to hb); replace Hq:=zh (Hq.out.to hb); replace He:=zh (He.out.to hb); replace Hk:=zh (Hk.out.to hb); clear ya; have ya:=Ha.out.cell; clear yb; have yb:=Hb.out.cell; clear yq; have yq:=Hq.out.cell; clear ye; have ye:=He.out.cell; clear yk; have yk:=Hk.out.cell; clear hb)
  | (go_at_call 75; (with_reducible refine (S3.out _ _ Hq.out.td).mono ?_); rintro e w2 ⟨rfl,hb⟩; replace HB:=zh (HB.out.trans (hb.mono HB.out.size)); replace Ha:=zh (Ha.out.to hb); replace Hb:=zh (Hb.out.to hb); replace Hq:=zh (Hq.out.to hb); replace He:=zh (He.out.to hb); replace Hk:=zh (Hk.out.to hb); clear ya; have ya:=Ha.out.cell; clear yb; have yb:=Hb.out.cell; clear yq; have yq:=Hq.out.cell; clear ye; have ye:=He.out.cell; clear yk; have yk:=Hk.out.cell; clear hb))
 clear ya yb yq ye yk
 clear Hq
 have ya:=Ha.out.cell
 have yb:=Hb.out.cell
 have ye:=He.out.cell
 have yk:=Hk.out.cell
 go_upto_region 9 with (first
  | (go_at_call 19; (with_reducible refine (S4.out _ _ He.out.td).mono ?_); intro e w8 hx; obtain ⟨A8,c8,rfl,hb⟩:=RetSm.open (z:=0) rfl hx; clear hx; replace HB:=zh (HB.out.trans (hb.mono HB.out.size)); replace Ha:=zh (Ha.out.to hb); replace Hb:=zh (Hb.out.to hb); replace He:=zh (He.out.to hb); replace Hk:=zh (Hk.out.to hb); clear ya; have ya:=Ha.out.cell; clear yb; have yb:=Hb.out.cell; clear ye; have ye:=He.out.cell; clear yk; have yk:=Hk.out.cell; clear hb))
 clear ya yb ye yk
 clear He
 have ya:=Ha.out.cell
 have yb:=Hb.out.cell
 have yk:=Hk.out.cell
 go_upto_region 10 with (first
  | (go_at_call 30; (with_reducible refine (I1.out _ _ _ Hk.out.td Hb.out.td).mono ?_); intro e w9 hx; obtain ⟨A9,c9,rfl,hb⟩:=RetSm.open (z:=0) rfl hx; clear hx; replace HB:=zh (HB.out.trans (hb.mono HB.out.size)); replace Ha:=zh (Ha.out.to hb); replace Hb:=zh (Hb.out.to hb); replace Hk:=zh (Hk.out.to hb); clear ya; have ya:=Ha.out.cell; clear yb; have yb:=Hb.out.cell; clear yk; have yk:=Hk.out.cell; clear hb))
 clear ya yb yk
 clear Hk
 have ya:=Ha.out.cell
 have yb:=Hb.out.cell
 try simp only [List.length_nil]
 go_upto_region 12 with (first
  | (go_at_call 76; (with_reducible refine (K1.out _ _ _ Ha.out.td Hb.out.td).mono ?_); rintro e w10 ⟨rfl,hb⟩; replace HB:=zh (HB.out.trans (hb.mono HB.out.size)); replace Ha:=zh (Ha.out.to hb); replace Hb:=zh (Hb.out.to hb); clear ya; have ya:=Ha.out.cell; clear yb; have yb:=Hb.out.cell; clear hb)
  | (go_at_call 76; (with_reducible refine (K2.out _ _ _ Hb.out.td Ha.out.td).mono ?_); rintro e w11 ⟨rfl,hb⟩; replace HB:=zh (HB.out.trans (hb.mono HB.out.size)); replace Ha:=zh (Ha.out.to hb); replace Hb:=zh (Hb.out.to hb); clear ya; have ya:=Ha.out.cell; clear yb; have yb:=Hb.out.cell; clear hb))
 clear ya yb
 refine zab (fun X => X = w11) rfl ?_
 rintro W6 rfl
 have ya:=Ha.out.cell
 have yb:=Hb.out.cell
 go_upto_region 13 with (go_at_call 16; refine (E1.out _ _ Ha.out.td).mono ?_; intro e wx hx; obtain ⟨ix,jx,nx,cx,mx,dx,Ax,Bx,rfl,hb,ht⟩:=RetR.open (z:=0) rfl hx; have HX:=zh (show Below W6.heap.size W6 wx from hb); have HT:=zh ht; clear hx hb ht)
 clear ya yb
 refine zab (fun X => Below w.heap.size w X /\ Box X ga 1 0 2 2 2 2 (some ⟨Aa,0,none⟩) (some ⟨Ba,0,none⟩) (someD.raw 1) /\ Box X gb 1 0 3 3 3 3 (some ⟨Ab,0,none⟩) (some ⟨Bb,0,none⟩) (slimD.raw 1) /\ ∃ g,g = wx.heap.size /\ Box X g ix jx nx cx mx dx Ax Bx ((zax someD 0).raw 1)) ⟨HB.out.trans (((HX.out).alloc HX.out.size _).mono HB.out.size),Ha.out.to (HX.out.alloc HX.out.size _),Hb.out.to (HX.out.alloc HX.out.size _),_,rfl,Row.new _ _ _,HT.out.below (Below.alloc (Below.refl _ _) zn _) zn⟩ ?_
 clear HX HT
 rintro W7 ⟨hw,ha,hb,gx,hg,hx⟩
 rw [<- hg]
 replace HB:=zh hw; replace Ha:=zh ha; replace Hb:=zh hb; have Hx:=zh hx
 clear hw ha hb hx hg
 have ya:=Ha.out.cell
 have yb:=Hb.out.cell
 have yx:=Hx.out.cell
 go_upto_region 14 with (go_at_call 16; refine (E2.out _ _ Ha.out.td).mono ?_; intro e wx hx; obtain ⟨iy,jy,ny,cy,my,dy,Ay,By,rfl,hb,ht⟩:=RetR.open (z:=7) rfl hx; have HX:=zh (show Below W7.heap.size W7 wx from hb); have HT:=zh ht; clear hx hb ht)
 clear ya yb yx
 refine zab (fun X => Below w.heap.size w X /\ Box X ga 1 0 2 2 2 2 (some ⟨Aa,0,none⟩) (some ⟨Ba,0,none⟩) (someD.raw 1) /\ Box X gb 1 0 3 3 3 3 (some ⟨Ab,0,none⟩) (some ⟨Bb,0,none⟩) (slimD.raw 1) /\ Box X gx ix jx nx cx mx dx Ax Bx ((zax someD 0).raw 1)) ⟨HB.out.trans (((HX.out).alloc HX.out.size _).mono HB.out.size),Ha.out.to (HX.out.alloc HX.out.size _),Hb.out.to (HX.out.alloc HX.out.size _),Hx.out.to (HX.out.alloc HX.out.size _)⟩ ?_
 clear HX HT
 rintro W8 ⟨hw,ha,hb,hx⟩
 replace HB:=zh hw; replace Ha:=zh ha; replace Hb:=zh hb; replace Hx:=zh hx
 clear hw ha hb hx
 have ya:=Ha.out.cell
 have yb:=Hb.out.cell
 have yx:=Hx.out.cell
 go_upto_region 15 with (go_at_call 16; refine (E3.out _ _ Ha.out.td).mono ?_; intro e wx hx; obtain ⟨iy,jy,ny,cy,my,dy,Ay,By,rfl,hb,ht⟩:=RetR.open (z:=1) rfl hx; have HX:=zh (show Below W8.heap.size W8 wx from hb); have HT:=zh ht; clear hx hb ht)
 clear ya yb yx
 refine zab (fun X => Below w.heap.size w X /\ Box X ga 1 0 2 2 2 2 (some ⟨Aa,0,none⟩) (some ⟨Ba,0,none⟩) (someD.raw 1) /\ Box X gb 1 0 3 3 3 3 (some ⟨Ab,0,none⟩) (some ⟨Bb,0,none⟩) (slimD.raw 1) /\ Box X gx ix jx nx cx mx dx Ax Bx ((zax someD 0).raw 1)) ⟨HB.out.trans (((HX.out).alloc HX.out.size _).mono HB.out.size),Ha.out.to (HX.out.alloc HX.out.size _),Hb.out.to (HX.out.alloc HX.out.size _),Hx.out.to (HX.out.alloc HX.out.size _)⟩ ?_
 clear HX HT
 rintro W9 ⟨hw,ha,hb,hx⟩
 replace HB:=zh hw; replace Ha:=zh ha; replace Hb:=zh hb; replace Hx:=zh hx
 clear hw ha hb hx
 have ya:=Ha.out.cell
 have yb:=Hb.out.cell
 have yx:=Hx.out.cell
 go_upto_region 16 with (go_at_call 16; refine (E4.out _ _ Ha.out.td).mono ?_; intro e wx hx; obtain ⟨iy,jy,ny,cy,my,dy,Ay,By,rfl,hb,ht⟩:=RetR.open (z:=10) rfl hx; have HX:=zh (show Below W9.heap.size W9 wx from hb); have HT:=zh ht; clear hx hb ht)
 clear ya yb yx
 refine zab (fun X => Below w.heap.size w X /\ Box X ga 1 0 2 2 2 2 (some ⟨Aa,0,none⟩) (some ⟨Ba,0,none⟩) (someD.raw 1) /\ Box X gb 1 0 3 3 3 3 (some ⟨Ab,0,none⟩) (some ⟨Bb,0,none⟩) (slimD.raw 1) /\ Box X gx ix jx nx cx mx dx Ax Bx ((zax someD 0).raw 1)) ⟨HB.out.trans (((HX.out).alloc HX.out.size _).mono HB.out.size),Ha.out.to (HX.out.alloc HX.out.size _),Hb.out.to (HX.out.alloc HX.out.size _),Hx.out.to (HX.out.alloc HX.out.size _)⟩ ?_
 clear HX HT
 rintro W10 ⟨hw,ha,hb,hx⟩
 replace HB:=zh hw; replace Ha:=zh ha; replace Hb:=zh hb; replace Hx:=zh hx
 clear hw ha hb hx
 go_upto_region 17 with fail
 refine zab (fun X => ∃ g h gu,g = W10.heap.size + 7 /\ h = W10.heap.size /\ gu = W10.heap.size + 1 + 1 + 1 + 1 + 1 + 1 + 1 + 1 /\ Below w.heap.size w X /\ Box X ga 1 0 2 2 2 2 (some ⟨Aa,0,none⟩) (some ⟨Ba,0,none⟩) (someD.raw 1) /\ Box X gb 1 0 3 3 3 3 (some ⟨Ab,0,none⟩) (some ⟨Bb,0,none⟩) (slimD.raw 1) /\ Box X gx ix jx nx cx mx dx Ax Bx ((zax someD 0).raw 1) /\ Box X gu 1 0 2 2 2 2 (some ⟨g,0,none⟩) (some ⟨h,0,none⟩) wantR)
  ⟨_,_,_,rfl,rfl,rfl,by have h1:=HB.out; have h2:=h1.size; go_grown,Ha.out.to (by go_grown),Hb.out.to (by go_grown),Hx.out.to (by go_grown),by (repeat (first | (refine Row.lit ?_; simp only [World.size_alloc] <;> omega) | apply Row.alloc)),_,_,rfl,N3.row (n:=2) (vs:=[_,_]) (by (repeat (first | (refine Row.lit ?_; simp only [World.size_alloc] <;> omega) | apply Row.alloc))) rfl (by omega) rfl (zdr (N2.row (n:=2) (vs:=[_,_]) (by (repeat (first | (refine Row.lit ?_; simp only [World.size_alloc] <;> omega) | apply Row.alloc))) rfl (by omega) rfl (zdr (N1.row (n:=2) (by (repeat (first | (refine Row.lit ?_; simp only [World.size_alloc] <;> omega) | apply Row.alloc))) rfl rfl (by omega)) (N1.row (n:=2) (by (repeat (first | (refine Row.lit ?_; simp only [World.size_alloc] <;> omega) | apply Row.alloc))) rfl rfl (by omega)))) (N2.row (n:=2) (vs:=[_,_]) (by (repeat (first | (refine Row.lit ?_; simp only [World.size_alloc] <;> omega) | apply Row.alloc))) rfl (by omega) rfl (zdr (N1.row (n:=2) (by (repeat (first | (refine Row.lit ?_; simp only [World.size_alloc] <;> omega) | apply Row.alloc))) rfl rfl (by omega)) (N1.row (n:=2) (by (repeat (first | (refine Row.lit ?_; simp only [World.size_alloc] <;> omega) | apply Row.alloc))) rfl rfl (by omega))))),NB.row (by (repeat (first | (refine Row.lit ?_; simp only [World.size_alloc] <;> omega) | apply Row.alloc))) rfl rfl (by omega)⟩ ?_
 rintro X ⟨g,h,gu,hg,hh,hgu,hw,ha,hb,hx,hu⟩
 rw [<- hgu]
 clear hg hh hgu
 replace HB:=zh hw; replace Ha:=zh ha; replace Hb:=zh hb; replace Hx:=zh hx; have Hu:=zh hu
 clear hw ha hb hx hu
 have ya:=Ha.out.cell
 have yb:=Hb.out.cell
 have yx:=Hx.out.cell
 have yu:=Hu.out.cell
 go_upto_region 18 with (first
  | (go_at_call 18; (with_reducible refine (Q1.out _ _ _ Hx.out.td Hu.out.td).mono ?_); rintro e w20 ⟨rfl,hb⟩; replace HB:=zh (HB.out.trans (hb.mono HB.out.size)); replace Ha:=zh (Ha.out.to hb); replace Hb:=zh (Hb.out.to hb); replace Hx:=zh (Hx.out.to hb); replace Hu:=zh (Hu.out.to hb); clear ya; have ya:=Ha.out.cell; clear yb; have yb:=Hb.out.cell; clear yx; have yx:=Hx.out.cell; clear yu; have yu:=Hu.out.cell; clear hb)
  | (go_at_call 47; (with_reducible refine (C0.out _ _ Ha.out.td).mono ?_); rintro e w21 ⟨rfl,hb⟩; replace HB:=zh (HB.out.trans (hb.mono HB.out.size)); replace Ha:=zh (Ha.out.to hb); replace Hb:=zh (Hb.out.to hb); replace Hx:=zh (Hx.out.to hb); replace Hu:=zh (Hu.out.to hb); clear ya; have ya:=Ha.out.cell; clear yb; have yb:=Hb.out.cell; clear yx; have yx:=Hx.out.cell; clear yu; have yu:=Hu.out.cell; clear hb)
  | (go_at_call 47; (with_reducible refine (C1.out _ _ Ha.out.td).mono ?_); rintro e w22 ⟨rfl,hb⟩; replace HB:=zh (HB.out.trans (hb.mono HB.out.size)); replace Ha:=zh (Ha.out.to hb); replace Hb:=zh (Hb.out.to hb); replace Hx:=zh (Hx.out.to hb); replace Hu:=zh (Hu.out.to hb); clear ya; have ya:=Ha.out.cell; clear yb; have yb:=Hb.out.cell; clear yx; have yx:=Hx.out.cell; clear yu; have yu:=Hu.out.cell; clear hb)
  | (go_at_call 47; (with_reducible refine (C2.out _ _ Ha.out.td).mono ?_); rintro e w23 ⟨rfl,hb⟩; replace HB:=zh (HB.out.trans (hb.mono HB.out.size)); replace Ha:=zh (Ha.out.to hb); replace Hb:=zh (Hb.out.to hb); replace Hx:=zh (Hx.out.to hb); replace Hu:=zh (Hu.out.to hb); clear ya; have ya:=Ha.out.cell; clear yb; have yb:=Hb.out.cell; clear yx; have yx:=Hx.out.cell; clear yu; have yu:=Hu.out.cell; clear hb)
  | (go_at_call 47; (with_reducible refine (C3.out _ _ Hb.out.td).mono ?_); rintro e w24 ⟨rfl,hb⟩; replace HB:=zh (HB.out.trans (hb.mono HB.out.size)); replace Ha:=zh (Ha.out.to hb); replace Hb:=zh (Hb.out.to hb); replace Hx:=zh (Hx.out.to hb); replace Hu:=zh (Hu.out.to hb); clear ya; have ya:=Ha.out.cell; clear yb; have yb:=Hb.out.cell; clear yx; have yx:=Hx.out.cell; clear yu; have yu:=Hu.out.cell; clear hb))
 go_returns
 exact ⟨rfl,HB.out⟩
end Go.Proofs.YthkfjnmnoanhlaaGreatDoor
