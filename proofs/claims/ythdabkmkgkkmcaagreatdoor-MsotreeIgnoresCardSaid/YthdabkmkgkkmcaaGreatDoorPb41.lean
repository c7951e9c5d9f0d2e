/- Part 41 of the proof; it says: lemmas and contracts. No conditions but those that each theorem states. -/
import Derived.Deep.RegionHeld3
import Derived.Test.YthdabkmkgkkmcaaGreatDoorPb01
import Derived.Test.YthdabkmkgkkmcaaGreatDoorPb26
import Derived.Test.YthdabkmkgkkmcaaGreatDoorPb27
import Derived.Test.YthdabkmkgkkmcaaGreatDoorPb28
import Derived.Test.YthdabkmkgkkmcaaGreatDoorPb39
import Derived.Test.YthdabkmkgkkmcaaGreatDoorPb40
set_option linter.unusedSimpArgs false
set_option linter.unusedVariables false
set_option maxRecDepth 100000
set_option maxHeartbeats 32000000
namespace Go.Proofs.YthdabkmkgkkmcaaGreatDoor
open Go.RowKit
theorem zqo {w W:World} (h:Below w.drew.heap.size w.drew W):Below w.heap.size w W:=⟨h.os,h.tape,h.output,h.size,h.block⟩
theorem drewU {w:World}:Hid (Below w.heap.size w w.drew):=(⟨rfl,rfl,rfl,zn,fun _ _ => rfl⟩:Below w.heap.size w w.drew)
theorem zi8 {α:Type} (f:List α) (n k:Nat) (hn:n = f.length):f.take (min (n:Int) (k:Int)).toNat = f.take k:=by
 by_cases h:n <= k
 ·rw [List.take_of_length_le (by omega),List.take_of_length_le (by omega)]
 ·rw [show (min (n:Int) (k:Int)).toNat = k by omega]
theorem zhz {w a b c:World} (h:Below w.heap.size w a) (h1:Below a.heap.size a b) (h2:Below b.heap.size b c):Below w.heap.size w c:=h.trans ((h1.trans (h2.mono h1.size)).mono h.size)
structure Bx (W:World) (b:Nat) (cs:Array Value) (R:Raw):Prop where
 row:Row W b 30 cs
 td:TD W (.agg cs) R
theorem Bx.below {W W':World} {b:Nat} {cs:Array Value} {R:Raw} (h:Bx W b cs R) (hb:Below W.heap.size W W'):Bx W' b cs R:=⟨h.row.below hb h.row.lt,h.td.below hb zn⟩
theorem MS.on {W W':World} {v:Value} {f:List Mk} (h:MS W v f) (hb:Below W.heap.size W W'):MS W' v f:=h.below hb zn
structure BoolF (x y:List Mk) (f1 f2 f3 f4:List Mk) (Ra Rb Rn Rr Ro:Raw) (kr ko:Nat):Prop where
 not1:wrapS x ⟨9,0,0,0,0⟩ = (f1,0)
 not2:wrapS f1 ⟨9,0,0,0,0⟩ = (f2,0)
 and:joinS 10 x y = (f3,0)
 or:joinS 11 x y = (f4,0)
 cx:compS x 3 64 = (Ra,0)
 cy:compS y 3 64 = (Rb,0)
 c1:compS f1 3 64 = (Rn,0)
 c2:compS f2 3 64 = (Ra,0)
 c3:compS f3 3 64 = (Rr,(kr:Int))
 c4:compS f4 3 64 = (Ro,(ko:Int))
 tn:∀ va W,TD W va Ra -> Calls Tryz.prog 21 #[va] W (RetR W Rn 0)
 ta:∀ va vb W,TD W va Ra -> TD W vb Rb -> Calls Tryz.prog 22 #[va,vb] W (RetR W Rr kr)
 tor:∀ va vb W,TD W va Ra -> TD W vb Rb -> Calls Tryz.prog 23 #[va,vb] W (RetR W Ro ko)
 la:Ra.Low
 ln:Rn.Low
 lr:Rr.Low
 lo:Ro.Low
theorem zmc:zeroR.Low:=⟨by simp [zeroR],fun x hx => by simp [zeroR] at hx,fun x hx => by simp [zeroR] at hx,by simp [zeroR]⟩
theorem zn8 {V:Nat} {o:Option Dta} (h:∀ d,o = some d -> d.Fit V):(Res V o).1.Low:=by
 cases o with
 | none => exact zmc
 | some d => exact (h d rfl).low
theorem zr2 {x y:List Mk} {a b:Dta} (h:BoolL x y a b):∃ f1 f2 f3 f4 Ra Rb Rn Rr Ro kr ko,BoolF x y f1 f2 f3 f4 Ra Rb Rn Rr Ro kr ko:=by
 obtain ⟨f1,f2,n1,n2,n3,n4⟩:=h.not
 obtain ⟨f3,a1,a2⟩:=h.and
 obtain ⟨f4,o1,o2⟩:=h.or
 refine ⟨f1,f2,f3,f4,a.raw 3,b.raw 3,a.notM.raw 3,_,_,_,_,n1,n3,a1,o1,h.ea,h.eb,n2,n4,a2,o2,fun va W ht => zot a 3 h.fa va W ht,fun va vb W h1 h2 => And_ok a b 3 h.fa h.fb va vb W h1 h2,fun va vb W h1 h2 => Or_ok a b 3 h.fa h.fb va vb W h1 h2,h.fa.low,(zbt h.fa).low,?_,?_⟩
 ·rw [zdp]; exact zn8 fun d hd => zbz h.fa h.fb hd
 ·rw [zdp]; exact zn8 fun d hd => zbz h.fa h.fb hd
theorem bool21 (f g:List Mk) (v u:Value) (w:World) (hv:MS w v f) (hu:MS w u g) :
  Calls Tryz.prog 6 #[v,u] w fun e w' => e = .returned (.bool true) /\ Below w.heap.size w w':=by
 have HV:=zh hv; have HU:=zh hu
 obtain ⟨_,A,c,rfl,hc1,hc2,_⟩:=hv
 obtain ⟨_,A2,d,rfl,hd1,hd2,_⟩:=hu
 obtain ⟨n,hn⟩:=zx f.length
 obtain ⟨k,hk⟩:=zx g.length
 rw [<- hn] at hc1 HV ⊢
 rw [<- hk] at hd1 HU ⊢
 obtain ⟨x,hx⟩:=zx (f.take 9)
 obtain ⟨y,hy⟩:=zx (g.take 9)
 have hlx:x.length <= 9:=by rw [hx,List.length_take]; omega
 have hly:y.length <= 9:=by rw [hy,List.length_take]; omega
 have hcf:=fun W (hW:MS W (.slice A n c) f) => zlu (f.take (min (n:Int) 9).toNat) _ W (hW.cut (min (n:Int) 9).toNat (by omega) A (fun _ => rfl)) (by rw [List.length_take]; omega)
 rw [show (9:Int) = ((9:Nat):Int) from rfl,zi8 f n 9 hn,<- hx] at hcf
 have hcg:=fun W (hW:MS W (.slice A2 k d) g) => zlu (g.take (min (k:Int) 9).toNat) _ W (hW.cut (min (k:Int) 9).toNat (by omega) A2 (fun _ => rfl)) (by rw [List.length_take]; omega)
 rw [show (9:Int) = ((9:Nat):Int) from rfl,zi8 g k 9 hk,<- hy] at hcg
 have HCF:=zh hcf; have HCG:=zh hcg; have HLX:=zh hlx; have HLY:=zh hly
 have j1:(0:Int) <= min (n:Int) 9:=by omega
 have j2:min (n:Int) 9 <= (c:Int):=by omega
 have j3:(0:Int) <= min (k:Int) 9:=by omega
 have j4:min (k:Int) 9 <= (d:Int):=by omega
 have j5:(min (n:Int) 9).toNat <= c:=by omega
 have j6:(min (k:Int) 9).toNat <= d:=by omega
 clear hcf hcg hlx hly hn hk hx hy
 go_enter Tryz.func6,Tryz.ntmps6
 go_upto_region 1 with (fail)
 go_cut [5,6] from 33 to 44 (fun u1 u2 wx => MS wx u1 x /\ MS wx u2 y /\ Below w.heap.size w wx)
 case first =>
  first
  | go_region_held3 (fun W => True) (trivial) (first
   | (go_at_call 10; refine (HCF.out _ (HV.out.below drewU.out zn)).mono ?_; rintro e w2 ⟨v2,rfl,hb,ho⟩; have HB2:=zh (zqo hb); have H7:=zh ho.ms; clear hb ho)
   | (go_at_call 10; refine (HCG.out _ (HU.out.below HB2.out zn)).mono ?_; rintro e w3 ⟨v3,rfl,hb,ho⟩; have HB3:=zh (HB2.out.trans (hb.mono HB2.out.size)); have H8:=zh ho.ms; replace H7:=zh (H7.out.below hb zn); clear hb ho))
  | fail
  all_goals
   go_wp2_with fail
   go_meet
   exact ⟨H7.out,H8.out,HB3.out⟩
 case rest =>
  obtain ⟨h7,h8,hb⟩:=hcut
  rename_i wc
  have HX:=zh h7; have HY:=zh h8; have HB:=zh hb
  clear h7 h8 hb HCF HCG j1 j2 j3 j4 j5 j6 HV HU
  have hca:=fun (F:List Mk) v W (h:MS W v F) => zax F v 3 64 W h
  by_cases hok:(compS x 3 64).2 = 0 /\ (compS y 3 64).2 = 0
  ·obtain ⟨a,b,hl⟩:=zr1 hok.1 hok.2 HLX.out HLY.out
   obtain ⟨f1,f2,f3,f4,Ra,Rb,Rn,Rr,Ro,kr,ko,hF⟩:=zr2 hl
   have HF:=zh hF
   clear hl hF hok
   have CX:=zh fun v W (h:MS W v x) => (show Calls Tryz.prog 11 #[v,.int .i64 3,.int .i64 64] W (RetC W (Ra,0)) from by have q:=hca x v W h; rw [HF.out.cx] at q; exact q)
   have CY:=zh fun v W (h:MS W v y) => (show Calls Tryz.prog 11 #[v,.int .i64 3,.int .i64 64] W (RetC W (Rb,0)) from by have q:=hca y v W h; rw [HF.out.cy] at q; exact q)
   have C1:=zh fun v W (h:MS W v f1) => (show Calls Tryz.prog 11 #[v,.int .i64 3,.int .i64 64] W (RetC W (Rn,0)) from by have q:=hca f1 v W h; rw [HF.out.c1] at q; exact q)
   have C2:=zh fun v W (h:MS W v f2) => (show Calls Tryz.prog 11 #[v,.int .i64 3,.int .i64 64] W (RetC W (Ra,0)) from by have q:=hca f2 v W h; rw [HF.out.c2] at q; exact q)
   have C3:=zh fun v W (h:MS W v f3) => (show Calls Tryz.prog 11 #[v,.int .i64 3,.int .i64 64] W (RetC W (Rr,(kr:Int))) from by have q:=hca f3 v W h; rw [HF.out.c3] at q; exact q)
   have C4:=zh fun v W (h:MS W v f4) => (show Calls Tryz.prog 11 #[v,.int .i64 3,.int .i64 64] W (RetC W (Ro,(ko:Int))) from by have q:=hca f4 v W h; rw [HF.out.c4] at q; exact q)
   have N1:=zh fun v W (h:MS W v x) => (show Calls Tryz.prog 19 #[v] W (RetFE W f1 0) from by have q:=zql x v W h; rw [HF.out.not1] at q; exact q)
   have N2:=zh fun v W (h:MS W v f1) => (show Calls Tryz.prog 19 #[v] W (RetFE W f2 0) from by have q:=zql f1 v W h; rw [HF.out.not2] at q; exact q)
   have J1:=zh fun v u W (h:MS W v x) (h2:MS W u y) => (show Calls Tryz.prog 20 #[.int .u8 10,v,u] W (RetFE W f3 0) from by have q:=zmb 10 x y v u W h h2 (by decide) (by decide); rw [HF.out.and] at q; exact q)
   have J2:=zh fun v u W (h:MS W v x) (h2:MS W u y) => (show Calls Tryz.prog 20 #[.int .u8 11,v,u] W (RetFE W f4 0) from by have q:=zmb 11 x y v u W h h2 (by decide) (by decide); rw [HF.out.or] at q; exact q)
   clear hca
   go_upto_region 3 with (go_at_call 11; go_must (refine (CX.out _ _ HX.out).mono ?_; rintro e wc3 ⟨A3,n3,c3,B3,m3,d3,rfl,hb,ht⟩; have HN:=zh hb; have HT:=zh ht.td; clear hb ht))
   refine zaa (fun W => Below w.heap.size w W /\ MS W u5 x /\ MS W u6 y /\ Bx W wc3.heap.size #[.int .i64 Ra.vars,.int .i64 Ra.empty,.slice A3 n3 c3,.slice B3 m3 d3] Ra) ⟨HB.out.trans (((HN.out.alloc HN.out.size _)).mono HB.out.size),HX.out.on ((HN.out.alloc HN.out.size _)),HY.out.on ((HN.out.alloc HN.out.size _)),⟨Row.new _ _ _,HT.out.below (Below.alloc (Below.refl _ _) zn _) zn⟩⟩ ?_
   clear HB HX HY
   rintro Y1 ⟨hB,hX,hY,hb7⟩
   have HB:=zh hB; have HX:=zh hX; have HY:=zh hY; have Hb7:=zh hb7
   clear hB hX hY hb7
   clear HN HT
   go_upto_region 4 with (go_at_call 11; go_must (refine (CY.out _ _ HY.out).mono ?_; rintro e wc4 ⟨A4,n4,c4,B4,m4,d4,rfl,hb,ht⟩; have HN:=zh hb; have HT:=zh ht.td; clear hb ht))
   refine zaa (fun W => Below w.heap.size w W /\ MS W u5 x /\ MS W u6 y /\ Bx W wc3.heap.size #[.int .i64 Ra.vars,.int .i64 Ra.empty,.slice A3 n3 c3,.slice B3 m3 d3] Ra /\ Bx W wc4.heap.size #[.int .i64 Rb.vars,.int .i64 Rb.empty,.slice A4 n4 c4,.slice B4 m4 d4] Rb) ⟨HB.out.trans (((HN.out.alloc HN.out.size _)).mono HB.out.size),HX.out.on ((HN.out.alloc HN.out.size _)),HY.out.on ((HN.out.alloc HN.out.size _)),Hb7.out.below ((HN.out.alloc HN.out.size _)),⟨Row.new _ _ _,HT.out.below (Below.alloc (Below.refl _ _) zn _) zn⟩⟩ ?_
   clear HB HX HY Hb7
   rintro Y2 ⟨hB,hX,hY,hb7,hb9⟩
   have HB:=zh hB; have HX:=zh hX; have HY:=zh hY; have Hb7:=zh hb7; have Hb9:=zh hb9
   clear hB hX hY hb7 hb9
   clear HN HT
   go_upto_region 7 with (go_at_call 19; go_must (refine (N1.out _ _ HX.out).mono ?_; rintro e wm7 ⟨p7,rfl,hb,ht⟩; have HN:=zh hb; have HT:=zh ht.ms; clear hb ht))
   refine zaa (fun W => Below w.heap.size w W /\ MS W u5 x /\ MS W u6 y /\ MS W p7 f1 /\ Bx W wc3.heap.size #[.int .i64 Ra.vars,.int .i64 Ra.empty,.slice A3 n3 c3,.slice B3 m3 d3] Ra /\ Bx W wc4.heap.size #[.int .i64 Rb.vars,.int .i64 Rb.empty,.slice A4 n4 c4,.slice B4 m4 d4] Rb) ⟨HB.out.trans ((HN.out).mono HB.out.size),HX.out.on (HN.out),HY.out.on (HN.out),HT.out,Hb7.out.below (HN.out),Hb9.out.below (HN.out)⟩ ?_
   clear HB HX HY Hb7 Hb9
   rintro Y3 ⟨hB,hX,hY,hM1,hb7,hb9⟩
   have HB:=zh hB; have HX:=zh hX; have HY:=zh hY; have HM1:=zh hM1; have Hb7:=zh hb7; have Hb9:=zh hb9
   clear hB hX hY hM1 hb7 hb9
   clear HN HT
   go_upto_region 8 with (go_at_call 19; go_must (refine (N2.out _ _ HM1.out).mono ?_; rintro e wm8 ⟨p8,rfl,hb,ht⟩; have HN:=zh hb; have HT:=zh ht.ms; clear hb ht))
   refine zaa (fun W => Below w.heap.size w W /\ MS W u5 x /\ MS W u6 y /\ MS W p7 f1 /\ MS W p8 f2 /\ Bx W wc3.heap.size #[.int .i64 Ra.vars,.int .i64 Ra.empty,.slice A3 n3 c3,.slice B3 m3 d3] Ra /\ Bx W wc4.heap.size #[.int .i64 Rb.vars,.int .i64 Rb.empty,.slice A4 n4 c4,.slice B4 m4 d4] Rb) ⟨HB.out.trans ((HN.out).mono HB.out.size),HX.out.on (HN.out),HY.out.on (HN.out),HM1.out.on (HN.out),HT.out,Hb7.out.below (HN.out),Hb9.out.below (HN.out)⟩ ?_
   clear HB HX HY HM1 Hb7 Hb9
   rintro Y4 ⟨hB,hX,hY,hM1,hM2,hb7,hb9⟩
   have HB:=zh hB; have HX:=zh hX; have HY:=zh hY; have HM1:=zh hM1; have HM2:=zh hM2; have Hb7:=zh hb7; have Hb9:=zh hb9
   clear hB hX hY hM1 hM2 hb7 hb9
   clear HN HT
   go_upto_region 9 with (go_at_call 20; go_must (refine (J1.out _ _ _ HX.out HY.out).mono ?_; rintro e wm9 ⟨p9,rfl,hb,ht⟩; have HN:=zh hb; have HT:=zh ht.ms; clear hb ht))
   refine zaa (fun W => Below w.heap.size w W /\ MS W u5 x /\ MS W u6 y /\ MS W p7 f1 /\ MS W p8 f2 /\ MS W p9 f3 /\ Bx W wc3.heap.size #[.int .i64 Ra.vars,.int .i64 Ra.empty,.slice A3 n3 c3,.slice B3 m3 d3] Ra /\ Bx W wc4.heap.size #[.int .i64 Rb.vars,.int .i64 Rb.empty,.slice A4 n4 c4,.slice B4 m4 d4] Rb) ⟨HB.out.trans ((HN.out).mono HB.out.size),HX.out.on (HN.out),HY.out.on (HN.out),HM1.out.on (HN.out),HM2.out.on (HN.out),HT.out,Hb7.out.below (HN.out),Hb9.out.below (HN.out)⟩ ?_
   clear HB HX HY HM1 HM2 Hb7 Hb9
   rintro Y5 ⟨hB,hX,hY,hM1,hM2,hM3,hb7,hb9⟩
   have HB:=zh hB; have HX:=zh hX; have HY:=zh hY; have HM1:=zh hM1; have HM2:=zh hM2; have HM3:=zh hM3; have Hb7:=zh hb7; have Hb9:=zh hb9
   clear hB hX hY hM1 hM2 hM3 hb7 hb9
   clear HN HT
   go_upto_region 10 with (go_at_call 20; go_must (refine (J2.out _ _ _ HX.out HY.out).mono ?_; rintro e wm10 ⟨p10,rfl,hb,ht⟩; have HN:=zh hb; have HT:=zh ht.ms; clear hb ht))
   refine zaa (fun W => Below w.heap.size w W /\ MS W u5 x /\ MS W u6 y /\ MS W p7 f1 /\ MS W p8 f2 /\ MS W p9 f3 /\ MS W p10 f4 /\ Bx W wc3.heap.size #[.int .i64 Ra.vars,.int .i64 Ra.empty,.slice A3 n3 c3,.slice B3 m3 d3] Ra /\ Bx W wc4.heap.size #[.int .i64 Rb.vars,.int .i64 Rb.empty,.slice A4 n4 c4,.slice B4 m4 d4] Rb) ⟨HB.out.trans ((HN.out).mono HB.out.size),HX.out.on (HN.out),HY.out.on (HN.out),HM1.out.on (HN.out),HM2.out.on (HN.out),HM3.out.on (HN.out),HT.out,Hb7.out.below (HN.out),Hb9.out.below (HN.out)⟩ ?_
   clear HB HX HY HM1 HM2 HM3 Hb7 Hb9
   rintro Y6 ⟨hB,hX,hY,hM1,hM2,hM3,hM4,hb7,hb9⟩
   have HB:=zh hB; have HX:=zh hX; have HY:=zh hY; have HM1:=zh hM1; have HM2:=zh hM2; have HM3:=zh hM3; have HM4:=zh hM4; have Hb7:=zh hb7; have Hb9:=zh hb9
   clear hB hX hY hM1 hM2 hM3 hM4 hb7 hb9
   clear HN HT
   go_upto_region 11 with (go_at_call 11; go_must (refine (C1.out _ _ HM1.out).mono ?_; rintro e wc11 ⟨A11,n11,c11,B11,m11,d11,rfl,hb,ht⟩; have HN:=zh hb; have HT:=zh ht.td; clear hb ht))
   refine zaa (fun W => Below w.heap.size w W /\ MS W u5 x /\ MS W u6 y /\ MS W p7 f1 /\ MS W p8 f2 /\ MS W p9 f3 /\ MS W p10 f4 /\ Bx W wc3.heap.size #[.int .i64 Ra.vars,.int .i64 Ra.empty,.slice A3 n3 c3,.slice B3 m3 d3] Ra /\ Bx W wc4.heap.size #[.int .i64 Rb.vars,.int .i64 Rb.empty,.slice A4 n4 c4,.slice B4 m4 d4] Rb /\ Bx W wc11.heap.size #[.int .i64 Rn.vars,.int .i64 Rn.empty,.slice A11 n11 c11,.slice B11 m11 d11] Rn) ⟨HB.out.trans (((HN.out.alloc HN.out.size _)).mono HB.out.size),HX.out.on ((HN.out.alloc HN.out.size _)),HY.out.on ((HN.out.alloc HN.out.size _)),HM1.out.on ((HN.out.alloc HN.out.size _)),HM2.out.on ((HN.out.alloc HN.out.size _)),HM3.out.on ((HN.out.alloc HN.out.size _)),HM4.out.on ((HN.out.alloc HN.out.size _)),Hb7.out.below ((HN.out.alloc HN.out.size _)),Hb9.out.below ((HN.out.alloc HN.out.size _)),⟨Row.new _ _ _,HT.out.below (Below.alloc (Below.refl _ _) zn _) zn⟩⟩ ?_
   clear HB HX HY HM1 HM2 HM3 HM4 Hb7 Hb9
   rintro Y7 ⟨hB,hX,hY,hM1,hM2,hM3,hM4,hb7,hb9,hb19⟩
   have HB:=zh hB; have HX:=zh hX; have HY:=zh hY; have HM1:=zh hM1; have HM2:=zh hM2; have HM3:=zh hM3; have HM4:=zh hM4; have Hb7:=zh hb7; have Hb9:=zh hb9; have Hb19:=zh hb19
   clear hB hX hY hM1 hM2 hM3 hM4 hb7 hb9 hb19
   clear HN HT
   have z0:=Hb7.out.row.cell
   go_upto_region 12 with (go_at_call 21; go_must (refine (HF.out.tn _ _ Hb7.out.td).mono ?_; rintro e wc12 ⟨v12,rfl,hb,ht⟩; obtain ⟨A12,c12,B12,d12,rfl⟩:=ht.form; have HN:=zh hb; have HT:=zh ht.td; clear hb ht))
   clear z0
   refine zaa (fun W => Below w.heap.size w W /\ MS W u5 x /\ MS W u6 y /\ MS W p7 f1 /\ MS W p8 f2 /\ MS W p9 f3 /\ MS W p10 f4 /\ Bx W wc3.heap.size #[.int .i64 Ra.vars,.int .i64 Ra.empty,.slice A3 n3 c3,.slice B3 m3 d3] Ra /\ Bx W wc4.heap.size #[.int .i64 Rb.vars,.int .i64 Rb.empty,.slice A4 n4 c4,.slice B4 m4 d4] Rb /\ Bx W wc11.heap.size #[.int .i64 Rn.vars,.int .i64 Rn.empty,.slice A11 n11 c11,.slice B11 m11 d11] Rn /\ Bx W wc12.heap.size #[.int .i64 Rn.vars,.int .i64 Rn.empty,.slice A12 Rn.next.length c12,.slice B12 Rn.fin.length d12] Rn) ⟨HB.out.trans (((HN.out.alloc HN.out.size _)).mono HB.out.size),HX.out.on ((HN.out.alloc HN.out.size _)),HY.out.on ((HN.out.alloc HN.out.size _)),HM1.out.on ((HN.out.alloc HN.out.size _)),HM2.out.on ((HN.out.alloc HN.out.size _)),HM3.out.on ((HN.out.alloc HN.out.size _)),HM4.out.on ((HN.out.alloc HN.out.size _)),Hb7.out.below ((HN.out.alloc HN.out.size _)),Hb9.out.below ((HN.out.alloc HN.out.size _)),Hb19.out.below ((HN.out.alloc HN.out.size _)),⟨Row.new _ _ _,HT.out.below (Below.alloc (Below.refl _ _) zn _) zn⟩⟩ ?_
   clear HB HX HY HM1 HM2 HM3 HM4 Hb7 Hb9 Hb19
   rintro Y8 ⟨hB,hX,hY,hM1,hM2,hM3,hM4,hb7,hb9,hb19,hb21⟩
   have HB:=zh hB; have HX:=zh hX; have HY:=zh hY; have HM1:=zh hM1; have HM2:=zh hM2; have HM3:=zh hM3; have HM4:=zh hM4; have Hb7:=zh hb7; have Hb9:=zh hb9; have Hb19:=zh hb19; have Hb21:=zh hb21
   clear hB hX hY hM1 hM2 hM3 hM4 hb7 hb9 hb19 hb21
   clear HN HT
   go_upto_region 13 with (go_at_call 11; go_must (refine (C2.out _ _ HM2.out).mono ?_; rintro e wc13 ⟨A13,n13,c13,B13,m13,d13,rfl,hb,ht⟩; have HN:=zh hb; have HT:=zh ht.td; clear hb ht))
   refine zaa (fun W => Below w.heap.size w W /\ MS W u5 x /\ MS W u6 y /\ MS W p7 f1 /\ MS W p8 f2 /\ MS W p9 f3 /\ MS W p10 f4 /\ Bx W wc3.heap.size #[.int .i64 Ra.vars,.int .i64 Ra.empty,.slice A3 n3 c3,.slice B3 m3 d3] Ra /\ Bx W wc4.heap.size #[.int .i64 Rb.vars,.int .i64 Rb.empty,.slice A4 n4 c4,.slice B4 m4 d4] Rb /\ Bx W wc11.heap.size #[.int .i64 Rn.vars,.int .i64 Rn.empty,.slice A11 n11 c11,.slice B11 m11 d11] Rn /\ Bx W wc12.heap.size #[.int .i64 Rn.vars,.int .i64 Rn.empty,.slice A12 Rn.next.length c12,.slice B12 Rn.fin.length d12] Rn /\ Bx W wc13.heap.size #[.int .i64 Ra.vars,.int .i64 Ra.empty,.slice A13 n13 c13,.slice B13 m13 d13] Ra) ⟨HB.out.trans (((HN.out.alloc HN.out.size _)).mono HB.out.size),HX.out.on ((HN.out.alloc HN.out.size _)),HY.out.on ((HN.out.alloc HN.out.size _)),HM1.out.on ((HN.out.alloc HN.out.size _)),HM2.out.on ((HN.out.alloc HN.out.size _)),HM3.out.on ((HN.out.alloc HN.out.size _)),HM4.out.on ((HN.out.alloc HN.out.size _)),Hb7.out.below ((HN.out.alloc HN.out.size _)),Hb9.out.below ((HN.out.alloc HN.out.size _)),Hb19.out.below ((HN.out.alloc HN.out.size _)),Hb21.out.below ((HN.out.alloc HN.out.size _)),⟨Row.new _ _ _,HT.out.below (Below.alloc (Below.refl _ _) zn _) zn⟩⟩ ?_
   clear HB HX HY HM1 HM2 HM3 HM4 Hb7 Hb9 Hb19 Hb21
   rintro Y9 ⟨hB,hX,hY,hM1,hM2,hM3,hM4,hb7,hb9,hb19,hb21,hb23⟩
   have HB:=zh hB; have HX:=zh hX; have HY:=zh hY; have HM1:=zh hM1; have HM2:=zh hM2; have HM3:=zh hM3; have HM4:=zh hM4; have Hb7:=zh hb7; have Hb9:=zh hb9; have Hb19:=zh hb19; have Hb21:=zh hb21; have Hb23:=zh hb23
   clear hB hX hY hM1 hM2 hM3 hM4 hb7 hb9 hb19 hb21 hb23
   clear HN HT
   go_upto_region 14 with (go_at_call 11; go_must (refine (C3.out _ _ HM3.out).mono ?_; rintro e wc14 ⟨A14,n14,c14,B14,m14,d14,rfl,hb,ht⟩; have HN:=zh hb; have HT:=zh ht.td; clear hb ht))
   refine zaa (fun W => Below w.heap.size w W /\ MS W u5 x /\ MS W u6 y /\ MS W p7 f1 /\ MS W p8 f2 /\ MS W p9 f3 /\ MS W p10 f4 /\ Bx W wc3.heap.size #[.int .i64 Ra.vars,.int .i64 Ra.empty,.slice A3 n3 c3,.slice B3 m3 d3] Ra /\ Bx W wc4.heap.size #[.int .i64 Rb.vars,.int .i64 Rb.empty,.slice A4 n4 c4,.slice B4 m4 d4] Rb /\ Bx W wc11.heap.size #[.int .i64 Rn.vars,.int .i64 Rn.empty,.slice A11 n11 c11,.slice B11 m11 d11] Rn /\ Bx W wc12.heap.size #[.int .i64 Rn.vars,.int .i64 Rn.empty,.slice A12 Rn.next.length c12,.slice B12 Rn.fin.length d12] Rn /\ Bx W wc13.heap.size #[.int .i64 Ra.vars,.int .i64 Ra.empty,.slice A13 n13 c13,.slice B13 m13 d13] Ra /\ Bx W wc14.heap.size #[.int .i64 Rr.vars,.int .i64 Rr.empty,.slice A14 n14 c14,.slice B14 m14 d14] Rr) ⟨HB.out.trans (((HN.out.alloc HN.out.size _)).mono HB.out.size),HX.out.on ((HN.out.alloc HN.out.size _)),HY.out.on ((HN.out.alloc HN.out.size _)),HM1.out.on ((HN.out.alloc HN.out.size _)),HM2.out.on ((HN.out.alloc HN.out.size _)),HM3.out.on ((HN.out.alloc HN.out.size _)),HM4.out.on ((HN.out.alloc HN.out.size _)),Hb7.out.below ((HN.out.alloc HN.out.size _)),Hb9.out.below ((HN.out.alloc HN.out.size _)),Hb19.out.below ((HN.out.alloc HN.out.size _)),Hb21.out.below ((HN.out.alloc HN.out.size _)),Hb23.out.below ((HN.out.alloc HN.out.size _)),⟨Row.new _ _ _,HT.out.below (Below.alloc (Below.refl _ _) zn _) zn⟩⟩ ?_
   clear HB HX HY HM1 HM2 HM3 HM4 Hb7 Hb9 Hb19 Hb21 Hb23
   rintro Y10 ⟨hB,hX,hY,hM1,hM2,hM3,hM4,hb7,hb9,hb19,hb21,hb23,hb25⟩
   have HB:=zh hB; have HX:=zh hX; have HY:=zh hY; have HM1:=zh hM1; have HM2:=zh hM2; have HM3:=zh hM3; have HM4:=zh hM4; have Hb7:=zh hb7; have Hb9:=zh hb9; have Hb19:=zh hb19; have Hb21:=zh hb21; have Hb23:=zh hb23; have Hb25:=zh hb25
   clear hB hX hY hM1 hM2 hM3 hM4 hb7 hb9 hb19 hb21 hb23 hb25
   clear HN HT
   have z0:=Hb7.out.row.cell
   have z1:=Hb9.out.row.cell
   go_upto_region 15 with (go_at_call 22; go_must (refine (HF.out.ta _ _ _ Hb7.out.td Hb9.out.td).mono ?_; rintro e wc15 ⟨v15,rfl,hb,ht⟩; obtain ⟨A15,c15,B15,d15,rfl⟩:=ht.form; have HN:=zh hb; have HT:=zh ht.td; clear hb ht))
   clear z0 z1
   refine zaa (fun W => Below w.heap.size w W /\ MS W u5 x /\ MS W u6 y /\ MS W p7 f1 /\ MS W p8 f2 /\ MS W p9 f3 /\ MS W p10 f4 /\ Bx W wc3.heap.size #[.int .i64 Ra.vars,.int .i64 Ra.empty,.slice A3 n3 c3,.slice B3 m3 d3] Ra /\ Bx W wc4.heap.size #[.int .i64 Rb.vars,.int .i64 Rb.empty,.slice A4 n4 c4,.slice B4 m4 d4] Rb /\ Bx W wc11.heap.size #[.int .i64 Rn.vars,.int .i64 Rn.empty,.slice A11 n11 c11,.slice B11 m11 d11] Rn /\ Bx W wc12.heap.size #[.int .i64 Rn.vars,.int .i64 Rn.empty,.slice A12 Rn.next.length c12,.slice B12 Rn.fin.length d12] Rn /\ Bx W wc13.heap.size #[.int .i64 Ra.vars,.int .i64 Ra.empty,.slice A13 n13 c13,.slice B13 m13 d13] Ra /\ Bx W wc14.heap.size #[.int .i64 Rr.vars,.int .i64 Rr.empty,.slice A14 n14 c14,.slice B14 m14 d14] Rr /\ Bx W wc15.heap.size #[.int .i64 Rr.vars,.int .i64 Rr.empty,.slice A15 Rr.next.length c15,.slice B15 Rr.fin.length d15] Rr) ⟨HB.out.trans (((HN.out.alloc HN.out.size _)).mono HB.out.size),HX.out.on ((HN.out.alloc HN.out.size _)),HY.out.on ((HN.out.alloc HN.out.size _)),HM1.out.on ((HN.out.alloc HN.out.size _)),HM2.out.on ((HN.out.alloc HN.out.size _)),HM3.out.on ((HN.out.alloc HN.out.size _)),HM4.out.on ((HN.out.alloc HN.out.size _)),Hb7.out.below ((HN.out.alloc HN.out.size _)),Hb9.out.below ((HN.out.alloc HN.out.size _)),Hb19.out.below ((HN.out.alloc HN.out.size _)),Hb21.out.below ((HN.out.alloc HN.out.size _)),Hb23.out.below ((HN.out.alloc HN.out.size _)),Hb25.out.below ((HN.out.alloc HN.out.size _)),⟨Row.new _ _ _,HT.out.below (Below.alloc (Below.refl _ _) zn _) zn⟩⟩ ?_
   clear HB HX HY HM1 HM2 HM3 HM4 Hb7 Hb9 Hb19 Hb21 Hb23 Hb25
   rintro Y11 ⟨hB,hX,hY,hM1,hM2,hM3,hM4,hb7,hb9,hb19,hb21,hb23,hb25,hb27⟩
   have HB:=zh hB; have HX:=zh hX; have HY:=zh hY; have HM1:=zh hM1; have HM2:=zh hM2; have HM3:=zh hM3; have HM4:=zh hM4; have Hb7:=zh hb7; have Hb9:=zh hb9; have Hb19:=zh hb19; have Hb21:=zh hb21; have Hb23:=zh hb23; have Hb25:=zh hb25; have Hb27:=zh hb27
   clear hB hX hY hM1 hM2 hM3 hM4 hb7 hb9 hb19 hb21 hb23 hb25 hb27
   clear HN HT
   go_upto_region 16 with (go_at_call 11; go_must (refine (C4.out _ _ HM4.out).mono ?_; rintro e wc16 ⟨A16,n16,c16,B16,m16,d16,rfl,hb,ht⟩; have HN:=zh hb; have HT:=zh ht.td; clear hb ht))
   refine zaa (fun W => Below w.heap.size w W /\ MS W u5 x /\ MS W u6 y /\ MS W p7 f1 /\ MS W p8 f2 /\ MS W p9 f3 /\ MS W p10 f4 /\ Bx W wc3.heap.size #[.int .i64 Ra.vars,.int .i64 Ra.empty,.slice A3 n3 c3,.slice B3 m3 d3] Ra /\ Bx W wc4.heap.size #[.int .i64 Rb.vars,.int .i64 Rb.empty,.slice A4 n4 c4,.slice B4 m4 d4] Rb /\ Bx W wc11.heap.size #[.int .i64 Rn.vars,.int .i64 Rn.empty,.slice A11 n11 c11,.slice B11 m11 d11] Rn /\ Bx W wc12.heap.size #[.int .i64 Rn.vars,.int .i64 Rn.empty,.slice A12 Rn.next.length c12,.slice B12 Rn.fin.length d12] Rn /\ Bx W wc13.heap.size #[.int .i64 Ra.vars,.int .i64 Ra.empty,.slice A13 n13 c13,.slice B13 m13 d13] Ra /\ Bx W wc14.heap.size #[.int .i64 Rr.vars,.int .i64 Rr.empty,.slice A14 n14 c14,.slice B14 m14 d14] Rr /\ Bx W wc15.heap.size #[.int .i64 Rr.vars,.int .i64 Rr.empty,.slice A15 Rr.next.length c15,.slice B15 Rr.fin.length d15] Rr /\ Bx W wc16.heap.size #[.int .i64 Ro.vars,.int .i64 Ro.empty,.slice A16 n16 c16,.slice B16 m16 d16] Ro) ⟨HB.out.trans (((HN.out.alloc HN.out.size _)).mono HB.out.size),HX.out.on ((HN.out.alloc HN.out.size _)),HY.out.on ((HN.out.alloc HN.out.size _)),HM1.out.on ((HN.out.alloc HN.out.size _)),HM2.out.on ((HN.out.alloc HN.out.size _)),HM3.out.on ((HN.out.alloc HN.out.size _)),HM4.out.on ((HN.out.alloc HN.out.size _)),Hb7.out.below ((HN.out.alloc HN.out.size _)),Hb9.out.below ((HN.out.alloc HN.out.size _)),Hb19.out.below ((HN.out.alloc HN.out.size _)),Hb21.out.below ((HN.out.alloc HN.out.size _)),Hb23.out.below ((HN.out.alloc HN.out.size _)),Hb25.out.below ((HN.out.alloc HN.out.size _)),Hb27.out.below ((HN.out.alloc HN.out.size _)),⟨Row.new _ _ _,HT.out.below (Below.alloc (Below.refl _ _) zn _) zn⟩⟩ ?_
   clear HB HX HY HM1 HM2 HM3 HM4 Hb7 Hb9 Hb19 Hb21 Hb23 Hb25 Hb27
   rintro Y12 ⟨hB,hX,hY,hM1,hM2,hM3,hM4,hb7,hb9,hb19,hb21,hb23,hb25,hb27,hb29⟩
   have HB:=zh hB; have HX:=zh hX; have HY:=zh hY; have HM1:=zh hM1; have HM2:=zh hM2; have HM3:=zh hM3; have HM4:=zh hM4; have Hb7:=zh hb7; have Hb9:=zh hb9; have Hb19:=zh hb19; have Hb21:=zh hb21; have Hb23:=zh hb23; have Hb25:=zh hb25; have Hb27:=zh hb27; have Hb29:=zh hb29
   clear hB hX hY hM1 hM2 hM3 hM4 hb7 hb9 hb19 hb21 hb23 hb25 hb27 hb29
   clear HN HT
   have z0:=Hb7.out.row.cell
   have z1:=Hb9.out.row.cell
   go_upto_region 17 with (go_at_call 23; go_must (refine (HF.out.tor _ _ _ Hb7.out.td Hb9.out.td).mono ?_; rintro e wc17 ⟨v17,rfl,hb,ht⟩; obtain ⟨A17,c17,B17,d17,rfl⟩:=ht.form; have HN:=zh hb; have HT:=zh ht.td; clear hb ht))
   clear z0 z1
   refine zaa (fun W => Below w.heap.size w W /\ MS W u5 x /\ MS W u6 y /\ MS W p7 f1 /\ MS W p8 f2 /\ MS W p9 f3 /\ MS W p10 f4 /\ Bx W wc3.heap.size #[.int .i64 Ra.vars,.int .i64 Ra.empty,.slice A3 n3 c3,.slice B3 m3 d3] Ra /\ Bx W wc4.heap.size #[.int .i64 Rb.vars,.int .i64 Rb.empty,.slice A4 n4 c4,.slice B4 m4 d4] Rb /\ Bx W wc11.heap.size #[.int .i64 Rn.vars,.int .i64 Rn.empty,.slice A11 n11 c11,.slice B11 m11 d11] Rn /\ Bx W wc12.heap.size #[.int .i64 Rn.vars,.int .i64 Rn.empty,.slice A12 Rn.next.length c12,.slice B12 Rn.fin.length d12] Rn /\ Bx W wc13.heap.size #[.int .i64 Ra.vars,.int .i64 Ra.empty,.slice A13 n13 c13,.slice B13 m13 d13] Ra /\ Bx W wc14.heap.size #[.int .i64 Rr.vars,.int .i64 Rr.empty,.slice A14 n14 c14,.slice B14 m14 d14] Rr /\ Bx W wc15.heap.size #[.int .i64 Rr.vars,.int .i64 Rr.empty,.slice A15 Rr.next.length c15,.slice B15 Rr.fin.length d15] Rr /\ Bx W wc16.heap.size #[.int .i64 Ro.vars,.int .i64 Ro.empty,.slice A16 n16 c16,.slice B16 m16 d16] Ro /\ Bx W wc17.heap.size #[.int .i64 Ro.vars,.int .i64 Ro.empty,.slice A17 Ro.next.length c17,.slice B17 Ro.fin.length d17] Ro) ⟨HB.out.trans (((HN.out.alloc HN.out.size _)).mono HB.out.size),HX.out.on ((HN.out.alloc HN.out.size _)),HY.out.on ((HN.out.alloc HN.out.size _)),HM1.out.on ((HN.out.alloc HN.out.size _)),HM2.out.on ((HN.out.alloc HN.out.size _)),HM3.out.on ((HN.out.alloc HN.out.size _)),HM4.out.on ((HN.out.alloc HN.out.size _)),Hb7.out.below ((HN.out.alloc HN.out.size _)),Hb9.out.below ((HN.out.alloc HN.out.size _)),Hb19.out.below ((HN.out.alloc HN.out.size _)),Hb21.out.below ((HN.out.alloc HN.out.size _)),Hb23.out.below ((HN.out.alloc HN.out.size _)),Hb25.out.below ((HN.out.alloc HN.out.size _)),Hb27.out.below ((HN.out.alloc HN.out.size _)),Hb29.out.below ((HN.out.alloc HN.out.size _)),⟨Row.new _ _ _,HT.out.below (Below.alloc (Below.refl _ _) zn _) zn⟩⟩ ?_
   clear HB HX HY HM1 HM2 HM3 HM4 Hb7 Hb9 Hb19 Hb21 Hb23 Hb25 Hb27 Hb29
   rintro Y13 ⟨hB,hX,hY,hM1,hM2,hM3,hM4,hb7,hb9,hb19,hb21,hb23,hb25,hb27,hb29,hb31⟩
   have HB:=zh hB; have HX:=zh hX; have HY:=zh hY; have HM1:=zh hM1; have HM2:=zh hM2; have HM3:=zh hM3; have HM4:=zh hM4; have Hb7:=zh hb7; have Hb9:=zh hb9; have Hb19:=zh hb19; have Hb21:=zh hb21; have Hb23:=zh hb23; have Hb25:=zh hb25; have Hb27:=zh hb27; have Hb29:=zh hb29; have Hb31:=zh hb31
   clear hB hX hY hM1 hM2 hM3 hM4 hb7 hb9 hb19 hb21 hb23 hb25 hb27 hb29 hb31
   clear HN HT
   clear HX HY HM1 HM2 HM3 HM4 Hb9 CX CY C1 C2 C3 C4 N1 N2 J1 J2
   have zb7:=Hb7.out.row.cell
   have zb19:=Hb19.out.row.cell
   have zb21:=Hb21.out.row.cell
   have zb23:=Hb23.out.row.cell
   have zb25:=Hb25.out.row.cell
   have zb27:=Hb27.out.row.cell
   have zb29:=Hb29.out.row.cell
   have zb31:=Hb31.out.row.cell
   go_wp2_with (first
    | (go_at_call 15; (with_reducible refine (ziz _ _ _ _ _ (Hb19.out.td) (Hb21.out.td) HF.out.ln).mono ?_); rintro e we1 ⟨rfl,hb⟩; rw [zf7]; have HE1:=zh (hb); clear hb; have zb7:=(Hb7.out.below HE1.out).row.cell; have zb19:=(Hb19.out.below HE1.out).row.cell; have zb21:=(Hb21.out.below HE1.out).row.cell; have zb23:=(Hb23.out.below HE1.out).row.cell; have zb25:=(Hb25.out.below HE1.out).row.cell; have zb27:=(Hb27.out.below HE1.out).row.cell; have zb29:=(Hb29.out.below HE1.out).row.cell; have zb31:=(Hb31.out.below HE1.out).row.cell)
    | (go_at_call 15; (with_reducible refine (ziz _ _ _ _ _ (Hb23.out.td.below HE1.out zn) (Hb7.out.td.below HE1.out zn) HF.out.la).mono ?_); rintro e we2 ⟨rfl,hb⟩; rw [zf7]; have HE2:=zh (HE1.out.trans (hb.mono HE1.out.size)); clear hb; have zb7:=(Hb7.out.below HE2.out).row.cell; have zb19:=(Hb19.out.below HE2.out).row.cell; have zb21:=(Hb21.out.below HE2.out).row.cell; have zb23:=(Hb23.out.below HE2.out).row.cell; have zb25:=(Hb25.out.below HE2.out).row.cell; have zb27:=(Hb27.out.below HE2.out).row.cell; have zb29:=(Hb29.out.below HE2.out).row.cell; have zb31:=(Hb31.out.below HE2.out).row.cell)
    | (go_at_call 15; (with_reducible refine (ziz _ _ _ _ _ (Hb25.out.td.below HE2.out zn) (Hb27.out.td.below HE2.out zn) HF.out.lr).mono ?_); rintro e we3 ⟨rfl,hb⟩; rw [zf7]; have HE3:=zh (HE2.out.trans (hb.mono HE2.out.size)); clear hb; have zb7:=(Hb7.out.below HE3.out).row.cell; have zb19:=(Hb19.out.below HE3.out).row.cell; have zb21:=(Hb21.out.below HE3.out).row.cell; have zb23:=(Hb23.out.below HE3.out).row.cell; have zb25:=(Hb25.out.below HE3.out).row.cell; have zb27:=(Hb27.out.below HE3.out).row.cell; have zb29:=(Hb29.out.below HE3.out).row.cell; have zb31:=(Hb31.out.below HE3.out).row.cell)
    | (go_at_call 15; (with_reducible refine (ziz _ _ _ _ _ (Hb29.out.td.below HE3.out zn) (Hb31.out.td.below HE3.out zn) HF.out.lo).mono ?_); rintro e we4 ⟨rfl,hb⟩; rw [zf7]; have HE4:=zh (HE3.out.trans (hb.mono HE3.out.size)); clear hb; have zb7:=(Hb7.out.below HE4.out).row.cell; have zb19:=(Hb19.out.below HE4.out).row.cell; have zb21:=(Hb21.out.below HE4.out).row.cell; have zb23:=(Hb23.out.below HE4.out).row.cell; have zb25:=(Hb25.out.below HE4.out).row.cell; have zb27:=(Hb27.out.below HE4.out).row.cell; have zb29:=(Hb29.out.below HE4.out).row.cell; have zb31:=(Hb31.out.below HE4.out).row.cell)
    | (go_at_call 12; refine (zky _).mono ?_; rintro e wf ⟨rfl,hb⟩; have HE5:=zh (HE4.out.trans (hb.mono HE4.out.size)); clear hb))
   go_returns
   exact ⟨zdc (by simp),HB.out.trans (HE5.out.mono HB.out.size)⟩
  ·obtain ⟨Pa,hPa⟩:=zx (compS x 3 64)
   obtain ⟨Pb,hPb⟩:=zx (compS y 3 64)
   rw [<- hPa,<- hPb] at hok
   have CX:=zh fun v W (h:MS W v x) => (show Calls Tryz.prog 11 #[v,.int .i64 3,.int .i64 64] W (RetC W Pa) from by have q:=hca x v W h; rw [<- hPa] at q; exact q)
   have CY:=zh fun v W (h:MS W v y) => (show Calls Tryz.prog 11 #[v,.int .i64 3,.int .i64 64] W (RetC W Pb) from by have q:=hca y v W h; rw [<- hPb] at q; exact q)
   clear hca hPa hPb
   obtain ⟨Ra,ea⟩:=Pa
   obtain ⟨Rb,eb⟩:=Pb
   simp only at hok
   by_cases h0:ea = 0
   ·have h1:eb ≠ 0:=fun h => hok ⟨h0,h⟩
    subst h0
    clear hok
    go_wp2_with (first
     | (go_at_call 11; (with_reducible refine (CX.out _ _ HX.out).mono ?_); rintro e wa ⟨A1,n1,c1,B1,m1,d1,rfl,hb,_⟩; have HY:=zh (HY.out.on (hb.alloc hb.size (.cells #[.int .i64 Ra.vars,.int .i64 Ra.empty,.slice A1 n1 c1,.slice B1 m1 d1] 30))); have HB:=zh (zhz HB.out (Below.refl _ _) hb); clear hb)
     | (go_at_call 11; (with_reducible refine (CY.out _ _ HY.out).mono ?_); rintro e wb ⟨A2,n2,c2,B2,m2,d2,rfl,hb,_⟩; have HB:=zh (zhz HB.out (by go_grown) hb); clear hb)
     | (go_at_call 12; refine (zky _).mono ?_; rintro e wf ⟨rfl,hb⟩; have HB:=zh (zhz HB.out (by go_grown) hb); clear hb))
    go_returns
    exact ⟨rfl,HB.out⟩
   ·clear hok
    go_wp2_with (first
     | (go_at_call 11; (with_reducible refine (CX.out _ _ HX.out).mono ?_); rintro e wa ⟨A1,n1,c1,B1,m1,d1,rfl,hb,_⟩; have HY:=zh (HY.out.on (hb.alloc hb.size (.cells #[.int .i64 Ra.vars,.int .i64 Ra.empty,.slice A1 n1 c1,.slice B1 m1 d1] 30))); have HB:=zh (zhz HB.out (Below.refl _ _) hb); clear hb)
     | (go_at_call 11; (with_reducible refine (CY.out _ _ HY.out).mono ?_); rintro e wb ⟨A2,n2,c2,B2,m2,d2,rfl,hb,_⟩; have HB:=zh (zhz HB.out (by go_grown) hb); clear hb)
     | (go_at_call 12; refine (zky _).mono ?_; rintro e wf ⟨rfl,hb⟩; have HB:=zh (zhz HB.out (by go_grown) hb); clear hb))
    go_returns
    exact ⟨rfl,HB.out⟩
end Go.Proofs.YthdabkmkgkkmcaaGreatDoor
