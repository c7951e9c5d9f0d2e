/- Part 7 of the proof; it says: lemmas and contracts. No conditions but those that each theorem states. -/
import Derived.Deep.RegionHeld3
import Derived.Test.YthdabkmkgkkmcaaGreatDoorPb01
import Derived.Test.YthdabkmkgkkmcaaGreatDoorPb03
import Derived.Test.YthdabkmkgkkmcaaGreatDoorPb04
import Derived.Test.YthdabkmkgkkmcaaGreatDoorPb05
import Derived.Test.YthdabkmkgkkmcaaGreatDoorPb06
import Derived.Test.YthdabkmkgkkmcaaGreatDoorPb07
import Derived.Test.YthdabkmkgkkmcaaGreatDoorPb08
import Derived.Test.YthdabkmkgkkmcaaGreatDoorPb09
import Derived.Test.YthdabkmkgkkmcaaGreatDoorPb10
import Derived.Test.YthdabkmkgkkmcaaGreatDoorPb11
import Derived.Test.YthdabkmkgkkmcaaGreatDoorPb12
import Derived.Test.YthdabkmkgkkmcaaGreatDoorPb13
import Derived.Test.YthdabkmkgkkmcaaGreatDoorPb14
import Derived.Test.YthdabkmkgkkmcaaGreatDoorPb15
import Derived.Test.YthdabkmkgkkmcaaGreatDoorPb16
import Derived.Test.YthdabkmkgkkmcaaGreatDoorPb17
import Derived.Test.YthdabkmkgkkmcaaGreatDoorPb18
import Derived.Test.YthdabkmkgkkmcaaGreatDoorPb19
import Derived.Test.YthdabkmkgkkmcaaGreatDoorPb20
import Derived.Test.YthdabkmkgkkmcaaGreatDoorPb21
import Derived.Test.YthdabkmkgkkmcaaGreatDoorPb22
import Derived.Test.YthdabkmkgkkmcaaGreatDoorPb23
import Derived.Test.YthdabkmkgkkmcaaGreatDoorPb24
import Derived.Test.YthdabkmkgkkmcaaGreatDoorPb25
import Derived.Test.YthdabkmkgkkmcaaGreatDoorPb26
import Derived.Test.YthdabkmkgkkmcaaGreatDoorPb27
import Derived.Test.YthdabkmkgkkmcaaGreatDoorPb28
import Derived.Test.YthdabkmkgkkmcaaGreatDoorPb29
import Derived.Test.YthdabkmkgkkmcaaGreatDoorPb30
import Derived.Test.YthdabkmkgkkmcaaGreatDoorPb31
import Derived.Test.YthdabkmkgkkmcaaGreatDoorPb32
import Derived.Test.YthdabkmkgkkmcaaGreatDoorPb33
import Derived.Test.YthdabkmkgkkmcaaGreatDoorPb34
import Derived.Test.YthdabkmkgkkmcaaGreatDoorPb35
import Derived.Test.YthdabkmkgkkmcaaGreatDoorPb36
import Derived.Test.YthdabkmkgkkmcaaGreatDoorPb37
import Derived.Test.YthdabkmkgkkmcaaGreatDoorPb38
import Derived.Test.YthdabkmkgkkmcaaGreatDoorPb39
import Derived.Test.YthdabkmkgkkmcaaGreatDoorPb02
import Derived.Test.YthdabkmkgkkmcaaGreatDoorQa01
import Derived.Test.YthdabkmkgkkmcaaGreatDoorQa02
import Derived.Test.YthdabkmkgkkmcaaGreatDoorQa03
import Derived.Test.YthdabkmkgkkmcaaGreatDoorQa04
import Derived.Test.YthdabkmkgkkmcaaGreatDoorQa05
import Derived.Test.YthdabkmkgkkmcaaGreatDoorQa06
set_option linter.unusedSimpArgs false
set_option linter.unusedVariables false
set_option maxRecDepth 100000
set_option maxHeartbeats 32000000
namespace Go.Proofs.YthdabkmkgkkmcaaGreatDoor
open Go.RowKit
inductive AgrC (x:List Mk) (tl:List Lf):Prop where
 | bad (e g:Int) (R:Raw) (b:Bool) (hc:compS x 3 64 = (R,e)) (hm:zc2 x 3 tl = (b,g)) (h1:e ≠ 1) (hb:g ≠ 0 -> b = false) (hn:e ≠ 0 \/ g ≠ 0)
 | good (d:Dta) (b:Bool) (hd:d.Fit 3) (hc:compS x 3 64 = (d.raw 3,0)) (hm:zc2 x 3 tl = (b,0)) (ha:accR d 3 tl = (b,0))
theorem zwl (x:List Mk) (tl:List Lf) (h0:∀ m ∈ tl,0 <= m.label):AgrC x tl:=by
 by_cases h:(compS x 3 64).2 = 0 /\ (zc2 x 3 tl).2 = 0
 ·obtain ⟨_,_,t,ck,d,hd,ec,cc⟩:=zlv (V:=3) (M:=64) h.1
  obtain ⟨_,_,_,_,hct,hv⟩:=agr_ok h0 ck cc hd h.2
  refine .good d (zc2 x 3 tl).1 (zd4 (by omega) (by omega) t ck.v d hd) ec ?_ ?_
  ·rw [<- h.2]
  ·unfold accR
   rw [if_pos hct,hv]
   rfl
 ·exact .bad (compS x 3 64).2 (zc2 x 3 tl).2 (compS x 3 64).1 (zc2 x 3 tl).1 rfl rfl (zwe x) zv3 (by omega)
theorem zxc (f:List Mk) (tl:List Lf) (v u:Value) (w:World) (hv:MS w v f) (hu:TS w u tl) (hdb:DB w) :
  Calls Tryz.prog 8 #[v,u] w fun e w' => e = .returned (.bool true) /\ Below w.heap.size w w':=by
 have HV:=zh hv; have HU:=zh hu; have HDB:=zh hdb
 obtain ⟨x,hx⟩:=zx (f.take 12)
 obtain ⟨y,hy⟩:=zx (tl.take 7)
 have hfw:=fun W (h:MS W v f) => few21W f v W h
 rw [<- hx] at hfw
 have hlb:∀ m ∈ y,0 <= m.label:=fun m hm => by rw [hy] at hm; exact (hu.1 m (List.mem_of_mem_take hm)).1
 obtain ⟨_,A,c,rfl,hc1,hc2,_⟩:=hu
 obtain ⟨n,hn⟩:=zx tl.length
 rw [<- hn] at hc1 HU ⊢
 have hct:=fun W (hW:TS W (.slice A n c) tl) => zwd (tl.take (min (n:Int) 7).toNat) _ W (hW.cut (min (n:Int) 7).toNat (by omega) A (fun _ => rfl)) (by rw [List.length_take]; omega)
 rw [show (7:Int) = ((7:Nat):Int) from rfl,zt7 tl n 7 hn,<- hy] at hct
 have HFW:=zh hfw; have HCT:=zh hct; have HLB:=zh hlb
 have j1:(0:Int) <= min (n:Int) 7:=by omega
 have j2:min (n:Int) 7 <= (c:Int):=by omega
 have j5:(min (n:Int) 7).toNat <= c:=by omega
 have HMT:=zh fun v u W (h:MS W v x) (h2:TS W u y) (h3:DB W) => zwm x v u 3 y W h h2 h3
 have HCM:=zh fun v W (h:MS W v x) => zax x v 3 64 W h
 have hlb2:=hlb
 clear hfw hct hlb hv hdb hn hx hy
 go_enter Tryz.func8,Tryz.ntmps8
 go_upto_region 3 with (go_at_call 12; refine (zky _).mono ?_; rintro e w1 ⟨rfl,hb⟩; have HB:=zh (show Below w.heap.size w w1 from hb); clear hb)
 go_cut [5,6] from 15 to 22 (fun u1 u2 wx => MS wx u1 x /\ TS wx u2 y /\ Below w.heap.size w wx)
 case first =>
  have HV1:=zh (HV.out.below HB.out zn); have HU1:=zh (HU.out.below HB.out zn)
  first
  | go_region_held3 (fun W => True) (trivial) (first
   | (go_at_call 9; refine (HFW.out _ (HV1.out.below drewW.out zn)).mono ?_; rintro e w2 ⟨v2,rfl,hb,ho⟩; have HB2:=zh (zwn hb); have H7:=zh ho.ms; clear hb ho)
   | (go_at_call 24; refine (HCT.out _ (HU1.out.below HB2.out zn)).mono ?_; rintro e w3 ⟨v3,rfl,hb,ho⟩; have HB3:=zh (HB2.out.trans (hb.mono HB2.out.size)); have H8:=zh ho.ts; replace H7:=zh (H7.out.below hb zn); clear hb ho))
  | fail
  all_goals
   go_wp2_with fail
   go_meet
   exact ⟨H7.out,H8.out,HB.out.trans (HB3.out.mono HB.out.size)⟩
 case rest =>
  obtain ⟨h7,h8,hb⟩:=hcut
  rename_i wc
  have HX:=zh h7; have HY:=zh h8; have HB:=zh hb
  clear h7 h8 hb HFW HCT j1 j2 j5 HV HU
  have HDB2:=zh (HDB.out.below HB.out zn)
  rcases zwl x y hlb2 with ⟨e,g,R,b,hc,hm,h1,hbf,hn⟩ | ⟨d,b,hd,hc,hm,ha⟩
  ·have hcm:=HCM.out
   have hmt:=HMT.out
   rw [hc] at hcm
   rw [hm] at hmt
   have HCM:=zh hcm; have HMT:=zh hmt
   clear hcm hmt hc hm
   have hcase:(e ≠ 0 /\ g = 0) \/ (e ≠ 0 /\ g ≠ 0 /\ b = false) \/ (e = 0 /\ g ≠ 0 /\ b = false):=by
    by_cases hg:g = 0
    ·exact .inl ⟨by omega,hg⟩
    ·by_cases he:e = 0
     ·exact .inr (.inr ⟨he,hg,hbf hg⟩)
     ·exact .inr (.inl ⟨he,hg,hbf hg⟩)
   clear hbf hn
   rcases hcase with ⟨h2,rfl⟩ | ⟨h2,h3,rfl⟩ | ⟨rfl,h3,rfl⟩
   ·cases b
    all_goals
     go_wp2_with (first
      | (go_at_call 11; go_must (refine (HCM.out _ _ HX.out).mono ?_; rintro e w4 ⟨A1,n1,c1,A2,n2,c2,rfl,hb,_⟩; have HN:=zh hb; clear hb))
      | (go_at_call 25; go_must (refine (HMT.out _ _ _ (HX.out.below (HN.out.alloc HN.out.size _) zn) (HY.out.below (HN.out.alloc HN.out.size _) zn) (HDB2.out.below (HN.out.alloc HN.out.size _) zn)).mono ?_; rintro e w5 ⟨rfl,hb⟩; have HE:=zh (zuz HB.out (HN.out.alloc HN.out.size _) hb); clear hb)))
     go_returns
     exact ⟨zdc (by simp [h1]),HE.out⟩
   ·go_wp2_with (first
     | (go_at_call 11; go_must (refine (HCM.out _ _ HX.out).mono ?_; rintro e w4 ⟨A1,n1,c1,A2,n2,c2,rfl,hb,_⟩; have HN:=zh hb; clear hb))
     | (go_at_call 25; go_must (refine (HMT.out _ _ _ (HX.out.below (HN.out.alloc HN.out.size _) zn) (HY.out.below (HN.out.alloc HN.out.size _) zn) (HDB2.out.below (HN.out.alloc HN.out.size _) zn)).mono ?_; rintro e w5 ⟨rfl,hb⟩; have HE:=zh (zuz HB.out (HN.out.alloc HN.out.size _) hb); clear hb)))
    go_returns
    exact ⟨zdc (by simp [h1]),HE.out⟩
   ·go_wp2_with (first
     | (go_at_call 11; go_must (refine (HCM.out _ _ HX.out).mono ?_; rintro e w4 ⟨A1,n1,c1,A2,n2,c2,rfl,hb,_⟩; have HN:=zh hb; clear hb))
     | (go_at_call 25; go_must (refine (HMT.out _ _ _ (HX.out.below (HN.out.alloc HN.out.size _) zn) (HY.out.below (HN.out.alloc HN.out.size _) zn) (HDB2.out.below (HN.out.alloc HN.out.size _) zn)).mono ?_; rintro e w5 ⟨rfl,hb⟩; have HE:=zh (zuz HB.out (HN.out.alloc HN.out.size _) hb); clear hb)))
    go_returns
    exact ⟨rfl,HE.out⟩
  ·have hcm:=HCM.out
   have hmt:=HMT.out
   rw [hc] at hcm
   rw [hm] at hmt
   have hac:=fun va u W (h:TD W va (d.raw 3)) (h2:TS W u y) => zvi d 3 hd va u y W h h2 hlb2
   rw [ha] at hac
   have HCM:=zh hcm; have HMT:=zh hmt; have HAC:=zh hac
   clear hcm hmt hc hm hac ha
   go_upto_region 5 with (go_at_call 11; go_must (refine (HCM.out _ _ HX.out).mono ?_; rintro e w4 ⟨A1,n1,c1,A2,n2,c2,rfl,hb,ht⟩; have HN:=zh hb; have HT:=zh ht.td; clear hb ht))
   refine zaa (fun W => Below wc.heap.size wc W /\ Row W w4.heap.size 30 #[.int .i64 (d.raw 3).vars,.int .i64 (d.raw 3).empty,.slice A1 n1 c1,.slice A2 n2 c2] /\ TD W (.agg #[.int .i64 (d.raw 3).vars,.int .i64 (d.raw 3).empty,.slice A1 n1 c1,.slice A2 n2 c2]) (d.raw 3)) ⟨HN.out.alloc HN.out.size _,Row.new _ _ _,HT.out.below (Below.alloc (Below.refl _ _) zn _) zn⟩ ?_
   clear HN HT
   rintro W5 ⟨hb5,hr5,ht5⟩
   have HN:=zh hb5; have HR:=zh hr5; have HT:=zh ht5
   clear hb5 hr5 ht5
   cases b
   all_goals
    go_wp2_with (first
     | (go_at_call 25; go_must (refine (HMT.out _ _ _ (HX.out.below HN.out zn) (HY.out.below HN.out zn) (HDB2.out.below HN.out zn)).mono ?_; rintro e w6 ⟨rfl,hb⟩; have HE:=zh (zuz HB.out HN.out hb); have z0:=(HR.out.below hb HR.out.lt).cell; have HT6:=zh (HT.out.below hb zn); have HY6:=zh (HY.out.below (HN.out.trans (hb.mono HN.out.size)) zn); clear hb))
     | (go_at_call 28; go_must (refine (HAC.out _ _ _ HT6.out HY6.out).mono ?_; rintro e w7 ⟨rfl,hb⟩; have HF:=zh (HE.out.trans (hb.mono HE.out.size)); clear hb)))
    go_returns
    exact ⟨rfl,HF.out⟩
end Go.Proofs.YthdabkmkgkkmcaaGreatDoor
