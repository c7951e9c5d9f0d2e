/- Part 2 of the proof; it says: lemmas and contracts. No conditions but those that each theorem states. -/
import Derived.Test.YthdabkmkgkkmcaaGreatDoorPb01
import Derived.Test.YthdabkmkgkkmcaaGreatDoorPb03
import Derived.Test.YthdabkmkgkkmcaaGreatDoorPb04
import Derived.Test.YthdabkmkgkkmcaaGreatDoorQa01
import Derived.Test.YthdabkmkgkkmcaaGreatDoorPb05
import Derived.Test.YthdabkmkgkkmcaaGreatDoorPb06
import Derived.Test.YthdabkmkgkkmcaaGreatDoorPb07
import Derived.Test.YthdabkmkgkkmcaaGreatDoorPb08
import Derived.Test.YthdabkmkgkkmcaaGreatDoorPb09
import Derived.Test.YthdabkmkgkkmcaaGreatDoorPb10
import Derived.Test.YthdabkmkgkkmcaaGreatDoorPb11
import Derived.Test.YthdabkmkgkkmcaaGreatDoorPb12
import Derived.Test.YthdabkmkgkkmcaaGreatDoorPb13
import Derived.Test.YthdabkmkgkkmcaaGreatDoorPb14
import Derived.Test.YthdabkmkgkkmcaaGreatDoorQa02
import Derived.Test.YthdabkmkgkkmcaaGreatDoorPb15
import Derived.Test.YthdabkmkgkkmcaaGreatDoorQa03
import Derived.Test.YthdabkmkgkkmcaaGreatDoorPb16
import Derived.Test.YthdabkmkgkkmcaaGreatDoorPb17
import Derived.Test.YthdabkmkgkkmcaaGreatDoorPb18
import Derived.Test.YthdabkmkgkkmcaaGreatDoorPb19
import Derived.Test.YthdabkmkgkkmcaaGreatDoorPb20
import Derived.Test.YthdabkmkgkkmcaaGreatDoorPb21
import Derived.Test.YthdabkmkgkkmcaaGreatDoorPb22
import Derived.Test.YthdabkmkgkkmcaaGreatDoorPb23
import Derived.Test.YthdabkmkgkkmcaaGreatDoorPb24
import Derived.Test.YthdabkmkgkkmcaaGreatDoorPb25
import Derived.Test.YthdabkmkgkkmcaaGreatDoorPb26
import Derived.Test.YthdabkmkgkkmcaaGreatDoorPb27
import Derived.Test.YthdabkmkgkkmcaaGreatDoorPb28
import Derived.Test.YthdabkmkgkkmcaaGreatDoorPb29
import Derived.Test.YthdabkmkgkkmcaaGreatDoorPb30
import Derived.Test.YthdabkmkgkkmcaaGreatDoorPb31
import Derived.Test.YthdabkmkgkkmcaaGreatDoorPb32
import Derived.Test.YthdabkmkgkkmcaaGreatDoorPb33
import Derived.Test.YthdabkmkgkkmcaaGreatDoorPb34
import Derived.Test.YthdabkmkgkkmcaaGreatDoorPb35
import Derived.Test.YthdabkmkgkkmcaaGreatDoorPb02
import Derived.Test.YthdabkmkgkkmcaaGreatDoorQa04
import Derived.Test.YthdabkmkgkkmcaaGreatDoorQa05
import Derived.Test.YthdabkmkgkkmcaaGreatDoorQw01
set_option linter.unusedSimpArgs false
set_option linter.unusedVariables false
set_option maxRecDepth 100000
set_option maxHeartbeats 32000000
namespace Go.Proofs.YthdabkmkgkkmcaaGreatDoor
open Go.RowKit
def RetSI (w:World) (L:List Lf) (b:Bool) (k:Int) (e:Ending) (w':World):Prop:=∃ v,e = .returned (.tuple #[v,.bool b,.int .i64 k]) /\ Below w.heap.size w w' /\ TO w' w.heap.size v L
theorem Sat_bad (f:List Mk) (v:Value) (V M:Int) (w:World) (hv:MS w v f) (hc:(compS f V M).2 ≠ 0) :
  Calls Tryz.prog 26 #[v,.int .i64 V,.int .i64 M] w (RetSI w [] false (compS f V M).2):=by
 have hcm:=fun W (h:Below w.heap.size w W) => zax f v V M W (hv.below h zn)
 obtain ⟨R,hR⟩:=zx (compS f V M)
 rw [<- hR] at hcm hc ⊢
 obtain ⟨_,A,c,rfl,_⟩:=id hv
 obtain ⟨R,e⟩:=R
 simp only at hc
 have HCM:=zh hcm
 clear hcm hv hR
 go_enter Tryz.func26,Tryz.ntmps26
 go_wp2_with (go_at_call 11; go_must (refine (HCM.out _ (by go_grown)).mono ?_; rintro e w1 ⟨A1,n1,c1,A2,n2,c2,rfl,hb,ht⟩; have HB:=zh (show Below w.heap.size w w1 from hb); clear hb ht))
 go_returns
 exact ⟨_,rfl,HB.out.alloc HB.out.size _,TO.nil _ _⟩
theorem zxj (f:List Mk) (v:Value) (V M:Int) (w:World) (hv:MS w v f) (hc:(compS f V M).2 ≠ 0) :
  Calls Tryz.prog 17 #[v,.int .i64 V,.int .i64 M] w (RetSI w [] false (compS f V M).2):=by
 have hcm:=fun W (h:Below w.heap.size w W) => zax f v V M W (hv.below h zn)
 obtain ⟨R,hR⟩:=zx (compS f V M)
 rw [<- hR] at hcm hc ⊢
 obtain ⟨_,A,c,rfl,_⟩:=id hv
 obtain ⟨R,e⟩:=R
 simp only at hc
 have HCM:=zh hcm
 clear hcm hv hR
 go_enter Tryz.func17,Tryz.ntmps17
 go_wp2_with (go_at_call 11; go_must (refine (HCM.out _ (by go_grown)).mono ?_; rintro e w1 ⟨A1,n1,c1,A2,n2,c2,rfl,hb,ht⟩; have HB:=zh (show Below w.heap.size w w1 from hb); clear hb ht))
 go_returns
 exact ⟨_,rfl,HB.out.alloc HB.out.size _,TO.nil _ _⟩
theorem zxd {D:Dta} {V:Nat} (hD:D.Fit V) {tl:List Lf} (hlb:∀ m ∈ tl,0 <= m.label) (hc:zsf tl (V:Int) = 0):zae tl = true /\ (btOf tl).size = tl.length /\ (btOf tl).lb (2 ^ V):=by
 obtain ⟨h1,h2,h3⟩:=zsm hD.v3 hlb hc
 exact ⟨h1,(zdh h1).2.1,bt_lb h1 hlb h3⟩
theorem zxh {D:Dta} {V:Nat} (hD:D.Fit V) {tl:List Lf} (hlb:∀ m ∈ tl,0 <= m.label) (h15:tl.length <= 15) :
  (zd9 D = true /\ zbf D = ([],false,0) /\ (zsf tl (V:Int) = 0 -> D.fin (D.run (btOf tl)) = false)) \/
  (zd9 D = false /\ zbf D = ([],false,4) /\ (zsf tl (V:Int) = 0 -> D.fin (D.run (btOf tl)) = false)) \/
  ∃ t:Bt,zd9 D = false /\ zbf D = (t.enc 0,true,0) /\ t.lb (2 ^ V) /\ t.size <= 31 /\ D.fin (D.run t) = true /\ (∀ n,n < t.size -> accN D n = 0) /\ 0 < accN D t.size /\
   (zsf tl (V:Int) = 0 -> D.fin (D.run (btOf tl)) = true -> 0 <= ze0 tl (t.enc 0)):=by
 have hM:=Dta.mini_is hD.ok (L:=D.L) rfl (S:=fun t => D.fin (D.run t)) fun t _ => rfl
 cases e:zd9 D with
 | true =>
  left
  refine ⟨rfl,by unfold zbf; rw [if_pos e],fun hc => ?_⟩
  obtain ⟨_,_,h3⟩:=zxd hD hlb hc
  exact (zjt hD.ok).1 e _ (by rw [hD.L]; exact h3)
 | false =>
  right
  cases e2:zeo D.mini with
  | none =>
   left
   refine ⟨rfl,by unfold zbf; rw [if_neg (by rw [e]; simp),e2],fun hc => ?_⟩
   obtain ⟨_,h2,h3⟩:=zxd hD hlb hc
   cases hf:D.fin (D.run (btOf tl)) with
   | false => rfl
   | true =>
    have:=zmh hM.can.ok e2 (btOf tl) (by rw [hM.hL,hD.L]; exact h3) (by rw [hM.lang _ (by rw [hD.L]; exact h3)]; exact hf)
    omega
  | some t =>
   right
   obtain ⟨g1,g2,g3,g4⟩:=zmg hM.can.ok e2
   rw [hM.hL] at g2
   rw [hM.lang t g2] at g3
   have hlow:∀ u:Bt,u.lb D.L -> D.fin (D.run u) = true -> t.size < u.size \/ t.size = u.size /\ leB t u:=fun u hu hf => g4 u (by rw [hM.hL]; exact hu) (by rw [hM.lang u hu]; exact hf)
   refine ⟨t,rfl,by unfold zbf; rw [if_neg (by rw [e]; simp),e2],by rw [<- hD.L]; exact g2,g1,g3,fun n hn => zxi fun u h1 h2 => ?_,zxk rfl g2 g3,fun hc hf => ?_⟩
   ·cases hf:D.fin (D.run u) with
    | false => rfl
    | true => have:=hlow u h2 hf; omega
   ·obtain ⟨h1,h2,h3⟩:=zxd hD hlb hc
    have hq:=hlow (btOf tl) (by rw [hD.L]; exact h3) hf
    unfold ze0
    rw [nf_of h1,nf_of (zex t g1),Bt.enc_len,zl0]
    by_cases he:(tl.length:Int) = t.size
    ·rw [if_pos (zc8.2 he)]
     have:leB t (btOf tl):=by
      rcases hq with h | h
      ·omega
      ·exact h.2
     unfold leB at this
     have:=zg8 t.code (btOf tl).code
     omega
    ·rw [if_neg (fun h => he (zc8.1 h))]
     have:¬ cmpI (tl.length:Int) t.size < 0:=fun h => by have:=zi2.1 h; omega
     omega
theorem zxf {L:Nat}:∀ (T:Bt) (p:Nat),T.lb L -> ∀ m ∈ T.enc p,0 <= m.label
 | .nil,_,_,m,h => by simp [Bt.enc] at h
 | .node lab l r,p,hb,m,h => by
  simp only [Bt.enc,List.mem_cons,List.mem_append] at h
  rcases h with rfl | h | h
  ·exact hb.1.1
  ·exact zxf l _ hb.2.1 m h
  ·exact zxf r _ hb.2.2 m h
structure WitR (x:List Mk) (y LA LB:List Lf) (sA sB:Bool) (eA eB:Int):Prop where
 sat:∀ v W,MS W v x -> Calls Tryz.prog 26 #[v,.int .i64 3,.int .i64 64] W (RetSI W LA sA eA)
 val:∀ v W,MS W v x -> Calls Tryz.prog 17 #[v,.int .i64 3,.int .i64 64] W (RetSI W LB sB eB)
 f1:eA = 0 -> sA = true -> (zc2 x 3 LA).2 = 0 -> (zc2 x 3 LA).1 = true
 f2:eA = 0 -> sA = true -> (zc2 x 3 y).2 = 0 -> (zc2 x 3 y).1 = true -> 0 <= ze0 y LA
 f3:eA = 0 -> sA = false -> (zc2 x 3 y).2 = 0 -> (zc2 x 3 y).1 = false
 f4:eA ≠ 0 -> sA = false
 g1:eB = 0 -> sB = false -> (zc2 x 3 LB).2 = 0 -> (zc2 x 3 LB).1 = false
 g2:eB = 0 -> sB = false -> (zc2 x 3 y).2 = 0 -> (zc2 x 3 y).1 = false -> 0 <= ze0 y LB
 g3:eB = 0 -> sB = true -> (zc2 x 3 y).2 = 0 -> (zc2 x 3 y).1 = true
 g4:eB ≠ 0 -> sB = false
theorem zxe {D:Dta} (hD:D.Fit 3) {y:List Lf} (h0:∀ m ∈ y,0 <= m.label) (h15:y.length <= 15):∃ (L:List Lf) (s:Bool) (k:Nat),zbf D = (L,s,k) /\
  (s = true -> k = 0 /\ ∃ t:Bt,L = t.enc 0 /\ t.lb (2 ^ 3) /\ t.size <= 31 /\ accS D t = true /\ (zsf y (3:Nat) = 0 -> accS D (btOf y) = true -> 0 <= ze0 y L)) /\
  (s = false -> k = 0 -> zsf y (3:Nat) = 0 -> accS D (btOf y) = false):=by
 rcases zxh hD h0 h15 with ⟨_,h1,h2⟩ | ⟨_,h1,h2⟩ | ⟨t,_,h1,h2,h3,h4,_,_,h5⟩
 ·exact ⟨_,_,_,h1,fun h => (by cases h),fun _ _ hc => h2 hc⟩
 ·exact ⟨_,_,_,h1,fun h => (by cases h),fun _ h => (by cases h)⟩
 ·exact ⟨_,_,_,h1,fun _ => ⟨rfl,t,rfl,h2,h3,h4,h5⟩,fun h => (by cases h)⟩
theorem wit_ok (x:List Mk) (y:List Lf) (h0:∀ m ∈ y,0 <= m.label) (h15:y.length <= 15):∃ LA LB sA sB eA eB,WitR x y LA LB sA sB eA eB:=by
 by_cases hok:(compS x 3 64).2 = 0
 ·obtain ⟨_,_,t,ck,d,hd,ec,cc⟩:=zlv (V:=3) (M:=64) hok
  have hfit:=zd4 (by omega) (by omega) t ck.v d hd
  have hnf:=zbt hfit
  have hni:=Dta.notM_is hfit.ok
  have hnl:∀ T:Bt,T.lb (2 ^ 3) -> accS d.notM T = !accS d T:=fun T hT => hni.lang T (by rw [hfit.L]; exact hT)
  obtain ⟨LA,sA,kA,a1,a2,a3⟩:=zxe hfit h0 h15
  obtain ⟨LB,sB,kB,b1,b2,b3⟩:=zxe hnf h0 h15
  have hm:=fun (tl:List Lf) (h:∀ m ∈ tl,0 <= m.label) => agr_ok (x:=x) h ck cc hd
  have hr:refS d.notM = (LB,decide (kB = 0) && !sB,kB):=by unfold refS; rw [b1]
  refine ⟨LA,LB,sA,decide (kB = 0) && !sB,kA,kB,?_,?_,?_,?_,?_,?_,?_,?_,?_,?_⟩
  ·intro v W hv
   have q:=zi4 x v 3 64 W hv d hfit ec
   rw [a1] at q
   exact q
  ·intro v W hv
   have q:=zh6 x v 3 64 W hv d hfit ec
   rw [hr] at q
   exact q
  ·intro _ hs h
   obtain ⟨_,T,rfl,hlb,h31,hacc,_⟩:=a2 hs
   obtain ⟨_,_,_,_,_,hv⟩:=hm _ (zxf T 0 hlb) h
   rw [hv,zl0]; exact hacc
  ·intro _ hs h hy
   obtain ⟨_,T,hL,hlb,h31,hacc,hc⟩:=a2 hs
   obtain ⟨_,_,_,_,hct,hv⟩:=hm y h0 h
   exact hc hct (by rw [<- hv]; exact hy)
  ·intro hk hs h
   obtain ⟨_,_,_,_,hct,hv⟩:=hm y h0 h
   rw [hv]
   exact a3 hs (by omega) hct
  ·intro hk
   cases sA with
   | false => rfl
   | true => have:=(a2 rfl).1; omega
  ·intro hk hs h
   have hk0:kB = 0:=by omega
   rw [hk0] at hs
   have hsB:sB = true:=by simpa using hs
   obtain ⟨_,T,rfl,hlb,h31,hacc,_⟩:=b2 hsB
   obtain ⟨_,_,_,_,_,hv⟩:=hm _ (zxf T 0 hlb) h
   rw [hv,zl0]
   rw [hnl T hlb] at hacc
   simpa using hacc
  ·intro hk hs h hy
   have hk0:kB = 0:=by omega
   rw [hk0] at hs
   have hsB:sB = true:=by simpa using hs
   obtain ⟨_,T,hL,hlb,h31,hacc,hc⟩:=b2 hsB
   obtain ⟨_,_,_,hlby,hct,hv⟩:=hm y h0 h
   exact hc hct (by rw [hnl _ hlby,<- hv,hy]; rfl)
  ·intro hk hs h
   have hk0:kB = 0:=by omega
   rw [hk0] at hs
   have hsB:sB = false:=by simpa using hs
   obtain ⟨_,_,_,hlby,hct,hv⟩:=hm y h0 h
   have:=b3 hsB hk0 hct
   rw [hnl _ hlby,<- hv] at this
   simpa using this
  ·intro hk
   have:kB ≠ 0:=by omega
   simp [this]
 ·exact ⟨[],[],false,false,(compS x 3 64).2,(compS x 3 64).2,fun v W h => Sat_bad x v 3 64 W h hok,fun v W h => zxj x v 3 64 W h hok,fun h => absurd h hok,fun h => absurd h hok,fun h => absurd h hok,fun _ => rfl,fun h => absurd h hok,fun h => absurd h hok,fun h => absurd h hok,fun _ => rfl⟩
end Go.Proofs.YthdabkmkgkkmcaaGreatDoor
