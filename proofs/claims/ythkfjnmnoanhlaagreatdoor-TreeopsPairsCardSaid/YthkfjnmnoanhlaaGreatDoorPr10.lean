/- Part 10 of the proof; it says: lemmas and contracts. No conditions but those that each theorem states. -/
import Derived.BigRegion
import Derived.Test.YthkfjnmnoanhlaaGreatDoorPr01
import Derived.Test.YthkfjnmnoanhlaaGreatDoorPr09
set_option linter.unusedSimpArgs false
set_option linter.unusedVariables false
set_option maxRecDepth 100000
set_option maxHeartbeats 32000000
namespace Go.Proofs.YthkfjnmnoanhlaaGreatDoor
open Go.RowKit
theorem zbf {Q:Exit -> Act -> World -> Prop} {x:Exit} {a:Act} {w:World} (F:World -> Prop) (hF:F w) (hk:∀ W,F W -> Q x a W):Q x a w:=hk w hF
theorem ziu {o:List Nat} {s:Nat}:zcz (oI o) s < 0 ↔ s ∉ o:=by
 unfold zcz
 by_cases h:(s:Int) ∈ oI o
 ·rw [if_pos h]
  constructor
  ·intro h1; omega
  ·intro h1
   obtain ⟨a,ha,e⟩:=List.mem_map.1 h
   exact absurd (by have:a = s:=(by omega); rw [<- this]; exact ha) h1
 ·rw [if_neg h]
  constructor
  ·intro _ h1; exact h (List.mem_map.2 ⟨s,h1,rfl⟩)
  ·intro _; omega
theorem zfi {o:List Nat} {i a s:Nat} (h:o[i]? = some a):(addS o s)[i]? = some a:=by
 obtain ⟨t,ht⟩:=zbg o s
 rw [<- ht,List.getElem?_append_left (List.getElem?_eq_some_iff.1 h).1]; exact h
structure VisI (w:World) (V E:Nat) (vn vf:Value) (o:List Nat) (q3:Value) (W:World):Prop where
 below:Below w.heap.size w W
 row:Row W w.heap.size 25 #[.int .i64 (V:Int),.int .i64 (E:Int),vn,vf]
 own:O1 W w.heap.size q3 (oI o)
theorem VisI.to {w W X:World} {V E:Nat} {vn vf q3:Value} {o:List Nat} (h:VisI w V E vn vf o q3 W) (hb:Below W.heap.size W X):VisI w V E vn vf o q3 X :=
 ⟨h.below.trans (hb.mono h.below.size),h.row.below hb h.row.lt,VO.below h.own hb zn⟩
theorem VisI.at {w W:World} {V E:Nat} {vn vf:Value} {o:List Nat} {A:Option Addr} {m c:Nat} (h:VisI w V E vn vf o (.slice A m c) W) {i a:Nat} (ha:o[i]? = some a):∃ g,A = some ⟨g,0,none⟩ /\ W.cell? ⟨g,i,none⟩ = some (.int .i64 (a:Int)):=by
 obtain ⟨g,cap,cs,he,_,_,_,_,hc⟩:=VO.row h.own (by rw [zag,zaj]; have:=(List.getElem?_eq_some_iff.1 ha).1; omega)
 simp only [Value.slice.injEq] at he
 exact ⟨g,he.1,hc i _ (iL_at (oI_at ha))⟩
theorem zjp (d:Dta) (V:Nat) (hd:d.Fit V) (va:Value) (w:World) (hva:TD w va (d.raw V)) :
  Calls Tryz.prog 100 #[va] w fun e w' => ∃ A c,e = .returned (.slice A d.order.length c) /\ Below w.heap.size w w' /\ O1 w' w.heap.size (.slice A d.order.length c) (oI d.order):=by
 obtain ⟨vn,vf,rfl,hnn,hff⟩:=hva
 have hvars:(d.raw V).vars = (V:Int):=rfl
 have hemp:(d.raw V).empty = (d.e:Int):=rfl
 rw [hvars,hemp]
 obtain ⟨b3,o3,c3,hN⟩:=(show N3 w vn (nx3 d.n d.L d.nx) from hnn).nx hd.pos hd.L8.1
 obtain rfl:=hN.form
 obtain ⟨Af,cf,rfl,_⟩:=(show NB w vf ((List.range d.n).map d.fin) from hff).open
 obtain ⟨m2,hm2⟩:=zx (((List.range d.n).map d.fin).length)
 rw [<- hm2]
 have hsh:=za2 V hd.v3
 rw [<- hd.L] at hsh
 have hv3:=hd.v3
 have hv3i:(V:Int) <= 3:=by omega
 have hn64:=hd.n64; have hL8:=hd.L8.2; have hpos:=hd.pos; have he0:=hd.ok.he
 have HD:=zh hd.ok; have HN:=zh hN.at3; have hcap:=hN.cap
 have h00:Hid (ExplI d [d.e] 0):=ExplI.start hd.ok
 clear hnn hff hvars hemp hm2 hN hd
 obtain ⟨L,hL⟩:=zx d.L
 obtain ⟨N,hNN⟩:=zx d.n
 obtain ⟨E,hE⟩:=zx d.e
 rw [<- hL] at hsh hL8 HN
 rw [<- hNN] at hn64 hpos he0 HN hcap ⊢
 rw [<- hE] at h00 he0 ⊢
 have HL:=zh hL; have HNE:=zh hNN
 clear hL hNN hE
 obtain ⟨hcp1,hcp2⟩:=hcap
 go_enter Tryz.func100,Tryz.ntmps100
 go_wp2
 refine zab (fun X => ∃ g,g = w.heap.size + 1 /\ VisI w V E (.slice (some ⟨b3,o3,none⟩) N c3) (.slice Af m2 cf) [E] (.slice (some ⟨g,0,none⟩) 1 1) X) ⟨_,rfl,by go_grown,(Row.new _ _ _).alloc _,by
  have:=VO.lit (E:=3) (w:=w.alloc (.cells #[.int .i64 (V:Int),.int .i64 (E:Int),.slice (some ⟨b3,o3,none⟩) N c3,.slice Af m2 cf] 25)) (n:=1) [.int .i64 (E:Int)] rfl (by omega) (by simp [Value.oneCell'])
  exact VO.mono (by simpa [oI,iL] using this) (by simp)⟩ ?_
 rintro W0 ⟨g0,hg0,hI⟩
 rw [<- hg0]
 have HI:=zh hI
 clear hI hg0
 go_loopg [3,4] (N + 1) (fun gk q3 q4 wr => ∃ (o:List Nat) (k:Nat),gk = N + 1 - k /\ q4 = .int .i64 k /\ ExplI d o k /\ VisI w V E (.slice (some ⟨b3,o3,none⟩) N c3) (.slice Af m2 cf) o q3 wr)
 case atStart => exact ⟨[E],0,by omega,rfl,h00.out,HI.out⟩
 case round =>
  clear HI
  obtain ⟨o,k,rfl,rfl,he,hi⟩:=hrel
  obtain ⟨m,hm⟩:=zx o.length
  obtain ⟨A3,ca3,rfl⟩:=VO.formN (n:=m) hi.own (by rw [zag,zaj,hm])
  have hmn:m <= N:=by rw [hm,HNE.out]; exact he.len
  have HE:=zh he; have HM:=zh hm; have HI:=zh hi
  clear he hm hi
  by_cases hlt:k < m
  ·have HR:=zh (HE.out.round (by rw [<- HM.out]; exact hlt))
   have hlti:(k:Int) < (m:Int):=by omega
   have hk64:k < 64:=by omega
   clear HE
   go_wp2
   go_loopg [3,5] (k + 1) (fun gk q3 q5 wr => ∃ (o:List Nat) (j:Nat),j <= k + 1 /\ gk = k + 1 - j /\ q5 = .int .i64 j /\ ExplR d k (trJ d.L k j) o /\ VisI w V E (.slice (some ⟨b3,o3,none⟩) N c3) (.slice Af m2 cf) o q3 wr)
   case atStart => exact ⟨o,0,by omega,rfl,rfl,HR.out,HI.out⟩
   case round =>
    clear HM HI HR hmn hlt hlti
    obtain ⟨o,j,hj,rfl,rfl,hr,hi⟩:=hrel
    obtain ⟨wl,hwl⟩:=zx wr
    subst hwl
    obtain ⟨m,hm⟩:=zx o.length
    obtain ⟨A3,ca3,rfl⟩:=VO.formN (n:=m) hi.own (by rw [zag,zaj,hm])
    have hmn:m <= N:=by rw [hm,HNE.out]; exact hr.len
    have hkm:k < m:=by rw [hm]; exact hr.k
    have HM:=zh hm
    by_cases hjk:j <= k
    ·obtain ⟨a,ha⟩:∃ a,o[j]? = some a:=⟨_,List.getElem?_eq_getElem (by omega)⟩
     obtain ⟨b,hb⟩:∃ b,o[k]? = some b:=⟨_,List.getElem?_eq_getElem (by omega)⟩
     obtain ⟨go,rfl,ca⟩:=hi.at ha
     obtain ⟨go2,e2,cb⟩:=hi.at hb
     simp only [Option.some.injEq,Addr.mk.injEq,and_true] at e2
     obtain rfl:=e2
     rw [zkt hjk] at hr
     have HR:=zh hr; have HI:=zh hi; have HA:=zh ha; have HBB:=zh hb
     have hjm:(j:Int) < (m:Int):=by omega
     have hkmi:(k:Int) < (m:Int):=by omega
     have hjki:(j:Int) <= (k:Int):=by omega
     clear hr hi ha hb hm
     go_upto_region 8 with fail
     first | go_region | fail
     refine zbf (fun X => ∃ g,g = wl.heap.size /\ VisI w V E (.slice (some ⟨b3,o3,none⟩) N c3) (.slice Af m2 cf) o (.slice (some ⟨go,0,none⟩) m ca3) X /\ Row X g 26 #[.int .i64 (a:Int),.int .i64 (b:Int),.int .i64 (b:Int),.int .i64 (a:Int)]) ⟨_,rfl,HI.out.to (by go_grown),by first | exact Row.litd rfl | exact Row.new _ _ _ | exact Row.lit rfl⟩ ?_
     rintro w1 ⟨gq,hgq,hi,hrow⟩
     rw [<- hgq]
     clear HI ca cb hgq hjm hkmi
     have HI:=zh hi; have HROW:=zh hrow
     clear hi hrow
     go_wp2
     go_loopg [3,7] 2 (fun gk q3 q7 wr => ∃ (o:List Nat) (p:Nat),p <= 2 /\ gk = 2 - p /\ q7 = .int .i64 p /\
      (p = 0 -> ExplR d k (trX d.L j k 0 ++ (trX d.L k j 0 ++ trJ d.L k (j + 1))) o) /\ (p = 1 -> ExplR d k (trX d.L k j 0 ++ trJ d.L k (j + 1)) o) /\ (p = 2 -> ExplR d k (trJ d.L k (j + 1)) o) /\ o[j]? = some a /\ o[k]? = some b /\ VisI w V E (.slice (some ⟨b3,o3,none⟩) N c3) (.slice Af m2 cf) o q3 wr /\ Row wr gq 26 #[.int .i64 (a:Int),.int .i64 (b:Int),.int .i64 (b:Int),.int .i64 (a:Int)])
     case atStart => exact ⟨o,0,by omega,rfl,rfl,fun _ => HR.out,fun h => by omega,fun h => by omega,HA.out,HBB.out,HI.out,HROW.out⟩
     case round =>
      clear HM HI HR HROW HA HBB hmn hkm
      obtain ⟨o,p,hp,rfl,rfl,hr0,hr1,hr2,ha,hb,hi,hrow⟩:=hrel
      obtain ⟨wp,hwp⟩:=zx wr
      subst hwp
      obtain ⟨m,hm⟩:=zx o.length
      obtain ⟨A3,ca3,rfl⟩:=VO.formN (n:=m) hi.own (by rw [zag,zaj,hm])
      have hp3:p = 2 \/ p < 2:=by omega
      rcases hp3 with rfl | hp2
      ·have HR:=zh (hr2 rfl); have HI:=zh hi
       clear hr0 hr1 hr2 hi hrow ha hb hm
       go_wp2
       go_roundg (k + 1 - (j + 1))
       case rel => exact ⟨o,j + 1,by omega,rfl,by go_num,HR.out,HI.out⟩
       case measure => omega
      ·obtain ⟨l,r,x0,z0,rest,hol,hor,HRC,HR,HNX⟩:∃ (l r x0 z0:Nat) (rest:List (Nat × Nat × Nat)),o[l]? = some x0 /\ o[r]? = some z0 /\ Hid (∀ X,Row X gq 26 #[.int .i64 (a:Int),.int .i64 (b:Int),.int .i64 (b:Int),.int .i64 (a:Int)] -> X.cell? ⟨gq,p * 2,none⟩ = some (.int .i64 (x0:Int)) /\ X.cell? ⟨gq,p * 2 + 1,none⟩ = some (.int .i64 (z0:Int))) /\ Hid (ExplR d k (trX d.L l r 0 ++ rest) o) /\
         Hid (∀ o',ExplR d k rest o' -> (p + 1 = 0 -> ExplR d k (trX d.L j k 0 ++ (trX d.L k j 0 ++ trJ d.L k (j + 1))) o') /\ (p + 1 = 1 -> ExplR d k (trX d.L k j 0 ++ trJ d.L k (j + 1)) o') /\ (p + 1 = 2 -> ExplR d k (trJ d.L k (j + 1)) o')):=by
        have hp01:p = 0 \/ p = 1:=by omega
        rcases hp01 with rfl | rfl
        ·exact ⟨j,k,a,b,_,ha,hb,fun X h => ⟨(h.cell 0).trans rfl,(h.cell 1).trans rfl⟩,hr0 rfl,fun o' h => ⟨fun h => by omega,fun _ => h,fun h => by omega⟩⟩
        ·exact ⟨k,j,b,a,_,hb,ha,fun X h => ⟨(h.cell 2).trans rfl,(h.cell 3).trans rfl⟩,hr1 rfl,fun o' h => ⟨fun h => by omega,fun h => by omega,fun _ => h⟩⟩
       have HI:=zh hi; have HROW:=zh hrow; have HA:=zh ha; have HBB:=zh hb; have HOL:=zh hol; have HOR:=zh hor
       have hp2i:(p:Int) < 2:=by omega
       clear hr0 hr1 hr2 hi hrow ha hb hol hor hm
       go_wp2
       go_loopg [3,8] L (fun gk q3 q8 wr => ∃ (o:List Nat) (x:Nat),x <= L /\ gk = L - x /\ q8 = .int .i64 x /\ ExplR d k (trX d.L l r x ++ rest) o /\ o[l]? = some x0 /\ o[r]? = some z0 /\ o[j]? = some a /\ o[k]? = some b /\ VisI w V E (.slice (some ⟨b3,o3,none⟩) N c3) (.slice Af m2 cf) o q3 wr /\ Row wr gq 26 #[.int .i64 (a:Int),.int .i64 (b:Int),.int .i64 (b:Int),.int .i64 (a:Int)])
       case atStart => exact ⟨o,0,by omega,rfl,rfl,HR.out,HOL.out,HOR.out,HA.out,HBB.out,HI.out,HROW.out⟩
       case round =>
        clear HI HR HROW HA HBB HOL HOR
        obtain ⟨o,x,hx,rfl,rfl,hr,hol,hor,ha,hb,hi,hrow⟩:=hrel
        obtain ⟨wx,hwx⟩:=zx wr
        subst hwx
        obtain ⟨m,hm⟩:=zx o.length
        obtain ⟨A3,ca3,rfl⟩:=VO.formN (n:=m) hi.own (by rw [zag,zaj,hm])
        have hmn:m <= N:=by rw [hm,HNE.out]; exact hr.len
        by_cases hxl:x < L
        ·have hxli:(x:Int) < (L:Int):=by omega
         rw [zhm (by rw [<- HL.out]; exact hxl),List.cons_append] at hr
         have hst:=hr.step HD.out (by rw [<- HL.out]; exact hxl) hol hor
         have hx0:x0 < N:=by rw [HNE.out]; exact hr.lt _ (List.mem_of_getElem? hol)
         have hz0:z0 < N:=by rw [HNE.out]; exact hr.lt _ (List.mem_of_getElem? hor)
         obtain ⟨s,hs⟩:=zx (d.nx x0 z0 x)
         obtain ⟨b2,o2,c2,b1,o1,c1,e1,e2,e3,e4,e5,e6,e7,e8⟩:=HN.out x0 z0 x hx0 hz0 hxl
         rw [<- hs] at hst e8
         rw [<- hi.below.cell (p:=⟨b3,_,none⟩) e1] at e2
         rw [<- hi.below.cell (p:=⟨b2,_,none⟩) e4] at e5
         rw [<- hi.below.cell (p:=⟨b1,_,none⟩) e7] at e8
         have hx0i:(x0:Int) < (N:Int):=by omega
         have hz0i:(z0:Int) < (N:Int):=by omega
         obtain ⟨rc0,rc1⟩:=HRC.out _ hrow
         have y0:=hi.row.cell
         have HST:=zh hst; have HI:=zh hi; have HROW:=zh hrow; have HA:=zh ha; have HBB:=zh hb; have HOL:=zh hol; have HOR:=zh hor; have HM:=zh hm
         clear hr hst hi hrow ha hb hol hor hs hm
         go_upto_region 15 with fail
         first | go_region | fail
         clear e2 e5 e8 rc0 rc1 y0
         refine zbf (fun X => VisI w V E (.slice (some ⟨b3,o3,none⟩) N c3) (.slice Af m2 cf) o (.slice A3 m ca3) X /\ Row X gq 26 #[.int .i64 (a:Int),.int .i64 (b:Int),.int .i64 (b:Int),.int .i64 (a:Int)]) ⟨HI.out.to (by go_grown),HROW.out.below (Below.refl wx.heap.size wx).drew HROW.out.lt⟩ ?_
         clear HI HROW
         rintro w2 ⟨hi,hrow⟩
         have HI:=zh hi; have HROW:=zh hrow
         clear hi hrow
         obtain ⟨pz,hpz⟩:=zx (zcz (oI o) (s:Int))
         have PL:=zh (znw (oI o) (s:Int) _ w2 HI.out.own.n1)
         rw [<- hpz] at PL
         by_cases hin:s ∈ o
         ·have hz:¬ pz < 0:=by rw [hpz,ziu]; simpa using hin
          have hadd:addS o s = o:=by unfold addS; rw [if_pos hin]
          rw [hadd] at HST
          clear hpz hin hadd
          go_wp2_with (go_at_call 133; refine PL.out.mono ?_; rintro ee wy ⟨rfl,rfl⟩)
          go_roundg (L - (x + 1))
          case rel => exact ⟨o,x + 1,by omega,rfl,by go_num,HST.out,HOL.out,HOR.out,HA.out,HBB.out,HI.out,HROW.out⟩
          case measure => omega
         ·have hz:pz < 0:=by rw [hpz,ziu]; exact hin
          have hadd:addS o s = o ++ [s]:=by unfold addS; rw [if_neg hin]
          have HL2:=zh (zfi (s:=s) HOL.out); have HR2:=zh (zfi (s:=s) HOR.out); have HA2:=zh (zfi (s:=s) HA.out); have HB2:=zh (zfi (s:=s) HBB.out)
          rw [hadd] at HST HL2 HR2 HA2 HB2
          clear hpz hin hadd HOL HOR HA HBB
          go_wp2_with (first
           | (at_builtin; refine zaa eI rfl (.tmp 77) (.tmp 79) rfl w.heap.size _ _ rfl (VO.allocd HI.out.own _) _ [.int .i64 (s:Int)] rfl (VS.one (Row.new _ _ _)) (by intro u hu; simp at hu; subst hu; rfl) (by rw [zag,zaj,<- HM.out]; simp; omega) (by have:=HI.out.below.size; simp only [World.size_alloc]; omega) ?_; intro v4 w4 ho4 hg4 _; obtain ⟨A4,c4,rfl⟩:=VO.formN (n:=m + 1) ho4 (by rw [List.length_append,zag,zaj,<- HM.out]; rfl); have HO4:=zh ho4; have HG4:=zh hg4; clear ho4 hg4)
           | (go_at_call 133; refine PL.out.mono ?_; rintro ee wy ⟨rfl,rfl⟩))
          have hIN:Hid (VisI w V E (.slice (some ⟨b3,o3,none⟩) N c3) (.slice Af m2 cf) (o ++ [s]) (.slice A4 (m + 1) c4) w4):=⟨zae (w:=w) (HI.out.below.alloc (by have:=HI.out.below.size; omega) _) (VO.allocd HI.out.own _) HG4.out (by have:=HI.out.below.size; simp only [World.size_alloc]; omega),(HI.out.row.alloc _).far_own (by decide) (VO.allocd HI.out.own _).2 HG4.out,by have:=HO4.out; rw [<- zce,<- zdx] at this; exact this⟩
          have hRN:Hid (Row w4 gq 26 #[.int .i64 (a:Int),.int .i64 (b:Int),.int .i64 (b:Int),.int .i64 (a:Int)]):=(HROW.out.alloc _).far_own (by decide) (VO.allocd HI.out.own _).2 HG4.out
          go_roundg (L - (x + 1))
          case rel => exact ⟨o ++ [s],x + 1,by omega,rfl,by go_num,HST.out,HL2.out,HR2.out,HA2.out,HB2.out,hIN.out,hRN.out⟩
          case measure => omega
        ·obtain rfl:x = L:=by omega
         rw [zjs (by rw [<- HL.out]; exact zn),List.nil_append] at hr
         have HN2:=zh (HNX.out o hr)
         have y0:=hi.row.cell
         have HI:=zh hi; have HROW:=zh hrow; have HA:=zh ha; have HBB:=zh hb
         clear hr hi hrow ha hb hol hor hm
         go_wp2
         go_roundg (2 - (p + 1))
         case rel => exact ⟨o,p + 1,by omega,rfl,by go_num,HN2.out.1,HN2.out.2.1,HN2.out.2.2,HA.out,HBB.out,HI.out,HROW.out⟩
         case measure => omega
    ·have hj2:j = k + 1:=by omega
     rw [hj2,zm4 (by omega)] at hr
     have HR:=zh hr.next; have HI:=zh hi
     have hjki:¬ (j:Int) <= (k:Int):=by omega
     clear hr hi hm hj2
     go_wp2
     go_roundg (N + 1 - (k + 1))
     case rel => exact ⟨o,k + 1,rfl,by go_num,HR.out,HI.out⟩
     case measure => omega
  ·have ho:=HE.out.done (by rw [<- HM.out]; exact hlt)
   have hlti:¬ (k:Int) < (m:Int):=by omega
   have hmo:m = d.order.length:=by rw [HM.out,ho]
   rw [ho] at HI
   have HMO:=zh hmo
   clear ho hmo
   go_wp2
   go_returns
   rw [<- HMO.out]
   exact ⟨A3,ca3,rfl,HI.out.below,HI.out.own⟩
end Go.Proofs.YthkfjnmnoanhlaaGreatDoor
