/- Part 27 of the proof; it says: lemmas and contracts. No conditions but those that each theorem states. -/
import Derived.BigQuiet
import Derived.Test.YthkfjnmnoanhlaaGreatDoorPr01
import Derived.Test.YthkfjnmnoanhlaaGreatDoorPr10
import Derived.Test.YthkfjnmnoanhlaaGreatDoorPr11
set_option linter.unusedSimpArgs false
set_option linter.unusedVariables false
set_option maxRecDepth 100000
set_option maxHeartbeats 32000000
namespace Go.Proofs.YthkfjnmnoanhlaaGreatDoor
open Go.RowKit
theorem own19 (d:Dta) (V:Nat) (hd:d.Fit V) (va:Value) (w:World) (hva:TD w va (d.raw V)) :
  Calls Tryz.prog 101 #[va] w fun e w' => ∃ A c,e = .returned (.slice A d.n c) /\ Below w.heap.size w w' /\ O1 w' w.heap.size (.slice A d.n c) (oI (List.range d.n)):=by
 obtain ⟨vn,vf,rfl,hnn,hff⟩:=hva
 have hvars:(d.raw V).vars = (V:Int):=rfl
 have hemp:(d.raw V).empty = (d.e:Int):=rfl
 rw [hvars,hemp]
 obtain ⟨b3,o3,c3,rfl,hcp1,hcp2,hLV⟩:=(show N3 w vn (nx3 d.n d.L d.nx) from hnn).lv hd.pos hd.L8.1
 obtain ⟨bk,ok,ck,rfl,hk1,hbk,hk2⟩:=(show NB w vf ((List.range d.n).map d.fin) from hff).at hd.pos
 have hsh:=za2 V hd.v3
 rw [<- hd.L] at hsh
 have hv3i:(V:Int) <= 3:=by have:=hd.v3; omega
 have hn64:=hd.n64; have hL8:=hd.L8.2; have hpos:=hd.pos
 have HD:=zh hd.ok; have HLV:=zh hLV; have HK2:=zh hk2
 clear hnn hff hvars hemp hLV hk2
 obtain ⟨N,hNN⟩:=zx d.n
 obtain ⟨E,hE⟩:=zx d.e
 rw [<- hNN] at hn64 hpos HK2 hk1 hcp1 HLV ⊢
 rw [<- hE]
 clear hNN hE hd hsh
 go_enter Tryz.func101,Tryz.ntmps101
 go_wp2
 refine zab (fun X => Below w.heap.size w X /\ Row X w.heap.size 25 #[.int .i64 (V:Int),.int .i64 (E:Int),.slice (some ⟨b3,o3,none⟩) N c3,.slice (some ⟨bk,ok,none⟩) N ck]) ⟨by go_grown,Row.new _ _ _⟩ ?_
 rintro W0 ⟨hb,hr⟩
 have HB:=zh hb; have HR:=zh hr
 clear hb hr
 go_loopg [3,4] N (fun gk q3 q4 W => ∃ i:Nat,i <= N /\ gk = N - i /\ q4 = .int .i64 i /\ Below w.heap.size w W /\ Row W w.heap.size 25 #[.int .i64 (V:Int),.int .i64 (E:Int),.slice (some ⟨b3,o3,none⟩) N c3,.slice (some ⟨bk,ok,none⟩) N ck] /\ O1 W w.heap.size q3 (oI (List.range i)))
 case atStart => exact ⟨0,Nat.zero_le _,rfl,rfl,HB.out,HR.out,VO.nil _ _ _⟩
 case round =>
  clear HB HR
  obtain ⟨i,hi,rfl,rfl,hb,hr,ho⟩:=hrel
  obtain ⟨A3,ca3,rfl⟩:=VO.formN (n:=i) ho (by rw [zag,zaj,List.length_range])
  obtain ⟨wl,hwl⟩:=zx wr
  subst hwl
  have HB:=zh hb; have HR:=zh hr; have HO:=zh ho
  have y0:=hr.cell
  clear hb hr ho
  by_cases hlt:i < N
  ·have hlti:(i:Int) < (N:Int):=by omega
   go_wp2_with (at_builtin; refine zaa eI rfl (.tmp 12) (.tmp 14) rfl w.heap.size _ _ rfl (VO.allocd HO.out _) _ [.int .i64 (i:Int)] rfl (VS.one (Row.new _ _ _)) (by intro u hu; simp at hu; subst hu; rfl) (by rw [zag,zaj,List.length_range]; simp; omega) (by have:=HB.out.size; simp only [World.size_alloc]; omega) ?_; intro v4 w4 ho4 hg4 _; obtain ⟨A4,c4,rfl⟩:=VO.formN (n:=i + 1) ho4 (by rw [List.length_append,zag,zaj,List.length_range]; rfl); have HO4:=zh ho4; have HG4:=zh hg4; clear ho4 hg4)
   have HB4:=zh (zae (w:=w) (HB.out.alloc (by have:=HB.out.size; omega) _) (VO.allocd HO.out _) HG4.out (by have:=HB.out.size; simp only [World.size_alloc]; omega))
   have HR4:=zh ((HR.out.alloc _).far_own (by decide) (VO.allocd HO.out _).2 HG4.out)
   have HO5:Hid (O1 w4 w.heap.size (.slice A4 (i + 1) c4) (oI (List.range (i + 1)))):=by
    have:=HO4.out
    rw [<- zce,<- zdx] at this
    unfold Hid; rw [List.range_succ]; exact this
   clear y0
   try go_wp2
   go_roundg (N - (i + 1))
   case rel => exact ⟨i + 1,by omega,rfl,by go_num,HB4.out,HR4.out,HO5.out⟩
   case measure => omega
  ·obtain rfl:i = N:=by omega
   go_wp2
   go_returns
   exact ⟨A3,ca3,rfl,HB.out,HO.out⟩
theorem zey (w:World) (n:Nat):Below w.heap.size w (w.drewN n):=⟨rfl,rfl,rfl,zn,fun _ _ => rfl⟩
def Dta.agr (d:Dta) (cl:Nat -> Nat) (s t q x:Nat):Bool:=cl (d.nx s q x) == cl (d.nx t q x) && cl (d.nx q s x) == cl (d.nx q t x)
theorem Dta.agree_all {d:Dta} {cl:Nat -> Nat} {s t:Nat} (h:∀ q,q < d.n -> ∀ x,x < d.L -> d.agr cl s t q x = true):d.agree cl s t = true:=by
 unfold Dta.agree
 rw [List.all_eq_true]
 intro q hq
 rw [List.all_eq_true]
 intro x hx
 exact h q (List.mem_range.1 hq) x (List.mem_range.1 hx)
theorem Dta.agree_not {d:Dta} {cl:Nat -> Nat} {s t q x:Nat} (hq:q < d.n) (hx:x < d.L) (h:d.agr cl s t q x = false):d.agree cl s t = false:=by
 cases e:d.agree cl s t with
 | false => rfl
 | true =>
  unfold Dta.agree at e
  have h1:=List.all_eq_true.1 (List.all_eq_true.1 e q (List.mem_range.2 hq)) x (List.mem_range.2 hx)
  exact absurd (show d.agr cl s t q x = true from h1) (by rw [h]; simp)
theorem agree19 (d:Dta) (V:Nat) (hd:d.Fit V) (cl:Nat -> Nat) (s t:Nat) (hs:s < d.n) (ht:t < d.n) (va vc:Value) (w:World) (hva:TD w va (d.raw V)) (hvc:N1 w vc (oI ((List.range d.n).map cl))) :
  Calls Tryz.prog 134 #[va,vc,.int .i64 (s:Int),.int .i64 (t:Int)] w fun e w' => e = .returned (.bool (d.agree cl s t)) /\ Below w.heap.size w w':=by
 obtain ⟨vn,vf,rfl,hnn,hff⟩:=hva
 have hvars:(d.raw V).vars = (V:Int):=rfl
 have hemp:(d.raw V).empty = (d.e:Int):=rfl
 rw [hvars,hemp]
 obtain ⟨b3,o3,c3,rfl,hcp1,hcp2,hLV⟩:=(show N3 w vn (nx3 d.n d.L d.nx) from hnn).lv hd.pos hd.L8.1
 obtain ⟨bk,ok,ck,rfl,hk1,hbk,hk2⟩:=(show NB w vf ((List.range d.n).map d.fin) from hff).at hd.pos
 have hsh:=za2 V hd.v3
 rw [<- hd.L] at hsh
 have hv3i:(V:Int) <= 3:=by have:=hd.v3; omega
 have hn64:=hd.n64; have hL8:=hd.L8.2; have hpos:=hd.pos
 have HD:=zh hd.ok; have HLV:=zh hLV; have HK2:=zh hk2
 clear hnn hff hvars hemp hLV hk2
 obtain ⟨bc,oc,cc,rfl,hc1,hc2,hbc,hcc⟩:∃ b o' c,vc = .slice (some ⟨b,o',none⟩) d.n c /\ d.n <= c /\ c <= 9223372036854775807 /\ b < w.heap.size /\ ∀ s,s < d.n -> w.cell? ⟨b,o' + s,none⟩ = some (.int .i64 (cl s:Int)):=by
  obtain ⟨A,c,e,h1,h2,h3⟩:=hvc.open
  have hln:((List.range d.n).map cl).length = d.n:=by simp
  rw [zaj,hln] at e h1
  have hat:∀ s,s < d.n -> (oI ((List.range d.n).map cl))[s]? = some ((cl s:Nat):Int):=fun s hs => oI_at (by rw [List.getElem?_map,List.getElem?_range hs]; rfl)
  obtain ⟨b,o',hA,hb,_⟩:=h3 0 _ (hat 0 hd.pos)
  exact ⟨b,o',c,by rw [e,hA],h1,h2,hb,fun s hs => by
   obtain ⟨b',o2,hA',_,hc⟩:=h3 s _ (hat s hs)
   rw [hA] at hA'
   simp only [Option.some.injEq,Addr.mk.injEq,and_true] at hA'
   obtain ⟨rfl,rfl⟩:=hA'
   exact hc⟩
 have HCC:=zh hcc
 obtain ⟨R,hR⟩:=zx (d.agree cl s t)
 rw [<- hR]
 have HRT:Hid ((∀ q,q < d.n -> ∀ x,x < d.L -> d.agr cl s t q x = true) -> R = true):=fun h => by rw [hR]; exact Dta.agree_all h
 have HRF:Hid (∀ q x,q < d.n -> x < d.L -> d.agr cl s t q x = false -> R = false):=fun q x h1 h2 h => by rw [hR]; exact Dta.agree_not h1 h2 h
 clear hvc hcc hR hd
 obtain ⟨L,hL⟩:=zx d.L
 obtain ⟨N,hNN⟩:=zx d.n
 obtain ⟨E,hE⟩:=zx d.e
 rw [<- hL] at hsh hL8 HLV HRT HRF
 rw [<- hNN] at hn64 hpos HK2 hk1 hcp1 HLV HCC hc1 hs ht HRT HRF ⊢
 rw [<- hE]
 have HL:=zh hL; have HNE:=zh hNN
 clear hNN hE hL
 have hsi:(s:Int) < (N:Int):=by omega
 have hti:(t:Int) < (N:Int):=by omega
 go_enter Tryz.func134,Tryz.ntmps134
 go_wp2
 refine zab (fun X => Below w.heap.size w X /\ Row X w.heap.size 25 #[.int .i64 (V:Int),.int .i64 (E:Int),.slice (some ⟨b3,o3,none⟩) N c3,.slice (some ⟨bk,ok,none⟩) N ck]) ⟨by go_grown,Row.new _ _ _⟩ ?_
 rintro W0 ⟨hb,hr⟩
 have HB:=zh hb; have HR:=zh hr
 clear hb hr
 go_loopg [9] N (fun gk q9 W => ∃ q:Nat,q <= N /\ gk = N - q /\ q9 = .int .i64 q /\ Below w.heap.size w W /\ Row W w.heap.size 25 #[.int .i64 (V:Int),.int .i64 (E:Int),.slice (some ⟨b3,o3,none⟩) N c3,.slice (some ⟨bk,ok,none⟩) N ck] /\ ∀ a,a < q -> ∀ x,x < L -> d.agr cl s t a x = true)
 case atStart => exact ⟨0,Nat.zero_le _,rfl,rfl,HB.out,HR.out,fun a ha => by omega⟩
 case round =>
  clear HB HR
  obtain ⟨q,hq,rfl,rfl,hb,hr,hall⟩:=hrel
  have HB:=zh hb; have HR:=zh hr; have HALL:=zh hall
  have y0:=hr.cell
  clear hb hr hall
  by_cases hlt:q < N
  ·have hlti:(q:Int) < (N:Int):=by omega
   obtain ⟨s2,s2o,s2c,k1,k2,k3,ks⟩:=HLV.out s hs
   obtain ⟨s1,s1o,s1c,k4,k5,k6,k7,ks1⟩:=ks q hlt
   obtain ⟨t2,t2o,t2c,l1,l2,l3,lt'⟩:=HLV.out t ht
   obtain ⟨t1,t1o,t1c,l4,l5,l6,l7,lt1⟩:=lt' q hlt
   obtain ⟨q2,q2o,q2c,m1,m2,m3,mq⟩:=HLV.out q hlt
   obtain ⟨u1,u1o,u1c,m4,m5,m6,m7,mu⟩:=mq s hs
   obtain ⟨v1,v1o,v1c,n4,n5,n6,n7,nv⟩:=mq t ht
   have KS:=zh ks1; have LT:=zh lt1; have MU:=zh mu; have NV:=zh nv
   have CELLS:Hid (∀ X,Below w.heap.size w X -> X.cell? ⟨b3,o3 + s,none⟩ = some (.slice (some ⟨s2,s2o,none⟩) N s2c) /\ X.cell? ⟨s2,s2o + q,none⟩ = some (.slice (some ⟨s1,s1o,none⟩) L s1c) /\ X.cell? ⟨b3,o3 + t,none⟩ = some (.slice (some ⟨t2,t2o,none⟩) N t2c) /\ X.cell? ⟨t2,t2o + q,none⟩ = some (.slice (some ⟨t1,t1o,none⟩) L t1c) /\ X.cell? ⟨b3,o3 + q,none⟩ = some (.slice (some ⟨q2,q2o,none⟩) N q2c) /\ X.cell? ⟨q2,q2o + s,none⟩ = some (.slice (some ⟨u1,u1o,none⟩) L u1c) /\ X.cell? ⟨q2,q2o + t,none⟩ = some (.slice (some ⟨v1,v1o,none⟩) L v1c)):=fun X hb =>
    ⟨(hb.cell (p:=⟨b3,_,none⟩) k1).trans k2,(hb.cell (p:=⟨s2,_,none⟩) k4).trans k5,(hb.cell (p:=⟨b3,_,none⟩) k1).trans l2,(hb.cell (p:=⟨t2,_,none⟩) l4).trans l5,(hb.cell (p:=⟨b3,_,none⟩) k1).trans m2,(hb.cell (p:=⟨q2,_,none⟩) m4).trans m5,(hb.cell (p:=⟨q2,_,none⟩) m4).trans n5⟩
   clear k1 k2 ks k4 k5 ks1 l1 l2 lt' l4 l5 lt1 m1 m2 mq m4 m5 mu n4 n5 nv
   go_wp2
   go_loopg [10] L (fun gk q10 W => ∃ x:Nat,x <= L /\ gk = L - x /\ q10 = .int .i64 x /\ Below w.heap.size w W /\ Row W w.heap.size 25 #[.int .i64 (V:Int),.int .i64 (E:Int),.slice (some ⟨b3,o3,none⟩) N c3,.slice (some ⟨bk,ok,none⟩) N ck] /\ ∀ y,y < x -> d.agr cl s t q y = true)
   case atStart => exact ⟨0,Nat.zero_le _,rfl,rfl,HB.out,HR.out,fun a ha => by omega⟩
   case round =>
    clear HB HR y0
    obtain ⟨x,hx,rfl,rfl,hb,hr,hax⟩:=hrel
    obtain ⟨W,hW⟩:=zx wr
    subst hW
    have HB:=zh hb; have HR:=zh hr; have HAX:=zh hax
    have y0:=hr.cell
    clear hr hax
    by_cases hxt:x < L
    ·have hxti:(x:Int) < (L:Int):=by omega
     obtain ⟨a1,ha1⟩:=zx (d.nx s q x)
     obtain ⟨a2,ha2⟩:=zx (d.nx t q x)
     obtain ⟨a3,ha3⟩:=zx (d.nx q s x)
     obtain ⟨a4,ha4⟩:=zx (d.nx q t x)
     have hn:=fun l r (h1:l < N) (h2:r < N) => HD.out.hn l r x (by rw [<- HNE.out]; exact h1) (by rw [<- HNE.out]; exact h2) (by rw [<- HL.out]; exact hxt)
     rw [<- HNE.out] at hn
     have n1:a1 < N:=by rw [ha1]; exact hn s q hs hlt
     have n2:a2 < N:=by rw [ha2]; exact hn t q ht hlt
     have n3:a3 < N:=by rw [ha3]; exact hn q s hlt hs
     have n4:a4 < N:=by rw [ha4]; exact hn q t hlt ht
     have i1:(a1:Int) < (N:Int):=by omega
     have i2:(a2:Int) < (N:Int):=by omega
     have i3:(a3:Int) < (N:Int):=by omega
     have i4:(a4:Int) < (N:Int):=by omega
     obtain ⟨z1,z2,z3,z4,z5,z6,z7⟩:=CELLS.out W hb
     have f1:=(hb.cell (p:=⟨s1,s1o + x,none⟩) k7).trans (KS.out x hxt)
     have f2:=(hb.cell (p:=⟨t1,t1o + x,none⟩) l7).trans (LT.out x hxt)
     have f3:=(hb.cell (p:=⟨u1,u1o + x,none⟩) m7).trans (MU.out x hxt)
     have f4:=(hb.cell (p:=⟨v1,v1o + x,none⟩) n7).trans (NV.out x hxt)
     rw [<- ha1] at f1; rw [<- ha2] at f2; rw [<- ha3] at f3; rw [<- ha4] at f4
     have g1:=(hb.cell (p:=⟨bc,oc + a1,none⟩) hbc).trans (HCC.out a1 n1)
     have g2:=(hb.cell (p:=⟨bc,oc + a2,none⟩) hbc).trans (HCC.out a2 n2)
     have g3:=(hb.cell (p:=⟨bc,oc + a3,none⟩) hbc).trans (HCC.out a3 n3)
     have g4:=(hb.cell (p:=⟨bc,oc + a4,none⟩) hbc).trans (HCC.out a4 n4)
     have HAG:Hid (d.agr cl s t q x = (cl a1 == cl a2 && cl a3 == cl a4)):=by unfold Hid Dta.agr; rw [ha1,ha2,ha3,ha4]
     obtain ⟨p1,hp1⟩:=zx (cl a1)
     obtain ⟨p2,hp2⟩:=zx (cl a2)
     obtain ⟨p3,hp3⟩:=zx (cl a3)
     obtain ⟨p4,hp4⟩:=zx (cl a4)
     rw [<- hp1,<- hp2,<- hp3,<- hp4] at HAG
     rw [<- hp1] at g1; rw [<- hp2] at g2; rw [<- hp3] at g3; rw [<- hp4] at g4
     clear ha1 ha2 ha3 ha4 hn n1 n2 n3 n4 hp1 hp2 hp3 hp4 hb
     by_cases e1:p1 = p2
     ·subst e1
      have d1:((p1:Int) != p1) = false:=by simp
      by_cases e2:p3 = p4
      ·subst e2
       have d2:((p3:Int) != p3) = false:=by simp
       have HG1:Hid (d.agr cl s t q x = true):=by unfold Hid; rw [HAG.out]; simp
       go_upto_region 7 with fail
       first | go_quiet (fail) | fail
       refine zbf (fun X => Below w.heap.size w X /\ Row X w.heap.size 25 #[.int .i64 (V:Int),.int .i64 (E:Int),.slice (some ⟨b3,o3,none⟩) N c3,.slice (some ⟨bk,ok,none⟩) N ck]) ⟨HB.out.trans ((zey W _).mono HB.out.size),HR.out.below (zey W _) HR.out.lt⟩ ?_
       clear HB HR y0 z1 z2 z3 z4 z5 z6 z7 f1 f2 f3 f4 g1 g2 g3 g4
       rintro X ⟨hb,hr⟩
       have HB:=zh hb; have HR:=zh hr
       clear hb hr
       go_wp2
       go_roundg (L - (x + 1))
       case rel => exact ⟨x + 1,by omega,rfl,by go_num,HB.out,HR.out,fun y hy => by
        by_cases e:y = x
        ·subst e; exact HG1.out
        ·exact HAX.out y (by omega)⟩
       case measure => omega
      ·have d2:((p3:Int) != p4) = true:=by rw [bne_iff_ne]; omega
       have HG1:Hid (R = false):=HRF.out q x hlt hxt (by rw [HAG.out]; simp [e2])
       clear e2
       go_upto_region 7 with fail
       first | go_quiet (fail) | fail
       go_wp2
       go_returns
       exact ⟨by rw [HG1.out]; rfl,HB.out.trans ((zey W _).mono HB.out.size)⟩
     ·have d1:((p1:Int) != p2) = true:=by rw [bne_iff_ne]; omega
      have HG1:Hid (R = false):=HRF.out q x hlt hxt (by rw [HAG.out]; simp [e1])
      clear e1
      go_upto_region 7 with fail
      first | go_quiet (fail) | fail
      go_wp2
      go_returns
      exact ⟨by rw [HG1.out]; rfl,HB.out.trans ((zey W _).mono HB.out.size)⟩
    ·obtain rfl:x = L:=by omega
     clear hb
     go_wp2
     go_roundg (N - (q + 1))
     case rel => exact ⟨q + 1,by omega,rfl,by go_num,HB.out,HR.out,fun a ha y hy => by
      by_cases e:a = q
      ·subst e; exact HAX.out y hy
      ·exact HALL.out a (by omega) y hy⟩
     case measure => omega
  ·obtain rfl:q = N:=by omega
   have HG1:Hid (R = true):=HRT.out HALL.out
   go_wp2
   go_returns
   exact ⟨by rw [HG1.out]; rfl,HB.out⟩
end Go.Proofs.YthkfjnmnoanhlaaGreatDoor
