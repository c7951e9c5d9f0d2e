/- Part 38 of the proof; it says: lemmas and contracts. No conditions but those that each theorem states. -/
import Derived.Test.YthkfjnmnoanhlaaGreatDoorPr01
import Derived.Test.YthkfjnmnoanhlaaGreatDoorPr31
import Derived.Test.YthkfjnmnoanhlaaGreatDoorPr37
set_option linter.unusedSimpArgs false
set_option linter.unusedVariables false
namespace Go.Proofs.YthkfjnmnoanhlaaGreatDoor
open Go.RowKit
theorem BO.at {w:World} {B n c:Nat} {A:Option Addr} {rows:List (List (Option Bt))} (h:BO w B (.slice A n c) rows) {i:Nat} {os:List (Option Bt)} (hi:rows[i]? = some os) (hp:0 < os.length) :
  ∃ g gI cI,A = some ⟨g,0,none⟩ /\ g < w.heap.size /\ n = rows.length /\ n <= c /\ c <= 9223372036854775807 /\ w.cell? ⟨g,i,none⟩ = some (.slice (some ⟨gI,0,none⟩) os.length cI) /\ os.length <= cI /\ cI <= 9223372036854775807 /\ gI < w.heap.size /\
   ∀ s o,os[s]? = some o -> ∃ x,FV w B [x,.bool o.isSome] o /\ w.cell? ⟨gI,s * 2,none⟩ = some x /\ w.cell? ⟨gI,s * 2 + 1,none⟩ = some (.bool o.isSome):=by
 obtain ⟨vs,h1,h2,h3⟩:=h
 have hil:i < vs.length:=by rw [h2]; exact (List.getElem?_eq_some_iff.1 hi).1
 obtain ⟨g,cap,cs,he,_,hr,hc1,hc2,hcell⟩:=h1.row (by omega)
 simp only [Value.slice.injEq] at he
 obtain ⟨rfl,rfl,rfl⟩:=he
 have hu:vs[i]? = some (vs[i]'hil):=List.getElem?_eq_getElem _
 obtain ⟨os',h4,h5⟩:=h3 i _ hu
 rw [hi] at h4
 obtain rfl:=Option.some.inj h4
 obtain ⟨gI,cI,cs2,he2,_,hr2,hd1,hd2,hcell2⟩:=h5.open hp
 exact ⟨g,gI,cI,rfl,hr.lt,h2,hc1,hc2,by rw [hcell i _ hu,he2],hd1,hd2,hr2.lt,hcell2⟩
theorem BO.form {w:World} {B:Nat} {v:Value} {rows:List (List (Option Bt))} (h:BO w B v rows):∃ A c,v = .slice A rows.length c:=by
 obtain ⟨vs,h1,h2,_⟩:=h
 exact VO.formN h1 h2
set_option maxRecDepth 100000 in
set_option maxHeartbeats 16000000 in
theorem zfs (r:Raw) (V:Nat) (hd:r.dta.Fit V) (hr:r = r.dta.raw V) (h0:r.check = 0) (h1:za8 r = false) (va:Value) (w:World) (hva:TD w va r) (hs:Small r) :
  Calls Tryz.prog 20 #[va] w (RetSm w (zas r.dta)):=by
 have hem:=fun W (h:Below w.heap.size w W) => zkb r va W (hva.below h zn) hs
 rw [h1,h0] at hem
 have hne:zb7 r.dta = false:=by unfold za8 at h1; rw [decide_eq_true h0] at h1; simpa using h1
 have hmi:=fun W (h:Below w.heap.size w W) => zef r.dta V hd va W (by rw [<- hr]; exact hva.below h zn)
 obtain ⟨m,hm⟩:=zx r.dta.mini
 have hmf:m.Fit V:=by rw [hm]; exact ⟨Dta.mini_ok hd.ok,Nat.le_trans (Dta.mini_n hd.ok) hd.n64,hd.v3,(r.dta.mini_canon hd.ok).2.1.trans hd.L⟩
 have hso:zas r.dta = match zb2 m with
  | some t => (t.enc 0,true,0)
  | none => ([],false,4):=by unfold zas; rw [hne,hm]; rfl
 rw [<- hm] at hmi
 have HBE:=zh (fun (W:World) (mv:Value) (h:TD W mv (m.raw V)) => best20 m V hmf mv W h)
 obtain ⟨R,hR⟩:=zx (zas r.dta)
 rw [<- hR] at hso ⊢
 have HEM:=zh hem; have HMI:=zh hmi; have HSO:=zh hso; have HMF:=zh hmf
 obtain ⟨A1,c1,A2,c2,rfl⟩:=hva.form
 obtain ⟨n1,g1⟩:=zx r.next.length
 obtain ⟨n2,g2⟩:=zx r.fin.length
 obtain ⟨V1,g3⟩:=zx r.vars
 obtain ⟨E1,g4⟩:=zx r.empty
 rw [<- g1,<- g2,<- g3,<- g4] at HEM HMI ⊢
 clear hem hmi hso hmf hva hR hm g1 g2 g3 g4 hd hs hr h0 h1 hne
 go_enter Tryz.func20,Tryz.ntmps20
 go_upto_region 1 with fail
 refine zab (fun W => Below w.heap.size w W /\ Row W w.heap.size 25 #[.int .i64 V1,.int .i64 E1,.slice A1 n1 c1,.slice A2 n2 c2]) ⟨by go_grown,Row.new _ _ _⟩ ?_
 rintro W ⟨hb,r1⟩
 have y0:=r1.cell
 have HB:=zh hb; have R1:=zh r1
 clear hb r1
 go_upto_region 2 with (go_at_call 22; refine (HEM.out _ HB.out).mono ?_; rintro e w2 ⟨rfl,hb2⟩; have HB2:=zh (HB.out.trans (hb2.mono HB.out.size)); have R2:=zh (R1.out.below hb2 R1.out.lt); clear hb2)
 clear y0 HB R1 HEM
 have y0:=R2.out.cell
 go_upto_region 5 with (go_at_call 53; refine (HMI.out _ HB2.out).mono ?_; intro e w6 h6; obtain ⟨A6,c6,A7,c7,rfl,hb6,ht6⟩:=h6.unfold; have HT:=zh ht6; have HB6:=zh (HB2.out.trans (hb6.mono HB2.out.size)); clear h6 hb6 ht6)
 clear y0
 have hsz2:=HB2.out.size
 refine zab (fun X => ∃ gm,gm = w6.heap.size /\ Below w.heap.size w X /\ TDO X w.heap.size (.agg #[.int .i64 (m.raw V).vars,.int .i64 (m.raw V).empty,.slice A6 (m.raw V).next.length c6,.slice A7 (m.raw V).fin.length c7]) (m.raw V) /\ Row X gm 25 #[.int .i64 (m.raw V).vars,.int .i64 (m.raw V).empty,.slice A6 (m.raw V).next.length c6,.slice A7 (m.raw V).fin.length c7])
  ⟨_,rfl,by have h1:=HB6.out; have h2:=h1.size; go_grown,(HT.out.mono hsz2).below (Below.alloc (Below.refl _ _) zn _) zn,Row.new _ _ _⟩ ?_
 clear HT HB6 HB2 R2 HMI
 rintro X ⟨gm,hgm,hb,htd,hrm⟩
 rw [<- hgm]
 have hmv:(m.raw V).vars = (V:Int):=rfl
 have hme:(m.raw V).empty = (m.e:Int):=rfl
 rw [hmv,hme,(m.raw_len V).1,(m.raw_len V).2] at htd hrm
 rw [hmv,hme,(m.raw_len V).1,(m.raw_len V).2]
 have HBX:=zh hb; have HTD:=zh htd; have RM:=zh hrm
 have HCB:=zh (HBE.out X _ htd.td)
 have hn64:=HMF.out.n64
 have hpos:=HMF.out.pos
 have hOK:=zh HMF.out.ok
 have HSL:=zh (fun n => zbr m (zan m n) n)
 obtain ⟨N,hN⟩:=zx m.n
 obtain ⟨E,hE⟩:=zx m.e
 rw [<- hN,<- hE] at HTD RM HCB ⊢
 rw [<- hN] at hn64 hpos HSL
 have HNN:=zh hN
 clear hb htd hrm hgm hmv hme hN hE hsz2 HBE
 have y0:=RM.out.cell
 go_upto_region 6 with (go_at_call 68; refine HCB.out.mono ?_; rintro e w3 ⟨u3,z3,rfl,hb3,hbest⟩; have HB3:=zh hb3; have HBE3:=zh hbest; have RM3:=zh (RM.out.below hb3 RM.out.lt); have HT3:=zh (HTD.out.below hb3 zn); have HBW3:=zh (HBX.out.trans (hb3.mono HBX.out.size)); clear hb3 hbest)
 clear y0 RM HTD HCB
 rcases HBE3.out with ⟨n,hn31,rfl,hno,⟨bb,hbb⟩,hbo⟩ | ⟨rfl,hno,A9,n9,c9,rfl⟩
 ·have hn0:¬ (n:Int) < 0:=by omega
  have HNO:=zh hno; have HBB:=zh hbb
  obtain ⟨A9,c9,rfl⟩:=hbo.form
  rw [zav] at hbo ⊢
  obtain ⟨gO,gI,cI,rfl,hgO,-,hc9,hc9',cO,hcI1,hcI2,hgI,hcells⟩:=hbo.at (zbi m (n + 1) n (by omega)) (by rw [HSL.out]; exact hpos)
  rw [HSL.out] at cO hcI1
  have HCE:=zh (fun s (hs:s < N) => hcells s (rowS m n s) (znf (by rw [<- HNN.out]; exact hs)))
  have HCO:=zh cO
  obtain ⟨vnm,vfm,hagg,-,hfb⟩:=HT3.out
  have e4:=Option.some.inj (congrArg (fun a:Value => match a with | .agg cs => cs[3]? | _ => none) hagg)
  obtain ⟨bk,ok,ck,hfe,hk1,hbk,hk2⟩:=(show NB w3 (.slice A7 N c7) ((List.range m.n).map m.fin) from by rw [show Value.slice A7 N c7 = vfm from e4]; exact hfb.nb).at HMF.out.pos
  rw [<- HNN.out] at hfe hk1 hk2
  simp only [Value.slice.injEq,true_and] at hfe
  obtain ⟨hfe1,hfe2⟩:=hfe
  subst hfe1
  subst hfe2
  have HK2:=zh hk2
  have hXB:=HBX.out.size
  clear hno hbb hbo hcells cO e4 hagg hfb hk2 HBE3 HT3 hXB
  have y0:=RM3.out.cell
  go_wp2
  clear y0
  have hnn1:(n:Int) < (n:Int) + 1:=by omega
  go_loopg [11,12,13] N (fun gk q11 q12 q13 wr => ∃ s:Nat,s <= N /\ gk = N - s /\ q13 = .int .i64 s /\ Below w3.heap.size w3 wr /\ q12 = .bool (bstK m (rowS m n) s).isSome /\ FV wr X.heap.size [q11,q12] (bstK m (rowS m n) s))
  case atStart => exact ⟨0,by omega,rfl,rfl,Below.refl _ _,rfl,rfl⟩
  case round =>
   obtain ⟨s,hs,rfl,rfl,hbw,rfl,hfv⟩:=hrel
   have HBW:=zh hbw; have HFV:=zh hfv
   obtain ⟨ob,hob⟩:=zx (bstK m (rowS m n) s)
   rw [<- hob] at HFV ⊢
   obtain ⟨Ab,nb,cb,hqb⟩:=HFV.out.form
   simp only [List.cons.injEq,and_true] at hqb
   obtain rfl:=hqb
   have HOB:=zh hob
   clear hbw hfv hob
   by_cases hlt:s < N
   ·have hlti:(s:Int) < (N:Int):=by omega
    obtain ⟨x,hfx,c0,c1'⟩:=HCE.out s hlt
    obtain ⟨o,ho⟩:=zx (rowS m n s)
    rw [<- ho] at hfx c1'
    obtain ⟨Ax,nx,cx,hxe⟩:=hfx.form
    simp only [List.cons.injEq,and_true] at hxe
    subst hxe
    obtain ⟨qo,hqo⟩:=zx o.isSome
    rw [<- hqo] at c1'
    obtain ⟨qf,hqf⟩:=zx (m.fin s)
    have cf:=(HBW.out.cell (p:=⟨bk,_,none⟩) hbk).trans (HK2.out s hlt)
    rw [<- hqf] at cf
    have c0:=(HBW.out.cell (p:=⟨gI,_,none⟩) hgI).trans c0
    have c1':=(HBW.out.cell (p:=⟨gI,_,none⟩) hgI).trans c1'
    have cO:=(HBW.out.cell (p:=⟨gO,_,none⟩) hgO).trans HCO.out
    have HQO:=zh hqo; have HQF:=zh hqf; have HO:=zh ho; have HFX:=zh hfx
    have yM:=(RM3.out.below HBW.out RM3.out.lt).cell
    clear ho hqo hqf hfx
    go_upto_region 14 with fail
    refine zab (fun Z => Below w3.heap.size w3 Z /\ FV Z X.heap.size [.slice Ab nb cb,.bool ob.isSome] ob /\ FV Z X.heap.size [.slice Ax nx cx,.bool o.isSome] o /\ ∃ gt,gt = wr.heap.size /\ Row Z gt 94 #[.slice Ax nx cx,.bool qo] /\ Row Z gm 25 #[.int .i64 (V:Int),.int .i64 (E:Int),.slice A6 N c6,.slice (some ⟨bk,ok,none⟩) N c7] /\ Z.cell? ⟨bk,ok + s,none⟩ = some (.bool qf))
     ⟨by have h1:=HBW.out; have h2:=h1.size; go_grown,HFV.out.below (Below.alloc (Below.refl _ _) zn _) zn,(HFX.out.below HBW.out zn).below (Below.alloc (Below.refl _ _) zn _) zn,_,rfl,Row.new _ _ _,(RM3.out.below HBW.out RM3.out.lt).alloc _,((Below.alloc (Below.refl wr.heap.size wr) zn _).cell (p:=⟨bk,_,none⟩) (Nat.lt_of_lt_of_le hbk HBW.out.size)).trans cf⟩ ?_
    clear c0 c1' cf cO yM HBW HFV HFX
    rintro Z ⟨hbz,hfb,hfx,gt,hgt,hrt,hrmz,cf⟩
    rw [<- hgt]
    have hgtz:=hrt.lt
    have y1:=hrt.cell; have y2:=hrmz.cell
    have HBZ:=zh hbz; have HFB:=zh hfb; have HFX:=zh hfx
    clear hbz hfb hfx hrt hrmz hgt
    cases qf with
    | false =>
     have hsk:Hid (bstK m (rowS m n) (s + 1) = ob):=by unfold Hid; rw [HOB.out]; exact zdg (by rw [<- HQF.out]; rfl)
     go_wp2
     go_roundg (N - (s + 1))
     case rel => exact ⟨s + 1,by omega,rfl,by go_num,HBZ.out,by rw [hsk.out],by rw [hsk.out]; exact HFB.out⟩
     case measure => omega
    | true =>
     cases o with
     | none =>
      have hqo:qo = false:=HQO.out
      subst hqo
      have hsk:Hid (bstK m (rowS m n) (s + 1) = ob):=by unfold Hid; rw [HOB.out]; exact zdg (by rw [<- HQF.out,<- HO.out]; rfl)
      go_wp2
      go_roundg (N - (s + 1))
      case rel => exact ⟨s + 1,by omega,rfl,by go_num,HBZ.out,by rw [hsk.out],by rw [hsk.out]; exact HFB.out⟩
      case measure => omega
     | some t =>
      have hqo:qo = true:=HQO.out
      subst hqo
      have htk:Hid (bstK m (rowS m n) (s + 1) = zaz ob t):=by unfold Hid; rw [HOB.out]; exact zjc HQF.out.symm HO.out.symm
      have hts:t.size = n:=zk3 hOK.out (by rw [<- HNN.out]; exact hlt) HO.out.symm
      have HTS:=zh hts
      obtain ⟨ut,hut,htt⟩:=HFX.out
      simp only [List.cons.injEq,and_true] at hut
      obtain ⟨rfl,-⟩:=hut
      have HTT:=zh htt
      clear hts htt
      cases ob with
      | none =>
       simp only [Option.isSome]
       have hsk:Hid (bstK m (rowS m n) (s + 1) = some t):=htk.out
       go_wp2
       go_roundg (N - (s + 1))
       case rel => exact ⟨s + 1,by omega,rfl,by go_num,HBZ.out,by rw [hsk.out]; rfl,by rw [hsk.out]; exact ⟨_,rfl,HTT.out⟩⟩
       case measure => omega
      | some bo =>
       simp only [Option.isSome]
       obtain ⟨ub,hub,htb⟩:=HFB.out
       simp only [List.cons.injEq,and_true] at hub
       obtain ⟨rfl,-⟩:=hub
       have hbs:bo.size = n:=zjd hOK.out (by rw [<- HNN.out]; omega) HOB.out.symm
       have hcmp:=zk7 (t.enc 0) (bo.enc 0) _ _ Z HTT.out.ts htb.ts
       rw [zez (by have:=HTS.out; omega) (by omega) (by have:=HTS.out; omega)] at hcmp
       obtain ⟨cq,hcq⟩:=zx (cmpL t.code bo.code)
       rw [<- hcq] at hcmp
       have HCMP:=zh hcmp; have HCQ:=zh hcq; have HTB:=zh htb
       clear hcmp hcq htb hbs
       by_cases hlt3:cq < 0
       ·have hsk:Hid (bstK m (rowS m n) (s + 1) = some t):=by unfold Hid; rw [htk.out]; unfold zaz; dsimp only; rw [if_pos (by rw [<- HCQ.out]; exact hlt3)]
        go_wp2_with (go_at_call 69; refine HCMP.out.mono ?_; rintro e w6 ⟨rfl,hb6⟩; have HB6:=zh hb6; have y3:=fun i => (hb6.cell (p:=⟨gt,i,none⟩) hgtz).trans (y1 i); clear hb6 y1)
        go_roundg (N - (s + 1))
        case rel => exact ⟨s + 1,by omega,rfl,by go_num,HBZ.out.trans (HB6.out.mono HBZ.out.size),by rw [hsk.out]; rfl,by rw [hsk.out]; exact ⟨_,rfl,HTT.out.below HB6.out zn⟩⟩
        case measure => omega
       ·have hsk:Hid (bstK m (rowS m n) (s + 1) = some bo):=by unfold Hid; rw [htk.out]; unfold zaz; dsimp only; rw [if_neg (by rw [<- HCQ.out]; exact hlt3)]
        go_wp2_with (go_at_call 69; refine HCMP.out.mono ?_; rintro e w6 ⟨rfl,hb6⟩; have HB6:=zh hb6; clear hb6 y1)
        go_roundg (N - (s + 1))
        case rel => exact ⟨s + 1,by omega,rfl,by go_num,HBZ.out.trans (HB6.out.mono HBZ.out.size),by rw [hsk.out]; rfl,by rw [hsk.out]; exact ⟨_,rfl,HTB.out.below HB6.out zn⟩⟩
        case measure => omega
   ·obtain rfl:N = s:=by omega
    have hlti:¬ (N:Int) < (N:Int):=by omega
    have hob:=HOB.out
    rw [show bstK m (rowS m n) N = bestS m n from by rw [HNN.out]; exact zem m n,HBB.out] at hob
    subst hob
    obtain ⟨ub,hub,htb⟩:=HFV.out
    simp only [List.cons.injEq,and_true] at hub
    obtain ⟨rfl,-⟩:=hub
    have HTB:=zh htb
    have HRR:Hid (R = (bb.enc 0,true,0)):=by
     unfold Hid
     rw [HSO.out,show zb2 m = some bb from zek (by omega) HBB.out HNO.out]
    clear htb
    have y0:=(RM3.out.below HBW.out RM3.out.lt).cell
    go_wp2
    go_returns
    exact ⟨_,by rw [HRR.out]; rfl,HBW3.out.trans (HBW.out.mono HBW3.out.size),by rw [HRR.out]; exact HTB.out.mono HBX.out.size⟩
 ·have HRR:Hid (R = ([],false,4)):=by
   unfold Hid
   rw [HSO.out,show zb2 m = none from List.findSome?_eq_none_iff.2 (fun j hj => hno j (List.mem_range.1 hj))]
  clear hno HBE3
  go_wp2
  go_returns
  exact ⟨_,by rw [HRR.out]; rfl,HBW3.out,by rw [HRR.out]; exact TO.nil _ _⟩
theorem zgr (r:Raw) (x:Value) (w:World) (hv:TD w x r) (hs:Small r):Calls Tryz.prog 20 #[x] w (RetSm w (smAny r)):=by
 by_cases h0:r.check = 0
 ·rw [show smAny r = zas r.dta by unfold smAny; simp [h0]]
  obtain ⟨V,hV,hd,hr⟩:=Raw.check_dta h0
  cases h1:za8 r with
  | false => exact zfs r V hd hr h0 h1 x w hv hs
  | true =>
   have he:zb7 r.dta = true:=by unfold za8 at h1; simpa using (Bool.and_eq_true _ _ ▸ h1).2
   rw [show zas r.dta = ([],false,0) by unfold zas; rw [he]; rfl]
   exact zft r x w hv hs h0 h1
 ·rw [show smAny r = ([],false,r.check) by unfold smAny; simp [h0]]
  exact zgq r x w hv hs h0
end Go.Proofs.YthkfjnmnoanhlaaGreatDoor
