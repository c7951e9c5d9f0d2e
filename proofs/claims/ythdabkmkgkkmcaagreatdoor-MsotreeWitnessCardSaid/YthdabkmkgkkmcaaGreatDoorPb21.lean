/- Part 21 of the proof; it says: lemmas and contracts. No conditions but those that each theorem states. -/
import Derived.Test.YthdabkmkgkkmcaaGreatDoorPb01
import Derived.Test.YthdabkmkgkkmcaaGreatDoorPb05
import Derived.Test.YthdabkmkgkkmcaaGreatDoorPb10
import Derived.Test.YthdabkmkgkkmcaaGreatDoorPb16
import Derived.Test.YthdabkmkgkkmcaaGreatDoorPb18
import Derived.Test.YthdabkmkgkkmcaaGreatDoorPb20
set_option linter.unusedSimpArgs false
set_option linter.unusedVariables false
set_option maxRecDepth 100000
set_option maxHeartbeats 32000000
namespace Go.Proofs.YthdabkmkgkkmcaaGreatDoor
open Go.RowKit
structure SzS (w:World) (go n V E:Nat) (vn vf:Value) (P:List (Nat × Bt)) (W:World):Prop where
 below:Below w.heap.size w W
 rd:Row W w.heap.size 30 #[.int .i64 (V:Int),.int .i64 (E:Int),vn,vf]
 fr:FR W w.heap.size (.slice (some ⟨go,0,none⟩) n n) (osP n P)
theorem SzS.to {w W W':World} {go n V E:Nat} {vn vf:Value} {P:List (Nat × Bt)} (h:SzS w go n V E vn vf P W) (hb:Below W.heap.size W W'):SzS w go n V E vn vf P W' :=
 ⟨h.below.trans (hb.mono h.below.size),h.rd.below hb h.rd.lt,h.fr.below hb zn⟩
def SzOK (sm:Nat -> Nat -> Option Bt) (k:Nat):Prop:=∀ i l b,i <= k -> sm i l = some b -> b.size = i
theorem zoj {d:Dta} {sm:Nat -> Nat -> Option Bt} {k:Nat} (h:SzOK sm k) {i l r x:Nat} (hi:i <= k + 1) (hik:i <= k \/ l = 0 /\ r = 0 /\ x = 0):∀ p ∈ preK d sm k i l r x,p.2.size = k + 1:=by
 have hX:∀ i l r x,i <= k -> ∀ p ∈ kX d sm k i l r x,p.2.size = k + 1:=by
  intro i l r x hi p hp
  unfold kX at hp
  cases e1:sm i l with
  | none => rw [e1] at hp; simp at hp
  | some a =>
   cases e2:sm (k - i) r with
   | none => rw [e1,e2] at hp; simp at hp
   | some b =>
    rw [e1,e2] at hp
    simp at hp
    subst hp
    simp only [Bt.size]
    have:=h i l a hi e1; have:=h (k - i) r b (by omega) e2
    omega
 have hI:∀ i,i <= k -> ∀ p ∈ kI d sm k i,p.2.size = k + 1:=by
  intro i hi p hp
  obtain ⟨l,_,hp⟩:=List.mem_flatMap.1 hp
  obtain ⟨r,_,hp⟩:=List.mem_flatMap.1 hp
  obtain ⟨x,_,hp⟩:=List.mem_flatMap.1 hp
  exact hX i l r x hi p hp
 intro p hp
 unfold preK at hp
 rcases List.mem_append.1 hp with hp | hp
 ·obtain ⟨j,hj,hp⟩:=List.mem_flatMap.1 hp
  exact hI j (by have:=List.mem_range.1 hj; omega) p hp
 ·rcases hik with hik | ⟨rfl,rfl,rfl⟩
  ·rcases List.mem_append.1 hp with hp | hp
   ·obtain ⟨l',_,hp⟩:=List.mem_flatMap.1 hp
    obtain ⟨r',_,hp⟩:=List.mem_flatMap.1 hp
    obtain ⟨x',_,hp⟩:=List.mem_flatMap.1 hp
    exact hX i l' r' x' hik p hp
   ·rcases List.mem_append.1 hp with hp | hp
    ·obtain ⟨r',_,hp⟩:=List.mem_flatMap.1 hp
     obtain ⟨x',_,hp⟩:=List.mem_flatMap.1 hp
     exact hX i l r' x' hik p hp
    ·obtain ⟨x',_,hp⟩:=List.mem_flatMap.1 hp
     exact hX i l r x' hik p hp
  ·simp at hp
theorem zrf {P:List (Nat × Bt)} {s m:Nat} (h:∀ p ∈ P,p.2.size = m) {b:Bt} (hb:minB none (Dta.ofS P s) = some b):b.size = m:=by
 rcases zdr (Dta.ofS P s) with ⟨h1,_⟩ | ⟨c,h1,h2,_⟩
 ·rw [h1] at hb; cases hb
 ·rw [h1] at hb
  cases hb
  obtain ⟨p,hp,rfl⟩:=List.mem_map.1 h2
  exact h p (List.mem_filter.1 hp).1
theorem join_bt {x:Nat} {a b:Bt} (h:a.size + b.size <= 30):joinE (x:Int) (a.enc 0) (b.enc 0) = ((Bt.node (x:Int) a b).enc 0,0):=by
 unfold joinE
 rw [if_neg (by rw [zex a (by omega),zex b (by omega)]; simp),if_neg (by rw [Bt.enc_len,Bt.enc_len]; omega),zpf]
theorem zmj (d:Dta) (V:Nat) (hd:d.Fit V) (va v:Value) (k:Nat) (hk:k <= 30) (rows:List (List (Option Bt))) (w:World) (hva:TD w va (d.raw V)) (hv:SmS w v rows) (hrl:rows.length = k + 1) (hrn:∀ os ∈ rows,os.length = d.n) (hsz:SzOK (fun i l => (rows.getD i []).getD l none) k) :
  Calls Tryz.prog 101 #[va,.int .i64 ((k:Int) + 1),v] w fun e w' => ∃ v',e = .returned v' /\ Below w.heap.size w w' /\ FR w' w.heap.size v' (sizR d rows (k + 1)):=by
 obtain ⟨vn,vf,rfl,hn,hff⟩:=hva
 have hvars:(d.raw V).vars = (V:Int):=rfl
 have hemp:(d.raw V).empty = (d.e:Int):=rfl
 rw [hvars,hemp]
 obtain ⟨b3,o3,c3,hN⟩:=(show N3 w vn (nx3 d.n d.L d.nx) from hn).nx hd.pos hd.L8.1
 obtain rfl:=hN.form
 obtain ⟨A2,c2,rfl,_⟩:=hff.open
 rw [(d.raw_len V).2]
 obtain ⟨Av,cv,rfl,hv1,hv2⟩:∃ A c,v = .slice A (k + 1) c /\ k + 1 <= c /\ c <= 9223372036854775807:=by
  obtain ⟨vs,h1,h2,_⟩:=id hv
  obtain ⟨A,c,e,h3,h4,_⟩:=h1.open
  rw [h2,hrl] at e h3
  exact ⟨A,c,e,h3,h4⟩
 obtain ⟨sm,hsm⟩:∃ sm:Nat -> Nat -> Option Bt,sm = fun i l => (rows.getD i []).getD l none:=⟨_,rfl⟩
 rw [<- hsm] at hsz
 have hres:sizR d rows (k + 1) = osP d.n (d.cands sm k):=by rw [hsm]; rfl
 have hat:∀ i,i <= k -> ∃ b o u,Av = some ⟨b,o,none⟩ /\ b < w.heap.size /\ w.cell? ⟨b,o + i,none⟩ = some u /\ ∃ os,os.length = d.n /\ FR w 0 u os /\ ∀ l,l < d.n -> os[l]? = some (sm i l):=by
  intro i hi
  have ho:rows[i]? = some (rows[i]'(by omega)):=List.getElem?_eq_getElem _
  obtain ⟨b,o,u,h1,h2,h3,h4⟩:=hv.at hrl ho
  refine ⟨b,o,u,h1,h2,h3,_,hrn _ (List.mem_of_getElem? ho),h4,fun l hl => ?_⟩
  have hlen:=hrn _ (List.mem_of_getElem? ho)
  rw [hsm]
  show _ = some ((rows.getD i []).getD l none)
  rw [List.getD_eq_getElem?_getD (l:=rows),ho]
  show _ = some ((rows[i]'(by omega)).getD l none)
  rw [List.getD_eq_getElem?_getD,List.getElem?_eq_getElem (by rw [hlen]; exact hl)]; rfl
 rw [hres]
 have hL8:=hd.L8.2
 have hn64:=hd.n64
 have hpos:=hd.pos
 have hmk:=zhn d.n (by omega)
 have HD:=zh hd.ok; have HSZ:=zh hsz; have HAT:=zh hat; have HN3:=zh (fun l r hl hr => hN.row hd.L8.1 (l:=l) (r:=r) hl hr)
 clear hn hff hvars hemp hN hd hsz hat hres hsm hv hrl hrn
 obtain ⟨N,hNN⟩:=zx d.n
 obtain ⟨L,hLL⟩:=zx d.L
 obtain ⟨E,hE⟩:=zx d.e
 rw [<- hNN,<- hLL] at HN3
 rw [<- hNN] at HAT hn64 hpos hmk
 rw [<- hLL] at hL8
 rw [<- hNN,<- hE]
 have HNE:=zh hNN; have HLE:=zh hLL
 clear hNN hE hLL
 have hk0:((k:Int) + 1 == 0) = false:=by rw [beq_eq_false_iff_ne]; omega
 go_enter Tryz.func101,Tryz.ntmps101
 go_wp2
 refine zaa (fun W => ∃ go,go = w.heap.size + 1 /\ SzS w go N V E (.slice (some ⟨b3,o3,none⟩) N c3) (.slice A2 N c2) (preK d sm k 0 0 0 0) W)
  ⟨_,rfl,by go_grown,(Row.new _ _ _).alloc _,by
   rw [preK_0,osP_nil]
   have h:=FR.make (w.alloc (.cells #[.int .i64 (V:Int),.int .i64 (E:Int),.slice (some ⟨b3,o3,none⟩) N c3,.slice A2 N c2] 30)) w.heap.size N (by simp) (by omega)
   simp only [World.size_alloc] at h
   exact h⟩ ?_
 clear hmk
 rintro W ⟨go,hgo,hs⟩
 rw [<- hgo]
 have hgow:w.heap.size < go:=by omega
 have HS:=zh hs
 clear hs hgo
 go_loopg [29] (k + 1) (fun gk q wr => ∃ i:Nat,i <= k + 1 /\ gk = k + 1 - i /\ q = .int .i64 i /\ SzS w go N V E (.slice (some ⟨b3,o3,none⟩) N c3) (.slice A2 N c2) (preK d sm k i 0 0 0) wr)
 case atStart => exact ⟨0,by omega,by omega,rfl,HS.out⟩
 case round =>
  clear HS
  obtain ⟨i,hi,rfl,rfl,hs⟩:=hrel
  have HS:=zh hs
  by_cases hlt:i < k + 1
  ·obtain ⟨bA,oA,uA,rfl,hbA,hcA,os,hosl,hfr,hos⟩:=HAT.out i (by omega)
   obtain ⟨gI,capI,csI,rfl,_,hrI,hcI1,hcI2,hcellI⟩:=hfr.open (by omega)
   rw [hosl] at hcA hcI1
   rw [<- HS.out.below.cell (p:=⟨bA,_,none⟩) hbA] at hcA
   have hltI:=hrI.lt
   have HCI:=zh hcellI; have HOS:=zh hos
   have hik:i <= k:=by omega
   have hiz:(i:Int) < (k:Int) + 1:=by omega
   clear hfr hrI hcellI hos hs
   go_wp2
   clear hcA
   go_loopg [37] N (fun gk q wr => ∃ l:Nat,l <= N /\ gk = N - l /\ q = .int .i64 l /\ SzS w go N V E (.slice (some ⟨b3,o3,none⟩) N c3) (.slice A2 N c2) (preK d sm k i l 0 0) wr)
   case atStart => exact ⟨0,by omega,rfl,rfl,HS.out⟩
   case round =>
    clear HS
    obtain ⟨l,hl,rfl,rfl,hs⟩:=hrel
    have HS:=zh hs
    clear hs
    by_cases hlt2:l < N
    ·obtain ⟨xa,hfa,a0,a1⟩:=HCI.out l _ (HOS.out l hlt2)
     obtain ⟨oa,hoa⟩:=zx (sm i l)
     rw [<- hoa] at hfa a1
     obtain ⟨Aa,na,ca,hxa⟩:=hfa.form
     simp only [List.cons.injEq,and_true] at hxa
     subst hxa
     rw [<- HS.out.below.cell (p:=⟨gI,_,none⟩) hltI] at a0 a1
     obtain ⟨j,hj⟩:=zx (k - i)
     have HJ:=zh hj
     have hkj:(k:Int) - (i:Int) = (j:Int):=by omega
     obtain ⟨bB,oB,uB,heB,hbB,hcB,os2,hosl2,hfr2,hos2⟩:=HAT.out j (by omega)
     simp only [Option.some.injEq,Addr.mk.injEq,and_true] at heB
     obtain ⟨rfl,rfl⟩:=heB
     obtain ⟨gJ,capJ,csJ,rfl,_,hrJ,hcJ1,hcJ2,hcellJ⟩:=hfr2.open (by omega)
     rw [hosl2] at hcB hcJ1
     rw [<- HS.out.below.cell (p:=⟨bA,_,none⟩) hbA] at hcB
     have hltJ:=hrJ.lt
     have HCJ:=zh hcellJ; have HOS2:=zh hos2; have HFA:=zh hfa; have HOA:=zh hoa
     obtain ⟨qa,hqa⟩:=zx oa.isSome
     rw [<- hqa] at a1
     have HQA:=zh hqa
     have hjlt:(j:Int) < (k:Int) + 1:=by omega
     clear hfr2 hrJ hcellJ hos2 hj hfa hoa hqa
     go_upto_region 10 with fail
     refine zaa (fun W => SzS w go N V E (.slice (some ⟨b3,o3,none⟩) N c3) (.slice A2 N c2) (preK d sm k i l 0 0) W /\ ∃ ga,ga = wr.heap.size /\ Row W ga 161 #[.slice Aa na ca,.bool qa] /\ W.cell? ⟨bA,oA + j,none⟩ = some (.slice (some ⟨gJ,0,none⟩) N capJ))
      ⟨HS.out.to (Below.alloc (Below.refl _ _) zn _),_,rfl,Row.new _ _ _,((Below.alloc (Below.refl wr.heap.size wr) zn _).cell (p:=⟨bA,_,none⟩) (Nat.lt_of_lt_of_le hbA HS.out.below.size)).trans hcB⟩ ?_
     clear a0 a1 hcB
     have hws:=HS.out.below.size
     have hgos:go < wr.heap.size:=by
      obtain ⟨g',_,_,he,_,hr,_⟩:=HS.out.fr.open (by rw [zfc]; omega)
      simp only [Value.slice.injEq,Option.some.injEq,Addr.mk.injEq,and_true] at he
      obtain ⟨rfl,_,_⟩:=he
      exact hr.lt
     clear HS
     rintro W3 ⟨hs,ga,hga,hra,hcB⟩
     rw [<- hga]
     have hgag:ga ≠ go:=by omega
     have hgaw:w.heap.size <= ga:=by omega
     have HS:=zh hs; have RA:=zh hra
     clear hs hra hga hgos hws
     go_wp2
     clear hcB
     go_loopg [50] N (fun gk q wr => ∃ r:Nat,r <= N /\ gk = N - r /\ q = .int .i64 r /\ SzS w go N V E (.slice (some ⟨b3,o3,none⟩) N c3) (.slice A2 N c2) (preK d sm k i l r 0) wr /\ Row wr ga 161 #[.slice Aa na ca,.bool qa])
     case atStart => exact ⟨0,by omega,rfl,rfl,HS.out,RA.out⟩
     case round =>
      clear HS RA
      obtain ⟨r,hr,rfl,rfl,hs,hra⟩:=hrel
      have HS:=zh hs; have RA:=zh hra
      clear hs hra
      by_cases hlt3:r < N
      ·obtain ⟨xb,hfb,b0,b1⟩:=HCJ.out r _ (HOS2.out r hlt3)
       obtain ⟨ob,hob⟩:=zx (sm j r)
       rw [<- hob] at hfb b1
       obtain ⟨Ab,nb,cb,hxb⟩:=hfb.form
       simp only [List.cons.injEq,and_true] at hxb
       subst hxb
       rw [<- HS.out.below.cell (p:=⟨gJ,_,none⟩) hltJ] at b0 b1
       have HFB:=zh hfb; have HOB:=zh hob
       obtain ⟨qb,hqb⟩:=zx ob.isSome
       rw [<- hqb] at b1
       have HQB:=zh hqb
       clear hfb hob hqb
       go_upto_region 13 with fail
       refine zaa (fun W => SzS w go N V E (.slice (some ⟨b3,o3,none⟩) N c3) (.slice A2 N c2) (preK d sm k i l r 0) W /\ Row W ga 161 #[.slice Aa na ca,.bool qa] /\ ∃ gb,gb = wr.heap.size /\ Row W gb 161 #[.slice Ab nb cb,.bool qb])
        ⟨HS.out.to (Below.alloc (Below.refl _ _) zn _),RA.out.alloc _,_,rfl,Row.new _ _ _⟩ ?_
       clear b0 b1
       have hgos:go < wr.heap.size:=by
        obtain ⟨g',_,_,he,_,hr,_⟩:=HS.out.fr.open (by rw [zfc]; omega)
        simp only [Value.slice.injEq,Option.some.injEq,Addr.mk.injEq,and_true] at he
        obtain ⟨rfl,_,_⟩:=he
        exact hr.lt
       have hws:=HS.out.below.size
       clear HS RA
       rintro W4 ⟨hs,hra,gb,hgb,hrb⟩
       rw [<- hgb]
       have hgbg:gb ≠ go:=by omega
       obtain ⟨e2,f2,k2,e1,f1,k1,h1,h2,h3,h4,h5,h6,h7,h8⟩:=HN3.out l r hlt2 hlt3
       have H8:=zh h8
       clear h8
       rw [<- hs.below.cell (p:=⟨b3,_,none⟩) h1] at h2
       rw [<- hs.below.cell (p:=⟨e2,_,none⟩) h4] at h5
       have y0:=hs.rd.cell
       have HS:=zh hs; have RA:=zh hra; have RB:=zh hrb
       clear hs hra hrb hgb hgos hws
       go_wp2
       clear y0 h2 h5
       go_loopg [64] L (fun gk q wr => ∃ x:Nat,x <= L /\ gk = L - x /\ q = .int .i64 x /\ SzS w go N V E (.slice (some ⟨b3,o3,none⟩) N c3) (.slice A2 N c2) (preK d sm k i l r x) wr /\ Row wr ga 161 #[.slice Aa na ca,.bool qa] /\ Row wr gb 161 #[.slice Ab nb cb,.bool qb])
       case atStart => exact ⟨0,by omega,rfl,rfl,HS.out,RA.out,RB.out⟩
       case round =>
        clear HS RA RB
        obtain ⟨x,hx,rfl,rfl,hs,hra,hrb⟩:=hrel
        have HS:=zh hs; have RA:=zh hra; have RB:=zh hrb
        clear hs hra hrb
        by_cases hlt4:x < L
        ·have hcx:=H8.out x hlt4
         rw [<- HS.out.below.cell (p:=⟨e1,_,none⟩) h7] at hcx
         have hsl:d.nx l r x < N:=by rw [HNE.out]; exact HD.out.hn l r x (by rw [<- HNE.out]; exact hlt2) (by rw [<- HNE.out]; exact hlt3) (by rw [<- HLE.out]; exact hlt4)
         obtain ⟨s,hs⟩:=zx (d.nx l r x)
         rw [<- hs] at hcx hsl
         have HSS:=zh hs
         clear hs
         have za:=RA.out.cell; have zb:=RB.out.cell
         have hxw:IntKind.u8.wrap (x:Int) = (x:Int):=by rw [IntKind.wrap_u8]; omega
         cases hoa:oa with
         | none =>
          have hqa:qa = false:=by rw [HQA.out,hoa]; rfl
          have hX:Hid (kX d sm k i l r x = []):=by unfold Hid kX; rw [<- HOA.out,hoa]
          subst hqa
          clear hoa
          go_wp2
          go_roundg (L - (x + 1))
          case rel => exact ⟨x + 1,by omega,rfl,by go_num,by rw [zoi,hX.out,List.append_nil]; exact HS.out,RA.out,RB.out⟩
          case measure => omega
         | some a =>
          have hqa:qa = true:=by rw [HQA.out,hoa]; rfl
          have hoa':=HOA.out
          have hfa:=HFA.out
          rw [hoa] at hoa' hfa
          have HOA':=zh hoa'; have HFA':=zh hfa
          subst hqa
          clear hoa hoa' hfa
          cases hob:ob with
          | none =>
           have hqb:qb = false:=by rw [HQB.out,hob]; rfl
           have hX:Hid (kX d sm k i l r x = []):=by unfold Hid kX; rw [<- HOA'.out,<- HJ.out,<- HOB.out,hob]
           subst hqb
           clear hob
           go_wp2
           go_roundg (L - (x + 1))
           case rel => exact ⟨x + 1,by omega,rfl,by go_num,by rw [zoi,hX.out,List.append_nil]; exact HS.out,RA.out,RB.out⟩
           case measure => omega
          | some b =>
           have hqb:qb = true:=by rw [HQB.out,hob]; rfl
           have hob':=HOB.out
           have hfb:=HFB.out
           rw [hob] at hob' hfb
           obtain ⟨ua,hua,hta⟩:=HFA'.out
           simp only [List.cons.injEq,and_true] at hua
           obtain ⟨rfl,_⟩:=hua
           obtain ⟨ub,hub,htb⟩:=hfb
           simp only [List.cons.injEq,and_true] at hub
           obtain ⟨rfl,_⟩:=hub
           have sza:=HSZ.out i l a hik HOA'.out.symm
           have szb:=HSZ.out j r b (by omega) hob'.symm
           have hX:Hid (kX d sm k i l r x = [(s,Bt.node (x:Int) a b)]):=by unfold Hid kX; rw [<- HOA'.out,<- HJ.out,<- hob',HSS.out]
           have hjn:=zqi (x:Int) (a.enc 0) (b.enc 0) (.slice Aa na ca) (.slice Ab nb cb) wr (hta.ts.below HS.out.below zn) (htb.ts.below HS.out.below zn) (by omega) (by omega)
           rw [join_bt (by omega)] at hjn
           have HJN:=zh hjn
           have hsn:(Bt.node (x:Int) a b).size = k + 1:=by simp only [Bt.size]; omega
           have HSN:=zh hsn
           subst hqb
           clear hob hob' hta htb sza szb hjn hsn
           have hBT:=fun (X:World) (u:Value) (hX:SzS w go N V E (.slice (some ⟨b3,o3,none⟩) N c3) (.slice A2 N c2) (preK d sm k i l r x) X) (hu:TO X w.heap.size u ((Bt.node (x:Int) a b).enc 0)) =>
            zh3 (o:=minB none (Dta.ofS (preK d sm k i l r x) s)) hX.fr (zfc _ _) hsl hu (by rw [HSN.out]; omega) (zop _ hsl) (fun b hb => by rw [HSN.out]; exact zrf (zoj HSZ.out (by omega) (.inl hik)) hb)
           have HBT:=zh hBT
           clear hBT
           go_wp2_with (first
            | (go_at_call 139; refine HJN.out.mono ?_; rintro e w5 ⟨u5,rfl,hb5,ht5⟩; obtain ⟨_,A5,c5,hf5,_⟩:=ht5.ts; subst hf5; have HS5:=zh (HS.out.to hb5); have RA5:=zh (RA.out.below hb5 RA.out.lt); have RB5:=zh (RB.out.below hb5 RB.out.lt); have HT5:=zh (ht5.mono HS.out.below.size); clear hb5 ht5)
            | (go_at_call 102; refine (HBT.out _ _ HS5.out HT5.out).mono ?_; rintro e w6 ⟨rfl,hfr6,htn6⟩; have HF6:=zh hfr6; have HT6:=zh htn6; clear hfr6 htn6))
           go_roundg (L - (x + 1))
           case rel =>
            refine ⟨x + 1,by omega,rfl,by go_num,⟨HT6.out.below HS5.out.below (by omega) HS5.out.below.size,HT6.out.row HS5.out.rd (by omega),?_⟩,HT6.out.row RA5.out hgag,HT6.out.row RB5.out hgbg⟩
            rw [zoi,hX.out,zra _ _ hsl]
            exact HF6.out
           case measure => omega
        ·have hxe:x = L:=by omega
         go_wp2
         go_roundg (N - (r + 1))
         case rel => exact ⟨r + 1,by omega,rfl,by go_num,by rw [<- preK_r,<- HLE.out]; have h:=HS.out; rw [hxe] at h; exact h,RA.out⟩
         case measure => omega
      ·have hre:r = N:=by omega
       go_wp2
       go_roundg (N - (l + 1))
       case rel => exact ⟨l + 1,by omega,rfl,by go_num,by
        have hP:preK d sm k i l N 0 = preK d sm k i (l + 1) 0 0:=by rw [HNE.out]; exact preK_l d sm k i l
        rw [<- hP]; have h:=HS.out; rw [hre] at h; exact h⟩
       case measure => omega
    ·have hle:l = N:=by omega
     go_wp2
     go_roundg (k + 1 - (i + 1))
     case rel => exact ⟨i + 1,by omega,rfl,by go_num,by
      have hP:preK d sm k i N 0 0 = preK d sm k (i + 1) 0 0 0:=by rw [HNE.out]; exact preK_i d sm k i
      rw [<- hP]; have h:=HS.out; rw [hle] at h; exact h⟩
     case measure => omega
  ·have hie:i = k + 1:=by omega
   have hfr:=HS.out.fr
   rw [hie,zq8,HNE.out] at hfr
   have HFR:=zh hfr
   clear hs hfr
   go_wp2
   go_returns
   exact ⟨.slice (some ⟨go,0,none⟩) N N,rfl,HS.out.below,by rw [HNE.out]; exact HFR.out⟩
theorem zkg (f:List Bool) (v:Value) (w:World) (hv:NB w v f) (hl:f.length <= 1000000) :
  Calls Tryz.prog 158 #[v,.bool true] w fun e w' => ∃ k:Int,e = .returned (.int .i64 k) /\ (decide (0 <= k) = f.any id) /\ Below w.heap.size w w':=by
 obtain ⟨n,hn⟩:=zx f.length
 obtain ⟨A,c,rfl,h1,h2,h3⟩:=hv.open
 rw [<- hn] at h1 hv ⊢
 have HN:=zh hn; have H3:=zh h3
 rw [<- hn] at hl
 clear hv hn h3
 go_enter Tryz.func158,Tryz.ntmps158
 go_wp2
 go_loopg [8] n (fun gk q8 wr => ∃ i:Nat,i <= n /\ gk = n - i /\ q8 = .int .i64 i /\ wr = w /\ (f.take i).any id = false)
 case atStart => exact ⟨0,Nat.zero_le _,rfl,rfl,rfl,by simp⟩
 case round =>
  obtain ⟨i,hi,rfl,rfl,rfl,ha⟩:=hrel
  have HA:=zh ha
  clear ha
  by_cases hlt:i < n
  ·obtain ⟨p,hp⟩:∃ p,f[i]? = some p:=⟨f[i]'(by rw [<- HN.out]; exact hlt),List.getElem?_eq_getElem _⟩
   obtain ⟨b,o,rfl,hbl,hc⟩:=H3.out i _ hp
   have HP:=zh hp
   clear hp
   cases p with
   | false =>
    go_wp2
    go_roundg (n - (i + 1))
    case rel => exact ⟨i + 1,by omega,rfl,by go_num,rfl,by rw [List.take_add_one,HP.out,List.any_append,HA.out]; simp⟩
    case measure => omega
   | true =>
    go_wp2
    go_returns
    refine ⟨_,rfl,?_,Below.refl _ _⟩
    have:f.any id = true:=List.any_eq_true.2 ⟨true,List.mem_of_getElem? HP.out,rfl⟩
    rw [this,decide_eq_true_eq]; omega
  ·have hie:i = n:=by omega
   have hf:f.any id = false:=by have h:=HA.out; rw [hie,HN.out,List.take_length] at h; exact h
   have HF:=zh hf
   clear hf
   go_wp2
   go_returns
   exact ⟨_,rfl,by rw [HF.out]; decide,Below.refl _ _⟩
theorem zhg (f:List Bool) (v:Value) (w:World) (hv:NB w v f) (hl:f.length <= 1000000) :
  Calls Tryz.prog 138 #[v,.bool true] w fun e w' => e = .returned (.bool (f.any id)) /\ Below w.heap.size w w':=by
 have HI:=zh (zkg f v w hv hl)
 obtain ⟨q,hq⟩:=zx (f.any id)
 rw [<- hq] at HI ⊢
 obtain ⟨A,c,rfl,_⟩:=hv.open
 clear hv hl hq
 go_enter Tryz.func138,Tryz.ntmps138
 go_wp2_with (go_at_call 158; refine HI.out.mono ?_; rintro e w2 ⟨k,rfl,hk,hb2⟩; have HB2:=zh hb2; have HK:=zh hk; clear hb2 hk)
 go_returns
 exact ⟨by rw [<- HK.out]; rfl,HB2.out⟩
theorem zkz (d:Dta) (V:Nat) (hd:d.Fit V) (v:Value) (w:World) (hv:TD w v (d.raw V)):Calls Tryz.prog 137 #[v] w (RetR w (d.renum.raw V) 0):=by
 have hck:=fun W (h:Below w.heap.size w W) => zc7 (d.raw V) v W (hv.below h zn) (by have:=hd.n64; rw [(d.raw_len V).1,(d.raw_len V).2]; omega)
 rw [d.raw_check hd] at hck
 have hrn:=fun W (h:Below w.heap.size w W) => zdn d V hd v W (hv.below h zn)
 obtain ⟨A,c,Af,cf,rfl⟩:=hv.form
 obtain ⟨R,hR⟩:=zx (d.renum.raw V)
 rw [<- hR] at hrn
 have HRR:=zh hR
 have hvars:(d.raw V).vars = (V:Int):=rfl
 have hemp:(d.raw V).empty = (d.e:Int):=rfl
 rw [hvars,hemp,(d.raw_len V).1,(d.raw_len V).2] at hck hrn ⊢
 obtain ⟨n,hnn⟩:=zx d.n
 obtain ⟨E,hE⟩:=zx d.e
 rw [<- hnn,<- hE] at hck hrn ⊢
 have HC:=zh hck; have HRN:=zh hrn
 clear hck hrn hv hR hvars hemp hnn hE hd
 go_enter Tryz.func137,Tryz.ntmps137
 go_wp2_with (first
  | (go_at_call 36; refine (HC.out _ (by go_grown)).mono ?_; rintro e w2 ⟨rfl,hb2⟩; have X:=zia hb2; have HB2:=zh X.1; have R1:=zh X.2.1; have RR:=zh X.2.2; have y0:=X.2.1.cell; have y2:=X.2.2.cell; have y3:=X.2.2.free; clear hb2 X)
  | (go_at_call 37; refine (HRN.out _ HB2.out).mono ?_; rintro e w4 ⟨v4,rfl,hb4,ht4⟩; obtain ⟨A4,c4,A5,c5,rfl⟩:=ht4.form; have HT:=zh ht4; have HB4:=zh hb4; have RR4:=zh (RR.out.below hb4 RR.out.lt); have b0:=RR4.out.cell; have b1:=RR4.out.free; clear hb4 ht4 y0 y2 y3))
 refine zah (fun W => Row W (w.heap.size + 1) 30 #[.int .i64 R.vars,.int .i64 R.empty,.slice A4 R.next.length c4,.slice A5 R.fin.length c5] /\ TDO W w2.heap.size (.agg #[.int .i64 R.vars,.int .i64 R.empty,.slice A4 R.next.length c4,.slice A5 R.fin.length c5]) (R) /\ Below w.heap.size w W)
  (zaz RR4.out HT.out (HB2.out.trans (HB4.out.mono HB2.out.size)) (by omega)) ?_
 clear b0 b1 RR4 HT
 rintro W5 ⟨r0,hT,hb⟩
 have b0:=r0.cell
 have q0:=b0 0; have q1:=b0 1; have q2:=b0 2; have q3:=b0 3
 simp only [zg] at q0 q1 q2 q3
 have HT:=zh (hT.mono HB2.out.size); have HB:=zh hb
 clear b0 r0 hT hb
 exact bodyPost_ret (v:=.tuple #[.agg #[.int .i64 R.vars,.int .i64 R.empty,.slice A4 R.next.length c4,.slice A5 R.fin.length c5],.int .i64 0]) (by simp [results,Tryz.results137,go_sem,q0,q1,q2,q3]) rfl ⟨_,rfl,HB.out,by rw [<- HRR.out]; exact HT.out⟩
theorem znh (n:Nat) (f:Nat -> Bool):((List.range n).map f).any id = (List.range n).any f:=by rw [List.any_map]; rfl
theorem zru (d:Dta) (V:Nat) (hd:d.Fit V) (va:Value) (w:World) (hva:TD w va (d.raw V)) :
  Calls Tryz.prog 100 #[va] w fun e w' => e = .returned (.tuple #[.bool (zd9 d),.int .i64 0]) /\ Below w.heap.size w w':=by
 have hre:=fun W (h:Below w.heap.size w W) => zkz d V hd va W (hva.below h zn)
 obtain ⟨A1,c1,A2,c2,rfl⟩:=hva.form
 obtain ⟨R,hR⟩:=zx (d.renum.raw V)
 have hRl:R.fin.length <= 1000000:=by rw [hR,(d.renum.raw_len V).2]; have:=hd.renum.n64; omega
 have hRf:(!R.fin.any id) = zd9 d:=by rw [hR]; show (!((List.range d.renum.n).map d.renum.fin).any id) = _; rw [znh]; rfl
 rw [<- hR] at hre
 obtain ⟨r,hr⟩:=zx (d.raw V)
 rw [<- hr] at hre ⊢
 obtain ⟨q,hq⟩:=zx (R.fin.any id)
 rw [<- hq] at hRf
 obtain ⟨E,hE⟩:=zx (zd9 d)
 rw [<- hE] at hRf ⊢
 obtain ⟨n1,h1⟩:=zx r.next.length
 obtain ⟨n2,h2⟩:=zx r.fin.length
 obtain ⟨V1,h5⟩:=zx r.vars
 obtain ⟨E1,h6⟩:=zx r.empty
 rw [<- h1,<- h2,<- h5,<- h6] at hre ⊢
 have HRE:=zh hre; have HQ:=zh hq; have HRF:=zh hRf
 have hco:=fun (v:Value) (W:World) (h:NB W v R.fin) => zhg R.fin v W h hRl
 rw [<- hq] at hco
 have HCO:=zh hco
 clear hre hva hd hR hr hq hE h1 h2 h5 h6 hRf hco
 go_enter Tryz.func100,Tryz.ntmps100
 go_upto_region 1 with fail
 refine zaa (fun W => Below w.heap.size w W /\ Row W w.heap.size 30 #[.int .i64 V1,.int .i64 E1,.slice A1 n1 c1,.slice A2 n2 c2]) ⟨by go_grown,Row.new _ _ _⟩ ?_
 rintro W ⟨hb,r1⟩
 have y0:=r1.cell
 have HB:=zh hb
 clear hb r1
 go_upto_region 2 with (go_at_call 137; refine (HRE.out _ HB.out).mono ?_; intro e w6 h6; obtain ⟨A6,c6,A7,c7,rfl,hb6,ht6⟩:=h6.unfold; have HT:=zh ht6; have HB6:=zh (HB.out.trans (hb6.mono HB.out.size)); clear h6 hb6 ht6)
 clear y0
 have hfin:=HT.out.td
 obtain ⟨vn,vf,hvv,_,hnb⟩:=hfin
 simp only [Value.agg.injEq,Array.mk.injEq,List.cons.injEq,and_true,true_and] at hvv
 obtain ⟨-,rfl⟩:=hvv
 have HNB:=zh hnb
 refine zaa (fun X => Below w.heap.size w X /\ Row X w6.heap.size 30 #[.int .i64 R.vars,.int .i64 R.empty,.slice A6 R.next.length c6,.slice A7 R.fin.length c7] /\ NB X (.slice A7 R.fin.length c7) R.fin)
  ⟨by have:=HB6.out; have:=this.size; go_grown,Row.new _ _ _,NB.below HNB.out (Below.alloc (Below.refl _ _) zn _) zn⟩ ?_
 clear HNB HT hnb
 rintro X ⟨hb,r1,hnb⟩
 have y0:=r1.cell
 have HBX:=zh hb; have HNB:=zh hnb
 clear hb r1 hnb
 go_wp2_with (go_at_call 138; refine (HCO.out _ _ HNB.out).mono ?_; rintro e w8 ⟨rfl,hb8⟩; have HB8:=zh (HBX.out.trans (hb8.mono HBX.out.size)); clear hb8)
 go_returns
 exact ⟨by rw [<- HRF.out]; rfl,HB8.out⟩
theorem TO.farG {E':TypeId} {w w':World} {B B' size n:Nat} {v u:Value} {f:List Lf} {xs:List Value} (h:TO w B v f) (hne:97 ≠ E') (h2:w.ownsRow B' E' size u n xs) (hg:w.grownBy w' u.ownBlock):TO w' B v f:=by
 obtain ⟨h0,h1,h⟩:=h
 refine ⟨h0,h1,?_⟩
 rcases h with h | ⟨g,cap,cur,hv,hBg,hgg,r⟩
 ·exact .inl h
 ·refine .inr ⟨g,cap,cur,hv,hBg,(hg.block g (lt_of_block hgg) (fun e => ?_)).trans hgg,r⟩
  rcases h2.2 with ⟨hu,_⟩ | ⟨g2,cap2,cur2,hu,_,hg2,_⟩
  ·rw [hu] at e; cases e
  ·rw [hu] at e
   simp only [Value.ownBlock,Option.some.injEq] at e
   subst e
   rw [hgg] at hg2
   simp only [Option.some.injEq,Obj.cells.injEq] at hg2
   exact hne hg2.2.1
theorem FR.grown {E':TypeId} {w w':World} {B B' size n:Nat} {v u:Value} {os:List (Option Bt)} {xs:List Value} (h:FR w B v os) (h1:97 ≠ E') (h2:161 ≠ E') (hu:w.ownsRow B' E' size u n xs) (hg:w.grownBy w' u.ownBlock):FR w' B v os:=by
 obtain ⟨ls,k1,k2,k3⟩:=h
 refine ⟨ls,k1.far h2 hu hg,k2,fun s l o hl ho => ?_⟩
 have:=k3 s l o hl ho
 cases o with
 | none => exact this
 | some b => obtain ⟨u',h5,h6⟩:=this; exact ⟨u',h5,h6.farG h1 hu hg⟩
def SO (w:World) (B:Nat) (v:Value) (rows:List (List (Option Bt))):Prop:=∃ vs,VO 158 w B v vs /\ vs.length = rows.length /\ ∀ (i:Nat) u,vs[i]? = some u -> ∃ os,rows[i]? = some os /\ FR w B u os
theorem SO.below {w w':World} {B B':Nat} {v:Value} {rows:List (List (Option Bt))} (h:SO w B v rows) (hb:Below B' w w') (hB:w.heap.size <= B'):SO w' B v rows:=by
 obtain ⟨vs,h1,h2,h3⟩:=h
 exact ⟨vs,h1.below hb hB,h2,fun i u hu => by obtain ⟨os,h4,h5⟩:=h3 i u hu; exact ⟨os,h4,h5.below hb hB⟩⟩
theorem SO.sms {w:World} {B:Nat} {v:Value} {rows:List (List (Option Bt))} (h:SO w B v rows):SmS w v rows:=by
 obtain ⟨vs,h1,h2,h3⟩:=h
 exact ⟨vs,h1.vs,h2,fun i u hu => by obtain ⟨os,h4,h5⟩:=h3 i u hu; exact ⟨os,h4,h5.mono (Nat.zero_le _)⟩⟩
theorem SO.nil (w:World) (B:Nat):SO w B (.slice none 0 0) []:=⟨[],VO.nil _ _ _,rfl,fun i u h => by simp at h⟩
theorem SO.snoc {w w':World} {B:Nat} {v v' u:Value} {rows:List (List (Option Bt))} {vs:List Value} {os:List (Option Bt)} {X:Obj} (h1:VO 158 w B v vs) (h2:vs.length = rows.length) (h3:∀ (i:Nat) u,vs[i]? = some u -> ∃ os,rows[i]? = some os /\ FR w B u os)
  (hf:FR w B u os) (hg:(w.alloc X).grownBy w' v.ownBlock) (ho:VO 158 w' B v' (vs ++ [u])):SO w' B v' (rows ++ [os]):=by
 have hfr:∀ {q os},FR w B q os -> FR w' B q os:=fun h => (h.below (Below.alloc (Below.refl w.heap.size w) zn X) zn).grown (by decide) (by decide) (VO.allocd h1 X).2 hg
 refine ⟨_,ho,by simp [h2],fun i q hq => ?_⟩
 by_cases hi:i < vs.length
 ·rw [List.getElem?_append_left hi] at hq
  obtain ⟨os',h4,h5⟩:=h3 i q hq
  exact ⟨os',by rw [List.getElem?_append_left (by omega)]; exact h4,hfr h5⟩
 ·have hlen:=(List.getElem?_eq_some_iff.1 hq).1
  simp at hlen
  have:i = vs.length:=by omega
  subst this
  simp at hq
  subst hq
  exact ⟨os,by rw [h2]; simp,hfr hf⟩
theorem zn6 {d:Dta} {n s:Nat} (h:d.n <= s):rowS d n s = none:=by
 unfold rowS
 rw [List.getD_eq_getElem?_getD,List.getElem?_eq_none (by rw [zep]; exact h)]; rfl
theorem zq3 {d:Dta} (h:d.OK) (k:Nat):SzOK (fun i l => ((zbh d (k + 1)).getD i []).getD l none) k:=by
 intro i l b hi hb
 simp only at hb
 rw [zhl d (show i < k + 1 by omega)] at hb
 by_cases hl:l < d.n
 ·exact ((zds h i l hl).1 b hb).size
 ·rw [zn6 (by omega)] at hb; cases hb
theorem znw {d:Dta} (n:Nat):∀ os ∈ zbh d n,os.length = d.n:=by
 induction n with
 | zero => intro os h; cases h
 | succ n ih =>
  intro os h
  rcases List.mem_append.1 h with h | h
  ·exact ih os h
  ·simp at h; subst h; exact zep _ _ _
theorem FR.put0 {w:World} {B g n cap e:Nat} (h:FR w B (.slice (some ⟨g,0,none⟩) n cap) (List.replicate n none)) (he:e < n) :
  FR (w.setCell ⟨g,e * 2 + 1,none⟩ (.bool true)) B (.slice (some ⟨g,0,none⟩) n cap) ((List.range n).map fun s => if s = e then some .nil else none):=by
 obtain ⟨ls,h1,h2,h3⟩:=h
 rw [List.length_replicate] at h2
 have hl:∀ s,s < n -> ls[s]? = some [.slice none 0 0,.bool false]:=fun s hs => by
  have hx:ls[s]? = some (ls[s]'(by omega)):=List.getElem?_eq_getElem _
  have:=h3 s _ none hx (by rw [List.getElem?_replicate,if_pos hs])
  rw [hx,show ls[s]'(by omega) = [.slice none 0 0,.bool false] from this]
 have k1:=h1.store h2 (hl e he) (show 1 < 2 by omega) (.bool true) rfl
 refine ⟨_,k1,by simp [h2],fun s l o hls ho => ?_⟩
 have hs:s < n:=by have:=(List.getElem?_eq_some_iff.1 ho).1; simpa using this
 rw [List.getElem?_map,List.getElem?_range hs] at ho
 simp only [Option.map_some,Option.some.injEq] at ho
 rw [List.getElem?_set] at hls
 by_cases e1:s = e
 ·subst e1
  rw [if_pos rfl] at ho
  subst ho
  rw [if_pos rfl,if_pos (by omega)] at hls
  cases hls
  exact ⟨.slice none 0 0,rfl,TO.nil _ _⟩
 ·rw [if_neg e1] at ho
  subst ho
  rw [if_neg (fun h => e1 h.symm),hl s hs] at hls
  cases hls
  rfl
theorem zmi (d:Dta) (V:Nat) (hd:d.Fit V) (va v:Value) (hvf:∃ A n c,v = .slice A n c) (w:World) (hva:TD w va (d.raw V)) :
  Calls Tryz.prog 101 #[va,.int .i64 0,v] w fun e w' => ∃ v',e = .returned v' /\ Below w.heap.size w w' /\ FR w' w.heap.size v' (sizR d [] 0):=by
 obtain ⟨A,nn,c,rfl⟩:=hvf
 obtain ⟨A1,c1,A2,c2,rfl⟩:=hva.form
 have hvars:(d.raw V).vars = (V:Int):=rfl
 have hemp:(d.raw V).empty = (d.e:Int):=rfl
 rw [hvars,hemp,(d.raw_len V).1]
 obtain ⟨m,hm⟩:=zx ((d.raw V).fin.length)
 rw [<- hm]
 have hmk:=zhn d.n (by have:=hd.n64; omega)
 have he:=hd.ok.he
 have hn64:=hd.n64
 have HR:=zh (show sizR d [] 0 = (List.range d.n).map fun s => if s = d.e then some .nil else none from rfl)
 obtain ⟨N,hNN⟩:=zx d.n
 obtain ⟨E,hE⟩:=zx d.e
 obtain ⟨R,hR⟩:=zx (sizR d [] 0)
 rw [<- hR] at HR ⊢
 rw [<- hNN,<- hE] at HR he
 rw [<- hNN] at hmk hn64
 rw [<- hNN,<- hE]
 clear hva hvars hemp hm hd hNN hE hR
 go_enter Tryz.func101,Tryz.ntmps101
 go_upto_region 3 with fail
 refine zaa (fun W => ∃ go,go = w.heap.size + 1 /\ Below w.heap.size w W /\ Row W w.heap.size 30 #[.int .i64 (V:Int),.int .i64 (E:Int),.slice A1 N c1,.slice A2 m c2] /\ FR W w.heap.size (.slice (some ⟨go,0,none⟩) N N) (List.replicate N none))
  ⟨_,rfl,by go_grown,(Row.new _ _ _).alloc _,by
   have h:=FR.make (w.alloc (.cells #[.int .i64 (V:Int),.int .i64 (E:Int),.slice A1 N c1,.slice A2 m c2] 30)) w.heap.size N (by simp) (by omega)
   simp only [World.size_alloc] at h
   exact h⟩ ?_
 clear hmk
 rintro W ⟨go,hgo,hb,hr,hf⟩
 rw [<- hgo]
 clear hgo
 have y0:=hr.cell
 obtain ⟨g',cap',cs,he',hBg,hrow,_,_,hcell⟩:=hf.open (by rw [List.length_replicate]; omega)
 rw [List.length_replicate] at he'
 simp only [Value.slice.injEq,Option.some.injEq,Addr.mk.injEq,and_true,true_and] at he'
 obtain ⟨rfl,_⟩:=he'
 obtain ⟨x,_,c0,c1'⟩:=hcell E none (by rw [List.getElem?_replicate,if_pos he])
 have f0:=hrow.free (E * 2 + 1)
 have HB:=zh hb; have HF:=zh hf
 clear hcell hrow hb hf hr
 go_wp2
 refine zaa (fun X => Below w.heap.size w X /\ FR X w.heap.size (.slice (some ⟨go,0,none⟩) N N) R) ⟨HB.out.setCell (p:=⟨go,E * 2 + 1,none⟩) hBg _,by rw [HR.out]; exact HF.out.put0 he⟩ ?_
 clear y0 c0 c1' f0 HB HF
 rintro X ⟨hb,hf⟩
 have HB:=zh hb; have HF:=zh hf
 clear hb hf
 go_loopg [29] 1 (fun gk q wr => gk = 1 /\ q = .int .i64 0 /\ wr = X)
 case atStart => exact ⟨rfl,rfl,rfl⟩
 case round =>
  obtain ⟨rfl,rfl,rfl⟩:=hrel
  go_wp2
  go_returns
  exact ⟨.slice (some ⟨go,0,none⟩) N N,rfl,HB.out,HF.out⟩
def zbf (d:Dta):List Lf × Bool × Nat:=if zd9 d then ([],false,0) else match zeo d.mini with
 | some t => (t.enc 0,true,0)
 | none => ([],false,4)
def RetSm (w:World) (R:List Lf × Bool × Nat) (e:Ending) (w':World):Prop:=∃ v,e = .returned (.tuple #[v,.bool R.2.1,.int .i64 ((R.2.2:Nat):Int)]) /\ Below w.heap.size w w' /\ TO w' w.heap.size v R.1
def bstK (d:Dta) (row:Nat -> Option Bt) (s:Nat):Option Bt:=minB none ((List.range s).filterMap fun s => if d.fin s then row s else none)
theorem zp8 (d:Dta) (n:Nat):bstK d (rowS d n) d.n = bestS d n:=rfl
theorem zj0 {d:Dta} {row:Nat -> Option Bt} {s:Nat} (h:(if d.fin s then row s else none) = none):bstK d row (s + 1) = bstK d row s:=by
 unfold bstK; rw [List.range_succ,List.filterMap_append]; simp [h]
theorem zp6 {d:Dta} {row:Nat -> Option Bt} {s:Nat} {t:Bt} (h1:d.fin s = true) (h2:row s = some t):bstK d row (s + 1) = zci (bstK d row s) t:=by
 unfold bstK; rw [List.range_succ,List.filterMap_append]; simp [h1,h2,minB,List.foldl_append]
theorem zp7 {d:Dta} (h:d.OK) {n s:Nat} (hs:s <= d.n) {b:Bt} (hb:bstK d (rowS d n) s = some b):b.size = n:=by
 unfold bstK at hb
 rcases zdr ((List.range s).filterMap fun s => if d.fin s then rowS d n s else none) with ⟨h1,_⟩ | ⟨c,h1,h2,_⟩
 ·rw [h1] at hb; cases hb
 ·rw [h1] at hb
  cases hb
  obtain ⟨q,hq,e⟩:=List.mem_filterMap.1 h2
  have hq:=List.mem_range.1 hq
  by_cases hf:d.fin q = true
  ·rw [if_pos hf] at e; exact ((zds h n q (by omega)).1 b e).size
  ·rw [if_neg hf] at e; cases e
theorem TDO.grown {E':TypeId} {w w':World} {B B':Nat} {v u:Value} {r:Raw} {xs:List Value} (h:TDO w B v r) (h1:3 ≠ E') (h2:36 ≠ E') (h3:37 ≠ E') (h4:4 ≠ E') (hu:VO E' w B' u xs) (hg:w.grownBy w' u.ownBlock):TDO w' B v r:=by
 obtain ⟨vn,vf,e,k1,k2⟩:=h
 exact ⟨vn,vf,e,k1.far h1 h2 h3 hu hg,k2.far h4 hu hg⟩
structure SmW (w:World) (gm n:Nat) (m:Dta) (V:Nat) (mv v8:Value) (W:World):Prop where
 below:Below w.heap.size w W
 tdo:TDO W w.heap.size mv (m.raw V)
 so:SO W w.heap.size v8 (zbh m n)
 none:∀ j,j < n -> bestS m j = none
theorem zgi (d:Dta) (V:Nat) (hd:d.Fit V) (va:Value) (w:World) (hva:TD w va (d.raw V)) :
  Calls Tryz.prog 60 #[va] w (RetSm w (zbf d)):=by
 have hem:=fun W (h:Below w.heap.size w W) => zru d V hd va W (hva.below h zn)
 have hmi:=fun W (h:Below w.heap.size w W) => zce d V hd va W (hva.below h zn)
 obtain ⟨m,hm⟩:=zx d.mini
 have hmf:m.Fit V:=by rw [hm]; exact ⟨Dta.mini_ok hd.ok,Nat.le_trans (Dta.mini_n hd.ok) hd.n64,hd.v3,(d.mini_canon hd.ok).2.1.trans hd.L⟩
 have hso:zbf d = if zd9 d then ([],false,0) else match zeo m with
  | some t => (t.enc 0,true,0)
  | none => ([],false,4):=by rw [hm]; rfl
 rw [<- hm] at hmi
 have hsi:∀ n,n <= 31 -> ∀ (W:World) (mv v':Value),TD W mv (m.raw V) -> SO W w.heap.size v' (zbh m n) -> Calls Tryz.prog 101 #[mv,.int .i64 (n:Int),v'] W fun e W' => ∃ v2,e = .returned v2 /\ Below W.heap.size W W' /\ FR W' W.heap.size v2 (sizR m (zbh m n) n):=by
  intro n hn W mv v' h1 h2
  cases n with
  | zero =>
   obtain ⟨vs,h3,h4,_⟩:=h2
   obtain ⟨A,c,e⟩:=VO.formN (n:=0) h3 h4
   exact zmi m V hmf mv v' ⟨A,0,c,e⟩ W h1
  | succ k => exact zmj m V hmf mv v' k (by omega) (zbh m (k + 1)) W h1 h2.sms (zbg m (k + 1)) (znw (k + 1)) (zq3 hmf.ok k)
 obtain ⟨R,hR⟩:=zx (zbf d)
 rw [<- hR] at hso ⊢
 obtain ⟨em,hemS⟩:=zx (zd9 d)
 rw [<- hemS] at hso hem
 have HEM:=zh hem; have HMI:=zh hmi; have HSI:=zh hsi; have HSO:=zh hso; have HMF:=zh hmf
 obtain ⟨A1,c1,A2,c2,rfl⟩:=hva.form
 obtain ⟨n1,g1⟩:=zx ((d.raw V).next.length)
 obtain ⟨n2,g2⟩:=zx ((d.raw V).fin.length)
 obtain ⟨V1,g3⟩:=zx ((d.raw V).vars)
 obtain ⟨E1,g4⟩:=zx ((d.raw V).empty)
 rw [<- g1,<- g2,<- g3,<- g4] at HEM HMI ⊢
 clear hem hmi hsi hso hmf hva hR hemS hm g1 g2 g3 g4 hd
 go_enter Tryz.func60,Tryz.ntmps60
 go_upto_region 1 with fail
 refine zaa (fun W => Below w.heap.size w W /\ Row W w.heap.size 30 #[.int .i64 V1,.int .i64 E1,.slice A1 n1 c1,.slice A2 n2 c2]) ⟨by go_grown,Row.new _ _ _⟩ ?_
 rintro W ⟨hb,r1⟩
 have y0:=r1.cell
 have HB:=zh hb; have R1:=zh r1
 clear hb r1
 go_upto_region 2 with (go_at_call 100; refine (HEM.out _ HB.out).mono ?_; rintro e w2 ⟨rfl,hb2⟩; have HB2:=zh (HB.out.trans (hb2.mono HB.out.size)); have R2:=zh (R1.out.below hb2 R1.out.lt); clear hb2)
 clear y0 HB R1
 have y0:=R2.out.cell
 cases em with
 | true =>
  go_wp2
  go_returns
  exact ⟨_,by rw [HSO.out]; rfl,HB2.out,by rw [HSO.out]; exact TO.nil _ _⟩
 | false =>
  have HSO2:Hid (R = match zeo m with
   | some t => (t.enc 0,true,0)
   | none => ([],false,4)):=by unfold Hid; rw [HSO.out]; rfl
  clear HSO
  go_upto_region 5 with (go_at_call 14; refine (HMI.out _ HB2.out).mono ?_; intro e w6 h6; obtain ⟨A6,c6,A7,c7,rfl,hb6,ht6⟩:=h6.unfold; have HT:=zh ht6; have HB6:=zh (HB2.out.trans (hb6.mono HB2.out.size)); clear h6 hb6 ht6)
  clear y0
  have hsz2:=HB2.out.size
  refine zaa (fun X => ∃ gm,gm = w6.heap.size /\ SmW w gm 0 m V (.agg #[.int .i64 (m.raw V).vars,.int .i64 (m.raw V).empty,.slice A6 (m.raw V).next.length c6,.slice A7 (m.raw V).fin.length c7]) (.slice none 0 0) X /\ Row X gm 30 #[.int .i64 (m.raw V).vars,.int .i64 (m.raw V).empty,.slice A6 (m.raw V).next.length c6,.slice A7 (m.raw V).fin.length c7])
   ⟨_,rfl,⟨by have h1:=HB6.out; have h2:=h1.size; go_grown,(HT.out.mono hsz2).below (Below.alloc (Below.refl _ _) zn _) zn,SO.nil _ _,fun j h => by omega⟩,Row.new _ _ _⟩ ?_
  clear HT HB6 HB2 R2
  rintro X ⟨gm,hgm,hs,hrm⟩
  rw [<- hgm]
  have hmv:(m.raw V).vars = (V:Int):=rfl
  have hme:(m.raw V).empty = (m.e:Int):=rfl
  rw [hmv,hme,(m.raw_len V).1,(m.raw_len V).2] at hs hrm
  rw [hmv,hme,(m.raw_len V).1,(m.raw_len V).2]
  have HS:=zh hs; have RM:=zh hrm
  have hn64:=HMF.out.n64
  have hOK:=zh HMF.out.ok
  obtain ⟨N,hN⟩:=zx m.n
  obtain ⟨E,hE⟩:=zx m.e
  rw [<- hN,<- hE] at HS RM ⊢
  rw [<- hN] at hn64
  have HNN:=zh hN
  clear hs hrm hgm hmv hme hN hE hsz2 HEM HMI
  go_wp2
  go_loopg [8,29] 32 (fun gk q8 q29 wr => ∃ n:Nat,n <= 32 /\ gk = 32 - n /\ q29 = .int .i64 n /\ SmW w gm n m V (.agg #[.int .i64 (V:Int),.int .i64 (E:Int),.slice A6 N c6,.slice A7 N c7]) q8 wr /\ Row wr gm 30 #[.int .i64 (V:Int),.int .i64 (E:Int),.slice A6 N c6,.slice A7 N c7])
  case atStart => exact ⟨0,by omega,rfl,rfl,HS.out,RM.out⟩
  case round =>
   clear HS RM
   obtain ⟨n,hn,rfl,rfl,hs,hrm⟩:=hrel
   obtain ⟨wl,hwl⟩:=zx wr
   subst hwl
   obtain ⟨vs,hv1,hv2,hv3⟩:=hs.so
   rw [zbg] at hv2
   obtain ⟨A8,c8,rfl⟩:=VO.formN (n:=n) hv1 hv2
   have HS:=zh hs; have RM:=zh hrm
   have HV1:=zh hv1; have HV2:=zh hv2; have HV3:=zh hv3
   have y0:=hrm.cell
   clear hv1 hv2 hv3 hs hrm
   by_cases hlt:n < 32
   ·have HSZ:=zh (HSI.out n (by omega) wl _ _ HS.out.tdo.td HS.out.so)
    have hnlt:(n:Int) < 32:=by omega
    go_upto_region 10 with (first
     | (go_at_call 101; refine HSZ.out.mono ?_; rintro e w3 ⟨u3,rfl,hb3,hf3⟩; obtain ⟨ls3,hk3,hl3,hfv3⟩:=id hf3; obtain ⟨A3,c3,rfl⟩:=KO.form (n:=N) hk3 (by rw [hl3,zep,HNN.out]); have HF3:=zh (hf3.mono HS.out.below.size); have HV13:=zh (HV1.out.below hb3 zn); have HB3:=zh (HS.out.below.trans (hb3.mono HS.out.below.size)); have HV33:=zh (fun (i:Nat) u (hu:vs[i]? = some u) => (show ∃ os,(zbh m n)[i]? = some os /\ FR w3 w.heap.size u os from by obtain ⟨os,k1,k2⟩:=HV3.out i u hu; exact ⟨os,k1,k2.below hb3 zn⟩)); have HT3:=zh (HS.out.tdo.below hb3 zn); have RM3:=zh (RM.out.below hb3 RM.out.lt); clear hb3 hf3 hk3 hl3 hfv3 y0)
     | (at_builtin; refine zac eFF rfl (.tmp 32) (.tmp 37) rfl w.heap.size _ _ rfl (VO.allocd HV13.out _) _ [.slice A3 N c3] rfl (VS.one (Row.new _ _ _)) (by intro u hu; simp at hu; subst hu; rfl) (by rw [HV2.out]; simp; omega) (by simp only [World.size_alloc]; have:=HB3.out.size; omega) ?_; intro v7 w7 ho7 hg7 _; obtain ⟨A9,c9,rfl⟩:=VO.formN (n:=n + 1) ho7 (by rw [List.length_append,HV2.out]; rfl); have HO7:=zh ho7; have HG7:=zh hg7; clear ho7 hg7))
    refine zaa (fun X => Below w.heap.size w X /\ TDO X w.heap.size (.agg #[.int .i64 (V:Int),.int .i64 (E:Int),.slice A6 N c6,.slice A7 N c7]) (m.raw V) /\ SO X w.heap.size (.slice A9 (n + 1) c9) (zbh m (n + 1)) /\ Row X gm 30 #[.int .i64 (V:Int),.int .i64 (E:Int),.slice A6 N c6,.slice A7 N c7])
     ⟨zat (w:=w) (by have h1:=HB3.out; have h2:=h1.size; go_grown) (VO.allocd HV13.out _) HG7.out (by simp only [World.size_alloc]; have:=HB3.out.size; omega),
      (HT3.out.below (Below.alloc (Below.refl w3.heap.size w3) zn _) zn).grown (by decide) (by decide) (by decide) (by decide) (VO.allocd HV13.out _) HG7.out,
      SO.snoc HV13.out (by rw [HV2.out,zbg]) HV33.out HF3.out HG7.out HO7.out,
      (RM3.out.alloc _).far_own (by decide) (VO.allocd HV13.out _).2 HG7.out⟩ ?_
    have hnone:=HS.out.none
    have HNONE:=zh hnone
    clear hnone HS HB3 HT3 HV13 HV33 HF3 HG7 HO7 RM3 HV1 HV2 HV3 RM HSZ
    rintro Wa ⟨hb,htd,hso,hrm⟩
    have HB:=zh hb; have HTD:=zh htd; have HSOa:=zh hso; have RM:=zh hrm
    obtain ⟨vs2,hv1,hv2,hv3⟩:=hso
    rw [zbg] at hv2
    obtain ⟨g9,cap9,cs9,he9,_,_,hc9,hc9',hcell9⟩:=hv1.row (by omega)
    rw [hv2] at he9 hc9
    simp only [Value.slice.injEq,true_and] at he9
    obtain ⟨rfl,rfl⟩:=he9
    obtain ⟨u,hu⟩:∃ u,vs2[n]? = some u:=⟨vs2[n]'(by omega),List.getElem?_eq_getElem _⟩
    have cn:=hcell9 n u hu
    obtain ⟨os,hos,hfr⟩:=hv3 n u hu
    rw [zgk m (n + 1) n (by omega)] at hos
    have hos':sizR m (zbh m n) n = os:=Option.some.inj hos
    have hol:os.length = N:=by rw [<- hos',zep,HNN.out]
    have hN0:0 < N:=by rw [HNN.out]; have:=hOK.out.he; omega
    obtain ⟨g5,cap5,cs5,rfl,_,hr5,hc5,hc5',hcell5⟩:=hfr.open (by omega)
    rw [hol] at hc5 cn
    have HC5:=zh (fun s (hs:s < N) => hcell5 s (rowS m n s) (by
     show os[s]? = some (rowS m n s)
     rw [<- hos']
     unfold rowS
     rw [List.getD_eq_getElem?_getD,List.getElem?_eq_getElem (by rw [zep,<- HNN.out]; exact hs)]; rfl))
    obtain ⟨vnm,vfm,hagg,_,hfb⟩:=htd
    have e4:=Option.some.inj (congrArg (fun a:Value => match a with | .agg cs => cs[3]? | _ => none) hagg)
    obtain ⟨bk,ok,ck,hfe,hk1,hbk,hk2⟩:=(show NB Wa (.slice A7 N c7) ((List.range m.n).map m.fin) from by rw [show Value.slice A7 N c7 = vfm from e4]; exact hfb.nb).at HMF.out.pos
    rw [<- HNN.out] at hfe hk1 hk2
    simp only [Value.slice.injEq,true_and] at hfe
    have hfe1:=hfe.1
    have hfe2:=hfe.2
    subst hfe1
    subst hfe2
    clear e4 hagg hfe
    have HK2:=zh hk2
    have hlt5:=hr5.lt
    have hnn1:(n:Int) < (n:Int) + 1:=by omega
    have cn':=fun X => ((Below.alloc (Below.refl Wa.heap.size Wa) zn X).cell (p:=⟨g9,n,none⟩) (by obtain ⟨_,_,_,h1,_,h2,_⟩:=hv1.row (by omega); simp only [Value.slice.injEq,Option.some.injEq,Addr.mk.injEq,and_true] at h1; obtain ⟨rfl,_,_⟩:=h1; exact h2.lt)).trans cn
    clear hb hrm hv1 hv2 hv3 hcell9 hu hos hfr hos' hr5 hcell5 hfb hk2
    go_wp2
    refine zaa (fun X => ∃ gb,gb = Wa.heap.size /\ Below Wa.heap.size Wa X /\ FR X w.heap.size (.slice (some ⟨gb,0,none⟩) 1 1) [bstK m (rowS m n) 0])
     ⟨_,rfl,by go_grown,by
      have h:=FR.make Wa w.heap.size 1 HB.out.size (by omega)
      have e:madeCells #[.slice none 0 0,.bool false] (1 * 2) = #[.slice none 0 0,.bool false]:=by simp [madeCells,Array.range]; rfl
      rw [e] at h
      exact h⟩ ?_
    clear cn cn'
    rintro X ⟨gb,hgb,hbx,hfb⟩
    rw [<- hgb]
    have hgbw:Wa.heap.size <= gb:=by omega
    have HBX:=zh hbx; have HFB:=zh hfb
    clear hbx hfb hgb
    go_loopg [44] N (fun gk q wr => ∃ s:Nat,s <= N /\ gk = N - s /\ q = .int .i64 s /\ Below Wa.heap.size Wa wr /\ FR wr w.heap.size (.slice (some ⟨gb,0,none⟩) 1 1) [bstK m (rowS m n) s])
    case atStart => exact ⟨0,by omega,rfl,rfl,HBX.out,HFB.out⟩
    case round =>
     clear HBX HFB
     obtain ⟨s,hs,rfl,rfl,hbx,hfb⟩:=hrel
     have HBX:=zh hbx; have HFB:=zh hfb
     clear hbx hfb
     by_cases hlts:s < N
     ·obtain ⟨x,hfv,c0,c1'⟩:=HC5.out s hlts
      have cf:=HK2.out s hlts
      obtain ⟨o,ho⟩:=zx (rowS m n s)
      rw [<- ho] at hfv c1'
      obtain ⟨Ax,nx,cx,hxe⟩:=hfv.form
      simp only [List.cons.injEq,and_true] at hxe
      subst hxe
      rw [<- HBX.out.cell (p:=⟨g5,_,none⟩) hlt5] at c0 c1'
      rw [<- HBX.out.cell (p:=⟨bk,_,none⟩) hbk] at cf
      obtain ⟨qo,hqo⟩:=zx o.isSome
      rw [<- hqo] at c1'
      obtain ⟨qf,hqf⟩:=zx (m.fin s)
      rw [<- hqf] at cf
      have HQO:=zh hqo; have HQF:=zh hqf; have HO:=zh ho; have HFV:=zh hfv
      clear hqo hqf ho hfv
      have yM:=(RM.out.below HBX.out RM.out.lt).cell
      go_upto_region 14 with fail
      refine zaa (fun Z => Below Wa.heap.size Wa Z /\ FR Z w.heap.size (.slice (some ⟨gb,0,none⟩) 1 1) [bstK m (rowS m n) s] /\ ∃ gt,gt = wr.heap.size /\ Row Z gt 161 #[.slice Ax nx cx,.bool qo] /\ Row Z gm 30 #[.int .i64 (V:Int),.int .i64 (E:Int),.slice A6 N c6,.slice (some ⟨bk,ok,none⟩) N c7] /\ Z.cell? ⟨bk,ok + s,none⟩ = some (.bool qf))
       ⟨by have h1:=HBX.out; have h2:=h1.size; go_grown,HFB.out.below (Below.alloc (Below.refl _ _) zn _) zn,_,rfl,Row.new _ _ _,(RM.out.below HBX.out RM.out.lt).alloc _,((Below.alloc (Below.refl wr.heap.size wr) zn _).cell (p:=⟨bk,_,none⟩) (Nat.lt_of_lt_of_le hbk HBX.out.size)).trans cf⟩ ?_
      clear c0 c1' cf yM
      have hsw:=HBX.out.size
      clear HBX HFB
      rintro Z ⟨hbz,hfz,gt,hgt,hrt,hrm,cf⟩
      rw [<- hgt]
      have y1:=hrt.cell; have y2:=hrm.cell
      have HBZ:=zh hbz; have HFZ:=zh hfz
      clear hbz hfz hrt hrm hgt hsw
      cases qf with
      | false =>
       have hsk:Hid (bstK m (rowS m n) (s + 1) = bstK m (rowS m n) s):=zj0 (by rw [<- HQF.out]; rfl)
       go_wp2
       go_roundg (N - (s + 1))
       case rel => exact ⟨s + 1,by omega,rfl,by go_num,HBZ.out,by rw [hsk.out]; exact HFZ.out⟩
       case measure => omega
      | true =>
       cases o with
       | none =>
        have hqo:qo = false:=HQO.out
        subst hqo
        have hsk:Hid (bstK m (rowS m n) (s + 1) = bstK m (rowS m n) s):=zj0 (by rw [<- HQF.out,<- HO.out]; rfl)
        go_wp2
        go_roundg (N - (s + 1))
        case rel => exact ⟨s + 1,by omega,rfl,by go_num,HBZ.out,by rw [hsk.out]; exact HFZ.out⟩
        case measure => omega
       | some t =>
        have hqo:qo = true:=HQO.out
        subst hqo
        obtain ⟨ut,hut,htt⟩:=HFV.out
        simp only [List.cons.injEq,and_true] at hut
        obtain ⟨rfl,_⟩:=hut
        have hts:t.size = n:=((zds hOK.out n s (by rw [<- HNN.out]; exact hlts)).1 t HO.out.symm).size
        have hbt:=zh3 (s:=0) (o:=bstK m (rowS m n) s) (u:=.slice Ax nx cx) (t:=t) HFZ.out rfl (by omega) (htt.below HBZ.out zn) (by omega) rfl (fun b hb => by rw [hts]; exact zp7 hOK.out (by rw [<- HNN.out]; omega) hb)
        rw [Nat.zero_mul] at hbt
        have HBT:=zh hbt
        have htk:Hid (bstK m (rowS m n) (s + 1) = zci (bstK m (rowS m n) s) t):=zp6 HQF.out.symm HO.out.symm
        clear hbt htt hts
        go_wp2_with (go_at_call 102; refine HBT.out.mono ?_; rintro e w6 ⟨rfl,hfr6,htn6⟩; have HF6:=zh hfr6; have HT6:=zh htn6; clear hfr6 htn6)
        go_roundg (N - (s + 1))
        case rel => exact ⟨s + 1,by omega,rfl,by go_num,HT6.out.below HBZ.out hgbw HBZ.out.size,by rw [htk.out]; exact HF6.out⟩
        case measure => omega
     ·have hse:s = N:=by omega
      have hfr:=HFB.out
      rw [hse,HNN.out,zp8] at hfr
      obtain ⟨b,hb⟩:=zx (bestS m n)
      rw [<- hb] at hfr
      have HBB:=zh hb
      obtain ⟨g',cap',cs',he',_,hrw,_,_,hcl⟩:=hfr.open (by simp)
      simp only [Value.slice.injEq,Option.some.injEq,Addr.mk.injEq,and_true] at he'
      have he1:=he'.1
      subst he1
      clear he'
      obtain ⟨x,hfv,c0,c1'⟩:=hcl 0 b rfl
      rw [Nat.zero_mul] at c0 c1'
      rw [Nat.zero_add] at c1'
      have HFV:=zh hfv
      clear hfr hb hrw hcl hfv
      cases b with
      | none =>
       go_wp2
       go_roundg (32 - (n + 1))
       case rel =>
        refine ⟨n + 1,by omega,rfl,by go_num,⟨HB.out.trans (HBX.out.mono HB.out.size),HTD.out.below HBX.out zn,HSOa.out.below HBX.out zn,fun j hj => ?_⟩,RM.out.below HBX.out RM.out.lt⟩
        by_cases e:j = n
        ·rw [e]; exact HBB.out.symm
        ·exact HNONE.out j (by omega)
       case measure => omega
      | some t =>
       obtain ⟨ut,hut,htt⟩:=HFV.out
       simp only [List.cons.injEq,and_true] at hut
       obtain ⟨rfl,_⟩:=hut
       have hts:t.size = n:=(zh4 hOK.out HBB.out.symm).1
       have hcl:=zfk (t.enc 0) x wr htt.ts (by rw [Bt.enc_len]; omega)
       have HCL:=zh hcl
       have HRR:Hid (R = (t.enc 0,true,0)):=by
        unfold Hid
        rw [HSO2.out,show zeo m = some t from zix (by omega) HBB.out.symm HNONE.out]
       obtain ⟨_,Ax,cx,hxf,_⟩:=htt.ts
       subst hxf
       clear hcl htt hts
       go_wp2_with (go_at_call 103; refine HCL.out.mono ?_; rintro e w6 ⟨v6,rfl,hb6,ht6⟩; have HB6:=zh ((HB.out.trans (HBX.out.mono HB.out.size)).trans (hb6.mono (HB.out.trans (HBX.out.mono HB.out.size)).size)); have HT6:=zh (ht6.mono (HB.out.trans (HBX.out.mono HB.out.size)).size); clear hb6 ht6)
       go_returns
       exact ⟨_,by rw [HRR.out]; rfl,HB6.out,by rw [HRR.out]; exact HT6.out⟩
   ·have hne:n = 32:=by omega
    have HRR:Hid (R = ([],false,4)):=by
     unfold Hid
     rw [HSO2.out,show zeo m = none from List.findSome?_eq_none_iff.2 (fun j hj => HS.out.none j (by rw [hne]; exact List.mem_range.1 hj))]
    go_wp2
    go_returns
    exact ⟨_,by rw [HRR.out]; rfl,HS.out.below,by rw [HRR.out]; exact TO.nil _ _⟩
instance lbDec (L:Nat):(t:Bt) -> Decidable (t.lb L)
 | .nil => isTrue trivial
 | .node a l r => by
  haveI:=lbDec L l
  haveI:=lbDec L r
  show Decidable ((_ /\ _) /\ _ /\ _)
  infer_instance
def zjj (L:Nat) (S:Bt -> Bool) (T:Bt):Bool:=S T && decide (T.size <= 31) && (List.range T.size).all (fun n => (tsF L (n + 1) n).all fun u => !S u) && (tsF L (T.size + 1) T.size).all fun u => !S u || decide (cmpL T.code u.code <= 0)
theorem zq2 {d:Dta} (h:d.OK) {S:Bt -> Bool} (hS:∀ t:Bt,t.lb d.L -> d.fin (d.run t) = S t) (T:Bt) (hT:T.lb d.L) (hl:zjj d.L S T = true):zbf d = (T.enc 0,true,0):=by
 unfold zjj at hl
 simp only [Bool.and_eq_true,decide_eq_true_eq] at hl
 obtain ⟨⟨⟨h1,h31⟩,h2⟩,h3⟩:=hl
 have he:zd9 d = false:=by
  cases e:zd9 d with
  | false => rfl
  | true => have:=(zjt h).1 e T hT; rw [hS T hT,h1] at this; cases this
 have hm:=Dta.mini_is h rfl hS
 have hno:∀ u:Bt,u.lb d.L -> S u = true -> T.size < u.size \/ T.size = u.size /\ leB T u:=by
  intro u hu hs
  rcases Nat.lt_trichotomy u.size T.size with hlt | heq | hgt
  ·have h4:=List.all_eq_true.1 h2 u.size (List.mem_range.2 hlt)
   have h5:=List.all_eq_true.1 h4 u ((zo5 d.L (u.size + 1) u.size (by omega) u).2 ⟨rfl,hu⟩)
   rw [hs] at h5; cases h5
  ·right
   have h5:=List.all_eq_true.1 h3 u ((zo5 d.L (T.size + 1) T.size (by omega) u).2 ⟨heq,hu⟩)
   rw [hs] at h5
   simp at h5
   exact ⟨heq.symm,h5⟩
  ·exact .inl hgt
 unfold zbf
 rw [he]
 have key:zeo d.mini = some T:=by
  cases e:zeo d.mini with
  | none =>
   have:=zmh hm.can.ok e T (by rw [hm.hL]; exact hT) (by rw [hm.lang T hT]; exact h1)
   omega
  | some t =>
   obtain ⟨k1,k2,k3,k4⟩:=zmg hm.can.ok e
   rw [hm.hL] at k2
   have hst:S t = true:=by rw [<- hm.lang t k2]; exact k3
   have a:=hno t k2 hst
   have b:=k4 T (by rw [hm.hL]; exact hT) (by rw [hm.lang T hT]; exact h1)
   have hsz:T.size = t.size:=by omega
   have h5:leB T t:=by rcases a with a | a; omega; exact a.2
   have h6:leB t T:=by rcases b with b | b; omega; exact b.2
   unfold leB at h5 h6
   have h7:=zg8 T.code t.code
   have h8:cmpL t.code T.code = 0:=by omega
   have h9:=(ze2 _ _).1 h8
   have hp1:t.pos:=Bt.lt.pos (lb_lt.1 k2)
   have hp2:T.pos:=Bt.lt.pos (lb_lt.1 hT)
   have:=zrw t T [] [] hp1 hp2 (by rw [h9])
   rw [this.1]
 rw [key]
 rfl
theorem zj7 {d:Dta} (h:d.OK) (hS:∀ t:Bt,t.lb d.L -> d.fin (d.run t) = false):zbf d = ([],false,0):=by
 unfold zbf
 rw [(zjt h).2 hS]; rfl
def accS (d:Dta) (t:Bt):Bool:=d.fin (d.run t)
end Go.Proofs.YthdabkmkgkkmcaaGreatDoor
