/- Part 37 of the proof; it says: lemmas and contracts. No conditions but those that each theorem states. -/
import Derived.BigRegion
import Derived.Deep.RegionHeld3
import Derived.Test.YthkfjnmnoanhlaaGreatDoorPr01
import Derived.Test.YthkfjnmnoanhlaaGreatDoorPr02
import Derived.Test.YthkfjnmnoanhlaaGreatDoorPr10
import Derived.Test.YthkfjnmnoanhlaaGreatDoorPr24
import Derived.Test.YthkfjnmnoanhlaaGreatDoorPr36
set_option linter.unusedSimpArgs false
set_option linter.unusedVariables false
set_option linter.unusedSectionVars false
set_option maxRecDepth 100000
set_option maxHeartbeats 32000000
namespace Go.Proofs.YthkfjnmnoanhlaaGreatDoor
open Go.RowKit
section
variable (d:Dta)
theorem zqz {sm:Nat -> Nat -> Option Bt} {k i l r x:Nat} (h:sm i l = none):kX d sm k i l r x = []:=by unfold kX; rw [h]
theorem zqy {sm:Nat -> Nat -> Option Bt} {k i l r x:Nat} (h:sm (k - i) r = none):kX d sm k i l r x = []:=by
 unfold kX; rw [h]
 cases sm i l <;> rfl
theorem kX_some {sm:Nat -> Nat -> Option Bt} {k i l r x:Nat} {a b:Bt} (h1:sm i l = some a) (h2:sm (k - i) r = some b):kX d sm k i l r x = [(d.nx l r x,Bt.node (x:Int) a b)]:=by unfold kX; rw [h1,h2]
theorem zjx {sm:Nat -> Nat -> Option Bt} {k i l r:Nat} (h:∀ x,kX d sm k i l r x = []):∀ x,preK d sm k i l r x = preK d sm k i l r 0
 | 0 => rfl
 | x + 1 => by rw [zis,h x,List.append_nil]; exact zjx h x
theorem zns {sm:Nat -> Nat -> Option Bt} {k i l:Nat} (h:∀ r x,kX d sm k i l r x = []):∀ r,preK d sm k i l r 0 = preK d sm k i l 0 0
 | 0 => rfl
 | r + 1 => by rw [<- zk8,zjx d (h r)]; exact zns h r
end
theorem zku {d:Dta} {n i l:Nat} (h:i < n):((zan d n).getD i []).getD l none = rowS d i l:=zeq d h
theorem osN_no1 {d:Dta} {k i l:Nat} (hi:i <= k) (h:rowS d i l = none):osN d (k + 1) i (l + 1) 0 0 = osN d (k + 1) i l 0 0:=by
 show osP d.n _ = osP d.n _
 rw [<- znt,zns d (fun r x => zqz d (by rw [zku (by omega)]; exact h))]
theorem osN_no2 {d:Dta} {k i l r:Nat} (hi:i <= k) (h:rowS d (k - i) r = none):osN d (k + 1) i l (r + 1) 0 = osN d (k + 1) i l r 0:=by
 show osP d.n _ = osP d.n _
 rw [<- zk8,zjx d (fun x => zqy d (by rw [zku (by omega)]; exact h))]
theorem osN_x {d:Dta} {k i l r x:Nat} {a b:Bt} (hi:i <= k) (h1:rowS d i l = some a) (h2:rowS d (k - i) r = some b) (hs:d.nx l r x < d.n) :
  osN d (k + 1) i l r (x + 1) = (osN d (k + 1) i l r x).set (d.nx l r x) (zaz ((osN d (k + 1) i l r x).getD (d.nx l r x) none) (Bt.node (x:Int) a b)):=by
 show osP d.n _ = _
 rw [zis,kX_some d (by rw [zku (by omega)]; exact h1) (by rw [zku (by omega)]; exact h2),zlb _ _ hs]
 congr 2
 rw [List.getD_eq_getElem?_getD]
 show _ = ((osP d.n _)[_]?).getD none
 rw [ziy _ hs]; rfl
theorem osN_at {d:Dta} {n i l r x s:Nat} (hs:s < d.n):(osN d n i l r x)[s]? = some ((osN d n i l r x).getD s none):=by
 rw [List.getD_eq_getElem?_getD,List.getElem?_eq_getElem (by rw [zn7]; exact hs)]; rfl
theorem zqo {d:Dta} (h:d.OK) {k i l r x s:Nat} (hi:i <= k) (hs:s < d.n) {b:Bt} (hb:(osN d (k + 1) i l r x).getD s none = some b):b.size = k + 1:=by
 have e:(osN d (k + 1) i l r x).getD s none = minB none (Dta.ofS (preK d (fun i l => ((zan d (k + 1)).getD i []).getD l none) k i l r x) s):=by
  rw [List.getD_eq_getElem?_getD]
  show ((osP d.n _)[_]?).getD none = _
  rw [ziy _ hs]; rfl
 rw [e] at hb
 exact zlc (zit (zkv h k) (by omega) (.inl hi)) hb
theorem zk3 {d:Dta} (h:d.OK) {n s:Nat} (hs:s < d.n) {b:Bt} (hb:rowS d n s = some b):b.size = n:=((zcn h n s hs).1 b hb).size
theorem znf {d:Dta} {n s:Nat} (hs:s < d.n):(sizR d (zan d n) n)[s]? = some (rowS d n s):=by
 unfold rowS
 rw [List.getD_eq_getElem?_getD,List.getElem?_eq_getElem (by rw [zbr]; exact hs)]; rfl
theorem zqa {l:List (Option Bt)} {s:Nat} {o:Option Bt} (h:l[s]? = some o):l.set s o = l:=by
 apply List.ext_getElem?
 intro i
 rw [List.getElem?_set]
 by_cases e:s = i
 ·subst e
  rw [if_pos rfl,if_pos (List.getElem?_eq_some_iff.1 h).1,h]
 ·rw [if_neg e]
def BestR (d:Dta) (w:World) (B:Nat) (u:Value) (z:Int):Prop :=
 (∃ n:Nat,n <= 31 /\ z = (n:Int) /\ (∀ j,j < n -> bestS d j = none) /\ (∃ b,bestS d n = some b) /\ BO w B u (zan d (n + 1))) \/ (z = -1 /\ (∀ j,j < 32 -> bestS d j = none) /\ ∃ A n c,u = .slice A n c)
structure BW (w:World) (V E n:Nat) (d:Dta) (vn vf v:Value) (W:World):Prop where
 below:Below w.heap.size w W
 rd:Row W w.heap.size 25 #[.int .i64 (V:Int),.int .i64 (E:Int),vn,vf]
 bo:BO W w.heap.size v (zan d n)
 no:∀ j,j < n -> bestS d j = none
theorem best20 (d:Dta) (V:Nat) (hd:d.Fit V) (va:Value) (w:World) (hva:TD w va (d.raw V)) :
  Calls Tryz.prog 68 #[va] w fun e w' => ∃ u z,e = .returned (.tuple #[u,.int .i64 z]) /\ Below w.heap.size w w' /\ BestR d w' w.heap.size u z:=by
 obtain ⟨vn,vf,rfl,hn,hff⟩:=hva
 rw [show (d.raw V).vars = (V:Int) from rfl,show (d.raw V).empty = (d.e:Int) from rfl]
 obtain ⟨b3,o3,c3,hN⟩:=(show N3 w vn (nx3 d.n d.L d.nx) from hn).nx hd.pos hd.L8.1
 obtain rfl:=hN.form
 obtain ⟨bk,ok,ck,rfl,hk1,hbk,hk2⟩:=(show NB w vf ((List.range d.n).map d.fin) from hff).at hd.pos
 have hL8:=hd.L8.2
 have hn64:=hd.n64
 have hpos:=hd.pos
 have hcap:=hN.cap
 have hmk:=zio d.n (by omega)
 have hsh:=za2 V hd.v3
 rw [<- hd.L] at hsh
 have hv3i:(V:Int) <= 3:=by have:=hd.v3; omega
 have heN:=hd.ok.he
 have HD:=zh hd.ok; have HN3:=zh hN.at3; have HK2:=zh hk2
 have HLEN:=zh (fun n i l r x => zn7 d n i l r x); have HAT:=zh (fun (n i l r x s:Nat) (h:s < d.n) => osN_at (d:=d) (n:=n) (i:=i) (l:=l) (r:=r) (x:=x) h)
 have HSZ:=zh (fun (k i l r x s:Nat) (hi:i <= k) (hs:s < d.n) (b:Bt) (hb:(osN d (k + 1) i l r x).getD s none = some b) => zqo hd.ok hi hs hb)
 have HRS:=zh (fun (n s:Nat) (hs:s < d.n) (b:Bt) (hb:rowS d n s = some b) => zk3 hd.ok hs hb)
 have HRA:=zh (fun (n s:Nat) (hs:s < d.n) => znf (d:=d) (n:=n) hs)
 have HX20:=zh (fun (k i l r x:Nat) (a b:Bt) (hi:i <= k) (h1:rowS d i l = some a) (h2:rowS d (k - i) r = some b) (hs:d.nx l r x < d.n) => osN_x (x:=x) hi h1 h2 hs)
 have HHN:=zh hd.ok.hn
 have HZ:=zh (show osN d 0 0 0 0 0 = (List.range d.n).map fun s => if s = d.e then some .nil else none from rfl)
 have HS:=zh (fun k => show osN d (k + 1) 0 0 0 0 = List.replicate d.n none by show osP d.n _ = _; rw [preK_0,zn6])
 have HRL:=zh (fun n => zbr d (zan d n) n)
 have HOR:=zh (fun n i l r => osN_r d n i l r)
 have HOL:=zh (fun n i l => osN_l d n i l)
 have HOI:=zh (fun n i => osN_i d n i)
 have HBN:=zh (fun n (h:∀ s,s < d.n -> (if d.fin s then rowS d n s else none) = none) => best_no h)
 have HBY:=zh (fun n s (t:Bt) (hs:s < d.n) (h1:d.fin s = true) (h2:rowS d n s = some t) => zrj hs h1 h2)
 clear hn hff hN hd hk2
 obtain ⟨N,hNN⟩:=zx d.n
 obtain ⟨L,hLL⟩:=zx d.L
 obtain ⟨E,hE⟩:=zx d.e
 rw [<- hNN,<- hLL] at HN3 HHN
 rw [<- hNN] at hn64 hpos hmk hcap hk1 HK2 HLEN HAT HSZ HRS HRA HX20 HZ HS HRL HOL HOI HBN HBY heN
 rw [<- hLL] at hL8 hsh HOR
 rw [<- hE] at heN HZ
 rw [<- hNN,<- hE]
 clear hNN hLL hE
 obtain ⟨hcap1,hcap2⟩:=hcap
 go_enter Tryz.func68,Tryz.ntmps68
 go_upto_region 1 with fail
 refine zab (BW w V E 0 d (.slice (some ⟨b3,o3,none⟩) N c3) (.slice (some ⟨bk,ok,none⟩) N ck) (.slice none 0 0)) ⟨by go_grown,Row.new _ _ _,BO.nil _ _,fun j h => by omega⟩ ?_
 rintro W hbw
 have HBW:=zh hbw
 clear hbw
 go_wp2
 go_loopg [4,5] 32 (fun gk q4 q5 wr => ∃ n:Nat,n <= 32 /\ gk = 32 - n /\ q5 = .int .i64 n /\ BW w V E n d (.slice (some ⟨b3,o3,none⟩) N c3) (.slice (some ⟨bk,ok,none⟩) N ck) q4 wr)
 case atStart => exact ⟨0,by omega,rfl,rfl,HBW.out⟩
 case round =>
  clear HBW
  obtain ⟨n,hn32,rfl,rfl,hbw⟩:=hrel
  obtain ⟨wl,hwl⟩:=zx wr
  subst hwl
  obtain ⟨vs,hv1,hv2,hv3⟩:=hbw.bo
  rw [zav] at hv2
  obtain ⟨A4,c4,rfl⟩:=VO.formN (n:=n) hv1 hv2
  have HBW:=zh hbw; have HV1:=zh hv1; have HV2:=zh hv2; have HV3:=zh hv3
  clear hbw hv1 hv2 hv3
  by_cases hlt:n < 32
  ·have hnlt:(n:Int) <= 31:=by omega
   obtain ⟨go,hgo⟩:=zx wl.heap.size
   have HGO:=zh hgo
   clear hgo
   have y0:=HBW.out.rd.cell
   go_upto_region 6 with fail
   have hg:=HGO.out
   have hbl:=HBW.out.below
   have hwlt:w.heap.size < wl.heap.size:=HBW.out.rd.lt
   refine zab (fun X => Below wl.heap.size wl X /\ Row X w.heap.size 25 #[.int .i64 (V:Int),.int .i64 (E:Int),.slice (some ⟨b3,o3,none⟩) N c3,.slice (some ⟨bk,ok,none⟩) N ck] /\ FBr X w.heap.size (.slice (some ⟨go,0,none⟩) N N) (List.replicate N none)) ⟨by go_grown,(HBW.out.rd).alloc _,by rw [hg]; exact FBr.make wl w.heap.size N hbl.size (by omega)⟩ ?_
   clear y0 hmk
   rintro X ⟨hx,hr,hf⟩
   rw [<- hg]
   clear hg
   have y0:=hr.cell
   have HX:=zh hx; have HF:=zh hf; have HR:=zh hr
   clear hx hr hf
   go_upto_if 24 with fail
   go_cut [] from 25 to 29 (fun X => Below wl.heap.size wl X /\ FBr X w.heap.size (.slice (some ⟨go,0,none⟩) N N) (osN d n 0 0 0 0))
   case first =>
    clear HN3 HK2 HLEN HAT HSZ HRS HRA HX20 HHN HRL HOR HOL HOI HBN HBY HD
    cases n with
    | zero =>
     obtain ⟨g',cap',cs',he',hBg,hrow,_,_,hcell⟩:=HF.out.open (by rw [List.length_replicate]; omega)
     rw [List.length_replicate] at he'
     simp only [Value.slice.injEq,Option.some.injEq,Addr.mk.injEq,and_true,true_and] at he'
     obtain ⟨rfl,-⟩:=he'
     obtain ⟨xx,_,c0,c1'⟩:=hcell E none (by rw [List.getElem?_replicate,if_pos heN])
     have f0:=hrow.free (E * 2); have f1:=hrow.free (E * 2 + 1)
     have heNi:(E:Int) < (N:Int):=by omega
     clear hcell hrow
     go_wp2
     go_meet
     exact ⟨(HX.out.setCell (p:=⟨go,E * 2,none⟩) (by have hg:=HGO.out; show wl.heap.size <= go; omega) _).setCell (p:=⟨go,E * 2 + 1,none⟩) (by have hg:=HGO.out; show wl.heap.size <= go; omega) _,by rw [HZ.out]; exact HF.out.put0 heN⟩
    | succ k =>
     have hkn:(((k + 1:Nat):Int) == 0) = false:=by rw [beq_eq_false_iff_ne]; omega
     have hkn2:((k:Int) + 1 == 0) = false:=by rw [beq_eq_false_iff_ne]; omega
     clear y0
     go_wp2
     go_meet
     exact ⟨HX.out,by rw [HS.out k]; exact HF.out⟩
   case rest =>
   obtain ⟨hx,hf⟩:=hcut
   clear y0 HX HF HR
   obtain ⟨X1,hX1⟩:=zx wc
   subst hX1
   have HX:=zh hx; have HF:=zh hf
   have HVX:=zh (show VO 95 (X1.alloc (.cells #[(.slice (some ⟨go,0,none⟩) N N)] 95)) w.heap.size (.slice A4 n c4) vs from VO.allocd (VO.below HV1.out hx zn) _)
   have hxs:=hx.size
   clear hx hf
   go_upto_region 9 with (at_builtin; refine zaa eBB rfl (.tmp 30) (.tmp 32) rfl w.heap.size _ _ rfl HVX.out _ [(.slice (some ⟨go,0,none⟩) N N)] rfl (VS.one (Row.new _ _ _)) (by intro u hu; simp at hu; subst hu; rfl) (by rw [HV2.out]; simp; omega) (by simp only [World.size_alloc]; omega) ?_; intro v7 w7 ho7 hg7 _; obtain ⟨gO,cO,rfl,hbs⟩:=BsI.start hbl HGO.out hwlt HBW.out.rd HV1.out HV2.out (zav d n) HV3.out HX.out HF.out hg7 ho7; have HBS:=zh hbs; clear hbs ho7 hg7)
   refine zab (fun W => BsI w go V E N gO n cO (.slice (some ⟨b3,o3,none⟩) N c3) (.slice (some ⟨bk,ok,none⟩) N ck) vs (zan d n) (osN d n 0 0 0 0) W) HBS.out ?_
   clear HBS HVX HX HF hbl hwlt hxs
   rintro Wq hbs
   have HB:=zh hbs
   have hcO:=hbs.cap
   obtain ⟨hcO1,hcO2⟩:=hcO
   have HNO:=zh HBW.out.no
   clear hbs HBW HV1 HV2 HV3 HZ HS HGO
   go_wp2
   go_loopg [7] n (fun gk q wr => ∃ i:Nat,i <= n /\ gk = n - i /\ q = .int .i64 i /\ BsI w go V E N gO n cO (.slice (some ⟨b3,o3,none⟩) N c3) (.slice (some ⟨bk,ok,none⟩) N ck) vs (zan d n) (osN d n i 0 0 0) wr)
   case atStart => exact ⟨0,by omega,rfl,rfl,HB.out⟩
   case round =>
    clear HB
    obtain ⟨i,hi,rfl,rfl,hb⟩:=hrel
    have HB:=zh hb
    clear hb
    by_cases hlti:i < n
    ·have hltii:(i:Int) < (n:Int):=by omega
     obtain ⟨k,hk⟩:∃ k,n = k + 1:=⟨n - 1,by omega⟩
     have hik:i <= k:=by omega
     obtain ⟨j,hj⟩:=zx (k - i)
     have hn1:(n:Int) - 1 = (k:Int):=by omega
     have hkj:(k:Int) - (i:Int) = (j:Int):=by omega
     have hjn:j < n:=by omega
     have HK:=zh hk; have HJ:=zh hj
     clear hk hj
     go_wp2
     go_loopg [8] N (fun gk q wr => ∃ l:Nat,l <= N /\ gk = N - l /\ q = .int .i64 l /\ BsI w go V E N gO n cO (.slice (some ⟨b3,o3,none⟩) N c3) (.slice (some ⟨bk,ok,none⟩) N ck) vs (zan d n) (osN d n i l 0 0) wr)
     case atStart => exact ⟨0,by omega,rfl,rfl,HB.out⟩
     case round =>
      clear HB
      obtain ⟨l,hl,rfl,rfl,hb⟩:=hrel
      have HB:=zh hb
      have y0:=hb.rd.cell
      clear hb
      by_cases hltl:l < N
      ·have hltli:(l:Int) < (N:Int):=by omega
       obtain ⟨oa,hoa⟩:=zx (rowS d i l)
       obtain ⟨qa,hqa⟩:=zx oa.isSome
       have HOA:=zh hoa; have HQA:=zh hqa
       clear hoa hqa
       go_wp2
       clear y0
       go_loopg [9] N (fun gk q wr => ∃ r:Nat,r <= N /\ gk = N - r /\ q = .int .i64 r /\ (oa = none -> r = 0) /\ BsI w go V E N gO n cO (.slice (some ⟨b3,o3,none⟩) N c3) (.slice (some ⟨bk,ok,none⟩) N ck) vs (zan d n) (osN d n i l r 0) wr)
       case atStart => exact ⟨0,by omega,rfl,rfl,fun _ => rfl,HB.out⟩
       case round =>
        clear HB
        obtain ⟨r,hr,rfl,rfl,hr0,hb⟩:=hrel
        obtain ⟨gI,cI,hvi,hgO,ci,hcI1,hcI2,hgI,hci⟩:=hb.old (zbi d n i hlti) (HRL.out i) hpos
        obtain ⟨xa,hfa,a0,a1⟩:=hci l _ (HRA.out i l hltl)
        rw [<- HOA.out] at hfa a1
        obtain ⟨Aa,na,ca,hxa⟩:=hfa.form
        simp only [List.cons.injEq,and_true] at hxa
        subst hxa
        rw [<- HQA.out] at a1
        have HB:=zh hb; have HFA:=zh hfa
        have y0:=hb.rd.cell
        have HA0:=zh a0
        clear hci hvi hb hfa a0
        by_cases hltr:r < N
        ·have hltri:(r:Int) < (N:Int):=by omega
         cases hoa:oa with
         | none =>
          have hqa:qa = false:=by rw [HQA.out,hoa]; rfl
          have hr00:=hr0 hoa
          have hOA:=HOA.out
          rw [hoa] at hOA
          have HNO1:Hid (osN d n i (l + 1) 0 0 = osN d n i l 0 0):=by unfold Hid; rw [HK.out]; exact osN_no1 hik hOA.symm
          subst hqa hr00
          clear hoa hOA hr0
          go_wp2
          go_roundg (N - (l + 1))
          case rel => exact ⟨l + 1,by omega,rfl,by go_num,by rw [HNO1.out]; exact HB.out⟩
          case measure => omega
         | some a =>
          have hqa:qa = true:=by rw [HQA.out,hoa]; rfl
          have hOA:=HOA.out
          have hfa:=HFA.out
          rw [hoa] at hOA hfa
          have HOA2:=zh hOA; have HFA2:=zh hfa; have HOE:=zh hoa
          subst hqa
          clear hoa hOA hfa hr0
          obtain ⟨gJ,cJ,hvj,_,cj,hcJ1,hcJ2,hgJ,hcj⟩:=HB.out.old (zbi d n j hjn) (HRL.out j) hpos
          obtain ⟨xb,hfb,b0,b1⟩:=hcj r _ (HRA.out j r hltr)
          obtain ⟨ob,hob⟩:=zx (rowS d j r)
          rw [<- hob] at hfb b1
          obtain ⟨Ab,nb,cb,hxb⟩:=hfb.form
          simp only [List.cons.injEq,and_true] at hxb
          subst hxb
          obtain ⟨qb,hqb⟩:=zx ob.isSome
          rw [<- hqb] at b1
          have HOB:=zh hob; have HQB:=zh hqb; have HFB:=zh hfb; have HB0:=zh b0
          have hjn1:(j:Int) < (n:Int) + 1:=by omega
          have hj0:(0:Int) <= (j:Int):=by omega
          clear hcj hvj hob hqb hfb b0
          cases hob:ob with
          | none =>
           have hqb:qb = false:=by rw [HQB.out,hob]; rfl
           have hOB:=HOB.out
           rw [hob] at hOB
           have HNO2:Hid (osN d n i l (r + 1) 0 = osN d n i l r 0):=by unfold Hid; rw [HK.out]; exact osN_no2 hik (by rw [<- HJ.out]; exact hOB.symm)
           subst hqb
           clear hob hOB
           go_wp2
           go_roundg (N - (r + 1))
           case rel => exact ⟨r + 1,by omega,rfl,by go_num,fun h => by first | (cases h; done) | (rw [HOE.out] at h; cases h),by rw [HNO2.out]; exact HB.out⟩
           case measure => omega
          | some b =>
           have hqb:qb = true:=by rw [HQB.out,hob]; rfl
           have hOB:=HOB.out
           have hfb:=HFB.out
           rw [hob] at hOB hfb
           have HOB2:=zh hOB
           obtain ⟨ua,hua,hta⟩:=HFA2.out
           simp only [List.cons.injEq,and_true] at hua
           obtain ⟨rfl,_⟩:=hua
           obtain ⟨ub,hub,htb⟩:=hfb
           simp only [List.cons.injEq,and_true] at hub
           obtain ⟨rfl,_⟩:=hub
           have sza:=HRS.out i l hltl a HOA2.out.symm
           have szb:=HRS.out j r hltr b hOB.symm
           have HTA:=zh hta; have HTB:=zh htb
           have hsum:a.size + b.size = k:=by omega
           have HSUM:=zh hsum
           subst hqb
           obtain ⟨W4,hW4⟩:=zx wr
           subst hW4
           have HCI:=zh (show W4.cell? ⟨gO,i,none⟩ = _ from ci); have HCJ:=zh (show W4.cell? ⟨gO,j,none⟩ = _ from cj)
           clear hob hOB hta htb sza szb hsum
           go_wp2
           clear ci cj a1 b1 y0
           go_loopg [10] L (fun gk q wr => ∃ x:Nat,x <= L /\ gk = L - x /\ q = .int .i64 x /\ (BsI w go V E N gO n cO (.slice (some ⟨b3,o3,none⟩) N c3) (.slice (some ⟨bk,ok,none⟩) N ck) vs (zan d n) (osN d n i l r x) wr) /\ Tn go W4 wr)
           case atStart => exact ⟨0,by omega,rfl,rfl,HB.out,⟨rfl,rfl,rfl,zn,fun _ _ _ => rfl⟩⟩
           case round =>
            clear HB
            obtain ⟨x,hx,rfl,rfl,hb,htn⟩:=hrel
            have HB:=zh hb; have HTN:=zh htn
            have y0:=hb.rd.cell
            clear hb htn
            by_cases hltx:x < L
            ·have hltxi:(x:Int) < (L:Int):=by omega
             have hxw:IntKind.u8.wrap (x:Int) = (x:Int):=by rw [IntKind.wrap_u8]; omega
             have HMS:=zh (show L - (x + 1) < L - x by omega)
             have HX1:=zh (show x + 1 <= L by omega)
             have HXC:=zh (show Value.int .i64 ((x:Int) + 1) = .int .i64 ((x + 1:Nat):Int) from rfl)
             obtain ⟨g',cap',cs',he',hBg,hrow,hcc1,hcc2,hcell⟩:=HB.out.row.open (by rw [HLEN.out]; exact hpos)
             rw [HLEN.out] at he' hcc1
             simp only [Value.slice.injEq,Option.some.injEq,Addr.mk.injEq,and_true,true_and] at he'
             obtain ⟨rfl,-⟩:=he'
             obtain ⟨gI2,cI2,hvi2,_,ci2,_,_,hgI2,hci2⟩:=HB.out.old (zbi d n i hlti) (HRL.out i) hpos
             obtain ⟨gJ2,cJ2,hvj2,_,cj2,_,_,hgJ2,hcj2⟩:=HB.out.old (zbi d n j hjn) (HRL.out j) hpos
             obtain ⟨xa2,hfa2,a0,_⟩:=hci2 l _ (HRA.out i l hltl)
             obtain ⟨xb2,hfb2,b0,_⟩:=hcj2 r _ (HRA.out j r hltr)
             rw [<- HOA2.out] at hfa2
             rw [<- HOB2.out] at hfb2
             obtain ⟨ua2,hua2,hta2⟩:=hfa2
             simp only [List.cons.injEq,and_true] at hua2
             obtain ⟨rfl,-⟩:=hua2
             obtain ⟨ub2,hub2,htb2⟩:=hfb2
             simp only [List.cons.injEq,and_true] at hub2
             obtain ⟨rfl,-⟩:=hub2
             obtain ⟨Aa2,ca2,hea2⟩:∃ A c,xa2 = .slice A (a.enc 0).length c:=by obtain ⟨_,A,c,e,_⟩:=hta2.ts; exact ⟨A,c,e⟩
             obtain ⟨Ab2,cb2,heb2⟩:∃ A c,xb2 = .slice A (b.enc 0).length c:=by obtain ⟨_,A,c,e,_⟩:=htb2.ts; exact ⟨A,c,e⟩
             subst hea2 heb2
             obtain ⟨la,hla⟩:=zx ((a.enc 0).length)
             obtain ⟨lb,hlb⟩:=zx ((b.enc 0).length)
             rw [<- hla] at hta2 a0
             rw [<- hlb] at htb2 b0
             have hsum:=HSUM.out
             have hsl:d.nx l r x < N:=HHN.out l r x hltl hltr hltx
             have HJN:=zh (fun (X:World) (hX:Below wr.heap.size wr X) => (show Calls Tryz.prog 109 #[.int .u8 (x:Int),.slice Aa2 la ca2,.slice Ab2 lb cb2] X (RetTT X ((Bt.node (x:Int) a b).enc 0) 0) by
              have h:=zmx (x:Int) (a.enc 0) (b.enc 0) (.slice Aa2 la ca2) (.slice Ab2 lb cb2) X (hta2.ts.below hX zn) (htb2.ts.below hX zn) (by omega) (by omega)
              rw [zov (by omega)] at h
              exact h))
             have hsn:(Bt.node (x:Int) a b).size = n:=by simp only [Bt.size]; have:=HK.out; omega
             have HSN:=zh hsn
             have HXX:=zh (show osN d n i l r (x + 1) = (osN d n i l r x).set (d.nx l r x) (zaz ((osN d n i l r x).getD (d.nx l r x) none) (Bt.node (x:Int) a b)) by
              have h:=HX20.out k i l r x a b hik HOA2.out.symm (by rw [<- HJ.out]; exact HOB2.out.symm) hsl
              rw [HK.out]; exact h)
             have HAT2:=zh (HAT.out n i l r x (d.nx l r x) hsl)
             have HSZ2:=zh (fun bb h => HSZ.out k i l r x (d.nx l r x) hik hsl bb h)
             rw [<- HK.out] at HSZ2
             obtain ⟨e2,f2,k2,e1,f1,k1,h1,h2,h3,h4,h5,h6,h7,h8⟩:=HN3.out l r x hltl hltr hltx
             have H2:=zh h2; have H5:=zh h5
             obtain ⟨s,hs⟩:=zx (d.nx l r x)
             rw [<- hs] at h8 hsl HXX HAT2 HSZ2
             have H8:=zh h8
             obtain ⟨os,hos⟩:=zx (osN d n i l r x)
             have hosl:os.length = N:=by rw [hos]; exact HLEN.out _ _ _ _ _
             have HBO:=zh (show BsI w go V E N gO n cO (.slice (some ⟨b3,o3,none⟩) N c3) (.slice (some ⟨bk,ok,none⟩) N ck) vs (zan d n) (os) wr from by rw [hos]; exact HB.out)
             rw [<- hos] at HXX HAT2 HSZ2
             obtain ⟨o,ho⟩:=zx (os.getD s none)
             rw [<- ho] at HXX HAT2 HSZ2
             obtain ⟨t,ht⟩:=zx (Bt.node (x:Int) a b)
             rw [<- ht] at HJN HSN HXX
             have hsli:(s:Int) < (N:Int):=by omega
             have htl:t.size <= 31:=by have:=HSN.out; omega
             obtain ⟨wx,hwx⟩:=zx wr
             subst hwx
             have HSX:Hid (∀ X,Below wx.heap.size wx X -> X.cell? ⟨gO,i,none⟩ = some (.slice (some ⟨gI2,0,none⟩) N cI2) /\ X.cell? ⟨gO,j,none⟩ = some (.slice (some ⟨gJ2,0,none⟩) N cJ2) /\ X.cell? ⟨gI2,l * 2,none⟩ = some (.slice Aa2 la ca2) /\ X.cell? ⟨gJ2,r * 2,none⟩ = some (.slice Ab2 lb cb2)):=by
              intro X hX
              have hgO':gO < wx.heap.size:=by
               obtain ⟨g',_,_,he,_,hr,_⟩:=HB.out.vo.row (by simp)
               simp only [Value.slice.injEq,Option.some.injEq,Addr.mk.injEq,and_true] at he
               obtain ⟨rfl,_⟩:=he
               exact hr.lt
              exact ⟨(hX.cell (p:=⟨gO,i,none⟩) hgO').trans ci2,(hX.cell (p:=⟨gO,j,none⟩) hgO').trans cj2,(hX.cell (p:=⟨gI2,l * 2,none⟩) hgI2).trans a0,(hX.cell (p:=⟨gJ2,r * 2,none⟩) hgJ2).trans b0⟩
             clear hos ho ht hs hsum hla hlb hta2 htb2 hsn h2 h5 h8 hci2 hcj2 hvi2 hvj2 ci2 cj2 a0 b0 hrow hcell hcc1 hcc2 HB
             go_upto_region 22 with fail
             clear y0
             have hi1:(i:Int) < (n:Int) + 1:=by omega
             have wn1:IntKind.i64.wrap ((n:Int) - 1) = (k:Int):=by rw [hn1]; exact IntWalk.i64_in _ (by omega)
             have wkj:IntKind.i64.wrap ((k:Int) - (i:Int)) = (j:Int):=by rw [hkj]; exact IntWalk.i64_in _ (by omega)
             have wk:IntKind.i64.wrap (k:Int) = (k:Int):=IntWalk.i64_in _ (by omega)
             have wj:IntKind.i64.wrap (j:Int) = (j:Int):=IntWalk.i64_in _ (by omega)
             refine wp_region_held_drew (S:=(fun X => X.cell? ⟨gO,i,none⟩ = some (.slice (some ⟨gI2,0,none⟩) N cI2) /\ X.cell? ⟨gO,j,none⟩ = some (.slice (some ⟨gJ2,0,none⟩) N cJ2) /\ X.cell? ⟨gI2,l * 2,none⟩ = some (.slice Aa2 la ca2) /\ X.cell? ⟨gJ2,r * 2,none⟩ = some (.slice Ab2 lb cb2))) (by kernel_rfl) (HSX.out _ (Below.refl _ _).drew) (fun hHeld => ?_)
             refine tk 0 (oi:=⟨some 83,_,_,_,_,_⟩) ?_
             try simp only [zp]
             refine tk 1 (oi:=⟨some 84,_,_,_,_,_⟩) ?_
             try simp only [zp]
             refine tk 2 (oi:=⟨some 85,_,_,_,_,_⟩) ?_
             try simp only [zp]
             refine tk 3 (oi:=⟨some 86,_,_,_,_,_⟩) ?_
             try simp only [zp]
             refine tk 4 (oi:=⟨some 87,_,_,_,_,_⟩) ?_
             try simp only [zp]
             refine tk 5 (oi:=⟨some 88,_,_,_,_,_⟩) ?_
             try simp only [zp]
             refine tk 6 (oi:=⟨some 89,_,_,_,_,_⟩) ?_
             try simp only [zp]
             refine tk 7 (oi:=⟨some 90,_,_,_,_,_⟩) ?_
             try simp only [zp]
             refine tk 8 (oi:=⟨some 91,_,_,_,_,_⟩) ?_
             try simp only [zp]
             refine tk 9 (oi:=⟨some 92,_,_,_,_,_⟩) ?_
             try simp only [zp]
             refine tk 10 (oi:=⟨some 93,_,_,_,_,_⟩) ?_
             try simp only [zp]
             refine tk 11 (oi:=⟨some 94,_,_,_,_,_⟩) ?_
             try simp only [zp]
             refine tk 12 (oi:=⟨some 95,_,_,_,_,_⟩) ?_
             try simp only [zp]
             refine tk 13 (oi:=⟨some 96,_,_,_,_,_⟩) ?_
             try simp only [zp]
             refine tk 14 (oi:=⟨some 97,_,_,_,_,_⟩) ?_
             try simp only [zp]
             refine tk 15 (oi:=⟨some 98,_,_,_,_,_⟩) ?_
             try simp only [zp]
             refine tk 16 (oi:=⟨some 99,_,_,_,_,_⟩) ?_
             try simp only [zp]
             refine tk 17 (oi:=⟨some 100,_,_,_,_,_⟩) ?_
             try simp only [zp]
             refine tk 18 (oi:=⟨some 101,_,_,_,_,_⟩) ?_
             try simp only [zp]
             refine tk 19 (oi:=⟨some 102,_,_,_,_,_⟩) ?_
             try simp only [zp]
             refine tk 20 (oi:=⟨some 103,_,_,_,_,_⟩) ?_
             try simp only [zp]
             have d0:Below wx.heap.size wx wx.drew:=(Below.refl _ _).drew
             refine wpAnyH_ready (rs:=[21]) (by kernel_rfl) (by simp) ?_
             refine AllReadyH.cons rfl (fun K hK => ?_) AllReadyH.nil
             go_simp
             (go_at_call 109; refine (HJN.out _ d0).mono ?_; rintro ee w5 ⟨u5,rfl,hb5,ht5⟩)
             obtain ⟨_,A5,c5,hf5,_⟩:=ht5.ts
             subst hf5
             have a1:Below wx.heap.size wx w5:=d0.trans hb5
             refine hK.out _ _ (HSX.out _ a1) (fun hHeld1 => ?_)
             have HB5:=zh (HBO.out.to a1)
             have HT5:=zh (show TO w5 w.heap.size _ (t.enc 0) from ht5.mono HBO.out.below.size)
             have HTN5:Hid (Tn go W4 w5):=⟨a1.os.trans HTN.out.os,a1.tape.trans HTN.out.tape,a1.output.trans HTN.out.output,Nat.le_trans HTN.out.size a1.size,fun b hb hne => (a1.block b (Nat.lt_of_lt_of_le hb HTN.out.size)).trans (HTN.out.block b hb hne)⟩
             clear hK K hHeld hb5 ht5 HBO HTN
             try simp only [zp]
             refine tk 22 (oi:=⟨some 82,_,_,_,_,_⟩) ?_
             try simp only [zp]
             refine tk 23 (oi:=⟨some 105,_,_,_,_,_⟩) ?_
             try simp only [zp]
             refine tk 24 (oi:=⟨some 106,_,_,_,_,_⟩) ?_
             try simp only [zp]
             refine tk 25 (oi:=⟨some 11,_,_,_,_,_⟩) ?_
             try simp only [zp]
             refine tk 26 (oi:=⟨some 12,_,_,_,_,_⟩) ?_
             try simp only [zp]
             refine wpAnyH_done (by kernel_rfl) ?_ _
             clear hHeld1 HSX a1 d0
             have hw5:=HB5.out.below
             have y0:=HB5.out.rd.cell
             have h2:=(hw5.cell (p:=⟨b3,_,none⟩) h1).trans H2.out
             have h5:=(hw5.cell (p:=⟨e2,_,none⟩) h4).trans H5.out
             have h8:=(hw5.cell (p:=⟨e1,_,none⟩) h7).trans H8.out
             obtain ⟨g',cap',cs',he',hBg',hrow,hcc1,hcc2,hcell⟩:=HB5.out.row.open (by rw [hosl]; exact hpos)
             rw [hosl] at he' hcc1
             simp only [Value.slice.injEq,Option.some.injEq,Addr.mk.injEq,and_true,true_and] at he'
             obtain ⟨rfl,-⟩:=he'
             obtain ⟨xo,hfo,r0,r1⟩:=hcell s _ HAT2.out
             have f0:=hrow.free (s * 2); have f1:=hrow.free (s * 2 + 1)
             have hgolt:=hrow.lt
             obtain ⟨la5,hla5⟩:=zx ((t.enc 0).length)
             rw [<- hla5] at HT5
             try rw [<- hla5]
             have HLA5:=zh hla5
             clear hw5 hcell hrow hla5
             clear wn1 wkj wk wj hi1
             go_upto_region 24 with fail
             have HPUT:=zh (fun (X:World) (hX:Below w5.heap.size w5 X) => (HB5.out.to hX).put hosl hsl (HT5.out.below hX zn))
             have HTP:Hid (∀ X u,Below w5.heap.size w5 X -> Tn go W4 ((X.setCell ⟨go,s * 2,none⟩ u).setCell ⟨go,s * 2 + 1,none⟩ (.bool true))):=fun X u h =>
              ⟨h.os.trans HTN5.out.os,h.tape.trans HTN5.out.tape,h.output.trans HTN5.out.output,by simp; exact Nat.le_trans HTN5.out.size h.size,fun b hb hne => ((Below.heap_setCell _ ⟨go,s * 2 + 1,none⟩ _ b hne).trans (Below.heap_setCell _ ⟨go,s * 2,none⟩ _ b hne)).trans ((h.block b (Nat.lt_of_lt_of_le hb HTN5.out.size)).trans (HTN5.out.block b hb hne))⟩
             cases o with
             | none =>
              have HXN:=zh (show osN d n i l r (x + 1) = os.set s (some t) from HXX.out)
              clear hfo h2 h5 h8 y0
              try simp only [Option.isSome] at r1
              go_wp2
              go_roundg (L - (x + 1))
              case rel => exact ⟨x + 1,HX1.out,rfl,by first | exact HXC.out | go_num,by rw [HXN.out]; exact HPUT.out _ (Below.refl _ _),HTP.out _ _ (Below.refl _ _)⟩
              case measure => exact HMS.out
             | some bo =>
              obtain ⟨uo,huo,hto⟩:=hfo
              simp only [List.cons.injEq,and_true] at huo
              obtain ⟨rfl,-⟩:=huo
              have hbsz:=HSZ2.out bo rfl
              have hcmp:=zk7 (t.enc 0) (bo.enc 0) _ _ w5 HT5.out.ts hto.ts
              rw [zez htl (by have:=HSN.out; omega) (by have:=HSN.out; omega)] at hcmp
              obtain ⟨Ao,co,heo⟩:∃ A c,xo = .slice A (bo.enc 0).length c:=by obtain ⟨_,A,c,e,_⟩:=hto.ts; exact ⟨A,c,e⟩
              subst heo
              obtain ⟨lo,hlo⟩:=zx ((bo.enc 0).length)
              rw [<- hlo] at r0 hcmp
              obtain ⟨cq,hcq⟩:=zx (cmpL t.code bo.code)
              rw [<- hcq] at hcmp
              have HCMP:=zh hcmp; have HCQ:=zh hcq
              have HR0:=zh r0; have HR1:=zh r1
              have HF:=zh (fun (X:World) (hX:Below w5.heap.size w5 X) => (show (∀ q,X.frozen? ⟨go,q,none⟩ = false) from by
               obtain ⟨g',_,_,he,_,hr,_⟩:=(HB5.out.to hX).row.open (by rw [hosl]; exact hpos)
               simp only [Value.slice.injEq,Option.some.injEq,Addr.mk.injEq,and_true] at he
               obtain ⟨rfl,_⟩:=he
               exact hr.free))
              clear hcmp hcq hto hlo hbsz h2 h5 h8 y0
              try simp only [Option.isSome] at r1
              by_cases hlt3:cq < 0
              ·have HXN:=zh (show osN d n i l r (x + 1) = os.set s (some t) by rw [HXX.out]; unfold zaz; dsimp only; rw [if_pos (by rw [<- HCQ.out]; exact hlt3)])
               go_wp2_with (go_at_call 69; refine HCMP.out.mono ?_; rintro e w6 ⟨rfl,hb6⟩; have HB6:=zh hb6; have hf6:=HF.out w6 hb6; have g0:=(hb6.cell (p:=⟨go,s * 2,none⟩) hgolt).trans HR0.out; have g1:=(hb6.cell (p:=⟨go,s * 2 + 1,none⟩) hgolt).trans HR1.out; have f0':=hf6 (s * 2); have f1':=hf6 (s * 2 + 1); clear hb6 r0 r1 f0 f1 hf6)
               go_roundg (L - (x + 1))
               case rel => exact ⟨x + 1,HX1.out,rfl,by first | exact HXC.out | go_num,by rw [HXN.out]; exact HPUT.out _ HB6.out,HTP.out _ _ HB6.out⟩
               case measure => exact HMS.out
              ·have HXN:=zh (show osN d n i l r (x + 1) = os by rw [HXX.out]; unfold zaz; dsimp only; rw [if_neg (by rw [<- HCQ.out]; exact hlt3)]; exact zqa HAT2.out)
               go_wp2_with (go_at_call 69; refine HCMP.out.mono ?_; rintro e w6 ⟨rfl,hb6⟩; have HB6:=zh hb6; clear hb6 r0 r1 f0 f1)
               go_roundg (L - (x + 1))
               case rel => exact ⟨x + 1,HX1.out,rfl,by first | exact HXC.out | go_num,by rw [HXN.out]; exact HB5.out.to HB6.out,⟨HB6.out.os.trans HTN5.out.os,HB6.out.tape.trans HTN5.out.tape,HB6.out.output.trans HTN5.out.output,Nat.le_trans HTN5.out.size HB6.out.size,fun b hb hne => (HB6.out.block b (Nat.lt_of_lt_of_le hb HTN5.out.size)).trans (HTN5.out.block b hb hne)⟩⟩
               case measure => exact HMS.out
            ·obtain rfl:L = x:=by omega
             have hltxi:¬ (L:Int) < (L:Int):=by omega
             go_wp2
             go_roundg (N - (r + 1))
             case rel => exact ⟨r + 1,by omega,rfl,by go_num,fun h => by first | (cases h; done) | (rw [HOE.out] at h; cases h),by rw [<- HOR.out]; exact HB.out⟩
             case measure => omega
        ·obtain rfl:N = r:=by omega
         have hltri:¬ (N:Int) < (N:Int):=by omega
         have HNX:Hid (osN d n i (l + 1) 0 0 = osN d n i l N 0):=by unfold Hid; exact (HOL.out n i l).symm
         go_wp2
         go_roundg (N - (l + 1))
         case rel => exact ⟨l + 1,by omega,rfl,by go_num,by rw [HNX.out]; exact HB.out⟩
         case measure => omega
      ·obtain rfl:N = l:=by omega
       have hltli:¬ (N:Int) < (N:Int):=by omega
       go_wp2
       go_roundg (n - (i + 1))
       case rel => exact ⟨i + 1,by omega,rfl,by go_num,by rw [<- HOI.out]; exact HB.out⟩
       case measure => omega
    ·obtain rfl:n = i:=by omega
     have hltii:¬ (n:Int) < (n:Int):=by omega
     have hb:=HB.out
     rw [osN_all] at hb
     have HB:=zh hb
     clear hb
     go_wp2
     go_loopg [14] N (fun gk q wr => ∃ s:Nat,s <= N /\ gk = N - s /\ q = .int .i64 s /\ (∀ t,t < s -> (if d.fin t then rowS d n t else none) = none) /\ BsI w go V E N gO n cO (.slice (some ⟨b3,o3,none⟩) N c3) (.slice (some ⟨bk,ok,none⟩) N ck) vs (zan d n) (sizR d (zan d n) n) wr)
     case atStart => exact ⟨0,by omega,rfl,rfl,fun t h => by omega,HB.out⟩
     case round =>
      clear HB
      obtain ⟨s,hs,rfl,rfl,hno,hb⟩:=hrel
      have HB:=zh hb; have HNS:=zh hno
      have y0:=hb.rd.cell
      by_cases hlts:s < N
      ·have hltsi:(s:Int) < (N:Int):=by omega
       have cf:=(hb.below.cell (p:=⟨bk,_,none⟩) hbk).trans (HK2.out s hlts)
       obtain ⟨g',cap',cs',he',_,hrow,hcc1,hcc2,hcell⟩:=hb.row.open (by rw [HRL.out]; exact hpos)
       rw [HRL.out] at he' hcc1
       simp only [Value.slice.injEq,Option.some.injEq,Addr.mk.injEq,and_true,true_and] at he'
       obtain ⟨rfl,-⟩:=he'
       obtain ⟨xs,_,_,r1⟩:=hcell s _ (HRA.out n s hlts)
       obtain ⟨o,ho⟩:=zx (rowS d n s)
       rw [<- ho] at r1
       obtain ⟨qo,hqo⟩:=zx o.isSome
       rw [<- hqo] at r1
       obtain ⟨qf,hqf⟩:=zx (d.fin s)
       rw [<- hqf] at cf
       have HQO:=zh hqo; have HQF:=zh hqf; have HO:=zh ho
       clear hb hno hrow hcell ho hqo hqf
       cases qf with
       | false =>
        have HN2:Hid (∀ t,t < s + 1 -> (if d.fin t then rowS d n t else none) = none):=by
         intro t ht
         by_cases e:t = s
         ·rw [e,<- HQF.out]; rfl
         ·exact HNS.out t (by omega)
        go_wp2
        go_roundg (N - (s + 1))
        case rel => exact ⟨s + 1,by omega,rfl,by go_num,HN2.out,HB.out⟩
        case measure => omega
       | true =>
        cases o with
        | none =>
         have hqo:qo = false:=HQO.out
         subst hqo
         have HN2:Hid (∀ t,t < s + 1 -> (if d.fin t then rowS d n t else none) = none):=by
          intro t ht
          by_cases e:t = s
          ·rw [e,<- HQF.out,<- HO.out]; rfl
          ·exact HNS.out t (by omega)
         go_wp2
         go_roundg (N - (s + 1))
         case rel => exact ⟨s + 1,by omega,rfl,by go_num,HN2.out,HB.out⟩
         case measure => omega
        | some t =>
         have hqo:qo = true:=HQO.out
         subst hqo
         have HY:=zh (HBY.out n s t hlts HQF.out.symm HO.out.symm)
         go_wp2
         go_returns
         exact ⟨_,_,rfl,HB.out.below,.inl ⟨n,by omega,rfl,HNO.out,HY.out,HB.out.done⟩⟩
      ·obtain rfl:N = s:=by omega
       have hltsi:¬ (N:Int) < (N:Int):=by omega
       clear hb hno
       go_wp2
       go_roundg (32 - (n + 1))
       case rel =>
        refine ⟨n + 1,by omega,rfl,by go_num,⟨HB.out.below,HB.out.rd,HB.out.done,fun j hj => ?_⟩⟩
        by_cases e:j = n
        ·rw [e]; exact HBN.out n HNS.out
        ·exact HNO.out j (by omega)
       case measure => omega
  ·obtain rfl:n = 32:=by omega
   have hnlt:¬ ((32:Nat):Int) <= 31:=by omega
   go_wp2
   go_returns
   exact ⟨_,_,rfl,HBW.out.below,.inr ⟨rfl,HBW.out.no,_,_,_,rfl⟩⟩
end Go.Proofs.YthkfjnmnoanhlaaGreatDoor
