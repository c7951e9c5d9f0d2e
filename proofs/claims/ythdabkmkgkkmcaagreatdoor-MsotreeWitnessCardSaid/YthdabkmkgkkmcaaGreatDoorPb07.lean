/- Part 7 of the proof; it says: lemmas and contracts. No conditions but those that each theorem states. -/
import Derived.WalkMore
import Derived.Deep.RegionLaw
import Derived.Test.YthdabkmkgkkmcaaGreatDoorPb01
import Derived.Test.YthdabkmkgkkmcaaGreatDoorPb05
import Derived.Test.YthdabkmkgkkmcaaGreatDoorPb06
set_option linter.unusedSimpArgs false
set_option linter.unusedVariables false
set_option maxRecDepth 100000
set_option maxHeartbeats 32000000
namespace Go.Proofs.YthdabkmkgkkmcaaGreatDoor
open Go.RowKit
abbrev ExplCb (d:Dta) (k1 k2 k3:Value) (I:List Nat -> World -> Prop):Prop:=∀ (o:List Nat) (l r x a b:Nat) (W:World),I o W -> o.length <= d.n -> o[l]? = some a -> o[r]? = some b -> a < d.n -> b < d.n -> x < d.L ->
 Calls Tryz.prog 79 #[.int .i64 (l:Int),.int .i64 (r:Int),.int .i64 (x:Int),k1,k2,k3] W fun e W' => e = .returned (.int .i64 (((addS o (d.nx a b x)).length:Nat):Int)) /\ I (addS o (d.nx a b x)) W' /\
  ∀ g cs,Row W g 145 cs -> Row W' g 145 cs
theorem zer (W:World) (a b c d:Value):(Instr.index 187 (.agg #[a,b,c,d]) (.int .i64 0)).run Tryz.prog W = .ok (.agg #[a,b]) W /\ (Instr.index 187 (.agg #[a,b,c,d]) (.int .i64 1)).run Tryz.prog W = .ok (.agg #[c,d]) W:=⟨by kernel_rfl,by kernel_rfl⟩
theorem zkk (d:Dta) (V:Nat) (hd:d.Fit V) (k1 k2 k3:Value) (I:List Nat -> World -> Prop) (hI:∀ o W W',I o W -> Below W.heap.size W W' -> I o W') (hcb:ExplCb d k1 k2 k3 I) (w:World) (h0:I [d.e] w) :
  Calls Tryz.prog 78 #[.int .i64 (V:Int),.func (.func 79) #[] #[k1,k2,k3]] w fun e w' => e = .returned (.tuple #[]) /\ I d.order w':=by
 have hsh:=zdm V hd.v3
 have hL8:=hd.L8.2
 have hL:=hd.L
 have h64:=hd.n64
 have hV3:=hd.v3
 have hV3':(V:Int) <= 3:=by omega
 rw [<- hL] at hsh
 have HD:=zh hd.ok; have HI:=zh hI; have HCB:=zh hcb
 clear hd hI hcb hL
 obtain ⟨L,hL⟩:=zx d.L
 rw [<- hL] at hsh hL8
 have HL:=zh hL; clear hL
 have H0:=zh h0; clear h0
 go_enter Tryz.func78,Tryz.ntmps78
 go_wp2
 go_step3
 go_wp2
 go_step3
 go_wp2
 go_loopg [4,5] (d.n + 1) (fun gk q4 q5 wr => ∃ (o:List Nat) (k:Nat),gk = d.n + 1 - k /\ q4 = .int .i64 (o.length:Int) /\ q5 = .int .i64 k /\ ExplI d o k /\ I o wr)
 case atStart => exact ⟨[d.e],0,by omega,rfl,rfl,ExplI.start HD.out,H0.out⟩
 case round =>
  obtain ⟨o,k,rfl,rfl,rfl,he,hi⟩:=hrel
  obtain ⟨m,hm⟩:=zx o.length
  have HE:=zh he; have HM:=zh hm; have HIN:=zh hi
  have hmn:m <= d.n:=by rw [hm]; exact he.len
  rw [<- hm]
  clear he hm hi
  by_cases hlt:k < m
  ·have hR:=HE.out.round (by rw [<- HM.out]; exact hlt)
   have HR:=zh hR; clear hR
   have hk64:k < 64:=by omega
   have hkn:k < d.n:=by omega
   go_wp2
   go_loopg [4,6] (k + 1) (fun gk q4 q6 wr => ∃ (o:List Nat) (j:Nat),j <= k + 1 /\ gk = k + 1 - j /\ q4 = .int .i64 (o.length:Int) /\ q6 = .int .i64 j /\ ExplR d k (trJ d.L k j) o /\ I o wr)
   case atStart => exact ⟨o,0,by omega,rfl,by rw [HM.out],rfl,HR.out,HIN.out⟩
   case round =>
    clear HE HM HIN HR hmn hlt
    obtain ⟨o,j,hj,rfl,rfl,rfl,hr,hi⟩:=hrel
    obtain ⟨m,hm⟩:=zx o.length
    have HR:=zh hr; have HM:=zh hm; have HIN:=zh hi
    rw [<- hm]
    clear hr hm hi
    by_cases hjk:j <= k
    ·have hr:=HR.out
     rw [zqr hjk] at hr
     clear HR
     have HR:=zh hr; clear hr
     go_wp2
     go_loopg [4,27] 2 (fun gk q4 q27 wr => ∃ (o:List Nat) (p:Nat),p <= 2 /\ gk = 2 - p /\ q4 = .int .i64 (o.length:Int) /\ q27 = .int .i64 p /\
      (p = 0 -> ExplR d k (trX d.L j k 0 ++ (trX d.L k j 0 ++ trJ d.L k (j + 1))) o) /\ (p = 1 -> ExplR d k (trX d.L k j 0 ++ trJ d.L k (j + 1)) o) /\ (p = 2 -> ExplR d k (trJ d.L k (j + 1)) o) /\ I o wr)
     case atStart => exact ⟨o,0,by omega,rfl,by rw [HM.out],rfl,fun _ => HR.out,fun h => by omega,fun h => by omega,HIN.out⟩
     case round =>
      clear HM HIN HR
      obtain ⟨o,p,hp,rfl,rfl,rfl,hr0,hr1,hr2,hi⟩:=hrel
      obtain ⟨m,hm⟩:=zx o.length
      have HM:=zh hm; have HIN:=zh hi
      rw [<- hm]
      clear hm hi
      have hp3:p = 2 \/ p = 0 \/ p = 1:=by omega
      rcases hp3 with rfl | hp3
      ·have HR:=zh (hr2 rfl)
       clear hr0 hr1 hr2
       go_wp2
       go_roundg (k + 1 - (j + 1))
       case rel => exact ⟨o,j + 1,by omega,rfl,by rw [HM.out],by go_num,HR.out,HIN.out⟩
       case measure => omega
      ·obtain ⟨l,r,rest,hlk,hrk,hpq,HR⟩:∃ l r rest,l <= k /\ r <= k /\ ((p = 0 /\ l = j /\ r = k /\ rest = trX d.L k j 0 ++ trJ d.L k (j + 1)) \/ (p = 1 /\ l = k /\ r = j /\ rest = trJ d.L k (j + 1))) /\ Hid (ExplR d k (trX d.L l r 0 ++ rest) o):=by
        rcases hp3 with h | h
        ·exact ⟨j,k,_,hjk,zn,.inl ⟨h,rfl,rfl,rfl⟩,hr0 h⟩
        ·exact ⟨k,j,_,zn,hjk,.inr ⟨h,rfl,rfl,rfl⟩,hr1 h⟩
       clear hr0 hr1 hr2 hp3
       have HNX:Hid (∀ o',ExplR d k rest o' -> (p + 1 = 0 -> ExplR d k (trX d.L j k 0 ++ (trX d.L k j 0 ++ trJ d.L k (j + 1))) o') /\ (p + 1 = 1 -> ExplR d k (trX d.L k j 0 ++ trJ d.L k (j + 1)) o') /\ (p + 1 = 2 -> ExplR d k (trJ d.L k (j + 1)) o')):=by
        intro o' h
        rcases hpq with ⟨h1,_,_,rfl⟩ | ⟨h1,_,_,rfl⟩
        ·exact ⟨fun h => by omega,fun _ => h,fun h => by omega⟩
        ·exact ⟨fun h => by omega,fun h => by omega,fun _ => h⟩
       have HPQ:(p = 0 /\ j = l /\ k = r) \/ (p = 1 /\ k = l /\ j = r):=by
        rcases hpq with ⟨h1,h2,h3,_⟩ | ⟨h1,h2,h3,_⟩
        ·exact .inl ⟨h1,h2.symm,h3.symm⟩
        ·exact .inr ⟨h1,h2.symm,h3.symm⟩
       clear hpq
       rcases HPQ with ⟨rfl,hl',hr'⟩ | ⟨rfl,hl',hr'⟩
       all_goals (subst hl'; subst hr')
       ·have i0:=fun W a b c d => (zer W a b c d).1
        have i1:=fun W a b c d => (zer W a b c d).2
        go_wp2
        refine zaa (fun W => I o W /\ ∃ g,g = wr.heap.size /\ Row W g 145 #[.int .i64 (j:Int),.int .i64 (k:Int)]) ⟨HI.out _ _ _ HIN.out (by go_grown),_,rfl,Row.new _ _ _⟩ ?_
        rintro w1 ⟨hi,g,hg,hrow⟩
        rw [<- hg]
        clear HIN hg
        have HIN:=zh hi; have HROW:=zh hrow
        clear hi hrow
        go_loopg [4,32] L (fun gk q4 q32 wr => ∃ (o:List Nat) (x:Nat),x <= L /\ gk = L - x /\ q4 = .int .i64 (o.length:Int) /\ q32 = .int .i64 x /\ ExplR d k (trX d.L j k x ++ rest) o /\ I o wr /\ Row wr g 145 #[.int .i64 (j:Int),.int .i64 (k:Int)])
        case atStart => exact ⟨o,0,by omega,rfl,by rw [HM.out],rfl,HR.out,HIN.out,HROW.out⟩
        case round =>
         clear HM HIN HR HROW
         obtain ⟨o,x,hx,rfl,rfl,rfl,hr,hi,hrow⟩:=hrel
         obtain ⟨m,hm⟩:=zx o.length
         have HM:=zh hm; have HIN:=zh hi; have HR:=zh hr; have HROW:=zh hrow
         rw [<- hm]
         clear hm hi hr hrow
         by_cases hxl:x < L
         ·have hr:=HR.out
          rw [zk6 (by rw [<- HL.out]; exact hxl),List.cons_append] at hr
          have hko:=hr.k
          obtain ⟨a,ha⟩:∃ a,o[j]? = some a:=⟨o[j]'(by omega),List.getElem?_eq_getElem _⟩
          obtain ⟨b,hb⟩:∃ b,o[k]? = some b:=⟨o[k]'(by omega),List.getElem?_eq_getElem _⟩
          have hst:=hr.step HD.out (by rw [<- HL.out]; exact hxl) ha hb
          have hc:=HCB.out o j k x a b _ HIN.out hr.len ha hb (hr.lt _ (List.mem_of_getElem? ha)) (hr.lt _ (List.mem_of_getElem? hb)) (by rw [<- HL.out]; exact hxl)
          obtain ⟨o',ho'⟩:=zx (addS o (d.nx a b x))
          rw [<- ho'] at hst hc
          obtain ⟨m',hm'⟩:=zx o'.length
          rw [<- hm'] at hc
          have HST:=zh hst; have HC:=zh hc; have HM':=zh hm'
          have z0:=HROW.out.cell
          have hm0:(0:Int) <= (m':Int):=by omega
          clear hr hst hc hm' ho' ha hb hko HR
          go_wp2_with (go_at_call 79; go_must (refine HC.out.mono ?_; rintro e w3 ⟨rfl,hi3,hk3⟩; have HI3:=zh hi3; have HK3:=zh hk3; clear hi3 hk3))
          go_roundg (L - (x + 1))
          case rel => exact ⟨o',x + 1,by omega,rfl,by rw [HM'.out],by go_num,HST.out,HI3.out,HK3.out _ _ HROW.out⟩
          case measure => omega
         ·have hr:=HR.out
          rw [znu (by rw [<- HL.out]; omega),List.nil_append] at hr
          have HR':=zh hr
          clear hr
          have hn:=HNX.out o HR'.out
          have HN:=zh hn; clear hn
          go_wp2
          go_roundg (2 - (0 + 1))
          case rel => exact ⟨o,0 + 1,by omega,rfl,by rw [HM.out],by go_num,fun h => by omega,fun _ => HN.out.2.1 trivial,fun h => by omega,HIN.out⟩
          case measure => omega
       ·have i0:=fun W a b c d => (zer W a b c d).1
        have i1:=fun W a b c d => (zer W a b c d).2
        go_wp2
        refine zaa (fun W => I o W /\ ∃ g,g = wr.heap.size /\ Row W g 145 #[.int .i64 (k:Int),.int .i64 (j:Int)]) ⟨HI.out _ _ _ HIN.out (by go_grown),_,rfl,Row.new _ _ _⟩ ?_
        rintro w1 ⟨hi,g,hg,hrow⟩
        rw [<- hg]
        clear HIN hg
        have HIN:=zh hi; have HROW:=zh hrow
        clear hi hrow
        go_loopg [4,32] L (fun gk q4 q32 wr => ∃ (o:List Nat) (x:Nat),x <= L /\ gk = L - x /\ q4 = .int .i64 (o.length:Int) /\ q32 = .int .i64 x /\ ExplR d k (trX d.L k j x ++ rest) o /\ I o wr /\ Row wr g 145 #[.int .i64 (k:Int),.int .i64 (j:Int)])
        case atStart => exact ⟨o,0,by omega,rfl,by rw [HM.out],rfl,HR.out,HIN.out,HROW.out⟩
        case round =>
         clear HM HIN HR HROW
         obtain ⟨o,x,hx,rfl,rfl,rfl,hr,hi,hrow⟩:=hrel
         obtain ⟨m,hm⟩:=zx o.length
         have HM:=zh hm; have HIN:=zh hi; have HR:=zh hr; have HROW:=zh hrow
         rw [<- hm]
         clear hm hi hr hrow
         by_cases hxl:x < L
         ·have hr:=HR.out
          rw [zk6 (by rw [<- HL.out]; exact hxl),List.cons_append] at hr
          have hko:=hr.k
          obtain ⟨a,ha⟩:∃ a,o[k]? = some a:=⟨o[k]'(by omega),List.getElem?_eq_getElem _⟩
          obtain ⟨b,hb⟩:∃ b,o[j]? = some b:=⟨o[j]'(by omega),List.getElem?_eq_getElem _⟩
          have hst:=hr.step HD.out (by rw [<- HL.out]; exact hxl) ha hb
          have hc:=HCB.out o k j x a b _ HIN.out hr.len ha hb (hr.lt _ (List.mem_of_getElem? ha)) (hr.lt _ (List.mem_of_getElem? hb)) (by rw [<- HL.out]; exact hxl)
          obtain ⟨o',ho'⟩:=zx (addS o (d.nx a b x))
          rw [<- ho'] at hst hc
          obtain ⟨m',hm'⟩:=zx o'.length
          rw [<- hm'] at hc
          have HST:=zh hst; have HC:=zh hc; have HM':=zh hm'
          have z0:=HROW.out.cell
          have hm0:(0:Int) <= (m':Int):=by omega
          clear hr hst hc hm' ho' ha hb hko HR
          go_wp2_with (go_at_call 79; go_must (refine HC.out.mono ?_; rintro e w3 ⟨rfl,hi3,hk3⟩; have HI3:=zh hi3; have HK3:=zh hk3; clear hi3 hk3))
          go_roundg (L - (x + 1))
          case rel => exact ⟨o',x + 1,by omega,rfl,by rw [HM'.out],by go_num,HST.out,HI3.out,HK3.out _ _ HROW.out⟩
          case measure => omega
         ·have hr:=HR.out
          rw [znu (by rw [<- HL.out]; omega),List.nil_append] at hr
          have HR':=zh hr
          clear hr
          have hn:=HNX.out o HR'.out
          have HN:=zh hn; clear hn
          go_wp2
          go_roundg (2 - (1 + 1))
          case rel => exact ⟨o,1 + 1,by omega,rfl,by rw [HM.out],by go_num,fun h => by omega,fun h => by omega,fun _ => HN.out.2.2 trivial,HIN.out⟩
          case measure => omega
    ·have hj2:j = k + 1:=by omega
     have hr:=HR.out
     rw [hj2,trJ_nil (by omega)] at hr
     have HR':=zh hr.next
     clear hr
     have hjk':(k:Int) < (j:Int):=by omega
     clear hj2
     go_wp2
     go_roundg (d.n + 1 - (k + 1))
     case rel => exact ⟨o,k + 1,rfl,by rw [HM.out],by go_num,HR'.out,HIN.out⟩
     case measure => omega
  ·have ho:=HE.out.done (by rw [<- HM.out]; exact hlt)
   have HO:=zh ho; clear ho
   have hlt':(m:Int) <= (k:Int):=by omega
   go_wp2
   rw [Exit.noGoto_normal]
   first | go_returns | go_ret
   exact ⟨rfl,by rw [<- HO.out]; exact HIN.out⟩
theorem VO.grownNe {E:TypeId} {w w':World} {B:Nat} {v:Value} {l:List Value} {row:Option Nat} (h:VO E w B v l) (hg:w.grownBy w' row) (hr:v.ownBlock = none \/ v.ownBlock ≠ row):VO E w' B v l:=by
 obtain ⟨h0,h1,h2⟩:=h
 refine ⟨h0,h1,?_⟩
 rcases h2 with h2 | ⟨g,cap,cur,hv,hB,hgr,r⟩
 ·exact .inl h2
 ·exact .inr ⟨g,cap,cur,hv,hB,(hg.block g (lt_of_block hgr) (fun e => by
   have e2:v.ownBlock = some g:=by rw [hv]; rfl
   rw [e2] at hr
   rcases hr with hr | hr
   ·cases hr
   ·exact hr e)).trans hgr,r⟩
theorem VS.one {w:World} {g:Nat} {E:TypeId} {u:Value} (h:Row w g E #[u]):VS w (.slice (some ⟨g,0,none⟩) 1 1) [u]:=VS.lit (l:=[u]) h (by simp)
theorem VO.formN {E:TypeId} {w:World} {B n:Nat} {v:Value} {l:List Value} (h:VO E w B v l) (hn:l.length = n):∃ A c,v = .slice A n c:=by
 subst hn; exact h.form
theorem VO.allocd {E:TypeId} {w:World} {B:Nat} {v:Value} {l:List Value} (h:VO E w B v l) (X:Obj):VO E (w.alloc X) B v l:=by
 refine h.grownNe (World.grownBy_alloc w X none) ?_
 cases hv:v.ownBlock with
 | none => exact .inl rfl
 | some g => exact .inr (by simp)
def oI (o:List Nat):List Int:=o.map (fun (s:Nat) => (s:Int))
theorem zap (o:List Nat):(oI o).length = o.length:=by simp [oI]
theorem oI_at {o:List Nat} {i a:Nat} (h:o[i]? = some a):(oI o)[i]? = some (a:Int):=by rw [oI,List.getElem?_map,h]; rfl
theorem zgz (l:List Int) (x:Int):iL (l ++ [x]) = iL l ++ [.int .i64 x]:=by simp [iL]
theorem zio (l:List Nat) (x:Nat):oI (l ++ [x]) = oI l ++ [(x:Int)]:=by simp [oI]
theorem zcu:Tryz.prog.underlying 122 = some (.map 3 3):=by kernel_rfl
structure RnI (w0:World) (gd go gn bm:Nat) (dv:Array Value) (o:List Nat) (W:World):Prop where
 below:Below w0.heap.size w0 W
 rd:Row W gd 30 dv
 rr:Row W (gd + 1) 30 #[.int .i64 0,.int .i64 0,.slice none 0 0,.slice none 0 0]
 rn:Row W gn 122 #[.map (some bm)]
 nm:NM 3 litI W bm o
 ro:∃ ov,Row W go 36 #[ov] /\ O1 W w0.heap.size ov (oI o)
 bd:w0.heap.size <= gd /\ w0.heap.size <= go /\ w0.heap.size <= gn /\ w0.heap.size <= bm
theorem RnI.keep {w0:World} {gd go gn bm:Nat} {dv:Array Value} {o:List Nat} {W W':World} (h:RnI w0 gd go gn bm dv o W) (hb:Below W.heap.size W W'):RnI w0 gd go gn bm dv o W':=by
 obtain ⟨ov,h1,h2⟩:=h.ro
 exact ⟨h.below.trans (hb.mono h.below.size),h.rd.below hb h.rd.lt,h.rr.below hb h.rr.lt,h.rn.below hb h.rn.lt,h.nm.below hb h.nm.lt,⟨ov,h1.below hb h1.lt,h2.below hb zn⟩,h.bd⟩
theorem RnI.row2 {w0:World} {gd go gn bm:Nat} {dv:Array Value} {o:List Nat} {W w1 w2:World} {ov:Value} {X:Obj} (h:RnI w0 gd go gn bm dv o W) (h2:O1 W w0.heap.size ov (oI o))
  (hg1:W.grownBy w1 (some bm)) (hg2:(w1.alloc X).grownBy w2 ov.ownBlock) {g:Nat} {E:TypeId} {cs:Array Value} (r:Row W g E cs) (hE:3 ≠ E):Row w2 g E cs :=
 ((r.grown hg1 (fun e => h.nm.ne_row r (Option.some.inj e).symm)).alloc X).far_own (Ne.symm hE) (VO.allocd (VO.grownNe h2 hg1 (.inr (fun e => h.nm.ne_own h2 e.symm))) X).2 hg2
theorem RnI.add {w0:World} {gd go gn bm:Nat} {dv:Array Value} {o:List Nat} {W w1 w2:World} {s:Nat} {ov ov':Value} {X:Obj} (h:RnI w0 gd go gn bm dv o W) (h1:Row W go 36 #[ov]) (h2:O1 W w0.heap.size ov (oI o))
  (hm:NM 3 litI w1 bm (o ++ [s])) (hg1:W.grownBy w1 (some bm)) (ho:VO 3 w2 w0.heap.size ov' (iL (oI o) ++ [.int .i64 (s:Int)])) (hg2:(w1.alloc X).grownBy w2 ov.ownBlock) :
  RnI w0 gd go gn bm dv (o ++ [s]) (w2.setCell ⟨go,0,none⟩ ov') /\ ∀ g cs,Row W g 145 cs -> Row (w2.setCell ⟨go,0,none⟩ ov') g 145 cs:=by
 have hne:=fun {g E cs} (r:Row W g E cs) => h.nm.ne_row r
 have row2:∀ {g E cs},Row W g E cs -> 3 ≠ E -> Row w2 g E cs:=fun {g E cs} r hE =>
  (((r.grown hg1 (fun e => hne r (Option.some.inj e).symm)).alloc X).far_own (Ne.symm hE) (VO.allocd (VO.grownNe h2 hg1 (.inr (fun e => h.nm.ne_own h2 e.symm))) X).2 hg2)
 have r2:=row2 h1 (by decide)
 obtain ⟨b1,b2,b3,b4⟩:=h.bd
 have hb2:Below w0.heap.size w0 w2:=by
  refine Below.grown (Below.alloc (h.below.grown hg1 h.below.size (fun k hk => by cases hk; exact b4)) ?_ X) hg2 ?_ (fun k hk => (World.ownsRow.lt h2.2 k hk).1)
  ·exact Nat.le_trans h.below.size hg1.size
  ·simp only [World.size_alloc]; have:=h.below.size; have:=hg1.size; omega
 refine ⟨⟨hb2.setCell b2 _,?_,?_,?_,?_,⟨ov',?_,?_⟩,h.bd⟩,?_⟩
 ·exact (row2 h.rd (by decide)).far (Row.ne (row2 h.rd (by decide)) r2 (by decide)) _
 ·exact (row2 h.rr (by decide)).far (Row.ne (row2 h.rr (by decide)) r2 (by decide)) _
 ·exact (row2 h.rn (by decide)).far (Row.ne (row2 h.rn (by decide)) r2 (by decide)) _
 ·have hn2:NM 3 litI w2 bm (o ++ [s]):=(hm.alloc X).kept hg2 (fun e => h.nm.ne_own h2 e)
  exact hn2.setCell (fun e => hn2.ne_row r2 e) _
 ·have:=r2.set 0 ov'
  exact this
 ·have:=VO.setFar ho (p:=⟨go,0,none⟩) (VO.ne_row ho r2 (by decide)) ov'
  unfold O1
  rw [zio,zgz]
  exact this
 ·intro g cs hr
  exact (row2 hr (by decide)).far (Row.ne (row2 hr (by decide)) r2 (by decide)) _
theorem zoe (d:Dta) (V:Nat) (hd:d.Fit V) (w0:World) (gd go gn bm:Nat) (vn vf:Value) (hn:N3 w0 vn (nx3 d.n d.L d.nx)) :
  ExplCb d (.pointer (some ⟨gd,0,none⟩)) (.pointer (some ⟨go,0,none⟩)) (.pointer (some ⟨gn,0,none⟩)) (RnI w0 gd go gn bm #[.int .i64 (V:Int),.int .i64 (d.e:Int),vn,vf]):=by
 intro o l r x a b W hi hol hl hr ha hb hx
 have h64:=hd.n64
 obtain ⟨A3,c3,rfl,hA1,hA2,hA⟩:=hn.open
 have hlen:(nx3 d.n d.L d.nx).length = d.n:=by simp [nx3]
 rw [hlen] at hA1 hi ⊢
 obtain ⟨e1,e2,e3⟩:=zos (f:=d.nx) ha hb hx
 obtain ⟨b3,o3,u,rfl,hb3,c0,hN2⟩:=hA a _ e1
 obtain ⟨A2,c2,rfl,hB1,hB2,hB⟩:=hN2.open
 obtain ⟨b2,o2,u,rfl,hb2,d0,hN1⟩:=hB b _ e2
 obtain ⟨A1,c1,rfl,hC1,hC2,hC⟩:=hN1.open
 obtain ⟨b1,o1,rfl,hb1,f0⟩:=hC x _ e3
 simp only [List.length_map,List.length_range] at hB1 hC1 c0 d0
 rw [<- hi.below.cell (p:=⟨b3,_,none⟩) hb3] at c0
 rw [<- hi.below.cell (p:=⟨b2,_,none⟩) hb2] at d0
 rw [<- hi.below.cell (p:=⟨b1,_,none⟩) hb1] at f0
 clear hA hB hC e1 e2 e3 hN2 hN1 hn hb1 hb2 hb3
 have hsn:=hd.ok.hn a b x ha hb hx
 obtain ⟨s,hs⟩:=zx (d.nx a b x)
 rw [<- hs] at f0 hsn ⊢
 obtain ⟨n,hnn⟩:=zx d.n
 obtain ⟨L,hLL⟩:=zx d.L
 rw [<- hnn] at hA1 hB1 c0 hi ha hb hol h64 hsn ⊢
 rw [<- hLL] at hC1 d0 hx
 have hp:0 < o.length:=by have:=(List.getElem?_eq_some_iff.1 hl).1; omega
 obtain ⟨ov,h1,h2⟩:=hi.ro
 obtain ⟨g,cap,cs,rfl,hBg,hrow,hcl,hcm,hcell⟩:=VO.row h2 (by rw [zad,zap]; exact hp)
 rw [zad,zap] at hcl h1 h2
 have q0:=hcell l _ (iL_at (oI_at hl))
 have q1:=hcell r _ (iL_at (oI_at hr))
 have hll:l < o.length:=(List.getElem?_eq_some_iff.1 hl).1
 have hrl:r < o.length:=(List.getElem?_eq_some_iff.1 hr).1
 obtain ⟨m,hm⟩:=zx o.length
 rw [<- hm] at hcl h1 h2 hll hrl hol hp
 have z1:=hi.rd.cell; have z2:=hi.rn.cell; have z3:=h1.cell; have z4:=h1.free
 have HI:=zh hi; have HM:=zh hm; have H1:=zh h1; have H2:=zh h2
 clear hi hm h1 h2 hcell hl hr hs hnn hLL hlen
 by_cases hin:s ∈ o
 ·have hadd:addS o s = o:=by unfold addS; rw [if_pos hin]
  have HADD:=zh hadd
  rw [hadd,<- HM.out]
  have HS:=zh hin
  clear hin hadd
  go_enter Tryz.func79,Tryz.ntmps79
  go_wp2
  first | go_region | fail
  go_wp2_with (at_lookup; refine zek zc3 rfl (.tmp 31) (.tmp 32) _ rfl zcu rfl HI.out.nm s HS.out _ rfl (zfe s (by omega)) ?_)
  go_returns
  exact ⟨rfl,HI.out.keep (by go_grown),fun g cs h => h⟩
 ·have hadd:addS o s = o ++ [s]:=by unfold addS; rw [if_neg hin]
  have HS:=zh hin
  have hlen':(((o ++ [s]).length:Nat):Int) = (m:Int) + 1:=by rw [List.length_append,HM.out]; rfl
  have HLN:=zh hlen'
  rw [hadd,hlen']
  clear hin hadd hlen'
  go_enter Tryz.func79,Tryz.ntmps79
  go_wp2
  first | go_region | fail
  go_wp2_with (first
   | (at_lookup; refine zbo zc3 rfl (.tmp 31) (.tmp 32) _ rfl zcu rfl HI.out.nm s HS.out _ rfl (zfe s (by omega)) ?_)
   | (at_mapUpdate; ((refine zaw kl_int zc3 rfl (.tmp 38) (.tmp 39) (.tmp 41) _ (.inl rfl) zcu rfl HI.out.nm (by have:=HM.out; omega) s HS.out _ rfl (zfe s (by omega)) (by rw [<- HM.out]; rfl) ?_); intro w1 hm1 hg1; replace hg1:W.grownBy w1 (some bm):=⟨hg1.os,hg1.tape,hg1.output,hg1.size,hg1.block⟩; have HM1:=zh hm1; have HG1:=zh hg1; have y3:=(H1.out.grown hg1 (fun e => HI.out.nm.ne_row H1.out (Option.some.inj e).symm)).cell; have y4:=(H1.out.grown hg1 (fun e => HI.out.nm.ne_row H1.out (Option.some.inj e).symm)).free; clear hm1 hg1))
   | (at_builtin; (refine zac eI rfl (.tmp 42) (.tmp 44) rfl w0.heap.size _ _ rfl (VO.allocd (VO.grownNe H2.out HG1.out (.inr (fun e => HI.out.nm.ne_own H2.out e.symm))) _) _ [.int .i64 (s:Int)] rfl (VS.one (Row.new _ _ _)) (by intro u hu; simp at hu; subst hu; rfl) (by rw [zad,zap,<- HM.out]; simp; omega) (by simp only [World.size_alloc]; have:=HI.out.below.size; have:=HG1.out.size; omega) ?_; intro ov' w2 ho2 hg2 _; obtain ⟨A',c',rfl⟩:=VO.formN (n:=m + 1) ho2 (by rw [List.length_append,zad,zap,<- HM.out]; rfl); have HADD:=zh (HI.out.add H1.out H2.out HM1.out HG1.out ho2 hg2); have y5:=(HI.out.row2 H2.out HG1.out hg2 H1.out (by decide)).cell; have y6:=(HI.out.row2 H2.out HG1.out hg2 H1.out (by decide)).free; clear ho2 hg2)))
  go_returns
  exact ⟨rfl,HADD.out.1,HADD.out.2⟩
structure EltK (T E:TypeId) (k by8:Nat):Prop where
 under:Tryz.prog.underlying T = some (.slice E)
 info:∃ i z,Tryz.prog.info? E = some i /\ i.zero = some z /\ i.size = k /\ i.bytes = by8 /\ z.cells.size = k
 small:by8 <= 64
 pos:0 < k
def KO (E:TypeId) (k:Nat) (w:World) (B:Nat) (v:Value) (ls:List (List Value)):Prop:=(∀ l ∈ ls,l.length = k /\ ∀ u ∈ l,u.oneCell' = true) /\ w.ownsRow B E k v ls.length ls.flatten
theorem ziw {k:Nat}:∀ {ls:List (List Value)},(∀ l ∈ ls,l.length = k) -> ls.flatten.length = ls.length * k
 | [],_ => by simp
 | l :: ls,h => by
  rw [List.flatten_cons,List.length_append,ziw (fun x hx => h x (by simp [hx])),h l (by simp),List.length_cons,Nat.succ_mul]; omega
theorem zkj {k:Nat}:∀ {ls:List (List Value)},(∀ l ∈ ls,l.length = k) -> ∀ {i j:Nat} {l:List Value},ls[i]? = some l -> j < k -> ls.flatten[i * k + j]? = l[j]?
 | [],_,i,j,l,h,_ => by simp at h
 | a :: ls,hk,i,j,l,h,hj => by
  have ha:=hk a (by simp)
  cases i with
  | zero =>
   simp only [List.getElem?_cons_zero,Option.some.injEq] at h
   subst h
   rw [List.flatten_cons,Nat.zero_mul,Nat.zero_add,List.getElem?_append_left (by omega)]
  | succ i =>
   rw [List.flatten_cons,List.getElem?_append_right (by rw [ha,Nat.succ_mul]; omega),ha]
   have e:(i + 1) * k + j - k = i * k + j:=by rw [Nat.succ_mul]; omega
   rw [e]
   exact zkj (fun x hx => hk x (by simp [hx])) (by simpa using h) hj
theorem KO.nil (E:TypeId) (k:Nat) (w:World) (B:Nat):KO E k w B (.slice none 0 0) []:=⟨by simp,World.ownsRow_nil _ _ _ _⟩
theorem KO.grownNe {E:TypeId} {k:Nat} {w w':World} {B:Nat} {v:Value} {l:List (List Value)} {row:Option Nat} (h:KO E k w B v l) (hg:w.grownBy w' row) (hr:v.ownBlock = none \/ v.ownBlock ≠ row):KO E k w' B v l :=
 ⟨h.1,h.2.kept hg hr⟩
theorem KO.allocd {E:TypeId} {k:Nat} {w:World} {B:Nat} {v:Value} {l:List (List Value)} (h:KO E k w B v l) (X:Obj):KO E k (w.alloc X) B v l:=⟨h.1,h.2.alloc X⟩
theorem KO.blk_lt {E:TypeId} {k:Nat} {w:World} {B:Nat} {v:Value} {l:List (List Value)} (h:KO E k w B v l) {g:Nat} (hg:v.ownBlock = some g):B <= g /\ g < w.heap.size:=World.ownsRow.lt h.2 g hg
theorem KO.below {E:TypeId} {k:Nat} {w w':World} {B B':Nat} {v:Value} {l:List (List Value)} (h:KO E k w B v l) (hb:Below B' w w') (hB:w.heap.size <= B'):KO E k w' B v l:=by
 obtain ⟨h0,h1,h⟩:=h
 refine ⟨h0,h1,?_⟩
 rcases h with h | ⟨g,cap,cur,hv,hBg,hg,r⟩
 ·exact .inl h
 ·exact .inr ⟨g,cap,cur,hv,hBg,(hb.block g (Nat.lt_of_lt_of_le (lt_of_block hg) hB)).trans hg,r⟩
theorem KO.mono {E:TypeId} {k:Nat} {w:World} {B B':Nat} {v:Value} {l:List (List Value)} (h:KO E k w B v l) (hB:B' <= B):KO E k w B' v l:=by
 obtain ⟨h0,h1,h⟩:=h
 refine ⟨h0,h1,?_⟩
 rcases h with h | ⟨g,cap,cur,hv,hB2,hg,r⟩
 ·exact .inl h
 ·exact .inr ⟨g,cap,cur,hv,by omega,hg,r⟩
theorem KO.row {E:TypeId} {k:Nat} {w:World} {B:Nat} {v:Value} {l:List (List Value)} (h:KO E k w B v l) (hp:0 < l.length):∃ g cap cs,v = .slice (some ⟨g,0,none⟩) l.length cap /\ B <= g /\ Row w g E cs /\ l.length <= cap /\ cap <= 9223372036854775807 /\
  ∀ i a,l[i]? = some a -> ∀ j,j < k -> w.cell? ⟨g,i * k + j,none⟩ = a[j]?:=by
 obtain ⟨h0,h1⟩:=h
 rcases h1.2 with ⟨hv,hn⟩ | ⟨g,cap,cur,hv,hB,hg,hnc,hcm,hcs,ht⟩
 ·omega
 ·subst hv
  refine ⟨g,cap,cur,rfl,hB,hg,hnc,by simpa [maxLen] using hcm,fun i a hi j hj => ?_⟩
  have hil:i < l.length:=(List.getElem?_eq_some_iff.1 hi).1
  have hlt:i * k + j < l.length * k:=by
   have:(i + 1) * k <= l.length * k:=Nat.mul_le_mul_right _ hil
   rw [Nat.succ_mul] at this; omega
  rw [cell_of_row w g _ cur _ (0,0) hg]
  have e:=zkj (k:=k) (fun x hx => (h0 x hx).1) hi hj
  rw [<- e,<- ht,List.getElem?_take,if_pos hlt]
  simp
theorem KO.form {E:TypeId} {k:Nat} {w:World} {B n:Nat} {v:Value} {l:List (List Value)} (h:KO E k w B v l) (hn:l.length = n):∃ A c,v = .slice A n c:=by
 subst hn
 rcases h.2.2 with ⟨hv,hn⟩ | ⟨g,cap,cur,hv,_⟩
 ·exact ⟨none,0,by rw [hv,hn]⟩
 ·exact ⟨_,_,hv⟩
theorem KO.ne_row {E E':TypeId} {k:Nat} {w:World} {B g:Nat} {v:Value} {l:List (List Value)} {cs:Array Value} (h:KO E k w B v l) (hr:Row w g E' cs) (hne:E ≠ E'):v.ownBlock ≠ some g:=by
 intro e
 rcases h.2.2 with ⟨hv,_⟩ | ⟨g2,cap2,cur2,hv,_,hg2,_⟩
 ·rw [hv] at e; cases e
 ·rw [hv] at e
  simp only [Value.ownBlock,Option.some.injEq] at e
  subst e
  have hh:=hr
  unfold Row at hh
  rw [hh] at hg2
  simp only [Option.some.injEq,Obj.cells.injEq] at hg2
  exact hne hg2.2.1.symm
theorem KO.setFar {E E':TypeId} {k:Nat} {w:World} {B g:Nat} {v:Value} {l:List (List Value)} {cs:Array Value} (h:KO E k w B v l) (hr:Row w g E' cs) (hne:E ≠ E') (i:Nat) (u:Value):KO E k (w.setCell ⟨g,i,none⟩ u) B v l:=by
 have hn:=h.ne_row hr hne
 obtain ⟨h0,h1,h⟩:=h
 refine ⟨h0,h1,?_⟩
 rcases h with h | ⟨g1,cap,cur,hv,hBg,hgg,r⟩
 ·exact .inl h
 ·refine .inr ⟨g1,cap,cur,hv,hBg,(Below.heap_setCell w _ u g1 (fun e => hn (by rw [hv,e]; rfl))).trans hgg,r⟩
theorem KO.far {E E':TypeId} {k:Nat} {w w':World} {B B':Nat} {v u:Value} {l:List (List Value)} {xs:List Value} {size n:Nat} (h:KO E k w B v l) (hne:E ≠ E') (h2:w.ownsRow B' E' size u n xs) (hg:w.grownBy w' u.ownBlock):KO E k w' B v l:=by
 obtain ⟨h0,h1,h⟩:=h
 refine ⟨h0,h1,?_⟩
 rcases h with h | ⟨g,cap,cur,hv,hBg,hgg,r⟩
 ·exact .inl h
 ·refine .inr ⟨g,cap,cur,hv,hBg,(hg.block g (lt_of_block hgg) (fun e => ?_)).trans hgg,r⟩
  rcases h2.2 with ⟨hu,_⟩ | ⟨g2,cap2,cur2,hu,_,hg2,_⟩
  ·rw [hu] at e; cases e
  ·rw [hu] at e
   simp only [Value.ownBlock,Option.some.injEq] at e
   subst e
   rw [hgg] at hg2
   simp only [Option.some.injEq,Obj.cells.injEq] at hg2
   exact hne hg2.2.1
theorem NM.ne_ko {α:Type} [DecidableEq α] {kt:TypeId} {lit:α -> Lit} {w:World} {b:Nat} {ks:List α} (h:NM kt lit w b ks) {E:TypeId} {k B:Nat} {v:Value} {l:List (List Value)} (hr:KO E k w B v l):some b ≠ v.ownBlock:=fun e => by
 obtain ⟨D,⟨es,clock,h1,_⟩,_⟩:=h
 rcases hr.2.2 with ⟨hv,_⟩ | ⟨g2,cap2,cur2,hv,_,hg2,_⟩
 ·rw [hv] at e; cases e
 ·rw [hv] at e
  simp only [Value.ownBlock,Option.some.injEq] at e
  subst e
  rw [h1] at hg2
  cases hg2
theorem zik {T E:TypeId} {k by8:Nat} (hE:EltK T E k by8) (w:World) (B:Nat) (v:Value) (ls:List (List Value)) (h:KO E k w B v ls) (b c:Nat) (a:List Value) (ha:a.length = k) (h1c:∀ u ∈ a,u.oneCell' = true) (hb:∀ j u,a[j]? = some u -> w.cell? ⟨b,j,none⟩ = some u) (ty:TypeId) (hl:ls.length <= 100000) (hB:B <= w.heap.size) :
  ∃ v' w',(Builtin.append_ #[T,T] ty #[v,.slice (some ⟨b,0,none⟩) 1 c]).run Tryz.prog w = .ok v' w' /\ KO E k w' B v' (ls ++ [a]) /\ w.grownBy w' v.ownBlock /\ (v'.ownBlock = v.ownBlock \/ v'.ownBlock = some w.heap.size):=by
 obtain ⟨i,z,hi,hz,hs1,hs2,hzs⟩:=hE.info
 have hsm:=hE.small
 have hadd:∀ j,(⟨b,0,none⟩:Addr).add j = ⟨b,j,none⟩:=fun j => by unfold Addr.add; split <;> simp_all
 obtain ⟨v',w',hrun,h2,h3,_,h4⟩:=run_append_own_at (P:=Tryz.prog) w B T ty E i z k by8 hE.under hi hz hs1 hs2 hzs hE.pos v ls.length ls.flatten h.2 ⟨b,0,none⟩ 1 c a (by rw [ha,Nat.one_mul]) (fun j u hj => by rw [hadd]; exact hb j u hj) h1c
  (by simp only [maxLen]; omega) (by have:=Nat.mul_le_mul (show ls.length + 1 <= 100001 by omega) hsm; omega) hB
 refine ⟨v',w',hrun,⟨fun l hl => ?_,?_⟩,h3,h4⟩
 ·rcases List.mem_append.1 hl with hl | hl
  ·exact h.1 l hl
  ·simp at hl; subst hl; exact ⟨ha,h1c⟩
 ·rw [List.length_append,List.length_singleton,List.flatten_append]
  simpa using h2
theorem zfq {T E:TypeId} {k by8:Nat} (hE:EltK T E k by8) {o:Oper} {a:Act} {w:World} {K:Act -> World -> Prop} {Q:Exit -> Act -> World -> Prop} (s x:Operand)
  (ho:o.op = .call { callee:=.builtin .append,args:=#[s,x],argTypes:=#[T,T] }) (B:Nat) (v:Value) (ls:List (List Value)) (hs:a.eval s = v) (h:KO E k w B v ls) (b c:Nat) (el:List Value) (hx:a.eval x = .slice (some ⟨b,0,none⟩) 1 c)
  (ha:el.length = k) (h1c:∀ u ∈ el,u.oneCell' = true) (hb:∀ j u,el[j]? = some u -> w.cell? ⟨b,j,none⟩ = some u) (hl:ls.length <= 100000) (hB:B <= w.heap.size)
  (hK:∀ v' w',KO E k w' B v' (ls ++ [el]) -> w.grownBy w' v.ownBlock -> (v'.ownBlock = v.ownBlock \/ v'.ownBlock = some w.heap.size) -> K (a.put o.dst v') w'):o.wp Tryz.prog a w K Q:=by
 obtain ⟨v',w',hrun,h2,h3,h4⟩:=zik hE w B v ls h b c el ha h1c hb o.type hl hB
 unfold Oper.wp execOp
 simp only [ho,resolve,invoke,builtin,Sem.run_bind,Sem.run_pure,Result.andThen_ok,List.map_toArray,List.map_cons,List.map_nil,hs,hx,hrun]
 exact hK v' w' h2 h3 h4
theorem zdi {T E:TypeId} {k by8:Nat} (hE:EltK T E k by8) {ops:Array Oper} {rest:List Oper} {o:Oper} {a:Act} {w:World} {Q:Exit -> Act -> World -> Prop} (hgd:o.guard = none) (s x:Operand)
  (ho:o.op = .call { callee:=.builtin .append,args:=#[s,x],argTypes:=#[T,T] }) (B:Nat) (v:Value) (ls:List (List Value)) (hs:a.eval s = v) (h:KO E k w B v ls) (b c:Nat) (el:List Value) (hx:a.eval x = .slice (some ⟨b,0,none⟩) 1 c)
  (ha:el.length = k) (h1c:∀ u ∈ el,u.oneCell' = true) (hb:∀ j u,el[j]? = some u -> w.cell? ⟨b,j,none⟩ = some u) (hl:ls.length <= 100000) (hB:B <= w.heap.size)
  (hK:∀ v' w',KO E k w' B v' (ls ++ [el]) -> w.grownBy w' v.ownBlock -> (v'.ownBlock = v.ownBlock \/ v'.ownBlock = some w.heap.size) -> wpList Tryz.prog ops Q rest (a.put o.dst v') w'):wpList Tryz.prog ops Q (o :: rest) a w :=
 wpList_plain hgd fun _ hK' => zfq hE s x ho B v ls hs h b c el hx ha h1c hb hl hB fun v' w' h2 h3 h4 => hK' _ _ (hK v' w' h2 h3 h4)
end Go.Proofs.YthdabkmkgkkmcaaGreatDoor
