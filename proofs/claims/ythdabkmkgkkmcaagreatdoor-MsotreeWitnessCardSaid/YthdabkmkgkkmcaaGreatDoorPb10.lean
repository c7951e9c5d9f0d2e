/- Part 10 of the proof; it says: lemmas and contracts. No conditions but those that each theorem states. -/
import Derived.Test.YthdabkmkgkkmcaaGreatDoorPb01
import Derived.Test.YthdabkmkgkkmcaaGreatDoorPb08
import Derived.Test.YthdabkmkgkkmcaaGreatDoorPb09
set_option linter.unusedSimpArgs false
set_option linter.unusedVariables false
set_option maxRecDepth 100000
set_option maxHeartbeats 32000000
namespace Go.Proofs.YthdabkmkgkkmcaaGreatDoor
open Go.RowKit
def repF (n:Nat) (cl:Nat -> Nat) (k i:Nat):Nat:=((List.range' k (n - k)).find? (fun s => cl s == i)).getD 0
theorem zn9 (n:Nat) (cl:Nat -> Nat) (i:Nat):repF n cl 0 i = repS n cl i:=by
 unfold repF repS; rw [Nat.sub_zero,List.range_eq_range']
theorem zob (n:Nat) (cl:Nat -> Nat) (i:Nat):repF n cl n i = 0:=by
 unfold repF; rw [Nat.sub_self]; rfl
theorem zoa {n:Nat} {cl:Nat -> Nat} {k:Nat} (h:k < n) (i:Nat):repF n cl k i = if cl k = i then k else repF n cl (k + 1) i:=by
 unfold repF
 obtain ⟨m,hm⟩:∃ m,n - k = m + 1:=⟨n - k - 1,by omega⟩
 rw [hm,List.range'_succ,List.find?_cons,show n - (k + 1) = m by omega]
 by_cases e:cl k = i
 ·have e2:(cl k == i) = true:=beq_iff_eq.2 e
  rw [if_pos e,e2]; rfl
 ·have e2:(cl k == i) = false:=beq_eq_false_iff_ne.2 e
  rw [if_neg e,e2]
theorem rep_set {n many:Nat} {cl:Nat -> Nat} {k:Nat} (h:k < n) (hc:cl k < many):(oI ((List.range many).map (repF n cl (k + 1)))).set (cl k) (k:Int) = oI ((List.range many).map (repF n cl k)):=by
 apply List.ext_getElem?
 intro i
 rw [List.getElem?_set]
 by_cases hi:i < many
 ·unfold oI
  rw [List.getElem?_map,List.getElem?_map,List.getElem?_map,List.getElem?_map,List.getElem?_range hi]
  simp only [Option.map_some,List.length_map,List.length_range]
  rw [zoa h i]
  by_cases e:cl k = i
  ·rw [if_pos e,if_pos (by omega),if_pos e]
  ·rw [if_neg e,if_neg e]
 ·rw [if_neg (by omega),List.getElem?_eq_none (by rw [zap]; simp; omega),List.getElem?_eq_none (by rw [zap]; simp; omega)]
structure MiI (C:Dta) (V:Nat) (gc gk gf:Nat) (vn vf cv fv:Value) (W:World):Prop where
 rc:Row W gc 30 #[.int .i64 (V:Int),.int .i64 (C.e:Int),vn,vf]
 hn:N3 W vn (nx3 C.n C.L C.nx)
 hf:NB W vf ((List.range C.n).map C.fin)
 rk:Row W gk 36 #[cv]
 hk:N1 W cv (oI ((List.range C.n).map C.cls.1))
 rf:Row W gf 36 #[fv]
 hff:N1 W fv (oI ((List.range C.cls.2).map (repS C.n C.cls.1)))
theorem MiI.keep {C:Dta} {V:Nat} {gc gk gf:Nat} {vn vf cv fv:Value} {W W':World} (h:MiI C V gc gk gf vn vf cv fv W) (hb:Below W.heap.size W W'):MiI C V gc gk gf vn vf cv fv W' :=
 ⟨h.rc.below hb h.rc.lt,h.hn.below hb zn,h.hf.below hb zn,h.rk.below hb h.rk.lt,h.hk.below hb zn,h.rf.below hb h.rf.lt,h.hff.below hb zn⟩
theorem N1.at {w:World} {v:Value} {m:Nat} {f:Nat -> Nat} (h:N1 w v (oI ((List.range m).map f))) (hm:1 <= m):∃ b o c,v = .slice (some ⟨b,o,none⟩) m c /\ m <= c /\ b < w.heap.size /\ ∀ i,i < m -> w.cell? ⟨b,o + i,none⟩ = some (.int .i64 (f i:Int)):=by
 obtain ⟨A,c,rfl,h1,h2,h3⟩:=h.open
 have hl:(oI ((List.range m).map f)).length = m:=by rw [zap]; simp
 have hi:∀ i,i < m -> (oI ((List.range m).map f))[i]? = some ((f i:Nat):Int):=fun i hi => oI_at (by rw [List.getElem?_map,List.getElem?_range hi]; rfl)
 obtain ⟨b,o,rfl,hb,_⟩:=h3 0 _ (hi 0 (by omega))
 refine ⟨b,o,c,by rw [hl],by rw [<- hl]; exact h1,hb,fun i h => ?_⟩
 obtain ⟨b',o',he,_,hc⟩:=h3 i _ (hi i h)
 simp only [Option.some.injEq,Addr.mk.injEq,and_true] at he
 obtain ⟨rfl,rfl⟩:=he
 exact hc
theorem NB.at {w:World} {v:Value} {m:Nat} {f:Nat -> Bool} (h:NB w v ((List.range m).map f)) (hm:1 <= m):∃ b o c,v = .slice (some ⟨b,o,none⟩) m c /\ m <= c /\ b < w.heap.size /\ ∀ i,i < m -> w.cell? ⟨b,o + i,none⟩ = some (.bool (f i)):=by
 obtain ⟨A,c,rfl,h1,h2,h3⟩:=h.open
 have hl:((List.range m).map f).length = m:=by simp
 have hi:∀ i,i < m -> ((List.range m).map f)[i]? = some (f i):=fun i hi => by rw [List.getElem?_map,List.getElem?_range hi]; rfl
 obtain ⟨b,o,rfl,hb,_⟩:=h3 0 _ (hi 0 (by omega))
 refine ⟨b,o,c,by rw [hl],by rw [<- hl]; exact h1,hb,fun i h => ?_⟩
 obtain ⟨b',o',he,_,hc⟩:=h3 i _ (hi i h)
 simp only [Option.some.injEq,Addr.mk.injEq,and_true] at he
 obtain ⟨rfl,rfl⟩:=he
 exact hc
theorem zo2 (C:Dta) (V:Nat) (hC:C.Fit V) (gc gk gf:Nat) (vn vf cv fv:Value) (wc:World) (hi:MiI C V gc gk gf vn vf cv fv wc) :
  Cb3M C.cls.2 C.L (C.quo C.cls.2 C.cls.1 (repS C.n C.cls.1)).nx (.pointer (some ⟨gk,0,none⟩)) (.pointer (some ⟨gc,0,none⟩)) (.pointer (some ⟨gf,0,none⟩)) wc:=by
 intro l r x W hl hr hx hbw
 replace hi:=hi.keep hbw
 have hcong:=C.cls_cong hC.ok
 have h64:=hC.n64
 obtain ⟨a,ha⟩:=zx (repS C.n C.cls.1 l)
 obtain ⟨b,hb⟩:=zx (repS C.n C.cls.1 r)
 have hal:a < C.n:=by rw [ha]; exact (hcong.rep l hl).1
 have hbl:b < C.n:=by rw [hb]; exact (hcong.rep r hr).1
 have hres:(C.quo C.cls.2 C.cls.1 (repS C.n C.cls.1)).nx l r x = C.cls.1 (C.nx a b x):=by rw [ha,hb]; rfl
 rw [hres]
 obtain ⟨b3,o3,c3,hN⟩:=hi.hn.nx hC.pos hC.L8.1
 obtain ⟨b2,o2,c2,b1,o1,c1,hb3,c0,hB1,hb2,d0,hC1,hb1,f0⟩:=hN.at3 a b x hal hbl hx
 obtain rfl:=hN.form
 obtain ⟨bk,ok,ck,rfl,hk1,hbk,hk2⟩:=hi.hk.at hC.pos
 obtain ⟨bf,of,cf,rfl,hf1,hbf,hf2⟩:=hi.hff.at (by omega)
 have q0:=hf2 l hl
 have q1:=hf2 r hr
 rw [<- ha] at q0
 rw [<- hb] at q1
 have hsn:=hC.ok.hn a b x hal hbl hx
 have q2:=hk2 _ hsn
 obtain ⟨s,hs⟩:=zx (C.nx a b x)
 rw [<- hs] at f0 hsn q2 ⊢
 obtain ⟨K,hK⟩:=zx (C.cls.1 s)
 rw [<- hK] at q2 ⊢
 have z1:=hi.rc.cell; have z2:=hi.rk.cell; have z3:=hi.rf.cell
 obtain ⟨n,hnn⟩:=zx C.n
 obtain ⟨L,hLL⟩:=zx C.L
 obtain ⟨m,hmm⟩:=zx C.cls.2
 rw [<- hnn] at c0 z1 z2 hal hbl hsn hB1
 rw [<- hLL] at d0 hx hC1
 rw [<- hmm] at z3 hl hr
 clear hi hcong h64 ha hb hres hN hb3 hb2 hb1 hk1 hbk hk2 hf1 hbf hf2 hs hK hnn hLL hmm hbw
 go_enter Tryz.func40,Tryz.ntmps40
 go_wp2
 first | go_region | fail
 go_wp2
 go_returns
 exact ⟨rfl,by go_grown⟩
theorem zo1 (C:Dta) (V:Nat) (hC:C.Fit V) (gc gk gf:Nat) (vn vf cv fv:Value) (wc:World) (hi:MiI C V gc gk gf vn vf cv fv wc) :
  Cb1M C.cls.2 (C.quo C.cls.2 C.cls.1 (repS C.n C.cls.1)).fin (.pointer (some ⟨gc,0,none⟩)) (.pointer (some ⟨gf,0,none⟩)) wc:=by
 intro l W hl hbw
 replace hi:=hi.keep hbw
 have hcong:=C.cls_cong hC.ok
 obtain ⟨a,ha⟩:=zx (repS C.n C.cls.1 l)
 have hal:a < C.n:=by rw [ha]; exact (hcong.rep l hl).1
 have hres:(C.quo C.cls.2 C.cls.1 (repS C.n C.cls.1)).fin l = C.fin a:=by rw [ha]; rfl
 rw [hres]
 obtain ⟨bk,ok,ck,rfl,hk1,hbk,hk2⟩:=hi.hf.at hC.pos
 obtain ⟨bf,of,cf,rfl,hf1,hbf,hf2⟩:=hi.hff.at (by omega)
 have q0:=hf2 l hl
 rw [<- ha] at q0
 have q2:=hk2 _ hal
 obtain ⟨K,hK⟩:=zx (C.fin a)
 rw [<- hK] at q2 ⊢
 have z1:=hi.rc.cell; have z3:=hi.rf.cell
 obtain ⟨n,hnn⟩:=zx C.n
 obtain ⟨m,hmm⟩:=zx C.cls.2
 rw [<- hnn] at z1 hal
 rw [<- hmm] at z3 hl
 clear hi hcong ha hres hk1 hbk hk2 hf1 hbf hf2 hK hnn hmm hbw
 go_enter Tryz.func41,Tryz.ntmps41
 go_wp2
 first | go_region | fail
 go_wp2
 go_returns
 exact ⟨rfl,by go_grown⟩
theorem Dta.Fit.renum {d:Dta} {V:Nat} (h:d.Fit V):d.renum.Fit V:=⟨d.renum_ok h.ok,Nat.le_trans (d.order_len h.ok) h.n64,h.v3,h.L⟩
def Dta.quoM (C:Dta):Dta:=C.quo C.cls.2 C.cls.1 (repS C.n C.cls.1)
theorem Dta.cls_le {C:Dta} (h:C.OK):C.cls.2 <= C.n:=Nat.le_trans (C.count_ge fun i hi => ⟨_,(C.cls_cong h).rep i hi⟩) (C.count_le _)
theorem Dta.cls_pos {C:Dta} (h:C.OK):1 <= C.cls.2:=by have:=(C.cls_cong h).lt _ h.he; omega
theorem Dta.Fit.quoM {C:Dta} {V:Nat} (h:C.Fit V):C.quoM.Fit V:=⟨((C.cls_cong h.ok).quot h.ok).ok h.ok,Nat.le_trans (C.cls_le h.ok) h.n64,h.v3,h.L⟩
theorem Dta.raw_len (D:Dta) (V:Nat):(D.raw V).next.length = D.n /\ (D.raw V).fin.length = D.n:=by simp [Dta.raw,nx3]
theorem TDO.formN {w:World} {B n m:Nat} {v:Value} {r:Raw} (h:TDO w B v r) (hn:r.next.length = n) (hf:r.fin.length = m):∃ A c Af cf,v = .agg #[.int .i64 r.vars,.int .i64 r.empty,.slice A n c,.slice Af m cf]:=by
 subst hn hf; exact h.form
theorem O1.at {w:World} {B:Nat} {v:Value} {m:Nat} {f:Nat -> Nat} (h:O1 w B v (oI ((List.range m).map f))) (hm:1 <= m):∃ g c,v = .slice (some ⟨g,0,none⟩) m c /\ B <= g /\ g < w.heap.size /\ ∀ i,i < m -> w.cell? ⟨g,i,none⟩ = some (.int .i64 (f i:Int)):=by
 obtain ⟨g,cap,cs,rfl,hB,hr,_,_,hc⟩:=VO.row h (by rw [zad,zap]; simp; omega)
 refine ⟨g,cap,by rw [zad,zap]; simp,hB,hr.lt,fun i hi => hc i _ (iL_at (oI_at (by rw [List.getElem?_map,List.getElem?_range hi]; rfl)))⟩
theorem zce (d:Dta) (V:Nat) (hd:d.Fit V) (v:Value) (w:World) (hv:TD w v (d.raw V)):Calls Tryz.prog 14 #[v] w (RetR w (d.mini.raw V) 0):=by
 have hck:=fun W (h:Below w.heap.size w W) => zc7 (d.raw V) v W (hv.below h zn) (by have:=hd.n64; rw [(d.raw_len V).1,(d.raw_len V).2]; omega)
 rw [d.raw_check hd] at hck
 have hrn:=fun W (h:Below w.heap.size w W) => zdn d V hd v W (hv.below h zn)
 obtain ⟨C,hC⟩:=zx d.renum
 have hfit:C.Fit V:=by rw [hC]; exact hd.renum
 have hmini:d.mini = C.quoM.renum:=by rw [hC]; rfl
 rw [hmini]
 rw [<- hC] at hrn
 obtain ⟨A,c,Af,cf,rfl⟩:=hv.form
 rw [(d.raw_len V).1,(d.raw_len V).2] at hck hrn ⊢
 have hvars:(d.raw V).vars = (V:Int):=rfl
 have hemp:(d.raw V).empty = (d.e:Int):=rfl
 rw [hvars,hemp] at hck hrn ⊢
 obtain ⟨n0,hn0⟩:=zx d.n
 obtain ⟨E0,hE0⟩:=zx d.e
 rw [<- hn0,<- hE0] at hck hrn ⊢
 have HC:=zh hck; have HR:=zh hrn; have HF:=zh hfit
 clear hck hrn hv hC hmini hvars hemp hn0 hE0 hd hfit
 clear d
 go_enter Tryz.func14,Tryz.ntmps14
 go_upto_region 5 with (first
   | (go_at_call 36; refine (HC.out _ (by go_grown)).mono ?_; rintro e w2 ⟨rfl,hb2⟩; have X:=zia hb2; have HB2:=zh X.1; have RR:=zh X.2.2; have y0:=X.2.1.cell; clear hb2 X)
   | (go_at_call 37; refine (HR.out _ HB2.out).mono ?_; rintro e w4 ⟨v4,rfl,hb4,ht4⟩; obtain ⟨A4,c4,A5,c5,rfl⟩:=ht4.form; rw [(C.raw_len V).1,(C.raw_len V).2] at ht4 ⊢; have HT:=zh ht4; have HB4:=zh hb4; have RR4:=zh (RR.out.below hb4 RR.out.lt); clear hb4 ht4 y0))
 have hcv:(C.raw V).vars = (V:Int):=rfl
 have hce:(C.raw V).empty = (C.e:Int):=rfl
 rw [hcv,hce] at HT ⊢
 refine zaa (fun W => Below w.heap.size w W /\ Row W (w.heap.size + 1) 30 #[.int .i64 0,.int .i64 0,.slice none 0 0,.slice none 0 0] /\ ∃ gc,gc = w4.heap.size /\ w.heap.size <= gc /\ Row W gc 30 #[.int .i64 (V:Int),.int .i64 (C.e:Int),.slice A4 C.n c4,.slice A5 C.n c5] /\ TD W (.agg #[.int .i64 (V:Int),.int .i64 (C.e:Int),.slice A4 C.n c4,.slice A5 C.n c5]) (C.raw V))
  ⟨by have h1:=HB2.out.trans (HB4.out.mono HB2.out.size); have h2:=h1.size; go_grown,RR4.out.alloc _,_,rfl,by have h1:=HB2.out.size; have h2:=HB4.out.size; omega,Row.new _ _ _,HT.out.td.below (B:=w4.heap.size) (by go_grown) zn⟩ ?_
 rintro w5 ⟨hb,hrr,gc,hgc,hgcB,hrc,htd⟩
 rw [<- hgc]
 clear HB2 HB4 RR4 HT HC HR RR hcv hce hgc
 have HB5:=zh hb; have RR5:=zh hrr; have RC5:=zh hrc; have TD5:=zh htd
 have z0:=hrc.cell
 clear hb hrr hrc htd
 go_upto_region 6 with (go_at_call 38; refine (zkt C V HF.out _ w5 TD5.out).mono ?_; rintro e w6 ⟨u,rfl,hb6,ho6⟩; have HB6:=zh hb6; have HO6:=zh ho6; obtain ⟨Au,cu,rfl⟩:=VO.formN (n:=C.n) ho6 (by rw [zad,zap]; simp); clear hb6 ho6)
 obtain ⟨M,hM⟩:=zx C.cls.2
 rw [<- hM]
 have hM64:M <= 64:=by rw [hM]; exact Nat.le_trans (C.cls_le HF.out.ok) HF.out.n64
 have hM1:1 <= M:=by rw [hM]; exact C.cls_pos HF.out.ok
 have HM:=zh hM
 clear hM
 refine zaa (fun W => Below w.heap.size w W /\ Row W (w.heap.size + 1) 30 #[.int .i64 0,.int .i64 0,.slice none 0 0,.slice none 0 0] /\ Row W gc 30 #[.int .i64 (V:Int),.int .i64 (C.e:Int),.slice A4 C.n c4,.slice A5 C.n c5] /\ TD W (.agg #[.int .i64 (V:Int),.int .i64 (C.e:Int),.slice A4 C.n c4,.slice A5 C.n c5]) (C.raw V) /\
   ∃ gk,gk = w6.heap.size /\ Row W gk 36 #[.slice Au C.n cu] /\ O1 W w.heap.size (.slice Au C.n cu) (oI ((List.range C.n).map C.cls.1)))
  ⟨by have h1:=HB5.out.trans (HB6.out.mono HB5.out.size); have h2:=h1.size; go_grown,(RR5.out.below HB6.out RR5.out.lt).alloc _,(RC5.out.below HB6.out RC5.out.lt).alloc _,(TD5.out.below HB6.out zn).below (B:=w6.heap.size) (by go_grown) zn,_,rfl,Row.new _ _ _,VO.allocd (HO6.out.mono HB5.out.size) _⟩ ?_
 rintro wF ⟨hb,hrr,hrc,htd,gk,hgk,hrk,hok⟩
 rw [<- hgk]
 clear HB5 RR5 RC5 TD5 HB6 HO6 z0 hgk
 have HBF:=zh hb; have RRF:=zh hrr; have RCF:=zh hrc; have TDF:=zh htd; have RKF:=zh hrk; have OKF:=zh hok
 obtain ⟨gA,cA,heA,hgA,hltA,hatA⟩:=hok.at HF.out.pos
 simp only [Value.slice.injEq] at heA
 obtain ⟨rfl,-,rfl⟩:=heA
 have HAT:=zh hatA
 have z0:=hrk.cell; have z1:=fun X => (hrk.alloc X).cell; have z2:=fun X Y => ((hrk.alloc X).alloc Y).cell
 have zl:=hrk.lt
 have hmk:=zbm eI M (by omega)
 clear hb hrr hrc htd hrk hok hatA
 obtain ⟨n,hn⟩:=zx C.n
 have HN:=zh hn
 have hn64:n <= 64:=by rw [hn]; exact HF.out.n64
 have hn1:1 <= n:=by rw [hn]; exact HF.out.pos
 rw [<- hn] at RCF TDF RKF OKF z0 z1 z2 ⊢
 clear hn
 go_wp2
 refine zaa (fun W => Below wF.heap.size wF W /\ ∃ gf gx,gx = wF.heap.size /\ gf = gx + 1 /\ Row W gf 36 #[.slice (some ⟨gx,0,none⟩) M M] /\ VO 3 W wF.heap.size (.slice (some ⟨gx,0,none⟩) M M) (iL (oI ((List.range M).map (repF n C.cls.1 n))))) ?_ ?_
 ·refine ⟨by go_grown,_,_,rfl,rfl,?_,?_⟩
  ·first | exact Row.lit (by simp) | exact (Row.lit (by simp)).alloc _ | exact (Row.new _ _ _).alloc _
  ·have h:=VO.lit (E:=3) (w:=wF) (n:=M) (List.replicate M (.int .i64 0)) (by simp) (by omega) (by intro u hu; rw [List.eq_of_mem_replicate hu]; rfl)
   have e:iL (oI ((List.range M).map (repF n C.cls.1 n))) = List.replicate M (.int .i64 0):=by
    unfold iL oI
    rw [List.map_map,List.map_map]
    apply List.eq_replicate_iff.2
    exact ⟨by simp,fun b hb => by obtain ⟨x,_,rfl⟩:=List.mem_map.1 hb; simp [zob]⟩
   rw [e]
   first | exact h | exact VO.allocd h _ | (rw [List.toArray_replicate] at h; first | exact h | exact VO.allocd h _)
 clear z0 z1 z2 hmk
 rintro w7 ⟨hb,gf,gx,hgx,hgf,hrf,hvo⟩
 rw [<- hgx,<- hgf]
 have HGX:=zh hgx; have HGF:=zh hgf
 have HB7:=zh hb; have RF7:=zh hrf; have VO7:=zh hvo
 clear hb hrf hvo hgx hgf
 go_loopg [9] (n + 1) (fun gk0 q W => ∃ (k:Nat) (z:Int),k <= n /\ gk0 = k + 1 /\ z + 1 = (k:Int) /\ q = .int .i64 z /\ Below wF.heap.size wF W /\ Row W gf 36 #[.slice (some ⟨gx,0,none⟩) M M] /\ VO 3 W wF.heap.size (.slice (some ⟨gx,0,none⟩) M M) (iL (oI ((List.range M).map (repF n C.cls.1 k)))))
 case atStart => exact ⟨n,(n:Int) - 1,zn,rfl,by omega,by go_num,HB7.out,RF7.out,VO7.out⟩
 case round =>
  clear HB7 RF7 VO7
  obtain ⟨k,z,hk,rfl,hz,rfl,hb,hrf,hvo⟩:=hrel
  have HB7:=zh hb; have RF7:=zh hrf; have VO7:=zh hvo
  have y0:=hrf.cell
  have y1:=(RKF.out.below hb RKF.out.lt).cell
  have hlen:(oI ((List.range M).map (repF n C.cls.1 k))).length = M:=by rw [zap]; simp
  obtain ⟨g3,cap3,cs3,he3,hg3,hrow3,_,_,hcell3⟩:=VO.row hvo (by rw [zad,hlen]; omega)
  simp only [Value.slice.injEq,Option.some.injEq,Addr.mk.injEq,and_true,true_and] at he3
  obtain ⟨rfl,-⟩:=he3
  have R3:=zh hrow3
  cases k with
  | zero =>
   have hz0:z = -1:=by omega
   subst hz0
   clear hrf hb hvo hz hrow3 hcell3 hlen R3 hg3
   obtain ⟨wG,hwG⟩:=zx wr
   subst hwG
   have HBG:Hid (Below w.heap.size w wG):=HBF.out.trans (HB7.out.mono HBF.out.size)
   have RRG:=zh (RRF.out.below HB7.out RRF.out.lt)
   have RCG:=zh (RCF.out.below HB7.out RCF.out.lt)
   have hmi:MiI C V gc gk gf (.slice A4 n c4) (.slice A5 n c5) (.slice (some ⟨gA,0,none⟩) n cu) (.slice (some ⟨gx,0,none⟩) M M) wG:=by
    obtain ⟨vn',vf',he,h1,h2⟩:=TDF.out.below HB7.out zn
    simp only [Value.agg.injEq,Array.mk.injEq,List.cons.injEq,and_true] at he
    obtain ⟨-,-,rfl,rfl⟩:=he
    refine ⟨RCG.out,h1,h2,RKF.out.below HB7.out RKF.out.lt,(by have:=(OKF.out.below HB7.out zn).n1; rw [HN.out] at this; rw [<- HN.out]; rwa [<- HN.out] at this),RF7.out,?_⟩
    have h:=VO7.out.vs
    rw [<- HM.out,<- HN.out]
    have e:(List.range M).map (repF n C.cls.1 0) = (List.range M).map (repS n C.cls.1):=List.map_congr_left fun i _ => zn9 _ _ _
    rw [e] at h
    exact h
   have hbu:=built_M V M C.L HF.out.v3 HF.out.L hM64 C.quoM.nx C.quoM.fin _ _ _ _ _ wG (by rw [HM.out]; exact zo2 C V HF.out gc gk gf _ _ _ _ wG hmi) (by rw [HM.out]; exact zo1 C V HF.out gc gk gf _ _ _ _ wG hmi)
   have HBU:=zh hbu
   have KC:=zh (fun W (h:Below wG.heap.size wG W) => (show (∀ i,W.cell? ⟨gk,i,none⟩ = _) /\ (∀ i,W.cell? ⟨gc,i,none⟩ = _) /\ W.cell? ⟨gA,C.e,none⟩ = _ from ⟨(hmi.rk.below h hmi.rk.lt).cell,(RCG.out.below h RCG.out.lt).cell,((HB7.out.trans (h.mono HB7.out.size)).cell (p:=⟨gA,_,none⟩) hltA).trans (HAT.out C.e HF.out.ok.he)⟩))
   have y2:=RCG.out.cell
   have hen:C.e < n:=by rw [HN.out]; exact HF.out.ok.he
   clear hmi hbu
   go_upto_region 12 with (go_at_call 39; refine HBU.out.mono ?_; rintro e w8 ⟨v8,rfl,hb8,ht8⟩; obtain ⟨A8,c8,B8,e8,rfl⟩:=ht8.formN (n:=M) (m:=M) (by simp [nx3]) (by simp); have HT8:=zh ht8; have HB8:=zh hb8; clear hb8 ht8)
   obtain ⟨K,hK⟩:=zx (C.cls.1 C.e)
   have hq:C.quoM.raw V = ⟨V,(K:Int),nx3 M C.L C.quoM.nx,(List.range M).map C.quoM.fin⟩:=by rw [hK,HM.out]; rfl
   refine zaa (fun W => Below w.heap.size w W /\ Row W (w.heap.size + 1) 30 #[.int .i64 0,.int .i64 0,.slice none 0 0,.slice none 0 0] /\ Below wG.heap.size wG W /\ ∃ gm,gm = w8.heap.size /\ wG.heap.size <= gm /\ Row W gm 30 #[.int .i64 (V:Int),.int .i64 0,.slice A8 M c8,.slice B8 M e8] /\
     ∃ vn vf,TDO W w.heap.size (.agg #[.int .i64 (V:Int),.int .i64 0,vn,vf]) ⟨V,0,nx3 M C.L C.quoM.nx,(List.range M).map C.quoM.fin⟩ /\ vn = .slice A8 M c8 /\ vf = .slice B8 M e8)
    ⟨by have h1:=HBG.out.trans (HB8.out.mono HBG.out.size); have h2:=h1.size; go_grown,(RRG.out.below HB8.out RRG.out.lt).alloc _,by have h1:=HB8.out; have h2:=h1.size; go_grown,_,rfl,HB8.out.size,Row.new _ _ _,_,_,((HT8.out.mono HBG.out.size).below (B':=w8.heap.size) (by go_grown) zn),rfl,rfl⟩ ?_
   rintro w9 ⟨hb,hrr,hbG,gm,hgm,hgmB,hrm,vn,vf,htd,hvn,hvf⟩
   rw [<- hgm]
   subst hvn hvf
   obtain ⟨k0,k1,k2⟩:=KC.out w9 hbG
   rw [<- hK] at k2
   have m0:=hrm.cell; have m1:=hrm.free
   have HB9:=zh hb; have RR9:=zh hrr; have RM9:=zh hrm; have TD9:=zh htd; have HQ:=zh hq
   clear hb hrr hbG hgm hrm htd y0 y1 y2 hK hq
   go_upto_region 13 with fail
   have htd2:TDO (w9.setCell ⟨gm,1,none⟩ (.int .i64 (K:Int))) w.heap.size (.agg #[.int .i64 (V:Int),.int .i64 (K:Int),.slice A8 M c8,.slice B8 M e8]) (C.quoM.raw V):=by
    obtain ⟨vn',vf',he,h1,h2⟩:=TD9.out.setRow RM9.out 1 (.int .i64 (K:Int))
    simp only [Value.agg.injEq,Array.mk.injEq,List.cons.injEq,and_true] at he
    obtain ⟨-,-,rfl,rfl⟩:=he
    rw [HQ.out]
    exact ⟨_,_,rfl,h1,h2⟩
   have hwlt:=HBG.out.size
   refine zaa (fun W => Below w.heap.size w W /\ Row W (w.heap.size + 1) 30 #[.int .i64 0,.int .i64 0,.slice none 0 0,.slice none 0 0] /\ Row W gm 30 #[.int .i64 (V:Int),.int .i64 (K:Int),.slice A8 M c8,.slice B8 M e8] /\ TDO W w.heap.size (.agg #[.int .i64 (V:Int),.int .i64 (K:Int),.slice A8 M c8,.slice B8 M e8]) (C.quoM.raw V))
    ⟨HB9.out.setCell (p:=⟨gm,1,none⟩) (by show w.heap.size <= gm; omega) _,RR9.out.far (by show w.heap.size + 1 ≠ gm; have:=RRG.out.lt; omega) _,RM9.out.set 1 _,htd2⟩ ?_
   clear k0 k1 k2 m0 m1 htd2 HB9 RR9 RM9 TD9 HQ HBU KC RCG HB7 RF7 VO7
   rintro wT ⟨hb,hrr,hrm,htd⟩
   have m0:=hrm.cell
   have HBT:=zh hb; have RRT:=zh hrr; have TDT:=zh htd
   clear hb hrr hrm htd
   have hlr:=C.quoM.renum.raw_len V
   obtain ⟨R,hR⟩:=zx (C.quoM.renum.raw V)
   rw [<- hR] at hlr
   have HRN:=zh (zdn C.quoM V HF.out.quoM _ wT TDT.out.td)
   rw [<- hR] at HRN
   have HR2:=zh hR
   clear hlr hR
   go_wp2_with (go_at_call 37; refine HRN.out.mono ?_; rintro e wU ⟨vU,rfl,hbU,htU⟩; obtain ⟨A9,c9,B9,e9,rfl⟩:=htU.form; have HT:=zh htU; have HBU:=zh hbU; have RRU:=zh (RRT.out.below hbU RRT.out.lt); have b0:=RRU.out.cell; have b1:=RRU.out.free; clear hbU htU m0)
   refine zah (fun W => Row W (w.heap.size + 1) 30 #[.int .i64 R.vars,.int .i64 R.empty,.slice A9 R.next.length c9,.slice B9 R.fin.length e9] /\ TDO W wT.heap.size (.agg #[.int .i64 R.vars,.int .i64 R.empty,.slice A9 R.next.length c9,.slice B9 R.fin.length e9]) R /\ Below w.heap.size w W)
    (zaz RRU.out HT.out (HBT.out.trans (HBU.out.mono HBT.out.size)) (by omega)) ?_
   clear b0 b1 RRU HT
   rintro W5 ⟨r0,hT,hb⟩
   have b0:=r0.cell
   have q0:=b0 0; have q1:=b0 1; have q2:=b0 2; have q3:=b0 3
   simp only [zg] at q0 q1 q2 q3
   have HT:=zh (hT.mono HBT.out.size); have HB:=zh hb
   clear b0 r0 hT hb
   refine bodyPost_ret (v:=.tuple #[.agg #[.int .i64 R.vars,.int .i64 R.empty,.slice A9 R.next.length c9,.slice B9 R.fin.length e9],.int .i64 0]) (by simp [results,Tryz.results14,go_sem,q0,q1,q2,q3]) rfl ⟨_,rfl,HB.out,?_⟩
   rw [<- HR2.out]; exact HT.out
  | succ s =>
   have hzs:z = (s:Int):=by omega
   subst hzs
   have hsn:s < n:=by omega
   have c0:=HAT.out s (by rw [<- HN.out]; exact hsn)
   rw [<- hb.cell (p:=⟨gA,_,none⟩) hltA] at c0
   have hcl:=(C.cls_cong HF.out.ok).lt s (by rw [<- HN.out]; exact hsn)
   rw [<- HM.out] at hcl
   have hst:=rep_set hsn hcl
   obtain ⟨K,hK⟩:=zx (C.cls.1 s)
   rw [<- hK] at c0 hcl hst
   obtain ⟨u3,hcs3⟩:∃ u3,cs3[K]? = some u3:=by
    refine ⟨(iL (oI ((List.range M).map (repF n C.cls.1 (s + 1)))))[K]'(by rw [zad,hlen]; exact hcl),?_⟩
    rw [<- hrow3.cell K]
    exact hcell3 K _ (List.getElem?_eq_getElem _)
   have z4:=(hrow3.cell K).trans hcs3; have z5:=hrow3.free K
   have hset:=zeb hvo (by rw [zad,hlen]) K (.int .i64 (s:Int)) rfl
   rw [iL_set,hst] at hset
   have HSET:=zh hset
   clear hrf hb hvo hz hrow3 hcell3 hlen hst hset hK hcs3
   go_wp2
   first | go_region | fail
   go_wp2
   go_roundg (s + 1)
   case rel => exact ⟨s,(s:Int) - 1,by omega,rfl,by omega,by go_num,(HB7.out.drew).setCell (p:=⟨gx,K,none⟩) hg3 _,(RF7.out.drew).far (Row.ne RF7.out R3.out (by decide)) _,HSET.out⟩
   case measure => omega
theorem bL_set (l:List Bool) (i:Nat) (x:Bool):(bL l).set i (.bool x) = bL (l.set i x):=by simp [bL]
theorem OB.empty (w:World) (B:Nat) (hB:B <= w.heap.size):OB (w.alloc (.cells #[] 4)) B (.slice (some ⟨w.heap.size,0,none⟩) 0 0) []:=VO.mono (VO.made (n:=0) #[] rfl (by omega)) hB
theorem zks (f:List Bool) (v:Value) (w:World) (hv:NB w v f) (hl:f.length <= 1000000):Calls Tryz.prog 54 #[v] w fun e w' => ∃ v',e = .returned v' /\ Below w.heap.size w w' /\ OB w' w.heap.size v' f:=by
 have hnil:=fun (W:World) (A:Option Addr) (n c:Nat) => Lib.run_eql_slice_nil (P:=Tryz.prog) W 28 4 A n c 0 0 Tryz.underlying28
 have HV:=zh hv
 obtain ⟨A,c,rfl,hc,hc2,hcell⟩:=hv.open
 cases A with
 | none =>
  have hf:f = []:=by
   cases f with
   | nil => rfl
   | cons m f => obtain ⟨_,_,h,_⟩:=hcell 0 m rfl; cases h
  subst hf
  clear hcell hv
  go_enter Tryz.func54,Tryz.ntmps54
  go_wp2
  go_returns
  exact ⟨_,rfl,Below.refl _ _,VO.nil _ _ _⟩
 | some ad =>
  clear hcell hv
  go_enter Tryz.func54,Tryz.ntmps54
  go_wp2_with (at_builtin; go_must (refine zac eB rfl (.tmp 5) (.tmp 6) rfl w.heap.size _ [] rfl (OB.empty w _ zn) _ (bL f) rfl (VS.below HV.out (Below.alloc (Below.refl _ _) zn _) zn) (zqd f) (by rw [zb1]; simpa using hl) (by simp) ?_; intro v1 w1 ho1 hg1 _))
  go_returns
  exact ⟨v1,rfl,zat (Below.alloc (Below.refl _ _) zn _) (OB.empty w _ zn) hg1 (by simp),ho1⟩
theorem NB.at' {w:World} {g n c:Nat} {l:List Bool} (h:NB w (.slice (some ⟨g,0,none⟩) n c) l) {i:Nat} (hi:i < n) (hl:l.length = n) {b:Bool} (hb:l[i]? = some b):w.cell? ⟨g,i,none⟩ = some (.bool b):=by
 have:=VS.at h (i:=i) (bL_at hb)
 rwa [Nat.zero_add] at this
theorem Dta.Fit.neg {d:Dta} {V:Nat} (h:d.Fit V):d.neg.Fit V:=⟨⟨h.ok.he,h.ok.hn⟩,h.n64,h.v3,h.L⟩
def negL (d:Dta) (s:Nat):List Bool:=(List.range d.n).map fun i => if i < s then !d.fin i else d.fin i
theorem zb3 (d:Dta) (s:Nat):(negL d s).length = d.n:=by simp [negL]
theorem negL_at (d:Dta) (s:Nat) (h:s < d.n):(negL d s)[s]? = some (d.fin s):=by
 unfold negL; rw [List.getElem?_map,List.getElem?_range h]; simp
theorem zrd (d:Dta) (s:Nat):(negL d s).set s (!d.fin s) = negL d (s + 1):=by
 apply List.ext_getElem?
 intro i
 rw [List.getElem?_set,zb3]
 by_cases hi:i < d.n
 ·unfold negL
  rw [List.getElem?_map,List.getElem?_map,List.getElem?_range hi]
  by_cases e:s = i
  ·subst e; rw [if_pos rfl,if_pos hi]; simp
  ·rw [if_neg e]
   simp only [Option.map_some,Option.some.injEq]
   by_cases h:i < s
   ·rw [if_pos h,if_pos (by omega)]
   ·rw [if_neg h,if_neg (by omega)]
 ·rw [List.getElem?_eq_none (by rw [zb3]; omega),List.getElem?_eq_none (by rw [zb3]; omega)]
  split <;> (try split) <;> first | rfl | omega
theorem zox (d:Dta):negL d 0 = (List.range d.n).map d.fin:=by unfold negL; simp
theorem zoy (d:Dta):negL d d.n = (List.range d.n).map d.neg.fin:=by
 unfold negL
 apply List.map_congr_left
 intro i hi
 rw [if_pos (List.mem_range.1 hi)]; rfl
theorem RetR.unfold {w:World} {r:Raw} {k:Nat} {e:Ending} {w':World} (h:RetR w r k e w'):∃ A c Af cf,e = .returned (.tuple #[.agg #[.int .i64 r.vars,.int .i64 r.empty,.slice A r.next.length c,.slice Af r.fin.length cf],.int .i64 (k:Int)]) /\ Below w.heap.size w w' /\
  TDO w' w.heap.size (.agg #[.int .i64 r.vars,.int .i64 r.empty,.slice A r.next.length c,.slice Af r.fin.length cf]) r:=by
 obtain ⟨v',rfl,h1,h2⟩:=h
 obtain ⟨A,c,Af,cf,rfl⟩:=h2.form
 exact ⟨A,c,Af,cf,rfl,h1,h2⟩
theorem zot (d:Dta) (V:Nat) (hd:d.Fit V) (v:Value) (w:World) (hv:TD w v (d.raw V)):Calls Tryz.prog 21 #[v] w (RetR w (d.neg.mini.raw V) 0):=by
 have hck:=fun W (h:Below w.heap.size w W) => zc7 (d.raw V) v W (hv.below h zn) (by have:=hd.n64; rw [(d.raw_len V).1,(d.raw_len V).2]; omega)
 rw [d.raw_check hd] at hck
 have hmi:=fun v W (h:TD W v (d.neg.raw V)) => zce d.neg V hd.neg v W h
 obtain ⟨vn,vf,rfl,hn,hf⟩:=hv
 obtain ⟨A3,c3,rfl,_⟩:=hn.open
 obtain ⟨A4,c4,rfl,_⟩:=hf.open
 rw [(d.raw_len V).1,(d.raw_len V).2] at hck ⊢
 rw [(d.raw_len V).1] at hn
 rw [(d.raw_len V).2] at hf
 have hvars:(d.raw V).vars = (V:Int):=rfl
 have hemp:(d.raw V).empty = (d.e:Int):=rfl
 rw [hvars,hemp] at hck ⊢
 have HC:=zh hck; have HMI:=zh hmi; have HNN:=zh hn; have HFF:=zh hf
 have hn64:=hd.n64
 have hpos:=hd.pos
 obtain ⟨n,hnn⟩:=zx d.n
 obtain ⟨E,hE⟩:=zx d.e
 rw [<- hnn] at HC HNN HFF hn64 hpos ⊢
 rw [<- hE] at HC ⊢
 have HN:=zh hnn; have HE:=zh hE
 clear hck hmi hn hf hvars hemp hnn hE hd
 go_enter Tryz.func21,Tryz.ntmps21
 go_upto_region 5 with (first
   | (go_at_call 36; refine (HC.out _ (by go_grown)).mono ?_; rintro e w2 ⟨rfl,hb2⟩; have X:=zia hb2; have HB2:=zh X.1; have R1:=zh X.2.1; have RR:=zh X.2.2; have y0:=X.2.1.cell; clear hb2 X)
   | (go_at_call 54; refine (zks (d.raw V).fin _ _ (HFF.out.below HB2.out zn) (by rw [(d.raw_len V).2,<- HN.out]; omega)).mono ?_; rintro e w4 ⟨v4,rfl,hb4,ho4⟩; obtain ⟨A5,c5,rfl⟩:=VO.formN (n:=n) ho4 (by rw [zb1,(d.raw_len V).2,HN.out]); have HO4:=zh ho4; have HB4:=zh hb4; have R14:=zh (R1.out.below hb4 R1.out.lt); have y1:=R14.out.cell; have y2:=R14.out.free; clear hb4 ho4 y0))
 refine zaa (fun W => Below w.heap.size w W /\ Row W (w.heap.size + 1) 30 #[.int .i64 0,.int .i64 0,.slice none 0 0,.slice none 0 0] /\ Row W w.heap.size 30 #[.int .i64 (V:Int),.int .i64 (E:Int),.slice A3 n c3,.slice A5 n c5] /\ OB W w.heap.size (.slice A5 n c5) (negL d 0))
  ⟨by have h1:=HB2.out.trans (HB4.out.mono HB2.out.size); exact h1.setCell (p:=⟨w.heap.size,3,none⟩) zn _,((RR.out.below HB4.out RR.out.lt)).far (by simp) _,R14.out.set 3 _,by rw [zox]; exact (HO4.out.mono HB2.out.size).setRow R14.out (by decide) 3 _⟩ ?_
 clear HB2 R1 RR HO4 HB4 R14 y1 y2
 rintro w5 ⟨hb,hrr,hr1,hof⟩
 have HB:=zh hb; have RR:=zh hrr; have R1:=zh hr1; have OF:=zh hof
 obtain ⟨gF,cF,csF,heF,hgF,hrF,_,_,_⟩:=VO.row hof (by rw [zb1,zb3,<- HN.out]; omega)
 rw [zb1,zb3,<- HN.out] at heF
 simp only [Value.slice.injEq,true_and] at heF
 obtain ⟨rfl,-⟩:=heF
 have y0:=hr1.cell
 clear hb hrr hr1 hof hrF
 go_wp2
 clear y0
 go_loopg [20] n (fun gk q W => ∃ s:Nat,s <= n /\ gk = n - s /\ q = .int .i64 s /\ Below w.heap.size w W /\ Row W (w.heap.size + 1) 30 #[.int .i64 0,.int .i64 0,.slice none 0 0,.slice none 0 0] /\ Row W w.heap.size 30 #[.int .i64 (V:Int),.int .i64 (E:Int),.slice A3 n c3,.slice (some ⟨gF,0,none⟩) n c5] /\ OB W w.heap.size (.slice (some ⟨gF,0,none⟩) n c5) (negL d s))
 case atStart => exact ⟨0,Nat.zero_le _,rfl,rfl,HB.out,RR.out,R1.out,OF.out⟩
 case round =>
  clear HB RR R1 OF
  obtain ⟨s,hs,rfl,rfl,hb,hrr,hr1,hof⟩:=hrel
  have HB:=zh hb; have RR:=zh hrr; have R1:=zh hr1; have OF:=zh hof
  have y0:=hr1.cell
  by_cases hlt:s < n
  ·have c0:=hof.nb.at' hlt (by rw [zb3,HN.out]) (negL_at d s (by rw [<- HN.out]; exact hlt))
   obtain ⟨g3,cap3,cs3,he3,hg3,hrow3,_,_,hcell3⟩:=VO.row hof (by rw [zb1,zb3,<- HN.out]; omega)
   rw [zb1,zb3,<- HN.out] at he3
   simp only [Value.slice.injEq,Option.some.injEq,Addr.mk.injEq,and_true,true_and] at he3
   obtain ⟨rfl,-⟩:=he3
   have f0:=hrow3.free s
   have R3:=zh hrow3
   have hset:=zeb hof (by rw [zb1,zb3,HN.out]) s (.bool (!d.fin s)) rfl
   rw [bL_set,zrd] at hset
   obtain ⟨q,hq⟩:=zx (d.fin s)
   rw [<- hq] at c0 hset
   have HSET:=zh hset
   clear hb hrr hr1 hof hg3 hrow3 hcell3 hset hq
   go_wp2
   go_roundg (n - (s + 1))
   case rel => exact ⟨s + 1,by omega,rfl,by go_num,HB.out.setCell (p:=⟨gF,s,none⟩) hgF _,RR.out.far (Row.ne RR.out R3.out (by decide)) _,R1.out.far (Row.ne R1.out R3.out (by decide)) _,HSET.out⟩
   case measure => omega
  ·have hse:s = n:=by omega
   rw [hse,HN.out,zoy] at hof
   have htd:TD wr (.agg #[.int .i64 (V:Int),.int .i64 (E:Int),.slice A3 n c3,.slice (some ⟨gF,0,none⟩) n c5]) (d.neg.raw V):=⟨_,_,by rw [HE.out]; rfl,HNN.out.below HB.out zn,by rw [HN.out]; exact hof.nb⟩
   have HTD:=zh htd
   obtain ⟨R,hR⟩:=zx (d.neg.mini.raw V)
   have HRR:=zh hR
   have HMM:=zh (HMI.out _ wr htd)
   rw [<- hR] at HMM
   clear hb hrr hr1 hof htd hse hR
   go_wp2_with (go_at_call 14; refine HMM.out.mono ?_; intro e w6 h6; obtain ⟨A6,c6,A7,c7,rfl,hb6,ht6⟩:=h6.unfold; have HT:=zh ht6; have HB6:=zh hb6; have RR6:=zh (RR.out.below hb6 RR.out.lt); have b0:=RR6.out.cell; have b1:=RR6.out.free; clear h6 hb6 ht6 y0)
   refine zah (fun W => Row W (w.heap.size + 1) 30 #[.int .i64 R.vars,.int .i64 R.empty,.slice A6 R.next.length c6,.slice A7 R.fin.length c7] /\ TDO W wr.heap.size (.agg #[.int .i64 R.vars,.int .i64 R.empty,.slice A6 R.next.length c6,.slice A7 R.fin.length c7]) R /\ Below w.heap.size w W)
    (zaz RR6.out HT.out (HB.out.trans (HB6.out.mono HB.out.size)) (by omega)) ?_
   clear b0 b1 RR6 HT
   rintro W5 ⟨r0,hT,hb⟩
   have b0:=r0.cell
   have q0:=b0 0; have q1:=b0 1; have q2:=b0 2; have q3:=b0 3
   simp only [zg] at q0 q1 q2 q3
   have HT:=zh (hT.mono HB.out.size); have HBX:=zh hb
   clear b0 r0 hT hb
   refine bodyPost_ret (v:=.tuple #[.agg #[.int .i64 R.vars,.int .i64 R.empty,.slice A6 R.next.length c6,.slice A7 R.fin.length c7],.int .i64 0]) (by simp [results,Tryz.results21,go_sem,q0,q1,q2,q3]) rfl ⟨_,rfl,HBX.out,?_⟩
   rw [<- HRR.out]; exact HT.out
end Go.Proofs.YthdabkmkgkkmcaaGreatDoor
