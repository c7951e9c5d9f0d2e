/- Part 5 of the proof; it says: lemmas and contracts. No conditions but those that each theorem states. -/
import Derived.StillTailTactics
import Derived.Test.YthdabkmkgkkmcaaGreatDoorPb01
import Derived.Test.YthdabkmkgkkmcaaGreatDoorPb03
import Derived.Test.YthdabkmkgkkmcaaGreatDoorPb04
import Derived.Test.YthdabkmkgkkmcaaGreatDoorPb05
import Derived.Test.YthdabkmkgkkmcaaGreatDoorPb06
import Derived.Test.YthdabkmkgkkmcaaGreatDoorPb07
import Derived.Test.YthdabkmkgkkmcaaGreatDoorPb08
import Derived.Test.YthdabkmkgkkmcaaGreatDoorPb09
import Derived.Test.YthdabkmkgkkmcaaGreatDoorPb10
import Derived.Test.YthdabkmkgkkmcaaGreatDoorPb11
import Derived.Test.YthdabkmkgkkmcaaGreatDoorPb12
import Derived.Test.YthdabkmkgkkmcaaGreatDoorPb13
import Derived.Test.YthdabkmkgkkmcaaGreatDoorPb14
import Derived.Test.YthdabkmkgkkmcaaGreatDoorPb15
import Derived.Test.YthdabkmkgkkmcaaGreatDoorPb19
import Derived.Test.YthdabkmkgkkmcaaGreatDoorPb20
import Derived.Test.YthdabkmkgkkmcaaGreatDoorPb02
import Derived.Test.YthdabkmkgkkmcaaGreatDoorPb16
import Derived.Test.YthdabkmkgkkmcaaGreatDoorPb17
import Derived.Test.YthdabkmkgkkmcaaGreatDoorPb18
import Derived.Test.YthdabkmkgkkmcaaGreatDoorPb21
import Derived.Test.YthdabkmkgkkmcaaGreatDoorPb22
import Derived.Test.YthdabkmkgkkmcaaGreatDoorPb23
import Derived.Test.YthdabkmkgkkmcaaGreatDoorPb24
import Derived.Test.YthdabkmkgkkmcaaGreatDoorPb25
import Derived.Test.YthdabkmkgkkmcaaGreatDoorPb26
import Derived.Test.YthdabkmkgkkmcaaGreatDoorPb27
import Derived.Test.YthdabkmkgkkmcaaGreatDoorPb28
import Derived.Test.YthdabkmkgkkmcaaGreatDoorPb29
import Derived.Test.YthdabkmkgkkmcaaGreatDoorPb30
import Derived.Test.YthdabkmkgkkmcaaGreatDoorQa01
import Derived.Test.YthdabkmkgkkmcaaGreatDoorQa02
import Derived.Test.YthdabkmkgkkmcaaGreatDoorQa03
import Derived.Test.YthdabkmkgkkmcaaGreatDoorQa04
set_option linter.unusedSimpArgs false
set_option linter.unusedVariables false
set_option maxRecDepth 100000
set_option maxHeartbeats 32000000
namespace Go.Proofs.YthdabkmkgkkmcaaGreatDoor
open Go.RowKit
theorem run1 (W:World) (gn go gr n:Nat) (cap:Nat) (c:Int) (x:Int) (hc0:c < 0 \/ c <= n) (hrn:W.cell? ⟨gn,0,none⟩ = some (.int .i64 (n:Int))) (hro:W.cell? ⟨go,0,none⟩ = some (.slice (some ⟨gr,0,none⟩) (n + 1) cap)) (hx:W.cell? ⟨gr,kidN n c,none⟩ = some (.int .i64 x)) :
  Calls Tryz.prog 107 #[.int .i64 c,.pointer (some ⟨gn,0,none⟩),.pointer (some ⟨go,0,none⟩)] W fun e w' => e = .returned (.int .i64 x) /\ w' = W:=by
 unfold kidN at hx
 by_cases hc:c < 0
 ·rw [if_pos hc] at hx
  go_enter Tryz.func107,Tryz.ntmps107
  go_wp2
  go_returns
  exact ⟨rfl,rfl⟩
 ·rw [if_neg hc] at hx
  obtain ⟨k,rfl⟩:∃ k:Nat,c = k:=⟨c.toNat,by omega⟩
  rw [Int.toNat_natCast] at hx
  have hk:k < n + 1:=by omega
  have h0:¬ ((k:Int) < 0):=by omega
  clear hc hc0
  go_enter Tryz.func107,Tryz.ntmps107
  go_wp2
  go_returns
  exact ⟨rfl,rfl⟩
def StL (d:Dta) (t:List Lf) (k:Nat) (l:List Int):Prop:=l.length = t.length + 1 /\ ∀ j,k <= j -> j <= t.length -> l[j]? = some (stN d t j:Int)
theorem StL.set {d:Dta} {t:List Lf} {k:Nat} {l:List Int} (h:StL d t (k + 1) l) (hk:k < t.length):StL d t k (l.set k (stN d t k:Int)):=by
 refine ⟨by rw [List.length_set]; exact h.1,fun j hj hl => ?_⟩
 rw [List.getElem?_set]
 by_cases e:k = j
 ·subst e
  rw [if_pos rfl,if_pos (by rw [h.1]; omega)]
 ·rw [if_neg e]; exact h.2 j (by omega) hl
theorem StL.full {d:Dta} {t:List Lf} {l:List Int} (h:StL d t 0 l):l = oI ((List.range (t.length + 1)).map (stN d t)):=by
 apply List.ext_getElem?
 intro j
 by_cases hj:j <= t.length
 ·rw [h.2 j (by omega) hj,oI_at (a:=stN d t j) (by rw [List.getElem?_map,List.getElem?_range (by omega)]; rfl)]
 ·rw [List.getElem?_eq_none (by rw [h.1]; omega),List.getElem?_eq_none (by rw [zap]; simp; omega)]
structure RunS (w:World) (V n E:Nat) (d:Dta) (t:List Lf) (vn vf:Value) (k:Nat) (W:World):Prop where
 below:Below w.heap.size w W
 rd:Row W w.heap.size 30 #[.int .i64 (V:Int),.int .i64 (E:Int),vn,vf]
 hn:Row W (w.heap.size + 1) 3 #[.int .i64 (n:Int)]
 ho:Row W (w.heap.size + 1 + 1 + 1) 36 #[.slice (some ⟨w.heap.size + 1 + 1,0,none⟩) (n + 1) (n + 1)]
 hl:∃ l,VO 3 W w.heap.size (.slice (some ⟨w.heap.size + 1 + 1,0,none⟩) (n + 1) (n + 1)) (iL l) /\ StL d t k l
theorem RunS.set {w W:World} {V n E k j k':Nat} {d:Dta} {t:List Lf} {vn vf:Value} (h:RunS w V n E d t vn vf k W) (hn:n = t.length) (x:Int) (hst:∀ l,StL d t k l -> StL d t k' (l.set j x)):RunS w V n E d t vn vf k' (W.setCell ⟨w.heap.size + 1 + 1,j,none⟩ (.int .i64 x)):=by
 obtain ⟨l,h1,h2⟩:=h.hl
 have h3:=zeb h1 (by rw [zad,h2.1,hn]) j (.int .i64 x) rfl
 rw [iL_set] at h3
 exact ⟨h.below.setCell (p:=⟨w.heap.size + 1 + 1,j,none⟩) (by simp; omega) _,h.rd.far (by simp; omega) _,h.hn.far (by simp) _,h.ho.far (by simp) _,_,h3,hst l h2⟩
theorem RunS.drew {w W:World} {V n E k:Nat} {d:Dta} {t:List Lf} {vn vf:Value} (h:RunS w V n E d t vn vf k W):RunS w V n E d t vn vf k W.drew :=
 ⟨h.below.drew,h.rd,h.hn,h.ho,h.hl⟩
theorem run_ok (d:Dta) (V:Nat) (hd:d.Fit V) (va u:Value) (t:List Lf) (w:World) (hva:TD w va (d.raw V)) (hu:TS w u t) (hf:zae t = true) (hlab:∀ m ∈ t,m.label.toNat < d.L) (hlb:∀ m ∈ t,0 <= m.label) :
  Calls Tryz.prog 67 #[va,u] w fun e w' => ∃ v,e = .returned v /\ Below w.heap.size w w' /\ O1 w' w.heap.size v (oI ((List.range (t.length + 1)).map (stN d t))):=by
 have h31:=(zdh hf).1
 obtain ⟨vn,vf,rfl,hn,hff⟩:=hva
 have hvars:(d.raw V).vars = (V:Int):=rfl
 have hemp:(d.raw V).empty = (d.e:Int):=rfl
 rw [hvars,hemp]
 obtain ⟨b3,o3,c3,hN⟩:=(show N3 w vn (nx3 d.n d.L d.nx) from hn).nx hd.pos hd.L8.1
 obtain rfl:=hN.form
 obtain ⟨A2,c2,rfl,_⟩:=hff.open
 rw [(d.raw_len V).2]
 obtain ⟨_,Au,cu,rfl,hu1,hu2,hu3⟩:=hu
 obtain ⟨n,hnn⟩:=zx t.length
 rw [<- hnn] at hu1 h31 hu3 ⊢
 have hmk:∀ w,(Instr.makeSlice 36 (.int .i64 ((n:Int) + 1)) (.int .i64 ((n:Int) + 1))).run Tryz.prog w = .ok (.slice (some ⟨w.heap.size,0,none⟩) (n + 1) (n + 1)) (w.alloc (.cells (List.replicate (n + 1) (.int .i64 0)).toArray 3)):=fun w => by
  have h:=zbm eI (n + 1) (by omega) w
  exact h
 have hL8:=hd.L8.2
 have hn64:=hd.n64
 have HNN:=zh hnn; have HF:=zh hf; have HD:=zh hd.ok; have HLAB:=zh hlab; have HLB:=zh hlb
 have HU3:=zh hu3; have HN3:=zh hN.at3
 have HST:=zh (ztr d t)
 rw [<- hnn] at HST
 clear hn hff hu3 hnn hf hlab hlb hvars hemp hN hd
 obtain ⟨N,hNN⟩:=zx d.n
 obtain ⟨L,hLL⟩:=zx d.L
 obtain ⟨E,hE⟩:=zx d.e
 rw [<- hE] at HST
 rw [<- hNN,<- hLL] at HN3
 rw [<- hLL] at HLAB hL8
 rw [<- hNN] at hn64
 rw [<- hNN,<- hE]
 have HNE:=zh hNN; have HLE:=zh hLL
 clear hNN hE hLL
 go_enter Tryz.func67,Tryz.ntmps67
 go_upto_region 3 with fail
 refine zaa (fun W => RunS w V n E d t (.slice (some ⟨b3,o3,none⟩) N c3) (.slice A2 N c2) (n + 1) W)
  ⟨by go_grown,(((Row.new _ _ _).alloc _).alloc _).alloc _,((Row.lit (by simp)).alloc _).alloc _,Row.lit (by simp),⟨List.replicate (n + 1) 0,?_,⟨by rw [List.length_replicate,HNN.out],fun j h1 h2 => by have:=HNN.out; omega⟩⟩⟩ ?_
 ·have h:=VO.lit (E:=3) (w:=(w.alloc (.cells #[.int .i64 (V:Int),.int .i64 (E:Int),.slice (some ⟨b3,o3,none⟩) N c3,.slice A2 N c2] 30)).alloc (.cells #[.int .i64 (n:Int)] 3)) (n:=n + 1) (List.replicate (n + 1) (.int .i64 0)) (by simp) (by omega) (by intro u hu; rw [List.eq_of_mem_replicate hu]; rfl)
  simp only [World.size_alloc] at h
  have e:iL (List.replicate (n + 1) 0) = List.replicate (n + 1) (.int .i64 0):=by simp [iL]
  rw [e]
  rw [List.toArray_replicate] at h
  exact (h.mono (by omega)).allocd _
 clear hmk
 rintro W hs
 have HS:=zh hs
 obtain ⟨l0,hv0,hst0⟩:=hs.hl
 obtain ⟨⟨u0,hu0⟩,hf0,_,hg0⟩:=hv0.spot (j:=n) (by rw [zad,hst0.1,HNN.out]) (by omega)
 have y0:=hs.rd.cell; have y1:=hs.hn.cell; have y2:=hs.ho.cell
 have z1:=fun j u => (hs.hn.far (p:=⟨w.heap.size + 1 + 1,j,none⟩) (by simp) u).cell
 clear hv0 hst0 hs l0
 go_wp2
 refine zaa (fun W => RunS w V n E d t (.slice (some ⟨b3,o3,none⟩) N c3) (.slice A2 N c2) n W)
  (HS.out.set HNN.out (E:Int) (fun l hl => ⟨by rw [List.length_set]; exact hl.1,fun j h1 h2 => by
   have:j = n:=by have:=HNN.out; omega
   subst this
   rw [List.getElem?_set,if_pos rfl,if_pos (by rw [hl.1,<- HNN.out]; omega),HST.out]⟩)) ?_
 clear HS hu0 hf0 y0 y1 y2 z1 hg0
 rintro W2 hs
 have HS:=zh hs
 clear hs
 go_loopg [8] (n + 1) (fun gk q wr => ∃ (k:Nat) (z:Int),k <= n /\ gk = k + 1 /\ z + 1 = (k:Int) /\ q = .int .i64 z /\ RunS w V n E d t (.slice (some ⟨b3,o3,none⟩) N c3) (.slice A2 N c2) k wr)
 case atStart => exact ⟨n,(n:Int) - 1,zn,rfl,by omega,by go_num,HS.out⟩
 case round =>
  clear HS
  obtain ⟨k,z,hk,rfl,hz,rfl,hs⟩:=hrel
  have HS:=zh hs
  obtain ⟨l,hv,hst⟩:=hs.hl
  have y2:=hs.ho.cell
  have HV:=zh hv; have HSL:=zh hst
  clear hv hst hs
  by_cases hlt:0 <= z
  ·obtain ⟨i,rfl⟩:∃ i:Nat,z = i:=⟨z.toNat,by omega⟩
   obtain rfl:k = i + 1:=by omega
   obtain ⟨m,hm⟩:∃ m,t[i]? = some m:=⟨t[i]'(by rw [<- HNN.out]; omega),List.getElem?_eq_getElem _⟩
   obtain ⟨b,o,rfl,hbl,hL3⟩:=HU3.out (by omega)
   obtain ⟨c0,c1,c2'⟩:=hL3 i m hm
   rw [<- HS.out.below.cell (p:=⟨b,_,none⟩) hbl] at c0 c1 c2'
   have hstep:=zus d HF.out hm
   rw [<- HNN.out] at hstep
   obtain ⟨s1,s2,s3,s4,s5⟩:=hstep
   have hlabm:=HLAB.out m (List.mem_of_getElem? hm)
   have hlbm:=HLB.out m (List.mem_of_getElem? hm)
   obtain ⟨x,hx⟩:=zx m.label.toNat
   have hxl:m.label = (x:Int):=by omega
   have ha:=zvm HD.out HF.out (fun m hm => by rw [<- HLE.out]; exact HLAB.out m hm) _ (kidN n m.left) zn (by rw [<- HNN.out]; exact s2)
   have hb:=zvm HD.out HF.out (fun m hm => by rw [<- HLE.out]; exact HLAB.out m hm) _ (kidN n m.right) zn (by rw [<- HNN.out]; exact s4)
   rw [<- HNE.out] at ha hb
   have la:=HSL.out.2 (kidN n m.left) (by omega) (by rw [<- HNN.out]; exact s2)
   have lb:=HSL.out.2 (kidN n m.right) (by omega) (by rw [<- HNN.out]; exact s4)
   rw [<- hx] at s5 hlabm
   obtain ⟨a,haa⟩:=zx (stN d t (kidN n m.left))
   obtain ⟨bb,hbb⟩:=zx (stN d t (kidN n m.right))
   rw [<- haa] at s5 ha la
   rw [<- hbb] at s5 hb lb
   obtain ⟨x2,o2,k2,x1,o1,k1,h1,h2,h3,h4,h5,h6,h7,h8⟩:=HN3.out a bb x ha hb hlabm
   rw [<- HS.out.below.cell (p:=⟨b3,_,none⟩) h1] at h2
   rw [<- HS.out.below.cell (p:=⟨x2,_,none⟩) h4] at h5
   rw [<- HS.out.below.cell (p:=⟨x1,_,none⟩) h7] at h8
   rw [<- s5] at h8
   obtain ⟨⟨u0,hu0⟩,hf0,_,hg0⟩:=HV.out.spot (j:=i) (by rw [zad,HSL.out.1,HNN.out]) (by omega)
   have hcl:∀ j y,l[j]? = some (y:Int) -> wr.cell? ⟨w.heap.size + 1 + 1,j,none⟩ = some (.int .i64 y):=fun j y hy => by
    obtain ⟨g,cap,cs,he,_,_,_,_,hcell⟩:=HV.out.row (by rw [zad,HSL.out.1]; omega)
    simp only [Value.slice.injEq,Option.some.injEq,Addr.mk.injEq,and_true] at he
    obtain ⟨rfl,_,_⟩:=he
    exact hcell j _ (iL_at hy)
   have hR1:=run1 wr.drew (w.heap.size + 1) (w.heap.size + 1 + 1 + 1) (w.heap.size + 1 + 1) n (n + 1) m.left a (by unfold kidN at s2; split at s2 <;> omega) (HS.out.hn.cell 0) (HS.out.ho.cell 0) (hcl _ _ la)
   have hR2:=run1 wr.drew (w.heap.size + 1) (w.heap.size + 1 + 1 + 1) (w.heap.size + 1 + 1) n (n + 1) m.right bb (by unfold kidN at s4; split at s4 <;> omega) (HS.out.hn.cell 0) (HS.out.ho.cell 0) (hcl _ _ lb)
   have y0:=HS.out.rd.cell
   obtain ⟨y,hy⟩:=zx (stN d t i)
   have HY:=zh hy
   rw [<- hy] at h8
   obtain ⟨cl,hcl'⟩:=zx m.left
   obtain ⟨cr,hcr'⟩:=zx m.right
   rw [hxl] at c0
   rw [<- hcl'] at c1 hR1
   rw [<- hcr'] at c2' hR2
   have HR1:=zh hR1; have HR2:=zh hR2
   clear hm hL3 s1 s2 s3 s4 s5 hx hxl la lb haa hbb hcl hR1 hR2 hy hcl' hcr' hlbm
   have hin:i < n:=by omega
   have hin1:(i:Int) < (n:Int) + 1:=by omega
   go_upto_region 8 with fail
   go_still_tail 30,(by kernel_rfl)
   still_call HR1.out
   repeat still_step
   still_call HR2.out
   repeat still_step
   refine wpStill_nil ?_
   change wpList _ _ _ _ _ wr.drew
   have HSD:=zh (HS.out.drew)
   have hu1':wr.drew.cell? ⟨w.heap.size + 1 + 1,i,none⟩ = some u0:=hu0
   have hf1':wr.drew.frozen? ⟨w.heap.size + 1 + 1,i,none⟩ = false:=hf0
   clear hu0 hf0 y0 y2 c0 c1 c2' h2 h5 h8 HR1 HR2 HS
   generalize wr.drew = W3 at *
   go_wp2
   go_roundg (i + 1)
   case rel =>
    refine ⟨i,(i:Int) - 1,by omega,rfl,by omega,by go_num,HSD.out.set HNN.out (y:Int) (fun l hl => ?_)⟩
    rw [HY.out]
    exact hl.set (by have:=HNN.out; omega)
   case measure => omega
  ·obtain rfl:k = 0:=by omega
   have hfull:=HSL.out.full
   have ho:=HV.out
   rw [hfull,<- HNN.out] at ho
   have HO:=zh ho
   clear ho hfull
   go_wp2
   go_returns
   exact ⟨.slice (some ⟨w.heap.size + 1 + 1,0,none⟩) (n + 1) (n + 1),rfl,HS.out.below,by have h:=HO.out; rw [List.range_succ,List.map_append] at h; exact h⟩
theorem both_ok (d:Dta) (V:Nat) (hd:d.Fit V) (va u:Value) (t:List Lf) (w:World) (hva:TD w va (d.raw V)) (hu:TS w u t) :
  Calls Tryz.prog 66 #[va,u] w fun e w' => e = .returned (.int .i64 (zsf t V)) /\ Below w.heap.size w w':=by
 have hck:=fun W (h:Below w.heap.size w W) => zc7 (d.raw V) va W (hva.below h zn) (by have:=hd.n64; rw [(d.raw_len V).1,(d.raw_len V).2]; omega)
 rw [d.raw_check hd] at hck
 have htc:=fun W (h:Below w.heap.size w W) => zs4 t u V W (hu.below h zn)
 obtain ⟨A1,c1,A2,c2,rfl⟩:=hva.form
 have hvars:(d.raw V).vars = (V:Int):=rfl
 rw [hvars] at hck ⊢
 obtain ⟨_,Au,cu,rfl,_⟩:=hu
 obtain ⟨k,hk⟩:=zx (zsf t V)
 rw [<- hk] at htc ⊢
 obtain ⟨n,hnn⟩:=zx ((d.raw V).next.length)
 obtain ⟨m,hmm⟩:=zx ((d.raw V).fin.length)
 obtain ⟨E,hE⟩:=zx ((d.raw V).empty)
 rw [<- hnn,<- hmm,<- hE] at hck ⊢
 obtain ⟨tl,htl⟩:=zx t.length
 rw [<- htl] at htc ⊢
 have HCK:=zh hck; have HTC:=zh htc
 clear hck htc hva hk hnn hmm hE hd htl
 go_enter Tryz.func66,Tryz.ntmps66
 go_upto_region 1 with fail
 refine zaa (fun W => Below w.heap.size w W /\ Row W w.heap.size 30 #[.int .i64 (V:Int),.int .i64 E,.slice A1 n c1,.slice A2 m c2]) ⟨by go_grown,Row.new _ _ _⟩ ?_
 rintro W ⟨hb,r1⟩
 have y0:=r1.cell
 have HB:=zh hb; have R1:=zh r1
 clear hb r1
 go_wp2_with (first
  | (go_at_call 36; refine (HCK.out _ HB.out).mono ?_; rintro e w2 ⟨rfl,hb2⟩; have HB2:=zh (HB.out.trans (hb2.mono HB.out.size)); have y1:=(R1.out.below hb2 R1.out.lt).cell; clear hb2 y0)
  | (go_at_call 58; refine (HTC.out _ HB2.out).mono ?_; rintro e w3 ⟨rfl,hb3⟩; have HB3:=zh (HB2.out.trans (hb3.mono HB2.out.size)); clear hb3))
 go_returns
 exact ⟨rfl,HB3.out⟩
def accR (d:Dta) (V:Nat) (t:List Lf):Bool × Int:=if zsf t V = 0 then (d.fin (d.run (btOf t)),0) else (false,zsf t V)
theorem zvi (d:Dta) (V:Nat) (hd:d.Fit V) (va u:Value) (t:List Lf) (w:World) (hva:TD w va (d.raw V)) (hu:TS w u t) (hlb:∀ m ∈ t,0 <= m.label) :
  Calls Tryz.prog 28 #[va,u] w fun e w' => e = .returned (.tuple #[.bool (accR d V t).1,.int .i64 (accR d V t).2]) /\ Below w.heap.size w w':=by
 have hbo:=fun W (h:Below w.heap.size w W) => both_ok d V hd va u t W (hva.below h zn) (hu.below h zn)
 have hrn:=fun (hc:zsf t V = 0) W (h:Below w.heap.size w W) => run_ok d V hd va u t W (hva.below h zn) (hu.below h zn) (zsm hd.v3 hlb hc).1 (fun m hm => by rw [hd.L]; exact (zsm hd.v3 hlb hc).2.2 m hm) hlb
 have hsl:=fun (hc:zsf t V = 0) => zvm hd.ok (zsm hd.v3 hlb hc).1 (fun m hm => by rw [hd.L]; exact (zsm hd.v3 hlb hc).2.2 m hm) _ 0 zn (Nat.zero_le _)
 obtain ⟨vn,vf,rfl,hn,hf⟩:=hva
 obtain ⟨bk,ok,ck,rfl,hk1,hbk,hk2⟩:=(show NB w vf ((List.range d.n).map d.fin) from hf).at hd.pos
 obtain ⟨A1,c1,rfl,_⟩:=hn.open
 rw [(d.raw_len V).1] at hbo hrn ⊢
 have hvars:(d.raw V).vars = (V:Int):=rfl
 have hemp:(d.raw V).empty = (d.e:Int):=rfl
 rw [hvars,hemp] at hbo hrn ⊢
 obtain ⟨_,Au,cu,rfl,_⟩:=hu
 obtain ⟨k,hk⟩:=zx (zsf t V)
 rw [<- hk] at hbo hrn hsl
 have HAC:=zh (show accR d V t = if k = 0 then (d.fin (d.run (btOf t)),0) else (false,k) by rw [hk]; rfl)
 obtain ⟨R,hR⟩:=zx (accR d V t)
 rw [<- hR] at HAC ⊢
 obtain ⟨tl,htl⟩:=zx t.length
 rw [<- htl] at hbo hrn ⊢
 obtain ⟨n,hnn⟩:=zx d.n
 obtain ⟨E,hE⟩:=zx d.e
 rw [<- hnn,<- hE] at hbo hrn ⊢
 rw [<- hnn] at hsl hk1 hk2
 have HBO:=zh hbo; have HRN:=zh hrn; have HSL:=zh hsl; have HK2:=zh hk2; have HTL:=zh htl
 have hn64:n <= 64:=by rw [hnn]; exact hd.n64
 clear hbo hrn hsl hn hf hvars hemp hk hR hnn hE hd hk2 hlb htl
 by_cases hc:k = 0
 ·rw [if_pos hc] at HAC
  have HRUN:=zh (HRN.out hc)
  have hs0:=HSL.out hc
  obtain ⟨s,hs⟩:=zx (stN d t 0)
  rw [<- hs] at hs0
  have hcf:=HK2.out s hs0
  have HS:=zh hs
  have HS2:=zh (show s = d.run (btOf t) from hs)
  obtain ⟨q,hq⟩:=zx (d.fin s)
  have HQ:=zh hq
  rw [<- hq] at hcf
  subst hc
  clear HRN HSL HK2 hs hq
  go_enter Tryz.func28,Tryz.ntmps28
  go_upto_region 1 with fail
  refine zaa (fun W => Below w.heap.size w W /\ Row W w.heap.size 30 #[.int .i64 (V:Int),.int .i64 (E:Int),.slice A1 n c1,.slice (some ⟨bk,ok,none⟩) n ck]) ⟨by go_grown,Row.new _ _ _⟩ ?_
  rintro W ⟨hb,r1⟩
  have y0:=r1.cell
  have HB:=zh hb; have R1:=zh r1
  clear hb r1
  go_upto_region 4 with (go_at_call 66; refine (HBO.out _ HB.out).mono ?_; rintro e w2 ⟨rfl,hb2⟩; have HB2:=zh (HB.out.trans (hb2.mono HB.out.size)); have R2:=zh (R1.out.below hb2 R1.out.lt); clear hb2 y0)
  have y0:=R2.out.cell
  have hcf2:=hcf
  rw [<- HB2.out.cell (p:=⟨bk,_,none⟩) hbk] at hcf2
  have hlt:=R2.out.lt
  refine RgA.start (c:=7) (S:=(fun X => X.cell? ⟨w.heap.size,0,none⟩ = some (.int .i64 (V:Int)) /\ X.cell? ⟨w.heap.size,1,none⟩ = some (.int .i64 (E:Int)) /\ X.cell? ⟨w.heap.size,2,none⟩ = some (.slice A1 n c1) /\ X.cell? ⟨w.heap.size,3,none⟩ = some (.slice (some ⟨bk,ok,none⟩) n ck))) (by kernel_rfl) ⟨y0 0,y0 1,y0 2,y0 3⟩ ?_
  refine RgA.take0 (i:=0) (oi:=⟨some 13,_,_,_,_,_⟩) (v:=?_) rfl (by kernel_rfl) (by kernel_rfl) (by kernel_rfl) (fun _ _ _ h => h) rfl (Or.inl ⟨by rfl,?_⟩) ?_
  rotate_left 1
  ·(intro w hSw; (first | (go_simp; done) | (go_simp; with_reducible rfl)))
  try simp only [zp]
  refine RgA.take (i:=1) (oi:=⟨some 14,_,_,_,_,_⟩) (v:=?_) rfl (by kernel_rfl) (by kernel_rfl) (by kernel_rfl) (fun _ _ _ h => h) [1] (by kernel_rfl) (by rfl) rfl (Or.inl ⟨by rfl,?_⟩) ?_
  rotate_left 1
  ·(rintro w ⟨s0,s1,s2,s3⟩; (first | (go_simp; done) | (go_simp; with_reducible rfl)))
  try simp only [zp]
  refine RgA.take (i:=2) (oi:=⟨some 15,_,_,_,_,_⟩) (v:=?_) rfl (by kernel_rfl) (by kernel_rfl) (by kernel_rfl) (fun _ _ _ h => h) [6,5,4,2] (by kernel_rfl) (by rfl) rfl (Or.inl ⟨by rfl,?_⟩) ?_
  rotate_left 1
  ·(rintro w ⟨s0,s1,s2,s3⟩; (first | (go_simp; done) | (go_simp; with_reducible rfl)))
  try simp only [zp]
  refine RgA.take0 (i:=3) (oi:=⟨some 16,_,_,_,_,_⟩) (v:=?_) rfl (by kernel_rfl) (by kernel_rfl) (by kernel_rfl) (fun _ _ _ h => h) rfl (Or.inl ⟨by rfl,?_⟩) ?_
  rotate_left 1
  ·(intro w hSw; (first | (go_simp; done) | (go_simp; with_reducible rfl)))
  try simp only [zp]
  refine RgA.one (i:=4) (by kernel_rfl) rfl (fun K hK => ?_)
  go_simp
  (go_at_call 67; refine (HRUN.out _ HB2.out.drew).mono ?_; rintro e w3 ⟨v3,rfl,hb3,ho3⟩)
  have HB3:Hid (Below w2.heap.size w2 w3):=⟨hb3.os,hb3.tape,hb3.output,hb3.size,hb3.block⟩
  obtain ⟨g3,cap3,cs3,rfl,_,hrow3,hc31,hc32,hcell3⟩:=VO.row ho3 (by rw [zad,zap]; simp)
  have hcs:=hcell3 0 (.int .i64 (s:Int)) (by rw [HS.out]; exact iL_at (oI_at (by rw [List.getElem?_map,List.getElem?_range (by omega)]; rfl)))
  rw [zad,zap,List.length_map,List.length_range] at hc31 ⊢
  have htl:(0:Int) < (tl:Int) + 1:=by omega
  have HC3:=zh (show w3.cell? ⟨w.heap.size,0,none⟩ = some (.int .i64 (V:Int)) /\ w3.cell? ⟨w.heap.size,1,none⟩ = some (.int .i64 (E:Int)) /\ w3.cell? ⟨w.heap.size,2,none⟩ = some (.slice A1 n c1) /\ w3.cell? ⟨w.heap.size,3,none⟩ = some (.slice (some ⟨bk,ok,none⟩) n ck) from ⟨(R2.out.below HB3.out hlt).cell 0,(R2.out.below HB3.out hlt).cell 1,(R2.out.below HB3.out hlt).cell 2,(R2.out.below HB3.out hlt).cell 3⟩)
  have hcf3:=(HB3.out.cell (p:=⟨bk,_,none⟩) (Nat.lt_of_lt_of_le hbk HB2.out.size)).trans hcf2
  clear hb3 ho3 hcell3 hrow3
  refine hK.out _ _ (fun _ => HC3.out) ?_
  clear hK K
  try simp only [zp]
  refine RgA.one (i:=5) (by kernel_rfl) rfl (fun K hK => ?_)
  go_simp
  refine hK.out _ _ (fun _ => HC3.out) ?_
  clear hK K
  try simp only [zp]
  refine RgA.one (i:=6) (by kernel_rfl) rfl (fun K hK => ?_)
  go_simp
  refine hK.out _ _ (fun _ => HC3.out) ?_
  clear hK K
  try simp only [zp]
  refine RgA.one (i:=7) (by kernel_rfl) rfl (fun K hK => ?_)
  go_simp
  refine hK.out _ _ (fun hc => by simp at hc) ?_
  clear hK K
  try simp only [zp]
  refine RgA.one (i:=8) (by kernel_rfl) rfl (fun K hK => ?_)
  go_simp
  refine hK.out _ _ (fun hc => by simp at hc) ?_
  clear hK K
  try simp only [zp]
  refine RgA.one (i:=9) (by kernel_rfl) rfl (fun K hK => ?_)
  go_simp
  refine hK.out _ _ (fun hc => by simp at hc) ?_
  clear hK K
  try simp only [zp]
  refine RgA.one (i:=10) (by kernel_rfl) rfl (fun K hK => ?_)
  go_simp
  refine hK.out _ _ (fun hc => by simp at hc) ?_
  clear hK K
  try simp only [zp]
  refine RgA.done (by kernel_rfl) ?_
  go_wp2
  go_returns
  exact ⟨by rw [HAC.out,<- HS2.out,<- HQ.out]; rfl,HB2.out.trans (HB3.out.mono HB2.out.size)⟩
 ·rw [if_neg hc] at HAC
  have h0:(k != 0) = true:=by rw [bne_iff_ne]; exact hc
  have HK:=zh hc
  clear HRN HSL HK2 hc
  go_enter Tryz.func28,Tryz.ntmps28
  go_upto_region 1 with fail
  refine zaa (fun W => Below w.heap.size w W /\ Row W w.heap.size 30 #[.int .i64 (V:Int),.int .i64 (E:Int),.slice A1 n c1,.slice (some ⟨bk,ok,none⟩) n ck]) ⟨by go_grown,Row.new _ _ _⟩ ?_
  rintro W ⟨hb,r1⟩
  have y0:=r1.cell
  have HB:=zh hb
  clear hb r1
  go_wp2_with (go_at_call 66; refine (HBO.out _ HB.out).mono ?_; rintro e w2 ⟨rfl,hb2⟩; have HB2:=zh (HB.out.trans (hb2.mono HB.out.size)); clear hb2 y0)
  go_returns
  exact ⟨by rw [HAC.out]; rfl,HB2.out⟩
theorem zuq (vars:Int) (known:Int -> Bool) (m:Mk) (s:Nat):zam vars known m s ≠ 1:=by
 unfold zam
 repeat' split
 all_goals omega
theorem ztk (vars:Int) (known:Int -> Bool):∀ (f:List Mk) (ss:List Nat),zav vars known f ss ≠ 1
 | [],_ => by simp [zav]
 | _ :: _,[] => by simp [zav]
 | m :: f,s :: ss => by
  unfold zav
  split
  ·exact ztk vars known f ss
  ·exact zuq vars known m s
theorem zvh (f:List Mk) (vars:Int) (b:Bool):zai f vars b ≠ 1:=by
 unfold zai chk
 repeat' split
 all_goals first | omega | exact ztk _ _ _ _
theorem zwe (f:List Mk):(compS f 3 64).2 ≠ 1:=by
 unfold compS
 split
 ·exact zvh f 3 true
 ·rw [if_neg (by omega)]
  split
  ·show (0:Int) ≠ 1; decide
  ·show (10:Int) ≠ 1; decide
theorem zv3 {f:List Mk} {vars:Int} {t:List Lf} (h:(zc2 f vars t).2 ≠ 0):(zc2 f vars t).1 = false:=by
 unfold zc2 evalS at h ⊢
 split
 ·rfl
 ·rename_i h1
  rw [if_neg h1] at h
  split
  ·rfl
  ·rename_i h2
   rw [if_neg h2] at h
   split
   ·rfl
   ·rename_i h3
    rw [if_neg h3] at h
    exact absurd rfl h
theorem zwg {L:Nat}:∀ (T:Bt) (p:Nat),(∀ m ∈ T.enc p,0 <= m.label /\ m.label.toNat < L) -> T.lb L
 | .nil,_,_ => trivial
 | .node lab l r,p,h => ⟨h ⟨lab,l.at (p + 1),r.at (p + 1 + l.size)⟩ (by simp [Bt.enc]),zwg l (p + 1) (fun m hm => h m (by simp [Bt.enc,hm])),zwg r (p + 1 + l.size) (fun m hm => h m (by simp [Bt.enc,hm]))⟩
theorem agr_ok {x:List Mk} {tl:List Lf} (h0:∀ m ∈ tl,0 <= m.label) {t:Tr} {d:Dta} (ck:CkT x 3 t) (cc:zai x (3:Nat) true = 0) (hd:cmpT 3 64 t = some d) (hm:(zc2 x 3 tl).2 = 0) :
  zae tl = true /\ tl = (btOf tl).enc 0 /\ (btOf tl).size <= 31 /\ (btOf tl).lb (2 ^ 3) /\ zsf tl (3:Nat) = 0 /\ (zc2 x 3 tl).1 = accS d (btOf tl):=by
 have hct:zsf tl ((3:Nat):Int) = 0:=by
  unfold zc2 at hm
  rw [if_neg (by rw [show zai x 3 true = 0 from cc]; simp)] at hm
  by_cases h:zsf tl 3 ≠ 0
  ·rw [if_pos h] at hm; exact absurd hm h
  ·simpa using h
 obtain ⟨hf,h31,hlab⟩:=zsm (V:=3) (by omega) h0 hct
 obtain ⟨_,hsz,_,he⟩:=zdh hf
 have hlb:(btOf tl).lb (2 ^ 3):=zwg _ 0 fun m hm => by rw [<- he] at hm; exact ⟨h0 m hm,hlab m hm⟩
 refine ⟨hf,he,by omega,hlb,hct,?_⟩
 have hto:zso x = t:=by rw [ck.enc]; exact zt6 t ck.ok
 have hval:(zc2 x 3 tl).1 = zb7 (zc1 tl) t (zsu (zsb tl)):=by
  unfold zc2 evalS at hm ⊢
  rw [if_neg (by rw [show zai x 3 true = 0 from cc]; simp),if_neg (by rw [show zsf tl 3 = 0 from hct]; simp)] at hm ⊢
  rw [hto] at hm ⊢
  split at hm
  ·exact absurd hm (by decide)
  ·rename_i h
   rw [if_neg h]
 have hwf:WfT 3 t:=by
  obtain ⟨_,_,h3⟩:=(zca x 3).1 cc
  exact wfT_of t ck.ok 0 fun m hm => h3 m (by rw [ck.enc]; exact hm)
 have h1:=cmpT_lg (V:=3) (M:=64) (by omega) (by omega) t ck.v d hd (btOf tl) hlb
 have h2:=zvc (V:=3) (by omega) hwf (T:=btOf tl) (by omega) hlb
 rw [<- he] at h2
 rw [hval,Bool.eq_iff_iff,h1,h2]
end Go.Proofs.YthdabkmkgkkmcaaGreatDoor
