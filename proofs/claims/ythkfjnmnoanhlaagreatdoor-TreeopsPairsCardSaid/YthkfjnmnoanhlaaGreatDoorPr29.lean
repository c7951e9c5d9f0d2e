/- Part 29 of the proof; it says: lemmas and contracts. No conditions but those that each theorem states. -/
import Derived.Deep.RegionHeld3
import Derived.BigRegion
import Derived.Deep.RegionLaw
import Derived.Test.YthkfjnmnoanhlaaGreatDoorPr01
import Derived.Test.YthkfjnmnoanhlaaGreatDoorPr06
import Derived.Test.YthkfjnmnoanhlaaGreatDoorPr09
import Derived.Test.YthkfjnmnoanhlaaGreatDoorPr27
import Derived.Test.YthkfjnmnoanhlaaGreatDoorPr28
set_option linter.unusedSimpArgs false
set_option linter.unusedVariables false
namespace Go.Proofs.YthkfjnmnoanhlaaGreatDoor
open Go.RowKit
def zeg (P:Nat -> Nat -> Bool) (s t:Nat):Nat:=((List.range' t (s - t)).find? (fun t => P s t)).getD s
theorem zf7 (P:Nat -> Nat -> Bool) (s:Nat):zeg P s 0 = zbn P s:=by unfold zeg zbn; rw [Nat.sub_zero,List.range_eq_range']
theorem zg7 (P:Nat -> Nat -> Bool) (s:Nat):zeg P s s = s:=by unfold zeg; rw [Nat.sub_self]; rfl
theorem zf8 (P:Nat -> Nat -> Bool) {s t:Nat} (h:t < s):zeg P s t = if P s t = true then t else zeg P s (t + 1):=by
 unfold zeg
 obtain ⟨m,hm⟩:∃ m,s - t = m + 1:=⟨s - t - 1,by omega⟩
 rw [hm,List.range'_succ,show s - (t + 1) = m by omega,List.find?_cons]
 cases e:P s t <;> simp
def upd (g:Nat -> Nat) (s v:Nat):Nat -> Nat:=fun i => if i = s then v else g i
theorem mapAt {N i:Nat} (g:Nat -> Nat) (hi:i < N):(oI ((List.range N).map g))[i]? = some ((g i:Nat):Int):=oI_at (by rw [List.getElem?_map,List.getElem?_range hi]; rfl)
theorem zlg (N:Nat) (g:Nat -> Nat):(oI ((List.range N).map g)).length = N:=by rw [zaj,List.length_map,List.length_range]
theorem upd_set {N s:Nat} (g:Nat -> Nat) (v:Nat) (h:s < N):(oI ((List.range N).map g)).set s (v:Int) = oI ((List.range N).map (upd g s v)):=by
 apply List.ext_getElem?
 intro i
 rw [List.getElem?_set]
 by_cases hi:i < N
 ·rw [mapAt (upd g s v) hi]
  by_cases e:s = i
  ·subst e
   rw [if_pos rfl,if_pos (by rw [zlg]; exact hi)]
   unfold upd
   rw [if_pos rfl]
  ·rw [if_neg e,mapAt g hi]
   unfold upd
   rw [if_neg (fun h => e h.symm)]
 ·rw [List.getElem?_eq_none (l:=oI ((List.range N).map (upd g s v))) (by rw [zlg]; omega),if_neg (by omega),List.getElem?_eq_none (by rw [zlg]; omega)]
theorem zlf {N:Nat} {g h:Nat -> Nat} (e:∀ i,i < N -> g i = h i):oI ((List.range N).map g) = oI ((List.range N).map h):=by
 congr 1
 exact List.map_congr_left fun i hi => e i (List.mem_range.1 hi)
theorem zle (N:Nat):oI ((List.range N).map fun _ => 0) = List.replicate N 0:=by
 apply List.ext_getElem?
 intro i
 by_cases hi:i < N
 ·rw [mapAt _ hi,List.getElem?_replicate,if_pos hi]; rfl
 ·rw [List.getElem?_eq_none (by rw [zaj,List.length_map,List.length_range]; omega),List.getElem?_replicate,if_neg hi]
def Dta.clK (d:Dta):Nat -> Nat -> Nat
 | 0 => d.fstR
 | r + 1 => d.nextR (d.clK r)
theorem Dta.clK_coar {d:Dta}:∀ (r m:Nat),(∀ j,j < r -> d.stopR (d.clK j) = false) -> d.coarR (m + r) d.fstR = d.coarR m (d.clK r)
 | 0,m,_ => rfl
 | r + 1,m,h => by
  rw [show m + (r + 1) = (m + 1) + r by omega,Dta.clK_coar r (m + 1) fun j hj => h j (by omega)]
  show (if d.stopR (d.clK r) then d.clK r else d.coarR m (d.nextR (d.clK r))) = _
  rw [if_neg (by rw [h r (by omega)]; simp)]
  rfl
theorem Dta.clK_end {d:Dta} {r:Nat} (hr:r <= d.n) (h:∀ j,j < r -> d.stopR (d.clK j) = false) (hs:r = d.n \/ d.stopR (d.clK r) = true):d.coar = d.clK r:=by
 unfold Dta.coar
 obtain ⟨m,hm⟩:∃ m,d.n = m + r:=⟨d.n - r,by omega⟩
 rw [hm,Dta.clK_coar r m h]
 rcases hs with hs | hs
 ·rw [show m = 0 by omega]; rfl
 ·cases m with
  | zero => rfl
  | succ m => show (if d.stopR (d.clK r) then d.clK r else _) = _; rw [if_pos hs]
theorem zp6 {d:Dta} (cl:Nat -> Nat):decide (oI ((List.range d.n).map (d.nextR cl)) = oI ((List.range d.n).map cl)) = d.stopR cl:=by
 rw [Bool.eq_iff_iff,decide_eq_true_iff]
 unfold Dta.stopR
 rw [List.all_eq_true]
 constructor
 ·intro h i hi
  have hi:=List.mem_range.1 hi
  have h1:(oI ((List.range d.n).map (d.nextR cl)))[i]? = (oI ((List.range d.n).map cl))[i]?:=by rw [h]
  rw [mapAt _ hi,mapAt _ hi] at h1
  have:=Option.some.inj h1
  simp; omega
 ·intro h
  exact zlf fun i hi => by simpa using h i (List.mem_range.2 hi)
structure CoI (w:World) (V E:Nat) (vn vf:Value) (N gc:Nat) (g:Nat -> Nat) (W:World):Prop where
 below:Below w.heap.size w W
 row:Row W w.heap.size 25 #[.int .i64 (V:Int),.int .i64 (E:Int),vn,vf]
 own:VO 3 W w.heap.size (.slice (some ⟨gc,0,none⟩) N N) (iL (oI ((List.range N).map g)))
theorem CoI.to {w W X:World} {V E N gc:Nat} {vn vf:Value} {g:Nat -> Nat} (h:CoI w V E vn vf N gc g W) (hb:Below W.heap.size W X):CoI w V E vn vf N gc g X :=
 ⟨h.below.trans (hb.mono h.below.size),h.row.below hb h.row.lt,h.own.below hb zn⟩
theorem CoI.same {w W:World} {V E N gc:Nat} {vn vf:Value} {g g':Nat -> Nat} (h:CoI w V E vn vf N gc g W) (e:∀ i,i < N -> g i = g' i):CoI w V E vn vf N gc g' W :=
 ⟨h.below,h.row,by have:=h.own; rw [zlf e] at this; exact this⟩
theorem lenR (N:Nat) (g:Nat -> Nat):(iL (oI ((List.range N).map g))).length = N:=by rw [zag,zaj,List.length_map,List.length_range]
theorem CoI.gc {w W:World} {V E N gc:Nat} {vn vf:Value} {g:Nat -> Nat} (h:CoI w V E vn vf N gc g W) (hN:1 <= N):w.heap.size <= gc /\ gc < W.heap.size /\ w.heap.size ≠ gc /\ ∀ i,W.frozen? ⟨gc,i,none⟩ = false:=by
 obtain ⟨_,_,h1,h2⟩:=h.own.spot (lenR N g) (show 0 < N by omega)
 obtain ⟨g',cap,cs,he,_,hrow,_⟩:=h.own.row (by rw [lenR]; omega)
 simp only [Value.slice.injEq,Option.some.injEq,Addr.mk.injEq,and_true] at he
 obtain ⟨rfl,_⟩:=he
 exact ⟨h1,h2,fun e => VO.ne_row h.own h.row (by decide) (by rw [e]; rfl),hrow.free⟩
theorem CoI.at {w W:World} {V E N gc:Nat} {vn vf:Value} {g:Nat -> Nat} (h:CoI w V E vn vf N gc g W) {i:Nat} (hi:i < N):W.cell? ⟨gc,i,none⟩ = some (.int .i64 (g i:Int)):=by
 have:=h.own.vs.at (i:=i) (iL_at (mapAt g hi))
 rwa [Nat.zero_add] at this
theorem CoI.set {w W:World} {V E N gc:Nat} {vn vf:Value} {g:Nat -> Nat} (h:CoI w V E vn vf N gc g W) {s:Nat} (hs:s < N) (v:Nat):CoI w V E vn vf N gc (upd g s v) (W.setCell ⟨gc,s,none⟩ (.int .i64 (v:Int))):=by
 obtain ⟨h1,h2,h3,_⟩:=h.gc (by omega)
 refine ⟨h.below.setCell (p:=⟨gc,s,none⟩) h1 _,h.row.far h3 _,?_⟩
 have:=zcr h.own (lenR N g) s (.int .i64 (v:Int)) rfl
 rwa [zo3,upd_set g v hs] at this
theorem CoI.far {w W:World} {V E N gc:Nat} {vn vf:Value} {g:Nat -> Nat} (h:CoI w V E vn vf N gc g W) {gn:Nat} (hB:w.heap.size <= gn) (h1:w.heap.size ≠ gn) (h2:gc ≠ gn) (i:Nat) (u:Value):CoI w V E vn vf N gc g (W.setCell ⟨gn,i,none⟩ u) :=
 ⟨h.below.setCell (p:=⟨gn,i,none⟩) hB _,h.row.far h1 _,VO.setFar h.own (p:=⟨gn,i,none⟩) (fun e => h2 (by simpa [Value.ownBlock] using e)) u⟩
set_option maxRecDepth 100000 in
set_option maxHeartbeats 16000000 in
theorem zmt (d:Dta) (V:Nat) (hd:d.Fit V) (va:Value) (w:World) (hva:TD w va (d.raw V)) :
  Calls Tryz.prog 102 #[va] w fun e w' => ∃ A c,e = .returned (.slice A d.n c) /\ Below w.heap.size w w' /\ O1 w' w.heap.size (.slice A d.n c) (oI ((List.range d.n).map d.coar)):=by
 have AGR:=zh fun W (h:Below w.heap.size w W) (cl:Nat -> Nat) (s t:Nat) (hs:s < d.n) (ht:t < d.n) vc (hvc:N1 W vc (oI ((List.range d.n).map cl))) => agree19 d V hd cl s t hs ht va vc W (hva.below h zn) hvc
 have hmk:=za3 eI d.n (by have:=hd.n64; omega)
 obtain ⟨vn,vf,rfl,hnn,hff⟩:=hva
 have hvars:(d.raw V).vars = (V:Int):=rfl
 have hemp:(d.raw V).empty = (d.e:Int):=rfl
 rw [hvars,hemp] at AGR ⊢
 obtain ⟨b3,o3,c3,rfl,hcp1,hcp2,hLV⟩:=(show N3 w vn (nx3 d.n d.L d.nx) from hnn).lv hd.pos hd.L8.1
 obtain ⟨bk,ok,ck,rfl,hk1,hbk,hk2⟩:=(show NB w vf ((List.range d.n).map d.fin) from hff).at hd.pos
 have hsh:=za2 V hd.v3
 rw [<- hd.L] at hsh
 have hv3i:(V:Int) <= 3:=by have:=hd.v3; omega
 have hn64:=hd.n64; have hL8:=hd.L8.2; have hpos:=hd.pos
 have HD:=zh hd.ok; have HLV:=zh hLV; have HK2:=zh hk2
 clear hnn hff hvars hemp hLV hk2
 obtain ⟨L,hL⟩:=zx d.L
 obtain ⟨N,hNN⟩:=zx d.n
 obtain ⟨E,hE⟩:=zx d.e
 rw [<- hNN] at hn64 hpos HK2 hk1 hcp1 HLV hmk AGR ⊢
 rw [<- hE] at AGR ⊢
 have HNE:=zh hNN
 clear hNN hE hL hd hsh HLV
 go_enter Tryz.func102,Tryz.ntmps102
 go_wp2
 refine zab (fun X => ∃ gc,gc = w.heap.size + 1 /\ CoI w V E (.slice (some ⟨b3,o3,none⟩) N c3) (.slice (some ⟨bk,ok,none⟩) N ck) N gc (fun _ => 0) X) ⟨_,rfl,by go_grown,(Row.new _ _ _).alloc _,by
  have:=VO.lit (E:=3) (w:=w.alloc (.cells #[.int .i64 (V:Int),.int .i64 (E:Int),.slice (some ⟨b3,o3,none⟩) N c3,.slice (some ⟨bk,ok,none⟩) N ck] 25)) (n:=N) (iL (List.replicate N 0)) (by simp [iL]) (by omega) (zc0 _)
  rw [zle]
  exact VO.mono (by simpa [iL] using this) (by simp)⟩ ?_
 rintro W0 ⟨gc,hgc,hI⟩
 rw [<- hgc]
 have HI:=zh hI
 clear hI hgc hmk
 have hmk:=za3 eI N (by omega)
 go_loopg [4] N (fun gk q4 W => ∃ (s:Nat) (g:Nat -> Nat),s <= N /\ gk = N - s /\ q4 = .int .i64 s /\ CoI w V E (.slice (some ⟨b3,o3,none⟩) N c3) (.slice (some ⟨bk,ok,none⟩) N ck) N gc g W /\ ∀ i,i < s -> g i = d.fstR i)
 case atStart => exact ⟨0,_,Nat.zero_le _,rfl,rfl,HI.out,fun i hi => by omega⟩
 case round =>
  clear HI
  obtain ⟨s,g,hs,rfl,rfl,hi,hg⟩:=hrel
  have HI:=zh hi; have HG:=zh hg
  obtain ⟨l1,l2,l3,l4⟩:=hi.gc hpos
  have y0:=hi.row.cell
  clear hi hg
  by_cases hlt:s < N
  ·have hlti:(s:Int) < (N:Int):=by omega
   have hcs:=HI.out.at hlt
   go_upto_region 7 with fail
   refine zab (fun X => CoI w V E (.slice (some ⟨b3,o3,none⟩) N c3) (.slice (some ⟨bk,ok,none⟩) N ck) N gc (upd g s s) X) (HI.out.set hlt s) ?_
   clear HI y0 hcs l1 l2 l3 l4
   rintro W1 hi
   have HI:=zh hi
   clear hi
   go_loopg [5] s (fun gk q5 W => ∃ (z:Int) (t:Nat) (g:Nat -> Nat),z + 1 = (t:Int) /\ t <= s /\ t = gk /\ q5 = .int .i64 z /\ CoI w V E (.slice (some ⟨b3,o3,none⟩) N c3) (.slice (some ⟨bk,ok,none⟩) N ck) N gc g W /\ (∀ i,i < s -> g i = d.fstR i) /\ g s = zeg (fun s t => d.fin s == d.fin t) s t)
   case atStart => exact ⟨(s:Int) - 1,s,_,by omega,zn,rfl,by go_num,HI.out,fun i hi => by unfold upd; rw [if_neg (by omega)]; exact HG.out i hi,by unfold upd; rw [if_pos rfl,zg7]⟩
   case round =>
    clear HI HG
    obtain ⟨z,t,g,hz,ht,rfl,rfl,hi,hg,hgs⟩:=hrel
    have HI:=zh hi; have HG:=zh hg; have HGS:=zh hgs
    obtain ⟨l1,l2,l3,l4⟩:=hi.gc hpos
    have y0:=hi.row.cell
    have hbw:=hi.below
    clear hi hg hgs
    by_cases ht0:0 < t
    ·obtain ⟨t',rfl⟩:∃ t',t = t' + 1:=⟨t - 1,by omega⟩
     obtain rfl:z = (t':Int):=by omega
     have f1:=(hbw.cell (p:=⟨bk,ok + s,none⟩) hbk).trans (HK2.out s hlt)
     have f2:=(hbw.cell (p:=⟨bk,ok + t',none⟩) hbk).trans (HK2.out t' (by omega))
     have hti:(t':Int) < (N:Int):=by omega
     have hcs:=HI.out.at hlt
     have hst:=zf8 (fun s t => d.fin s == d.fin t) (s:=s) (t:=t') (by omega)
     obtain ⟨a,ha⟩:=zx (d.fin s)
     obtain ⟨b,hb⟩:=zx (d.fin t')
     rw [<- ha] at f1; rw [<- hb] at f2
     simp only [<- ha,<- hb] at hst
     have HST:=zh hst
     have ht0i:(0:Int) <= (t':Int):=by omega
     clear ha hb hst hbw hz
     by_cases hab:a = b
     ·subst hab
      have d1:(a == a) = true:=by simp
      go_upto_region 9 with fail
      first | go_region | fail
      refine zbf (fun X => CoI w V E (.slice (some ⟨b3,o3,none⟩) N c3) (.slice (some ⟨bk,ok,none⟩) N ck) N gc g X) (HI.out.to (Below.refl _ _).drew) ?_
      clear HI y0 f1 f2 l1 l2 l3 l4 hcs
      rintro W1 hi
      obtain ⟨l1,l2,l3,l4⟩:=hi.gc hpos
      have hcs:=hi.at hlt
      have HI:=zh hi
      clear hi
      go_wp2
      go_roundg t'
      case rel => exact ⟨(t':Int) - 1,t',_,by omega,by omega,rfl,by go_num,HI.out.set hlt t',fun i hi => by unfold upd; rw [if_neg (by omega)]; exact HG.out i hi,by unfold upd; rw [if_pos rfl,HST.out]; simp⟩
      case measure => omega
     ·have d1:(a == b) = false:=by simpa using hab
      have HAB:Hid (a ≠ b):=hab
      clear hab
      go_upto_region 9 with fail
      first | go_region | fail
      refine zbf (fun X => CoI w V E (.slice (some ⟨b3,o3,none⟩) N c3) (.slice (some ⟨bk,ok,none⟩) N ck) N gc g X) (HI.out.to (Below.refl _ _).drew) ?_
      clear HI y0 f1 f2 l1 l2 l3 l4 hcs
      rintro W1 hi
      have HI:=zh hi
      clear hi
      go_wp2
      go_roundg t'
      case rel => exact ⟨(t':Int) - 1,t',g,by omega,by omega,rfl,by go_num,HI.out,HG.out,by rw [HST.out,if_neg (by simpa using HAB.out)]; exact HGS.out⟩
      case measure => omega
    ·obtain rfl:t = 0:=by omega
     obtain rfl:z = -1:=by omega
     clear hbw
     go_wp2
     go_roundg (N - (s + 1))
     case rel => exact ⟨s + 1,g,by omega,rfl,by go_num,HI.out,fun i hi => by
      by_cases e:i = s
      ·subst e; rw [HGS.out,zf7]; rfl
      ·exact HG.out i (by omega)⟩
     case measure => omega
  ·obtain rfl:N = s:=by omega
   have HI2:Hid (CoI w V E (.slice (some ⟨b3,o3,none⟩) N c3) (.slice (some ⟨bk,ok,none⟩) N ck) N gc (d.clK 0) wr):=HI.out.same HG.out
   clear HI HG y0 l1 l2 l3 l4
   go_wp2
   go_loopg [3,6] N (fun gk q3 q6 W => ∃ (r gc:Nat),r <= N /\ gk = N - r /\ q3 = .slice (some ⟨gc,0,none⟩) N N /\ q6 = .int .i64 r /\ CoI w V E (.slice (some ⟨b3,o3,none⟩) N c3) (.slice (some ⟨bk,ok,none⟩) N ck) N gc (d.clK r) W /\ ∀ j,j < r -> d.stopR (d.clK j) = false)
   case atStart => exact ⟨0,gc,Nat.zero_le _,rfl,rfl,rfl,HI2.out,fun j hj => by omega⟩
   case round =>
    clear HI2
    obtain ⟨r,gc,hr,rfl,rfl,rfl,hi,hst⟩:=hrel
    obtain ⟨wl,hwl⟩:=zx wr
    subst hwl
    have HI:=zh hi; have HST:=zh hst
    obtain ⟨l1,l2,l3,l4⟩:=hi.gc hpos
    have y0:=hi.row.cell
    clear hi hst
    by_cases hlt:r < N
    ·have hlti:(r:Int) < (N:Int):=by omega
     go_wp2
     refine zab (fun X => ∃ gn,gn = wl.heap.size /\ CoI w V E (.slice (some ⟨b3,o3,none⟩) N c3) (.slice (some ⟨bk,ok,none⟩) N ck) N gc (d.clK r) X /\ CoI w V E (.slice (some ⟨b3,o3,none⟩) N c3) (.slice (some ⟨bk,ok,none⟩) N ck) N gn (fun _ => 0) X) ⟨_,rfl,HI.out.to (by go_grown),(HI.out.to (by go_grown)).below,(HI.out.to (by go_grown)).row,by
      have:=VO.lit (E:=3) (w:=wl) (n:=N) (iL (List.replicate N 0)) (by simp [iL]) (by omega) (zc0 _)
      rw [zle]
      exact VO.mono (by simpa [iL] using this) HI.out.below.size⟩ ?_
     rintro W1 ⟨gn,hgn,hi,hn⟩
     have hne:gc ≠ gn:=by omega
     rw [<- hgn]
     clear HI y0 l1 l2 l3 l4 hgn
     have HI:=zh hi; have HN:=zh hn
     clear hi hn
     go_loopg [8] N (fun gk q8 W => ∃ (s:Nat) (g:Nat -> Nat),s <= N /\ gk = N - s /\ q8 = .int .i64 s /\ CoI w V E (.slice (some ⟨b3,o3,none⟩) N c3) (.slice (some ⟨bk,ok,none⟩) N ck) N gc (d.clK r) W /\ CoI w V E (.slice (some ⟨b3,o3,none⟩) N c3) (.slice (some ⟨bk,ok,none⟩) N ck) N gn g W /\ ∀ i,i < s -> g i = d.nextR (d.clK r) i)
     case atStart => exact ⟨0,_,Nat.zero_le _,rfl,rfl,HI.out,HN.out,fun i hi => by omega⟩
     case round =>
      clear HI HN
      obtain ⟨s,g,hs,rfl,rfl,hi,hn,hg⟩:=hrel
      have HI:=zh hi; have HN:=zh hn; have HG:=zh hg
      obtain ⟨l1,l2,l3,l4⟩:=hn.gc hpos
      have y0:=hi.row.cell
      clear hi hn hg
      by_cases hls:s < N
      ·have hlsi:(s:Int) < (N:Int):=by omega
       have hcs:=HN.out.at hls
       go_upto_region 20 with fail
       refine zab (fun X => CoI w V E (.slice (some ⟨b3,o3,none⟩) N c3) (.slice (some ⟨bk,ok,none⟩) N ck) N gc (d.clK r) X /\ CoI w V E (.slice (some ⟨b3,o3,none⟩) N c3) (.slice (some ⟨bk,ok,none⟩) N ck) N gn (upd g s s) X) ⟨HI.out.far l1 l3 hne s _,HN.out.set hls s⟩ ?_
       clear HI HN y0 hcs l1 l2 l3 l4
       rintro W1 ⟨hi,hn⟩
       have HI:=zh hi; have HN:=zh hn
       clear hi hn
       go_loopg [9] s (fun gk q9 W => ∃ (z:Int) (t:Nat) (g:Nat -> Nat),z + 1 = (t:Int) /\ t <= s /\ t = gk /\ q9 = .int .i64 z /\ CoI w V E (.slice (some ⟨b3,o3,none⟩) N c3) (.slice (some ⟨bk,ok,none⟩) N ck) N gc (d.clK r) W /\ CoI w V E (.slice (some ⟨b3,o3,none⟩) N c3) (.slice (some ⟨bk,ok,none⟩) N ck) N gn g W /\ (∀ i,i < s -> g i = d.nextR (d.clK r) i) /\ g s = zeg (fun s t => d.clK r s == d.clK r t && d.agree (d.clK r) s t) s t)
       case atStart => exact ⟨(s:Int) - 1,s,_,by omega,zn,rfl,by go_num,HI.out,HN.out,fun i hi => by unfold upd; rw [if_neg (by omega)]; exact HG.out i hi,by unfold upd; rw [if_pos rfl,zg7]⟩
       case round =>
        clear HI HN HG
        obtain ⟨z,t,g,hz,ht,rfl,rfl,hi,hn,hg,hgs⟩:=hrel
        obtain ⟨W,hW⟩:=zx wr
        subst hW
        have HI:=zh hi; have HN:=zh hn; have HG:=zh hg; have HGS:=zh hgs
        obtain ⟨l1,l2,l3,l4⟩:=hn.gc hpos
        have hbw:=hi.below
        clear hi hn hg hgs
        by_cases ht0:0 < t
        ·obtain ⟨t',rfl⟩:∃ t',t = t' + 1:=⟨t - 1,by omega⟩
         obtain rfl:z = (t':Int):=by omega
         have htN:t' < N:=by omega
         have hti:(t':Int) < (N:Int):=by omega
         have f1:=HI.out.at hls
         have f2:=HI.out.at htN
         have hcs:=HN.out.at hls
         have hst:=zf8 (fun s t => d.clK r s == d.clK r t && d.agree (d.clK r) s t) (s:=s) (t:=t') (by omega)
         have ht0i:(0:Int) <= (t':Int):=by omega
         have HVC:Hid (N1 W (.slice (some ⟨gc,0,none⟩) N N) (oI ((List.range N).map (d.clK r)))):=HI.out.own.vs
         have ACALL:=zh fun X (h:Below W.heap.size W X) => AGR.out X (HI.out.below.trans (h.mono HI.out.below.size)) (d.clK r) s t' hls htN _ (HVC.out.below h zn)
         obtain ⟨b,hb⟩:=zx (d.agree (d.clK r) s t')
         rw [<- hb] at ACALL
         obtain ⟨p1,hp1⟩:=zx (d.clK r s)
         obtain ⟨p2,hp2⟩:=zx (d.clK r t')
         simp only [<- hb,<- hp1,<- hp2] at hst
         rw [<- hp1] at f1; rw [<- hp2] at f2
         have HSTP:=zh hst
         clear hb hp1 hp2 hst hbw hz HVC
         have y0:=HI.out.row.cell 0; have y1:=HI.out.row.cell 1; have y2:=HI.out.row.cell 2; have y3:=HI.out.row.cell 3
         simp only [List.getElem?_toArray,List.getElem?_cons_zero,List.getElem?_cons_succ] at y0 y1 y2 y3
         have hgl:=HI.out.row.lt; have hcl:=(HI.out.gc hpos).2.1
         by_cases e:p1 = p2
         ·subst e
          have d1:((p1:Int) == p1) = true:=by simp
          cases b
          all_goals
           go_upto_region 22 with fail
           first
           | go_region_held3 (fun X => X.cell? ⟨w.heap.size,0,none⟩ = some (.int .i64 (V:Int)) /\ X.cell? ⟨w.heap.size,1,none⟩ = some (.int .i64 (E:Int)) /\ X.cell? ⟨w.heap.size,2,none⟩ = some (.slice (some ⟨b3,o3,none⟩) N c3) /\ X.cell? ⟨w.heap.size,3,none⟩ = some (.slice (some ⟨bk,ok,none⟩) N ck) /\ X.cell? ⟨gc,s,none⟩ = some (.int .i64 (p1:Int)) /\ X.cell? ⟨gc,t',none⟩ = some (.int .i64 (p1:Int))) (first | exact ⟨y0,y1,y2,y3,f1,f2⟩ | exact HC3.out) (first | (go_at_call 134; refine (ACALL.out _ (Below.refl _ _).drew).mono ?_; rintro ee w21 ⟨rfl,hb⟩; have hz:Below W.heap.size W w21:=(Below.refl _ _).drew.trans hb; have HZ:=zh hz; have HC3:=zh (show w21.cell? ⟨w.heap.size,0,none⟩ = some (.int .i64 (V:Int)) /\ w21.cell? ⟨w.heap.size,1,none⟩ = some (.int .i64 (E:Int)) /\ w21.cell? ⟨w.heap.size,2,none⟩ = some (.slice (some ⟨b3,o3,none⟩) N c3) /\ w21.cell? ⟨w.heap.size,3,none⟩ = some (.slice (some ⟨bk,ok,none⟩) N ck) /\ w21.cell? ⟨gc,s,none⟩ = some (.int .i64 (p1:Int)) /\ w21.cell? ⟨gc,t',none⟩ = some (.int .i64 (p1:Int)) from ⟨(hz.cell (p:=⟨w.heap.size,0,none⟩) hgl).trans y0,(hz.cell (p:=⟨w.heap.size,1,none⟩) hgl).trans y1,(hz.cell (p:=⟨w.heap.size,2,none⟩) hgl).trans y2,(hz.cell (p:=⟨w.heap.size,3,none⟩) hgl).trans y3,(hz.cell (p:=⟨gc,s,none⟩) hcl).trans f1,(hz.cell (p:=⟨gc,t',none⟩) hcl).trans f2⟩); clear hz hb))
           | fail
           refine zbf (fun X => CoI w V E (.slice (some ⟨b3,o3,none⟩) N c3) (.slice (some ⟨bk,ok,none⟩) N ck) N gc (d.clK r) X /\ CoI w V E (.slice (some ⟨b3,o3,none⟩) N c3) (.slice (some ⟨bk,ok,none⟩) N ck) N gn g X) ⟨HI.out.to HZ.out,HN.out.to HZ.out⟩ ?_
           clear HI HN y0 y1 y2 y3 f1 f2 l1 l2 l3 l4 hcs HZ HC3 hgl hcl ACALL
           rintro W1 ⟨hi,hn⟩
           obtain ⟨l1,l2,l3,l4⟩:=hn.gc hpos
           have hcs:=hn.at hls
           have HI:=zh hi; have HN:=zh hn
           clear hi hn
           go_wp2
           go_roundg t'
           case rel => first
            | exact ⟨(t':Int) - 1,t',g,by omega,by omega,rfl,by go_num,HI.out,HN.out,HG.out,by rw [HSTP.out,if_neg (by simp)]; exact HGS.out⟩
            | exact ⟨(t':Int) - 1,t',_,by omega,by omega,rfl,by go_num,HI.out.far l1 l3 hne s _,HN.out.set hls t',fun i hi => by unfold upd; rw [if_neg (by omega)]; exact HG.out i hi,by unfold upd; rw [if_pos rfl,HSTP.out,if_pos (by simp)]⟩
           case measure => omega
         ·have d1:((p1:Int) == p2) = false:=by rw [beq_eq_false_iff_ne]; omega
          have HE:Hid (p1 ≠ p2):=e
          clear e
          go_upto_region 22 with fail
          first | go_quiet (fail) | fail
          refine zbf (fun X => CoI w V E (.slice (some ⟨b3,o3,none⟩) N c3) (.slice (some ⟨bk,ok,none⟩) N ck) N gc (d.clK r) X /\ CoI w V E (.slice (some ⟨b3,o3,none⟩) N c3) (.slice (some ⟨bk,ok,none⟩) N ck) N gn g X) ⟨HI.out.to (zey W _),HN.out.to (zey W _)⟩ ?_
          clear HI HN y0 y1 y2 y3 f1 f2 l1 l2 l3 l4 hcs hgl hcl ACALL
          rintro W1 ⟨hi,hn⟩
          have HI:=zh hi; have HN:=zh hn
          clear hi hn
          go_wp2
          go_roundg t'
          case rel => exact ⟨(t':Int) - 1,t',g,by omega,by omega,rfl,by go_num,HI.out,HN.out,HG.out,by rw [HSTP.out,if_neg (by simp [HE.out])]; exact HGS.out⟩
          case measure => omega
        ·obtain rfl:t = 0:=by omega
         obtain rfl:z = -1:=by omega
         clear hbw
         go_wp2
         go_roundg (N - (s + 1))
         case rel => exact ⟨s + 1,g,by omega,rfl,by go_num,HI.out,HN.out,fun i hi => by
          by_cases e:i = s
          ·subst e; rw [HGS.out,zf7]; rfl
          ·exact HG.out i (by omega)⟩
         case measure => omega
      ·obtain rfl:N = s:=by omega
       have HN2:=zh (HN.out.same HG.out)
       have EQI:=zh fun X (h:Below wr.heap.size wr X) => zgg (oI ((List.range N).map (d.nextR (d.clK r)))) (oI ((List.range N).map (d.clK r))) (.slice (some ⟨gn,0,none⟩) N N) (.slice (some ⟨gc,0,none⟩) N N) X (N1.below (show N1 wr _ _ from HN2.out.own.vs) h zn) (N1.below (show N1 wr _ _ from HI.out.own.vs) h zn) (by rw [zlg]; omega)
       have hstp:=zp6 (d:=d) (d.clK r)
       rw [<- HNE.out] at hstp
       rw [hstp] at EQI
       obtain ⟨b,hb⟩:=zx (d.stopR (d.clK r))
       rw [<- hb] at EQI
       have HSB:=zh hb
       clear HN HG hb hstp y0 l1 l2 l3 l4
       cases b
       ·go_wp2_with (go_at_call 106; refine (EQI.out _ (Below.refl _ _)).mono ?_; rintro ee w21 ⟨rfl,hb⟩; have HZ:=zh hb; clear hb)
        go_roundg (N - (r + 1))
        case rel => exact ⟨r + 1,gn,by omega,rfl,rfl,by go_num,HN2.out.to HZ.out,fun j hj => by
         by_cases e:j = r
         ·subst e; exact HSB.out.symm
         ·exact HST.out j (by omega)⟩
        case measure => omega
       ·have HCE:Hid (d.coar = d.clK r):=Dta.clK_end (by rw [<- HNE.out]; exact hr) HST.out (.inr HSB.out.symm)
        go_wp2_with (go_at_call 106; refine (EQI.out _ (Below.refl _ _)).mono ?_; rintro ee w21 ⟨rfl,hb⟩; have HZ:=zh hb; clear hb)
        go_returns
        exact ⟨_,_,rfl,(HI.out.to HZ.out).below,by rw [HCE.out]; exact (HI.out.to HZ.out).own⟩
    ·obtain rfl:N = r:=by omega
     have HCE:Hid (d.coar = d.clK N):=Dta.clK_end (by rw [<- HNE.out]; exact hr) HST.out (.inl HNE.out)
     go_wp2
     go_returns
     exact ⟨_,_,rfl,HI.out.below,by rw [HCE.out]; exact HI.out.own⟩
end Go.Proofs.YthkfjnmnoanhlaaGreatDoor
