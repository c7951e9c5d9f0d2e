/- Part 26 of the proof; it says: lemmas and contracts. No conditions but those that each theorem states. -/
import Derived.Deep.RegionHeld3
import Derived.Test.YthkfjnmnoanhlaaGreatDoorPr01
import Derived.Test.YthkfjnmnoanhlaaGreatDoorPr02
import Derived.Test.YthkfjnmnoanhlaaGreatDoorPr10
import Derived.Test.YthkfjnmnoanhlaaGreatDoorPr11
import Derived.Test.YthkfjnmnoanhlaaGreatDoorPr25
set_option linter.unusedSimpArgs false
set_option linter.unusedVariables false
set_option maxRecDepth 100000
set_option maxHeartbeats 32000000
namespace Go.Proofs.YthkfjnmnoanhlaaGreatDoor
open Go.RowKit
def rwX (f:Nat -> Nat -> Nat -> Nat) (i k x:Nat):List Int:=(List.range x).map fun x => (f i k x:Int)
def rwK (f:Nat -> Nat -> Nat -> Nat) (L i k:Nat):List (List Int):=(List.range k).map fun k => rwX f i k L
def rwI (f:Nat -> Nat -> Nat -> Nat) (L n i:Nat):List (List (List Int)):=(List.range i).map fun i => rwK f L i n
theorem zk0 (f:Nat -> Nat -> Nat -> Nat) (i k x:Nat):rwX f i k (x + 1) = rwX f i k x ++ [(f i k x:Int)]:=by simp [rwX,List.range_succ]
theorem zk1 (f:Nat -> Nat -> Nat -> Nat) (L i k:Nat):rwK f L i (k + 1) = rwK f L i k ++ [rwX f i k L]:=by simp [rwK,List.range_succ]
theorem zk2 (f:Nat -> Nat -> Nat -> Nat) (L n i:Nat):rwI f L n (i + 1) = rwI f L n i ++ [rwK f L i n]:=by simp [rwI,List.range_succ]
theorem zfw (f:Nat -> Nat -> Nat -> Nat) (i k x:Nat):(rwX f i k x).length = x:=by simp [rwX]
theorem zer (f:Nat -> Nat -> Nat -> Nat) (L i k:Nat):(rwK f L i k).length = k:=by simp [rwK]
theorem zc5 (f:Nat -> Nat -> Nat -> Nat) (L n i:Nat):(rwI f L n i).length = i:=by simp [rwI]
def finL (f:Nat -> Bool) (i:Nat):List Bool:=(List.range i).map f
theorem zge (f:Nat -> Bool) (i:Nat):finL f (i + 1) = finL f i ++ [f i]:=by simp [finL,List.range_succ]
theorem zbu (f:Nat -> Bool) (i:Nat):(finL f i).length = i:=by simp [finL]
def Dta.quoL (d:Dta) (o:List Nat) (cl:Nat -> Nat):Dta:=⟨o.length,o.idxOf (cl d.e),d.L,fun i k x => o.idxOf (cl (d.nx (o.getD i 0) (o.getD k 0) x)),fun i => d.fin (o.getD i 0)⟩
theorem zg3 {o:List Nat} {s:Nat} (h:s ∈ o):zcz (oI o) (s:Int) = (o.idxOf s:Int):=by
 have h1:=List.idxOf_lt_length_of_mem h
 refine ziv (oI_at (by rw [List.getElem?_eq_getElem h1,List.getElem_idxOf])) fun j hj y hy => ?_
 intro e
 have hjl:j < o.length:=by omega
 rw [oI_at (List.getElem?_eq_getElem hjl)] at hy
 have:=Option.some.inj hy
 have hne:=List.not_of_lt_findIdx (p:=(· == s)) (xs:=o) hj
 simp only [beq_eq_false_iff_ne,ne_eq] at hne
 exact hne (by omega)
structure QuoI (w:World) (g7 V E e':Nat) (vn vf vN vF:Value) (L3:List (List (List Int))) (lf:List Bool) (W:World):Prop where
 below:Below w.heap.size w W
 gB:w.heap.size < g7
 r3:Row W w.heap.size 25 #[.int .i64 (V:Int),.int .i64 (E:Int),vn,vf]
 r6:Row W (w.heap.size + 1) 25 #[.int .i64 0,.int .i64 0,.slice none 0 0,.slice none 0 0]
 r7:Row W g7 25 #[.int .i64 (V:Int),.int .i64 (e':Int),vN,vF]
 ne7:g7 ≠ w.heap.size + 1
 o3:O3 W w.heap.size vN L3
 of:OB W w.heap.size vF lf
theorem QuoI.to {w W X:World} {g7 V E e':Nat} {vn vf vN vF:Value} {L3:List (List (List Int))} {lf:List Bool} (h:QuoI w g7 V E e' vn vf vN vF L3 lf W) (hb:Below W.heap.size W X):QuoI w g7 V E e' vn vf vN vF L3 lf X :=
 ⟨h.below.trans (hb.mono h.below.size),h.gB,h.r3.below hb h.r3.lt,h.r6.below hb h.r6.lt,h.r7.below hb h.r7.lt,h.ne7,h.o3.below hb zn,OB.below h.of hb zn⟩
theorem zdk (d:Dta) (V:Nat) (hd:d.Fit V) (o:List Nat) (cl:Nat -> Nat) (he0:cl d.e ∈ o) (hcl:∀ a ∈ o,∀ b ∈ o,∀ x,x < d.L -> cl (d.nx a b x) ∈ o) (hol:∀ a ∈ o,a < d.n) (ho64:o.length <= 64) (va vo vc:Value) (w:World) (hva:TD w va (d.raw V)) (hvo:N1 w vo (oI o)) (hvc:N1 w vc (oI ((List.range d.n).map cl))) :
  Calls Tryz.prog 99 #[va,vo,vc] w fun e w' => ∃ v',e = .returned v' /\ Below w.heap.size w w' /\ TDO w' w.heap.size v' ((d.quoL o cl).raw V):=by
 obtain ⟨vn,vf,rfl,hnn,hff⟩:=hva
 have hvars:(d.raw V).vars = (V:Int):=rfl
 have hemp:(d.raw V).empty = (d.e:Int):=rfl
 rw [hvars,hemp]
 obtain ⟨b3,o3,c3,hN⟩:=(show N3 w vn (nx3 d.n d.L d.nx) from hnn).nx hd.pos hd.L8.1
 obtain rfl:=hN.form
 obtain ⟨bk,ok,ck,rfl,hk1,hbk,hk2⟩:=(show NB w vf ((List.range d.n).map d.fin) from hff).at hd.pos
 obtain ⟨f,hf⟩:=zx ((d.quoL o cl).nx)
 obtain ⟨ff,hfin⟩:=zx ((d.quoL o cl).fin)
 have HRAW:Hid ((d.quoL o cl).raw V = ⟨(V:Int),((d.quoL o cl).e:Int),rwI f d.L o.length o.length,finL ff o.length⟩):=by unfold Hid; rw [hf,hfin]; rfl
 have hpl0:zcz (oI o) ((cl d.e:Nat):Int) = ((d.quoL o cl).e:Int):=zg3 he0
 have HAT:Hid (∀ i k x a b,o[i]? = some a -> o[k]? = some b -> x < d.L -> zcz (oI o) ((cl (d.nx a b x):Nat):Int) = (f i k x:Int)):=by
  intro i k x a b ha hb hx
  rw [zg3 (hcl _ (List.mem_of_getElem? ha) _ (List.mem_of_getElem? hb) _ hx),hf]
  show _ = ((o.idxOf (cl (d.nx (o.getD i 0) (o.getD k 0) x)):Nat):Int)
  rw [List.getD_eq_getElem?_getD,List.getD_eq_getElem?_getD,ha,hb]; rfl
 have HFI:Hid (∀ i a,o[i]? = some a -> d.fin a = ff i):=by
  intro i a ha
  rw [hfin]
  show _ = d.fin (o.getD i 0)
  rw [List.getD_eq_getElem?_getD,ha]; rfl
 obtain ⟨bo,oo,co,rfl,ho1,ho2,hbo,hoc⟩:∃ b o' c,vo = .slice (some ⟨b,o',none⟩) o.length c /\ o.length <= c /\ c <= 9223372036854775807 /\ b < w.heap.size /\ ∀ (i a:Nat),o[i]? = some a -> w.cell? ⟨b,o' + i,none⟩ = some (.int .i64 (a:Int)):=by
  obtain ⟨A,c,e,h1,h2,h3⟩:=hvo.open
  rw [zaj] at e h1
  have hp:0 < o.length:=List.length_pos_of_mem he0
  obtain ⟨b,o',hA,hb,_⟩:=h3 0 (o[0]:Int) (oI_at (List.getElem?_eq_getElem hp))
  exact ⟨b,o',c,by rw [e,hA],h1,h2,hb,fun i a ha => by
   obtain ⟨b',o2,hA',_,hc⟩:=h3 i a (oI_at ha)
   rw [hA] at hA'
   simp only [Option.some.injEq,Addr.mk.injEq,and_true] at hA'
   obtain ⟨rfl,rfl⟩:=hA'
   exact hc⟩
 obtain ⟨bc,oc,cc,rfl,hc1,hc2,hbc,hcc⟩:∃ b o' c,vc = .slice (some ⟨b,o',none⟩) d.n c /\ d.n <= c /\ c <= 9223372036854775807 /\ b < w.heap.size /\ ∀ s,s < d.n -> w.cell? ⟨b,o' + s,none⟩ = some (.int .i64 (cl s:Int)):=by
  obtain ⟨A,c,e,h1,h2,h3⟩:=hvc.open
  have hln:((List.range d.n).map cl).length = d.n:=by simp
  rw [zaj,hln] at e h1
  have hat:∀ s,s < d.n -> (oI ((List.range d.n).map cl))[s]? = some ((cl s:Nat):Int):=fun s hs => oI_at (by rw [List.getElem?_map,List.getElem?_range hs]; rfl)
  obtain ⟨b,o',hA,hb,_⟩:=h3 0 _ (hat 0 hd.pos)
  exact ⟨b,o',c,by rw [e,hA],h1,h2,hb,fun s hs => by
   obtain ⟨b',o2,hA',_,hc⟩:=h3 s _ (hat s hs)
   rw [hA] at hA'
   simp only [Option.some.injEq,Addr.mk.injEq,and_true] at hA'
   obtain ⟨rfl,rfl⟩:=hA'
   exact hc⟩
 have PL:=zh fun W (h:Below w.heap.size w W) (x:Int) => znw (oI o) x _ W (hvo.below h zn)
 have hsh:=za2 V hd.v3
 rw [<- hd.L] at hsh
 have hv3i:(V:Int) <= 3:=by have:=hd.v3; omega
 have hn64:=hd.n64; have hL8:=hd.L8.2; have hpos:=hd.pos; have hee:=hd.ok.he
 have HD:=zh hd.ok; have HN:=zh hN.at3; have hcap:=hN.cap
 have HOC:=zh hoc; have HCC:=zh hcc; have HK2:=zh hk2; have HOL:=zh hol
 obtain ⟨e',he'⟩:=zx ((d.quoL o cl).e)
 rw [<- he'] at HRAW hpl0
 clear hnn hff hvars hemp hN hd hvo hvc hf hfin hoc hcc hk2 hcl he' hol
 obtain ⟨L,hL⟩:=zx d.L
 obtain ⟨N,hNN⟩:=zx d.n
 obtain ⟨E,hE⟩:=zx d.e
 obtain ⟨M,hM⟩:=zx o.length
 rw [<- hL] at hsh hL8 HN HRAW HAT
 rw [<- hNN] at hn64 hpos hee HN hcap HCC HK2 hk1 hc1 HOL
 rw [<- hE] at hpl0 hee
 rw [<- hM] at ho64 ho1 HRAW PL
 rw [<- hNN,<- hE,<- hM]
 have HL:=zh hL; have HNE:=zh hNN; have HM:=zh hM
 clear hL hNN hE hM
 obtain ⟨hcp1,hcp2⟩:=hcap
 have hcE:=HCC.out E hee
 have heei:(E:Int) < (N:Int):=by omega
 obtain ⟨pe,hpe⟩:∃ p:Nat,p = cl E:=⟨_,rfl⟩
 rw [<- hpe] at hpl0 hcE
 clear hpe he0
 go_enter Tryz.func99,Tryz.ntmps99
 go_upto_region 1 with fail
 refine zab (fun X => Below w.heap.size w X /\ Row X w.heap.size 25 #[.int .i64 (V:Int),.int .i64 (E:Int),.slice (some ⟨b3,o3,none⟩) N c3,.slice (some ⟨bk,ok,none⟩) N ck] /\ Row X (w.heap.size + 1) 25 #[.int .i64 0,.int .i64 0,.slice none 0 0,.slice none 0 0]) ⟨by go_grown,(Row.new _ _ _).alloc _,Row.lit (by simp)⟩ ?_
 rintro W0 ⟨hb,r3,r6⟩
 have hgt:w.heap.size + 1 < W0.heap.size:=r6.lt
 have HB:=zh hb; have R3:=zh r3; have R6:=zh r6
 have y0:=r3.cell 0; have y1:=r3.cell 1
 simp only [List.getElem?_toArray,List.getElem?_cons_zero,List.getElem?_cons_succ] at y0 y1
 have hcE0:=(hb.cell (p:=⟨bc,oc + E,none⟩) hbc).trans hcE
 clear hb r3 r6 hcE
 go_cut [7] from 13 to 22 (fun u7 W => ∃ g7:Nat,u7 = .pointer (some ⟨g7,0,none⟩) /\ QuoI w g7 V E e' (.slice (some ⟨b3,o3,none⟩) N c3) (.slice (some ⟨bk,ok,none⟩) N ck) (.slice none 0 0) (.slice none 0 0) [] [] W)
 case first =>
  refine wp_region_held_drew (S:=fun X => X.cell? ⟨w.heap.size,0,none⟩ = some (.int .i64 (V:Int)) /\ X.cell? ⟨w.heap.size,1,none⟩ = some (.int .i64 (E:Int)) /\ X.cell? ⟨bc,oc + E,none⟩ = some (.int .i64 (pe:Int))) (by kernel_rfl) (⟨y0,y1,hcE0⟩) (fun hHeld => ?_)
  refine tk 0 (oi:=⟨some 13,_,_,_,_,_⟩) ?_
  try simp only [zp]
  refine tk 1 (oi:=⟨some 14,_,_,_,_,_⟩) ?_
  try simp only [zp]
  refine tk 2 (oi:=⟨some 15,_,_,_,_,_⟩) ?_
  try simp only [zp]
  refine tk 3 (oi:=⟨some 16,_,_,_,_,_⟩) ?_
  try simp only [zp]
  refine tk 4 (oi:=⟨some 17,_,_,_,_,_⟩) ?_
  try simp only [zp]
  refine tk 5 (oi:=⟨some 18,_,_,_,_,_⟩) ?_
  try simp only [zp]
  refine tk 6 (oi:=⟨some 19,_,_,_,_,_⟩) ?_
  try simp only [zp]
  refine tk 7 (oi:=⟨some 20,_,_,_,_,_⟩) ?_
  try simp only [zp]
  have hal:=Below.alloc (Below.refl W0.heap.size W0) zn (.cells #[.int .i64 0,.int .i64 0,.slice none 0 0,.slice none 0 0] 25)
  have hdr:=(Below.refl W0.heap.size W0).drew
  have hda:Below W0.heap.size W0 (W0.drew.alloc (.cells #[.int .i64 0,.int .i64 0,.slice none 0 0,.slice none 0 0] 25)):=hdr.alloc zn _
  refine wpAnyH_ready (rs:=[8,10]) (by kernel_rfl) (by simp) ?_
  refine AllReadyH.cons rfl (fun K hK => ?_) (AllReadyH.cons rfl (fun K hK => ?_) AllReadyH.nil)
  ·go_simp
   (go_at_call 133; refine (PL.out _ HB.out.drew _).mono ?_; rintro ee wy ⟨rfl,rfl⟩; rw [hpl0])
   refine hK.out _ _ (⟨y0,y1,hcE0⟩) (fun hHeld1 => ?_)
   clear hK K hHeld
   try simp only [zp]
   refine tk 9 (oi:=⟨some 22,_,_,_,_,_⟩) ?_
   try simp only [zp]
   refine wpAnyH_ready (rs:=[10]) (by kernel_rfl) (by simp) ?_
   refine AllReadyH.cons rfl (fun K hK => ?_) AllReadyH.nil
   go_simp
   refine hK.out _ _ (⟨(R3.out.below hda R3.out.lt).cell 0,(R3.out.below hda R3.out.lt).cell 1,(hda.cell (p:=⟨bc,oc + E,none⟩) (Nat.lt_of_lt_of_le hbc HB.out.size)).trans hcE0⟩) (fun hHeld2 => ?_)
   clear hK K hHeld1
   try simp only [zp]
   refine wpAnyH_ready (rs:=[11]) (by kernel_rfl) (by simp) ?_
   refine AllReadyH.cons rfl (fun K hK => ?_) AllReadyH.nil
   have r7:Row (W0.drew.alloc (.cells #[.int .i64 0,.int .i64 0,.slice none 0 0,.slice none 0 0] 25)) W0.heap.size 25 #[.int .i64 0,.int .i64 0,.slice none 0 0,.slice none 0 0]:=Row.new _ _ _
   have z0:=r7.cell; have z1:=r7.free; have z2:=r7.lt
   go_simp
   have kB:Below W0.heap.size W0 (W0.alloc (.cells #[.int .i64 (V:Int),.int .i64 (e':Int),.slice none 0 0,.slice none 0 0] 25)).drew:=(Below.alloc (Below.refl W0.heap.size W0) zn _).drew
   have k3:=R3.out.below kB R3.out.lt
   have k6:=R6.out.below kB R6.out.lt
   have k7:Row (W0.alloc (.cells #[.int .i64 (V:Int),.int .i64 (e':Int),.slice none 0 0,.slice none 0 0] 25)).drew W0.heap.size 25 #[.int .i64 (V:Int),.int .i64 (e':Int),.slice none 0 0,.slice none 0 0]:=(Row.new W0 _ _).drew
   have kc:=(kB.cell (p:=⟨bc,oc + E,none⟩) (Nat.lt_of_lt_of_le hbc HB.out.size)).trans hcE0
   refine hK.out _ _ (⟨k3.cell 0,k3.cell 1,kc⟩) (fun hHeld9 => ?_)
   clear hK K hHeld9
   try simp only [zp]
   refine wpAnyH_done (by kernel_rfl) ?_ _
   have HQ:=zh (QuoI.mk (vN:=.slice none 0 0) (vF:=.slice none 0 0) (L3:=[]) (lf:=[]) (HB.out.trans (kB.mono HB.out.size)) (by have:=R3.out.lt; omega) k3 k6 k7 (by omega) ⟨[],VO.nil _ _ _,rfl,fun i u h => by simp at h⟩ (VO.nil _ _ _))
   clear z0 z1 z2 r7 k3 k6 k7 kB kc hda hdr hal y0 y1 hcE0
   go_wp2
   go_meet
   exact ⟨_,rfl,HQ.out⟩
  ·go_simp
   refine hK.out _ _ (⟨(R3.out.below hda R3.out.lt).cell 0,(R3.out.below hda R3.out.lt).cell 1,(hda.cell (p:=⟨bc,oc + E,none⟩) (Nat.lt_of_lt_of_le hbc HB.out.size)).trans hcE0⟩) (fun hHeld1 => ?_)
   clear hK K hHeld
   try simp only [zp]
   refine wpAnyH_ready (rs:=[8]) (by kernel_rfl) (by simp) ?_
   refine AllReadyH.cons rfl (fun K hK => ?_) AllReadyH.nil
   go_simp
   (go_at_call 133; refine (PL.out _ (HB.out.trans (hda.mono HB.out.size)) _).mono ?_; rintro ee wy ⟨rfl,rfl⟩; rw [hpl0])
   refine hK.out _ _ (⟨(R3.out.below hda R3.out.lt).cell 0,(R3.out.below hda R3.out.lt).cell 1,(hda.cell (p:=⟨bc,oc + E,none⟩) (Nat.lt_of_lt_of_le hbc HB.out.size)).trans hcE0⟩) (fun hHeld2 => ?_)
   clear hK K hHeld1
   try simp only [zp]
   refine tk 9 (oi:=⟨some 22,_,_,_,_,_⟩) ?_
   try simp only [zp]
   refine wpAnyH_ready (rs:=[11]) (by kernel_rfl) (by simp) ?_
   refine AllReadyH.cons rfl (fun K hK => ?_) AllReadyH.nil
   have r7:Row (W0.drew.alloc (.cells #[.int .i64 0,.int .i64 0,.slice none 0 0,.slice none 0 0] 25)) W0.heap.size 25 #[.int .i64 0,.int .i64 0,.slice none 0 0,.slice none 0 0]:=Row.new _ _ _
   have z0:=r7.cell; have z1:=r7.free; have z2:=r7.lt
   go_simp
   have kB:Below W0.heap.size W0 (W0.alloc (.cells #[.int .i64 (V:Int),.int .i64 (e':Int),.slice none 0 0,.slice none 0 0] 25)).drew:=(Below.alloc (Below.refl W0.heap.size W0) zn _).drew
   have k3:=R3.out.below kB R3.out.lt
   have k6:=R6.out.below kB R6.out.lt
   have k7:Row (W0.alloc (.cells #[.int .i64 (V:Int),.int .i64 (e':Int),.slice none 0 0,.slice none 0 0] 25)).drew W0.heap.size 25 #[.int .i64 (V:Int),.int .i64 (e':Int),.slice none 0 0,.slice none 0 0]:=(Row.new W0 _ _).drew
   have kc:=(kB.cell (p:=⟨bc,oc + E,none⟩) (Nat.lt_of_lt_of_le hbc HB.out.size)).trans hcE0
   refine hK.out _ _ (⟨k3.cell 0,k3.cell 1,kc⟩) (fun hHeld9 => ?_)
   clear hK K hHeld9
   try simp only [zp]
   refine wpAnyH_done (by kernel_rfl) ?_ _
   have HQ:=zh (QuoI.mk (vN:=.slice none 0 0) (vF:=.slice none 0 0) (L3:=[]) (lf:=[]) (HB.out.trans (kB.mono HB.out.size)) (by have:=R3.out.lt; omega) k3 k6 k7 (by omega) ⟨[],VO.nil _ _ _,rfl,fun i u h => by simp at h⟩ (VO.nil _ _ _))
   clear z0 z1 z2 r7 k3 k6 k7 kB kc hda hdr hal y0 y1 hcE0
   go_wp2
   go_meet
   exact ⟨_,rfl,HQ.out⟩
 case rest =>
  obtain ⟨g7,rfl,hq⟩:=hcut
  clear HB R3 R6 y0 y1 hcE0 hgt hpl0
  have HQ:=zh hq
  clear hq
  go_wp2
  go_loopg [8] M (fun gk q8 W => ∃ (i:Nat) (vN vF:Value),i <= M /\ gk = M - i /\ q8 = .int .i64 i /\ QuoI w g7 V E e' (.slice (some ⟨b3,o3,none⟩) N c3) (.slice (some ⟨bk,ok,none⟩) N ck) vN vF (rwI f L M i) (finL ff i) W)
  case atStart => exact ⟨0,_,_,Nat.zero_le _,rfl,rfl,HQ.out⟩
  case round =>
   clear HQ
   obtain ⟨i,vN,vF,hi,rfl,rfl,hq⟩:=hrel
   obtain ⟨wl,hwl⟩:=zx wr
   subst hwl
   have HQ:=zh hq
   clear hq
   by_cases hlt:i < M
   ·have hlti:(i:Int) < (M:Int):=by omega
    obtain ⟨a,ha⟩:∃ a,o[i]? = some a:=⟨_,List.getElem?_eq_getElem (by rw [<- HM.out]; exact hlt)⟩
    have haN:a < N:=HOL.out a (List.mem_of_getElem? ha)
    have hcoa:=HOC.out i a ha
    have HA:=zh ha
    clear ha
    go_wp2
    go_loopg [9,10] M (fun gk q9 q10 W => ∃ k:Nat,k <= M /\ gk = M - k /\ q10 = .int .i64 k /\ Below wl.heap.size wl W /\ O2 W wl.heap.size q9 (rwK f L i k))
    case atStart => exact ⟨0,Nat.zero_le _,rfl,rfl,Below.refl _ _,[],VO.nil _ _ _,rfl,fun i u h => by simp at h⟩
    case round =>
     obtain ⟨k,hk,rfl,rfl,hbl,vs,hv1,hv2⟩:=hrel
     obtain ⟨wx,hwx⟩:=zx wr
     subst hwx
     obtain ⟨A9,c9,rfl⟩:=VO.formN (n:=k) hv1 (by rw [hv2.1,zer])
     have HBL:=zh hbl; have HV1:=zh hv1; have HV2:=zh hv2
     clear hbl hv1 hv2
     by_cases hkt:k < M
     ·have hkti:(k:Int) < (M:Int):=by omega
      obtain ⟨b,hbb⟩:∃ b,o[k]? = some b:=⟨_,List.getElem?_eq_getElem (by rw [<- HM.out]; exact hkt)⟩
      have hbN:b < N:=HOL.out b (List.mem_of_getElem? hbb)
      have hcob:=HOC.out k b hbb
      have HBBk:=zh hbb
      clear hbb
      go_wp2
      go_loopg [11,12] L (fun gk q11 q12 W => ∃ x:Nat,x <= L /\ gk = L - x /\ q12 = .int .i64 x /\ Below wx.heap.size wx W /\ O1 W wx.heap.size q11 (rwX f i k x))
      case atStart => exact ⟨0,Nat.zero_le _,rfl,rfl,Below.refl _ _,VO.nil _ _ _⟩
      case round =>
       obtain ⟨x,hx,rfl,rfl,hbx,ho⟩:=hrel
       obtain ⟨W,hW⟩:=zx wr
       subst hW
       obtain ⟨A11,c11,rfl⟩:=VO.formN (n:=x) ho (by rw [zag,zfw])
       have HBX:=zh hbx; have HO:=zh ho
       clear hbx ho
       have r3W:=((HQ.out.r3.below HBL.out HQ.out.r3.lt)).below HBX.out (Nat.lt_of_lt_of_le HQ.out.r3.lt HBL.out.size)
       have hWb:=(HQ.out.below.trans (HBL.out.mono HQ.out.below.size)).trans (HBX.out.mono (Nat.le_trans HQ.out.below.size HBL.out.size))
       by_cases hxt:x < L
       ·have hxti:(x:Int) < (L:Int):=by omega
        obtain ⟨b2,o2,c2,b1,o1,c1,e1,e2,e3,e4,e5,e6,e7,e8⟩:=HN.out a b x haN hbN hxt
        obtain ⟨s,hs⟩:=zx (d.nx a b x)
        have hsN:s < N:=by rw [hs,HNE.out]; exact HD.out.hn _ _ _ (by rw [<- HNE.out]; exact haN) (by rw [<- HNE.out]; exact hbN) (by rw [<- HL.out]; exact hxt)
        have hplv:=HAT.out i k x a b HA.out HBBk.out hxt
        rw [<- hs] at e8 hplv
        have hccs:=HCC.out s hsN
        obtain ⟨pc,hpc⟩:∃ p:Nat,p = cl s:=⟨_,rfl⟩
        obtain ⟨fv,hfv⟩:∃ p:Nat,p = f i k x:=⟨_,rfl⟩
        rw [<- hpc,<- hfv] at hplv
        rw [<- hpc] at hccs
        have hai:(a:Int) < (N:Int):=by omega
        have hbi:(b:Int) < (N:Int):=by omega
        have hsi:(s:Int) < (N:Int):=by omega
        have HSX:Hid (∀ X,Below w.heap.size w X -> Row X w.heap.size 25 #[.int .i64 (V:Int),.int .i64 (E:Int),.slice (some ⟨b3,o3,none⟩) N c3,.slice (some ⟨bk,ok,none⟩) N ck] -> X.cell? ⟨w.heap.size,2,none⟩ = some (.slice (some ⟨b3,o3,none⟩) N c3) /\ X.cell? ⟨bo,oo + i,none⟩ = some (.int .i64 (a:Int)) /\ X.cell? ⟨bo,oo + k,none⟩ = some (.int .i64 (b:Int)) /\ X.cell? ⟨b3,o3 + a,none⟩ = some (.slice (some ⟨b2,o2,none⟩) N c2) /\ X.cell? ⟨b2,o2 + b,none⟩ = some (.slice (some ⟨b1,o1,none⟩) L c1) /\ X.cell? ⟨b1,o1 + x,none⟩ = some (.int .i64 (s:Int)) /\ X.cell? ⟨bc,oc + s,none⟩ = some (.int .i64 (pc:Int))):=fun X hb hr =>
         ⟨(hr.cell 2).trans rfl,(hb.cell (p:=⟨bo,oo + i,none⟩) hbo).trans hcoa,(hb.cell (p:=⟨bo,oo + k,none⟩) hbo).trans hcob,(hb.cell (p:=⟨b3,o3 + a,none⟩) e1).trans e2,(hb.cell (p:=⟨b2,o2 + b,none⟩) e4).trans e5,(hb.cell (p:=⟨b1,o1 + x,none⟩) e7).trans e8,(hb.cell (p:=⟨bc,oc + s,none⟩) hbc).trans hccs⟩
        have hplv':=hplv
        have HWB:=zh hWb; have R3W:=zh r3W; have HFV:=zh hfv
        clear hs e1 e2 e4 e5 e7 e8 hccs hpc hfv hplv hWb r3W
        have y0:=R3W.out.cell
        go_upto_region 13 with fail
        clear y0
        refine wp_region_held_drew (S:=fun X => X.cell? ⟨w.heap.size,2,none⟩ = some (.slice (some ⟨b3,o3,none⟩) N c3) /\ X.cell? ⟨bo,oo + i,none⟩ = some (.int .i64 (a:Int)) /\ X.cell? ⟨bo,oo + k,none⟩ = some (.int .i64 (b:Int)) /\ X.cell? ⟨b3,o3 + a,none⟩ = some (.slice (some ⟨b2,o2,none⟩) N c2) /\ X.cell? ⟨b2,o2 + b,none⟩ = some (.slice (some ⟨b1,o1,none⟩) L c1) /\ X.cell? ⟨b1,o1 + x,none⟩ = some (.int .i64 (s:Int)) /\ X.cell? ⟨bc,oc + s,none⟩ = some (.int .i64 (pc:Int))) (by kernel_rfl) (HSX.out _ HWB.out.drew R3W.out.drew) (fun hHeld => ?_)
        refine tk 0 (oi:=⟨some 42,_,_,_,_,_⟩) ?_
        try simp only [zp]
        refine tk 1 (oi:=⟨some 43,_,_,_,_,_⟩) ?_
        try simp only [zp]
        refine tk 2 (oi:=⟨some 44,_,_,_,_,_⟩) ?_
        try simp only [zp]
        refine tk 3 (oi:=⟨some 45,_,_,_,_,_⟩) ?_
        try simp only [zp]
        refine tk 4 (oi:=⟨some 46,_,_,_,_,_⟩) ?_
        try simp only [zp]
        refine tk 5 (oi:=⟨some 47,_,_,_,_,_⟩) ?_
        try simp only [zp]
        refine tk 6 (oi:=⟨some 48,_,_,_,_,_⟩) ?_
        try simp only [zp]
        refine tk 7 (oi:=⟨some 49,_,_,_,_,_⟩) ?_
        try simp only [zp]
        refine tk 8 (oi:=⟨some 50,_,_,_,_,_⟩) ?_
        try simp only [zp]
        refine tk 9 (oi:=⟨some 51,_,_,_,_,_⟩) ?_
        try simp only [zp]
        refine tk 10 (oi:=⟨some 52,_,_,_,_,_⟩) ?_
        try simp only [zp]
        refine tk 11 (oi:=⟨some 53,_,_,_,_,_⟩) ?_
        try simp only [zp]
        refine tk 12 (oi:=⟨some 54,_,_,_,_,_⟩) ?_
        try simp only [zp]
        refine tk 13 (oi:=⟨some 55,_,_,_,_,_⟩) ?_
        try simp only [zp]
        refine tk 14 (oi:=⟨some 56,_,_,_,_,_⟩) ?_
        try simp only [zp]
        refine tk 15 (oi:=⟨some 57,_,_,_,_,_⟩) ?_
        try simp only [zp]
        refine tk 16 (oi:=⟨some 58,_,_,_,_,_⟩) ?_
        try simp only [zp]
        refine tk 17 (oi:=⟨some 59,_,_,_,_,_⟩) ?_
        try simp only [zp]
        refine tk 18 (oi:=⟨some 60,_,_,_,_,_⟩) ?_
        try simp only [zp]
        refine tk 19 (oi:=⟨some 61,_,_,_,_,_⟩) ?_
        try simp only [zp]
        refine tk 20 (oi:=⟨some 62,_,_,_,_,_⟩) ?_
        try simp only [zp]
        refine tk 21 (oi:=⟨some 63,_,_,_,_,_⟩) ?_
        try simp only [zp]
        refine wpAnyH_ready (rs:=[22]) (by kernel_rfl) (by simp) ?_
        refine AllReadyH.cons rfl (fun K hK => ?_) AllReadyH.nil
        go_simp
        (go_at_call 133; refine (PL.out _ HWB.out.drew _).mono ?_; rintro ee wy ⟨rfl,rfl⟩; rw [hplv'])
        refine hK.out _ _ (HSX.out _ HWB.out.drew R3W.out.drew) (fun hHeld1 => ?_)
        clear hK K hHeld
        try simp only [zp]
        refine wpAnyH_ready (rs:=[23]) (by kernel_rfl) (by simp) ?_
        refine AllReadyH.cons rfl (fun K hK => ?_) AllReadyH.nil
        go_simp
        have hal:=HWB.out.drew.alloc HWB.out.size (.cells #[.int .i64 (fv:Int)] 3)
        have ral:=R3W.out.drew.alloc (.cells #[.int .i64 (fv:Int)] 3)
        refine hK.out _ _ (HSX.out _ hal ral) (fun hHeld2 => ?_)
        clear hK K hHeld1
        try simp only [zp]
        refine wpAnyH_ready (rs:=[24]) (by kernel_rfl) (by simp) ?_
        refine AllReadyH.cons rfl (fun K hK => ?_) AllReadyH.nil
        refine zak eI rfl (.tmp 42) (.tmp 65) rfl wx.heap.size _ _ rfl (VO.allocd (VO.below HO.out (Below.refl W.heap.size W).drew zn) _) _ [.int .i64 (fv:Int)] rfl (VS.one (by first | exact Row.new _ _ _ | exact Row.lit rfl | exact Row.litd rfl)) (by intro u hu; simp at hu; subst hu; rfl) (by rw [zag,zfw]; simp; omega) (by have:=HBX.out.size; go_grown) ?_; intro v4 w4 ho4 hg4 _; obtain ⟨A4,c4,rfl⟩:=VO.formN (n:=x + 1) ho4 (by rw [List.length_append,zag,zfw]; rfl)
        have HO4:Hid (O1 w4 wx.heap.size (.slice A4 (x + 1) c4) (rwX f i k (x + 1))):=by have:=ho4; rw [HFV.out,<- zce,<- zk0] at this; exact this
        have hB4:Below wx.heap.size wx w4:=zae (w:=wx) (HBX.out.drew.alloc (by have:=HBX.out.size; exact this) _) (VO.allocd (VO.below HO.out (Below.refl W.heap.size W).drew zn) (.cells #[.int .i64 (fv:Int)] 3)) hg4 (by have:=HBX.out.size; go_grown)
        have HB4:=zh hB4
        have hw4:Below w.heap.size w w4:=(HQ.out.below.trans (HBL.out.mono HQ.out.below.size)).trans (hB4.mono (Nat.le_trans HQ.out.below.size HBL.out.size))
        have r34:=((HQ.out.r3.below HBL.out HQ.out.r3.lt)).below hB4 (Nat.lt_of_lt_of_le HQ.out.r3.lt HBL.out.size)
        clear ho4 hg4 hB4
        refine hK.out _ _ (HSX.out _ hw4 r34) (fun hHeld3 => ?_)
        clear hK K hHeld2
        try simp only [zp]
        refine tk 25 (oi:=⟨some 11,_,_,_,_,_⟩) ?_
        try simp only [zp]
        refine wpAnyH_done (by kernel_rfl) ?_ _
        clear hw4 r34 hal ral hHeld3
        go_wp2
        go_roundg (L - (x + 1))
        case rel => exact ⟨x + 1,by omega,rfl,by go_num,HB4.out,HO4.out⟩
        case measure => omega
       ·obtain rfl:x = L:=by omega
        have y0:=r3W.cell
        have HV1W:=zh (HV1.out.below HBX.out zn)
        have HV2W:=zh (V1.below HV2.out HBX.out zn)
        clear hWb
        go_wp2_with (at_builtin; refine zaa eII rfl (.tmp 67) (.tmp 69) rfl wl.heap.size _ _ rfl (VO.allocd HV1W.out _) _ [.slice A11 x c11] rfl (VS.one (Row.new _ _ _)) (by intro u hu; simp at hu; subst hu; rfl) (by rw [HV2.out.1,zer]; simp; omega) (by simp only [World.size_alloc]; have:=HBX.out.size; have:=HBL.out.size; omega) ?_; intro v4 w4 ho4 hg4 _; obtain ⟨A4,c4,rfl⟩:=VO.formN (n:=k + 1) ho4 (by rw [List.length_append,HV2.out.1,zer]; rfl); have HO4:=zh ho4; have HG4:=zh hg4; clear ho4 hg4)
        have hV24:=V1.far (V1.below HV2W.out (Below.alloc (Below.refl W.heap.size W) zn _) zn) (by decide) (VO.allocd HV1W.out _) HG4.out
        have hO14:=O1.far (O1.below HO.out (Below.alloc (Below.refl W.heap.size W) zn _) zn) (by decide) (VO.allocd HV1W.out _) HG4.out
        have hB4:Below wl.heap.size wl w4:=zae (w:=wl) ((HBL.out.trans (HBX.out.mono HBL.out.size)).alloc (by have:=HBX.out.size; have:=HBL.out.size; omega) _) (VO.allocd HV1W.out _) HG4.out (by simp only [World.size_alloc]; have:=HBX.out.size; have:=HBL.out.size; omega)
        have hV5:=hV24.snoc (hO14.mono HBL.out.size)
        have H4:=zh hV5; have HB4:=zh hB4
        clear hV24 hO14 hB4 hV5 y0
        try go_wp2
        go_roundg (M - (k + 1))
        case rel => exact ⟨k + 1,by omega,rfl,by go_num,HB4.out,⟨_,HO4.out,by rw [zk1]; exact H4.out⟩⟩
        case measure => omega
     ·obtain rfl:k = M:=by omega
      have HQX:=zh (HQ.out.to HBL.out)
      have O2X:=zh (show O2 wx wl.heap.size (.slice A9 k c9) (rwK f L i k) from ⟨vs,HV1.out,HV2.out⟩)
      have hbs:=HQ.out.below.size
      obtain ⟨vsn,hvn,hvn2⟩:=HQX.out.o3
      obtain ⟨An,cn,rfl⟩:=VO.formN (n:=i) hvn (by rw [hvn2.1,zc5])
      obtain ⟨Af,cf,rfl⟩:=VO.formN (n:=i) HQX.out.of (by rw [zat,zbu])
      have VNh:=zh hvn; have VN2:=zh hvn2
      have z0:=HQX.out.r7.cell; have z1:=HQX.out.r7.free
      clear hvn hvn2 HV1 HV2
      go_upto_region 16 with (at_builtin; refine zaa eIII rfl (.tmp 72) (.tmp 74) rfl w.heap.size _ _ rfl (VO.allocd VNh.out _) _ [.slice A9 k c9] rfl (VS.one (Row.new _ _ _)) (by intro u hu; simp at hu; subst hu; rfl) (by rw [VN2.out.1,zc5]; simp; omega) (by simp only [World.size_alloc]; have:=HQX.out.below.size; omega) ?_; intro v4 w4 ho4 hg4 _; obtain ⟨A4,c4,rfl⟩:=VO.formN (n:=i + 1) ho4 (by rw [List.length_append,VN2.out.1,zc5]; rfl); have HO4:=zh ho4; have HG4:=zh hg4; have R74:=zh ((Row.alloc HQX.out.r7 _).far_own (by decide) (VO.allocd VNh.out _).2 hg4); have z2:=R74.out.cell; have z3:=R74.out.free; clear ho4 hg4)
      have hA:=Below.alloc (Below.refl wx.heap.size wx) zn (.cells #[.slice A9 k c9] 54)
      have hV24:=V2.far (V2.below VN2.out hA zn) (by decide) (by decide) (VO.allocd VNh.out _) HG4.out
      have hO24:=O2.far (O2.below O2X.out hA zn) (by decide) (by decide) (VO.allocd VNh.out _) HG4.out
      have hF4:=OB.far (OB.below HQX.out.of hA zn) (by decide) (VO.allocd VNh.out _) HG4.out
      have hB4:Below w.heap.size w w4:=zae (w:=w) (HQX.out.below.alloc (by have:=HQX.out.below.size; omega) _) (VO.allocd VNh.out _) HG4.out (by simp only [World.size_alloc]; have:=HQX.out.below.size; omega)
      have hR34:=(Row.alloc HQX.out.r3 (.cells #[.slice A9 k c9] 54)).far_own (by decide) (VO.allocd VNh.out _).2 HG4.out
      have hR64:=(Row.alloc HQX.out.r6 (.cells #[.slice A9 k c9] 54)).far_own (by decide) (VO.allocd VNh.out _).2 HG4.out
      have hO34:O3 w4 w.heap.size (.slice A4 (i + 1) c4) (rwI f L k (i + 1)):=⟨_,HO4.out,by rw [zk2]; exact hV24.snoc (hO24.mono hbs)⟩
      have hgB:=HQ.out.gB; have hn7:=HQ.out.ne7
      refine zab (fun X => QuoI w g7 V E e' (.slice (some ⟨b3,o3,none⟩) N c3) (.slice (some ⟨bk,ok,none⟩) N ck) (.slice A4 (i + 1) c4) (.slice Af i cf) (rwI f L k (i + 1)) (finL ff i) X)
       ⟨hB4.setCell (p:=⟨g7,2,none⟩) (by show w.heap.size <= g7; omega) _,hgB,hR34.far (by show w.heap.size ≠ g7; omega) _,hR64.far (by show w.heap.size + 1 ≠ g7; omega) _,R74.out.set 2 _,hn7,hO34.setRow R74.out (by decide) (by decide) (by decide) 2 _,hF4.setRow R74.out (by decide) 2 _⟩ ?_
      clear hA hV24 hO24 hF4 hB4 hR34 hR64 hO34 z0 z1 z2 z3 R74 HO4 HG4 VNh VN2 O2X HQ HQX HBL
      rintro X hq
      have HQ:=zh hq
      clear hq
      have hfi:=HFI.out i a HA.out
      have hkf:=HK2.out a haN
      rw [hfi] at hkf
      obtain ⟨fb',hfb⟩:=zx (ff i)
      rw [<- hfb] at hkf
      have HFB:=zh hfb
      have hai:(a:Int) < (N:Int):=by omega
      have HSX:Hid (∀ Y,Below w.heap.size w Y -> Row Y w.heap.size 25 #[.int .i64 (V:Int),.int .i64 (E:Int),.slice (some ⟨b3,o3,none⟩) N c3,.slice (some ⟨bk,ok,none⟩) N ck] -> Y.cell? ⟨w.heap.size,3,none⟩ = some (.slice (some ⟨bk,ok,none⟩) N ck) /\ Y.cell? ⟨bo,oo + i,none⟩ = some (.int .i64 (a:Int)) /\ Y.cell? ⟨bk,ok + a,none⟩ = some (.bool fb')):=fun Y hb hr =>
       ⟨(hr.cell 3).trans rfl,(hb.cell (p:=⟨bo,oo + i,none⟩) hbo).trans hcoa,(hb.cell (p:=⟨bk,ok + a,none⟩) hbk).trans hkf⟩
      clear hfi hkf hfb
      have hal:=HQ.out.below.drew.alloc HQ.out.below.size (.cells #[.bool fb'] 4)
      have ral:=HQ.out.r3.drew.alloc (.cells #[.bool fb'] 4)
      have y7:=HQ.out.r7.cell; have l7:=HQ.out.r7.lt
      have y9:=(HQ.out.r7.drew.alloc (.cells #[.bool fb'] 4)).cell
      refine wp_region_held_drew (S:=fun Y => Y.cell? ⟨w.heap.size,3,none⟩ = some (.slice (some ⟨bk,ok,none⟩) N ck) /\ Y.cell? ⟨bo,oo + i,none⟩ = some (.int .i64 (a:Int)) /\ Y.cell? ⟨bk,ok + a,none⟩ = some (.bool fb')) (by kernel_rfl) (HSX.out _ HQ.out.below.drew HQ.out.r3.drew) (fun hHeld => ?_)
      refine tk 0 (oi:=⟨some 77,_,_,_,_,_⟩) ?_
      try simp only [zp]
      refine tk 2 (oi:=⟨some 79,_,_,_,_,_⟩) ?_
      try simp only [zp]
      refine tk 3 (oi:=⟨some 80,_,_,_,_,_⟩) ?_
      try simp only [zp]
      refine tk 4 (oi:=⟨some 81,_,_,_,_,_⟩) ?_
      try simp only [zp]
      refine tk 5 (oi:=⟨some 82,_,_,_,_,_⟩) ?_
      try simp only [zp]
      refine tk 6 (oi:=⟨some 83,_,_,_,_,_⟩) ?_
      try simp only [zp]
      refine tk 7 (oi:=⟨some 84,_,_,_,_,_⟩) ?_
      try simp only [zp]
      refine tk 8 (oi:=⟨some 85,_,_,_,_,_⟩) ?_
      try simp only [zp]
      refine tk 9 (oi:=⟨some 86,_,_,_,_,_⟩) ?_
      try simp only [zp]
      refine wpAnyH_ready (rs:=[1,10]) (by kernel_rfl) (by simp) ?_
      refine AllReadyH.cons rfl (fun K hK => ?_) (AllReadyH.cons rfl (fun K hK => ?_) AllReadyH.nil)
      ·go_simp
       refine hK.out _ _ (HSX.out _ HQ.out.below.drew HQ.out.r3.drew) (fun hHeld1 => ?_)
       clear hK K hHeld
       try simp only [zp]
       refine wpAnyH_ready (rs:=[10]) (by kernel_rfl) (by simp) ?_
       refine AllReadyH.cons rfl (fun K hK => ?_) AllReadyH.nil
       go_simp
       refine hK.out _ _ (HSX.out _ hal ral) (fun hHeld2 => ?_)
       clear hK K hHeld1
       try simp only [zp]
       refine wpAnyH_ready (rs:=[11]) (by kernel_rfl) (by simp) ?_
       refine AllReadyH.cons rfl (fun K hK => ?_) AllReadyH.nil
       refine zak eB rfl (.tmp 78) (.tmp 87) rfl w.heap.size _ _ rfl (VO.allocd (VO.below HQ.out.of (Below.refl X.heap.size X).drew zn) _) _ [.bool fb'] rfl (VS.one (by first | exact Row.new _ _ _ | exact Row.lit rfl | exact Row.litd rfl)) (by intro u hu; simp at hu; subst hu; rfl) (by rw [zat,zbu]; simp; omega) (by have:=HQ.out.below.size; go_grown) ?_; intro v4 w4 ho4 hg4 _; obtain ⟨A5,c5,rfl⟩:=VO.formN (n:=i + 1) ho4 (by rw [List.length_append,zat,zbu]; rfl)
       have HO5:Hid (OB w4 w.heap.size (.slice A5 (i + 1) c5) (finL ff (i + 1))):=by have:=ho4; rw [HFB.out,show bL (finL ff i) ++ [Value.bool (ff i)] = bL (finL ff i ++ [ff i]) from by simp [bL],<- zge] at this; exact this
       have HQ5:Hid (QuoI w g7 V E e' (.slice (some ⟨b3,o3,none⟩) N c3) (.slice (some ⟨bk,ok,none⟩) N ck) (.slice A4 (i + 1) c4) (.slice Af i cf) (rwI f L k (i + 1)) [] w4 \/ True):=.inr trivial
       clear HQ5
       have hB5:Below w.heap.size w w4:=zae (w:=w) hal (VO.allocd (VO.below HQ.out.of (Below.refl X.heap.size X).drew zn) (.cells #[.bool fb'] 4)) hg4 (by have:=HQ.out.below.size; go_grown)
       have h35:=ral.far_own (by decide) (VO.allocd (VO.below HQ.out.of (Below.refl X.heap.size X).drew zn) (.cells #[.bool fb'] 4)).2 hg4
       have h65:=(HQ.out.r6.drew.alloc (.cells #[.bool fb'] 4)).far_own (by decide) (VO.allocd (VO.below HQ.out.of (Below.refl X.heap.size X).drew zn) (.cells #[.bool fb'] 4)).2 hg4
       have h75:=(HQ.out.r7.drew.alloc (.cells #[.bool fb'] 4)).far_own (by decide) (VO.allocd (VO.below HQ.out.of (Below.refl X.heap.size X).drew zn) (.cells #[.bool fb'] 4)).2 hg4
       have hO5:=O3.far (O3.below (O3.below HQ.out.o3 (Below.refl X.heap.size X).drew zn) (Below.alloc (Below.refl X.drew.heap.size X.drew) zn (.cells #[.bool fb'] 4)) zn) (by decide) (by decide) (by decide) (VO.allocd (VO.below HQ.out.of (Below.refl X.heap.size X).drew zn) (.cells #[.bool fb'] 4)) hg4
       have HB5:=zh hB5; have H35:=zh h35; have H65:=zh h65; have H75:=zh h75; have H5:=zh hO5
       have z2:=h75.cell; have z3:=h75.free; have z4:=h75.lt
       clear ho4 hg4 hB5 h35 h65 h75 hO5
       refine hK.out _ _ (HSX.out _ HB5.out H35.out) (fun hHeld3 => ?_)
       clear hK K hHeld2
       try simp only [zp]
       refine tk 12 (oi:=⟨some 89,_,_,_,_,_⟩) ?_
       try simp only [zp]
       refine wpAnyH_ready (rs:=[13]) (by kernel_rfl) (by simp) ?_
       refine AllReadyH.cons rfl (fun K hK => ?_) AllReadyH.nil
       go_simp
       refine hK.out _ _ (HSX.out _ (HB5.out.setCell (p:=⟨g7,3,none⟩) (by show w.heap.size <= g7; omega) _) (H35.out.far (by show w.heap.size ≠ g7; omega) _)) (fun hHeld4 => ?_)
       clear hK K hHeld3
       try simp only [zp]
       refine wpAnyH_done (by kernel_rfl) ?_ _
       clear hal ral y7 y9 l7 z2 z3 z4 hHeld4
       go_wp2
       go_roundg (k - (i + 1))
       case rel => exact ⟨i + 1,_,_,by omega,rfl,by go_num,HB5.out.setCell (p:=⟨g7,3,none⟩) (by show w.heap.size <= g7; omega) _,hgB,H35.out.far (by show w.heap.size ≠ g7; omega) _,H65.out.far (by show w.heap.size + 1 ≠ g7; omega) _,H75.out.set 3 _,hn7,H5.out.setRow H75.out (by decide) (by decide) (by decide) 3 _,HO5.out.setRow H75.out (by decide) 3 _⟩
       case measure => omega
      ·go_simp
       refine hK.out _ _ (HSX.out _ hal ral) (fun hHeld1 => ?_)
       clear hK K hHeld
       try simp only [zp]
       refine wpAnyH_ready (rs:=[1]) (by kernel_rfl) (by simp) ?_
       refine AllReadyH.cons rfl (fun K hK => ?_) AllReadyH.nil
       go_simp
       refine hK.out _ _ (HSX.out _ hal ral) (fun hHeld2 => ?_)
       clear hK K hHeld1
       try simp only [zp]
       refine wpAnyH_ready (rs:=[11]) (by kernel_rfl) (by simp) ?_
       refine AllReadyH.cons rfl (fun K hK => ?_) AllReadyH.nil
       refine zak eB rfl (.tmp 78) (.tmp 87) rfl w.heap.size _ _ rfl (VO.allocd (VO.below HQ.out.of (Below.refl X.heap.size X).drew zn) _) _ [.bool fb'] rfl (VS.one (by first | exact Row.new _ _ _ | exact Row.lit rfl | exact Row.litd rfl)) (by intro u hu; simp at hu; subst hu; rfl) (by rw [zat,zbu]; simp; omega) (by have:=HQ.out.below.size; go_grown) ?_; intro v4 w4 ho4 hg4 _; obtain ⟨A5,c5,rfl⟩:=VO.formN (n:=i + 1) ho4 (by rw [List.length_append,zat,zbu]; rfl)
       have HO5:Hid (OB w4 w.heap.size (.slice A5 (i + 1) c5) (finL ff (i + 1))):=by have:=ho4; rw [HFB.out,show bL (finL ff i) ++ [Value.bool (ff i)] = bL (finL ff i ++ [ff i]) from by simp [bL],<- zge] at this; exact this
       have HQ5:Hid (QuoI w g7 V E e' (.slice (some ⟨b3,o3,none⟩) N c3) (.slice (some ⟨bk,ok,none⟩) N ck) (.slice A4 (i + 1) c4) (.slice Af i cf) (rwI f L k (i + 1)) [] w4 \/ True):=.inr trivial
       clear HQ5
       have hB5:Below w.heap.size w w4:=zae (w:=w) hal (VO.allocd (VO.below HQ.out.of (Below.refl X.heap.size X).drew zn) (.cells #[.bool fb'] 4)) hg4 (by have:=HQ.out.below.size; go_grown)
       have h35:=ral.far_own (by decide) (VO.allocd (VO.below HQ.out.of (Below.refl X.heap.size X).drew zn) (.cells #[.bool fb'] 4)).2 hg4
       have h65:=(HQ.out.r6.drew.alloc (.cells #[.bool fb'] 4)).far_own (by decide) (VO.allocd (VO.below HQ.out.of (Below.refl X.heap.size X).drew zn) (.cells #[.bool fb'] 4)).2 hg4
       have h75:=(HQ.out.r7.drew.alloc (.cells #[.bool fb'] 4)).far_own (by decide) (VO.allocd (VO.below HQ.out.of (Below.refl X.heap.size X).drew zn) (.cells #[.bool fb'] 4)).2 hg4
       have hO5:=O3.far (O3.below (O3.below HQ.out.o3 (Below.refl X.heap.size X).drew zn) (Below.alloc (Below.refl X.drew.heap.size X.drew) zn (.cells #[.bool fb'] 4)) zn) (by decide) (by decide) (by decide) (VO.allocd (VO.below HQ.out.of (Below.refl X.heap.size X).drew zn) (.cells #[.bool fb'] 4)) hg4
       have HB5:=zh hB5; have H35:=zh h35; have H65:=zh h65; have H75:=zh h75; have H5:=zh hO5
       have z2:=h75.cell; have z3:=h75.free; have z4:=h75.lt
       clear ho4 hg4 hB5 h35 h65 h75 hO5
       refine hK.out _ _ (HSX.out _ HB5.out H35.out) (fun hHeld3 => ?_)
       clear hK K hHeld2
       try simp only [zp]
       refine tk 12 (oi:=⟨some 89,_,_,_,_,_⟩) ?_
       try simp only [zp]
       refine wpAnyH_ready (rs:=[13]) (by kernel_rfl) (by simp) ?_
       refine AllReadyH.cons rfl (fun K hK => ?_) AllReadyH.nil
       go_simp
       refine hK.out _ _ (HSX.out _ (HB5.out.setCell (p:=⟨g7,3,none⟩) (by show w.heap.size <= g7; omega) _) (H35.out.far (by show w.heap.size ≠ g7; omega) _)) (fun hHeld4 => ?_)
       clear hK K hHeld3
       try simp only [zp]
       refine wpAnyH_done (by kernel_rfl) ?_ _
       clear hal ral y7 y9 l7 z2 z3 z4 hHeld4
       go_wp2
       go_roundg (k - (i + 1))
       case rel => exact ⟨i + 1,_,_,by omega,rfl,by go_num,HB5.out.setCell (p:=⟨g7,3,none⟩) (by show w.heap.size <= g7; omega) _,hgB,H35.out.far (by show w.heap.size ≠ g7; omega) _,H65.out.far (by show w.heap.size + 1 ≠ g7; omega) _,H75.out.set 3 _,hn7,H5.out.setRow H75.out (by decide) (by decide) (by decide) 3 _,HO5.out.setRow H75.out (by decide) 3 _⟩
       case measure => omega
   ·obtain rfl:i = M:=by omega
    obtain ⟨vsn,hvn,hvn2⟩:=HQ.out.o3
    obtain ⟨An,cn,rfl⟩:=VO.formN (n:=i) hvn (by rw [hvn2.1,zc5])
    obtain ⟨Af,cf,rfl⟩:=VO.formN (n:=i) HQ.out.of (by rw [zat,zbu])
    have hT:Hid (TDO wl w.heap.size (.agg #[.int .i64 (V:Int),.int .i64 (e':Int),.slice An i cn,.slice Af i cf]) ((d.quoL o cl).raw V)):=by unfold Hid; rw [HRAW.out]; exact ⟨_,_,rfl,HQ.out.o3,HQ.out.of⟩
    clear hvn hvn2
    have R6:=zh HQ.out.r6; have HB:=zh HQ.out.below
    have a0:=HQ.out.r7.cell; have a3:=HQ.out.r7.lt
    have b0:=R6.out.cell; have b1:=R6.out.free; have b3':=R6.out.lt
    have q0:=b0 0; have q1:=b0 1; have q2:=b0 2; have q3:=b0 3
    have p0:=a0 0; have p1:=a0 1; have p2:=a0 2; have p3:=a0 3
    simp only [zg] at q0 q1 q2 q3 p0 p1 p2 p3
    clear a0 b0 HQ
    go_wp2
    refine zad (fun W => Row W (w.heap.size + 1) 25 #[.int .i64 (V:Int),.int .i64 (e':Int),(.slice An i cn),(.slice Af i cf)] /\ TDO W w.heap.size (.agg #[.int .i64 (V:Int),.int .i64 (e':Int),.slice An i cn,.slice Af i cf]) ((d.quoL o cl).raw V) /\ Below w.heap.size w W) (zam R6.out hT.out HB.out (by omega)) ?_
    clear q0 q1 q2 q3 p0 p1 p2 p3 a3 b1 b3' R6 hT HB
    rintro W ⟨r0,hT,hb⟩
    have b0:=r0.cell
    have q0:=b0 0; have q1:=b0 1; have q2:=b0 2; have q3:=b0 3
    simp only [zg] at q0 q1 q2 q3
    have HT:=zh hT; have HBB:=zh hb
    clear b0 r0 hT hb
    refine bodyPost_ret (v:=.agg #[.int .i64 (V:Int),.int .i64 (e':Int),.slice An i cn,.slice Af i cf]) (by simp [results,Tryz.results99,go_sem,q0,q1,q2,q3]) rfl ?_
    exact ⟨_,rfl,HBB.out,HT.out⟩
end Go.Proofs.YthkfjnmnoanhlaaGreatDoor
