/- Part 34 of the proof; it says: lemmas and contracts. No conditions but those that each theorem states. -/
import Derived.BigRegion
import Derived.BigGuard
import Derived.Deep.RegionHeld3
import Derived.Test.YthkfjnmnoanhlaaGreatDoorPr01
import Derived.Test.YthkfjnmnoanhlaaGreatDoorPr24
import Derived.Test.YthkfjnmnoanhlaaGreatDoorPr31
import Derived.Test.YthkfjnmnoanhlaaGreatDoorPr32
import Derived.Test.YthkfjnmnoanhlaaGreatDoorPr33
set_option linter.unusedSimpArgs false
set_option linter.unusedVariables false
namespace Go.Proofs.YthkfjnmnoanhlaaGreatDoor
open Go.RowKit
structure PrI (w:World) (V EA EB:Nat) (vn vf un uf:Value) (W:World):Prop where
 below:Below w.heap.size w W
 ra:Row W w.heap.size 25 #[.int .i64 (V:Int),.int .i64 (EA:Int),vn,vf]
 rb:Row W (w.heap.size + 1) 25 #[.int .i64 (V:Int),.int .i64 (EB:Int),un,uf]
 rr:Row W (w.heap.size + 1 + 1) 25 #[.int .i64 0,.int .i64 0,.slice none 0 0,.slice none 0 0]
theorem PrI.to {w W X:World} {V EA EB:Nat} {vn vf un uf:Value} (h:PrI w V EA EB vn vf un uf W) (hb:Below W.heap.size W X):PrI w V EA EB vn vf un uf X :=
 ⟨h.below.trans (hb.mono h.below.size),h.ra.below hb h.ra.lt,h.rb.below hb h.rb.lt,h.rr.below hb h.rr.lt⟩
theorem PrI.own {w W X:World} {V EA EB:Nat} {vn vf un uf v:Value} {xs:List Value} {E:TypeId} (h:PrI w V EA EB vn vf un uf W) (hE:25 ≠ E) (hv:VO E W w.heap.size v xs) (hg:W.grownBy X v.ownBlock):PrI w V EA EB vn vf un uf X :=
 ⟨zae h.below hv hg h.below.size,h.ra.far_own hE hv.2 hg,h.rb.far_own hE hv.2 hg,h.rr.far_own hE hv.2 hg⟩
theorem zqm {a b:Dta} (ha:a.OK) (hb:b.OK) (hL:a.L = b.L):∀ p q x,inP a b p -> inP a b q -> x < a.L -> inP a b (pairF a b p q x) :=
 fun p q x hp hq hx => ⟨ha.hn _ _ _ hp.1 hq.1 hx,hb.hn _ _ _ hp.2 hq.2 (hL ▸ hx)⟩
structure PqI (w:World) (V EA EB gD:Nat) (vn vf un uf vN vF pk:Value) (ks:List (List Int)) (L3:List (List (List Int))) (lf:List Bool) (W:World):Prop where
 pr:PrI w V EA EB vn vf un uf W
 gB:w.heap.size + 1 + 1 < gD
 rd:Row W gD 25 #[.int .i64 (V:Int),.int .i64 0,vN,vF]
 o3:O3 W w.heap.size vN L3
 of:OB W w.heap.size vF lf
 ok:O2 W w.heap.size pk ks
theorem PqI.to {w W X:World} {V EA EB gD:Nat} {vn vf un uf vN vF pk:Value} {ks:List (List Int)} {L3:List (List (List Int))} {lf:List Bool} (h:PqI w V EA EB gD vn vf un uf vN vF pk ks L3 lf W) (hb:Below W.heap.size W X):PqI w V EA EB gD vn vf un uf vN vF pk ks L3 lf X :=
 ⟨h.pr.to hb,h.gB,h.rd.below hb h.rd.lt,h.o3.below hb zn,OB.below h.of hb zn,h.ok.below hb zn⟩
theorem PqI.next {w W X:World} {V EA EB gD i c':Nat} {vn vf un uf vF pk u v4:Value} {A:Option Addr} {vs:List Value} {ks:List (List Int)} {L3:List (List (List Int))} {l2:List (List Int)} {lf:List Bool} (h:PqI w V EA EB gD vn vf un uf (.slice A i c') vF pk ks L3 lf W)
  (h1:VO 54 W w.heap.size (.slice A i c') vs) (h2:V2 W w.heap.size vs L3) (hu:O2 W w.heap.size u l2) (ho:VO 54 X w.heap.size v4 (vs ++ [u])) (hg:(W.alloc (.cells #[u] 54)).grownBy X (Value.slice A i c').ownBlock) :
  PqI w V EA EB gD vn vf un uf v4 vF pk ks (L3 ++ [l2]) lf (X.setCell ⟨gD,2,none⟩ v4) /\ ∀ g cs,Row W g 3 cs -> Row (X.setCell ⟨gD,2,none⟩ v4) g 3 cs:=by
 have hA:=Below.alloc (Below.refl W.heap.size W) zn (.cells #[u] 54)
 have hv:=VO.allocd h1 (.cells #[u] 54)
 have hV24:=V2.far (V2.below h2 hA zn) (by decide) (by decide) hv hg
 have hO24:=O2.far (O2.below hu hA zn) (by decide) (by decide) hv hg
 have hF4:=OB.far (OB.below h.of hA zn) (by decide) hv hg
 have hK4:=O2.far (O2.below h.ok hA zn) (by decide) (by decide) hv hg
 have hP:=PrI.own (h.pr.to hA) (by decide) hv hg
 have hR:=(Row.alloc h.rd (.cells #[u] 54)).far_own (by decide) hv.2 hg
 have hO3:O3 X w.heap.size v4 (L3 ++ [l2]):=⟨_,ho,hV24.snoc hO24⟩
 have hgB:=h.gB
 refine ⟨?_,fun g cs hr => by
  have h1:=(Row.alloc hr (.cells #[u] 54)).far_own (by decide) hv.2 hg
  exact h1.far (Row.ne h1 hR (by decide)) _⟩
 exact ⟨⟨hP.below.setCell (p:=⟨gD,2,none⟩) (by show w.heap.size <= gD; omega) _,hP.ra.far (by show w.heap.size ≠ gD; omega) _,hP.rb.far (by show w.heap.size + 1 ≠ gD; omega) _,hP.rr.far (by show w.heap.size + 1 + 1 ≠ gD; omega) _⟩,hgB,hR.set 2 _,hO3.setRow hR (by decide) (by decide) (by decide) 2 _,hF4.setRow hR (by decide) 2 _,hK4.turns (Turns.cell X ⟨gD,2,none⟩ v4) (hR.notT (by decide)) (hR.notT (by decide))⟩
theorem PqI.fin {w W X:World} {V EA EB gD i c':Nat} {vn vf un uf vN pk v4:Value} {A:Option Addr} {ks:List (List Int)} {L3:List (List (List Int))} {lf:List Bool} {b:Bool} (h:PqI w V EA EB gD vn vf un uf vN (.slice A i c') pk ks L3 lf W)
  (ho:VO 4 X w.heap.size v4 (bL lf ++ [.bool b])) (hg:(W.alloc (.cells #[.bool b] 4)).grownBy X (Value.slice A i c').ownBlock) :
  PqI w V EA EB gD vn vf un uf vN v4 pk ks L3 (lf ++ [b]) (X.setCell ⟨gD,3,none⟩ v4):=by
 have hA:=Below.alloc (Below.refl W.heap.size W) zn (.cells #[.bool b] 4)
 have hv:=VO.allocd (show VO 4 W w.heap.size (.slice A i c') (bL lf) from h.of) (.cells #[.bool b] 4)
 have hN4:=O3.far (O3.below h.o3 hA zn) (by decide) (by decide) (by decide) hv hg
 have hK4:=O2.far (O2.below h.ok hA zn) (by decide) (by decide) hv hg
 have hP:=PrI.own (h.pr.to hA) (by decide) hv hg
 have hR:=(Row.alloc h.rd (.cells #[.bool b] 4)).far_own (by decide) hv.2 hg
 have hF:OB X w.heap.size v4 (lf ++ [b]):=by
  show VO _ _ _ _ _
  have e:bL (lf ++ [b]) = bL lf ++ [.bool b]:=by simp [bL]
  rw [e]; exact ho
 have hgB:=h.gB
 exact ⟨⟨hP.below.setCell (p:=⟨gD,3,none⟩) (by show w.heap.size <= gD; omega) _,hP.ra.far (by show w.heap.size ≠ gD; omega) _,hP.rb.far (by show w.heap.size + 1 ≠ gD; omega) _,hP.rr.far (by show w.heap.size + 1 + 1 ≠ gD; omega) _⟩,hgB,hR.set 3 _,hN4.setRow hR (by decide) (by decide) (by decide) 3 _,OB.setRow hF hR (by decide) 3 _,hK4.turns (Turns.cell X ⟨gD,3,none⟩ v4) (hR.notT (by decide)) (hR.notT (by decide))⟩
set_option maxRecDepth 100000 in
set_option maxHeartbeats 32000000 in
theorem zc9 (a b:Dta) (V K:Nat) (hK:K < 3) (ha:a.Fit V) (hb:b.Fit V) (va vb:Value) (w:World) (hva:TD w va (a.raw V)) (hvb:TD w vb (b.raw V)) :
  Calls Tryz.prog 79 #[va,vb,.int .i64 (K:Int)] w (RetR w (opR a b (kindG K) V).1 (opR a b (kindG K) V).2):=by
 have hckA:=fun W (h:Below w.heap.size w W) => zcg (a.raw V) va W (hva.below h zn) (by have:=ha.n64; exact ⟨by rw [(a.raw_len V).1]; omega,by rw [(a.raw_len V).2]; omega⟩)
 have hckB:=fun W (h:Below w.heap.size w W) => zcg (b.raw V) vb W (hvb.below h zn) (by have:=hb.n64; exact ⟨by rw [(b.raw_len V).1]; omega,by rw [(b.raw_len V).2]; omega⟩)
 rw [a.raw_check ha] at hckA
 rw [b.raw_check hb] at hckB
 have hLL:a.L = b.L:=ha.L.trans hb.L.symm
 have hPE:=za9 ha.ok hb.ok hLL
 have HLONG:Hid (∀ o:List (Nat × Nat),KsI (pairF a b) a.L (a.e,b.e) (inP a b) o -> 64 < o.length -> opR a b (kindG K) V = (zeroR,10)):=by
  intro o ho hl
  have:=hPE.most ho.nodup ho.acc
  unfold opR
  rw [if_neg (by omega)]
 have HMI:Hid (∀ o:List (Nat × Nat),KsI (pairF a b) a.L (a.e,b.e) (inP a b) o -> ClE (pairF a b) a.L o o.length -> o.length <= 64 -> ∀ v W,TD W v ((prodA a b o (kindG K)).raw V) -> Calls Tryz.prog 53 #[v] W (RetR W (opR a b (kindG K) V).1 (opR a b (kindG K) V).2)):=by
  intro o ho hc hl v W hv
  have hE:=hc.expl ho
  have hfit:(prodA a b o (kindG K)).Fit V:=⟨hE.ok _,hl,ha.v3,ha.L⟩
  have h:=zef _ V hfit v W hv
  have hle:=hE.len_eq hPE
  have e1:opR a b (kindG K) V = ((prodM a b (kindG K)).raw V,0):=by unfold opR; rw [if_pos (by omega)]
  have e2:(prodA a b o (kindG K)).mini.raw V = (prodM a b (kindG K)).raw V:=by
   have hs:=zf0 ha.ok hb.ok hLL (kindG K) hE
   have h1:=Dta.mini_canon (hE.ok (fun p => kindG K (a.fin p.1) (b.fin p.2)))
   exact hs.raw h1.1.ok hs.L V
  rw [e1,<- e2]
  exact h
 have HAT:Hid (∀ o:List (Nat × Nat),KsI (pairF a b) a.L (a.e,b.e) (inP a b) o -> ClE (pairF a b) a.L o o.length -> ∀ l r x p q,o[l]? = some p -> o[r]? = some q -> x < a.L -> zda (o.map pE) (pE (pairF a b p q x)) = (((prodA a b o (kindG K)).nx l r x:Nat):Int)):=by
  intro o ho hc l r x p q hl hr hx
  have hm:=(hc.expl ho).closed _ _ _ (List.mem_of_getElem? hl) (List.mem_of_getElem? hr) hx
  rw [zg4 (P:=inP a b) (zn0 _) ho.hP (ho.hP _ hm) hm]
  unfold prodA autE
  dsimp only
  rw [getD_some hl,getD_some hr]
 have HFI:Hid (∀ o:List (Nat × Nat),∀ i p,o[i]? = some p -> kindG K (a.fin p.1) (b.fin p.2) = (prodA a b o (kindG K)).fin i):=by
  intro o i p hp
  show kindG K (a.fin p.1) (b.fin p.2) = kindG K (a.fin (o.getD i (a.e,b.e)).1) (b.fin (o.getD i (a.e,b.e)).2)
  rw [getD_some hp]
 have HOK:=zh (zqm ha.ok hb.ok hLL)
 have HS0:Hid (KsI (pairF a b) a.L (a.e,b.e) (inP a b) [(a.e,b.e)]):=KsI.start ⟨ha.ok.he,hb.ok.he⟩
 obtain ⟨vn,vf,rfl,hnA,hfA⟩:=hva
 obtain ⟨un,uf,rfl,hnB,hfB⟩:=hvb
 rw [show (a.raw V).vars = (V:Int) from rfl,show (a.raw V).empty = (a.e:Int) from rfl] at hckA ⊢
 rw [show (b.raw V).vars = (V:Int) from rfl,show (b.raw V).empty = (b.e:Int) from rfl] at hckB ⊢
 obtain ⟨b3,o3,c3,hNA⟩:=(show N3 w vn (nx3 a.n a.L a.nx) from hnA).nx ha.pos ha.L8.1
 obtain rfl:=hNA.form
 obtain ⟨b4,o4,c4,hNB⟩:=(show N3 w un (nx3 b.n b.L b.nx) from hnB).nx hb.pos hb.L8.1
 obtain rfl:=hNB.form
 obtain ⟨bk,ok,ck,rfl,hk1,hbk,hk2⟩:=(show NB w vf ((List.range a.n).map a.fin) from hfA).at ha.pos
 obtain ⟨bl,ol,cl,rfl,hl1,hbl,hl2⟩:=(show NB w uf ((List.range b.n).map b.fin) from hfB).at hb.pos
 have hsh:=za2 V ha.v3
 rw [<- ha.L] at hsh
 have hv3i:(V:Int) <= 3:=by have:=ha.v3; omega
 have ha64:=ha.n64; have hb64:=hb.n64; have hL8:=ha.L8.2; have hpA:=ha.pos; have hpB:=hb.pos; have heA:=ha.ok.he; have heB:=hb.ok.he
 have HNA:=zh hNA.at3; have hcA:=hNA.cap; have HNB:=zh hNB.at3; have hcB:=hNB.cap
 have HKA:=zh hk2; have HKB:=zh hl2
 have HV:Hid (∀ (o:List (Nat × Nat)),KsI (pairF a b) a.L (a.e,b.e) (inP a b) o -> ∀ p ∈ o,p.1 < a.n /\ p.2 < b.n):=fun o ho p hp => ho.hP p hp
 have HPN:Hid (∀ p q:Nat × Nat,∀ x,pairF a b p q x = (a.nx p.1 q.1 x,b.nx p.2 q.2 x)):=fun p q x => rfl
 have HLR:Hid (∀ o:List (Nat × Nat),(prodA a b o (kindG K)).raw V = ⟨(V:Int),((0:Nat):Int),rwI (prodA a b o (kindG K)).nx a.L o.length o.length,finL (prodA a b o (kindG K)).fin o.length⟩):=fun o => rfl
 rw [<- hLL] at HNB
 obtain ⟨R,hR⟩:=zx ((opR a b (kindG K) V).1)
 obtain ⟨code,hcode⟩:=zx ((opR a b (kindG K) V).2)
 rw [<- hR,<- hcode]
 rw [<- hR,<- hcode] at HMI
 have HRL:Hid (∀ o:List (Nat × Nat),KsI (pairF a b) a.L (a.e,b.e) (inP a b) o -> 64 < o.length -> R = zeroR /\ code = 10):=by
  intro o h1 h2
  rw [hR,hcode,HLONG.out o h1 h2]
  exact ⟨rfl,rfl⟩
 obtain ⟨F,hF⟩:=zx (pairF a b)
 obtain ⟨PD,hPD⟩:=zx (fun o => prodA a b o (kindG K))
 obtain ⟨PP,hPP⟩:=zx (inP a b)
 have HMI:=zh (show ∀ o,KsI F a.L (a.e,b.e) PP o -> ClE F a.L o o.length -> o.length <= 64 -> ∀ v W,TD W v ((PD o).raw V) -> Calls Tryz.prog 53 #[v] W (RetR W R code) by subst hF; subst hPD; subst hPP; exact HMI.out)
 have HAT:=zh (show ∀ o,KsI F a.L (a.e,b.e) PP o -> ClE F a.L o o.length -> ∀ l r x p q,o[l]? = some p -> o[r]? = some q -> x < a.L -> zda (o.map pE) (pE (F p q x)) = (((PD o).nx l r x:Nat):Int) by subst hF; subst hPD; subst hPP; exact HAT.out)
 have HFI:=zh (show ∀ (o:List (Nat × Nat)) i p,o[i]? = some p -> kindG K (a.fin p.1) (b.fin p.2) = (PD o).fin i by subst hPD; exact HFI.out)
 have HLR:=zh (show ∀ (o:List (Nat × Nat)),(PD o).raw V = ⟨(V:Int),((0:Nat):Int),rwI (PD o).nx a.L o.length o.length,finL (PD o).fin o.length⟩ by subst hPD; exact HLR.out)
 rw [<- hF,<- hPP] at HOK HS0 HV HRL
 rw [<- hF] at HPN
 clear hnA hfA hnB hfB hNA hNB hk2 hl2 hPE HLONG hR hcode ha hb hLL hF hPD hPP
 obtain ⟨L,hL⟩:=zx a.L
 obtain ⟨NA,hNNA⟩:=zx a.n
 obtain ⟨NC,hNNB⟩:=zx b.n
 obtain ⟨EA,hEA⟩:=zx a.e
 obtain ⟨EB,hEB⟩:=zx b.e
 rw [<- hL] at hsh hL8 HNA HNB HMI HAT HRL HOK HS0 HV HLR
 rw [<- hNNA] at ha64 hpA heA HNA hcA HKA hk1 HV
 rw [<- hNNB] at hb64 hpB heB HNB hcB HKB hl1 HV
 rw [<- hEA] at heA HMI HAT HRL HS0 HV
 rw [<- hEB] at heB HMI HAT HRL HS0 HV
 rw [<- hNNA,<- hEA] at hckA
 rw [<- hNNB,<- hEB] at hckB
 rw [<- hNNA,<- hNNB,<- hEA,<- hEB]
 have HCA:=zh hckA; have HCB:=zh hckB
 clear hL hNNA hNNB hEA hEB hckA hckB
 obtain ⟨hca1,hca2⟩:=hcA
 obtain ⟨hcb1,hcb2⟩:=hcB
 go_enter Tryz.func79,Tryz.ntmps79
 go_upto_region 1 with fail
 refine zab (PrI w V EA EB (.slice (some ⟨b3,o3,none⟩) NA c3) (.slice (some ⟨bk,ok,none⟩) NA ck) (.slice (some ⟨b4,o4,none⟩) NC c4) (.slice (some ⟨bl,ol,none⟩) NC cl)) ⟨by go_grown,((Row.new _ _ _).alloc _).alloc _,(Row.lit (by simp)).alloc _,Row.lit (by simp)⟩ ?_
 rintro W hI
 have y0:=hI.ra.cell; have y1:=hI.rb.cell
 have HI:=zh hI
 clear hI
 go_upto_region 2 with (go_at_call 52; refine (HCA.out _ HI.out.below).mono ?_; rintro e w2 ⟨rfl,hb2⟩; have HI2:=zh (HI.out.to hb2); clear hb2)
 clear y0 y1
 have y0:=HI2.out.ra.cell; have y1:=HI2.out.rb.cell
 go_upto_region 5 with (go_at_call 52; refine (HCB.out _ HI2.out.below).mono ?_; rintro e w3 ⟨rfl,hb3⟩; have HI3:=zh (HI2.out.to hb3); clear hb3)
 clear y0 y1 HI HI2 HCA HCB
 have y0:=HI3.out.ra.cell; have y1:=HI3.out.rb.cell
 go_upto_region 10 with fail
 refine zab (fun X => ∃ gk,gk = w3.heap.size + 1 /\ PrI w V EA EB (.slice (some ⟨b3,o3,none⟩) NA c3) (.slice (some ⟨bk,ok,none⟩) NA ck) (.slice (some ⟨b4,o4,none⟩) NC c4) (.slice (some ⟨bl,ol,none⟩) NC cl) X /\ O2 X w.heap.size (.slice (some ⟨gk,0,none⟩) 1 1) ([(EA,EB)].map pE)) ⟨_,rfl,HI3.out.to (by go_grown),(O2.lit1 w3 (pE (EA,EB)) (by simp [pE])).mono HI3.out.below.size⟩ ?_
 clear y0 y1 HI3
 rintro W0 ⟨gk,hgk,hI,hO⟩
 rw [<- hgk]
 have HI:=zh hI; have HO:=zh hO
 clear hI hO hgk
 go_wp2
 go_loopg [10,11] 65 (fun gk q10 q11 wr => ∃ (o:List (Nat × Nat)) (k:Nat),gk = 65 - k /\ q11 = .int .i64 k /\ KsI F L (EA,EB) PP o /\ ClE F L o k /\ k <= o.length /\ o.length <= 64 /\ PrI w V EA EB (.slice (some ⟨b3,o3,none⟩) NA c3) (.slice (some ⟨bk,ok,none⟩) NA ck) (.slice (some ⟨b4,o4,none⟩) NC c4) (.slice (some ⟨bl,ol,none⟩) NC cl) wr /\ O2 wr w.heap.size q10 (o.map pE))
 case atStart => exact ⟨[(EA,EB)],0,by omega,rfl,HS0.out,ClE.zero _,by simp,by simp,HI.out,HO.out⟩
 case round =>
  clear HI HO HS0
  obtain ⟨o,k,rfl,rfl,hks,hcl,hkl,hol,hi,ho⟩:=hrel
  obtain ⟨m,hm⟩:=zx o.length
  obtain ⟨A10,c10,rfl⟩:=O2.formN (m:=m) ho (by rw [List.length_map,hm])
  have HKS:=zh hks; have HCL:=zh hcl; have HI:=zh hi; have HO:=zh ho
  rw [<- hm] at hkl hol
  have HM:=zh hm
  clear hks hcl hi ho hm
  by_cases hlt:k < m
  ·have hlti:(k:Int) < (m:Int):=by omega
   have HR:=zh (XpR.start HKS.out HCL.out (by rw [<- HM.out]; exact hlt))
   have hk64:k < 64:=by omega
   clear HKS HCL
   go_wp2
   go_loopg [10,12] (k + 1) (fun gk q10 q12 wr => ∃ (o:List (Nat × Nat)) (j:Nat),j <= k + 1 /\ gk = k + 1 - j /\ q12 = .int .i64 j /\ XpR F L (EA,EB) PP o k j 0 /\ o.length <= 64 /\ PrI w V EA EB (.slice (some ⟨b3,o3,none⟩) NA c3) (.slice (some ⟨bk,ok,none⟩) NA ck) (.slice (some ⟨b4,o4,none⟩) NC c4) (.slice (some ⟨bl,ol,none⟩) NC cl) wr /\ O2 wr w.heap.size q10 (o.map pE))
   case atStart => exact ⟨o,0,by omega,rfl,rfl,HR.out,by rw [<- HM.out]; exact hol,HI.out,HO.out⟩
   case round =>
    clear HR HI HO HM hlt hlti hkl hol
    obtain ⟨o,j,hj,rfl,rfl,hr,hol,hi,ho⟩:=hrel
    have HR:=zh hr; have HI:=zh hi; have HO:=zh ho
    clear hr hi ho
    by_cases hjk:j <= k
    ·have hjki:(j:Int) <= (k:Int):=by omega
     go_wp2
     go_loopg [10,13] L (fun gk q10 q13 wr => ∃ (o:List (Nat × Nat)) (x:Nat),x <= L /\ gk = L - x /\ q13 = .int .i64 x /\ XpR F L (EA,EB) PP o k j x /\ o.length <= 64 + 2 * x /\ PrI w V EA EB (.slice (some ⟨b3,o3,none⟩) NA c3) (.slice (some ⟨bk,ok,none⟩) NA ck) (.slice (some ⟨b4,o4,none⟩) NC c4) (.slice (some ⟨bl,ol,none⟩) NC cl) wr /\ O2 wr w.heap.size q10 (o.map pE))
     case atStart => exact ⟨o,0,by omega,rfl,rfl,HR.out,by omega,HI.out,HO.out⟩
     case round =>
      clear HR HI HO hol
      obtain ⟨o,x,hx,rfl,rfl,hr,hol,hi,ho⟩:=hrel
      obtain ⟨W0,hW0⟩:=zx wr
      subst hW0
      obtain ⟨m,hm⟩:=zx o.length
      obtain ⟨A10,c10,rfl⟩:=O2.formN (m:=m) ho (by rw [List.length_map,hm])
      rw [<- hm] at hol
      have hkm:k < m:=by rw [hm]; exact hr.lt
      have y0:=hi.ra.cell
      by_cases hxl:x < L
      ·have hxli:(x:Int) < (L:Int):=by omega
       have hjm:(j:Int) < (m:Int):=by omega
       have hkmi:(k:Int) < (m:Int):=by omega
       obtain ⟨⟨p1,p2⟩,hp⟩:∃ p,o[j]? = some p:=⟨_,List.getElem?_eq_getElem (by omega)⟩
       obtain ⟨⟨q1,q2⟩,hq⟩:∃ p,o[k]? = some p:=⟨_,List.getElem?_eq_getElem (by omega)⟩
       obtain ⟨g10,gi,ci,rfl,hg10,cj,hci1,hci2,hgi,ci0,_⟩:=ho.rd (i:=j) (l:=pE (p1,p2)) (by rw [List.getElem?_map,hp]; rfl) (by simp [pE])
       obtain ⟨g10',gj,cj',e10,_,ck',hcj1,hcj2,hgj,cj0,_⟩:=ho.rd (i:=k) (l:=pE (q1,q2)) (by rw [List.getElem?_map,hq]; rfl) (by simp [pE])
       simp only [Option.some.injEq,Addr.mk.injEq,and_true] at e10
       obtain rfl:=e10
       obtain ⟨hp1,hp2⟩:=HV.out o hr.ks _ (List.mem_of_getElem? hp)
       obtain ⟨hq1,hq2⟩:=HV.out o hr.ks _ (List.mem_of_getElem? hq)
       have f1:=HPN.out (p1,p2) (q1,q2) x
       have f2:=HPN.out (q1,q2) (p1,p2) x
       have HST:=zh (hr.step HOK.out hjk hxl hp hq)
       have HKN:Hid (∀ z,z = 0 \/ z = 1 -> KsI F L (EA,EB) PP (adE o (F (p1,p2) (q1,q2) x) (F (q1,q2) (p1,p2) x) (z + 1))):=by
        rintro z (rfl | rfl)
        ·exact hr.ks.add HOK.out (List.mem_of_getElem? hp) (List.mem_of_getElem? hq) hxl
        ·exact HST.out.ks
       rw [f1,f2] at HST HKN
       have hin1:=HOK.out (p1,p2) (q1,q2) x (hr.ks.hP _ (List.mem_of_getElem? hp)) (hr.ks.hP _ (List.mem_of_getElem? hq)) hxl
       have hin2:=HOK.out (q1,q2) (p1,p2) x (hr.ks.hP _ (List.mem_of_getElem? hq)) (hr.ks.hP _ (List.mem_of_getElem? hp)) hxl
       rw [f1] at hin1
       rw [f2] at hin2
       have i0:=ci0 0 _ rfl; have i1:=ci0 1 _ rfl; have j0:=cj0 0 _ rfl; have j1:=cj0 1 _ rfl
       have HR:=zh hr; have HI:=zh hi; have HO:=zh ho; have HM:=zh hm; have HIN1:=zh hin1; have HIN2:=zh hin2
       simp only [pE,List.length_cons,List.length_nil] at cj ck' hci1 hcj1
       clear hr hi ho hm hp hq f1 f2 hin1 hin2 ci0 cj0
       go_upto_region 19 with fail
       first | go_region | fail
       refine zbf (fun X => Below W0.heap.size W0 X) (by go_grown) ?_
       rintro W1 hb1
       clear cj ck' y0
       have HB1:=zh hb1
       clear hb1
       go_upto_region 20 with fail
       dsimp only at hp1 hp2 hq1 hq2
       obtain ⟨b2a,o2a,c2a,b1a,o1a,c1a,ea1,ea2,ea3,ea4,ea5,ea6,ea7,ea8⟩:=HNA.out p1 q1 x hp1 hq1 hxl
       obtain ⟨b2b,o2b,c2b,b1b,o1b,c1b,eb1,eb2,eb3,eb4,eb5,eb6,eb7,eb8⟩:=HNB.out p2 q2 x hp2 hq2 hxl
       obtain ⟨b2c,o2c,c2c,b1c,o1c,c1c,ec1,ec2,ec3,ec4,ec5,ec6,ec7,ec8⟩:=HNA.out q1 p1 x hq1 hp1 hxl
       obtain ⟨b2d,o2d,c2d,b1d,o1d,c1d,ed1,ed2,ed3,ed4,ed5,ed6,ed7,ed8⟩:=HNB.out q2 p2 x hq2 hp2 hxl
       dsimp only at HST HIN1 HIN2 HKN
       obtain ⟨s11,hs11⟩:=zx (a.nx p1 q1 x)
       obtain ⟨s12,hs12⟩:=zx (b.nx p2 q2 x)
       obtain ⟨s21,hs21⟩:=zx (a.nx q1 p1 x)
       obtain ⟨s22,hs22⟩:=zx (b.nx q2 p2 x)
       rw [<- hs11] at ea8
       rw [<- hs12] at eb8
       rw [<- hs21] at ec8
       rw [<- hs22] at ed8
       rw [<- hs11,<- hs12,<- hs21,<- hs22] at HST HKN
       rw [<- hs11,<- hs12] at HIN1
       rw [<- hs21,<- hs22] at HIN2
       clear hs11 hs12 hs21 hs22
       have HSX:Hid (∀ X,Below W0.heap.size W0 X -> X.cell? ⟨w.heap.size,2,none⟩ = some (.slice (some ⟨b3,o3,none⟩) NA c3) /\ X.cell? ⟨w.heap.size + 1,2,none⟩ = some (.slice (some ⟨b4,o4,none⟩) NC c4) /\ X.cell? ⟨gi,0,none⟩ = some (.int .i64 (p1:Int)) /\ X.cell? ⟨gi,1,none⟩ = some (.int .i64 (p2:Int)) /\ X.cell? ⟨gj,0,none⟩ = some (.int .i64 (q1:Int)) /\ X.cell? ⟨gj,1,none⟩ = some (.int .i64 (q2:Int)) /\ X.cell? ⟨b3,o3 + p1,none⟩ = some (.slice (some ⟨b2a,o2a,none⟩) NA c2a) /\ X.cell? ⟨b2a,o2a + q1,none⟩ = some (.slice (some ⟨b1a,o1a,none⟩) L c1a) /\ X.cell? ⟨b1a,o1a + x,none⟩ = some (.int .i64 (s11:Int)) /\ X.cell? ⟨b4,o4 + p2,none⟩ = some (.slice (some ⟨b2b,o2b,none⟩) NC c2b) /\ X.cell? ⟨b2b,o2b + q2,none⟩ = some (.slice (some ⟨b1b,o1b,none⟩) L c1b) /\ X.cell? ⟨b1b,o1b + x,none⟩ = some (.int .i64 (s12:Int)) /\ X.cell? ⟨b3,o3 + q1,none⟩ = some (.slice (some ⟨b2c,o2c,none⟩) NA c2c) /\ X.cell? ⟨b2c,o2c + p1,none⟩ = some (.slice (some ⟨b1c,o1c,none⟩) L c1c) /\ X.cell? ⟨b1c,o1c + x,none⟩ = some (.int .i64 (s21:Int)) /\ X.cell? ⟨b4,o4 + q2,none⟩ = some (.slice (some ⟨b2d,o2d,none⟩) NC c2d) /\ X.cell? ⟨b2d,o2d + p2,none⟩ = some (.slice (some ⟨b1d,o1d,none⟩) L c1d) /\ X.cell? ⟨b1d,o1d + x,none⟩ = some (.int .i64 (s22:Int))):=by
        intro X hX
        have hw:=HI.out.below.trans (hX.mono HI.out.below.size)
        exact ⟨((HI.out.to hX).ra.cell 2).trans rfl,((HI.out.to hX).rb.cell 2).trans rfl,(hX.cell (p:=⟨gi,0,none⟩) hgi).trans i0,(hX.cell (p:=⟨gi,1,none⟩) hgi).trans i1,(hX.cell (p:=⟨gj,0,none⟩) hgj).trans j0,(hX.cell (p:=⟨gj,1,none⟩) hgj).trans j1,(hw.cell (p:=⟨b3,_,none⟩) ea1).trans ea2,(hw.cell (p:=⟨b2a,_,none⟩) ea4).trans ea5,(hw.cell (p:=⟨b1a,_,none⟩) ea7).trans ea8,(hw.cell (p:=⟨b4,_,none⟩) eb1).trans eb2,(hw.cell (p:=⟨b2b,_,none⟩) eb4).trans eb5,(hw.cell (p:=⟨b1b,_,none⟩) eb7).trans eb8,(hw.cell (p:=⟨b3,_,none⟩) ec1).trans ec2,(hw.cell (p:=⟨b2c,_,none⟩) ec4).trans ec5,(hw.cell (p:=⟨b1c,_,none⟩) ec7).trans ec8,(hw.cell (p:=⟨b4,_,none⟩) ed1).trans ed2,(hw.cell (p:=⟨b2d,_,none⟩) ed4).trans ed5,(hw.cell (p:=⟨b1d,_,none⟩) ed7).trans ed8⟩
       have hp1i:(p1:Int) < (NA:Int):=by omega
       have hq1i:(q1:Int) < (NA:Int):=by omega
       have hp2i:(p2:Int) < (NC:Int):=by omega
       have hq2i:(q2:Int) < (NC:Int):=by omega
       clear ea1 ea2 ea4 ea5 ea7 ea8 eb1 eb2 eb4 eb5 eb7 eb8 ec1 ec2 ec4 ec5 ec7 ec8 ed1 ed2 ed4 ed5 ed7 ed8 i0 i1 j0 j1
       refine zqk _ (by kernel_rfl) W0 W1 HB1.out _ _ _ _ _ _ _ _ _ _ _ _ _ _ _ _ _ _ _ _ _ _ _ _ _ _ _ _ _ _ _ _ _ _ _ _ _ _ _ _ _ _ _ _ _ _ _ _ HSX hp1i hq1i hp2i hq2i hxli _ (fun _ _ _ _ _ h => h) _ _ _ _ _ _ _ _ _ _ _ _ _ _ _ _ _ _ _ _ _ _ _ _ _ _ _ _ _ _ _ _ _ _ _ _ _ _ _ _ _ _ _ _ _ _ _ _ _ _ _ _ _ _ _ _ _ _ _ _ _ _ _ _ _ _ _ _ _ _ _ _ _ _ _ _ _ _ _ _ _ _ _ _ _ _ _ _ _ _ _ _ _ _ _ _ _ _ _ _ _ _ _ _ _ _ _ _ _ _ _ _ _ _ _ _ _ _ _ _ _ _ _ _ _ _ _ _ _ _ _ _ _ _ _ _ _ _ _ _ _ _ _ _ _ _ _ _ _ _ _ _ _ _ _ _ _ _ _ _ _ _ _ _ _ _ _ _ _ _ _ _ _ _ _ _ _ _ _ _ _ _ _ _ _ _ _ _ _ _ _ _ _ _ _ _ _ _ _ _ _ _ _ _ _ _ _ _ _ _ _ _ _ _ _ _ _ _ _ _ _ _ _ _ _ _ _ _ _ _ _ _ _ _ _ _ _ _ _ _ _ _ _ _ _ _ _ _ _ _ _ _ _ _ _ _ _ _ _ _ _ _ _ _ _ _ _ _ _ _ _ _ _ _ _ _ _ _ _ _ _ _ _ _ _ _ ?_
       intro x78 x79 x80 x81 x82 x83 x84 x85 x86 x87 x88 x89 x90 x91 x92 x93 x94 x95 x96 x97 x98 x99 x100 x101 x102 x103 x104 x105 x106 x107 x108 x109 x110 x111 x112 x113 x114 x115 x116 x117 x118 x119 x120 x121 x122 x123 x124 x125 x126 x127 x128 x129 x130 x131 x132 x133 x134 x135 x136 x137 x138 x139 x140 u1 u2 gb cb wc hgb hbx hbo
       have hap:Apart (.slice (some ⟨gb,0,none⟩) 2 cb) (.slice (some ⟨g10,0,none⟩) m c10):=by
        intro g h1 h2
        simp only [Value.ownBlock,Option.some.injEq] at h1 h2
        omega
       have HI1:=zh (HI.out.to hbx); have HO1:=zh (HO.out.below hbx zn); have HBO:=zh (show BothI _ w.heap.size _ _ _ _ _ from ⟨hbo.vo.mono HI.out.below.size,hbo.o1.mono HI.out.below.size,hbo.o2.mono HI.out.below.size⟩); have HAP:=zh hap
       have HKS:=zh HR.out.ks
       clear hbx hbo hap hgb HI HO HB1 HSX HR
       go_wp2
       go_loopg [10,17] 2 (fun gk q10 q17 wr => ∃ (z:Nat),z <= 2 /\ gk = 2 - z /\ q17 = .int .i64 z /\ KsI F L (EA,EB) PP (adE o (s11,s12) (s21,s22) z) /\ (adE o (s11,s12) (s21,s22) z).length <= m + z /\ PrI w V EA EB (.slice (some ⟨b3,o3,none⟩) NA c3) (.slice (some ⟨bk,ok,none⟩) NA ck) (.slice (some ⟨b4,o4,none⟩) NC c4) (.slice (some ⟨bl,ol,none⟩) NC cl) wr /\ O2 wr w.heap.size q10 ((adE o (s11,s12) (s21,s22) z).map pE) /\ BothI wr w.heap.size (.slice (some ⟨gb,0,none⟩) 2 cb) u1 u2 (pE (s11,s12)) (pE (s21,s22)) /\ Apart (.slice (some ⟨gb,0,none⟩) 2 cb) q10)
       case atStart => exact ⟨0,by omega,rfl,rfl,HKS.out,by rw [HM.out]; exact zn,HI1.out,HO1.out,HBO.out,HAP.out⟩
       case round =>
        clear HI1 HO1 HBO HAP HKS
        obtain ⟨z,hz,rfl,rfl,hks,hlz,hi,ho,hbo,hap⟩:=hrel
        obtain ⟨W2,hW2⟩:=zx wr
        subst hW2
        by_cases hz2:z < 2
        ·obtain ⟨s,u,hsP,huv,huo,had⟩:∃ (s:Nat × Nat) (u:Value),PP s /\ [u1,u2][z]? = some u /\ O1 W2 w.heap.size u (pE s) /\ adE o (s11,s12) (s21,s22) (z + 1) = addS (adE o (s11,s12) (s21,s22) z) s:=by
          have hz01:z = 0 \/ z = 1:=by omega
          rcases hz01 with rfl | rfl
          ·exact ⟨_,_,HIN1.out,rfl,hbo.o1,rfl⟩
          ·exact ⟨_,_,HIN2.out,rfl,hbo.o2,rfl⟩
         obtain ⟨oz,hoz⟩:=zx (adE o (s11,s12) (s21,s22) z)
         rw [<- hoz] at hks hlz ho had
         obtain ⟨n,hn⟩:=zx oz.length
         rw [<- hn] at hlz
         obtain ⟨A10,c10',rfl⟩:=O2.formN (m:=n) ho (by rw [List.length_map,hn])
         obtain ⟨gb',capb,csb,heb,_,hrb,_,_,hcb⟩:=hbo.vo.row (by simp)
         simp only [Value.slice.injEq,Option.some.injEq,Addr.mk.injEq,and_true] at heb
         obtain ⟨rfl,-,rfl⟩:=heb
         have cz:=hcb z u huv
         obtain ⟨gu,cu,csu,rfl,_,hru,hcu1,hcu2,_⟩:=VO.row huo (by rw [zag]; simp [pE])
         have hl2:(iL (pE s)).length = 2:=by simp [iL,pE]
         rw [hl2] at cz hcu1 huo huv
         have hz2i:(z:Int) < 2:=by omega
         obtain ⟨pz,hpz⟩:=zx (zda (oz.map pE) (pE s))
         have hcall:=zoy (oz.map pE) (pE s) (.slice A10 n c10') (.slice (some ⟨gu,0,none⟩) 2 cu) W2 ho.n2 huo.n1 (by rw [List.length_map,<- hn]; omega) (by intro x hx; obtain ⟨p,_,rfl⟩:=List.mem_map.1 hx; simp [pE])
         rw [<- hpz] at hcall
         have HCALL:=zh hcall
         have HKS:=zh hks; have HI:=zh hi; have HO:=zh ho; have HBO:=zh hbo; have HAP:=zh hap; have HUO:=zh huo; have HAD:=zh had; have HNN:=zh hn; have HUV:=zh huv
         by_cases hin:s ∈ oz
         ·have hzz:¬ pz < 0:=by rw [hpz,zg4 (P:=PP) (zn0 _) hks.hP hsP hin]; omega
          have HSAME:Hid (adE o (s11,s12) (s21,s22) (z + 1) = oz):=by unfold Hid; rw [had]; exact zkn hin
          clear hks hi ho hbo hap huo hcall hrb hru hcb had hn hpz hoz huv
          go_wp2_with (go_at_call 62; refine HCALL.out.mono ?_; rintro e w3 ⟨rfl,hb3⟩; have HB3:=zh hb3; clear hb3)
          as_aux_lemma =>
           go_roundg (2 - (z + 1))
           case rel => exact ⟨z + 1,by omega,rfl,by go_num,by rw [HSAME.out]; exact HKS.out,by rw [HSAME.out,<- HNN.out]; omega,HI.out.to HB3.out,by rw [HSAME.out]; exact HO.out.below HB3.out zn,HBO.out.to HB3.out,HAP.out⟩
           case measure => omega
         ·have hzz:pz < 0:=by rw [hpz,znv (P:=PP) (zn0 _) hks.hP hsP hin]; omega
          have HNEW:Hid (adE o (s11,s12) (s21,s22) (z + 1) = oz ++ [s]):=by unfold Hid; rw [had]; exact zko hin
          have HKS2:Hid (KsI F L (EA,EB) PP (adE o (s11,s12) (s21,s22) (z + 1))):=by
           unfold Hid
           have hz01:z = 0 \/ z = 1:=by omega
           exact HKN.out z hz01
          obtain ⟨vs,hv1,hv2⟩:=id ho
          have HV1:=zh hv1; have HV2:=zh hv2
          clear hks hi ho hbo hap huo hcall hrb hru hcb had hn hpz hoz hin huv hv1 hv2
          go_wp2_with (first
           | (at_builtin; refine zaa eII rfl (.tmp 152) (.tmp 157) rfl w.heap.size _ _ rfl (VO.allocd HV3.out _) _ [.slice (some ⟨gu,0,none⟩) 2 cu] rfl (VS.one (Row.new _ _ _)) (by intro u hu; simp at hu; subst hu; rfl) (by rw [HV2.out.1,List.length_map,<- HNN.out]; simp; omega) (by simp only [World.size_alloc]; have:=HI3.out.below.size; omega) ?_; intro v4 w4 ho4 hg4 hob4; obtain ⟨A4,c4x,rfl⟩:=VO.formN (n:=n + 1) ho4 (by rw [List.length_append,HV2.out.1,List.length_map,<- HNN.out]; rfl); have HO4:=zh ho4; have HG4:=zh hg4; have HOB4:=zh hob4; clear ho4 hg4 hob4)
           | (go_at_call 62; refine HCALL.out.mono ?_; rintro e w3 ⟨rfl,hb3⟩; have HB3:=zh hb3; have HI3:=zh (HI.out.to hb3); have HV3:=zh (HV1.out.below hb3 zn); have HBO3:=zh (HBO.out.to hb3); clear cz; obtain ⟨gb2,capb2,csb2,heb2,_,hrb2,_,_,hcb2⟩:=HBO3.out.vo.row (by simp); simp only [Value.slice.injEq,Option.some.injEq,Addr.mk.injEq,and_true] at heb2; obtain ⟨rfl,-,-⟩:=heb2; have cz:=hcb2 z _ HUV.out; clear hb3 hrb2 hcb2))
          have hA:=Below.alloc (Below.refl w3.heap.size w3) zn (.cells #[.slice (some ⟨gu,0,none⟩) 2 cu] 53)
          have hV24:=V1.far (V1.below (V1.below HV2.out HB3.out zn) hA zn) (by decide) (VO.allocd HV3.out _) HG4.out
          have hO14:=O1.far (O1.below (O1.below HUO.out HB3.out zn) hA zn) (by decide) (VO.allocd HV3.out _) HG4.out
          have hV5:=hV24.snoc hO14
          have hI4:=PrI.own (HI3.out.to hA) (by decide) (VO.allocd HV3.out _) HG4.out
          have hB4:=BothI.far (HBO3.out.to hA) HAP.out (VO.allocd HV3.out _) HG4.out
          have hAP4:Apart (.slice (some ⟨gb,0,none⟩) 2 cb) (.slice A4 (n + 1) c4x):=Apart.symm (Apart.grow HAP.out.symm HOB4.out HBO3.out.vo (by simp only [World.size_alloc]; omega))
          have H4:=zh hV5; have HI4:=zh hI4; have HB4:=zh hB4; have HAP4:=zh hAP4
          clear hA hV24 hO14 hV5 hI4 hB4 hAP4
          as_aux_lemma =>
           go_roundg (2 - (z + 1))
           case rel => exact ⟨z + 1,by omega,rfl,by go_num,HKS2.out,by rw [HNEW.out,List.length_append,<- HNN.out]; simp; omega,HI4.out,⟨_,HO4.out,by rw [HNEW.out,List.map_append]; exact H4.out⟩,HB4.out,HAP4.out⟩
           case measure => omega
        ·obtain rfl:z = 2:=by omega
         have HI:=zh hi; have HO:=zh ho; have HLZ:=zh hlz
         clear hks hi ho hbo hap hlz
         go_wp2
         as_aux_lemma =>
          go_roundg (L - (x + 1))
          case rel => exact ⟨_,x + 1,by omega,rfl,by go_num,HST.out,by have:=HLZ.out; show (adE o (s11,s12) (s21,s22) 2).length <= _; omega,HI.out,HO.out⟩
          case measure => omega
      ·obtain rfl:x = L:=by omega
       have hxli:¬ (x:Int) < (x:Int):=by omega
       have HR:=zh hr.nextj; have HI:=zh hi; have HO:=zh ho
       have HM:=zh hm
       clear hr ho hm
       have z1:=hi.rr.cell; have z2:=hi.rr.free
       clear hi
       by_cases h64:m <= 64
       ·have h64i:¬ (64:Int) < (m:Int):=by omega
        go_wp2
        as_aux_lemma =>
         go_roundg (k + 1 - (j + 1))
         case rel => exact ⟨o,j + 1,by omega,rfl,by go_num,HR.out,by rw [<- HM.out]; exact h64,HI.out,HO.out⟩
         case measure => omega
       ·have h64i:(64:Int) < (m:Int):=by omega
        obtain ⟨rfl,rfl⟩:=HRL.out o HR.out.ks (by rw [<- HM.out]; omega)
        go_upto_region 27 with fail
        iterate 6 go_step
        refine k_abs (fun X => Row X (w.heap.size + 1 + 1) 25 #[.int .i64 0,.int .i64 0,.slice none 0 0,.slice none 0 0] /\ TDO X W0.heap.size zeroV zeroR /\ Below w.heap.size w X) (zam HI.out.rr (zai _ _) HI.out.below (Nat.le_trans (Nat.le_succ _) (Nat.le_succ _))) ?_
        clear y0 z1 z2
        rintro W5 ⟨r0,hT,hb⟩
        have HBX:=zh hb
        have RX:=zh r0
        clear r0 hT hb HR HO HI
        repeat go_step
        have b0:=RX.out.cell
        have q0:=b0 0; have q1:=b0 1; have q2:=b0 2; have q3:=b0 3
        simp only [zg] at q0 q1 q2 q3
        clear b0
        exact bodyPost_ret (v:=.tuple #[zeroV,.int .i64 10]) (by simp [results,Tryz.results79,go_sem,q0,q1,q2,q3,zeroV]) rfl ⟨_,rfl,HBX.out,zai _ _⟩
    ·obtain rfl:j = k + 1:=by omega
     have hjki:¬ (((k + 1:Nat):Int) <= (k:Int)):=by omega
     have hjki2:¬ ((k:Int) + 1 <= (k:Int)):=by omega
     have HC:=zh HR.out.nextk
     go_wp2
     as_aux_lemma =>
      go_roundg (65 - (k + 1))
      case rel => exact ⟨o,k + 1,rfl,by go_num,HR.out.ks,HC.out,HR.out.lt,hol,HI.out,HO.out⟩
      case measure => omega
  ·obtain rfl:k = m:=by omega
   have hlti:¬ (k:Int) < (k:Int):=by omega
   have HEX:=zh HKS.out.zero
   obtain ⟨g10,gi0,ci0,rfl,hg10,_⟩:=HO.out.rd (i:=0) (l:=pE (EA,EB)) (by rw [List.getElem?_map,HKS.out.zero]; rfl) (by simp [pE])
   have HCLo:=zh (show ClE F L o o.length by have:=HCL.out; rw [HM.out] at this; exact this)
   obtain ⟨f,hf⟩:=zx ((PD o).nx)
   obtain ⟨ff,hff⟩:=zx ((PD o).fin)
   have HRAW:=zh (HLR.out o)
   have HMIN:=zh (HMI.out o HKS.out HCLo.out (by rw [<- HM.out]; exact hol))
   have HATT:=zh (HAT.out o HKS.out HCLo.out)
   have HFIN:=zh (HFI.out o)
   rw [<- hf] at HATT HRAW
   rw [<- hff] at HFIN HRAW
   rw [<- HM.out] at HRAW
   have HLT:=zh (HV.out o HKS.out)
   clear hf hff HLR HMI HAT HFI HV HKS HCL HCLo HEX HRL HOK hg10
   have y0:=HI.out.ra.cell
   go_upto_region 29 with fail
   refine zab (fun X => ∃ gD,gD = wr.heap.size /\ PqI w V EA EB gD (.slice (some ⟨b3,o3,none⟩) NA c3) (.slice (some ⟨bk,ok,none⟩) NA ck) (.slice (some ⟨b4,o4,none⟩) NC c4) (.slice (some ⟨bl,ol,none⟩) NC cl) (.slice none 0 0) (.slice none 0 0) (.slice (some ⟨g10,0,none⟩) k c10) (o.map pE) [] [] X) ⟨_,rfl,HI.out.to (by go_grown),HI.out.rr.lt,by first | exact Row.new _ _ _ | exact (Row.new _ _ _).drew,⟨[],VO.nil _ _ _,rfl,fun i u h => by simp at h⟩,VO.nil _ _ _,HO.out.below (Below.alloc (Below.refl _ _) zn _) zn⟩ ?_
   clear y0 HI HO
   rintro W0 ⟨gD,hgD,hq⟩
   rw [<- hgD]
   have HQ:=zh hq
   clear hq hgD
   go_wp2
   go_loopg [19] k (fun gk q19 W => ∃ (i:Nat) (vN vF:Value),i <= k /\ gk = k - i /\ q19 = .int .i64 i /\ PqI w V EA EB gD (.slice (some ⟨b3,o3,none⟩) NA c3) (.slice (some ⟨bk,ok,none⟩) NA ck) (.slice (some ⟨b4,o4,none⟩) NC c4) (.slice (some ⟨bl,ol,none⟩) NC cl) vN vF (.slice (some ⟨g10,0,none⟩) k c10) (o.map pE) (rwI f L k i) (finL ff i) W)
   case atStart => exact ⟨0,_,_,Nat.zero_le _,rfl,rfl,HQ.out⟩
   case round =>
    clear HQ
    obtain ⟨i,vN,vF,hik,rfl,rfl,hq⟩:=hrel
    obtain ⟨wl,hwl⟩:=zx wr
    subst hwl
    have HQ:=zh hq
    by_cases hit:i < k
    ·have hiti:(i:Int) < (k:Int):=by omega
     obtain ⟨⟨p1,p2⟩,hp⟩:∃ p,o[i]? = some p:=⟨_,List.getElem?_eq_getElem (by rw [<- HM.out]; exact hit)⟩
     obtain ⟨hp1,hp2⟩:=HLT.out _ (List.mem_of_getElem? hp)
     dsimp only at hp1 hp2
     obtain ⟨g10',gi,ci,e10,hg10,ci2,hci1,hci2,hgi,cin,csi,hri⟩:=hq.ok.rd (i:=i) (l:=pE (p1,p2)) (by rw [List.getElem?_map,hp]; rfl) (by simp [pE])
     simp only [Option.some.injEq,Addr.mk.injEq,and_true] at e10
     obtain rfl:=e10
     simp only [pE,List.length_cons,List.length_nil] at ci2 hci1
     have i0:=cin 0 _ rfl; have i1:=cin 1 _ rfl
     have HP:=zh hp; have HI0:=zh i0; have HI1:=zh i1; have HRI:=zh hri
     have CS0:=zh ((hri.cell 0).symm.trans i0); have CS1:=zh ((hri.cell 1).symm.trans i1)
     clear hq hp cin i0 i1 hri
     go_wp2
     clear ci2
     go_loopg [21,22] k (fun gk q21 q22 W => ∃ r:Nat,r <= k /\ gk = k - r /\ q22 = .int .i64 r /\ Below wl.heap.size wl W /\ O2 W wl.heap.size q21 (rwK f L i r))
     case atStart => exact ⟨0,Nat.zero_le _,rfl,rfl,Below.refl _ _,[],VO.nil _ _ _,rfl,fun i u h => by simp at h⟩
     case round =>
      obtain ⟨r,hrk,rfl,rfl,hbl,vs,hv1,hv2⟩:=hrel
      obtain ⟨wx,hwx⟩:=zx wr
      subst hwx
      obtain ⟨A9,c9,rfl⟩:=VO.formN (n:=r) hv1 (by rw [hv2.1,zer])
      have HBL:=zh hbl; have HV1:=zh hv1; have HV2:=zh hv2
      clear hbl hv1 hv2
      by_cases hrt:r < k
      ·have hrti:(r:Int) < (k:Int):=by omega
       obtain ⟨⟨q1,q2⟩,hq⟩:∃ p,o[r]? = some p:=⟨_,List.getElem?_eq_getElem (by rw [<- HM.out]; exact hrt)⟩
       obtain ⟨hq1,hq2⟩:=HLT.out _ (List.mem_of_getElem? hq)
       dsimp only at hq1 hq2
       obtain ⟨g10',gj,cj,e10,_,cj2,hcj1,hcj2,hgj,cjn,_⟩:=HQ.out.ok.rd (i:=r) (l:=pE (q1,q2)) (by rw [List.getElem?_map,hq]; rfl) (by simp [pE])
       simp only [Option.some.injEq,Addr.mk.injEq,and_true] at e10
       obtain rfl:=e10
       simp only [pE,List.length_cons,List.length_nil] at cj2 hcj1
       have j0:=cjn 0 _ rfl; have j1:=cjn 1 _ rfl
       have HQQ:=zh hq; have HJ0:=zh j0; have HJ1:=zh j1
       rw [<- HBL.out.cell (p:=⟨g10,_,none⟩) hg10] at cj2
       clear hq cjn j0 j1
       go_wp2
       clear cj2
       go_loopg [24,25] L (fun gk q24 q25 W => ∃ x:Nat,x <= L /\ gk = L - x /\ q25 = .int .i64 x /\ Below wx.heap.size wx W /\ O1 W wx.heap.size q24 (rwX f i r x))
       case atStart => exact ⟨0,Nat.zero_le _,rfl,rfl,Below.refl _ _,VO.nil _ _ _⟩
       case round =>
        obtain ⟨x,hx,rfl,rfl,hbx,ho⟩:=hrel
        obtain ⟨W,hW⟩:=zx wr
        subst hW
        obtain ⟨A11,c11,rfl⟩:=VO.formN (n:=x) ho (by rw [zag,zfw])
        have HBX:=zh hbx; have HO:=zh ho
        have HBLX:=zh (HBL.out.trans (hbx.mono HBL.out.size))
        have HQX:=zh (HQ.out.to HBLX.out)
        clear hbx ho
        by_cases hxt:x < L
        ·have hxti:(x:Int) < (L:Int):=by omega
         obtain ⟨b2a,o2a,c2a,b1a,o1a,c1a,ea1,ea2,ea3,ea4,ea5,ea6,ea7,ea8⟩:=HNA.out p1 q1 x hp1 hq1 hxt
         obtain ⟨b2b,o2b,c2b,b1b,o1b,c1b,eb1,eb2,eb3,eb4,eb5,eb6,eb7,eb8⟩:=HNB.out p2 q2 x hp2 hq2 hxt
         have hat:=HATT.out i r x _ _ HP.out HQQ.out hxt
         rw [HPN.out] at hat
         dsimp only at hat
         obtain ⟨s11,hs11⟩:=zx (a.nx p1 q1 x)
         obtain ⟨s12,hs12⟩:=zx (b.nx p2 q2 x)
         rw [<- hs11] at ea8
         rw [<- hs12] at eb8
         rw [<- hs11,<- hs12] at hat
         obtain ⟨fv,hfv⟩:=zx (f i r x)
         rw [<- hfv] at hat
         have HAT:=zh hat; have HFV:=zh hfv
         clear hs11 hs12 hat hfv
         have HSX:Hid (∀ X,Below wx.heap.size wx X -> X.cell? ⟨w.heap.size,2,none⟩ = some (.slice (some ⟨b3,o3,none⟩) NA c3) /\ X.cell? ⟨w.heap.size + 1,2,none⟩ = some (.slice (some ⟨b4,o4,none⟩) NC c4) /\ X.cell? ⟨gi,0,none⟩ = some (.int .i64 (p1:Int)) /\ X.cell? ⟨gi,1,none⟩ = some (.int .i64 (p2:Int)) /\ X.cell? ⟨gj,0,none⟩ = some (.int .i64 (q1:Int)) /\ X.cell? ⟨gj,1,none⟩ = some (.int .i64 (q2:Int)) /\ X.cell? ⟨b3,o3 + p1,none⟩ = some (.slice (some ⟨b2a,o2a,none⟩) NA c2a) /\ X.cell? ⟨b2a,o2a + q1,none⟩ = some (.slice (some ⟨b1a,o1a,none⟩) L c1a) /\ X.cell? ⟨b1a,o1a + x,none⟩ = some (.int .i64 (s11:Int)) /\ X.cell? ⟨b4,o4 + p2,none⟩ = some (.slice (some ⟨b2b,o2b,none⟩) NC c2b) /\ X.cell? ⟨b2b,o2b + q2,none⟩ = some (.slice (some ⟨b1b,o1b,none⟩) L c1b) /\ X.cell? ⟨b1b,o1b + x,none⟩ = some (.int .i64 (s12:Int))):=by
          intro X hX
          have hlx:=HBL.out.trans (hX.mono HBL.out.size)
          have hI:=HQ.out.to hlx
          have hw:=hI.pr.below
          exact ⟨(hI.pr.ra.cell 2).trans rfl,(hI.pr.rb.cell 2).trans rfl,(hlx.cell (p:=⟨gi,0,none⟩) hgi).trans HI0.out,(hlx.cell (p:=⟨gi,1,none⟩) hgi).trans HI1.out,(hlx.cell (p:=⟨gj,0,none⟩) hgj).trans HJ0.out,(hlx.cell (p:=⟨gj,1,none⟩) hgj).trans HJ1.out,(hw.cell (p:=⟨b3,_,none⟩) ea1).trans ea2,(hw.cell (p:=⟨b2a,_,none⟩) ea4).trans ea5,(hw.cell (p:=⟨b1a,_,none⟩) ea7).trans ea8,(hw.cell (p:=⟨b4,_,none⟩) eb1).trans eb2,(hw.cell (p:=⟨b2b,_,none⟩) eb4).trans eb5,(hw.cell (p:=⟨b1b,_,none⟩) eb7).trans eb8⟩
         have hp1i:(p1:Int) < (NA:Int):=by omega
         have hq1i:(q1:Int) < (NA:Int):=by omega
         have hp2i:(p2:Int) < (NC:Int):=by omega
         have hq2i:(q2:Int) < (NC:Int):=by omega
         clear ea1 ea2 ea4 ea5 ea7 ea8 eb1 eb2 eb4 eb5 eb7 eb8
         have y0:=HQX.out.pr.ra.cell
         go_upto_region 42 with fail
         clear y0
         have HIDX:Hid (∀ X v,Below wx.heap.size wx X -> N1 X v (pE (s11,s12)) -> Calls Tryz.prog 62 #[.slice (some ⟨g10,0,none⟩) k c10,v] X fun e X' => e = .returned (.int .i64 (fv:Int)) /\ Below X.heap.size X X'):=by
          intro X v hX hv
          have hcall:=zoy (o.map pE) (pE (s11,s12)) (.slice (some ⟨g10,0,none⟩) k c10) v X ((HQ.out.to (HBL.out.trans (hX.mono HBL.out.size))).ok.n2) hv (by rw [List.length_map,<- HM.out]; omega) (by intro x hx; obtain ⟨p,_,rfl⟩:=List.mem_map.1 hx; simp [pE])
          rw [HAT.out] at hcall
          exact hcall
         refine zqj _ (by kernel_rfl) wx W HBX.out _ _ _ _ _ _ _ _ _ _ _ _ _ _ _ _ _ _ _ _ _ _ _ _ _ _ _ _ _ _ _ _ _ _ _ _ _ _ fv _ (rwX f i r x) (zfw _ _ _ _) (by omega) HSX HO.out HIDX hp1i hq1i hp2i hq2i hxti _ (fun _ _ _ _ _ h => h) _ _ _ _ _ _ _ _ _ _ _ _ _ _ _ _ _ _ _ _ _ _ _ _ _ _ _ _ _ _ _ _ _ _ _ _ _ _ _ _ _ _ _ _ _ _ _ _ _ _ _ _ _ _ _ _ _ _ _ _ _ _ _ _ _ _ _ _ _ _ _ _ _ _ _ _ _ _ _ _ _ _ _ _ _ _ _ _ _ _ _ _ _ _ _ _ _ _ _ _ _ _ _ _ _ _ _ _ _ _ _ _ _ _ _ _ _ _ _ _ _ _ _ _ _ _ _ _ _ _ _ _ _ _ _ _ _ _ _ _ _ _ _ _ _ _ _ _ _ _ _ _ _ _ _ _ _ _ _ _ _ _ _ _ _ _ _ _ _ _ _ _ _ _ _ _ _ _ _ _ _ _ _ _ _ _ _ _ _ _ _ _ _ _ _ _ _ _ _ _ _ _ _ _ _ _ _ _ _ _ _ _ _ _ _ _ _ _ _ _ _ _ _ _ _ _ _ _ _ _ _ _ _ _ _ _ _ _ _ _ _ _ _ _ _ _ _ _ _ _ _ _ _ _ _ _ _ _ _ _ _ _ _ _ _ _ _ _ _ _ _ _ _ _ _ _ _ _ _ _ _ _ _ _ ?_
         intro x193 x194 x195 x196 x197 x198 x199 x200 x201 x202 x203 x204 x205 x206 x207 x208 x209 x210 x211 x212 x213 x214 x215 x216 x217 x218 x219 x220 x221 x222 x223 x224 x225 x226 x227 x228 A4 c4x w4 hB4 hO4
         have HB4:=zh hB4
         have HO4:Hid (O1 w4 wx.heap.size (.slice A4 (x + 1) c4x) (rwX f i r (x + 1))):=by have:=hO4; rw [HFV.out,<- zk0] at this; exact this
         clear hB4 hO4 HIDX HSX
         go_wp2
         as_aux_lemma =>
          go_roundg (L - (x + 1))
          case rel => exact ⟨x + 1,by omega,rfl,by go_num,HB4.out,HO4.out⟩
          case measure => omega
        ·obtain rfl:x = L:=by omega
         have hxti:¬ (x:Int) < (x:Int):=by omega
         have y0:=HQX.out.pr.ra.cell
         have HV1W:=zh (HV1.out.below HBX.out zn)
         have HV2W:=zh (V1.below HV2.out HBX.out zn)
         go_wp2_with (at_builtin; refine zaa eII rfl (.tmp 229) (.tmp 231) rfl wl.heap.size _ _ rfl (VO.allocd HV1W.out _) _ [.slice A11 x c11] rfl (VS.one (Row.new _ _ _)) (by intro u hu; simp at hu; subst hu; rfl) (by rw [HV2.out.1,zer]; simp; omega) (by simp only [World.size_alloc]; have:=HBX.out.size; have:=HBL.out.size; omega) ?_; intro v4 w4 ho4 hg4 _; obtain ⟨A4,c4x,rfl⟩:=VO.formN (n:=r + 1) ho4 (by rw [List.length_append,HV2.out.1,zer]; rfl); have HO4:=zh ho4; have HG4:=zh hg4; clear ho4 hg4)
         have hV24:=V1.far (V1.below HV2W.out (Below.alloc (Below.refl W.heap.size W) zn _) zn) (by decide) (VO.allocd HV1W.out _) HG4.out
         have hO14:=O1.far (O1.below HO.out (Below.alloc (Below.refl W.heap.size W) zn _) zn) (by decide) (VO.allocd HV1W.out _) HG4.out
         have hB4:Below wl.heap.size wl w4:=zae (w:=wl) (HBLX.out.alloc (by have:=HBLX.out.size; omega) _) (VO.allocd HV1W.out _) HG4.out (by simp only [World.size_alloc]; have:=HBLX.out.size; omega)
         have hV5:=hV24.snoc (hO14.mono HBL.out.size)
         have H4:=zh hV5; have HB4:=zh hB4
         clear hV24 hO14 hB4 hV5 y0
         try go_wp2
         as_aux_lemma =>
          go_roundg (k - (r + 1))
          case rel => exact ⟨r + 1,by omega,rfl,by go_num,HB4.out,⟨_,HO4.out,by rw [zk1]; exact H4.out⟩⟩
          case measure => omega
      ·obtain rfl:k = r:=by omega
       have hrti:¬ (k:Int) < (k:Int):=by omega
       have HQX:=zh (HQ.out.to HBL.out)
       have O2X:=zh (show O2 wx w.heap.size (.slice A9 k c9) (rwK f L i k) from O2.mono ⟨vs,HV1.out,HV2.out⟩ HQ.out.pr.below.size)
       obtain ⟨vsn,hvn,hvn2⟩:=HQX.out.o3
       obtain ⟨An,cn,rfl⟩:=VO.formN (n:=i) hvn (by rw [hvn2.1,zc5])
       obtain ⟨Af,cf,rfl⟩:=VO.formN (n:=i) HQX.out.of (by rw [zat,zbu])
       have VNh:=zh hvn; have VN2:=zh hvn2
       have z0:=HQX.out.rd.cell; have z1:=HQX.out.rd.free
       clear hvn hvn2 HV1 HV2
       go_upto_region 45 with (at_builtin; refine zaa eIII rfl (.tmp 234) (.tmp 236) rfl w.heap.size _ _ rfl (VO.allocd VNh.out _) _ [.slice A9 k c9] rfl (VS.one (Row.new _ _ _)) (by intro u hu; simp at hu; subst hu; rfl) (by rw [VN2.out.1,zc5]; simp; omega) (by simp only [World.size_alloc]; have:=HQX.out.pr.below.size; omega) ?_; intro v4 w4 ho4 hg4 _; obtain ⟨A4,c4x,rfl⟩:=VO.formN (n:=i + 1) ho4 (by rw [List.length_append,VN2.out.1,zc5]; rfl); have HO4:=zh ho4; have HG4:=zh hg4; have R74:=zh ((Row.alloc HQX.out.rd _).far_own (by decide) (VO.allocd VNh.out _).2 hg4); have z2:=R74.out.cell; have z3:=R74.out.free; clear ho4 hg4)
       refine zab (fun X => (PqI w V EA EB gD (.slice (some ⟨b3,o3,none⟩) NA c3) (.slice (some ⟨bk,ok,none⟩) NA ck) (.slice (some ⟨b4,o4,none⟩) NC c4) (.slice (some ⟨bl,ol,none⟩) NC cl) (.slice A4 (i + 1) c4x) (.slice Af i cf) (.slice (some ⟨g10,0,none⟩) k c10) (o.map pE) (rwI f L k (i + 1)) (finL ff i) X) /\ Row X gi 3 csi) (by rw [zk2]; have hn:=HQX.out.next VNh.out VN2.out O2X.out HO4.out HG4.out; exact ⟨hn.1,hn.2 _ _ (HRI.out.below HBL.out HRI.out.lt)⟩) ?_
       clear z0 z1 z2 z3 R74 HO4 HG4 VNh VN2 O2X HQ HQX
       rintro X ⟨hq,hri⟩
       have HQ:=zh hq
       have i0:=(hri.cell 0).trans CS0.out; have i1:=(hri.cell 1).trans CS1.out
       have ka:=(hq.pr.below.cell (p:=⟨bk,_,none⟩) hbk).trans (HKA.out p1 hp1); have kb:=(hq.pr.below.cell (p:=⟨bl,_,none⟩) hbl).trans (HKB.out p2 hp2)
       have y0:=hq.pr.ra.cell; have y1:=hq.pr.rb.cell
       have hp1i:(p1:Int) < (NA:Int):=by omega
       have hp2i:(p2:Int) < (NC:Int):=by omega
       obtain ⟨fa,hfa⟩:=zx (a.fin p1)
       obtain ⟨fb,hfb⟩:=zx (b.fin p2)
       have HG:=zh (HFIN.out i _ HP.out)
       dsimp only at HG
       rw [<- hfa,<- hfb] at HG
       rw [<- hfa] at ka
       rw [<- hfb] at kb
       clear hfa hfb hq hri
       first | go_region | fail
       refine zbf (fun Y => PqI w V EA EB gD (.slice (some ⟨b3,o3,none⟩) NA c3) (.slice (some ⟨bk,ok,none⟩) NA ck) (.slice (some ⟨b4,o4,none⟩) NC c4) (.slice (some ⟨bl,ol,none⟩) NC cl) (.slice A4 (i + 1) c4x) (.slice Af i cf) (.slice (some ⟨g10,0,none⟩) k c10) (o.map pE) (rwI f L k (i + 1)) (finL ff i) Y) (HQ.out.to (by go_grown)) ?_
       clear HQ y0 y1 i0 i1 ka kb
       rintro Y hq
       have HQ:=zh hq
       clear hq hsh hv3i
       have HI1:=zh (show i + 1 <= k by omega)
       have HMS:=zh (show k - (i + 1) < k - i by omega)
       have HXC:=zh (show Value.int .i64 ((i:Int) + 1) = .int .i64 ((i + 1:Nat):Int) from rfl)
       go_upto_region 46 with fail
       have hvo46:VO 4 Y w.heap.size (.slice Af i cf) (bL (finL ff i)):=HQ.out.of
       have hrd46:=HQ.out.rd
       have hsz46:w.heap.size <= Y.heap.size:=HQ.out.pr.below.size
       have hlen46:(bL (finL ff i)).length = i:=by rw [zat,zbu]
       have hi46:i <= 1000:=by omega
       refine zqi _ (by kernel_rfl) K hK fa fb gD w.heap.size i (finL ff i) hlen46 hi46 Af cf _ _ _ Y hrd46 hvo46 hsz46 _ _ _ _ _ _ _ _ _ _ _ _ _ _ _ _ _ _ _ _ _ _ _ _ _ _ _ _ _ _ _ _ _ _ _ _ _ _ _ _ _ _ _ _ _ _ _ _ _ _ _ _ _ _ _ _ _ _ _ _ _ _ _ _ _ _ _ _ _ _ _ _ _ _ _ _ _ _ _ _ _ _ _ _ _ _ _ _ _ _ _ _ _ _ _ _ _ _ _ _ _ _ _ _ _ _ _ _ _ _ _ _ _ _ _ _ _ _ _ _ _ _ _ _ _ _ _ _ _ _ _ _ _ _ _ _ _ _ _ _ _ _ _ _ _ _ _ _ _ _ _ _ _ _ _ _ _ _ _ _ _ _ _ _ _ _ _ _ _ _ _ _ _ _ _ _ _ _ _ _ _ _ _ _ _ _ _ _ _ _ _ _ _ _ _ _ _ _ _ _ _ _ _ _ _ _ _ _ _ _ _ _ _ _ _ _ _ _ _ _ _ _ _ _ _ _ _ _ _ _ _ _ _ _ _ _ _ _ _ _ _ _ _ _ _ _ _ _ _ _ _ _ _ _ _ _ _ _ _ _ _ _ _ _ _ _ _ _ _ _ _ _ _ _ _ _ _ _ _ _ _ _ _ _ _ _ _ _ ?_
       intro x253 x254 x255 x256 x257 x258 x259 x260 x261 x262 x263 x264 x265 x266 x267 x268 x269 x270 x271 x272 x273 x274 x275 x276 x277 x278 x279 x280 x281 x282 x283 x284 x285 x286 A5 c5x w4 ho4 hg4
       refine zbf (fun X => PqI w V EA EB gD (.slice (some ⟨b3,o3,none⟩) NA c3) (.slice (some ⟨bk,ok,none⟩) NA ck) (.slice (some ⟨b4,o4,none⟩) NC c4) (.slice (some ⟨bl,ol,none⟩) NC cl) (.slice A4 (i + 1) c4x) (.slice A5 (i + 1) c5x) (.slice (some ⟨g10,0,none⟩) k c10) (o.map pE) (rwI f L k (i + 1)) (finL ff (i + 1)) X) (by rw [zge,<- HG.out]; exact HQ.out.fin ho4 hg4) ?_
       clear HQ ho4 hg4
       rintro X hq
       have HQ:=zh hq
       clear hq
       go_wp2
       as_aux_lemma =>
        go_roundg (k - (i + 1))
        case rel => exact ⟨i + 1,_,_,HI1.out,rfl,by first | exact HXC.out | go_num,HQ.out⟩
        case measure => exact HMS.out
    ·obtain rfl:k = i:=by omega
     have hiti:¬ (k:Int) < (k:Int):=by omega
     obtain ⟨vsn,hvn,hvn2⟩:=hq.o3
     obtain ⟨An,cn,rfl⟩:=VO.formN (n:=k) hvn (by rw [hvn2.1,zc5])
     obtain ⟨Af,cf,rfl⟩:=VO.formN (n:=k) hq.of (by rw [zat,zbu])
     have htd:TD wl (.agg #[.int .i64 (V:Int),.int .i64 0,.slice An k cn,.slice Af k cf]) ((PD o).raw V):=by
      rw [HRAW.out]
      exact ⟨_,_,rfl,hq.o3.n3,hq.of.nb⟩
     have HMM:=zh (HMIN.out _ wl htd)
     have hbw:=hq.pr.below
     have RR:=zh hq.pr.rr; have HB:=zh hbw
     have y7:=hq.rd.cell
     clear htd hq hvn hvn2 HMIN hbw
     go_wp2_with (go_at_call 53; refine HMM.out.mono ?_; intro e w6 h6; obtain ⟨A6,c6,A7,c7,rfl,hb6,ht6⟩:=h6.unfold; have HT:=zh ht6; have HB6:=zh hb6; have RR6:=zh (RR.out.below hb6 RR.out.lt); have b0:=RR6.out.cell; have b1:=RR6.out.free; clear h6 hb6 ht6 y7)
     refine zad (fun X => Row X (w.heap.size + 1 + 1) 25 #[.int .i64 R.vars,.int .i64 R.empty,.slice A6 R.next.length c6,.slice A7 R.fin.length c7] /\ TDO X wl.heap.size (.agg #[.int .i64 R.vars,.int .i64 R.empty,.slice A6 R.next.length c6,.slice A7 R.fin.length c7]) R /\ Below w.heap.size w X)
      (zam RR6.out HT.out (HB.out.trans (HB6.out.mono HB.out.size)) (Nat.le_trans (Nat.le_succ _) (Nat.le_succ _))) ?_
     clear b0 b1 RR6 HT
     rintro W5 ⟨r0,hT,hb⟩
     have b0:=r0.cell
     have q0:=b0 0; have q1:=b0 1; have q2:=b0 2; have q3:=b0 3
     simp only [zg] at q0 q1 q2 q3
     have HT:=zh (hT.mono HB.out.size); have HBX:=zh hb
     clear b0 r0 hT hb
     exact bodyPost_ret (v:=.tuple #[.agg #[.int .i64 R.vars,.int .i64 R.empty,.slice A6 R.next.length c6,.slice A7 R.fin.length c7],.int .i64 (code:Int)]) (by simp [results,Tryz.results79,go_sem,q0,q1,q2,q3]) rfl ⟨_,rfl,HBX.out,HT.out⟩
theorem zpx (ra rb:Raw) (va vb:Value) (w:World) (hva:TD w va ra) (hvb:TD w vb rb) (hsa:Small ra) (hsb:Small rb) :
  Calls Tryz.prog 32 #[va,vb] w (RetR w (opAny ra rb fun p q => p && q).1 (opAny ra rb fun p q => p && q).2):=by
 by_cases h0:ra.check = 0
 ·by_cases g0:rb.check = 0
  ·by_cases hv:ra.vars = rb.vars
   ·have e:opAny ra rb (fun p q => p && q) = opR ra.dta rb.dta (fun p q => p && q) ra.vars.toNat:=by unfold opAny; simp [h0,g0,hv]
    rw [e]
    obtain ⟨V,hV,hd,hr⟩:=Raw.check_dta h0
    obtain ⟨V',hV',hd',hr'⟩:=Raw.check_dta g0
    have:V' = V:=by rw [hV,hV'] at hv; omega
    subst this
    rw [hV,Int.toNat_natCast]
    exact zfg ra rb _ _ va vb w hva hvb fun W hb => zc9 ra.dta rb.dta V' 0 (by omega) hd hd' va vb W (by rw [<- hr]; exact hva.below hb zn) (by rw [<- hr']; exact hvb.below hb zn)
   ·have e:opAny ra rb (fun p q => p && q) = (zeroR,7):=by unfold opAny; simp [h0,g0,hv]
    rw [e]
    exact zfg ra rb zeroR 7 va vb w hva hvb fun W hb => zca ra rb 0 va vb W (hva.below hb zn) (hvb.below hb zn) hsa hsb h0 g0 hv
  ·have e:opAny ra rb (fun p q => p && q) = (zeroR,rb.check):=by unfold opAny; simp [h0,g0]
   rw [e]
   exact zfg ra rb zeroR rb.check va vb w hva hvb fun W hb => zcb ra rb 0 va vb W (hva.below hb zn) (hvb.below hb zn) hsa hsb h0 g0
 ·have e:opAny ra rb (fun p q => p && q) = (zeroR,ra.check):=by unfold opAny; simp [h0]
  rw [e]
  exact zfg ra rb zeroR ra.check va vb w hva hvb fun W hb => zcc ra rb 0 va vb W (hva.below hb zn) (hvb.below hb zn) hsa hsb h0
theorem zqp (ra rb:Raw) (va vb:Value) (w:World) (hva:TD w va ra) (hvb:TD w vb rb) (hsa:Small ra) (hsb:Small rb) :
  Calls Tryz.prog 34 #[va,vb] w (RetR w (opAny ra rb fun p q => p || q).1 (opAny ra rb fun p q => p || q).2):=by
 by_cases h0:ra.check = 0
 ·by_cases g0:rb.check = 0
  ·by_cases hv:ra.vars = rb.vars
   ·have e:opAny ra rb (fun p q => p || q) = opR ra.dta rb.dta (fun p q => p || q) ra.vars.toNat:=by unfold opAny; simp [h0,g0,hv]
    rw [e]
    obtain ⟨V,hV,hd,hr⟩:=Raw.check_dta h0
    obtain ⟨V',hV',hd',hr'⟩:=Raw.check_dta g0
    have:V' = V:=by rw [hV,hV'] at hv; omega
    subst this
    rw [hV,Int.toNat_natCast]
    exact zhz ra rb _ _ va vb w hva hvb fun W hb => zc9 ra.dta rb.dta V' 1 (by omega) hd hd' va vb W (by rw [<- hr]; exact hva.below hb zn) (by rw [<- hr']; exact hvb.below hb zn)
   ·have e:opAny ra rb (fun p q => p || q) = (zeroR,7):=by unfold opAny; simp [h0,g0,hv]
    rw [e]
    exact zhz ra rb zeroR 7 va vb w hva hvb fun W hb => zca ra rb 1 va vb W (hva.below hb zn) (hvb.below hb zn) hsa hsb h0 g0 hv
  ·have e:opAny ra rb (fun p q => p || q) = (zeroR,rb.check):=by unfold opAny; simp [h0,g0]
   rw [e]
   exact zhz ra rb zeroR rb.check va vb w hva hvb fun W hb => zcb ra rb 1 va vb W (hva.below hb zn) (hvb.below hb zn) hsa hsb h0 g0
 ·have e:opAny ra rb (fun p q => p || q) = (zeroR,ra.check):=by unfold opAny; simp [h0]
  rw [e]
  exact zhz ra rb zeroR ra.check va vb w hva hvb fun W hb => zcc ra rb 1 va vb W (hva.below hb zn) (hvb.below hb zn) hsa hsb h0
theorem zf2 (ra rb:Raw) (va vb:Value) (w:World) (hva:TD w va ra) (hvb:TD w vb rb) (hsa:Small ra) (hsb:Small rb) :
  Calls Tryz.prog 36 #[va,vb] w (RetR w (opAny ra rb fun p q => p && !q).1 (opAny ra rb fun p q => p && !q).2):=by
 by_cases h0:ra.check = 0
 ·by_cases g0:rb.check = 0
  ·by_cases hv:ra.vars = rb.vars
   ·have e:opAny ra rb (fun p q => p && !q) = opR ra.dta rb.dta (fun p q => p && !q) ra.vars.toNat:=by unfold opAny; simp [h0,g0,hv]
    rw [e]
    obtain ⟨V,hV,hd,hr⟩:=Raw.check_dta h0
    obtain ⟨V',hV',hd',hr'⟩:=Raw.check_dta g0
    have:V' = V:=by rw [hV,hV'] at hv; omega
    subst this
    rw [hV,Int.toNat_natCast]
    exact zdm ra rb _ _ va vb w hva hvb fun W hb => zc9 ra.dta rb.dta V' 2 (by omega) hd hd' va vb W (by rw [<- hr]; exact hva.below hb zn) (by rw [<- hr']; exact hvb.below hb zn)
   ·have e:opAny ra rb (fun p q => p && !q) = (zeroR,7):=by unfold opAny; simp [h0,g0,hv]
    rw [e]
    exact zdm ra rb zeroR 7 va vb w hva hvb fun W hb => zca ra rb 2 va vb W (hva.below hb zn) (hvb.below hb zn) hsa hsb h0 g0 hv
  ·have e:opAny ra rb (fun p q => p && !q) = (zeroR,rb.check):=by unfold opAny; simp [h0,g0]
   rw [e]
   exact zdm ra rb zeroR rb.check va vb w hva hvb fun W hb => zcb ra rb 2 va vb W (hva.below hb zn) (hvb.below hb zn) hsa hsb h0 g0
 ·have e:opAny ra rb (fun p q => p && !q) = (zeroR,ra.check):=by unfold opAny; simp [h0]
  rw [e]
  exact zdm ra rb zeroR ra.check va vb w hva hvb fun W hb => zcc ra rb 2 va vb W (hva.below hb zn) (hvb.below hb zn) hsa hsb h0
end Go.Proofs.YthkfjnmnoanhlaaGreatDoor
