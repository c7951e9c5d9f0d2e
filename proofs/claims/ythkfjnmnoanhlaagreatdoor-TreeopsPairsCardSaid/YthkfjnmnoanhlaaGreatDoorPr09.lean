/- Part 9 of the proof; it says: lemmas and contracts. No conditions but those that each theorem states. -/
import Derived.Laws.IdiomStrings
import Derived.Laws.BytesArg
import Derived.Test.YthkfjnmnoanhlaaGreatDoorPr01
import Derived.Test.YthkfjnmnoanhlaaGreatDoorPr05
import Derived.Test.YthkfjnmnoanhlaaGreatDoorPr08
set_option linter.unusedSimpArgs false
set_option linter.unusedVariables false
set_option maxRecDepth 100000
set_option maxHeartbeats 32000000
namespace Go.Proofs.YthkfjnmnoanhlaaGreatDoor
open Go.RowKit
theorem NM.new {α:Type} [DecidableEq α] {k:TypeId} {lit:α -> Lit} {w:World} {b:Nat} (h:b = w.heap.size):NM k lit (w.alloc (.map #[] 0)) b ([]:List α):=h ▸ NM.made k lit w
structure Nx (w:World) (v:Value) (n L:Nat) (f:Nat -> Nat -> Nat -> Nat) (b3 o3 c3:Nat):Prop where
 form:v = .slice (some ⟨b3,o3,none⟩) n c3
 cap:n <= c3 /\ c3 <= 9223372036854775807
 at3:∀ l r x,l < n -> r < n -> x < L -> ∃ b2 o2 c2 b1 o1 c1,b3 < w.heap.size /\ w.cell? ⟨b3,o3 + l,none⟩ = some (.slice (some ⟨b2,o2,none⟩) n c2) /\ n <= c2 /\ b2 < w.heap.size /\ w.cell? ⟨b2,o2 + r,none⟩ = some (.slice (some ⟨b1,o1,none⟩) L c1) /\ L <= c1 /\
  b1 < w.heap.size /\ w.cell? ⟨b1,o1 + x,none⟩ = some (.int .i64 (f l r x:Int))
theorem N3.nx {w:World} {v:Value} {n L:Nat} {f:Nat -> Nat -> Nat -> Nat} (h:N3 w v (nx3 n L f)) (hn:1 <= n) (hL:1 <= L):∃ b3 o3 c3,Nx w v n L f b3 o3 c3:=by
 obtain ⟨A3,c3,rfl,hA1,hA2,hA⟩:=h.open
 have hlen:(nx3 n L f).length = n:=by simp [nx3]
 rw [hlen] at hA1
 obtain ⟨e1,_,_⟩:=zee (f:=f) (show 0 < n by omega) (show 0 < n by omega) (show 0 < L by omega)
 obtain ⟨b3,o3,_,hA3,hb3,_⟩:=hA 0 _ e1
 subst hA3
 refine ⟨b3,o3,c3,by rw [hlen],⟨hA1,hA2⟩,fun l r x hl hr hx => ?_⟩
 obtain ⟨e1,e2,e3⟩:=zee (f:=f) hl hr hx
 obtain ⟨b3',o3',u,he,hb3,c0,hN2⟩:=hA l _ e1
 simp only [Option.some.injEq,Addr.mk.injEq,and_true] at he
 obtain ⟨rfl,rfl⟩:=he
 obtain ⟨A2,c2,rfl,hB1,hB2,hB⟩:=hN2.open
 obtain ⟨b2,o2,u,rfl,hb2,d0,hN1⟩:=hB r _ e2
 obtain ⟨A1,c1,rfl,hC1,hC2,hC⟩:=hN1.open
 obtain ⟨b1,o1,rfl,hb1,f0⟩:=hC x _ e3
 simp only [List.length_map,List.length_range] at hB1 hC1 c0 d0
 exact ⟨b2,o2,c2,b1,o1,c1,hb3,c0,hB1,hb2,d0,hC1,hb1,f0⟩
theorem zno (d:Dta) (V:Nat) (hd:d.Fit V) (w0 wc:World) (gd go gn bm:Nat) (vn vf:Value) (hn:N3 w0 vn (nx3 d.n d.L d.nx)) (hi:RnI w0 gd go gn bm #[.int .i64 (V:Int),.int .i64 (d.e:Int),vn,vf] d.order wc) :
  Cb3R d.order.length d.L d.renum.nx (.pointer (some ⟨gn,0,none⟩)) (.pointer (some ⟨gd,0,none⟩)) (.pointer (some ⟨go,0,none⟩)) wc:=by
 intro l r x W hl hr hx hbw
 replace hi:=hi.keep hbw
 have h64:=hd.n64
 obtain ⟨b3,o3,c3,hN⟩:=hn.nx hd.pos hd.L8.1
 obtain ⟨a,ha⟩:∃ a,d.order[l]? = some a:=⟨d.order[l]'hl,List.getElem?_eq_getElem _⟩
 obtain ⟨b,hb⟩:∃ b,d.order[r]? = some b:=⟨d.order[r]'hr,List.getElem?_eq_getElem _⟩
 have hao:=(d.order_acc a (List.mem_of_getElem? ha)).lt hd.ok
 have hbo:=(d.order_acc b (List.mem_of_getElem? hb)).lt hd.ok
 have hal:d.order.getD l 0 = a:=by rw [List.getD_eq_getElem?_getD,ha]; rfl
 have hbl:d.order.getD r 0 = b:=by rw [List.getD_eq_getElem?_getD,hb]; rfl
 have hmem:d.nx a b x ∈ d.order:=d.order_closed hd.ok a b x (List.mem_of_getElem? ha) (List.mem_of_getElem? hb) hx
 have hres:d.renum.nx l r x = d.order.idxOf (d.nx a b x):=by show d.order.idxOf (d.nx (d.order.getD l 0) (d.order.getD r 0) x) = _; rw [hal,hbl]
 rw [hres]
 obtain ⟨b2,o2,c2,b1,o1,c1,hb3,c0,hB1,hb2,d0,hC1,hb1,f0⟩:=hN.at3 a b x hao hbo hx
 obtain rfl:=hN.form
 have hA1:=hN.cap.1
 rw [<- hi.below.cell (p:=⟨b3,_,none⟩) hb3] at c0
 rw [<- hi.below.cell (p:=⟨b2,_,none⟩) hb2] at d0
 rw [<- hi.below.cell (p:=⟨b1,_,none⟩) hb1] at f0
 have hsn:=hd.ok.hn a b x hao hbo hx
 obtain ⟨s,hs⟩:=zx (d.nx a b x)
 rw [<- hs] at f0 hsn hmem ⊢
 obtain ⟨o,ho⟩:=zx d.order
 rw [<- ho] at hi ha hb hmem hl hr ⊢
 obtain ⟨n,hnn⟩:=zx d.n
 obtain ⟨L,hLL⟩:=zx d.L
 rw [<- hnn] at hA1 hB1 c0 hi hao hbo h64 hsn
 rw [<- hLL] at hC1 d0 hx
 have hp:0 < o.length:=by omega
 obtain ⟨ov,h1,h2⟩:=hi.ro
 obtain ⟨g,cap,cs,rfl,hBg,hrow,hcl,hcm,hcell⟩:=VO.row h2 (by rw [zag,zaj]; exact hp)
 rw [zag,zaj] at hcl h1 h2
 have q0:=hcell l _ (iL_at (oI_at ha))
 have q1:=hcell r _ (iL_at (oI_at hb))
 obtain ⟨m,hm⟩:=zx o.length
 rw [<- hm] at hcl h1 h2 hl hr hp
 have z1:=hi.rd.cell; have z2:=hi.rn.cell; have z3:=h1.cell
 have k1:=hi.nm.look zco zci s hmem _ (zev s (by omega))
 have k2:=hi.nm.drew.look zco zci s hmem _ (zev s (by omega))
 clear hi hm h1 h2 hcell ha hb hs hnn hLL hal hbl hres hmem hN hn ho hrow hb1 hb2 hb3
 go_enter Tryz.func121,Tryz.ntmps121
 go_wp2
 first | go_region | fail
 go_wp2
 go_returns
 exact ⟨rfl,by go_grown⟩
theorem znn (d:Dta) (V:Nat) (hd:d.Fit V) (w0 wc:World) (gd go gn bm:Nat) (vn vf:Value) (hf:NB w0 vf ((List.range d.n).map d.fin)) (hi:RnI w0 gd go gn bm #[.int .i64 (V:Int),.int .i64 (d.e:Int),vn,vf] d.order wc) :
  Cb1R d.order.length d.renum.fin (.pointer (some ⟨gd,0,none⟩)) (.pointer (some ⟨go,0,none⟩)) wc:=by
 intro l W hl hbw
 replace hi:=hi.keep hbw
 have h64:=hd.n64
 obtain ⟨a,ha⟩:∃ a,d.order[l]? = some a:=⟨d.order[l]'hl,List.getElem?_eq_getElem _⟩
 have hao:=(d.order_acc a (List.mem_of_getElem? ha)).lt hd.ok
 rw [d.renum_fin ha]
 obtain ⟨Af,cf,rfl,hA1,hA2,hA⟩:=hf.open
 simp only [List.length_map,List.length_range] at hA1 hi
 obtain ⟨b1,o1,rfl,hb1,f0⟩:=hA a (d.fin a) (by rw [List.getElem?_map,List.getElem?_range hao]; rfl)
 rw [<- hi.below.cell (p:=⟨b1,_,none⟩) hb1] at f0
 obtain ⟨s,hs⟩:=zx (d.fin a)
 rw [<- hs] at f0 ⊢
 obtain ⟨o,ho⟩:=zx d.order
 rw [<- ho] at hi ha hl
 obtain ⟨n,hnn⟩:=zx d.n
 rw [<- hnn] at hA1 hi hao h64
 have hp:0 < o.length:=by omega
 obtain ⟨ov,h1,h2⟩:=hi.ro
 obtain ⟨g,cap,cs,rfl,hBg,hrow,hcl,hcm,hcell⟩:=VO.row h2 (by rw [zag,zaj]; exact hp)
 rw [zag,zaj] at hcl h1 h2
 have q0:=hcell l _ (iL_at (oI_at ha))
 obtain ⟨m,hm⟩:=zx o.length
 rw [<- hm] at hcl h1 h2 hl hp
 have z1:=hi.rd.cell; have z3:=h1.cell
 clear hi hm h1 h2 hcell ha hs hnn hf hA ho hrow hb1
 go_enter Tryz.func122,Tryz.ntmps122
 go_wp2
 first | go_region | fail
 go_wp2
 go_returns
 exact ⟨rfl,by go_grown⟩
theorem zb5 (d:Dta) (V:Nat) (hd:d.Fit V) (v:Value) (w:World) (hv:TD w v (d.raw V)) :
  Calls Tryz.prog 82 #[v] w fun e w' => ∃ v',e = .returned v' /\ Below w.heap.size w w' /\ TDO w' w.heap.size v' (d.renum.raw V):=by
 obtain ⟨vn,vf,rfl,hn,hf⟩:=hv
 have hr2:=fun wc go gn bm h => zno d V hd w wc w.heap.size go gn bm vn vf hn h
 have hr3:=fun wc go gn bm h => znn d V hd w wc w.heap.size go gn bm vn vf hf h
 have hr1:=fun go gn bm => zj6 d V hd (.pointer (some ⟨w.heap.size,0,none⟩)) (.pointer (some ⟨go,0,none⟩)) (.pointer (some ⟨gn,0,none⟩)) (RnI w w.heap.size go gn bm #[.int .i64 (V:Int),.int .i64 (d.e:Int),vn,vf]) (fun o W W' h hb => RnI.keep h hb) (znp d V hd w w.heap.size go gn bm vn vf hn)
 obtain ⟨A3,c3,rfl,_⟩:=hn.open
 obtain ⟨Af,cf,rfl,_⟩:=hf.open
 have hlen:(d.raw V).next.length = d.n:=by simp [Dta.raw,nx3]
 have hlenf:(d.raw V).fin.length = d.n:=by simp [Dta.raw]
 rw [hlen] at hr1 hr2 hr3 ⊢
 rw [hlenf] at hr1 hr2 hr3 ⊢
 have hvars:(d.raw V).vars = (V:Int):=rfl
 have hemp:(d.raw V).empty = (d.e:Int):=rfl
 rw [hvars,hemp]
 have hbu:=fun (k1 k2 k3 j1 j2:Value) (W:World) => built_R V d.order.length d.L hd.v3 hd.L (Nat.le_trans (d.order_len hd.ok) hd.n64) d.renum.nx d.renum.fin k1 k2 k3 j1 j2 W
 have hen:=hd.ok.he
 have h64:=hd.n64
 have R1:=zh hr1; have R2:=zh hr2; have R3:=zh hr3; have BU:=zh hbu
 have hord:=d.order_pos
 obtain ⟨o,ho⟩:=zx d.order
 rw [<- ho] at hord
 have HO:=zh ho
 have hmm:=@run_makeMap Tryz.prog
 obtain ⟨E,hE⟩:=zx d.e
 obtain ⟨n,hN⟩:=zx d.n
 have HE:=zh hE; have HN:=zh hN
 rw [<- hE] at hen ⊢
 rw [<- hN] at hen h64 ⊢
 have hE6:E <= 1000000:=by omega
 clear hn hf hr1 hr2 hr3 hbu ho hlen hlenf hvars hemp hE hN
 go_enter Tryz.func82,Tryz.ntmps82
 go_upto_region 3 with (refine zaw (ks:=([]:List Nat)) kl_int zco rfl (.tmp 5) (.tmp 7) _ _ (.inr rfl) zci rfl (NM.new (by simp)) (by simp) E (by simp) _ rfl (zev E hE6) rfl ?_; intro w1 hm1 hg1; have RD:=zh (Row.grown (((Row.new w 25 #[.int .i64 (V:Int),.int .i64 (E:Int),.slice A3 n c3,.slice Af n cf]).alloc (.cells #[.int .i64 0,.int .i64 0,.slice none 0 0,.slice none 0 0] 25)).alloc (.map #[] 0)) hg1 (by simp; omega)); have RR:=zh (Row.grown ((Row.lit (w:=w.alloc (.cells #[.int .i64 (V:Int),.int .i64 (E:Int),.slice A3 n c3,.slice Af n cf] 25)) (g:=w.heap.size + 1) (t:=25) (cs:=#[.int .i64 0,.int .i64 0,.slice none 0 0,.slice none 0 0]) (by simp)).alloc (.map #[] 0)) hg1 (by simp)); have HM1:=zh hm1; have HB1:=zh (Below.grown (w:=_) (a:=w) (B:=w.heap.size) (by go_grown) hg1 (by simp; omega) (fun k hk => by simp at hk; omega)); have hz:=RD.out.lt; have y0:=RD.out.cell; have y1:=fun X => (RD.out.alloc X).cell; have y2:=fun X Y => ((RD.out.alloc X).alloc Y).cell; clear hm1 hg1)
 refine zab (fun W => RnI w w.heap.size (w1.heap.size + 1 + 1) w1.heap.size (w.heap.size + 1 + 1) #[.int .i64 (V:Int),.int .i64 (E:Int),.slice A3 n c3,.slice Af n cf] [E] W) ⟨by have h1:=HB1.out; have h2:=h1.size; go_grown,((RD.out.alloc _).alloc _).alloc _,((RR.out.alloc _).alloc _).alloc _,((Row.new w1 _ _).alloc _).alloc _,((HM1.out.alloc _).alloc _).alloc _,
  ⟨_,Row.lit (by simp),VO.allocd (by
   have h:=VO.lit (E:=3) (w:=w1.alloc (.cells #[.map (some (w.heap.size + 1 + 1))] 147)) (n:=1) [.int .i64 (E:Int)] rfl (by omega) (by intro u hu; simp at hu; subst hu; rfl)
   rw [World.size_alloc] at h
   exact h.mono (by have h1:=HB1.out.size; omega)) _⟩,by have h1:=HB1.out.size; omega⟩ ?_
 clear RD RR HM1 HB1 hz y0 y1 y2
 rintro W hi
 generalize w1.heap.size + 1 + 1 = go at *
 generalize w1.heap.size = gn at *
 generalize w.heap.size + 1 + 1 = bm at *
 have z0:=hi.rd.cell
 rw [HE.out] at hi
 have HI:=zh hi; clear hi
 go_upto_region 4 with (go_at_call 119; (have hx:=R1.out go gn bm W (by rw [<- HE.out,<- HN.out] at *; exact HI.out)); refine hx.mono ?_; rintro e w3 ⟨rfl,hi3⟩; have HI3:=zh hi3; clear hi3 hx)
 obtain ⟨m,hm⟩:=zx d.order.length
 obtain ⟨ov,h1,h2⟩:=HI3.out.ro
 obtain ⟨Ao,co,rfl⟩:=VO.formN (n:=m) h2 (by rw [zag,zaj,hm])
 have z0:=HI3.out.rd.cell
 have z3:=h1.cell
 have hbu:=BU.out _ _ _ _ _ w3 (R2.out w3 go gn bm HI3.out) (R3.out w3 go gn bm HI3.out)
 rw [<- hm] at hbu
 have HBU:=zh hbu
 have HB3:=zh HI3.out.below; have RR:=zh HI3.out.rr
 have HM:=zh hm
 clear hbu h1 h2 R1 R2 R3 BU HI3 hm
 go_wp2_with (go_at_call 84; refine HBU.out.mono ?_; rintro e w4 ⟨v4,rfl,hb4,ht4⟩; have HB4:=zh hb4; have HT:=zh ht4; obtain ⟨vn4,vf4,rfl,⟨vs4,hn4,_⟩,hf4⟩:=ht4; obtain ⟨A5,c5,rfl⟩:=hn4.form; obtain ⟨A6,c6,rfl⟩:=VO.form hf4; have RR4:=zh (RR.out.below hb4 RR.out.lt); have b0:=RR4.out.cell; have b1:=RR4.out.free; clear hb4 hn4 hf4)
 refine zad (fun W => Row W (w.heap.size + 1) 25 #[.int .i64 (V:Int),.int .i64 0,.slice A5 vs4.length c5,.slice A6 (bL (List.map d.renum.fin (List.range m))).length c6] /\ TDO W w3.heap.size (.agg #[.int .i64 (V:Int),.int .i64 0,.slice A5 vs4.length c5,.slice A6 (bL (List.map d.renum.fin (List.range m))).length c6]) (d.renum.raw V) /\ Below w.heap.size w W)
  (by have ht:=HT.out; rw [HM.out] at ht ⊢; exact zam RR4.out ht (HB3.out.trans (HB4.out.mono HB3.out.size)) (by omega)) ?_
 clear b0 b1 RR4 HT z0 z3
 rintro W5 ⟨r0,hT,hb⟩
 have b0:=r0.cell
 have q0:=b0 0; have q1:=b0 1; have q2:=b0 2; have q3:=b0 3
 simp only [zg] at q0 q1 q2 q3
 have HT:=zh (hT.mono HB3.out.size); have HB:=zh hb
 clear b0 r0 hT hb
 exact bodyPost_ret (v:=.agg #[.int .i64 (V:Int),.int .i64 0,.slice A5 vs4.length c5,.slice A6 (bL (List.map d.renum.fin (List.range m))).length c6]) (by simp [results,Tryz.results82,go_sem,q0,q1,q2,q3]) rfl ⟨_,rfl,HB.out,HT.out⟩
theorem zbq {w w2:World} {cs ds:Array Value} {t u:TypeId} (h:Below ((w.alloc (.cells cs t)).alloc (.cells ds u)).heap.size ((w.alloc (.cells cs t)).alloc (.cells ds u)) w2) :
  Below w.heap.size w w2 /\ Row w2 w.heap.size t cs /\ Row w2 (w.heap.size + 1) u ds:=by
 have r:=(Row.alloc (Row.new w t cs) (.cells ds u)).below h (by simp only [World.size_alloc]; omega)
 have q:=(Row.new (w.alloc (.cells cs t)) u ds).below h (by simp only [World.size_alloc]; omega)
 simp only [World.size_alloc] at q
 exact ⟨((Below.alloc (Below.refl _ _) zn _).alloc (by simp only [World.size_alloc]; omega) _).trans (h.mono (by simp only [World.size_alloc]; omega)),r,q⟩
def zeroR:Raw:=⟨0,0,[],[]⟩
def zeroV:Value:=.agg #[.int .i64 0,.int .i64 0,.slice none 0 0,.slice none 0 0]
theorem zai (w:World) (B:Nat):TDO w B zeroV zeroR:=⟨_,_,rfl,⟨[],VO.nil _ _ _,rfl,fun i u h => by simp at h⟩,VO.nil _ _ _⟩
def resR (f:Dta -> Dta) (r:Raw):Raw:=if r.check = 0 then (f r.dta).raw r.vars.toNat else zeroR
theorem zfz {f:Dta -> Dta} {D:Dta} {V:Nat} {r:Raw} (h:r.check = 0) (hV:r.vars = V):resR f r = (f r.dta).raw V:=by
 unfold resR; rw [if_pos h,hV]; rfl
theorem zct {f:Dta -> Dta} {r:Raw} (h:r.check ≠ 0):resR f r = zeroR:=if_neg h
theorem TD.form {w:World} {v:Value} {r:Raw} (h:TD w v r):∃ A c Af cf,v = .agg #[.int .i64 r.vars,.int .i64 r.empty,.slice A r.next.length c,.slice Af r.fin.length cf]:=by
 obtain ⟨vn,vf,rfl,hn,hf⟩:=h
 obtain ⟨A,c,rfl,_⟩:=hn.open
 obtain ⟨Af,cf,rfl,_⟩:=hf.open
 exact ⟨_,_,_,_,rfl⟩
theorem TDO.form {w:World} {B:Nat} {v:Value} {r:Raw} (h:TDO w B v r):∃ A c Af cf,v = .agg #[.int .i64 r.vars,.int .i64 r.empty,.slice A r.next.length c,.slice Af r.fin.length cf]:=h.td.form
def RetR (w:World) (r:Raw) (k:Nat) (e:Ending) (w':World):Prop:=∃ v',e = .returned (.tuple #[v',.int .i64 (k:Int)]) /\ Below w.heap.size w w' /\ TDO w' w.heap.size v' r
abbrev Small (r:Raw):Prop:=r.next.length <= 1000000 /\ r.fin.length <= 1000000
theorem zjj (r:Raw) (v:Value) (w:World) (hv:TD w v r) (hs:Small r):Calls Tryz.prog 70 #[v] w (RetR w (resR Dta.renum r) r.check):=by
 have hck:=fun W (h:Below w.heap.size w W) => zap r v W (hv.below h zn) hs
 have hrn:r.check = 0 -> ∀ W,Below w.heap.size w W -> Calls Tryz.prog 82 #[v] W fun e w' => ∃ v',e = .returned v' /\ Below W.heap.size W w' /\ TDO w' W.heap.size v' (resR Dta.renum r):=by
  intro h W hb
  obtain ⟨V,hd,hr⟩:=Raw.check_ok h
  have hV:r.vars = V:=by rw [hr]; rfl
  rw [zfz (D:=r.dta) h hV]
  exact zb5 r.dta V hd v W (by rw [<- hr]; exact hv.below hb zn)
 obtain ⟨A,c,Af,cf,rfl⟩:=hv.form
 have HC:=zh hck; have HR:=zh hrn
 obtain ⟨k,hk⟩:=zx r.check
 rw [<- hk] at HC ⊢
 obtain ⟨n,hn⟩:=zx r.next.length
 obtain ⟨m,hm⟩:=zx r.fin.length
 obtain ⟨V,hV⟩:=zx r.vars
 obtain ⟨E,hE⟩:=zx r.empty
 rw [<- hn,<- hm,<- hV,<- hE] at HC HR ⊢
 have HK:=zh hk
 clear hck hrn hv hk hn hm hV hE hs
 by_cases h0:k = 0
 ·have h0':((k:Int) != 0) = false:=by rw [h0]; rfl
  have HRN:=zh (HR.out (by rw [<- HK.out]; exact h0))
  have H0:=zh h0
  clear h0
  go_enter Tryz.func70,Tryz.ntmps70
  go_wp2_with (first
   | (go_at_call 50; refine (HC.out _ (by go_grown)).mono ?_; rintro e w2 ⟨rfl,hb2⟩; have X:=zbq hb2; have HB2:=zh X.1; have R1:=zh X.2.1; have RR:=zh X.2.2; have y0:=X.2.1.cell; have y2:=X.2.2.cell; have y3:=X.2.2.free; clear hb2 X)
   | (go_at_call 82; refine (HRN.out _ HB2.out).mono ?_; rintro e w4 ⟨v4,rfl,hb4,ht4⟩; obtain ⟨A4,c4,A5,c5,rfl⟩:=ht4.form; have HT:=zh ht4; have HB4:=zh hb4; have RR4:=zh (RR.out.below hb4 RR.out.lt); have b0:=RR4.out.cell; have b1:=RR4.out.free; clear hb4 ht4 y0 y2 y3))
  refine zad (fun W => Row W (w.heap.size + 1) 25 #[.int .i64 (resR Dta.renum r).vars,.int .i64 (resR Dta.renum r).empty,.slice A4 (resR Dta.renum r).next.length c4,.slice A5 (resR Dta.renum r).fin.length c5] /\ TDO W w2.heap.size (.agg #[.int .i64 (resR Dta.renum r).vars,.int .i64 (resR Dta.renum r).empty,.slice A4 (resR Dta.renum r).next.length c4,.slice A5 (resR Dta.renum r).fin.length c5]) (resR Dta.renum r) /\ Below w.heap.size w W)
   (zam RR4.out HT.out (HB2.out.trans (HB4.out.mono HB2.out.size)) (by omega)) ?_
  clear b0 b1 RR4 HT
  rintro W5 ⟨r0,hT,hb⟩
  have b0:=r0.cell
  have q0:=b0 0; have q1:=b0 1; have q2:=b0 2; have q3:=b0 3
  simp only [zg] at q0 q1 q2 q3
  have HT:=zh (hT.mono HB2.out.size); have HB:=zh hb
  clear b0 r0 hT hb
  refine bodyPost_ret (v:=.tuple #[.agg #[.int .i64 (resR Dta.renum r).vars,.int .i64 (resR Dta.renum r).empty,.slice A4 (resR Dta.renum r).next.length c4,.slice A5 (resR Dta.renum r).fin.length c5],.int .i64 0]) (by simp [results,Tryz.results70,go_sem,q0,q1,q2,q3]) rfl ⟨_,?_,HB.out,HT.out⟩
  rw [H0.out]; rfl
 ·have h0':((k:Int) != 0) = true:=by rw [bne_iff_ne]; omega
  have HZ:=zh (show resR Dta.renum r = zeroR from zct (by rw [<- HK.out]; exact h0))
  rw [HZ.out]
  clear h0 HR
  go_enter Tryz.func70,Tryz.ntmps70
  go_wp2_with (go_at_call 50; refine (HC.out _ (by go_grown)).mono ?_; rintro e w2 ⟨rfl,hb2⟩; have X:=zbq hb2; have HB2:=zh X.1; have R1:=zh X.2.1; have RR:=zh X.2.2; have y0:=X.2.1.cell; have y2:=X.2.2.cell; have y3:=X.2.2.free; clear hb2 X)
  refine zad (fun W => Row W (w.heap.size + 1) 25 #[.int .i64 0,.int .i64 0,.slice none 0 0,.slice none 0 0] /\ TDO W w2.heap.size zeroV zeroR /\ Below w.heap.size w W) (zam RR.out (zai _ _) HB2.out (by omega)) ?_
  clear y0 y2 y3
  rintro W5 ⟨r0,hT,hb⟩
  have b0:=r0.cell
  have q0:=b0 0; have q1:=b0 1; have q2:=b0 2; have q3:=b0 3
  simp only [zg] at q0 q1 q2 q3
  have HB:=zh hb
  clear b0 r0 hT hb
  exact bodyPost_ret (v:=.tuple #[zeroV,.int .i64 (k:Int)]) (by simp [results,Tryz.results70,go_sem,q0,q1,q2,q3,zeroV]) rfl ⟨_,rfl,HB.out,zai _ _⟩
def yL (l:List Nat):List Value:=l.map fun (x:Nat) => Value.int .u8 (x:Int)
theorem zmy (l:List Nat):(yL l).length = l.length:=by simp [yL]
theorem yL_at {l:List Nat} {i x:Nat} (h:l[i]? = some x):(yL l)[i]? = some (.int .u8 (x:Int)):=by rw [yL,List.getElem?_map,h]; rfl
theorem eY:Elt 150 5 (.int .u8 0) 1:=⟨by kernel_rfl,by kernel_rfl,by omega,rfl⟩
def YT (w:World) (B:Nat) (v:Value) (l:List Nat):Prop :=
 ∃ g cap cs fr,v = .slice (some ⟨g,0,none⟩) l.length cap /\ B <= g /\ w.heap[g]? = some (.cells cs 5 fr) /\ cs.size = cap /\ l.length <= cap /\ cap <= 9223372036854775807 /\ (∀ j,j < cap -> (decide (fr.1 <= j) && decide (j < fr.2)) = false) /\
  ∀ (i x:Nat),l[i]? = some x -> cs[i]? = some (Value.int .u8 (x:Int))
theorem YT.heap {w w':World} {B:Nat} {v:Value} {l:List Nat} (h:YT w B v l) (hh:∀ g,v.ownBlock = some g -> w'.heap[g]? = w.heap[g]?):YT w' B v l:=by
 obtain ⟨g,cap,cs,fr,rfl,h1,h2,h3⟩:=h
 exact ⟨g,cap,cs,fr,rfl,h1,(hh g rfl).trans h2,h3⟩
theorem YT.lt {w:World} {B:Nat} {v:Value} {l:List Nat} (h:YT w B v l) {g:Nat} (hg:v.ownBlock = some g):B <= g /\ g < w.heap.size:=by
 obtain ⟨g',cap,cs,fr,rfl,h1,h2,h3⟩:=h
 simp only [Value.ownBlock,Option.some.injEq] at hg
 subst hg
 exact ⟨h1,(Array.getElem?_eq_some_iff.1 h2).1⟩
theorem YT.allocd {w:World} {B:Nat} {v:Value} {l:List Nat} (h:YT w B v l) (X:Obj):YT (w.alloc X) B v l:=h.heap fun g hg => Below.heap_alloc w X g (h.lt hg).2
theorem YT.ne_row {w:World} {B g:Nat} {v:Value} {l:List Nat} {E:TypeId} {cs:Array Value} (h:YT w B v l) (hr:Row w g E cs) (hne:5 ≠ E):v.ownBlock ≠ some g:=by
 intro e
 obtain ⟨g',cap,cs',fr,rfl,h1,h2,h3⟩:=h
 simp only [Value.ownBlock,Option.some.injEq] at e
 subst e
 unfold Row at hr
 rw [hr] at h2
 simp only [Option.some.injEq,Obj.cells.injEq] at h2
 exact hne h2.2.1.symm
theorem YT.setFar {w:World} {B g:Nat} {v:Value} {l:List Nat} {E:TypeId} {cs:Array Value} (h:YT w B v l) (hr:Row w g E cs) (hne:5 ≠ E) (i:Nat) (u:Value):YT (w.setCell ⟨g,i,none⟩ u) B v l :=
 h.heap fun k hk => Below.heap_setCell w ⟨g,i,none⟩ u k (fun e => h.ne_row hr hne (by rw [hk,e]))
theorem YT.made (w:World) (B:Nat) (hB:B <= w.heap.size) (s:ByteArray) (cap:Nat) (l:List Nat) (hl:l = s.data.toList.map (·.toNat)) (hc:s.size <= cap) (hm:cap <= 9223372036854775807) :
  YT (w.alloc (.cells (bytesRow s cap) 5 ((bytesRow s cap).size,(bytesRow s cap).size + 1))) B (.slice (some ⟨w.heap.size,0,none⟩) s.size cap) l:=by
 have hsz:(bytesRow s cap).size = cap:=by
  unfold bytesRow
  simp only [Array.size_append,Array.size_map,Array.size_replicate]
  have:s.data.size = s.size:=rfl
  omega
 have hll:l.length = s.size:=by rw [hl]; simp
 refine ⟨w.heap.size,cap,bytesRow s cap,_,by rw [hll],hB,heap_alloc_new w _,hsz,by omega,hm,fun j hj => ?_,fun i x hi => ?_⟩
 ·rw [hsz]; simp; omega
 ·rw [hl,List.getElem?_map] at hi
  have hi2:i < s.data.size:=by
   rcases Nat.lt_or_ge i s.data.size with h | h
   ·exact h
   ·rw [List.getElem?_eq_none (by simpa using h)] at hi; cases hi
  rw [bytesRow_at s cap i hi2]
  rw [List.getElem?_eq_getElem (by simpa using hi2)] at hi
  simp only [Option.map_some,Option.some.injEq,Array.getElem_toList] at hi
  rw [hi]
theorem zll (w:World) (n old:Nat) (e:TypeId) (hn:n <= 1000000):n <= grownCap w n old e /\ grownCap w n old e <= 9223372036854775807:=by
 have h1:=grownCap_ge w n old e
 have h2:=grownCap_le_maxLen w n old e (by simp only [maxLen]; omega)
 simp only [maxLen] at h2
 exact ⟨h1,by omega⟩
theorem u8_info:∃ i,Tryz.prog.info? 5 = some i /\ i.zero = some (.int .u8 0) /\ i.size = 1 /\ i.bytes = 1:=by
 obtain ⟨i,hi,hz,h1,h2⟩:=info_parts eY.info
 exact ⟨i,hi,hz,h1,h2⟩
theorem zhq (w:World) (B:Nat) (v:Value) (l:List Nat) (h:YT w B v l) (b:Nat) (c:Nat) (x y:Nat) (h0:w.cell? ⟨b,0,none⟩ = some (.int .u8 (x:Int))) (h1:w.cell? ⟨b,1,none⟩ = some (.int .u8 (y:Int))) (ty:TypeId) (hl:l.length <= 100000) (hB:B <= w.heap.size) :
  ∃ v' w',(Builtin.append_ #[150,150] ty #[v,.slice (some ⟨b,0,none⟩) 2 c]).run Tryz.prog w = .ok v' w' /\ YT w' B v' (l ++ [x,y]) /\ w.grownBy w' v.ownBlock:=by
 obtain ⟨i,hi,hz,hs1,hs2⟩:=u8_info
 obtain ⟨g,cap,cs,fr,rfl,hBg,hg,hcs,hlc,hcm,hfr,hat⟩:=h
 have hadd:∀ j,(⟨b,0,none⟩:Addr).add j = ⟨b,j,none⟩:=fun j => by unfold Addr.add; split <;> simp_all
 have haddg:∀ o j,(⟨g,o,none⟩:Addr).add j = ⟨g,o + j,none⟩:=fun o j => by unfold Addr.add; split <;> simp_all
 have hnews:∀ j u,[Value.int .u8 (x:Int),.int .u8 (y:Int)][j]? = some u -> w.cell? ((⟨b,0,none⟩:Addr).add j) = some u:=by
  intro j u hj
  rw [hadd]
  match j with
  | 0 => simp at hj; rw [<- hj]; exact h0
  | 1 => simp at hj; rw [<- hj]; exact h1
  | j + 2 => simp at hj
 have hgl:g < w.heap.size:=(Array.getElem?_eq_some_iff.1 hg).1
 have hlen2:(l ++ [x,y]).length = l.length + 2:=by simp
 by_cases hroom:l.length + 2 <= cap
 ·have hf:=run_firstCells_some (P:=Tryz.prog) w i.size 2 ⟨b,0,none⟩ 2 c [Value.int .u8 (x:Int),.int .u8 (y:Int)] (by rw [hs1]; rfl) hnews
  have hg1:(w.setCell ⟨g,l.length,none⟩ (.int .u8 (x:Int))).heap[g]? = some (.cells (cs.setIfInBounds l.length (.int .u8 (x:Int))) 5 fr):=by
   simp [World.setCell,Array.getElem?_modify,hg]
  have hg2:((w.setCell ⟨g,l.length,none⟩ (.int .u8 (x:Int))).setCell ⟨g,l.length + 1,none⟩ (.int .u8 (y:Int))).heap[g]? = some (.cells ((cs.setIfInBounds l.length (.int .u8 (x:Int))).setIfInBounds (l.length + 1) (.int .u8 (y:Int))) 5 fr):=by
   have:=hg1
   simp only [World.setCell] at this ⊢
   rw [Array.getElem?_modify,if_pos rfl,this]
   simp
  have hc0:w.cell? ⟨g,l.length,none⟩ = some cs[l.length]:=by rw [cell_of_row w g _ cs _ fr hg]; exact Array.getElem?_eq_getElem (by omega)
  have hf0:w.frozen? ⟨g,l.length,none⟩ = false:=by
   have:=hfr l.length (by omega)
   unfold World.frozen?
   rw [hg]
   exact this
  have hc1:(w.setCell ⟨g,l.length,none⟩ (.int .u8 (x:Int))).cell? ⟨g,l.length + 1,none⟩ = some ((cs.setIfInBounds l.length (.int .u8 (x:Int)))[l.length + 1]'(by simp; omega)):=by
   rw [cell_of_row _ g _ _ _ fr hg1]; exact Array.getElem?_eq_getElem (by simp; omega)
  have hf1:(w.setCell ⟨g,l.length,none⟩ (.int .u8 (x:Int))).frozen? ⟨g,l.length + 1,none⟩ = false:=by
   have:=hfr (l.length + 1) (by omega)
   unfold World.frozen?
   rw [hg1]
   exact this
  have hst:(storeCells ⟨g,l.length,none⟩ [Value.int .u8 (x:Int),.int .u8 (y:Int)] 0).run Tryz.prog w = .ok () ((w.setCell ⟨g,l.length,none⟩ (.int .u8 (x:Int))).setCell ⟨g,l.length + 1,none⟩ (.int .u8 (y:Int))):=by
   have e0:(store (⟨g,l.length,none⟩:Addr) (.int .u8 (x:Int))).run Tryz.prog w = .ok () (w.setCell ⟨g,l.length,none⟩ (.int .u8 (x:Int))):=by
    rw [run_store _ w _ _ _ rfl,hc0]; simp [hf0]
   have e1:(store (⟨g,l.length + 1,none⟩:Addr) (.int .u8 (y:Int))).run Tryz.prog (w.setCell ⟨g,l.length,none⟩ (.int .u8 (x:Int))) = .ok () ((w.setCell ⟨g,l.length,none⟩ (.int .u8 (x:Int))).setCell ⟨g,l.length + 1,none⟩ (.int .u8 (y:Int))):=by
    rw [run_store _ _ _ _ _ rfl,hc1]; simp [hf1]
   simp only [storeCells,haddg,Nat.add_zero,Nat.zero_add,Sem.run_bind,e0,e1,Result.andThen_ok,Sem.run_pure]
  refine ⟨.slice (some ⟨g,0,none⟩) (l.length + 2) cap,_,?_,⟨g,cap,_,fr,by rw [hlen2],hBg,hg2,by simp [hcs],by omega,hcm,hfr,fun k z hk => ?_⟩,⟨rfl,rfl,rfl,by simp [World.setCell],fun k _ hk => ?_⟩⟩
  ·rw [hs1] at hf
   simp [Builtin.append_,run_underlying eY.under,sizeOf,typeInfo,hi,hs1,Builtin.lenOf,hroom,hf,Addr.add_lit,hst,haddg]
  ·rw [Array.getElem?_setIfInBounds,Array.getElem?_setIfInBounds]
   rcases Nat.lt_or_ge k l.length with hk1 | hk1
   ·rw [if_neg (by omega),if_neg (by omega)]
    exact hat k z (by rw [<- hk,List.getElem?_append_left hk1])
   ·rw [List.getElem?_append_right hk1] at hk
    have hk2:k - l.length = 0 \/ k - l.length = 1:=by
     have:=(List.getElem?_eq_some_iff.1 hk).1
     simp at this; omega
    rcases hk2 with hk2 | hk2
    ·rw [hk2] at hk
     have:k = l.length:=by omega
     subst this
     simp at hk
     rw [if_neg (by omega),if_pos rfl,if_pos (by omega),hk]
    ·rw [hk2] at hk
     have:k = l.length + 1:=by omega
     subst this
     simp at hk
     rw [if_pos rfl,if_pos (by simp; omega),hk]
  ·have hk':k ≠ g:=fun e => hk (by simp [Value.ownBlock,e])
   rw [Below.heap_setCell _ _ _ _ (by exact hk'),Below.heap_setCell _ _ _ _ (by exact hk')]
 ·have holds:∀ j u,(yL l)[j]? = some u -> w.cell? ((⟨g,0,none⟩:Addr).add j) = some u:=by
   intro j u hj
   rw [haddg,Nat.zero_add,cell_of_row w g _ cs _ fr hg]
   unfold yL at hj
   rw [List.getElem?_map] at hj
   cases e:l[j]? with
   | none => rw [e] at hj; cases hj
   | some z => rw [e] at hj; cases hj; exact hat j z e
  have hr:=run_append_grow (P:=Tryz.prog) w 150 ty 5 i (.int .u8 0) eY.under hi hz ⟨g,0,none⟩ l.length cap (yL l) (by rw [zmy,hs1,Nat.mul_one]) holds ⟨b,0,none⟩ 2 c [Value.int .u8 (x:Int),.int .u8 (y:Int)] (by rw [hs1]; rfl) hnews (by omega) (by omega) (growslice_fits (by omega) (by rw [hs2]; omega))
  obtain ⟨q1,q2⟩:=zll w (l.length + 2) cap 5 (by omega)
  refine ⟨_,_,hr,⟨w.heap.size,_,_,(0,0),by rw [hlen2],hB,heap_alloc_new w.drew _,?_,by rw [hlen2]; exact q1,q2,by simp,fun k z hk => ?_⟩,⟨rfl,rfl,rfl,by simp,fun k hk _ => Below.heap_alloc w.drew _ k hk⟩⟩
  ·simp [size_zeroCells,zmy,Value.cells]; omega
  ·have hkl:k < l.length + 2:=by have:=(List.getElem?_eq_some_iff.1 hk).1; simp at this; omega
   rw [Array.getElem?_append_left (by simp [zmy]; omega)]
   have:(yL l).toArray ++ [Value.int .u8 (x:Int),.int .u8 (y:Int)].toArray = (yL (l ++ [x,y])).toArray:=by simp [yL]
   rw [this]
   have:=yL_at hk
   simpa using this
theorem zhp (w:World) (B:Nat) (v:Value) (l:List Nat) (h:YT w B v l):(convert 150 9 v).run Tryz.prog w = .ok (.string (strOfNums (l.map fun (x:Nat) => (x:Int)))) w:=by
 obtain ⟨g,cap,cs,fr,rfl,hBg,hg,hcs,hlc,hcm,hfr,hat⟩:=h
 refine run_convert_bytes_arg w 150 5 eY.under (by kernel_rfl) g 0 l.length cap _ (by simp) (fun i hi => ?_) 9 (by kernel_rfl)
 obtain ⟨x,hx⟩:∃ x,l[i]? = some x:=⟨l[i],List.getElem?_eq_getElem hi⟩
 rw [Nat.zero_add,cell_of_row w g _ cs _ fr hg,hat i x hx]
 simp [List.getD_eq_getElem?_getD,hx]
def boolS (b:Bool):ByteArray:=⟨((fb b).map fun (x:Nat) => UInt8.ofNat x).toArray⟩
theorem zj3 (b:Bool) (w:World):Calls Tryz.prog 149 #[.bool b] w fun e w' => e = .returned (.string (boolS b)) /\ w = w':=by
 cases b <;> (go_enter Tryz.func149,Tryz.ntmps149; go_wp2; go_returns; exact ⟨rfl,rfl⟩)
theorem zmk (b:Bool) (w:World):Calls Tryz.prog 123 #[.bool b] w fun e w' => e = .returned (.string (boolS b)) /\ w = w':=by
 go_enter Tryz.func123,Tryz.ntmps123
 go_wp2_with (go_at_call 149; refine (zj3 b _).mono ?_; rintro e w2 ⟨rfl,rfl⟩)
 go_returns
 exact ⟨rfl,rfl⟩
theorem zfq {T:TypeId} {ops:Array Oper} {o:Oper} {a:Act} {w:World} {K:Act -> World -> Prop} {Q:Exit -> Act -> World -> Prop} {X:Prop} (hgd:o.guard = none) (s x:Operand)
  (ho:o.op = .call { callee:=.builtin .append,args:=#[s,x],argTypes:=#[T,T] }) {v y v':Value} {w':World} (hs:a.eval s = v) (hx:a.eval x = y)
  (hrun:(Builtin.append_ #[T,T] o.type #[v,y]).run Tryz.prog w = .ok v' w') (h:K (a.put o.dst v') w'):if Region.wanted o (yielded ops a.tmps) = true then Oper.wp Tryz.prog o a w K Q else X:=by
 have hw:Region.wanted o (yielded ops a.tmps) = true:=by simp [Region.wanted,hgd]
 rw [if_pos hw]
 unfold Oper.wp execOp
 simp only [ho,resolve,invoke,builtin,Sem.run_bind,Sem.run_pure,Result.andThen_ok,List.map_toArray,List.map_cons,List.map_nil,hs,hx,hrun]
 exact h
structure RowB (wS:World) (gr:Nat) (bs:List Nat) (W:World):Prop where
 below:Below wS.heap.size wS W
 lo:wS.heap.size <= gr
 ro:∃ rv,Row W gr 150 #[rv] /\ YT W wS.heap.size rv bs
theorem YT.formN {w:World} {B n:Nat} {v:Value} {l:List Nat} (h:YT w B v l) (hn:l.length = n):∃ g cap,v = .slice (some ⟨g,0,none⟩) n cap:=by
 obtain ⟨g,cap,cs,fr,rfl,_⟩:=h
 exact ⟨g,cap,by rw [hn]⟩
theorem u8_wrap (c:Nat) (h:c < 256):IntKind.u8.wrap (c:Int) = c:=by
 simp only [IntKind.wrap,IntKind.bits,IntKind.signed]
 simp
 omega
theorem YT.far {w w':World} {B:Nat} {v:Value} {l:List Nat} {g:Nat} {E:TypeId} {cs:Array Value} (h:YT w B v l) (hr:Row w g E cs) (hne:5 ≠ E) (hg:w.grownBy w' v.ownBlock):Row w' g E cs :=
 hr.grown hg (fun e => h.ne_row hr hne e.symm)
theorem zqq (wS:World) (gr gc n:Nat) (cv:Value) (cl:Nat -> Nat) (hc:Row wS gc 53 #[cv]) (hcv:N1 wS cv (oI ((List.range n).map cl))) (t:Nat) (ht:t < n) (hn:n <= 64) (hcl:cl t < 256) (bs:List Nat) (hbs:bs.length <= 99990) (W:World) (h:RowB wS gr bs W) :
  Calls Tryz.prog 124 #[.int .i64 (t:Int),.pointer (some ⟨gr,0,none⟩),.pointer (some ⟨gc,0,none⟩)] W fun e w' => e = .returned (.tuple #[]) /\ RowB wS gr (bs ++ nb (cl t)) w':=by
 obtain ⟨A,c,rfl,hc1,hc2,hat⟩:=hcv.open
 rw [zaj,List.length_map,List.length_range] at hc1 hc
 obtain ⟨b,o,rfl,hb,c0⟩:=hat t _ (oI_at (by rw [List.getElem?_map,List.getElem?_range ht]; rfl))
 rw [<- h.below.cell (p:=⟨b,_,none⟩) hb] at c0
 have r1:=hc.below h.below hc.lt
 obtain ⟨rv,hr,hy⟩:=h.ro
 obtain ⟨m,hm⟩:=zx bs.length
 obtain ⟨g,cap,rfl⟩:=hy.formN hm.symm
 obtain ⟨q,hq⟩:=zx (cl t)
 rw [<- hq] at c0 hcl ⊢
 have hw:=u8_wrap q hcl
 have HY:=zh hy; have HR:=zh hr; have HH:=zh h; have HM:=zh hm
 have hmm:m <= 99990:=by omega
 have z0:=r1.cell; have z1:=hr.cell; have z2:=hr.free; have z3:=hr.lt
 clear hcl hq hat hc hb h hy hr r1 hm hbs hcv
 obtain ⟨v4,w4,hrun,hy4,hg4⟩:=zhq ((W.alloc (.cells #[.int .u8 32,.int .u8 (q:Int)] 5)).drew) wS.heap.size _ bs (show YT (W.alloc (.cells #[.int .u8 32,.int .u8 (q:Int)] 5)).drew wS.heap.size _ bs from YT.allocd HY.out _) W.heap.size 2 32 q
  ((Row.new W 5 #[.int .u8 32,.int .u8 (q:Int)]).drew.cell 0) ((Row.new W 5 #[.int .u8 32,.int .u8 (q:Int)]).drew.cell 1) 150 (by rw [<- HM.out]; omega) (by show wS.heap.size <= (W.alloc _).heap.size; simp only [World.size_alloc]; have:=HH.out.below.size; omega)
 obtain ⟨g4,cap4,rfl⟩:=hy4.formN (n:=m + 2) (by rw [List.length_append,HM.out]; rfl)
 replace hg4:(W.alloc (.cells #[.int .u8 32,.int .u8 (q:Int)] 5)).grownBy w4 (Value.slice (some ⟨g,0,none⟩) m cap).ownBlock:=⟨hg4.os,hg4.tape,hg4.output,hg4.size,hg4.block⟩
 have HY4:=zh hy4; have HR4:=zh (YT.far (YT.allocd HY.out _) (Row.alloc HR.out _) (by decide) hg4)
 have HB4:=zh (Below.grown (a:=wS) (B:=wS.heap.size) (by have h1:=HH.out.below; have h2:=h1.size; go_grown) hg4 (by have:=HH.out.below.size; simp only [World.size_alloc]; omega) (fun k hk => (HY.out.lt hk).1))
 have y0:=HR4.out.cell; have y1:=HR4.out.free
 have HRUN:=zh hrun
 clear hy4 hg4 hrun
 go_enter Tryz.func124,Tryz.ntmps124
 go_wp2
 first
 | go_region_law (refine zfq rfl (.tmp 4) (.tmp 10) rfl rfl rfl HRUN.out ?_)
 | fail
 all_goals
  go_wp2
  go_returns
  exact ⟨rfl,HB4.out.setCell (p:=⟨gr,0,none⟩) HH.out.lo _,HH.out.lo,_,HR4.out.set 0 _,HY4.out.setFar HR4.out (by decide) 0 _⟩
theorem zcg (d:Raw) (v:Value) (w:World) (hd:TD w v d) (hbig:d.next.length <= 1000000 /\ d.fin.length <= 1000000) :
  Calls Tryz.prog 52 #[v] w fun e w' => e = .returned (.int .i64 (d.check:Nat)) /\ Below w.heap.size w w':=by
 obtain ⟨vars,empty,next,fin⟩:=d
 obtain ⟨vn,vf,rfl,hn,hf⟩:=hd
 simp only at hn hf hbig ⊢
 obtain ⟨A,c,rfl,hA1,hA2,hA⟩:=hn.open
 obtain ⟨Af,cf,rfl,hf1,hf2,_⟩:=hf.open
 obtain ⟨R,hR⟩:=zx (Raw.check ⟨vars,empty,next,fin⟩)
 rw [<- hR]
 unfold Raw.check at hR
 simp only at hR
 obtain ⟨hb1,hb2⟩:=hbig
 obtain ⟨n,hnn⟩:=zx next.length
 obtain ⟨m,hm⟩:=zx fin.length
 rw [<- hnn] at hR hA1 hb1 ⊢
 rw [<- hm] at hR hf1 hb2 ⊢
 have HA:=zh hA; have HN:=zh hnn
 clear hn hf hA hnn hm
 have fin:∀ k:Nat,R = k -> Ending.returned (.int .i64 (k:Int)) = .returned (.int .i64 (R:Int)):=fun k h => by rw [h]
 have HFIN:=zh fin; clear fin
 by_cases h1:vars < 0
 ·rw [if_pos (.inl h1)] at hR
  have HR:=zh hR; clear hR
  go_enter Tryz.func52,Tryz.ntmps52
  go_wp2
  go_returns
  exact ⟨HFIN.out 7 HR.out,by go_grown⟩
 by_cases h2:3 < vars
 ·rw [if_pos (.inr h2)] at hR
  have HR:=zh hR; clear hR
  have h1':0 <= vars:=by omega
  go_enter Tryz.func52,Tryz.ntmps52
  go_wp2
  go_returns
  exact ⟨HFIN.out 7 HR.out,by go_grown⟩
 rw [if_neg (by omega)] at hR
 have h1':0 <= vars:=by omega
 have h2':vars <= 3:=by omega
 by_cases h3:n = 0
 ·rw [if_pos h3] at hR
  have HR:=zh hR; clear hR
  have h3':((n:Int) == 0) = true:=by rw [beq_iff_eq]; omega
  clear h3
  go_enter Tryz.func52,Tryz.ntmps52
  go_wp2
  go_returns
  exact ⟨HFIN.out 3 HR.out,by go_grown⟩
 rw [if_neg h3] at hR
 have h3':((n:Int) == 0) = false:=by rw [beq_eq_false_iff_ne]; omega
 by_cases h4:64 < n
 ·rw [if_pos h4] at hR
  have HR:=zh hR; clear hR
  have h4':(64:Int) < (n:Int):=by omega
  go_enter Tryz.func52,Tryz.ntmps52
  go_wp2
  go_returns
  exact ⟨HFIN.out 4 HR.out,by go_grown⟩
 rw [if_neg h4] at hR
 have h4':(n:Int) <= 64:=by omega
 by_cases h5:m ≠ n
 ·rw [if_pos h5] at hR
  have HR:=zh hR; clear hR
  have h5':((m:Int) != n) = true:=by rw [bne_iff_ne]; omega
  go_enter Tryz.func52,Tryz.ntmps52
  go_wp2
  go_returns
  exact ⟨HFIN.out 2 HR.out,by go_grown⟩
 rw [if_neg h5] at hR
 have h5':((m:Int) != n) = false:=by simp only [Decidable.not_not] at h5; rw [h5]; simp
 clear h5
 by_cases h6:¬ (0 <= empty /\ empty < (n:Int))
 ·rw [if_pos h6] at hR
  have HR:=zh hR; clear hR
  by_cases h6a:empty < 0
  ·clear h6
   go_enter Tryz.func52,Tryz.ntmps52
   go_wp2
   go_returns
   exact ⟨HFIN.out 8 HR.out,by go_grown⟩
  have h6b:(n:Int) <= empty:=by omega
  clear h6
  go_enter Tryz.func52,Tryz.ntmps52
  go_wp2
  go_returns
  exact ⟨HFIN.out 8 HR.out,by go_grown⟩
 simp only [Decidable.not_not] at h6
 obtain ⟨h6a,h6b⟩:=h6
 rw [if_neg (by simp only [Decidable.not_not]; exact ⟨h6a,h6b⟩)] at hR
 have h6c:¬ (n:Int) <= empty:=by omega
 have h6d:¬ empty < 0:=by omega
 obtain ⟨V,rfl⟩:∃ V:Nat,vars = V:=⟨vars.toNat,by omega⟩
 rw [Int.toNat_natCast] at hR
 have hsh:=za2 V (by omega)
 obtain ⟨L,hL⟩:=zx (2 ^ V)
 rw [<- hL] at hsh hR
 have HR:=zh hR; clear hR hL h1 h2 h3 h4
 clear h6a h6b
 go_enter Tryz.func52,Tryz.ntmps52
 go_wp2
 refine zab (fun W => Below w.heap.size w W /\ Row W w.heap.size 25 #[.int .i64 (V:Int),.int .i64 empty,.slice A n c,.slice Af m cf]) ⟨by go_grown,Row.new _ _ _⟩ ?_
 rintro W ⟨hb,hr1⟩
 have HB:=zh hb; have R1:=zh hr1
 clear hb hr1
 go_loopg [4] n (fun gk q wr => ∃ l:Nat,l <= n /\ gk = n - l /\ q = .int .i64 l /\ wr = W /\ za5 (rowsE n L) (next.take l) = 0)
 case atStart => exact ⟨0,Nat.zero_le _,rfl,rfl,rfl,rfl⟩
 case round =>
  obtain ⟨l,hl,rfl,rfl,rfl,hz⟩:=hrel
  have HZ:=zh hz; clear hz
  by_cases hlt:l < n
  ·obtain ⟨LL,hx⟩:∃ x,next[l]? = some x:=⟨next[l]'(by rw [<- HN.out]; exact hlt),List.getElem?_eq_getElem _⟩
   obtain ⟨b,o,u,rfl,hb,c0,hN2⟩:=HA.out l LL hx
   rw [<- HB.out.cell (p:=⟨b,_,none⟩) hb] at c0
   obtain ⟨A2,c2,rfl,hB1,hB2,hA2'⟩:=hN2.open
   obtain ⟨n2,hn2⟩:=zx LL.length
   rw [<- hn2] at hB1 c0
   have HX:=zh hx; have HN2:=zh hn2; have HA2:=zh hA2'
   clear hx hn2 hA2' hN2
   have z1:=R1.out.cell
   by_cases hne:n2 = n
   ·subst hne
    have h7:((n2:Int) != n2) = false:=by simp
    go_wp2
    go_loopg [5] n2 (fun gk q wr2 => ∃ r:Nat,r <= n2 /\ gk = n2 - r /\ q = .int .i64 r /\ wr2 = wr /\ za5 (rowE n2 L) (LL.take r) = 0)
    case atStart => exact ⟨0,Nat.zero_le _,rfl,rfl,rfl,rfl⟩
    case round =>
     obtain ⟨r,hr,rfl,rfl,rfl,hz⟩:=hrel
     have HZ2:=zh hz; clear hz
     by_cases hlt2:r < n2
     ·obtain ⟨l1,hx⟩:∃ x,LL[r]? = some x:=⟨LL[r]'(by rw [<- HN2.out]; exact hlt2),List.getElem?_eq_getElem _⟩
      obtain ⟨b2,o2,u,rfl,hb2',d0,hN1⟩:=HA2.out r l1 hx
      rw [<- HB.out.cell (p:=⟨b2,_,none⟩) hb2'] at d0
      obtain ⟨A1,c1,rfl,hC1,hC2,hA1'⟩:=hN1.open
      obtain ⟨n1,hn1⟩:=zx l1.length
      rw [<- hn1] at hC1 d0
      have HX2:=zh hx; have HN1:=zh hn1; have HA1:=zh hA1'
      clear hx hn1 hA1' hN1
      by_cases hne:n1 = L
      ·subst hne
       have h8:((n1:Int) != n1) = false:=by simp
       go_wp2
       go_loopg [7] n1 (fun gk q wr3 => ∃ x:Nat,x <= n1 /\ gk = n1 - x /\ q = .int .i64 x /\ wr3 = wr /\ za5 (zcj n2) (l1.take x) = 0)
       case atStart => exact ⟨0,Nat.zero_le _,rfl,rfl,rfl,rfl⟩
       case round =>
        obtain ⟨x,hx1,rfl,rfl,rfl,hz⟩:=hrel
        have HZ3:=zh hz; clear hz
        by_cases hlt3:x < n1
        ·obtain ⟨s,hx⟩:∃ s,l1[x]? = some s:=⟨l1[x]'(by rw [<- HN1.out]; exact hlt3),List.getElem?_eq_getElem _⟩
         obtain ⟨b1,o1,rfl,hb1',e0⟩:=HA1.out x s hx
         rw [<- HB.out.cell (p:=⟨b1,_,none⟩) hb1'] at e0
         have HX3:=zh hx; clear hx
         by_cases hok:0 <= s /\ s < (n2:Int)
         ·have h9:¬ s < 0:=by omega
          have h9b:¬ (n2:Int) <= s:=by omega
          have h10:Hid (zcj n2 s = 0):=by unfold Hid zcj; rw [if_pos hok]
          clear hok
          go_wp2
          go_roundg (n1 - (x + 1))
          case rel => exact ⟨x + 1,by omega,rfl,by go_num,rfl,zbc HZ3.out HX3.out h10.out⟩
          case measure => omega
         ·have h9:s < 0 \/ (¬ s < 0 /\ (n2:Int) <= s):=by omega
          have h10:Hid (zcj n2 s = 8):=by unfold Hid zcj; rw [if_neg hok]
          clear hok
          have h11:Hid (R = 8):=by
           have e1:=zay HZ3.out HX3.out (by rw [h10.out]; omega)
           have e2:rowE n2 n1 l1 = 8:=by unfold rowE; rw [if_pos HN1.out.symm,e1,h10.out]
           have e3:=zay HZ2.out HX2.out (by rw [e2]; omega)
           have e4:rowsE n2 n1 LL = 8:=by unfold rowsE; rw [if_pos HN2.out.symm,e3,e2]
           have e5:=zay HZ.out HX.out (by rw [e4]; omega)
           unfold Hid; rw [HR.out,e5,e4]
          rcases h9 with h9 | ⟨h9,h9b⟩
          all_goals
           go_wp2
           go_returns
           exact ⟨HFIN.out 8 h11.out,HB.out⟩
        ·have hxn:x = n1:=by omega
         have h10:Hid (rowE n2 n1 l1 = 0):=by
          have e1:=HZ3.out
          rw [hxn,List.take_of_length_le (by rw [<- HN1.out]; exact zn)] at e1
          unfold Hid rowE; rw [if_pos HN1.out.symm,e1]
         clear hxn
         go_wp2
         go_roundg (n2 - (r + 1))
         case rel => exact ⟨r + 1,by omega,rfl,by go_num,rfl,zbc HZ2.out HX2.out h10.out⟩
         case measure => omega
      ·have h8:((n1:Int) != L) = true:=by rw [bne_iff_ne]; omega
       have h11:Hid (R = 2):=by
        have e2:rowE n2 L l1 = 2:=by unfold rowE; rw [if_neg (by rw [<- HN1.out]; exact hne)]
        have e3:=zay HZ2.out HX2.out (by rw [e2]; omega)
        have e4:rowsE n2 L LL = 2:=by unfold rowsE; rw [if_pos HN2.out.symm,e3,e2]
        have e5:=zay HZ.out HX.out (by rw [e4]; omega)
        unfold Hid; rw [HR.out,e5,e4]
       clear hne
       go_wp2
       go_returns
       exact ⟨HFIN.out 2 h11.out,HB.out⟩
     ·have hxn:r = n2:=by omega
      have h10:Hid (rowsE n2 L LL = 0):=by
       have e1:=HZ2.out
       rw [hxn,List.take_of_length_le (by rw [<- HN2.out]; exact zn)] at e1
       unfold Hid rowsE; rw [if_pos HN2.out.symm,e1]
      clear hxn
      go_wp2
      go_roundg (n2 - (l + 1))
      case rel => exact ⟨l + 1,by omega,rfl,by go_num,rfl,zbc HZ.out HX.out h10.out⟩
      case measure => omega
   ·have h7:((n2:Int) != n) = true:=by rw [bne_iff_ne]; omega
    have h11:Hid (R = 2):=by
     have e4:rowsE n L LL = 2:=by unfold rowsE; rw [if_neg (by rw [<- HN2.out]; exact hne)]
     have e5:=zay HZ.out HX.out (by rw [e4]; omega)
     unfold Hid; rw [HR.out,e5,e4]
    clear hne
    go_wp2
    go_returns
    exact ⟨HFIN.out 2 h11.out,HB.out⟩
  ·have hxn:l = n:=by omega
   have h10:Hid (R = 0):=by
    have e1:=HZ.out
    rw [hxn,List.take_of_length_le (by rw [<- HN.out]; exact zn)] at e1
    unfold Hid; rw [HR.out,e1]
   clear hxn
   go_wp2
   go_returns
   exact ⟨HFIN.out 0 h10.out,HB.out⟩
theorem N3.lv {w:World} {v:Value} {n L:Nat} {f:Nat -> Nat -> Nat -> Nat} (h:N3 w v (nx3 n L f)) (hn:1 <= n) (hL:1 <= L):∃ b3 o3 c3,v = .slice (some ⟨b3,o3,none⟩) n c3 /\ n <= c3 /\ c3 <= 9223372036854775807 /\
  ∀ l,l < n -> ∃ b2 o2 c2,b3 < w.heap.size /\ w.cell? ⟨b3,o3 + l,none⟩ = some (.slice (some ⟨b2,o2,none⟩) n c2) /\ n <= c2 /\ ∀ r,r < n -> ∃ b1 o1 c1,b2 < w.heap.size /\ w.cell? ⟨b2,o2 + r,none⟩ = some (.slice (some ⟨b1,o1,none⟩) L c1) /\ L <= c1 /\
   b1 < w.heap.size /\ ∀ x,x < L -> w.cell? ⟨b1,o1 + x,none⟩ = some (.int .i64 (f l r x:Int)):=by
 obtain ⟨A3,c3,rfl,hA1,hA2,hA⟩:=h.open
 have hlen:(nx3 n L f).length = n:=by simp [nx3]
 rw [hlen] at hA1
 obtain ⟨e1,_,_⟩:=zee (f:=f) (show 0 < n by omega) (show 0 < n by omega) (show 0 < L by omega)
 obtain ⟨b3,o3,_,hA3,hb3,_⟩:=hA 0 _ e1
 subst hA3
 refine ⟨b3,o3,c3,by rw [hlen],hA1,hA2,fun l hl => ?_⟩
 obtain ⟨e1,e2,e3⟩:=zee (f:=f) hl (show 0 < n by omega) (show 0 < L by omega)
 obtain ⟨b3',o3',u,he,hb3,c0,hN2⟩:=hA l _ e1
 simp only [Option.some.injEq,Addr.mk.injEq,and_true] at he
 obtain ⟨rfl,rfl⟩:=he
 obtain ⟨A2,c2,rfl,hB1,hB2,hB⟩:=hN2.open
 obtain ⟨b2,o2,_,hA2',hb2,_⟩:=hB 0 _ e2
 subst hA2'
 simp only [List.length_map,List.length_range] at hB1 c0
 refine ⟨b2,o2,c2,hb3,c0,hB1,fun r hr => ?_⟩
 obtain ⟨_,e2,e3⟩:=zee (f:=f) hl hr (show 0 < L by omega)
 obtain ⟨b2',o2',u,he,hb2,d0,hN1⟩:=hB r _ e2
 simp only [Option.some.injEq,Addr.mk.injEq,and_true] at he
 obtain ⟨rfl,rfl⟩:=he
 obtain ⟨A1,c1,rfl,hC1,hC2,hC⟩:=hN1.open
 obtain ⟨b1,o1,hA1',hb1,_⟩:=hC 0 _ e3
 subst hA1'
 simp only [List.length_map,List.length_range] at hC1 d0
 refine ⟨b1,o1,c1,hb2,d0,hC1,hb1,fun x hx => ?_⟩
 obtain ⟨_,_,e3⟩:=zee (f:=f) hl hr hx
 obtain ⟨b1',o1',he,_,f0⟩:=hC x _ e3
 simp only [Option.some.injEq,Addr.mk.injEq,and_true] at he
 obtain ⟨rfl,rfl⟩:=he
 exact f0
def zcz (l:List Int) (x:Int):Int:=if x ∈ l then (l.idxOf x:Int) else -1
theorem ziv {l:List Int} {x:Int} {i:Nat} (h:l[i]? = some x) (hn:∀ j,j < i -> ∀ y,l[j]? = some y -> y ≠ x):zcz l x = i:=by
 have hm:=List.mem_of_getElem? h
 unfold zcz
 rw [if_pos hm]
 have hi:=(List.getElem?_eq_some_iff.1 h)
 obtain ⟨h1,h2⟩:=hi
 have e:l.idxOf x = i:=by
  rcases Nat.lt_trichotomy (l.idxOf x) i with h3 | h3 | h3
  ·have h4:=List.idxOf_lt_length_of_mem hm
   exact absurd (List.getElem_idxOf h4) (hn _ h3 _ (List.getElem?_eq_getElem h4))
  ·exact h3
  ·have:=List.not_of_lt_findIdx (p:=(· == x)) (xs:=l) h3
   exact absurd h2 (by simpa using this)
 rw [e]
theorem znu {l:List Int} {x:Int} (h:∀ (j:Nat) y,l[j]? = some y -> y ≠ x):zcz l x = -1:=by
 unfold zcz
 rw [if_neg fun hm => by
  obtain ⟨j,hj⟩:=List.getElem?_of_mem hm
  exact h j x hj rfl]
theorem znw (l:List Int) (x:Int) (v:Value) (w:World) (hv:N1 w v l) :
  Calls Tryz.prog 133 #[v,.int .i64 x] w fun e w' => e = .returned (.int .i64 (zcz l x)) /\ w' = w:=by
 obtain ⟨A,c,rfl,h1,h2,h3⟩:=hv.open
 obtain ⟨n,hn⟩:=zx l.length
 rw [<- hn] at h1 ⊢
 have H3:=zh h3; have HN:=zh hn
 clear hv h3 hn
 obtain ⟨R,hR⟩:=zx (zcz l x)
 rw [<- hR]
 have HR:=zh hR; clear hR
 go_enter Tryz.func133,Tryz.ntmps133
 go_wp2
 go_loopg [5] n (fun gk q wr => ∃ k:Nat,k <= n /\ gk = n - k /\ q = .int .i64 k /\ wr = w /\ ∀ j,j < k -> ∀ y,l[j]? = some y -> y ≠ x)
 case atStart => exact ⟨0,Nat.zero_le _,rfl,rfl,rfl,fun j hj => by omega⟩
 case round =>
  obtain ⟨k,hk,rfl,rfl,rfl,hno⟩:=hrel
  have HNO:=zh hno; clear hno
  by_cases hlt:k < n
  ·obtain ⟨y,hy⟩:∃ y,l[k]? = some y:=⟨_,List.getElem?_eq_getElem (by rw [<- HN.out]; exact hlt)⟩
   obtain ⟨b,o,rfl,hb,hc⟩:=H3.out k y hy
   have HY:=zh hy; clear hy
   by_cases hxy:y = x
   ·subst hxy
    have hr:Hid (R = (k:Int)):=by unfold Hid; rw [HR.out]; exact ziv HY.out HNO.out
    have hb1:(y == y) = true:=by simp
    go_wp2
    go_returns
    exact ⟨by rw [hr.out]; rfl,rfl⟩
   ·have hb1:(y == x) = false:=by simpa using hxy
    have hxy':Hid (y ≠ x):=hxy
    clear hxy
    go_wp2
    go_roundg (n - (k + 1))
    case rel => exact ⟨k + 1,by omega,rfl,by go_num,rfl,fun j hj z hz => by
     by_cases e:j = k
     ·subst e; rw [HY.out] at hz; cases hz; exact hxy'.out
     ·exact HNO.out j (by omega) z hz⟩
    case measure => omega
  ·have hr:Hid (R = -1):=by
    unfold Hid
    rw [HR.out]
    refine znu fun j y hy => HNO.out j ?_ y hy
    have:=(List.getElem?_eq_some_iff.1 hy).1
    have:=HN.out; omega
   go_wp2
   go_returns
   exact ⟨by rw [hr.out]; rfl,rfl⟩
end Go.Proofs.YthkfjnmnoanhlaaGreatDoor
