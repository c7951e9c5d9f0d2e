/- Part 9 of the proof; it says: lemmas and contracts. No conditions but those that each theorem states. -/
import Derived.Laws.IdiomStrings
import Derived.Laws.BytesArg
import Derived.Deep.DeepCutAuto
import Derived.Test.YthdabkmkgkkmcaaGreatDoorPb01
import Derived.Test.YthdabkmkgkkmcaaGreatDoorPb05
import Derived.Test.YthdabkmkgkkmcaaGreatDoorPb08
set_option linter.unusedSimpArgs false
set_option linter.unusedVariables false
set_option linter.unusedSectionVars false
set_option maxRecDepth 100000
set_option maxHeartbeats 32000000
namespace Go.Proofs.YthdabkmkgkkmcaaGreatDoor
open Go.RowKit
theorem NM.new {α:Type} [DecidableEq α] {k:TypeId} {lit:α -> Lit} {w:World} {b:Nat} (h:b = w.heap.size):NM k lit (w.alloc (.map #[] 0)) b ([]:List α):=h ▸ NM.made k lit w
structure Nx (w:World) (v:Value) (n L:Nat) (f:Nat -> Nat -> Nat -> Nat) (b3 o3 c3:Nat):Prop where
 form:v = .slice (some ⟨b3,o3,none⟩) n c3
 cap:n <= c3 /\ c3 <= 9223372036854775807
 at3:∀ l r x,l < n -> r < n -> x < L -> ∃ b2 o2 c2 b1 o1 c1,b3 < w.heap.size /\ w.cell? ⟨b3,o3 + l,none⟩ = some (.slice (some ⟨b2,o2,none⟩) n c2) /\ n <= c2 /\ b2 < w.heap.size /\ w.cell? ⟨b2,o2 + r,none⟩ = some (.slice (some ⟨b1,o1,none⟩) L c1) /\ L <= c1 /\
  b1 < w.heap.size /\ w.cell? ⟨b1,o1 + x,none⟩ = some (.int .i64 (f l r x:Int))
theorem N3.nx {w:World} {v:Value} {n L:Nat} {f:Nat -> Nat -> Nat -> Nat} (h:N3 w v (nx3 n L f)) (hn:1 <= n) (hL:1 <= L):∃ b3 o3 c3,Nx w v n L f b3 o3 c3:=by
 obtain ⟨A3,c3,rfl,hA1,hA2,hA⟩:=h.open
 have hlen:(nx3 n L f).length = n:=by simp [nx3]
 rw [hlen] at hA1
 obtain ⟨e1,_,_⟩:=zos (f:=f) (show 0 < n by omega) (show 0 < n by omega) (show 0 < L by omega)
 obtain ⟨b3,o3,_,hA3,hb3,_⟩:=hA 0 _ e1
 subst hA3
 refine ⟨b3,o3,c3,by rw [hlen],⟨hA1,hA2⟩,fun l r x hl hr hx => ?_⟩
 obtain ⟨e1,e2,e3⟩:=zos (f:=f) hl hr hx
 obtain ⟨b3',o3',u,he,hb3,c0,hN2⟩:=hA l _ e1
 simp only [Option.some.injEq,Addr.mk.injEq,and_true] at he
 obtain ⟨rfl,rfl⟩:=he
 obtain ⟨A2,c2,rfl,hB1,hB2,hB⟩:=hN2.open
 obtain ⟨b2,o2,u,rfl,hb2,d0,hN1⟩:=hB r _ e2
 obtain ⟨A1,c1,rfl,hC1,hC2,hC⟩:=hN1.open
 obtain ⟨b1,o1,rfl,hb1,f0⟩:=hC x _ e3
 simp only [List.length_map,List.length_range] at hB1 hC1 c0 d0
 exact ⟨b2,o2,c2,b1,o1,c1,hb3,c0,hB1,hb2,d0,hC1,hb1,f0⟩
theorem zod (d:Dta) (V:Nat) (hd:d.Fit V) (w0 wc:World) (gd go gn bm:Nat) (vn vf:Value) (hn:N3 w0 vn (nx3 d.n d.L d.nx)) (hi:RnI w0 gd go gn bm #[.int .i64 (V:Int),.int .i64 (d.e:Int),vn,vf] d.order wc) :
  Cb3R d.order.length d.L d.renum.nx (.pointer (some ⟨gn,0,none⟩)) (.pointer (some ⟨gd,0,none⟩)) (.pointer (some ⟨go,0,none⟩)) wc:=by
 intro l r x W hl hr hx hbw
 replace hi:=hi.keep hbw
 have h64:=hd.n64
 obtain ⟨b3,o3,c3,hN⟩:=hn.nx hd.pos hd.L8.1
 obtain ⟨a,ha⟩:∃ a,d.order[l]? = some a:=⟨d.order[l]'hl,List.getElem?_eq_getElem _⟩
 obtain ⟨b,hb⟩:∃ b,d.order[r]? = some b:=⟨d.order[r]'hr,List.getElem?_eq_getElem _⟩
 have hao:=(d.order_acc a (List.mem_of_getElem? ha)).lt hd.ok
 have hbo:=(d.order_acc b (List.mem_of_getElem? hb)).lt hd.ok
 have hal:d.order.getD l 0 = a:=by rw [List.getD_eq_getElem?_getD,ha]; rfl
 have hbl:d.order.getD r 0 = b:=by rw [List.getD_eq_getElem?_getD,hb]; rfl
 have hmem:d.nx a b x ∈ d.order:=d.order_closed hd.ok a b x (List.mem_of_getElem? ha) (List.mem_of_getElem? hb) hx
 have hres:d.renum.nx l r x = d.order.idxOf (d.nx a b x):=by show d.order.idxOf (d.nx (d.order.getD l 0) (d.order.getD r 0) x) = _; rw [hal,hbl]
 rw [hres]
 obtain ⟨b2,o2,c2,b1,o1,c1,hb3,c0,hB1,hb2,d0,hC1,hb1,f0⟩:=hN.at3 a b x hao hbo hx
 obtain rfl:=hN.form
 have hA1:=hN.cap.1
 rw [<- hi.below.cell (p:=⟨b3,_,none⟩) hb3] at c0
 rw [<- hi.below.cell (p:=⟨b2,_,none⟩) hb2] at d0
 rw [<- hi.below.cell (p:=⟨b1,_,none⟩) hb1] at f0
 have hsn:=hd.ok.hn a b x hao hbo hx
 obtain ⟨s,hs⟩:=zx (d.nx a b x)
 rw [<- hs] at f0 hsn hmem ⊢
 obtain ⟨o,ho⟩:=zx d.order
 rw [<- ho] at hi ha hb hmem hl hr ⊢
 obtain ⟨n,hnn⟩:=zx d.n
 obtain ⟨L,hLL⟩:=zx d.L
 rw [<- hnn] at hA1 hB1 c0 hi hao hbo h64 hsn
 rw [<- hLL] at hC1 d0 hx
 have hp:0 < o.length:=by omega
 obtain ⟨ov,h1,h2⟩:=hi.ro
 obtain ⟨g,cap,cs,rfl,hBg,hrow,hcl,hcm,hcell⟩:=VO.row h2 (by rw [zad,zap]; exact hp)
 rw [zad,zap] at hcl h1 h2
 have q0:=hcell l _ (iL_at (oI_at ha))
 have q1:=hcell r _ (iL_at (oI_at hb))
 obtain ⟨m,hm⟩:=zx o.length
 rw [<- hm] at hcl h1 h2 hl hr hp
 have z1:=hi.rd.cell; have z2:=hi.rn.cell; have z3:=h1.cell
 have k1:=hi.nm.look zc3 zcu s hmem _ (zfe s (by omega))
 have k2:=hi.nm.drew.look zc3 zcu s hmem _ (zfe s (by omega))
 clear hi hm h1 h2 hcell ha hb hs hnn hLL hal hbl hres hmem hN hn ho hrow hb1 hb2 hb3
 go_enter Tryz.func80,Tryz.ntmps80
 go_wp2
 first | go_region | fail
 go_wp2
 go_returns
 exact ⟨rfl,by go_grown⟩
theorem zoc (d:Dta) (V:Nat) (hd:d.Fit V) (w0 wc:World) (gd go gn bm:Nat) (vn vf:Value) (hf:NB w0 vf ((List.range d.n).map d.fin)) (hi:RnI w0 gd go gn bm #[.int .i64 (V:Int),.int .i64 (d.e:Int),vn,vf] d.order wc) :
  Cb1R d.order.length d.renum.fin (.pointer (some ⟨gd,0,none⟩)) (.pointer (some ⟨go,0,none⟩)) wc:=by
 intro l W hl hbw
 replace hi:=hi.keep hbw
 have h64:=hd.n64
 obtain ⟨a,ha⟩:∃ a,d.order[l]? = some a:=⟨d.order[l]'hl,List.getElem?_eq_getElem _⟩
 have hao:=(d.order_acc a (List.mem_of_getElem? ha)).lt hd.ok
 rw [d.renum_fin ha]
 obtain ⟨Af,cf,rfl,hA1,hA2,hA⟩:=hf.open
 simp only [List.length_map,List.length_range] at hA1 hi
 obtain ⟨b1,o1,rfl,hb1,f0⟩:=hA a (d.fin a) (by rw [List.getElem?_map,List.getElem?_range hao]; rfl)
 rw [<- hi.below.cell (p:=⟨b1,_,none⟩) hb1] at f0
 obtain ⟨s,hs⟩:=zx (d.fin a)
 rw [<- hs] at f0 ⊢
 obtain ⟨o,ho⟩:=zx d.order
 rw [<- ho] at hi ha hl
 obtain ⟨n,hnn⟩:=zx d.n
 rw [<- hnn] at hA1 hi hao h64
 have hp:0 < o.length:=by omega
 obtain ⟨ov,h1,h2⟩:=hi.ro
 obtain ⟨g,cap,cs,rfl,hBg,hrow,hcl,hcm,hcell⟩:=VO.row h2 (by rw [zad,zap]; exact hp)
 rw [zad,zap] at hcl h1 h2
 have q0:=hcell l _ (iL_at (oI_at ha))
 obtain ⟨m,hm⟩:=zx o.length
 rw [<- hm] at hcl h1 h2 hl hp
 have z1:=hi.rd.cell; have z3:=h1.cell
 clear hi hm h1 h2 hcell ha hs hnn hf hA ho hrow hb1
 go_enter Tryz.func81,Tryz.ntmps81
 go_wp2
 first | go_region | fail
 go_wp2
 go_returns
 exact ⟨rfl,by go_grown⟩
theorem zdn (d:Dta) (V:Nat) (hd:d.Fit V) (v:Value) (w:World) (hv:TD w v (d.raw V)) :
  Calls Tryz.prog 37 #[v] w fun e w' => ∃ v',e = .returned v' /\ Below w.heap.size w w' /\ TDO w' w.heap.size v' (d.renum.raw V):=by
 obtain ⟨vn,vf,rfl,hn,hf⟩:=hv
 have hr2:=fun wc go gn bm h => zod d V hd w wc w.heap.size go gn bm vn vf hn h
 have hr3:=fun wc go gn bm h => zoc d V hd w wc w.heap.size go gn bm vn vf hf h
 have hr1:=fun go gn bm => zkk d V hd (.pointer (some ⟨w.heap.size,0,none⟩)) (.pointer (some ⟨go,0,none⟩)) (.pointer (some ⟨gn,0,none⟩)) (RnI w w.heap.size go gn bm #[.int .i64 (V:Int),.int .i64 (d.e:Int),vn,vf]) (fun o W W' h hb => RnI.keep h hb) (zoe d V hd w w.heap.size go gn bm vn vf hn)
 obtain ⟨A3,c3,rfl,_⟩:=hn.open
 obtain ⟨Af,cf,rfl,_⟩:=hf.open
 have hlen:(d.raw V).next.length = d.n:=by simp [Dta.raw,nx3]
 have hlenf:(d.raw V).fin.length = d.n:=by simp [Dta.raw]
 rw [hlen] at hr1 hr2 hr3 ⊢
 rw [hlenf] at hr1 hr2 hr3 ⊢
 have hvars:(d.raw V).vars = (V:Int):=rfl
 have hemp:(d.raw V).empty = (d.e:Int):=rfl
 rw [hvars,hemp]
 have hbu:=fun (k1 k2 k3 j1 j2:Value) (W:World) => built_R V d.order.length d.L hd.v3 hd.L (Nat.le_trans (d.order_len hd.ok) hd.n64) d.renum.nx d.renum.fin k1 k2 k3 j1 j2 W
 have hen:=hd.ok.he
 have h64:=hd.n64
 have R1:=zh hr1; have R2:=zh hr2; have R3:=zh hr3; have BU:=zh hbu
 have hord:=d.order_pos
 obtain ⟨o,ho⟩:=zx d.order
 rw [<- ho] at hord
 have HO:=zh ho
 have hmm:=@run_makeMap Tryz.prog
 obtain ⟨E,hE⟩:=zx d.e
 obtain ⟨n,hN⟩:=zx d.n
 have HE:=zh hE; have HN:=zh hN
 rw [<- hE] at hen ⊢
 rw [<- hN] at hen h64 ⊢
 have hE6:E <= 1000000:=by omega
 clear hn hf hr1 hr2 hr3 hbu ho hlen hlenf hvars hemp hE hN
 go_enter Tryz.func37,Tryz.ntmps37
 go_upto_region 3 with (refine zaw (ks:=([]:List Nat)) kl_int zc3 rfl (.tmp 5) (.tmp 7) _ _ (.inr rfl) zcu rfl (NM.new (by simp)) (by simp) E (by simp) _ rfl (zfe E hE6) rfl ?_; intro w1 hm1 hg1; have RD:=zh (Row.grown (((Row.new w 30 #[.int .i64 (V:Int),.int .i64 (E:Int),.slice A3 n c3,.slice Af n cf]).alloc (.cells #[.int .i64 0,.int .i64 0,.slice none 0 0,.slice none 0 0] 30)).alloc (.map #[] 0)) hg1 (by simp; omega)); have RR:=zh (Row.grown ((Row.lit (w:=w.alloc (.cells #[.int .i64 (V:Int),.int .i64 (E:Int),.slice A3 n c3,.slice Af n cf] 30)) (g:=w.heap.size + 1) (t:=30) (cs:=#[.int .i64 0,.int .i64 0,.slice none 0 0,.slice none 0 0]) (by simp)).alloc (.map #[] 0)) hg1 (by simp)); have HM1:=zh hm1; have HB1:=zh (Below.grown (w:=_) (a:=w) (B:=w.heap.size) (by go_grown) hg1 (by simp; omega) (fun k hk => by simp at hk; omega)); have hz:=RD.out.lt; have y0:=RD.out.cell; have y1:=fun X => (RD.out.alloc X).cell; have y2:=fun X Y => ((RD.out.alloc X).alloc Y).cell; clear hm1 hg1)
 refine zaa (fun W => RnI w w.heap.size (w1.heap.size + 1 + 1) w1.heap.size (w.heap.size + 1 + 1) #[.int .i64 (V:Int),.int .i64 (E:Int),.slice A3 n c3,.slice Af n cf] [E] W) ⟨by have h1:=HB1.out; have h2:=h1.size; go_grown,((RD.out.alloc _).alloc _).alloc _,((RR.out.alloc _).alloc _).alloc _,((Row.new w1 _ _).alloc _).alloc _,((HM1.out.alloc _).alloc _).alloc _,
  ⟨_,Row.lit (by simp),VO.allocd (by
   have h:=VO.lit (E:=3) (w:=w1.alloc (.cells #[.map (some (w.heap.size + 1 + 1))] 122)) (n:=1) [.int .i64 (E:Int)] rfl (by omega) (by intro u hu; simp at hu; subst hu; rfl)
   rw [World.size_alloc] at h
   exact h.mono (by have h1:=HB1.out.size; omega)) _⟩,by have h1:=HB1.out.size; omega⟩ ?_
 clear RD RR HM1 HB1 hz y0 y1 y2
 rintro W hi
 generalize w1.heap.size + 1 + 1 = go at *
 generalize w1.heap.size = gn at *
 generalize w.heap.size + 1 + 1 = bm at *
 have z0:=hi.rd.cell
 rw [HE.out] at hi
 have HI:=zh hi; clear hi
 go_upto_region 4 with (go_at_call 78; (have hx:=R1.out go gn bm W (by rw [<- HE.out,<- HN.out] at *; exact HI.out)); refine hx.mono ?_; rintro e w3 ⟨rfl,hi3⟩; have HI3:=zh hi3; clear hi3 hx)
 obtain ⟨m,hm⟩:=zx d.order.length
 obtain ⟨ov,h1,h2⟩:=HI3.out.ro
 obtain ⟨Ao,co,rfl⟩:=VO.formN (n:=m) h2 (by rw [zad,zap,hm])
 have z0:=HI3.out.rd.cell
 have z3:=h1.cell
 have hbu:=BU.out _ _ _ _ _ w3 (R2.out w3 go gn bm HI3.out) (R3.out w3 go gn bm HI3.out)
 rw [<- hm] at hbu
 have HBU:=zh hbu
 have HB3:=zh HI3.out.below; have RR:=zh HI3.out.rr
 have HM:=zh hm
 clear hbu h1 h2 R1 R2 R3 BU HI3 hm
 go_wp2_with (go_at_call 39; refine HBU.out.mono ?_; rintro e w4 ⟨v4,rfl,hb4,ht4⟩; have HB4:=zh hb4; have HT:=zh ht4; obtain ⟨vn4,vf4,rfl,⟨vs4,hn4,_⟩,hf4⟩:=ht4; obtain ⟨A5,c5,rfl⟩:=hn4.form; obtain ⟨A6,c6,rfl⟩:=VO.form hf4; have RR4:=zh (RR.out.below hb4 RR.out.lt); have b0:=RR4.out.cell; have b1:=RR4.out.free; clear hb4 hn4 hf4)
 refine zah (fun W => Row W (w.heap.size + 1) 30 #[.int .i64 (V:Int),.int .i64 0,.slice A5 vs4.length c5,.slice A6 (bL (List.map d.renum.fin (List.range m))).length c6] /\ TDO W w3.heap.size (.agg #[.int .i64 (V:Int),.int .i64 0,.slice A5 vs4.length c5,.slice A6 (bL (List.map d.renum.fin (List.range m))).length c6]) (d.renum.raw V) /\ Below w.heap.size w W)
  (by have ht:=HT.out; rw [HM.out] at ht ⊢; exact zaz RR4.out ht (HB3.out.trans (HB4.out.mono HB3.out.size)) (by omega)) ?_
 clear b0 b1 RR4 HT z0 z3
 rintro W5 ⟨r0,hT,hb⟩
 have b0:=r0.cell
 have q0:=b0 0; have q1:=b0 1; have q2:=b0 2; have q3:=b0 3
 simp only [zg] at q0 q1 q2 q3
 have HT:=zh (hT.mono HB3.out.size); have HB:=zh hb
 clear b0 r0 hT hb
 exact bodyPost_ret (v:=.agg #[.int .i64 (V:Int),.int .i64 0,.slice A5 vs4.length c5,.slice A6 (bL (List.map d.renum.fin (List.range m))).length c6]) (by simp [results,Tryz.results37,go_sem,q0,q1,q2,q3]) rfl ⟨_,rfl,HB.out,HT.out⟩
end Go.Proofs.YthdabkmkgkkmcaaGreatDoor
namespace Go.Proofs.YthdabkmkgkkmcaaGreatDoor
open Go.RowKit
theorem zia {w w2:World} {cs ds:Array Value} {t u:TypeId} (h:Below ((w.alloc (.cells cs t)).alloc (.cells ds u)).heap.size ((w.alloc (.cells cs t)).alloc (.cells ds u)) w2) :
  Below w.heap.size w w2 /\ Row w2 w.heap.size t cs /\ Row w2 (w.heap.size + 1) u ds:=by
 have r:=(Row.alloc (Row.new w t cs) (.cells ds u)).below h (by simp only [World.size_alloc]; omega)
 have q:=(Row.new (w.alloc (.cells cs t)) u ds).below h (by simp only [World.size_alloc]; omega)
 simp only [World.size_alloc] at q
 exact ⟨((Below.alloc (Below.refl _ _) zn _).alloc (by simp only [World.size_alloc]; omega) _).trans (h.mono (by simp only [World.size_alloc]; omega)),r,q⟩
def zeroR:Raw:=⟨0,0,[],[]⟩
def zeroV:Value:=.agg #[.int .i64 0,.int .i64 0,.slice none 0 0,.slice none 0 0]
theorem zdj (w:World) (B:Nat):TDO w B zeroV zeroR:=⟨_,_,rfl,⟨[],VO.nil _ _ _,rfl,fun i u h => by simp at h⟩,VO.nil _ _ _⟩
theorem TD.form {w:World} {v:Value} {r:Raw} (h:TD w v r):∃ A c Af cf,v = .agg #[.int .i64 r.vars,.int .i64 r.empty,.slice A r.next.length c,.slice Af r.fin.length cf]:=by
 obtain ⟨vn,vf,rfl,hn,hf⟩:=h
 obtain ⟨A,c,rfl,_⟩:=hn.open
 obtain ⟨Af,cf,rfl,_⟩:=hf.open
 exact ⟨_,_,_,_,rfl⟩
theorem TDO.form {w:World} {B:Nat} {v:Value} {r:Raw} (h:TDO w B v r):∃ A c Af cf,v = .agg #[.int .i64 r.vars,.int .i64 r.empty,.slice A r.next.length c,.slice Af r.fin.length cf]:=h.td.form
def RetR (w:World) (r:Raw) (k:Nat) (e:Ending) (w':World):Prop:=∃ v',e = .returned (.tuple #[v',.int .i64 (k:Int)]) /\ Below w.heap.size w w' /\ TDO w' w.heap.size v' r
end Go.Proofs.YthdabkmkgkkmcaaGreatDoor
namespace Go.Proofs.YthdabkmkgkkmcaaGreatDoor
open Go.RowKit
def yL (l:List Nat):List Value:=l.map fun (x:Nat) => Value.int .u8 (x:Int)
theorem znm (l:List Nat):(yL l).length = l.length:=by simp [yL]
theorem yL_at {l:List Nat} {i x:Nat} (h:l[i]? = some x):(yL l)[i]? = some (.int .u8 (x:Int)):=by rw [yL,List.getElem?_map,h]; rfl
theorem eY:Elt 95 5 (.int .u8 0) 1:=⟨by kernel_rfl,by kernel_rfl,by omega,rfl⟩
def YT (w:World) (B:Nat) (v:Value) (l:List Nat):Prop :=
 ∃ g cap cs fr,v = .slice (some ⟨g,0,none⟩) l.length cap /\ B <= g /\ w.heap[g]? = some (.cells cs 5 fr) /\ cs.size = cap /\ l.length <= cap /\ cap <= 9223372036854775807 /\ (∀ j,j < cap -> (decide (fr.1 <= j) && decide (j < fr.2)) = false) /\
  ∀ (i x:Nat),l[i]? = some x -> cs[i]? = some (Value.int .u8 (x:Int))
theorem YT.heap {w w':World} {B:Nat} {v:Value} {l:List Nat} (h:YT w B v l) (hh:∀ g,v.ownBlock = some g -> w'.heap[g]? = w.heap[g]?):YT w' B v l:=by
 obtain ⟨g,cap,cs,fr,rfl,h1,h2,h3⟩:=h
 exact ⟨g,cap,cs,fr,rfl,h1,(hh g rfl).trans h2,h3⟩
theorem YT.lt {w:World} {B:Nat} {v:Value} {l:List Nat} (h:YT w B v l) {g:Nat} (hg:v.ownBlock = some g):B <= g /\ g < w.heap.size:=by
 obtain ⟨g',cap,cs,fr,rfl,h1,h2,h3⟩:=h
 simp only [Value.ownBlock,Option.some.injEq] at hg
 subst hg
 exact ⟨h1,(Array.getElem?_eq_some_iff.1 h2).1⟩
theorem YT.allocd {w:World} {B:Nat} {v:Value} {l:List Nat} (h:YT w B v l) (X:Obj):YT (w.alloc X) B v l:=h.heap fun g hg => Below.heap_alloc w X g (h.lt hg).2
theorem YT.ne_row {w:World} {B g:Nat} {v:Value} {l:List Nat} {E:TypeId} {cs:Array Value} (h:YT w B v l) (hr:Row w g E cs) (hne:5 ≠ E):v.ownBlock ≠ some g:=by
 intro e
 obtain ⟨g',cap,cs',fr,rfl,h1,h2,h3⟩:=h
 simp only [Value.ownBlock,Option.some.injEq] at e
 subst e
 unfold Row at hr
 rw [hr] at h2
 simp only [Option.some.injEq,Obj.cells.injEq] at h2
 exact hne h2.2.1.symm
theorem YT.setFar {w:World} {B g:Nat} {v:Value} {l:List Nat} {E:TypeId} {cs:Array Value} (h:YT w B v l) (hr:Row w g E cs) (hne:5 ≠ E) (i:Nat) (u:Value):YT (w.setCell ⟨g,i,none⟩ u) B v l :=
 h.heap fun k hk => Below.heap_setCell w ⟨g,i,none⟩ u k (fun e => h.ne_row hr hne (by rw [hk,e]))
theorem YT.made (w:World) (B:Nat) (hB:B <= w.heap.size) (s:ByteArray) (cap:Nat) (l:List Nat) (hl:l = s.data.toList.map (·.toNat)) (hc:s.size <= cap) (hm:cap <= 9223372036854775807) :
  YT (w.alloc (.cells (bytesRow s cap) 5 ((bytesRow s cap).size,(bytesRow s cap).size + 1))) B (.slice (some ⟨w.heap.size,0,none⟩) s.size cap) l:=by
 have hsz:(bytesRow s cap).size = cap:=by
  unfold bytesRow
  simp only [Array.size_append,Array.size_map,Array.size_replicate]
  have:s.data.size = s.size:=rfl
  omega
 have hll:l.length = s.size:=by rw [hl]; simp
 refine ⟨w.heap.size,cap,bytesRow s cap,_,by rw [hll],hB,heap_alloc_new w _,hsz,by omega,hm,fun j hj => ?_,fun i x hi => ?_⟩
 ·rw [hsz]; simp; omega
 ·rw [hl,List.getElem?_map] at hi
  have hi2:i < s.data.size:=by
   rcases Nat.lt_or_ge i s.data.size with h | h
   ·exact h
   ·rw [List.getElem?_eq_none (by simpa using h)] at hi; cases hi
  rw [bytesRow_at s cap i hi2]
  rw [List.getElem?_eq_getElem (by simpa using hi2)] at hi
  simp only [Option.map_some,Option.some.injEq,Array.getElem_toList] at hi
  rw [hi]
theorem zln (w:World) (n old:Nat) (e:TypeId) (hn:n <= 1000000):n <= grownCap w n old e /\ grownCap w n old e <= 9223372036854775807:=by
 have h1:=grownCap_ge w n old e
 have h2:=grownCap_le_maxLen w n old e (by simp only [maxLen]; omega)
 simp only [maxLen] at h2
 exact ⟨h1,by omega⟩
theorem u8_info:∃ i,Tryz.prog.info? 5 = some i /\ i.zero = some (.int .u8 0) /\ i.size = 1 /\ i.bytes = 1:=by
 obtain ⟨i,hi,hz,h1,h2⟩:=info_parts eY.info
 exact ⟨i,hi,hz,h1,h2⟩
theorem zig (w:World) (B:Nat) (v:Value) (l:List Nat) (h:YT w B v l) (b:Nat) (c:Nat) (x y:Nat) (h0:w.cell? ⟨b,0,none⟩ = some (.int .u8 (x:Int))) (h1:w.cell? ⟨b,1,none⟩ = some (.int .u8 (y:Int))) (ty:TypeId) (hl:l.length <= 100000) (hB:B <= w.heap.size) :
  ∃ v' w',(Builtin.append_ #[95,95] ty #[v,.slice (some ⟨b,0,none⟩) 2 c]).run Tryz.prog w = .ok v' w' /\ YT w' B v' (l ++ [x,y]) /\ w.grownBy w' v.ownBlock:=by
 obtain ⟨i,hi,hz,hs1,hs2⟩:=u8_info
 obtain ⟨g,cap,cs,fr,rfl,hBg,hg,hcs,hlc,hcm,hfr,hat⟩:=h
 have hadd:∀ j,(⟨b,0,none⟩:Addr).add j = ⟨b,j,none⟩:=fun j => by unfold Addr.add; split <;> simp_all
 have haddg:∀ o j,(⟨g,o,none⟩:Addr).add j = ⟨g,o + j,none⟩:=fun o j => by unfold Addr.add; split <;> simp_all
 have hnews:∀ j u,[Value.int .u8 (x:Int),.int .u8 (y:Int)][j]? = some u -> w.cell? ((⟨b,0,none⟩:Addr).add j) = some u:=by
  intro j u hj
  rw [hadd]
  match j with
  | 0 => simp at hj; rw [<- hj]; exact h0
  | 1 => simp at hj; rw [<- hj]; exact h1
  | j + 2 => simp at hj
 have hgl:g < w.heap.size:=(Array.getElem?_eq_some_iff.1 hg).1
 have hlen2:(l ++ [x,y]).length = l.length + 2:=by simp
 by_cases hroom:l.length + 2 <= cap
 ·have hf:=run_firstCells_some (P:=Tryz.prog) w i.size 2 ⟨b,0,none⟩ 2 c [Value.int .u8 (x:Int),.int .u8 (y:Int)] (by rw [hs1]; rfl) hnews
  have hg1:(w.setCell ⟨g,l.length,none⟩ (.int .u8 (x:Int))).heap[g]? = some (.cells (cs.setIfInBounds l.length (.int .u8 (x:Int))) 5 fr):=by
   simp [World.setCell,Array.getElem?_modify,hg]
  have hg2:((w.setCell ⟨g,l.length,none⟩ (.int .u8 (x:Int))).setCell ⟨g,l.length + 1,none⟩ (.int .u8 (y:Int))).heap[g]? = some (.cells ((cs.setIfInBounds l.length (.int .u8 (x:Int))).setIfInBounds (l.length + 1) (.int .u8 (y:Int))) 5 fr):=by
   have:=hg1
   simp only [World.setCell] at this ⊢
   rw [Array.getElem?_modify,if_pos rfl,this]
   simp
  have hc0:w.cell? ⟨g,l.length,none⟩ = some cs[l.length]:=by rw [cell_of_row w g _ cs _ fr hg]; exact Array.getElem?_eq_getElem (by omega)
  have hf0:w.frozen? ⟨g,l.length,none⟩ = false:=by
   have:=hfr l.length (by omega)
   unfold World.frozen?
   rw [hg]
   exact this
  have hc1:(w.setCell ⟨g,l.length,none⟩ (.int .u8 (x:Int))).cell? ⟨g,l.length + 1,none⟩ = some ((cs.setIfInBounds l.length (.int .u8 (x:Int)))[l.length + 1]'(by simp; omega)):=by
   rw [cell_of_row _ g _ _ _ fr hg1]; exact Array.getElem?_eq_getElem (by simp; omega)
  have hf1:(w.setCell ⟨g,l.length,none⟩ (.int .u8 (x:Int))).frozen? ⟨g,l.length + 1,none⟩ = false:=by
   have:=hfr (l.length + 1) (by omega)
   unfold World.frozen?
   rw [hg1]
   exact this
  have hst:(storeCells ⟨g,l.length,none⟩ [Value.int .u8 (x:Int),.int .u8 (y:Int)] 0).run Tryz.prog w = .ok () ((w.setCell ⟨g,l.length,none⟩ (.int .u8 (x:Int))).setCell ⟨g,l.length + 1,none⟩ (.int .u8 (y:Int))):=by
   have e0:(store (⟨g,l.length,none⟩:Addr) (.int .u8 (x:Int))).run Tryz.prog w = .ok () (w.setCell ⟨g,l.length,none⟩ (.int .u8 (x:Int))):=by
    rw [run_store _ w _ _ _ rfl,hc0]; simp [hf0]
   have e1:(store (⟨g,l.length + 1,none⟩:Addr) (.int .u8 (y:Int))).run Tryz.prog (w.setCell ⟨g,l.length,none⟩ (.int .u8 (x:Int))) = .ok () ((w.setCell ⟨g,l.length,none⟩ (.int .u8 (x:Int))).setCell ⟨g,l.length + 1,none⟩ (.int .u8 (y:Int))):=by
    rw [run_store _ _ _ _ _ rfl,hc1]; simp [hf1]
   simp only [storeCells,haddg,Nat.add_zero,Nat.zero_add,Sem.run_bind,e0,e1,Result.andThen_ok,Sem.run_pure]
  refine ⟨.slice (some ⟨g,0,none⟩) (l.length + 2) cap,_,?_,⟨g,cap,_,fr,by rw [hlen2],hBg,hg2,by simp [hcs],by omega,hcm,hfr,fun k z hk => ?_⟩,⟨rfl,rfl,rfl,by simp [World.setCell],fun k _ hk => ?_⟩⟩
  ·rw [hs1] at hf
   simp [Builtin.append_,run_underlying eY.under,sizeOf,typeInfo,hi,hs1,Builtin.lenOf,hroom,hf,Addr.add_lit,hst,haddg]
  ·rw [Array.getElem?_setIfInBounds,Array.getElem?_setIfInBounds]
   rcases Nat.lt_or_ge k l.length with hk1 | hk1
   ·rw [if_neg (by omega),if_neg (by omega)]
    exact hat k z (by rw [<- hk,List.getElem?_append_left hk1])
   ·rw [List.getElem?_append_right hk1] at hk
    have hk2:k - l.length = 0 \/ k - l.length = 1:=by
     have:=(List.getElem?_eq_some_iff.1 hk).1
     simp at this; omega
    rcases hk2 with hk2 | hk2
    ·rw [hk2] at hk
     have:k = l.length:=by omega
     subst this
     simp at hk
     rw [if_neg (by omega),if_pos rfl,if_pos (by omega),hk]
    ·rw [hk2] at hk
     have:k = l.length + 1:=by omega
     subst this
     simp at hk
     rw [if_pos rfl,if_pos (by simp; omega),hk]
  ·have hk':k ≠ g:=fun e => hk (by simp [Value.ownBlock,e])
   rw [Below.heap_setCell _ _ _ _ (by exact hk'),Below.heap_setCell _ _ _ _ (by exact hk')]
 ·have holds:∀ j u,(yL l)[j]? = some u -> w.cell? ((⟨g,0,none⟩:Addr).add j) = some u:=by
   intro j u hj
   rw [haddg,Nat.zero_add,cell_of_row w g _ cs _ fr hg]
   unfold yL at hj
   rw [List.getElem?_map] at hj
   cases e:l[j]? with
   | none => rw [e] at hj; cases hj
   | some z => rw [e] at hj; cases hj; exact hat j z e
  have hr:=run_append_grow (P:=Tryz.prog) w 95 ty 5 i (.int .u8 0) eY.under hi hz ⟨g,0,none⟩ l.length cap (yL l) (by rw [znm,hs1,Nat.mul_one]) holds ⟨b,0,none⟩ 2 c [Value.int .u8 (x:Int),.int .u8 (y:Int)] (by rw [hs1]; rfl) hnews (by omega) (by omega) (growslice_fits (by omega) (by rw [hs2]; omega))
  obtain ⟨q1,q2⟩:=zln w (l.length + 2) cap 5 (by omega)
  refine ⟨_,_,hr,⟨w.heap.size,_,_,(0,0),by rw [hlen2],hB,heap_alloc_new w.drew _,?_,by rw [hlen2]; exact q1,q2,by simp,fun k z hk => ?_⟩,⟨rfl,rfl,rfl,by simp,fun k hk _ => Below.heap_alloc w.drew _ k hk⟩⟩
  ·simp [size_zeroCells,znm,Value.cells]; omega
  ·have hkl:k < l.length + 2:=by have:=(List.getElem?_eq_some_iff.1 hk).1; simp at this; omega
   rw [Array.getElem?_append_left (by simp [znm]; omega)]
   have:(yL l).toArray ++ [Value.int .u8 (x:Int),.int .u8 (y:Int)].toArray = (yL (l ++ [x,y])).toArray:=by simp [yL]
   rw [this]
   have:=yL_at hk
   simpa using this
theorem zie (w:World) (B:Nat) (v:Value) (l:List Nat) (h:YT w B v l):(convert 95 9 v).run Tryz.prog w = .ok (.string (strOfNums (l.map fun (x:Nat) => (x:Int)))) w:=by
 obtain ⟨g,cap,cs,fr,rfl,hBg,hg,hcs,hlc,hcm,hfr,hat⟩:=h
 refine run_convert_bytes_arg w 95 5 eY.under (by kernel_rfl) g 0 l.length cap _ (by simp) (fun i hi => ?_) 9 (by kernel_rfl)
 obtain ⟨x,hx⟩:∃ x,l[i]? = some x:=⟨l[i],List.getElem?_eq_getElem hi⟩
 rw [Nat.zero_add,cell_of_row w g _ cs _ fr hg,hat i x hx]
 simp [List.getD_eq_getElem?_getD,hx]
end Go.Proofs.YthdabkmkgkkmcaaGreatDoor
namespace Go.Proofs.YthdabkmkgkkmcaaGreatDoor
open Go.RowKit
def boolS (b:Bool):ByteArray:=⟨((fb b).map fun (x:Nat) => UInt8.ofNat x).toArray⟩
theorem zkh (b:Bool) (w:World):Calls Tryz.prog 127 #[.bool b] w fun e w' => e = .returned (.string (boolS b)) /\ w = w':=by
 cases b <;> (go_enter Tryz.func127,Tryz.ntmps127; go_wp2; go_returns; exact ⟨rfl,rfl⟩)
theorem zm4 (b:Bool) (w:World):Calls Tryz.prog 82 #[.bool b] w fun e w' => e = .returned (.string (boolS b)) /\ w = w':=by
 go_enter Tryz.func82,Tryz.ntmps82
 go_wp2_with (go_at_call 127; refine (zkh b _).mono ?_; rintro e w2 ⟨rfl,rfl⟩)
 go_returns
 exact ⟨rfl,rfl⟩
theorem zgf {T:TypeId} {ops:Array Oper} {o:Oper} {a:Act} {w:World} {K:Act -> World -> Prop} {Q:Exit -> Act -> World -> Prop} {X:Prop} (hgd:o.guard = none) (s x:Operand)
  (ho:o.op = .call { callee:=.builtin .append,args:=#[s,x],argTypes:=#[T,T] }) {v y v':Value} {w':World} (hs:a.eval s = v) (hx:a.eval x = y)
  (hrun:(Builtin.append_ #[T,T] o.type #[v,y]).run Tryz.prog w = .ok v' w') (h:K (a.put o.dst v') w'):if Region.wanted o (yielded ops a.tmps) = true then Oper.wp Tryz.prog o a w K Q else X:=by
 have hw:Region.wanted o (yielded ops a.tmps) = true:=by simp [Region.wanted,hgd]
 rw [if_pos hw]
 unfold Oper.wp execOp
 simp only [ho,resolve,invoke,builtin,Sem.run_bind,Sem.run_pure,Result.andThen_ok,List.map_toArray,List.map_cons,List.map_nil,hs,hx,hrun]
 exact h
structure RowB (wS:World) (gr:Nat) (bs:List Nat) (W:World):Prop where
 below:Below wS.heap.size wS W
 lo:wS.heap.size <= gr
 ro:∃ rv,Row W gr 95 #[rv] /\ YT W wS.heap.size rv bs
theorem YT.formN {w:World} {B n:Nat} {v:Value} {l:List Nat} (h:YT w B v l) (hn:l.length = n):∃ g cap,v = .slice (some ⟨g,0,none⟩) n cap:=by
 obtain ⟨g,cap,cs,fr,rfl,_⟩:=h
 exact ⟨g,cap,by rw [hn]⟩
theorem u8_wrap (c:Nat) (h:c < 256):IntKind.u8.wrap (c:Int) = c:=by
 simp only [IntKind.wrap,IntKind.bits,IntKind.signed]
 simp
 omega
theorem YT.far {w w':World} {B:Nat} {v:Value} {l:List Nat} {g:Nat} {E:TypeId} {cs:Array Value} (h:YT w B v l) (hr:Row w g E cs) (hne:5 ≠ E) (hg:w.grownBy w' v.ownBlock):Row w' g E cs :=
 hr.grown hg (fun e => h.ne_row hr hne e.symm)
theorem zrb (wS:World) (gr gc n:Nat) (cv:Value) (cl:Nat -> Nat) (hc:Row wS gc 36 #[cv]) (hcv:N1 wS cv (oI ((List.range n).map cl))) (t:Nat) (ht:t < n) (hn:n <= 64) (hcl:cl t < 256) (bs:List Nat) (hbs:bs.length <= 99990) (W:World) (h:RowB wS gr bs W) :
  Calls Tryz.prog 83 #[.int .i64 (t:Int),.pointer (some ⟨gr,0,none⟩),.pointer (some ⟨gc,0,none⟩)] W fun e w' => e = .returned (.tuple #[]) /\ RowB wS gr (bs ++ nb (cl t)) w':=by
 obtain ⟨A,c,rfl,hc1,hc2,hat⟩:=hcv.open
 rw [zap,List.length_map,List.length_range] at hc1 hc
 obtain ⟨b,o,rfl,hb,c0⟩:=hat t _ (oI_at (by rw [List.getElem?_map,List.getElem?_range ht]; rfl))
 rw [<- h.below.cell (p:=⟨b,_,none⟩) hb] at c0
 have r1:=hc.below h.below hc.lt
 obtain ⟨rv,hr,hy⟩:=h.ro
 obtain ⟨m,hm⟩:=zx bs.length
 obtain ⟨g,cap,rfl⟩:=hy.formN hm.symm
 obtain ⟨q,hq⟩:=zx (cl t)
 rw [<- hq] at c0 hcl ⊢
 have hw:=u8_wrap q hcl
 have HY:=zh hy; have HR:=zh hr; have HH:=zh h; have HM:=zh hm
 have hmm:m <= 99990:=by omega
 have z0:=r1.cell; have z1:=hr.cell; have z2:=hr.free; have z3:=hr.lt
 clear hcl hq hat hc hb h hy hr r1 hm hbs hcv
 obtain ⟨v4,w4,hrun,hy4,hg4⟩:=zig ((W.alloc (.cells #[.int .u8 32,.int .u8 (q:Int)] 5)).drew) wS.heap.size _ bs (show YT (W.alloc (.cells #[.int .u8 32,.int .u8 (q:Int)] 5)).drew wS.heap.size _ bs from YT.allocd HY.out _) W.heap.size 2 32 q
  ((Row.new W 5 #[.int .u8 32,.int .u8 (q:Int)]).drew.cell 0) ((Row.new W 5 #[.int .u8 32,.int .u8 (q:Int)]).drew.cell 1) 95 (by rw [<- HM.out]; omega) (by show wS.heap.size <= (W.alloc _).heap.size; simp only [World.size_alloc]; have:=HH.out.below.size; omega)
 obtain ⟨g4,cap4,rfl⟩:=hy4.formN (n:=m + 2) (by rw [List.length_append,HM.out]; rfl)
 replace hg4:(W.alloc (.cells #[.int .u8 32,.int .u8 (q:Int)] 5)).grownBy w4 (Value.slice (some ⟨g,0,none⟩) m cap).ownBlock:=⟨hg4.os,hg4.tape,hg4.output,hg4.size,hg4.block⟩
 have HY4:=zh hy4; have HR4:=zh (YT.far (YT.allocd HY.out _) (Row.alloc HR.out _) (by decide) hg4)
 have HB4:=zh (Below.grown (a:=wS) (B:=wS.heap.size) (by have h1:=HH.out.below; have h2:=h1.size; go_grown) hg4 (by have:=HH.out.below.size; simp only [World.size_alloc]; omega) (fun k hk => (HY.out.lt hk).1))
 have y0:=HR4.out.cell; have y1:=HR4.out.free
 have HRUN:=zh hrun
 clear hy4 hg4 hrun
 go_enter Tryz.func83,Tryz.ntmps83
 go_wp2
 first
 | go_region_law (refine zgf rfl (.tmp 4) (.tmp 10) rfl rfl rfl HRUN.out ?_)
 | fail
 all_goals
  go_wp2
  go_returns
  exact ⟨rfl,HB4.out.setCell (p:=⟨gr,0,none⟩) HH.out.lo _,HH.out.lo,_,HR4.out.set 0 _,HY4.out.setFar HR4.out (by decide) 0 _⟩
end Go.Proofs.YthdabkmkgkkmcaaGreatDoor
namespace Go.Proofs.YthdabkmkgkkmcaaGreatDoor
open Go.RowKit
theorem zcb:Tryz.prog.underlying 125 = some (.map 9 3):=by kernel_rfl
theorem zgc:Tryz.prog.underlying 9 = some .string:=by kernel_rfl
theorem kl_str:Kl Lit.string:=⟨fun a b h => by simpa using h,fun a => trivial⟩
theorem zgx:Maps.Keyed Tryz.prog 9:=Maps.string_keyed zgc
def zho (bs:List Nat):ByteArray:=strOfNums (bs.map fun (x:Nat) => (x:Int))
theorem key_row (bs:List Nat) (h:bs.length <= 100000):keyOf Tryz.prog 9 (.string (zho bs)) = some (Lit.string (bs.map fun (x:Nat) => UInt8.ofNat x)):=by
 have h1:(zho bs).size <= maxLen:=by unfold zho; rw [strOfNums_size,List.length_map]; simp only [maxLen]; omega
 rw [WideMaps.keyOf_string_mk zgc h1]
 unfold zho strOfNums
 simp [Function.comp_def]
theorem Nx.row {w:World} {v:Value} {n L:Nat} {f:Nat -> Nat -> Nat -> Nat} {b3 o3 c3:Nat} (h:Nx w v n L f b3 o3 c3) (hL:1 <= L) {l r:Nat} (hl:l < n) (hr:r < n):∃ b2 o2 c2 b1 o1 c1,b3 < w.heap.size /\ w.cell? ⟨b3,o3 + l,none⟩ = some (.slice (some ⟨b2,o2,none⟩) n c2) /\ n <= c2 /\ b2 < w.heap.size /\
  w.cell? ⟨b2,o2 + r,none⟩ = some (.slice (some ⟨b1,o1,none⟩) L c1) /\ L <= c1 /\ b1 < w.heap.size /\ ∀ x,x < L -> w.cell? ⟨b1,o1 + x,none⟩ = some (.int .i64 (f l r x:Int)):=by
 obtain ⟨b2,o2,c2,b1,o1,c1,h1,h2,h3,h4,h5,h6,h7,_⟩:=h.at3 l r 0 hl hr hL
 refine ⟨b2,o2,c2,b1,o1,c1,h1,h2,h3,h4,h5,h6,h7,fun x hx => ?_⟩
 obtain ⟨b2',o2',c2',b1',o1',c1',_,k2,_,_,k5,_,_,k8⟩:=h.at3 l r x hl hr hx
 rw [h2] at k2
 simp only [Option.some.injEq,Value.slice.injEq,Addr.mk.injEq,and_true,true_and] at k2
 obtain ⟨⟨rfl,rfl⟩,_⟩:=k2
 rw [h5] at k5
 simp only [Option.some.injEq,Value.slice.injEq,Addr.mk.injEq,and_true,true_and] at k5
 obtain ⟨⟨rfl,rfl⟩,_⟩:=k5
 exact k8
section
variable {α:Type} [DecidableEq α] {k:TypeId} {lit:α -> Lit} {w:World} {b:Nat} {ks:List α}
theorem zcq (K:Maps.Keyed Tryz.prog k) {ops:Array Oper} {rest:List Oper} {o:Oper} {a:Act} {Q:Exit -> Act -> World -> Prop} (hg:o.guard = none) (m x:Operand) (t:TypeId) (hop:o.op = Op.lookup t m x true)
  (ht:Tryz.prog.underlying t = some (.map k 3)) (hm:a.eval m = .map (some b)) (h:NM k lit w b ks) (s:α) (hs:s ∈ ks) (z:Nat) (hz:idxD ks s = z) (key:Value) (hx:a.eval x = key) (hkey:keyOf Tryz.prog k key = some (lit s))
  (hK:wpList Tryz.prog ops Q rest (a.put o.dst (.tuple #[.int .i64 (z:Int),.bool true])) w):wpList Tryz.prog ops Q (o :: rest) a w:=by
 subst hz
 exact zek K hg m x t hop ht hm h s hs key hx hkey hK
theorem zbp {ops:Array Oper} {rest:List Oper} {o:Oper} {a:Act} {Q:Exit -> Act -> World -> Prop} (hg:o.guard = none) (m:Operand) (t:TypeId) (hop:o.op = Op.call { callee:=Callee.builtin Builtin.len,args:=#[m],argTypes:=#[t] })
  (ht:Tryz.prog.underlying t = some (.map k 3)) (hm:a.eval m = .map (some b)) (h:NM k lit w b ks) (z:Nat) (hz:ks.length = z)
  (hK:wpList Tryz.prog ops Q rest (a.put o.dst (.int .i64 (z:Int))) w):wpList Tryz.prog ops Q (o :: rest) a w:=by
 subst hz
 exact zh7 hg m t hop ht hm h hK
end
structure ClsR (d:Dta) (cl:Nat -> Nat) (many m:Nat):Prop where
 rest:d.clsS m cl many = d.cls
 few:d.n < many + m
 on:∀ i,i < many -> ∃ s,s < d.n /\ cl s = i
 lt:∀ s,cl s < 256
theorem Dta.next_small (d:Dta) (cl:Nat -> Nat) (hn:d.n <= 64) (s:Nat):d.next cl s < 256:=by
 have h1:d.next cl s <= (keysS (d.rows cl)).length:=List.idxOf_le_length
 have h2:=d.count_le cl
 unfold Dta.count at h2
 omega
theorem ClsR.start (d:Dta):ClsR d (fun _ => 0) 0 (d.n + 1):=⟨rfl,by omega,fun i h => by omega,fun _ => by omega⟩
theorem ClsR.pos {d:Dta} {cl:Nat -> Nat} {many m:Nat} (h:ClsR d cl many m):∃ k,m = k + 1:=by
 have h1:=d.count_ge h.on
 have h2:=d.count_le cl
 have h3:=h.few
 exact ⟨m - 1,by omega⟩
theorem ClsR.stop {d:Dta} {cl:Nat -> Nat} {many m:Nat} (h:ClsR d cl many m) (hc:d.count cl = many):d.cls = (d.next cl,many):=by
 obtain ⟨k,rfl⟩:=h.pos
 rw [<- h.rest,Dta.clsS,if_pos hc]
theorem ClsR.go {d:Dta} {cl:Nat -> Nat} {many m:Nat} (hn:d.n <= 64) (h:ClsR d cl many m) (hc:d.count cl ≠ many):∃ k,m = k + 1 /\ ClsR d (d.next cl) (d.count cl) k:=by
 obtain ⟨k,rfl⟩:=h.pos
 have h1:=d.count_ge h.on
 have h3:=h.few
 refine ⟨k,rfl,by rw [<- h.rest,Dta.clsS,if_neg hc],by omega,fun i hi => d.next_on cl hi,d.next_small cl hn⟩
structure ClS (d:Dta) (cl:Nat -> Nat) (wB:World) (bm gx s:Nat) (W:World):Prop where
 below:Below wB.heap.size wB W
 nm:NM 9 Lit.string W bm (d.KB cl s)
 bm:wB.heap.size <= bm
 nx:∃ nl:List Int,VO 3 W wB.heap.size (.slice (some ⟨gx,0,none⟩) d.n d.n) (iL nl) /\ nl.length = d.n /\ ∀ i,i < s -> nl[i]? = some ((d.next cl i:Nat):Int)
theorem ClS.keep {d:Dta} {cl:Nat -> Nat} {wB:World} {bm gx s:Nat} {W W':World} (h:ClS d cl wB bm gx s W) (hb:Below W.heap.size W W'):ClS d cl wB bm gx s W':=by
 obtain ⟨nl,h1,h2⟩:=h.nx
 exact ⟨h.below.trans (hb.mono h.below.size),h.nm.below hb h.nm.lt,h.bm,nl,h1.below hb zn,h2⟩
theorem iL_set (l:List Int) (i:Nat) (x:Int):(iL l).set i (.int .i64 x) = iL (l.set i x):=by simp [iL]
theorem ClS.store {d:Dta} {cl:Nat -> Nat} {wB:World} {bm gx s:Nat} {W W':World} (h:ClS d cl wB bm gx s W) (hs:s < d.n) (hm:NM 9 Lit.string W' bm (d.KB cl (s + 1))) (hg:W.grownBy W' (some bm)) :
  ClS d cl wB bm gx (s + 1) (W'.setCell ⟨gx,s,none⟩ (.int .i64 ((d.next cl s:Nat):Int))):=by
 obtain ⟨nl,h1,h2,h3⟩:=h.nx
 have h4:VO 3 W' wB.heap.size (.slice (some ⟨gx,0,none⟩) d.n d.n) (iL nl):=h1.grownNe hg (.inr (fun e => h.nm.ne_own h1 e.symm))
 have hgx:wB.heap.size <= gx:=(World.ownsRow.lt h1.2 gx rfl).1
 have h5:=zeb h4 (by rw [zad,h2]) s (.int .i64 ((d.next cl s:Nat):Int)) rfl
 rw [iL_set] at h5
 refine ⟨(h.below.grown hg h.below.size (fun k hk => by cases hk; exact h.bm)).setCell (p:=⟨gx,s,none⟩) hgx _,hm.setCell (fun e => hm.ne_own h4 (by rw [e]; rfl)) _,h.bm,_,h5,by simp [h2],fun i hi => ?_⟩
 rw [List.getElem?_set]
 by_cases e:s = i
 ·subst e; rw [if_pos rfl,if_pos (by omega)]
 ·rw [if_neg e]; exact h3 i (by omega)
theorem ClS.done {d:Dta} {cl:Nat -> Nat} {wB:World} {bm gx:Nat} {W:World} (h:ClS d cl wB bm gx d.n W):O1 W wB.heap.size (.slice (some ⟨gx,0,none⟩) d.n d.n) (oI ((List.range d.n).map (d.next cl))):=by
 obtain ⟨nl,h1,h2,h3⟩:=h.nx
 have:nl = oI ((List.range d.n).map (d.next cl)):=by
  apply List.ext_getElem?
  intro i
  by_cases hi:i < d.n
  ·rw [h3 i hi]
   unfold oI
   rw [List.getElem?_map,List.getElem?_map,List.getElem?_range hi]; rfl
  ·rw [List.getElem?_eq_none (by omega),List.getElem?_eq_none (by rw [zap]; simp; omega)]
 rw [this] at h1
 exact h1
theorem zkt (d:Dta) (V:Nat) (hd:d.Fit V) (v:Value) (w:World) (hv:TD w v (d.raw V)) :
  Calls Tryz.prog 38 #[v] w fun e w' => ∃ u,e = .returned (.tuple #[u,.int .i64 ((d.cls.2:Nat):Int)]) /\ Below w.heap.size w w' /\ O1 w' w.heap.size u (oI ((List.range d.n).map d.cls.1)):=by
 obtain ⟨vn,vf,rfl,hn,hf⟩:=hv
 obtain ⟨b3,o3,c3,hN⟩:=N3.nx (show N3 w vn (nx3 d.n d.L d.nx) from hn) hd.pos hd.L8.1
 obtain rfl:=hN.form
 obtain ⟨Af,cf,rfl,-,-,hfa⟩:=hf.open
 have hlenf:(d.raw V).fin.length = d.n:=by simp [Dta.raw]
 have hvars:(d.raw V).vars = (V:Int):=rfl
 have hemp:(d.raw V).empty = (d.e:Int):=rfl
 rw [hlenf]
 rw [hvars,hemp]
 have HAT:=zh (fun l r hl hr => hN.row hd.L8.1 (l:=l) (r:=r) hl hr)
 have HFA:Hid (∀ i,i < d.n -> ∃ b o,Af = some ⟨b,o,none⟩ /\ b < w.heap.size /\ w.cell? ⟨b,o + i,none⟩ = some (.bool (d.fin i))):=fun i hi => hfa i _ (by show ((List.range d.n).map d.fin)[i]? = _; rw [List.getElem?_map,List.getElem?_range hi]; rfl)
 have h64:=hd.n64
 have hL8:=hd.L8.2
 have HOK:=zh hd.ok
 have hpos:=hd.pos
 have hmk:=zbm eI d.n (by omega)
 have hmm:=@run_makeMap Tryz.prog
 obtain ⟨E,hE⟩:=zx d.e
 rw [<- hE]
 clear hn hf hN hlenf hvars hemp hfa hd hE
 obtain ⟨n,hnn⟩:=zx d.n
 rw [<- hnn] at h64 hpos hmk ⊢
 have HN:=zh hnn; clear hnn
 obtain ⟨L,hLL⟩:=zx d.L
 rw [<- hLL] at hL8
 have HL:=zh hLL; clear hLL
 go_enter Tryz.func38,Tryz.ntmps38
 go_wp2
 have hst:Hid (Below w.heap.size w (((w.alloc (.cells #[.int .i64 (V:Int),.int .i64 (E:Int),.slice (some ⟨b3,o3,none⟩) n c3,.slice Af n cf] 30)).alloc (.cells #[.slice (some ⟨w.heap.size + 1 + 1,0,none⟩) n n] 36)).alloc (.cells (Array.replicate n (.int .i64 0)) 3))):=by unfold Hid; go_grown
 have hO1:Hid (O1 (((w.alloc (.cells #[.int .i64 (V:Int),.int .i64 (E:Int),.slice (some ⟨b3,o3,none⟩) n c3,.slice Af n cf] 30)).alloc (.cells #[.slice (some ⟨w.heap.size + 1 + 1,0,none⟩) n n] 36)).alloc (.cells (Array.replicate n (.int .i64 0)) 3)) w.heap.size (.slice (some ⟨w.heap.size + 1 + 1,0,none⟩) n n) (oI ((List.range n).map fun _ => 0))):=by
  have h:=VO.lit (E:=3) (w:=(w.alloc (.cells #[.int .i64 (V:Int),.int .i64 (E:Int),.slice (some ⟨b3,o3,none⟩) n c3,.slice Af n cf] 30)).alloc (.cells #[.slice (some ⟨w.heap.size + 1 + 1,0,none⟩) n n] 36)) (n:=n) (List.replicate n (.int .i64 0)) (by simp) (by omega) (by intro u hu; rw [List.eq_of_mem_replicate hu]; rfl)
  simp only [World.size_alloc] at h
  have e:iL (oI ((List.range n).map fun _ => 0)) = List.replicate n (.int .i64 0):=by
   unfold iL oI
   rw [List.map_map,List.map_map]
   apply List.eq_replicate_iff.2
   exact ⟨by simp,fun b hb => by obtain ⟨x,_,rfl⟩:=List.mem_map.1 hb; rfl⟩
  unfold Hid O1
  rw [e]
  rw [List.toArray_replicate] at h
  exact h.mono (by omega)
 refine zaa (fun W => Below w.heap.size w W /\ Row W w.heap.size 30 #[.int .i64 (V:Int),.int .i64 (E:Int),.slice (some ⟨b3,o3,none⟩) n c3,.slice Af n cf] /\ ∃ gk,Row W (w.heap.size + 1) 36 #[.slice (some ⟨gk,0,none⟩) n n] /\ O1 W w.heap.size (.slice (some ⟨gk,0,none⟩) n n) (oI ((List.range n).map fun _ => 0))) ⟨hst.out,((Row.new _ _ _).alloc _).alloc _,_,(Row.lit (by simp)).alloc _,hO1.out⟩ ?_
 clear hst hO1
 rintro w1 ⟨hb,hr1,gk,hrc,hcl⟩
 have HB:=zh hb; have R1:=zh hr1; have RC:=zh hrc; have CL:=zh hcl
 clear hb hr1 hrc hcl
 go_loopg [3] (n + 1) (fun gk0 q wr => ∃ (cl:Nat -> Nat) (many gk:Nat),q = .int .i64 (many:Int) /\ ClsR d cl many gk0 /\ Below w.heap.size w wr /\ Row wr w.heap.size 30 #[.int .i64 (V:Int),.int .i64 (E:Int),.slice (some ⟨b3,o3,none⟩) n c3,.slice Af n cf] /\ Row wr (w.heap.size + 1) 36 #[.slice (some ⟨gk,0,none⟩) n n] /\ O1 wr w.heap.size (.slice (some ⟨gk,0,none⟩) n n) (oI ((List.range n).map cl)))
 case atStart => exact ⟨_,0,gk,rfl,by rw [HN.out]; exact ClsR.start d,HB.out,R1.out,RC.out,CL.out⟩
 case round =>
  clear HB R1 RC CL
  obtain ⟨cl,many,gk,rfl,hcr,hb,hr1,hrc,hcl⟩:=hrel
  obtain ⟨wB,hwB⟩:=zx wr
  subst hwB
  have HB:=zh hb; have R1:=zh hr1; have RC:=zh hrc; have CL:=zh hcl; have HCR:=zh hcr
  have zc:=hrc.cell; have zc1:=fun X => (hrc.alloc X).cell; have zc2:=fun X Y => ((hrc.alloc X).alloc Y).cell
  have zlt:=hrc.lt
  clear hb hr1 hrc hcl hcr
  go_wp2
  refine zaa (fun W => ClS d cl wB wB.heap.size (wB.heap.size + 1) 0 W) ?_ ?_
  ·refine ⟨by go_grown,(NM.made _ _ wB).alloc _,zn,List.replicate n 0,?_,by simp [HN.out],fun i h => by omega⟩
   have h:=VO.lit (E:=3) (w:=wB.alloc (.map #[] 0)) (n:=n) (List.replicate n (.int .i64 0)) (by simp) (by omega) (by intro u hu; rw [List.eq_of_mem_replicate hu]; rfl)
   simp only [World.size_alloc] at h
   rw [<- HN.out]
   have e:iL (List.replicate n 0) = List.replicate n (.int .i64 0):=by simp [iL]
   rw [e]
   have h2:=h.mono (B':=wB.heap.size) (by omega)
   first | exact h2 | (rw [List.toArray_replicate] at h2; exact h2)
  clear zc zc1 zc2
  rintro w2 hcs
  generalize wB.heap.size + 1 = gx at *
  have hbmL:wB.heap.size <= wB.heap.size:=zn
  obtain ⟨bm,hbm⟩:=zx wB.heap.size
  rw [<- hbm] at hcs ⊢
  have HBM:=zh hbm
  have HCS:=zh hcs
  clear hcs hbm hbmL hmm hmk zlt
  go_loopg [23] n (fun gk2 q W => ∃ s:Nat,s <= n /\ gk2 = n - s /\ q = .int .i64 s /\ ClS d cl wB bm gx s W)
  case atStart => exact ⟨0,Nat.zero_le _,rfl,rfl,HCS.out⟩
  case round =>
   clear HCS
   obtain ⟨s,hs,rfl,rfl,hcs⟩:=hrel
   obtain ⟨wS,hwS⟩:=zx wr
   subst hwS
   have HCS:=zh hcs
   clear hcs
   by_cases hsn:s < n
   ·obtain ⟨bf,of,rfl,hbf,hcf⟩:=HFA.out s (by rw [<- HN.out]; exact hsn)
    have hwS:Hid (Below w.heap.size w wS):=HB.out.trans (HCS.out.below.mono HB.out.size)
    rw [<- hwS.out.cell (p:=⟨bf,_,none⟩) hbf] at hcf
    have R1S:=zh (R1.out.below HCS.out.below R1.out.lt)
    have RCS:=zh (RC.out.below HCS.out.below RC.out.lt)
    have CLS:=zh (CL.out.below HCS.out.below zn)
    have y0:=R1S.out.cell
    obtain ⟨fs,hfs⟩:=zx (d.fin s)
    rw [<- hfs] at hcf
    have HFS:=zh hfs; clear hfs hbf
    have hconv:=run_bytes_of_string (P:=Tryz.prog) wS 9 95 5 (boolS fs) zgc eY.under (by kernel_rfl)
    go_upto_region 8 with (go_at_call 82; refine (zm4 fs _).mono ?_; rintro e w3 ⟨rfl,rfl⟩)
    have hsz:(boolS fs).size <= 1000000:=by cases fs <;> decide
    have hgl:=zln wS (boolS fs).size 0 5 hsz
    refine zaa (fun W => RowB wS (wS.heap.size + 1) (fb fs) W) ⟨by go_grown,by omega,_,(Row.lit (by simp)).drew,YT.allocd (YT.made wS wS.heap.size zn (boolS fs) _ (fb fs) (by cases fs <;> rfl) hgl.1 hgl.2) _⟩ ?_
    clear hconv y0 hcf hsz hgl
    rintro w4 hrb
    have hgr:=hrb.lo
    generalize wS.heap.size + 1 = gr at *
    have HRB:=zh hrb
    have NOTE:=zh (fun t ht bs hbs W h => zrb wS gr (w.heap.size + 1) n (.slice (some ⟨gk,0,none⟩) n n) cl RCS.out CLS.out.n1 t ht h64 (HCR.out.lt t) bs hbs W h)
    have hfl:(fb fs).length <= 99990:=by cases fs <;> decide
    clear hrb
    go_upto_region 10 with (go_at_call 83; refine (NOTE.out s hsn (fb fs) hfl _ HRB.out).mono ?_; rintro e w5 ⟨rfl,hrb5⟩; have HRB5:=zh hrb5; clear hrb5)
    have hb0:Hid (RowB wS gr (d.rowX cl s 0 0) w5):=by rw [Hid,d.rowX_zero,<- HFS.out]; exact HRB5.out
    have yc:=(RCS.out.below HRB5.out.below RCS.out.lt).cell
    clear HRB HRB5
    go_wp2
    clear yc hfl hgr
    go_loopg [39] n (fun gk3 qq W => ∃ q:Nat,q <= n /\ gk3 = n - q /\ qq = .int .i64 q /\ RowB wS gr (d.rowX cl s q 0) W)
    case atStart => exact ⟨0,Nat.zero_le _,rfl,rfl,hb0.out⟩
    case round =>
     clear hb0
     obtain ⟨q,hq,rfl,rfl,hrb⟩:=hrel
     obtain ⟨wQ,hwQ⟩:=zx wr
     subst hwQ
     have HRB:=zh hrb
     clear hrb
     by_cases hqn:q < n
     ·obtain ⟨b2,o2,c2,b1,o1,c1,hb3,c0,hB1,hb2,d0,hC1,hb1,f0⟩:=HAT.out s q (by rw [<- HN.out]; exact hsn) (by rw [<- HN.out]; exact hqn)
      obtain ⟨b2',o2',c2',b1',o1',c1',_,c0',hB1',hb2',d0',hC1',hb1',f0'⟩:=HAT.out q s (by rw [<- HN.out]; exact hqn) (by rw [<- HN.out]; exact hsn)
      rw [<- HN.out] at c0 c0' hB1 hB1'
      rw [<- HL.out] at d0 d0' hC1 hC1' f0 f0'
      have KC:=zh (fun W (h:Below wS.heap.size wS W) => (show W.cell? ⟨b3,o3 + s,none⟩ = _ /\ W.cell? ⟨b2,o2 + q,none⟩ = _ /\ W.cell? ⟨b3,o3 + q,none⟩ = _ /\ W.cell? ⟨b2',o2' + s,none⟩ = _ /\ (∀ x,x < L -> W.cell? ⟨b1,o1 + x,none⟩ = _) /\ (∀ x,x < L -> W.cell? ⟨b1',o1' + x,none⟩ = _) /\ (∀ i,W.cell? ⟨w.heap.size,i,none⟩ = _) from by
       have hw:=hwS.out.trans (h.mono hwS.out.size)
       exact ⟨(hw.cell (p:=⟨b3,_,none⟩) hb3).trans c0,(hw.cell (p:=⟨b2,_,none⟩) hb2).trans d0,(hw.cell (p:=⟨b3,_,none⟩) hb3).trans c0',(hw.cell (p:=⟨b2',_,none⟩) hb2').trans d0',fun x hx => (hw.cell (p:=⟨b1,_,none⟩) hb1).trans (f0 x hx),fun x hx => (hw.cell (p:=⟨b1',_,none⟩) hb1').trans (f0' x hx),(R1S.out.below h R1S.out.lt).cell⟩))
      clear c0 c0' d0 d0' f0 f0' hb3 hb2 hb2' hb1 hb1'
      obtain ⟨p0,p1,_,_,_,_,p2⟩:=KC.out wQ HRB.out.below
      go_wp2
      clear p0 p1 p2
      go_loopg [51] L (fun gk4 xx W => ∃ x:Nat,x <= L /\ gk4 = L - x /\ xx = .int .i64 x /\ RowB wS gr (d.rowX cl s q x) W)
      case atStart => exact ⟨0,Nat.zero_le _,rfl,rfl,HRB.out⟩
      case round =>
       clear HRB
       obtain ⟨x,hx,rfl,rfl,hrb⟩:=hrel
       obtain ⟨wX,hwX⟩:=zx wr
       subst hwX
       have HRB:=zh hrb
       clear hrb
       by_cases hxl:x < L
       ·obtain ⟨p0,p1,p2,p3,p4,p5,p6⟩:=KC.out wX HRB.out.below
        have p4':=p4 x hxl
        clear p4 p5
        have ht1:d.nx s q x < n:=by rw [HN.out]; exact HOK.out.hn _ _ _ (by rw [<- HN.out]; exact hsn) (by rw [<- HN.out]; exact hqn) (by rw [<- HL.out]; exact hxl)
        have ht2:d.nx q s x < n:=by rw [HN.out]; exact HOK.out.hn _ _ _ (by rw [<- HN.out]; exact hqn) (by rw [<- HN.out]; exact hsn) (by rw [<- HL.out]; exact hxl)
        have HLEN:Hid ((d.rowX cl s q x).length <= 5000):=d.rowX_len cl s q x (by omega) (by rw [<- HL.out]; exact hL8) (by omega)
        have HSUC:=zh (d.rowX_succ cl s q x)
        obtain ⟨t1,h1⟩:=zx (d.nx s q x)
        obtain ⟨t2,h2⟩:=zx (d.nx q s x)
        rw [<- h1] at p4' ht1
        rw [<- h2] at ht2
        have H1:=zh h1; have H2:=zh h2
        clear h1 h2
        go_wp2_with (first
         | (go_at_call 83; refine (NOTE.out t1 ht1 _ (by have:=HLEN.out; omega) _ HRB.out).mono ?_; rintro e w5 ⟨rfl,hrb5⟩; have HRB5:=zh hrb5; obtain ⟨q0,q1,q2,q3,q4,q5,q6⟩:=KC.out w5 hrb5.below; have q5':=(q5 x hxl); rw [<- H2.out] at q5'; clear hrb5 q4 q5)
         | (go_at_call 83; refine (NOTE.out t2 ht2 _ (by have:=HLEN.out; rw [List.length_append]; simp [nb]; omega) _ HRB5.out).mono ?_; rintro e w6 ⟨rfl,hrb6⟩; have HRB6:=zh hrb6; clear hrb6))
        go_roundg (L - (x + 1))
        case rel => exact ⟨x + 1,by omega,rfl,by go_num,by rw [HSUC.out,<- H1.out,<- H2.out]; exact HRB6.out⟩
        case measure => omega
       ·have hxe:x = L:=by omega
        have hrb:=HRB.out
        rw [hxe,HL.out,d.rowX_next] at hrb
        have HRB2:=zh hrb
        clear hrb hxe
        go_wp2
        go_roundg (n - (q + 1))
        case rel => exact ⟨q + 1,by omega,rfl,by go_num,HRB2.out⟩
        case measure => omega
     ·have hqe:q = n:=by omega
      have hrb:=HRB.out
      rw [hqe,HN.out,d.rowX_full] at hrb
      have hlen:(encB (d.row cl s)).length <= 5000:=by
       have:=d.rowX_len cl s d.n 0 (by rw [<- HN.out]; exact h64) (by rw [<- HL.out]; exact hL8) (by omega)
       rwa [d.rowX_full] at this
      obtain ⟨rv,hrr,hyt⟩:=hrb.ro
      obtain ⟨mb,hmb⟩:=zx ((encB (d.row cl s)).length)
      obtain ⟨gq,capq,rfl⟩:=hyt.formN hmb.symm
      have hstr:=zie wQ _ _ _ hyt
      have hkey:=key_row (encB (d.row cl s)) (by omega)
      have hkeep:=HCS.out.keep (hrb.below)
      obtain ⟨nl,hn1,hn2,hn3⟩:=hkeep.nx
      have z0:=hrr.cell
      have HKEY:Hid (keyOf Tryz.prog 9 (.string (zho (encB (d.row cl s)))) = some (Lit.string (gB (d.row cl s)))):=hkey
      have HSTR:Hid ((convert 95 9 (.slice (some ⟨gq,0,none⟩) mb capq)).run Tryz.prog wQ = .ok (.string (zho (encB (d.row cl s)))) wQ):=hstr
      have HK:=zh hkeep
      obtain ⟨g3,cap3,cs3,he3,hg3,hrow3,_,_,hcell3⟩:=VO.row hn1 (by rw [zad,hn2,<- HN.out]; omega)
      simp only [Value.slice.injEq,Option.some.injEq,Addr.mk.injEq,and_true,true_and] at he3
      obtain ⟨rfl,-⟩:=he3
      obtain ⟨u3,hcs3⟩:∃ u3,cs3[s]? = some u3:=by
       refine ⟨(iL nl)[s]'(by rw [zad,hn2,<- HN.out]; exact hsn),?_⟩
       rw [<- hrow3.cell s]
       exact hcell3 s _ (List.getElem?_eq_getElem _)
      have R3:=zh hrow3; have HC3:=zh hcs3
      have hdn:s < d.n:=by rw [<- HN.out]; exact hsn
      have H256:=zh HCR.out.lt
      have hstr':=HSTR.out
      clear hstr hkey hkeep hn1 hn2 hn3 hrow3 hcell3 hcs3 hrr hyt hmb hrb hlen hqe
      by_cases hmem:d.row cl s ∈ d.KS cl s
      ·obtain ⟨e1,e2⟩:=d.KB_hit cl H256.out hdn hmem
       have HM:=zh ((d.KB_mem cl H256.out s).2 hmem)
       obtain ⟨K,hK⟩:=zx (d.next cl s)
       rw [<- hK] at e1
       have E1:=zh e1; have E2:=zh e2; have HKK:=zh hK
       clear e1 e2 hmem hK
       have z1:=(R3.out.cell s).trans HC3.out; have z2:=R3.out.free s
       go_wp2_with (at_lookup; refine zcq zgx rfl (.tmp 83) (.tmp 85) _ rfl zcb rfl HK.out.nm (gB (d.row cl s)) HM.out K E1.out _ rfl HKEY.out ?_)
       go_roundg (n - (s + 1))
       case rel => exact ⟨s + 1,by omega,rfl,by go_num,by rw [HKK.out]; exact HK.out.store hdn (by rw [E2.out]; exact HK.out.nm) (World.grownBy.refl _ _)⟩
       case measure => omega
      ·obtain ⟨e1,e2⟩:=d.KB_miss cl hdn hmem
       have HM:=zh (fun h => hmem ((d.KB_mem cl H256.out s).1 h))
       have hkl:=d.KB_len cl (s:=s)
       obtain ⟨K,hK⟩:=zx (d.next cl s)
       rw [<- hK] at e1
       have E1:=zh e1; have E2:=zh e2; have HKK:=zh hK; have HKL:=zh hkl
       clear e1 e2 hmem hK hkl
       go_wp2_with (first
        | (at_lookup; refine zbo zgx rfl (.tmp 83) (.tmp 85) _ rfl zcb rfl HK.out.nm (gB (d.row cl s)) HM.out _ rfl HKEY.out ?_)
        | (at_len; refine zbp rfl (.tmp 91) _ rfl zcb rfl HK.out.nm K E1.out ?_)
        | (at_mapUpdate; refine zaw kl_str zgx rfl (.tmp 93) (.tmp 95) (.tmp 96) _ (.inl rfl) zcb rfl HK.out.nm (by have:=HKL.out; have:=HN.out; omega) (gB (d.row cl s)) HM.out _ rfl HKEY.out (by rw [E1.out]; rfl) ?_; intro w7 hm7 hg7; have HM7:=zh hm7; have HG7:=zh hg7; have z1:=((R3.out.grown hg7 (fun e => HK.out.nm.ne_row R3.out (Option.some.inj e).symm)).cell s).trans HC3.out; have z2:=(R3.out.grown hg7 (fun e => HK.out.nm.ne_row R3.out (Option.some.inj e).symm)).free s; clear hm7 hg7))
       go_roundg (n - (s + 1))
       case rel => exact ⟨s + 1,by omega,rfl,by go_num,by rw [HKK.out]; exact HK.out.store hdn (by rw [E2.out]; exact HM7.out) HG7.out⟩
       case measure => omega
   ·have hse:s = n:=by omega
    have hcs:=HCS.out
    rw [hse,HN.out] at hcs
    have hdone:=hcs.done
    have hcnt:=d.KB_count cl
    rw [<- HN.out] at hdone
    have hnm:=hcs.nm
    obtain ⟨K,hK⟩:=zx (d.count cl)
    rw [<- hK] at hcnt
    have HD:=zh hdone; have HCN:=zh hcnt; have HNM:=zh hnm; have HKK:=zh hK
    have RCS:=zh (RC.out.below hcs.below RC.out.lt)
    have R1S:=zh (R1.out.below hcs.below R1.out.lt)
    have HBS:Hid (Below w.heap.size w wS):=HB.out.trans (hcs.below.mono HB.out.size)
    have hwB:=HB.out.size
    have y0:=RCS.out.cell; have y1:=RCS.out.free
    clear hcs hse hdone hcnt hnm hK HCS
    by_cases hkm:K = many
    ·have hkm':((K:Int) == many) = true:=by rw [hkm]; simp
     have hcl:=HCR.out.stop (by rw [<- HKK.out]; exact hkm)
     have HCL:=zh hcl
     clear hcl hkm
     go_wp2_with (at_len; refine zbp rfl (.tmp 102) _ rfl zcb rfl HNM.out K HCN.out ?_)
     refine zah (fun W => Row W (w.heap.size + 1) 36 #[.slice (some ⟨gx,0,none⟩) n n] /\ O1 W w.heap.size (.slice (some ⟨gx,0,none⟩) n n) (oI ((List.range n).map (d.next cl))) /\ Below w.heap.size w W) ⟨RCS.out.set 0 _,(HD.out.mono hwB).setRow RCS.out (by decide) 0 _,HBS.out.setCell (p:=⟨w.heap.size + 1,0,none⟩) (by simp) _⟩ ?_
     clear y0 y1
     rintro W5 ⟨r0,hT,hb⟩
     have q0:=r0.cell 0
     simp only [List.getElem?_toArray,List.getElem?_cons_zero,List.getElem?_cons_succ] at q0
     have HT:=zh hT; have HB5:=zh hb
     clear r0 hT hb
     exact bodyPost_ret (v:=.tuple #[.slice (some ⟨gx,0,none⟩) n n,.int .i64 (many:Int)]) (by simp [results,Tryz.results38,go_sem,q0]) rfl ⟨.slice (some ⟨gx,0,none⟩) n n,by rw [HCL.out],HB5.out,by rw [HCL.out]; exact HT.out⟩
    ·have hkm':((K:Int) == many) = false:=by rw [beq_eq_false_iff_ne]; omega
     obtain ⟨k,hk1,hk2⟩:=HCR.out.go (by rw [<- HN.out]; exact h64) (by rw [<- HKK.out]; exact hkm)
     rw [<- HKK.out] at hk2
     have HK2:=zh hk2; have HK1:=zh hk1
     clear hk1 hk2 hkm
     go_wp2_with (first | (at_len; refine zbp rfl (.tmp 102) _ rfl zcb rfl HNM.out K HCN.out ?_) | (at_len; refine zbp rfl (.tmp 109) _ rfl zcb rfl HNM.out K HCN.out ?_))
     go_roundg k
     case rel => exact ⟨_,K,gx,rfl,HK2.out,HBS.out.setCell (p:=⟨w.heap.size + 1,0,none⟩) (by simp) _,R1S.out.far (by simp) _,RCS.out.set 0 _,(HD.out.mono hwB).setRow RCS.out (by decide) 0 _⟩
     case measure => have:=HK1.out; omega
end Go.Proofs.YthdabkmkgkkmcaaGreatDoor
