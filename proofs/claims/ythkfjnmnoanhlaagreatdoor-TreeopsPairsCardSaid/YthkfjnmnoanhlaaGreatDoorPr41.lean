/- Part 41 of the proof; it says: lemmas and contracts. No conditions but those that each theorem states. -/
import Derived.BigRegion
import Derived.Deep.RegionHeld3
import Derived.Test.YthkfjnmnoanhlaaGreatDoorPr01
import Derived.Test.YthkfjnmnoanhlaaGreatDoorPr02
import Derived.Test.YthkfjnmnoanhlaaGreatDoorPr25
import Derived.Test.YthkfjnmnoanhlaaGreatDoorPr34
import Derived.Test.YthkfjnmnoanhlaaGreatDoorPr35
import Derived.Test.YthkfjnmnoanhlaaGreatDoorPr40
set_option linter.unusedSimpArgs false
set_option linter.unusedVariables false
namespace Go.Proofs.YthkfjnmnoanhlaaGreatDoor
open Go.RowKit
def inAny (ra rb:Raw):List Lf × Bool × Nat :=
 if (opAny ra rb fun p q => p && !q).2 ≠ 0 then ([],false,(opAny ra rb fun p q => p && !q).2)
 else if (smAny (opAny ra rb fun p q => p && !q).1).2.2 ≠ 0 then ([],false,(smAny (opAny ra rb fun p q => p && !q).1).2.2)
 else ((smAny (opAny ra rb fun p q => p && !q).1).1,!(smAny (opAny ra rb fun p q => p && !q).1).2.1,0)
theorem zim (r:Raw) (h:(smAny r).2.2 ≠ 0):(smAny r).1 = []:=by
 unfold smAny at h ⊢
 split
 ·rfl
 ·rename_i h0
  rw [if_neg h0] at h
  unfold zas at h ⊢
  split
  ·rfl
  ·rename_i h1
   rw [if_neg h1] at h
   cases hs:zb2 r.dta.mini with
   | none => rfl
   | some t => rw [hs] at h; exact absurd rfl h
theorem Raw.Low.small {r:Raw} (h:r.Low):Small r:=⟨h.n,h.f⟩
theorem zoz (ra rb:Raw):(inAny ra rb).1.length <= 31:=by
 unfold inAny
 split
 ·simp
 ·split
  ·simp
  ·exact zm5 _
theorem zjo (ra rb:Raw) (va vb:Value) (w:World) (hva:TD w va ra) (hvb:TD w vb rb) (hsa:Small ra) (hsb:Small rb) :
  Calls Tryz.prog 30 #[va,vb] w (RetSm w (inAny ra rb)):=by
 obtain ⟨m,hm⟩:=zx (opAny ra rb fun p q => p && !q)
 have hpr:∀ W,Below w.heap.size w W -> Calls Tryz.prog 35 #[va,vb] W (RetR W m.1 m.2):=fun W hb => by rw [hm]; exact zjl ra rb va vb W (hva.below hb zn) (hvb.below hb zn) hsa hsb
 have hlow:m.1.Low:=by rw [hm]; exact zdc ra rb _
 unfold inAny
 rw [<- hm]
 by_cases h0:m.2 = 0
 ·rw [if_neg (by omega)]
  rw [h0] at hpr
  have hsm:=fun v W (h:TD W v m.1) => zji m.1 v W h hlow.small
  obtain ⟨s,hs⟩:=zx (smAny m.1)
  have he:=zim m.1
  rw [<- hs] at hsm he ⊢
  by_cases h1:s.2.2 = 0
  ·rw [if_neg (by omega)]
   exact zif ra rb m.1 s.1 s.2.1 va vb w hva hvb hpr (fun v W h => by have q:=hsm v W h; rw [show s = (s.1,s.2.1,0) from by rw [<- h1]] at q; exact q)
  ·rw [if_pos h1]
   exact zjm ra rb m.1 s.2.1 va vb w hva hvb hpr s.2.2 h1 (fun v W h => by have q:=hsm v W h; rw [show s = ([],s.2.1,s.2.2) from by rw [<- he h1]] at q; exact q)
 ·rw [if_pos h0]
  exact zjn ra rb m.1 m.2 va vb w hva hvb hpr h0
theorem zgv (ra rb:Raw) (va vb:Value) (w:World) (hva:TD w va ra) (hvb:TD w vb rb) (hsa:Small ra) (hsb:Small rb) :
  Calls Tryz.prog 37 #[va,vb] w (RetSm w (inAny ra rb)):=by
 obtain ⟨m,hm⟩:=zx (opAny ra rb fun p q => p && !q)
 have hpr:∀ W,Below w.heap.size w W -> Calls Tryz.prog 36 #[va,vb] W (RetR W m.1 m.2):=fun W hb => by rw [hm]; exact zf2 ra rb va vb W (hva.below hb zn) (hvb.below hb zn) hsa hsb
 have hlow:m.1.Low:=by rw [hm]; exact zdc ra rb _
 unfold inAny
 rw [<- hm]
 by_cases h0:m.2 = 0
 ·rw [if_neg (by omega)]
  rw [h0] at hpr
  have hsm:=fun v W (h:TD W v m.1) => zgr m.1 v W h hlow.small
  obtain ⟨s,hs⟩:=zx (smAny m.1)
  have he:=zim m.1
  rw [<- hs] at hsm he ⊢
  by_cases h1:s.2.2 = 0
  ·rw [if_neg (by omega)]
   exact zgb ra rb m.1 s.1 s.2.1 va vb w hva hvb hpr (fun v W h => by have q:=hsm v W h; rw [show s = (s.1,s.2.1,0) from by rw [<- h1]] at q; exact q)
  ·rw [if_pos h1]
   exact zgt ra rb m.1 s.2.1 va vb w hva hvb hpr s.2.2 h1 (fun v W h => by have q:=hsm v W h; rw [show s = ([],s.2.1,s.2.2) from by rw [<- he h1]] at q; exact q)
 ·rw [if_pos h0]
  exact zgu ra rb m.1 m.2 va vb w hva hvb hpr h0
structure PrJ (w:World) (gp gq gx gy:Nat) (ra rb FA FB:Raw) (pV qV xV yV:Array Value) (W:World):Prop where
 below:Below w.heap.size w W
 bp:Row W gp 25 pV
 bq:Row W gq 25 qV
 bx:Row W gx 25 xV
 by':Row W gy 25 yV
 tp:TD W (.agg pV) ra
 tq:TD W (.agg qV) rb
 tx:TD W (.agg xV) FA
 ty:TD W (.agg yV) FB
theorem PrJ.to {w W X:World} {gp gq gx gy:Nat} {ra rb FA FB:Raw} {pV qV xV yV:Array Value} (h:PrJ w gp gq gx gy ra rb FA FB pV qV xV yV W) (hb:Below W.heap.size W X):PrJ w gp gq gx gy ra rb FA FB pV qV xV yV X :=
 ⟨h.below.trans (hb.mono h.below.size),h.bp.below hb h.bp.lt,h.bq.below hb h.bq.lt,h.bx.below hb h.bx.lt,h.by'.below hb h.by'.lt,h.tp.below hb zn,h.tq.below hb zn,h.tx.below hb zn,h.ty.below hb zn⟩
set_option maxRecDepth 100000 in
set_option maxHeartbeats 16000000 in
theorem znx (haw:CAwk) (rp rq:Raw) (vp vq:Value) (w:World) (hvp:TD w vp rp) (hvq:TD w vq rq) :
  Calls Tryz.prog 5 #[vp,vq] w fun e w' => e = .returned (.bool true) /\ Below w.heap.size w w':=by
 obtain ⟨FA,hFA⟩:=zx (fewR rp)
 obtain ⟨FB,hFB⟩:=zx (fewR rq)
 have hsa:Small FA:=by rw [hFA]; exact zhb rp
 have hsb:Small FB:=by rw [hFB]; exact zhb rq
 have LFA:=zh (show FA.Low by rw [hFA]; exact zlq rp)
 have LFB:=zh (show FB.Low by rw [hFB]; exact zlq rq)
 have CFA:=zh fun W v (h:TD W v rp) => (show Calls Tryz.prog 13 #[v] W fun e w' => ∃ v',e = .returned v' /\ Below W.heap.size W w' /\ TDO w' W.heap.size v' FA from by rw [hFA]; exact zo7 rp v W h)
 have CFB:=zh fun W v (h:TD W v rq) => (show Calls Tryz.prog 13 #[v] W fun e w' => ∃ v',e = .returned v' /\ Below W.heap.size W w' /\ TDO w' W.heap.size v' FB from by rw [hFB]; exact zo7 rq v W h)
 obtain ⟨Ra,hRa⟩:=zx ((opAny FA FB fun p q => p && q).1)
 obtain ⟨ka,hka⟩:=zx ((opAny FA FB fun p q => p && q).2)
 have La:=zh (show Ra.Low by rw [hRa]; exact zdc FA FB _)
 have Ca:=zh fun W v u (h:TD W v FA) (h2:TD W u FB) => (show Calls Tryz.prog 31 #[v,u] W (RetR W Ra ka) from by rw [hRa,hka]; exact And_any FA FB v u W h h2 hsa hsb)
 have Cb:=zh fun W v u (h:TD W v FA) (h2:TD W u FB) => (show Calls Tryz.prog 32 #[v,u] W (RetR W Ra ka) from by rw [hRa,hka]; exact zpx FA FB v u W h h2 hsa hsb)
 obtain ⟨Rc,hRc⟩:=zx ((opAny FA FB fun p q => p || q).1)
 obtain ⟨kc,hkc⟩:=zx ((opAny FA FB fun p q => p || q).2)
 have Lc:=zh (show Rc.Low by rw [hRc]; exact zdc FA FB _)
 have Cc:=zh fun W v u (h:TD W v FA) (h2:TD W u FB) => (show Calls Tryz.prog 33 #[v,u] W (RetR W Rc kc) from by rw [hRc,hkc]; exact Or_any FA FB v u W h h2 hsa hsb)
 have Cd:=zh fun W v u (h:TD W v FA) (h2:TD W u FB) => (show Calls Tryz.prog 34 #[v,u] W (RetR W Rc kc) from by rw [hRc,hkc]; exact zqp FA FB v u W h h2 hsa hsb)
 obtain ⟨Rm,hRm⟩:=zx ((opAny FA FB fun p q => p && !q).1)
 obtain ⟨km,hkm⟩:=zx ((opAny FA FB fun p q => p && !q).2)
 have Lm:=zh (show Rm.Low by rw [hRm]; exact zdc FA FB _)
 have Cm:=zh fun W v u (h:TD W v FA) (h2:TD W u FB) => (show Calls Tryz.prog 35 #[v,u] W (RetR W Rm km) from by rw [hRm,hkm]; exact zjl FA FB v u W h h2 hsa hsb)
 have Cn:=zh fun W v u (h:TD W v FA) (h2:TD W u FB) => (show Calls Tryz.prog 36 #[v,u] W (RetR W Rm km) from by rw [hRm,hkm]; exact zf2 FA FB v u W h h2 hsa hsb)
 obtain ⟨RS,hRS⟩:=zx (inAny FA FB)
 have lRS:RS.1.length <= 31:=by rw [hRS]; exact zoz FA FB
 have CI1:=zh fun W v u (h:TD W v FA) (h2:TD W u FB) => (show Calls Tryz.prog 30 #[v,u] W (RetSm W RS) from by rw [hRS]; exact zjo FA FB v u W h h2 hsa hsb)
 have CI2:=zh fun W v u (h:TD W v FA) (h2:TD W u FB) => (show Calls Tryz.prog 37 #[v,u] W (RetSm W RS) from by rw [hRS]; exact zgv FA FB v u W h h2 hsa hsb)
 have CEQ:=zh fun W r v u (hl:Raw.Low r) (h1:TD W v r) (h2:TD W u r) => (show Calls Tryz.prog 18 #[v,u] W fun e w' => e = .returned (.bool true) /\ Below W.heap.size W w' from by have q:=zpa r r v u W h1 h2 hl; rw [zlr] at q; exact q)
 have CET:=zh fun W v u (h1:TS W v RS.1) (h2:TS W u RS.1) => (show Calls Tryz.prog 25 #[v,u] W fun e w' => e = .returned (.bool true) /\ Below W.heap.size W w' from by have q:=zo9 RS.1 RS.1 v u W h1 h2 (by omega); rw [decide_eq_true rfl] at q; exact q)
 have AWK:=zh haw
 clear hFA hFB hRa hka hRc hkc hRm hkm hRS lRS hsa hsb haw
 obtain ⟨A0,c0,B0,d0,rfl⟩:=hvp.form
 obtain ⟨E0,e0,G0,g0,rfl⟩:=hvq.form
 have HVP:=zh hvp; have HVQ:=zh hvq
 clear hvp hvq
 obtain ⟨j1,h1⟩:=zx rp.vars
 obtain ⟨j2,h2⟩:=zx rp.empty
 obtain ⟨j3,h3⟩:=zx rp.next.length
 obtain ⟨j4,h4⟩:=zx rp.fin.length
 rw [<- h1,<- h2,<- h3,<- h4] at HVP ⊢
 clear h1 h2 h3 h4
 obtain ⟨k1,h1⟩:=zx rq.vars
 obtain ⟨k2,h2⟩:=zx rq.empty
 obtain ⟨k3,h3⟩:=zx rq.next.length
 obtain ⟨k4,h4⟩:=zx rq.fin.length
 rw [<- h1,<- h2,<- h3,<- h4] at HVQ ⊢
 clear h1 h2 h3 h4
 go_enter Tryz.func5,Tryz.ntmps5
 go_upto_region 1 with fail
 refine zab (fun X => ∃ gp gq,gp = w.heap.size /\ gq = w.heap.size + 1 /\ Below w.heap.size w X /\ Row X gp 25 #[.int .i64 j1,.int .i64 j2,.slice A0 j3 c0,.slice B0 j4 d0] /\ Row X gq 25 #[.int .i64 k1,.int .i64 k2,.slice E0 k3 e0,.slice G0 k4 g0]) ⟨_,_,rfl,rfl,by go_grown,(Row.new _ _ _).alloc _,Row.lit (by simp)⟩ ?_
 rintro W0 ⟨gp,gq,hgp,hgq,hb,hd,hn⟩
 rw [<- hgq,<- hgp]
 clear hgp hgq
 have HB:=zh hb; have RP:=zh hd; have RQ:=zh hn
 clear hb hd hn
 go_cut [5,6] from 26 to 29 (fun u5 u6 wx => ∃ gx gy i1 i2 A1 i3 c1 B1 i4 d1 l1 l2 E1 l3 e1 G1 l4 g1,u5 = .pointer (some ⟨gx,0,none⟩) /\ u6 = .pointer (some ⟨gy,0,none⟩) /\ PrJ w gp gq gx gy rp rq FA FB #[.int .i64 j1,.int .i64 j2,.slice A0 j3 c0,.slice B0 j4 d0] #[.int .i64 k1,.int .i64 k2,.slice E0 k3 e0,.slice G0 k4 g0] #[.int .i64 i1,.int .i64 i2,.slice A1 i3 c1,.slice B1 i4 d1] #[.int .i64 l1,.int .i64 l2,.slice E1 l3 e1,.slice G1 l4 g1] wx)
 case first =>
  refine zbk (by kernel_rfl) (by kernel_rfl) [26,28,27,29,5,6] [undef,undef,undef,undef,undef,undef] ?_ ?_ (fun f vs W => ∃ xa xb ra' rb' pa pb,vs = [xa,xb,ra',rb',pa,pb] /\ TwoF w W0.heap.size FA FB gp gq #[.int .i64 j1,.int .i64 j2,.slice A0 j3 c0,.slice B0 j4 d0] #[.int .i64 k1,.int .i64 k2,.slice E0 k3 e0,.slice G0 k4 g0] (.agg #[.int .i64 j1,.int .i64 j2,.slice A0 j3 c0,.slice B0 j4 d0]) (.agg #[.int .i64 k1,.int .i64 k2,.slice E0 k3 e0,.slice G0 k4 g0]) (f 0) (f 2) (f 1) (f 3) (f 4) (f 5) (f 6) (f 7) xa xb ra' rb' pa pb W) ?_ ?_ ?_
  ·rfl
  ·simp only [putS,zp]
  ·exact ⟨_,_,_,_,_,_,rfl,HB.out.size,zn,RP.out.lt,RQ.out.lt,HB.out.drew,RP.out.drew,RQ.out.drew,by simp,by simp,by simp,by simp,by simp,by simp,by simp,by simp,by simp⟩
  ·refine zah.cons ?_ (zah.cons ?_ (zah.cons ?_ (zah.cons ?_ (zah.cons ?_ (zah.cons ?_ (zah.cons ?_ (zah.cons ?_ zah.nil)))))))
   ·rintro f vs W hl hf hd ⟨xa,xb,ra,rb,pa,pb,rfl,hJ⟩ K hK
    have y0:=hJ.hrp.cell
    have HJ:=zh hJ
    clear hJ
    simp only [putS,zp]
    go_simp
    have hz:=hK.out [_,xb,ra,rb,pa,pb] W rfl ⟨_,_,_,_,_,_,rfl,HJ.out.loadA⟩
    simp only [putS,zp] at hz
    exact hz
   ·rintro f vs W hl hf hd ⟨xa,xb,ra,rb,pa,pb,rfl,hJ⟩ K hK
    have e0:=hJ.hxa (zao hd 0 (by kernel_rfl))
    subst e0
    have HJ:=zh hJ
    clear hJ
    simp only [putS,zp]
    go_simp
    go_at_call 13
    refine (CFA.out W _ (HVP.out.below HJ.out.below zn)).mono ?_
    rintro e wx ⟨v,rfl,hb,hs⟩
    have hz:=hK.out [_,xb,_,rb,pa,pb] wx rfl ⟨_,_,_,_,_,_,rfl,HJ.out.callA hb hs hf⟩
    simp only [putS,zp] at hz
    exact hz
   ·rintro f vs W hl hf hd ⟨xa,xb,ra,rb,pa,pb,rfl,hJ⟩ K hK
    have y0:=hJ.hrq.cell
    have HJ:=zh hJ
    clear hJ
    simp only [putS,zp]
    go_simp
    have hz:=hK.out [xa,_,ra,rb,pa,pb] W rfl ⟨_,_,_,_,_,_,rfl,HJ.out.loadB⟩
    simp only [putS,zp] at hz
    exact hz
   ·rintro f vs W hl hf hd ⟨xa,xb,ra,rb,pa,pb,rfl,hJ⟩ K hK
    have e0:=hJ.hxb (zao hd 2 (by kernel_rfl))
    subst e0
    have HJ:=zh hJ
    clear hJ
    simp only [putS,zp]
    go_simp
    go_at_call 13
    refine (CFB.out W _ (HVQ.out.below HJ.out.below zn)).mono ?_
    rintro e wx ⟨v,rfl,hb,hs⟩
    have hz:=hK.out [xa,_,ra,_,pa,pb] wx rfl ⟨_,_,_,_,_,_,rfl,HJ.out.callB hb hs hf⟩
    simp only [putS,zp] at hz
    exact hz
   ·rintro f vs W hl hf hd ⟨xa,xb,ra,rb,pa,pb,rfl,hJ⟩ K hK
    have HJ:=zh hJ
    clear hJ
    simp only [putS,zp]
    go_simp
    have hz:=hK.out [xa,xb,ra,rb,_,pb] (W.alloc (.cells #[.int .i64 0,.int .i64 0,.slice none 0 0,.slice none 0 0] 25)) rfl ⟨_,_,_,_,_,_,rfl,HJ.out.allocA hf⟩
    simp only [putS,zp] at hz
    exact hz
   ·rintro f vs W hl hf hd ⟨xa,xb,ra,rb,pa,pb,rfl,hJ⟩ K hK
    have HJ:=zh hJ
    clear hJ
    simp only [putS,zp]
    go_simp
    have hz:=hK.out [xa,xb,ra,rb,pa,_] (W.alloc (.cells #[.int .i64 0,.int .i64 0,.slice none 0 0,.slice none 0 0] 25)) rfl ⟨_,_,_,_,_,_,rfl,HJ.out.allocB hf⟩
    simp only [putS,zp] at hz
    exact hz
   ·rintro f vs W hl hf hd ⟨xa,xb,ra,rb,pa,pb,rfl,hJ⟩ K hK
    have d1:f 4 = true:=zao hd 4 (by kernel_rfl)
    have d2:f 1 = true:=zao hd 1 (by kernel_rfl)
    revert hK
    generalize hgen:(Shut _ -> _) = G
    obtain ⟨g,x0,x1,x2,x3,rfl,hg1,hg2,_⟩:=hJ.hpa d1
    have hto:=hJ.hra d2
    obtain ⟨i,j,A,n,c,A',m,d,rfl⟩:=hto.shape
    subst hgen
    intro hK
    have y0:=hg2.cell; have y1:=hg2.free; have y2:=hg2.lt
    have q0:=y0 0; have q1:=y0 1; have q2:=y0 2; have q3:=y0 3
    simp only [zg] at q0 q1 q2 q3
    clear y0
    have HJ:=zh hJ; have HD1:=zh d1; have HD2:=zh d2
    clear hJ hto hg1 d1 d2
    simp only [putS,zp]
    go_simp
    have hz:=hK.out [xa,xb,_,rb,_,pb] (set4 W g (.int .i64 i) (.int .i64 j) (.slice A n c) (.slice A' m d)) rfl ⟨_,_,_,_,_,_,rfl,HJ.out.storeA HD1.out HD2.out rfl rfl⟩
    simp only [putS,zp] at hz
    unfold set4 at hz
    exact hz
   ·rintro f vs W hl hf hd ⟨xa,xb,ra,rb,pa,pb,rfl,hJ⟩ K hK
    have d1:f 5 = true:=zao hd 5 (by kernel_rfl)
    have d2:f 3 = true:=zao hd 3 (by kernel_rfl)
    revert hK
    generalize hgen:(Shut _ -> _) = G
    obtain ⟨g,x0,x1,x2,x3,rfl,hg1,hg2,_⟩:=hJ.hpb d1
    have hto:=hJ.hrb d2
    obtain ⟨i,j,A,n,c,A',m,d,rfl⟩:=hto.shape
    subst hgen
    intro hK
    have y0:=hg2.cell; have y1:=hg2.free; have y2:=hg2.lt
    have q0:=y0 0; have q1:=y0 1; have q2:=y0 2; have q3:=y0 3
    simp only [zg] at q0 q1 q2 q3
    clear y0
    have HJ:=zh hJ; have HD1:=zh d1; have HD2:=zh d2
    clear hJ hto hg1 d1 d2
    simp only [putS,zp]
    go_simp
    have hz:=hK.out [xa,xb,ra,_,pa,_] (set4 W g (.int .i64 i) (.int .i64 j) (.slice A n c) (.slice A' m d)) rfl ⟨_,_,_,_,_,_,rfl,HJ.out.storeB HD1.out HD2.out rfl rfl⟩
    simp only [putS,zp] at hz
    unfold set4 at hz
    exact hz
  ·rintro f vs W hl hall ⟨xa,xb,ra',rb',pa,pb,rfl,hJ⟩
   obtain ⟨x,x0,x1,x2,x3,rfl,_,hx,hxs⟩:=hJ.hpa (hall 4 (by decide))
   obtain ⟨y,y0,y1,y2,y3,rfl,_,hy,hys⟩:=hJ.hpb (hall 5 (by decide))
   have ht:=hJ.hra (hall 1 (by decide))
   have hu:=hJ.hrb (hall 3 (by decide))
   have hx2:=hxs (hall 6 (by decide)); have hy2:=hys (hall 7 (by decide))
   obtain ⟨A1,c1,B1,d1,rfl⟩:=ht.td.form
   obtain ⟨A2,c2,B2,d2,rfl⟩:=hu.td.form
   simp only [Value.agg.injEq,Array.mk.injEq,List.cons.injEq,and_true] at hx2 hy2
   obtain ⟨rfl,rfl,rfl,rfl⟩:=hx2
   obtain ⟨rfl,rfl,rfl,rfl⟩:=hy2
   have HF:=zh (show PrJ w gp gq x y rp rq FA FB #[.int .i64 j1,.int .i64 j2,.slice A0 j3 c0,.slice B0 j4 d0] #[.int .i64 k1,.int .i64 k2,.slice E0 k3 e0,.slice G0 k4 g0] _ _ W from ⟨hJ.below,hJ.hrp,hJ.hrq,hx,hy,HVP.out.below hJ.below zn,HVQ.out.below hJ.below zn,ht.td,hu.td⟩)
   clear hJ hx hy ht hu hxs hys
   simp only [putS,zp]
   go_wp2
   go_meet
   exact ⟨x,y,_,_,_,_,_,_,_,_,_,_,_,_,_,_,_,_,rfl,rfl,HF.out⟩
 case rest =>
  obtain ⟨gx,gy,i1,i2,A1,i3,c1,B1,i4,d1,l1,l2,E1,l3,e1,G1,l4,g1,rfl,rfl,hm⟩:=hcut
  clear HB RP RQ HVP HVQ
  have HM:=zh hm
  clear hm
  go_wp2
  go_loopg [7] 2 (fun gk q7 wr => ∃ z:Nat,z <= 2 /\ gk = 2 - z /\ q7 = .int .i64 z /\ PrJ w gp gq gx gy rp rq FA FB #[.int .i64 j1,.int .i64 j2,.slice A0 j3 c0,.slice B0 j4 d0] #[.int .i64 k1,.int .i64 k2,.slice E0 k3 e0,.slice G0 k4 g0] #[.int .i64 i1,.int .i64 i2,.slice A1 i3 c1,.slice B1 i4 d1] #[.int .i64 l1,.int .i64 l2,.slice E1 l3 e1,.slice G1 l4 g1] wr)
  case atStart => exact ⟨0,by omega,rfl,rfl,HM.out⟩
  case round =>
   clear HM
   obtain ⟨z,hz,rfl,rfl,hm⟩:=hrel
   have HM:=zh hm
   clear hm
   by_cases hlt:z < 2
   ·have hlti:(z:Int) < 2:=by omega
    obtain ⟨W,hW⟩:=zx wr
    subst hW
    have HB:=zh (Below.refl W.heap.size W)
    have HMS:=zh HM.out
    have y0:=HM.out.bx.cell; have y1:=HM.out.by'.cell
    go_upto_region 6 with (go_at_call 31; refine (Ca.out _ _ _ HM.out.tx HM.out.ty).mono ?_; intro e wx hx; obtain ⟨Aa,ca,Ba,da,rfl,hb,ht⟩:=hx.openO; have HX:=zh (show Below W.heap.size W wx from hb); have HT:=zh ht; clear hx hb ht)
    clear y0 y1
    refine zab (fun X1 => (Below W.heap.size W X1) /\ (PrJ w gp gq gx gy rp rq FA FB #[.int .i64 j1,.int .i64 j2,.slice A0 j3 c0,.slice B0 j4 d0] #[.int .i64 k1,.int .i64 k2,.slice E0 k3 e0,.slice G0 k4 g0] #[.int .i64 i1,.int .i64 i2,.slice A1 i3 c1,.slice B1 i4 d1] #[.int .i64 l1,.int .i64 l2,.slice E1 l3 e1,.slice G1 l4 g1] X1) /\ (∃ g,g = wx.heap.size /\ Row X1 g 25 #[.int .i64 Ra.vars,.int .i64 Ra.empty,.slice Aa Ra.next.length ca,.slice Ba Ra.fin.length da] /\ TDO X1 W.heap.size (.agg #[.int .i64 Ra.vars,.int .i64 Ra.empty,.slice Aa Ra.next.length ca,.slice Ba Ra.fin.length da]) Ra)) ⟨HB.out.trans ((HX.out.alloc HX.out.size _).mono HB.out.size),HM.out.to (HX.out.alloc HX.out.size _),_,rfl,Row.new _ _ _,(HT.out.mono HB.out.size).below (Below.alloc (Below.refl _ _) zn _) zn⟩ ?_
    clear HX HT
    rintro X1 ⟨hw,hm,ga,hg,ra,ta⟩
    rw [<- hg]
    clear hg
    replace HB:=zh hw; replace HM:=zh hm; have Ra':=zh ra; have Ta':=zh ta
    clear hw hm ra ta
    have y0:=HM.out.bx.cell; have y1:=HM.out.by'.cell
    go_upto_region 7 with (go_at_call 32; refine (Cb.out _ _ _ HM.out.tx HM.out.ty).mono ?_; intro e wx hx; obtain ⟨Ab,cb,Bb,db,rfl,hb,ht⟩:=hx.openO; have HX:=zh (show Below X1.heap.size X1 wx from hb); have HT:=zh ht; clear hx hb ht)
    clear y0 y1
    refine zab (fun X2 => (Below W.heap.size W X2) /\ (PrJ w gp gq gx gy rp rq FA FB #[.int .i64 j1,.int .i64 j2,.slice A0 j3 c0,.slice B0 j4 d0] #[.int .i64 k1,.int .i64 k2,.slice E0 k3 e0,.slice G0 k4 g0] #[.int .i64 i1,.int .i64 i2,.slice A1 i3 c1,.slice B1 i4 d1] #[.int .i64 l1,.int .i64 l2,.slice E1 l3 e1,.slice G1 l4 g1] X2) /\ (Row X2 ga 25 #[.int .i64 Ra.vars,.int .i64 Ra.empty,.slice Aa Ra.next.length ca,.slice Ba Ra.fin.length da] /\ TDO X2 W.heap.size (.agg #[.int .i64 Ra.vars,.int .i64 Ra.empty,.slice Aa Ra.next.length ca,.slice Ba Ra.fin.length da]) Ra) /\ (∃ g,g = wx.heap.size /\ Row X2 g 25 #[.int .i64 Ra.vars,.int .i64 Ra.empty,.slice Ab Ra.next.length cb,.slice Bb Ra.fin.length db] /\ TDO X2 W.heap.size (.agg #[.int .i64 Ra.vars,.int .i64 Ra.empty,.slice Ab Ra.next.length cb,.slice Bb Ra.fin.length db]) Ra)) ⟨HB.out.trans ((HX.out.alloc HX.out.size _).mono HB.out.size),HM.out.to (HX.out.alloc HX.out.size _),⟨Ra'.out.below (HX.out.alloc HX.out.size _) Ra'.out.lt,Ta'.out.below (HX.out.alloc HX.out.size _) zn⟩,_,rfl,Row.new _ _ _,(HT.out.mono HB.out.size).below (Below.alloc (Below.refl _ _) zn _) zn⟩ ?_
    clear HX HT
    rintro X2 ⟨hw,hm,⟨ra,ta⟩,gb,hg,rb,tb⟩
    rw [<- hg]
    clear hg
    replace HB:=zh hw; replace HM:=zh hm; replace Ra':=zh ra; replace Ta':=zh ta; have Rb':=zh rb; have Tb':=zh tb
    clear hw hm ra ta rb tb
    have y0:=HM.out.bx.cell; have y1:=HM.out.by'.cell
    go_upto_region 8 with (go_at_call 33; refine (Cc.out _ _ _ HM.out.tx HM.out.ty).mono ?_; intro e wx hx; obtain ⟨Ac,cc,Bc,dc,rfl,hb,ht⟩:=hx.openO; have HX:=zh (show Below X2.heap.size X2 wx from hb); have HT:=zh ht; clear hx hb ht)
    clear y0 y1
    refine zab (fun X3 => (Below W.heap.size W X3) /\ (PrJ w gp gq gx gy rp rq FA FB #[.int .i64 j1,.int .i64 j2,.slice A0 j3 c0,.slice B0 j4 d0] #[.int .i64 k1,.int .i64 k2,.slice E0 k3 e0,.slice G0 k4 g0] #[.int .i64 i1,.int .i64 i2,.slice A1 i3 c1,.slice B1 i4 d1] #[.int .i64 l1,.int .i64 l2,.slice E1 l3 e1,.slice G1 l4 g1] X3) /\ (Row X3 ga 25 #[.int .i64 Ra.vars,.int .i64 Ra.empty,.slice Aa Ra.next.length ca,.slice Ba Ra.fin.length da] /\ TDO X3 W.heap.size (.agg #[.int .i64 Ra.vars,.int .i64 Ra.empty,.slice Aa Ra.next.length ca,.slice Ba Ra.fin.length da]) Ra) /\ (Row X3 gb 25 #[.int .i64 Ra.vars,.int .i64 Ra.empty,.slice Ab Ra.next.length cb,.slice Bb Ra.fin.length db] /\ TDO X3 W.heap.size (.agg #[.int .i64 Ra.vars,.int .i64 Ra.empty,.slice Ab Ra.next.length cb,.slice Bb Ra.fin.length db]) Ra) /\ (∃ g,g = wx.heap.size /\ Row X3 g 25 #[.int .i64 Rc.vars,.int .i64 Rc.empty,.slice Ac Rc.next.length cc,.slice Bc Rc.fin.length dc] /\ TDO X3 W.heap.size (.agg #[.int .i64 Rc.vars,.int .i64 Rc.empty,.slice Ac Rc.next.length cc,.slice Bc Rc.fin.length dc]) Rc)) ⟨HB.out.trans ((HX.out.alloc HX.out.size _).mono HB.out.size),HM.out.to (HX.out.alloc HX.out.size _),⟨Ra'.out.below (HX.out.alloc HX.out.size _) Ra'.out.lt,Ta'.out.below (HX.out.alloc HX.out.size _) zn⟩,⟨Rb'.out.below (HX.out.alloc HX.out.size _) Rb'.out.lt,Tb'.out.below (HX.out.alloc HX.out.size _) zn⟩,_,rfl,Row.new _ _ _,(HT.out.mono HB.out.size).below (Below.alloc (Below.refl _ _) zn _) zn⟩ ?_
    clear HX HT
    rintro X3 ⟨hw,hm,⟨ra,ta⟩,⟨rb,tb⟩,gc,hg,rc,tc⟩
    rw [<- hg]
    clear hg
    replace HB:=zh hw; replace HM:=zh hm; replace Ra':=zh ra; replace Ta':=zh ta; replace Rb':=zh rb; replace Tb':=zh tb; have Rc':=zh rc; have Tc':=zh tc
    clear hw hm ra ta rb tb rc tc
    have y0:=HM.out.bx.cell; have y1:=HM.out.by'.cell
    go_upto_region 9 with (go_at_call 34; refine (Cd.out _ _ _ HM.out.tx HM.out.ty).mono ?_; intro e wx hx; obtain ⟨Ad,cd,Bd,dd,rfl,hb,ht⟩:=hx.openO; have HX:=zh (show Below X3.heap.size X3 wx from hb); have HT:=zh ht; clear hx hb ht)
    clear y0 y1
    refine zab (fun X4 => (Below W.heap.size W X4) /\ (PrJ w gp gq gx gy rp rq FA FB #[.int .i64 j1,.int .i64 j2,.slice A0 j3 c0,.slice B0 j4 d0] #[.int .i64 k1,.int .i64 k2,.slice E0 k3 e0,.slice G0 k4 g0] #[.int .i64 i1,.int .i64 i2,.slice A1 i3 c1,.slice B1 i4 d1] #[.int .i64 l1,.int .i64 l2,.slice E1 l3 e1,.slice G1 l4 g1] X4) /\ (Row X4 ga 25 #[.int .i64 Ra.vars,.int .i64 Ra.empty,.slice Aa Ra.next.length ca,.slice Ba Ra.fin.length da] /\ TDO X4 W.heap.size (.agg #[.int .i64 Ra.vars,.int .i64 Ra.empty,.slice Aa Ra.next.length ca,.slice Ba Ra.fin.length da]) Ra) /\ (Row X4 gb 25 #[.int .i64 Ra.vars,.int .i64 Ra.empty,.slice Ab Ra.next.length cb,.slice Bb Ra.fin.length db] /\ TDO X4 W.heap.size (.agg #[.int .i64 Ra.vars,.int .i64 Ra.empty,.slice Ab Ra.next.length cb,.slice Bb Ra.fin.length db]) Ra) /\ (Row X4 gc 25 #[.int .i64 Rc.vars,.int .i64 Rc.empty,.slice Ac Rc.next.length cc,.slice Bc Rc.fin.length dc] /\ TDO X4 W.heap.size (.agg #[.int .i64 Rc.vars,.int .i64 Rc.empty,.slice Ac Rc.next.length cc,.slice Bc Rc.fin.length dc]) Rc) /\ (∃ g,g = wx.heap.size /\ Row X4 g 25 #[.int .i64 Rc.vars,.int .i64 Rc.empty,.slice Ad Rc.next.length cd,.slice Bd Rc.fin.length dd] /\ TDO X4 W.heap.size (.agg #[.int .i64 Rc.vars,.int .i64 Rc.empty,.slice Ad Rc.next.length cd,.slice Bd Rc.fin.length dd]) Rc)) ⟨HB.out.trans ((HX.out.alloc HX.out.size _).mono HB.out.size),HM.out.to (HX.out.alloc HX.out.size _),⟨Ra'.out.below (HX.out.alloc HX.out.size _) Ra'.out.lt,Ta'.out.below (HX.out.alloc HX.out.size _) zn⟩,⟨Rb'.out.below (HX.out.alloc HX.out.size _) Rb'.out.lt,Tb'.out.below (HX.out.alloc HX.out.size _) zn⟩,⟨Rc'.out.below (HX.out.alloc HX.out.size _) Rc'.out.lt,Tc'.out.below (HX.out.alloc HX.out.size _) zn⟩,_,rfl,Row.new _ _ _,(HT.out.mono HB.out.size).below (Below.alloc (Below.refl _ _) zn _) zn⟩ ?_
    clear HX HT
    rintro X4 ⟨hw,hm,⟨ra,ta⟩,⟨rb,tb⟩,⟨rc,tc⟩,gd,hg,rd,td⟩
    rw [<- hg]
    clear hg
    replace HB:=zh hw; replace HM:=zh hm; replace Ra':=zh ra; replace Ta':=zh ta; replace Rb':=zh rb; replace Tb':=zh tb; replace Rc':=zh rc; replace Tc':=zh tc; have Rd':=zh rd; have Td':=zh td
    clear hw hm ra ta rb tb rc tc rd td
    have y0:=HM.out.bx.cell; have y1:=HM.out.by'.cell
    go_upto_region 10 with (go_at_call 35; refine (Cm.out _ _ _ HM.out.tx HM.out.ty).mono ?_; intro e wx hx; obtain ⟨Am,cm,Bm,dm,rfl,hb,ht⟩:=hx.openO; have HX:=zh (show Below X4.heap.size X4 wx from hb); have HT:=zh ht; clear hx hb ht)
    clear y0 y1
    refine zab (fun X5 => (Below W.heap.size W X5) /\ (PrJ w gp gq gx gy rp rq FA FB #[.int .i64 j1,.int .i64 j2,.slice A0 j3 c0,.slice B0 j4 d0] #[.int .i64 k1,.int .i64 k2,.slice E0 k3 e0,.slice G0 k4 g0] #[.int .i64 i1,.int .i64 i2,.slice A1 i3 c1,.slice B1 i4 d1] #[.int .i64 l1,.int .i64 l2,.slice E1 l3 e1,.slice G1 l4 g1] X5) /\ (Row X5 ga 25 #[.int .i64 Ra.vars,.int .i64 Ra.empty,.slice Aa Ra.next.length ca,.slice Ba Ra.fin.length da] /\ TDO X5 W.heap.size (.agg #[.int .i64 Ra.vars,.int .i64 Ra.empty,.slice Aa Ra.next.length ca,.slice Ba Ra.fin.length da]) Ra) /\ (Row X5 gb 25 #[.int .i64 Ra.vars,.int .i64 Ra.empty,.slice Ab Ra.next.length cb,.slice Bb Ra.fin.length db] /\ TDO X5 W.heap.size (.agg #[.int .i64 Ra.vars,.int .i64 Ra.empty,.slice Ab Ra.next.length cb,.slice Bb Ra.fin.length db]) Ra) /\ (Row X5 gc 25 #[.int .i64 Rc.vars,.int .i64 Rc.empty,.slice Ac Rc.next.length cc,.slice Bc Rc.fin.length dc] /\ TDO X5 W.heap.size (.agg #[.int .i64 Rc.vars,.int .i64 Rc.empty,.slice Ac Rc.next.length cc,.slice Bc Rc.fin.length dc]) Rc) /\ (Row X5 gd 25 #[.int .i64 Rc.vars,.int .i64 Rc.empty,.slice Ad Rc.next.length cd,.slice Bd Rc.fin.length dd] /\ TDO X5 W.heap.size (.agg #[.int .i64 Rc.vars,.int .i64 Rc.empty,.slice Ad Rc.next.length cd,.slice Bd Rc.fin.length dd]) Rc) /\ (∃ g,g = wx.heap.size /\ Row X5 g 25 #[.int .i64 Rm.vars,.int .i64 Rm.empty,.slice Am Rm.next.length cm,.slice Bm Rm.fin.length dm] /\ TDO X5 W.heap.size (.agg #[.int .i64 Rm.vars,.int .i64 Rm.empty,.slice Am Rm.next.length cm,.slice Bm Rm.fin.length dm]) Rm)) ⟨HB.out.trans ((HX.out.alloc HX.out.size _).mono HB.out.size),HM.out.to (HX.out.alloc HX.out.size _),⟨Ra'.out.below (HX.out.alloc HX.out.size _) Ra'.out.lt,Ta'.out.below (HX.out.alloc HX.out.size _) zn⟩,⟨Rb'.out.below (HX.out.alloc HX.out.size _) Rb'.out.lt,Tb'.out.below (HX.out.alloc HX.out.size _) zn⟩,⟨Rc'.out.below (HX.out.alloc HX.out.size _) Rc'.out.lt,Tc'.out.below (HX.out.alloc HX.out.size _) zn⟩,⟨Rd'.out.below (HX.out.alloc HX.out.size _) Rd'.out.lt,Td'.out.below (HX.out.alloc HX.out.size _) zn⟩,_,rfl,Row.new _ _ _,(HT.out.mono HB.out.size).below (Below.alloc (Below.refl _ _) zn _) zn⟩ ?_
    clear HX HT
    rintro X5 ⟨hw,hm,⟨ra,ta⟩,⟨rb,tb⟩,⟨rc,tc⟩,⟨rd,td⟩,gm,hg,rm,tm⟩
    rw [<- hg]
    clear hg
    replace HB:=zh hw; replace HM:=zh hm; replace Ra':=zh ra; replace Ta':=zh ta; replace Rb':=zh rb; replace Tb':=zh tb; replace Rc':=zh rc; replace Tc':=zh tc; replace Rd':=zh rd; replace Td':=zh td; have Rm':=zh rm; have Tm':=zh tm
    clear hw hm ra ta rb tb rc tc rd td rm tm
    have y0:=HM.out.bx.cell; have y1:=HM.out.by'.cell
    go_upto_region 11 with (go_at_call 36; refine (Cn.out _ _ _ HM.out.tx HM.out.ty).mono ?_; intro e wx hx; obtain ⟨An,cn,Bn,dn,rfl,hb,ht⟩:=hx.openO; have HX:=zh (show Below X5.heap.size X5 wx from hb); have HT:=zh ht; clear hx hb ht)
    clear y0 y1
    refine zab (fun X6 => (Below W.heap.size W X6) /\ (PrJ w gp gq gx gy rp rq FA FB #[.int .i64 j1,.int .i64 j2,.slice A0 j3 c0,.slice B0 j4 d0] #[.int .i64 k1,.int .i64 k2,.slice E0 k3 e0,.slice G0 k4 g0] #[.int .i64 i1,.int .i64 i2,.slice A1 i3 c1,.slice B1 i4 d1] #[.int .i64 l1,.int .i64 l2,.slice E1 l3 e1,.slice G1 l4 g1] X6) /\ (Row X6 ga 25 #[.int .i64 Ra.vars,.int .i64 Ra.empty,.slice Aa Ra.next.length ca,.slice Ba Ra.fin.length da] /\ TDO X6 W.heap.size (.agg #[.int .i64 Ra.vars,.int .i64 Ra.empty,.slice Aa Ra.next.length ca,.slice Ba Ra.fin.length da]) Ra) /\ (Row X6 gb 25 #[.int .i64 Ra.vars,.int .i64 Ra.empty,.slice Ab Ra.next.length cb,.slice Bb Ra.fin.length db] /\ TDO X6 W.heap.size (.agg #[.int .i64 Ra.vars,.int .i64 Ra.empty,.slice Ab Ra.next.length cb,.slice Bb Ra.fin.length db]) Ra) /\ (Row X6 gc 25 #[.int .i64 Rc.vars,.int .i64 Rc.empty,.slice Ac Rc.next.length cc,.slice Bc Rc.fin.length dc] /\ TDO X6 W.heap.size (.agg #[.int .i64 Rc.vars,.int .i64 Rc.empty,.slice Ac Rc.next.length cc,.slice Bc Rc.fin.length dc]) Rc) /\ (Row X6 gd 25 #[.int .i64 Rc.vars,.int .i64 Rc.empty,.slice Ad Rc.next.length cd,.slice Bd Rc.fin.length dd] /\ TDO X6 W.heap.size (.agg #[.int .i64 Rc.vars,.int .i64 Rc.empty,.slice Ad Rc.next.length cd,.slice Bd Rc.fin.length dd]) Rc) /\ (Row X6 gm 25 #[.int .i64 Rm.vars,.int .i64 Rm.empty,.slice Am Rm.next.length cm,.slice Bm Rm.fin.length dm] /\ TDO X6 W.heap.size (.agg #[.int .i64 Rm.vars,.int .i64 Rm.empty,.slice Am Rm.next.length cm,.slice Bm Rm.fin.length dm]) Rm) /\ (∃ g,g = wx.heap.size /\ Row X6 g 25 #[.int .i64 Rm.vars,.int .i64 Rm.empty,.slice An Rm.next.length cn,.slice Bn Rm.fin.length dn] /\ TDO X6 W.heap.size (.agg #[.int .i64 Rm.vars,.int .i64 Rm.empty,.slice An Rm.next.length cn,.slice Bn Rm.fin.length dn]) Rm)) ⟨HB.out.trans ((HX.out.alloc HX.out.size _).mono HB.out.size),HM.out.to (HX.out.alloc HX.out.size _),⟨Ra'.out.below (HX.out.alloc HX.out.size _) Ra'.out.lt,Ta'.out.below (HX.out.alloc HX.out.size _) zn⟩,⟨Rb'.out.below (HX.out.alloc HX.out.size _) Rb'.out.lt,Tb'.out.below (HX.out.alloc HX.out.size _) zn⟩,⟨Rc'.out.below (HX.out.alloc HX.out.size _) Rc'.out.lt,Tc'.out.below (HX.out.alloc HX.out.size _) zn⟩,⟨Rd'.out.below (HX.out.alloc HX.out.size _) Rd'.out.lt,Td'.out.below (HX.out.alloc HX.out.size _) zn⟩,⟨Rm'.out.below (HX.out.alloc HX.out.size _) Rm'.out.lt,Tm'.out.below (HX.out.alloc HX.out.size _) zn⟩,_,rfl,Row.new _ _ _,(HT.out.mono HB.out.size).below (Below.alloc (Below.refl _ _) zn _) zn⟩ ?_
    clear HX HT
    rintro X6 ⟨hw,hm,⟨ra,ta⟩,⟨rb,tb⟩,⟨rc,tc⟩,⟨rd,td⟩,⟨rm,tm⟩,gn,hg,rn,tn⟩
    rw [<- hg]
    clear hg
    replace HB:=zh hw; replace HM:=zh hm; replace Ra':=zh ra; replace Ta':=zh ta; replace Rb':=zh rb; replace Tb':=zh tb; replace Rc':=zh rc; replace Tc':=zh tc; replace Rd':=zh rd; replace Td':=zh td; replace Rm':=zh rm; replace Tm':=zh tm; have Rn':=zh rn; have Tn':=zh tn
    clear hw hm ra ta rb tb rc tc rd td rm tm rn tn
    have y0:=HM.out.bx.cell; have y1:=HM.out.by'.cell
    go_upto_region 12 with (go_at_call 30; refine (CI1.out _ _ _ HM.out.tx HM.out.ty).mono ?_; intro e wt hx; obtain ⟨At,ct,rfl,hb,ht⟩:=hx.openO; have HTt:=zh (ht.mono HB.out.size); replace HM:=zh (HM.out.to hb); replace Ra':=zh (Ra'.out.below hb Ra'.out.lt); replace Ta':=zh (Ta'.out.below hb zn); replace Rb':=zh (Rb'.out.below hb Rb'.out.lt); replace Tb':=zh (Tb'.out.below hb zn); replace Rc':=zh (Rc'.out.below hb Rc'.out.lt); replace Tc':=zh (Tc'.out.below hb zn); replace Rd':=zh (Rd'.out.below hb Rd'.out.lt); replace Td':=zh (Td'.out.below hb zn); replace Rm':=zh (Rm'.out.below hb Rm'.out.lt); replace Tm':=zh (Tm'.out.below hb zn); replace Rn':=zh (Rn'.out.below hb Rn'.out.lt); replace Tn':=zh (Tn'.out.below hb zn); replace HB:=zh (HB.out.trans (hb.mono HB.out.size)); clear hx hb ht)
    clear y0 y1
    have y0:=HM.out.bx.cell; have y1:=HM.out.by'.cell
    go_upto_region 13 with (go_at_call 37; refine (CI2.out _ _ _ HM.out.tx HM.out.ty).mono ?_; intro e wu hx; obtain ⟨Au,cu,rfl,hb,ht⟩:=hx.openO; have HTu:=zh (ht.mono HB.out.size); replace HM:=zh (HM.out.to hb); replace Ra':=zh (Ra'.out.below hb Ra'.out.lt); replace Ta':=zh (Ta'.out.below hb zn); replace Rb':=zh (Rb'.out.below hb Rb'.out.lt); replace Tb':=zh (Tb'.out.below hb zn); replace Rc':=zh (Rc'.out.below hb Rc'.out.lt); replace Tc':=zh (Tc'.out.below hb zn); replace Rd':=zh (Rd'.out.below hb Rd'.out.lt); replace Td':=zh (Td'.out.below hb zn); replace Rm':=zh (Rm'.out.below hb Rm'.out.lt); replace Tm':=zh (Tm'.out.below hb zn); replace Rn':=zh (Rn'.out.below hb Rn'.out.lt); replace Tn':=zh (Tn'.out.below hb zn); replace HTt:=zh (HTt.out.below hb zn); replace HB:=zh (HB.out.trans (hb.mono HB.out.size)); clear hx hb ht)
    clear y0 y1
    have hks:(((RS.2.2:Nat):Int) != ((RS.2.2:Nat):Int)) = false:=by simp
    have hka:((ka:Int) != (ka:Int)) = false:=by simp
    have hkc:((kc:Int) != (kc:Int)) = false:=by simp
    have hkm:((km:Int) != (km:Int)) = false:=by simp
    have hb1:(RS.2.1 != RS.2.1) = false:=by simp
    obtain ⟨Wq,hWq⟩:=zx wu
    subst hWq
    have HSX:Hid (∀ X,Below Wq.heap.size Wq X -> X.cell? ⟨gx,0,none⟩ = some (.int .i64 i1) /\ X.cell? ⟨gx,1,none⟩ = some (.int .i64 i2) /\ X.cell? ⟨gx,2,none⟩ = some (.slice A1 i3 c1) /\ X.cell? ⟨gx,3,none⟩ = some (.slice B1 i4 d1) /\ X.cell? ⟨gy,0,none⟩ = some (.int .i64 l1) /\ X.cell? ⟨gy,1,none⟩ = some (.int .i64 l2) /\ X.cell? ⟨gy,2,none⟩ = some (.slice E1 l3 e1) /\ X.cell? ⟨gy,3,none⟩ = some (.slice G1 l4 g1) /\ X.cell? ⟨gp,0,none⟩ = some (.int .i64 j1) /\ X.cell? ⟨gp,1,none⟩ = some (.int .i64 j2) /\ X.cell? ⟨gp,2,none⟩ = some (.slice A0 j3 c0) /\ X.cell? ⟨gp,3,none⟩ = some (.slice B0 j4 d0) /\ X.cell? ⟨gq,0,none⟩ = some (.int .i64 k1) /\ X.cell? ⟨gq,1,none⟩ = some (.int .i64 k2) /\ X.cell? ⟨gq,2,none⟩ = some (.slice E0 k3 e0) /\ X.cell? ⟨gq,3,none⟩ = some (.slice G0 k4 g0) /\ X.cell? ⟨ga,0,none⟩ = some (.int .i64 Ra.vars) /\ X.cell? ⟨ga,1,none⟩ = some (.int .i64 Ra.empty) /\ X.cell? ⟨ga,2,none⟩ = some (.slice Aa Ra.next.length ca) /\ X.cell? ⟨ga,3,none⟩ = some (.slice Ba Ra.fin.length da) /\ X.cell? ⟨gb,0,none⟩ = some (.int .i64 Ra.vars) /\ X.cell? ⟨gb,1,none⟩ = some (.int .i64 Ra.empty) /\ X.cell? ⟨gb,2,none⟩ = some (.slice Ab Ra.next.length cb) /\ X.cell? ⟨gb,3,none⟩ = some (.slice Bb Ra.fin.length db) /\ X.cell? ⟨gc,0,none⟩ = some (.int .i64 Rc.vars) /\ X.cell? ⟨gc,1,none⟩ = some (.int .i64 Rc.empty) /\ X.cell? ⟨gc,2,none⟩ = some (.slice Ac Rc.next.length cc) /\ X.cell? ⟨gc,3,none⟩ = some (.slice Bc Rc.fin.length dc) /\ X.cell? ⟨gd,0,none⟩ = some (.int .i64 Rc.vars) /\ X.cell? ⟨gd,1,none⟩ = some (.int .i64 Rc.empty) /\ X.cell? ⟨gd,2,none⟩ = some (.slice Ad Rc.next.length cd) /\ X.cell? ⟨gd,3,none⟩ = some (.slice Bd Rc.fin.length dd) /\ X.cell? ⟨gm,0,none⟩ = some (.int .i64 Rm.vars) /\ X.cell? ⟨gm,1,none⟩ = some (.int .i64 Rm.empty) /\ X.cell? ⟨gm,2,none⟩ = some (.slice Am Rm.next.length cm) /\ X.cell? ⟨gm,3,none⟩ = some (.slice Bm Rm.fin.length dm) /\ X.cell? ⟨gn,0,none⟩ = some (.int .i64 Rm.vars) /\ X.cell? ⟨gn,1,none⟩ = some (.int .i64 Rm.empty) /\ X.cell? ⟨gn,2,none⟩ = some (.slice An Rm.next.length cn) /\ X.cell? ⟨gn,3,none⟩ = some (.slice Bn Rm.fin.length dn)):=by
     intro X hX
     have h1:=(HM.out.to hX).bx.cell; have h2:=(HM.out.to hX).by'.cell; have h3:=(HM.out.to hX).bp.cell; have h4:=(HM.out.to hX).bq.cell; have h5:=(Ra'.out.below hX Ra'.out.lt).cell; have h6:=(Rb'.out.below hX Rb'.out.lt).cell; have h7:=(Rc'.out.below hX Rc'.out.lt).cell; have h8:=(Rd'.out.below hX Rd'.out.lt).cell; have h9:=(Rm'.out.below hX Rm'.out.lt).cell; have h10:=(Rn'.out.below hX Rn'.out.lt).cell
     exact ⟨(h1 0).trans rfl,(h1 1).trans rfl,(h1 2).trans rfl,(h1 3).trans rfl,(h2 0).trans rfl,(h2 1).trans rfl,(h2 2).trans rfl,(h2 3).trans rfl,(h3 0).trans rfl,(h3 1).trans rfl,(h3 2).trans rfl,(h3 3).trans rfl,(h4 0).trans rfl,(h4 1).trans rfl,(h4 2).trans rfl,(h4 3).trans rfl,(h5 0).trans rfl,(h5 1).trans rfl,(h5 2).trans rfl,(h5 3).trans rfl,(h6 0).trans rfl,(h6 1).trans rfl,(h6 2).trans rfl,(h6 3).trans rfl,(h7 0).trans rfl,(h7 1).trans rfl,(h7 2).trans rfl,(h7 3).trans rfl,(h8 0).trans rfl,(h8 1).trans rfl,(h8 2).trans rfl,(h8 3).trans rfl,(h9 0).trans rfl,(h9 1).trans rfl,(h9 2).trans rfl,(h9 3).trans rfl,(h10 0).trans rfl,(h10 1).trans rfl,(h10 2).trans rfl,(h10 3).trans rfl⟩
    refine wp_region_held_drew (S:=(fun X => X.cell? ⟨gx,0,none⟩ = some (.int .i64 i1) /\ X.cell? ⟨gx,1,none⟩ = some (.int .i64 i2) /\ X.cell? ⟨gx,2,none⟩ = some (.slice A1 i3 c1) /\ X.cell? ⟨gx,3,none⟩ = some (.slice B1 i4 d1) /\ X.cell? ⟨gy,0,none⟩ = some (.int .i64 l1) /\ X.cell? ⟨gy,1,none⟩ = some (.int .i64 l2) /\ X.cell? ⟨gy,2,none⟩ = some (.slice E1 l3 e1) /\ X.cell? ⟨gy,3,none⟩ = some (.slice G1 l4 g1) /\ X.cell? ⟨gp,0,none⟩ = some (.int .i64 j1) /\ X.cell? ⟨gp,1,none⟩ = some (.int .i64 j2) /\ X.cell? ⟨gp,2,none⟩ = some (.slice A0 j3 c0) /\ X.cell? ⟨gp,3,none⟩ = some (.slice B0 j4 d0) /\ X.cell? ⟨gq,0,none⟩ = some (.int .i64 k1) /\ X.cell? ⟨gq,1,none⟩ = some (.int .i64 k2) /\ X.cell? ⟨gq,2,none⟩ = some (.slice E0 k3 e0) /\ X.cell? ⟨gq,3,none⟩ = some (.slice G0 k4 g0) /\ X.cell? ⟨ga,0,none⟩ = some (.int .i64 Ra.vars) /\ X.cell? ⟨ga,1,none⟩ = some (.int .i64 Ra.empty) /\ X.cell? ⟨ga,2,none⟩ = some (.slice Aa Ra.next.length ca) /\ X.cell? ⟨ga,3,none⟩ = some (.slice Ba Ra.fin.length da) /\ X.cell? ⟨gb,0,none⟩ = some (.int .i64 Ra.vars) /\ X.cell? ⟨gb,1,none⟩ = some (.int .i64 Ra.empty) /\ X.cell? ⟨gb,2,none⟩ = some (.slice Ab Ra.next.length cb) /\ X.cell? ⟨gb,3,none⟩ = some (.slice Bb Ra.fin.length db) /\ X.cell? ⟨gc,0,none⟩ = some (.int .i64 Rc.vars) /\ X.cell? ⟨gc,1,none⟩ = some (.int .i64 Rc.empty) /\ X.cell? ⟨gc,2,none⟩ = some (.slice Ac Rc.next.length cc) /\ X.cell? ⟨gc,3,none⟩ = some (.slice Bc Rc.fin.length dc) /\ X.cell? ⟨gd,0,none⟩ = some (.int .i64 Rc.vars) /\ X.cell? ⟨gd,1,none⟩ = some (.int .i64 Rc.empty) /\ X.cell? ⟨gd,2,none⟩ = some (.slice Ad Rc.next.length cd) /\ X.cell? ⟨gd,3,none⟩ = some (.slice Bd Rc.fin.length dd) /\ X.cell? ⟨gm,0,none⟩ = some (.int .i64 Rm.vars) /\ X.cell? ⟨gm,1,none⟩ = some (.int .i64 Rm.empty) /\ X.cell? ⟨gm,2,none⟩ = some (.slice Am Rm.next.length cm) /\ X.cell? ⟨gm,3,none⟩ = some (.slice Bm Rm.fin.length dm) /\ X.cell? ⟨gn,0,none⟩ = some (.int .i64 Rm.vars) /\ X.cell? ⟨gn,1,none⟩ = some (.int .i64 Rm.empty) /\ X.cell? ⟨gn,2,none⟩ = some (.slice An Rm.next.length cn) /\ X.cell? ⟨gn,3,none⟩ = some (.slice Bn Rm.fin.length dn))) (by kernel_rfl) (HSX.out _ (Below.refl _ _).drew) (fun hHeld => ?_)
    have a0:Below Wq.heap.size Wq Wq.drew:=(Below.refl _ _).drew
    refine tk 0 (oi:=⟨some 84,_,_,_,_,_⟩) ?_
    try simp only [zp]
    refine tk 1 (oi:=⟨some 85,_,_,_,_,_⟩) ?_
    try simp only [zp]
    refine wpAnyH_ready (rs:=[2]) (by kernel_rfl) (by simp) ?_
    refine AllReadyH.cons rfl (fun K hK => ?_) AllReadyH.nil
    go_simp
    (go_at_call 18; refine (CEQ.out _ Ra _ _ La.out (Ta'.out.td.below a0 zn) (Tb'.out.td.below a0 zn)).mono ?_; rintro ee wa0 ⟨rfl,hba⟩)
    have a1:Below Wq.heap.size Wq wa0:=a0.trans (hba.mono a0.size)
    refine hK.out _ _ (HSX.out _ a1) (fun hHeld1 => ?_)
    clear hK K hHeld hba
    try simp only [zp]
    refine tk 3 (oi:=⟨some 87,_,_,_,_,_⟩) ?_
    try simp only [zp]
    refine tk 4 (oi:=⟨some 88,_,_,_,_,_⟩) ?_
    try simp only [zp]
    refine tk 5 (oi:=⟨some 89,_,_,_,_,_⟩) ?_
    try simp only [zp]
    refine tk 6 (oi:=⟨some 90,_,_,_,_,_⟩) ?_
    try simp only [zp]
    refine tk 7 (oi:=⟨some 91,_,_,_,_,_⟩) ?_
    try simp only [zp]
    refine tk 8 (oi:=⟨some 92,_,_,_,_,_⟩) ?_
    try simp only [zp]
    refine tk 9 (oi:=⟨some 93,_,_,_,_,_⟩) ?_
    try simp only [zp]
    refine tk 10 (oi:=⟨some 94,_,_,_,_,_⟩) ?_
    try simp only [zp]
    refine tk 11 (oi:=⟨some 95,_,_,_,_,_⟩) ?_
    try simp only [zp]
    refine wpAnyH_ready (rs:=[12]) (by kernel_rfl) (by simp) ?_
    refine AllReadyH.cons rfl (fun K hK => ?_) AllReadyH.nil
    go_simp
    (go_at_call 18; refine (CEQ.out _ Rc _ _ Lc.out (Tc'.out.td.below a1 zn) (Td'.out.td.below a1 zn)).mono ?_; rintro ee wa1 ⟨rfl,hba⟩)
    have a2:Below Wq.heap.size Wq wa1:=a1.trans (hba.mono a1.size)
    refine hK.out _ _ (HSX.out _ a2) (fun hHeld2 => ?_)
    clear hK K hHeld1 hba
    try simp only [zp]
    refine tk 13 (oi:=⟨some 97,_,_,_,_,_⟩) ?_
    try simp only [zp]
    refine tk 14 (oi:=⟨some 98,_,_,_,_,_⟩) ?_
    try simp only [zp]
    refine tk 15 (oi:=⟨some 99,_,_,_,_,_⟩) ?_
    try simp only [zp]
    refine tk 16 (oi:=⟨some 100,_,_,_,_,_⟩) ?_
    try simp only [zp]
    refine tk 17 (oi:=⟨some 101,_,_,_,_,_⟩) ?_
    try simp only [zp]
    refine tk 18 (oi:=⟨some 102,_,_,_,_,_⟩) ?_
    try simp only [zp]
    refine tk 19 (oi:=⟨some 103,_,_,_,_,_⟩) ?_
    try simp only [zp]
    refine tk 20 (oi:=⟨some 104,_,_,_,_,_⟩) ?_
    try simp only [zp]
    refine tk 21 (oi:=⟨some 105,_,_,_,_,_⟩) ?_
    try simp only [zp]
    refine tk 22 (oi:=⟨some 106,_,_,_,_,_⟩) ?_
    try simp only [zp]
    refine wpAnyH_ready (rs:=[23]) (by kernel_rfl) (by simp) ?_
    refine AllReadyH.cons rfl (fun K hK => ?_) AllReadyH.nil
    go_simp
    (go_at_call 18; refine (CEQ.out _ Rm _ _ Lm.out (Tm'.out.td.below a2 zn) (Tn'.out.td.below a2 zn)).mono ?_; rintro ee wa2 ⟨rfl,hba⟩)
    have a3:Below Wq.heap.size Wq wa2:=a2.trans (hba.mono a2.size)
    refine hK.out _ _ (HSX.out _ a3) (fun hHeld3 => ?_)
    clear hK K hHeld2 hba
    try simp only [zp]
    refine tk 24 (oi:=⟨some 108,_,_,_,_,_⟩) ?_
    try simp only [zp]
    refine tk 25 (oi:=⟨some 109,_,_,_,_,_⟩) ?_
    try simp only [zp]
    refine tk 26 (oi:=⟨some 110,_,_,_,_,_⟩) ?_
    try simp only [zp]
    refine tk 27 (oi:=⟨some 111,_,_,_,_,_⟩) ?_
    try simp only [zp]
    refine tk 28 (oi:=⟨some 112,_,_,_,_,_⟩) ?_
    try simp only [zp]
    refine tk 29 (oi:=⟨some 113,_,_,_,_,_⟩) ?_
    try simp only [zp]
    refine tk 30 (oi:=⟨some 114,_,_,_,_,_⟩) ?_
    try simp only [zp]
    refine tk 31 (oi:=⟨some 115,_,_,_,_,_⟩) ?_
    try simp only [zp]
    refine tk 32 (oi:=⟨some 116,_,_,_,_,_⟩) ?_
    try simp only [zp]
    refine tk 33 (oi:=⟨some 117,_,_,_,_,_⟩) ?_
    try simp only [zp]
    refine wpAnyH_ready (rs:=[34]) (by kernel_rfl) (by simp) ?_
    refine AllReadyH.cons rfl (fun K hK => ?_) AllReadyH.nil
    go_simp
    (go_at_call 25; refine (CET.out _ _ _ (HTt.out.ts.below a3 zn) (HTu.out.ts.below a3 zn)).mono ?_; rintro ee wa3 ⟨rfl,hba⟩)
    have a4:Below Wq.heap.size Wq wa3:=a3.trans (hba.mono a3.size)
    refine hK.out _ _ (HSX.out _ a4) (fun hHeld4 => ?_)
    clear hK K hHeld3 hba
    try simp only [zp]
    refine tk 35 (oi:=⟨some 119,_,_,_,_,_⟩) ?_
    try simp only [zp]
    refine tk 36 (oi:=⟨some 120,_,_,_,_,_⟩) ?_
    try simp only [zp]
    refine tk 37 (oi:=⟨some 121,_,_,_,_,_⟩) ?_
    try simp only [zp]
    refine tk 38 (oi:=⟨some 122,_,_,_,_,_⟩) ?_
    try simp only [zp]
    refine tk 39 (oi:=⟨some 123,_,_,_,_,_⟩) ?_
    try simp only [zp]
    refine tk 40 (oi:=⟨some 124,_,_,_,_,_⟩) ?_
    try simp only [zp]
    refine tk 41 (oi:=⟨some 125,_,_,_,_,_⟩) ?_
    try simp only [zp]
    refine tk 42 (oi:=⟨some 126,_,_,_,_,_⟩) ?_
    try simp only [zp]
    refine tk 43 (oi:=⟨some 127,_,_,_,_,_⟩) ?_
    try simp only [zp]
    refine tk 44 (oi:=⟨some 128,_,_,_,_,_⟩) ?_
    try simp only [zp]
    refine tk 45 (oi:=⟨some 129,_,_,_,_,_⟩) ?_
    try simp only [zp]
    refine tk 46 (oi:=⟨some 130,_,_,_,_,_⟩) ?_
    try simp only [zp]
    refine tk 47 (oi:=⟨some 131,_,_,_,_,_⟩) ?_
    try simp only [zp]
    refine tk 48 (oi:=⟨some 132,_,_,_,_,_⟩) ?_
    try simp only [zp]
    refine tk 49 (oi:=⟨some 133,_,_,_,_,_⟩) ?_
    try simp only [zp]
    refine wpAnyH_ready (rs:=[50]) (by kernel_rfl) (by simp) ?_
    refine AllReadyH.cons rfl (fun K hK => ?_) AllReadyH.nil
    go_simp
    (go_at_call 13; refine (CFA.out _ _ (HM.out.to a4).tp).mono ?_; rintro ee wa4 ⟨vb,rfl,hba,htb⟩)
    obtain ⟨A8,c8,B8,d8,rfl⟩:=htb.td.form
    have HT8:=zh htb.td
    clear htb
    have a5:Below Wq.heap.size Wq wa4:=a4.trans (hba.mono a4.size)
    refine hK.out _ _ (HSX.out _ a5) (fun hHeld5 => ?_)
    clear hK K hHeld4 hba
    try simp only [zp]
    refine wpAnyH_ready (rs:=[51]) (by kernel_rfl) (by simp) ?_
    refine AllReadyH.cons rfl (fun K hK => ?_) AllReadyH.nil
    go_simp
    (go_at_call 18; refine (CEQ.out _ FA _ _ LFA.out (HM.out.to a5).tx HT8.out).mono ?_; rintro ee wa5 ⟨rfl,hba⟩)
    have a6:Below Wq.heap.size Wq wa5:=a5.trans (hba.mono a5.size)
    refine hK.out _ _ (HSX.out _ a6) (fun hHeld6 => ?_)
    clear hK K hHeld5 hba HT8
    try simp only [zp]
    refine tk 52 (oi:=⟨some 136,_,_,_,_,_⟩) ?_
    try simp only [zp]
    refine tk 53 (oi:=⟨some 137,_,_,_,_,_⟩) ?_
    try simp only [zp]
    refine tk 54 (oi:=⟨some 138,_,_,_,_,_⟩) ?_
    try simp only [zp]
    refine tk 55 (oi:=⟨some 139,_,_,_,_,_⟩) ?_
    try simp only [zp]
    refine tk 56 (oi:=⟨some 140,_,_,_,_,_⟩) ?_
    try simp only [zp]
    refine wpAnyH_ready (rs:=[57]) (by kernel_rfl) (by simp) ?_
    refine AllReadyH.cons rfl (fun K hK => ?_) AllReadyH.nil
    go_simp
    (go_at_call 13; refine (CFB.out _ _ (HM.out.to a6).tq).mono ?_; rintro ee wa6 ⟨vb,rfl,hba,htb⟩)
    obtain ⟨A8,c8,B8,d8,rfl⟩:=htb.td.form
    have HT8:=zh htb.td
    clear htb
    have a7:Below Wq.heap.size Wq wa6:=a6.trans (hba.mono a6.size)
    refine hK.out _ _ (HSX.out _ a7) (fun hHeld7 => ?_)
    clear hK K hHeld6 hba
    try simp only [zp]
    refine wpAnyH_ready (rs:=[58]) (by kernel_rfl) (by simp) ?_
    refine AllReadyH.cons rfl (fun K hK => ?_) AllReadyH.nil
    go_simp
    (go_at_call 18; refine (CEQ.out _ FB _ _ LFB.out (HM.out.to a7).ty HT8.out).mono ?_; rintro ee wa7 ⟨rfl,hba⟩)
    have a8:Below Wq.heap.size Wq wa7:=a7.trans (hba.mono a7.size)
    refine hK.out _ _ (HSX.out _ a8) (fun hHeld8 => ?_)
    clear hK K hHeld7 hba HT8
    try simp only [zp]
    refine tk 59 (oi:=⟨some 143,_,_,_,_,_⟩) ?_
    try simp only [zp]
    refine tk 60 (oi:=⟨some 144,_,_,_,_,_⟩) ?_
    try simp only [zp]
    refine wpAnyH_done (by kernel_rfl) ?_ _
    clear hHeld8 HSX
    replace HM:=zh (HM.out.to a8); replace Ra':=zh (Ra'.out.below a8 Ra'.out.lt); replace Ta':=zh (Ta'.out.below a8 zn); replace Rc':=zh (Rc'.out.below a8 Rc'.out.lt); replace Tc':=zh (Tc'.out.below a8 zn); replace Rm':=zh (Rm'.out.below a8 Rm'.out.lt); replace Tm':=zh (Tm'.out.below a8 zn); replace HTt:=zh (HTt.out.below a8 zn); replace HTu:=zh (HTu.out.below a8 zn); replace HB:=zh (HB.out.trans (a8.mono HB.out.size))
    clear a0 a1 a2 a3 a4 a5 a6 a7 a8 Rb' Tb' Rd' Td' Rn' Tn'
    have ya:=Ra'.out.cell
    go_upto_region 16 with (go_at_call 26; (with_reducible refine (zjz _ W.heap.size _ Ta'.out.wd HB.out.size).mono ?_); rintro e wva ⟨rfl,hv⟩; have HWa:=zh hv; clear hv)
    clear ya
    obtain ⟨c1',r1',s1',e1',-⟩:=HWa.out.row _ _ _ Rc'.out
    have e1:=e1' (by decide) (by decide)
    subst e1
    replace Rc':=zh r1'; have Tc:=zh (Tc'.out.wd.wipe HWa.out)
    clear r1' s1' e1'
    obtain ⟨c1',r1',s1',e1',-⟩:=HWa.out.row _ _ _ Rm'.out
    have e1:=e1' (by decide) (by decide)
    subst e1
    replace Rm':=zh r1'; have Tm:=zh (Tm'.out.wd.wipe HWa.out)
    clear r1' s1' e1'
    replace HTt:=zh (HTt.out.wipe HWa.out)
    have HBa:=zh (HB.out.trans HWa.out.below)
    have yc:=Rc'.out.cell
    go_upto_region 17 with (go_at_call 26; (with_reducible refine (zjz _ W.heap.size _ Tc.out HBa.out.size).mono ?_); rintro e wvc ⟨rfl,hv⟩; have HWc:=zh hv; clear hv)
    clear yc
    obtain ⟨c1',r1',s1',e1',-⟩:=HWc.out.row _ _ _ Rm'.out
    have e1:=e1' (by decide) (by decide)
    subst e1
    replace Rm':=zh r1'; replace Tm:=zh (Tm.out.wipe HWc.out)
    clear r1' s1' e1'
    replace HTt:=zh (HTt.out.wipe HWc.out)
    have HBc:=zh (HBa.out.trans HWc.out.below)
    have ym:=Rm'.out.cell
    go_upto_region 18 with (go_at_call 26; (with_reducible refine (zjz _ W.heap.size _ Tm.out HBc.out.size).mono ?_); rintro e wvm ⟨rfl,hv⟩; have HWm:=zh hv; clear hv)
    clear ym
    replace HTt:=zh (HTt.out.wipe HWm.out)
    have HBm:=zh (HBc.out.trans HWm.out.below)
    go_wp2_with (go_at_call 27; (with_reducible refine (zn2 _ _ W.heap.size _ HTt.out).mono ?_); rintro e wvt ⟨rfl,hv⟩; have HG:=zh hv; clear hv)
    have HBE:Hid (Below W.heap.size W wvt):=HBm.out.grown HG.out HBm.out.size (fun k hk => (HTt.out.blk hk).1)
    go_roundg (2 - (z + 1))
    case rel => exact ⟨z + 1,by omega,rfl,by go_num,HMS.out.to HBE.out⟩
    case measure => omega
   ·obtain rfl:z = 2:=by omega
    have hlti:¬ ((2:Nat):Int) < 2:=by omega
    go_wp2_with (go_at_call 28; refine (AWK.out _).mono ?_; rintro e w9 ⟨rfl,hb9⟩; have HB9:=zh (HM.out.below.trans (hb9.mono HM.out.below.size)); clear hb9)
    go_returns
    exact ⟨rfl,HB9.out⟩
end Go.Proofs.YthkfjnmnoanhlaaGreatDoor
