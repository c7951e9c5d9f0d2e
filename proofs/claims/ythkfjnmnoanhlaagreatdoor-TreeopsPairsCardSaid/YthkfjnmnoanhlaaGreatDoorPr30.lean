/- Part 30 of the proof; it says: lemmas and contracts. No conditions but those that each theorem states. -/
import Derived.Deep.RegionHeld3
import Derived.Deep.LoopGhost
import Derived.Test.YthkfjnmnoanhlaaGreatDoorPr01
import Derived.Test.YthkfjnmnoanhlaaGreatDoorPr09
import Derived.Test.YthkfjnmnoanhlaaGreatDoorPr23
import Derived.Test.YthkfjnmnoanhlaaGreatDoorPr24
import Derived.Test.YthkfjnmnoanhlaaGreatDoorPr25
import Derived.Test.YthkfjnmnoanhlaaGreatDoorPr26
import Derived.Test.YthkfjnmnoanhlaaGreatDoorPr29
set_option linter.unusedSimpArgs false
set_option linter.unusedVariables false
namespace Go.Proofs.YthkfjnmnoanhlaaGreatDoor
open Go.RowKit
def Dta.renL (d:Dta):Dta:=d.quoL d.order (fun s => s)
theorem Dta.renL_eq (d:Dta):d.renL = d.renum:=by
 have h:=d.order_zero
 have e:d.order.idxOf d.e = 0:=by
  cases ho:d.order with
  | nil => rw [ho] at h; cases h
  | cons a l =>
   rw [ho] at h
   have:a = d.e:=Option.some.inj h
   rw [this,List.idxOf_cons_self]
 unfold Dta.renL Dta.quoL Dta.renum
 rw [e]
structure VqJ (w W0:World) (d:Dta) (V gp gq:Nat) (a0 a1 a2 a3:Value) (f:Nat -> Bool) (u0 u1 u2 u3 u4 u5 u6:Value) (W:World):Prop where
 h0:f 0 = true -> u0 = .agg #[a0,a1,a2,a3]
 h1:f 1 = true -> u1 = .agg #[a0,a1,a2,a3]
 h2:f 2 = true -> f 6 = false -> O1 W w.heap.size u2 (oI d.order)
 h3:f 3 = true -> u3 = .agg #[a0,a1,a2,a3]
 h4:f 4 = true -> f 6 = false -> O1 W w.heap.size u4 (oI (List.range d.n))
 h5:f 5 = true -> TDO W w.heap.size u5 (d.renL.raw V)
 h6:u6 = .int .i64 0
 o5:f 5 = true -> f 2 = true /\ f 4 = true
 o6:f 6 = true -> f 5 = true
 below:Below w.heap.size w W
 sees:f 6 = false -> Below W0.heap.size W0 W
 rp:Row W gp 25 #[a0,a1,a2,a3]
 rq:f 6 = false -> Row W gq 25 #[.int .i64 0,.int .i64 0,.slice none 0 0,.slice none 0 0]
 rs:f 6 = true -> ∃ z0 z1 z2 z3,u5 = .agg #[z0,z1,z2,z3] /\ Row W gq 25 #[z0,z1,z2,z3]
theorem no_of {a b:Bool} (h:a = true -> b = true) (hb:b = false):a = false:=by cases e:a with | false => rfl | true => rw [h e] at hb; cases hb
theorem VqJ.call2 {w W0:World} {d:Dta} {V gp gq:Nat} {a0 a1 a2 a3:Value} {f:Nat -> Bool} {u0 u1 u2 u3 u4 u5 u6:Value} {W X:World} {u:Value} (h:VqJ w W0 d V gp gq a0 a1 a2 a3 f u0 u1 u2 u3 u4 u5 u6 W) (hf:f 2 = false) (hb:Below W.heap.size W X) (ho:O1 X W.heap.size u (oI d.order)) :
  VqJ w W0 d V gp gq a0 a1 a2 a3 (fun j => j == 2 || f j) u0 u1 u u3 u4 u5 u6 X:=by
 have f5:f 5 = false:=no_of (fun e => (h.o5 e).1) hf
 have f6:f 6 = false:=no_of h.o6 f5
 exact { h with
  h2:=fun _ _ => ho.mono h.below.size
  h4:=fun e e6 => (h.h4 e e6).below hb zn
  h5:=fun e => by
   have e:f 5 = true:=e
   rw [f5] at e; cases e
  o5:=fun e => by
   have e:f 5 = true:=e
   rw [f5] at e; cases e
  below:=h.below.trans (hb.mono h.below.size)
  sees:=fun e => (h.sees e).trans (hb.mono (h.sees e).size)
  rp:=h.rp.below hb h.rp.lt
  rq:=fun e => (h.rq e).below hb (h.rq e).lt
  o6:=fun e => by
   have e:f 6 = true:=e
   rw [f6] at e; cases e
  rs:=fun e => by
   have e:f 6 = true:=e
   rw [f6] at e; cases e }
theorem VqJ.call4 {w W0:World} {d:Dta} {V gp gq:Nat} {a0 a1 a2 a3:Value} {f:Nat -> Bool} {u0 u1 u2 u3 u4 u5 u6:Value} {W X:World} {u:Value} (h:VqJ w W0 d V gp gq a0 a1 a2 a3 f u0 u1 u2 u3 u4 u5 u6 W) (hf:f 4 = false) (hb:Below W.heap.size W X) (ho:O1 X W.heap.size u (oI (List.range d.n))) :
  VqJ w W0 d V gp gq a0 a1 a2 a3 (fun j => j == 4 || f j) u0 u1 u2 u3 u u5 u6 X:=by
 have f5:f 5 = false:=no_of (fun e => (h.o5 e).2) hf
 have f6:f 6 = false:=no_of h.o6 f5
 exact { h with
  h2:=fun e e6 => (h.h2 e e6).below hb zn
  h4:=fun _ _ => ho.mono h.below.size
  h5:=fun e => by
   have e:f 5 = true:=e
   rw [f5] at e; cases e
  o5:=fun e => by
   have e:f 5 = true:=e
   rw [f5] at e; cases e
  below:=h.below.trans (hb.mono h.below.size)
  sees:=fun e => (h.sees e).trans (hb.mono (h.sees e).size)
  rp:=h.rp.below hb h.rp.lt
  rq:=fun e => (h.rq e).below hb (h.rq e).lt
  o6:=fun e => by
   have e:f 6 = true:=e
   rw [f6] at e; cases e
  rs:=fun e => by
   have e:f 6 = true:=e
   rw [f6] at e; cases e }
theorem VqJ.call5 {w W0:World} {d:Dta} {V gp gq:Nat} {a0 a1 a2 a3:Value} {f:Nat -> Bool} {u0 u1 u2 u3 u4 u5 u6:Value} {W X:World} {u:Value} (h:VqJ w W0 d V gp gq a0 a1 a2 a3 f u0 u1 u2 u3 u4 u5 u6 W) (hf:f 5 = false) (hb:Below W.heap.size W X) (ho:TDO X W.heap.size u (d.renL.raw V)) (h2:f 2 = true) (h4:f 4 = true) :
  VqJ w W0 d V gp gq a0 a1 a2 a3 (fun j => j == 5 || f j) u0 u1 u2 u3 u4 u u6 X:=by
 have f5:f 5 = false:=hf
 have f6:f 6 = false:=no_of h.o6 f5
 exact { h with
  h2:=fun e e6 => (h.h2 e e6).below hb zn
  h4:=fun e e6 => (h.h4 e e6).below hb zn
  h5:=fun _ => ho.mono h.below.size
  o5:=fun _ => ⟨h2,h4⟩
  below:=h.below.trans (hb.mono h.below.size)
  sees:=fun e => (h.sees e).trans (hb.mono (h.sees e).size)
  rp:=h.rp.below hb h.rp.lt
  rq:=fun e => (h.rq e).below hb (h.rq e).lt
  o6:=fun e => by
   have e:f 6 = true:=e
   rw [f6] at e; cases e
  rs:=fun e => by
   have e:f 6 = true:=e
   rw [f6] at e; cases e }
theorem VqJ.store {w W0:World} {d:Dta} {V gp gq:Nat} {a0 a1 a2 a3:Value} {f:Nat -> Bool} {u0 u1 u2 u3 u4 u5 u6:Value} {W:World} (h:VqJ w W0 d V gp gq a0 a1 a2 a3 f u0 u1 u2 u3 u4 u5 u6 W) (hf:f 6 = false) (h5:f 5 = true) (hne:gp ≠ gq) (hgq:w.heap.size <= gq) (a b c e:Value) (hu:u5 = .agg #[a,b,c,e]) :
  VqJ w W0 d V gp gq a0 a1 a2 a3 (fun j => j == 6 || f j) u0 u1 u2 u3 u4 u5 u6 (set4 W gq a b c e):=by
 have hs:=zam (w:=w) (B0:=w.heap.size) (a:=a) (b:=b) (c:=c) (e:=e) (h.rq hf) (h.h5 h5) h.below hgq
 exact { h with
  h2:=fun _ e => by cases e
  h4:=fun _ e => by cases e
  h5:=fun _ => hs.2.1
  o6:=fun _ => h5
  below:=hs.2.2
  sees:=fun e => by cases e
  rp:=h.rp.set4 hne
  rq:=fun e => by cases e
  rs:=fun _ => ⟨a,b,c,e,hu,hs.1⟩ }
set_option maxRecDepth 100000 in
set_option maxHeartbeats 4000000 in
theorem zmb (r:Raw) (v:Value) (w:World) (hv:TD w v r) (hs:Small r):Calls Tryz.prog 72 #[v] w (RetR w (resR Dta.renum r) r.check):=by
 have hck:=fun W (h:Below w.heap.size w W) => zcg r v W (hv.below h zn) hs
 by_cases h0:r.check = 0
 ·obtain ⟨V,hd,hr⟩:=Raw.check_ok h0
  have hV:r.vars = V:=by rw [hr]; rfl
  rw [zfz (D:=r.dta) h0 hV,h0]
  have hv':TD w v (r.dta.raw V):=by rw [<- hr]; exact hv
  obtain ⟨d,hd'⟩:=zx r.dta
  rw [<- hd'] at hd hv' ⊢
  rw [h0] at hck
  rw [<- d.renL_eq]
  clear hr hV hd' h0
  obtain ⟨A3,c3,A4,c4,rfl⟩:=hv'.form
  obtain ⟨i0,hi0⟩:=zx ((d.raw V).vars)
  obtain ⟨i1,hi1⟩:=zx ((d.raw V).empty)
  obtain ⟨n,hn⟩:=zx ((d.raw V).next.length)
  obtain ⟨m,hm⟩:=zx ((d.raw V).fin.length)
  rw [<- hi0,<- hi1,<- hn,<- hm] at hv' hck ⊢
  have HC:=zh hck; have HV:=zh hv'; have HFIT:=zh hd
  clear hi0 hi1 hn hm hck hv' hd hs hv
  go_enter Tryz.func72,Tryz.ntmps72
  go_upto_region 4 with (go_at_call 52; refine (HC.out _ (by go_grown)).mono ?_; rintro e w2 ⟨rfl,hb2⟩; have X:=zbq hb2; have HB2:=zh X.1; have R1:=zh X.2.1; have RR:=zh X.2.2; clear hb2 X)
  obtain ⟨gp,hgp⟩:=zx w.heap.size
  obtain ⟨gq,hgq⟩:=zx (w.heap.size + 1)
  rw [<- hgq] at RR
  rw [<- hgp] at R1
  rw [<- hgq,<- hgp]
  have hgb:w.heap.size <= gq:=by omega
  have hne:gp ≠ gq:=by omega
  clear hgp hgq HC
  obtain ⟨W0,hW0⟩:=zx w2.drew
  have CV:=zh fun W (h:Below w2.heap.size w2 W) => zjp d V HFIT.out _ W ((HV.out.below HB2.out zn).below h zn)
  have CO:=zh fun W (h:Below w2.heap.size w2 W) => own19 d V HFIT.out _ W ((HV.out.below HB2.out zn).below h zn)
  have CQ:=zh fun W (h:Below w2.heap.size w2 W) vo vc (ho:N1 W vo (oI d.order)) (hc:N1 W vc (oI (List.range d.n))) => zdk d V HFIT.out d.order (fun s => s) (List.mem_of_getElem? d.order_zero) (fun a ha b hb x hx => (d.order_iff HFIT.out.ok _).2 ((d.order_acc a ha).step (d.order_acc b hb) hx)) (fun a ha => (d.order_acc a ha).lt HFIT.out.ok) (Nat.le_trans (d.order_len HFIT.out.ok) HFIT.out.n64) _ vo vc W ((HV.out.below HB2.out zn).below h zn) ho (by rw [List.map_id']; exact hc)
  clear HV HFIT hW0 W0
  refine zbk (by kernel_rfl) (by kernel_rfl) [11,12,13,14,15,16,3] [undef,undef,undef,undef,undef,undef,.int .i64 0] ?_ ?_ (fun f vs W => ∃ u0 u1 u2 u3 u4 u5 u6,vs = [u0,u1,u2,u3,u4,u5,u6] /\ VqJ w w2 d V gp gq (.int .i64 i0) (.int .i64 i1) (.slice A3 n c3) (.slice A4 m c4) f u0 u1 u2 u3 u4 u5 u6 W) ?_ ?_ ?_
  ·rfl
  ·simp only [putS,zp]
  ·exact ⟨_,_,_,_,_,_,_,rfl,⟨by simp,by simp,by simp,by simp,by simp,by simp,rfl,by simp,by simp,HB2.out.drew,fun _ => (Below.refl _ _).drew,R1.out.drew,fun _ => RR.out.drew,by simp⟩⟩
  ·refine zah.cons ?_ (zah.cons ?_ (zah.cons ?_ (zah.cons ?_ (zah.cons ?_ (zah.cons ?_ (zah.cons ?_ (zah.cons ?_ (zah.nil))))))))
   ·rintro f vs W hl hf hd ⟨u0,u1,u2,u3,u4,u5,u6,rfl,hJ⟩ K hK
    have y0:=hJ.rp.cell
    have q0:=y0 0; have q1:=y0 1; have q2:=y0 2; have q3:=y0 3
    simp only [zg] at q0 q1 q2 q3
    clear y0
    have HJ:=zh hJ
    clear hJ
    simp only [putS,zp]
    go_simp
    have hz:=hK.out [_,u1,u2,u3,u4,u5,u6] W rfl ⟨_,_,_,_,_,_,_,rfl,{ HJ.out with h0:=fun _ => rfl }⟩
    simp only [putS,zp] at hz
    exact hz
   ·rintro f vs W hl hf hd ⟨u0,u1,u2,u3,u4,u5,u6,rfl,hJ⟩ K hK
    have y0:=hJ.rp.cell
    have q0:=y0 0; have q1:=y0 1; have q2:=y0 2; have q3:=y0 3
    simp only [zg] at q0 q1 q2 q3
    clear y0
    have HJ:=zh hJ
    clear hJ
    simp only [putS,zp]
    go_simp
    have hz:=hK.out [u0,_,u2,u3,u4,u5,u6] W rfl ⟨_,_,_,_,_,_,_,rfl,{ HJ.out with h1:=fun _ => rfl }⟩
    simp only [putS,zp] at hz
    exact hz
   ·rintro f vs W hl hf hd ⟨u0,u1,u2,u3,u4,u5,u6,rfl,hJ⟩ K hK
    have e1:=hJ.h1 (zao hd 1 (by kernel_rfl))
    subst e1
    have d5:f 5 = false:=no_of (fun e => (hJ.o5 e).1) hf
    have HS:=zh (hJ.sees (no_of hJ.o6 d5))
    clear d5
    have HJ:=zh hJ
    clear hJ
    simp only [putS,zp]
    go_simp
    go_at_call 100
    refine (CV.out W HS.out).mono ?_
    rintro e wx ⟨A,c,rfl,hb,ho⟩
    have hz:=hK.out [u0,_,_,u3,u4,u5,u6] wx rfl ⟨_,_,_,_,_,_,_,rfl,HJ.out.call2 hf hb ho⟩
    simp only [putS,zp] at hz
    exact hz
   ·rintro f vs W hl hf hd ⟨u0,u1,u2,u3,u4,u5,u6,rfl,hJ⟩ K hK
    have y0:=hJ.rp.cell
    have q0:=y0 0; have q1:=y0 1; have q2:=y0 2; have q3:=y0 3
    simp only [zg] at q0 q1 q2 q3
    clear y0
    have HJ:=zh hJ
    clear hJ
    simp only [putS,zp]
    go_simp
    have hz:=hK.out [u0,u1,u2,_,u4,u5,u6] W rfl ⟨_,_,_,_,_,_,_,rfl,{ HJ.out with h3:=fun _ => rfl }⟩
    simp only [putS,zp] at hz
    exact hz
   ·rintro f vs W hl hf hd ⟨u0,u1,u2,u3,u4,u5,u6,rfl,hJ⟩ K hK
    have e3:=hJ.h3 (zao hd 3 (by kernel_rfl))
    subst e3
    have d5:f 5 = false:=no_of (fun e => (hJ.o5 e).2) hf
    have HS:=zh (hJ.sees (no_of hJ.o6 d5))
    clear d5
    have HJ:=zh hJ
    clear hJ
    simp only [putS,zp]
    go_simp
    go_at_call 101
    refine (CO.out W HS.out).mono ?_
    rintro e wx ⟨A,c,rfl,hb,ho⟩
    have hz:=hK.out [u0,u1,u2,_,_,u5,u6] wx rfl ⟨_,_,_,_,_,_,_,rfl,HJ.out.call4 hf hb ho⟩
    simp only [putS,zp] at hz
    exact hz
   ·rintro f vs W hl hf hd ⟨u0,u1,u2,u3,u4,u5,u6,rfl,hJ⟩ K hK
    have d2:=zao hd 2 (by kernel_rfl); have d4:=zao hd 4 (by kernel_rfl)
    have e0:=hJ.h0 (zao hd 0 (by kernel_rfl))
    subst e0
    have f5:f 5 = false:=hf
    have f6:=no_of hJ.o6 f5
    have hN2:=(hJ.h2 d2 f6).n1; have hN4:=(hJ.h4 d4 f6).n1
    have HQ:=zh (CQ.out W (hJ.sees f6) _ _ hN2 hN4)
    revert hK
    generalize hgen:(Shut _ -> _) = G
    obtain ⟨Ao,co,rfl,_⟩:=hN2.open
    obtain ⟨Ac,cc,rfl,_⟩:=hN4.open
    subst hgen
    intro hK
    have HD:=zh (And.intro d2 d4)
    clear d2 d4 hN2 hN4 f5 f6
    have HJ:=zh hJ
    clear hJ
    simp only [putS,zp]
    go_simp
    go_at_call 99
    refine HQ.out.mono ?_
    rintro e wx ⟨v',rfl,hb,ho⟩
    have hz:=hK.out [_,u1,_,u3,_,_,u6] wx rfl ⟨_,_,_,_,_,_,_,rfl,HJ.out.call5 hf hb ho HD.out.1 HD.out.2⟩
    simp only [putS,zp] at hz
    exact hz
   ·rintro f vs W hl hf hd ⟨u0,u1,u2,u3,u4,u5,u6,rfl,hJ⟩ K hK
    have d5:=zao hd 5 (by kernel_rfl)
    revert hK
    generalize hgen:(Shut _ -> _) = G
    obtain ⟨j0,j1,A5,n5,c5,A6,n6,c6,rfl⟩:=(hJ.h5 d5).shape
    subst hgen
    intro hK
    have hf':f 6 = false:=hf
    have rq:=hJ.rq hf'
    have y0:=rq.cell; have y1:=rq.free; have y2:=rq.lt
    have q0:=y0 0; have q1:=y0 1; have q2:=y0 2; have q3:=y0 3
    simp only [zg] at q0 q1 q2 q3
    have HD:=zh d5
    clear y0 rq d5 hf'
    have HJ:=zh hJ
    clear hJ
    simp only [putS,zp]
    go_simp
    have hz:=hK.out [u0,u1,u2,u3,u4,_,u6] (set4 W gq (.int .i64 j0) (.int .i64 j1) (.slice A5 n5 c5) (.slice A6 n6 c6)) rfl ⟨_,_,_,_,_,_,_,rfl,HJ.out.store hf HD.out hne hgb _ _ _ _ rfl⟩
    simp only [putS,zp] at hz
    unfold set4 at hz
    exact hz
   ·rintro f vs W hl hf hd ⟨u0,u1,u2,u3,u4,u5,u6,rfl,hJ⟩ K hK
    have HJ:=zh hJ
    clear hJ
    simp only [putS,zp]
    go_simp
    have hz:=hK.out [u0,u1,u2,u3,u4,u5,_] W rfl ⟨_,_,_,_,_,_,_,rfl,{ HJ.out with h6:=rfl }⟩
    simp only [putS,zp] at hz
    exact hz
  ·rintro f vs W hl hall ⟨u0,u1,u2,u3,u4,u5,u6,rfl,hJ⟩
   obtain ⟨z0,z1,z2,z3,e5,hrow⟩:=hJ.rs (hall 6 (by decide))
   have hT:=hJ.h5 (hall 5 (by decide))
   rw [e5] at hT
   have HT:=zh hT; have HBB:=zh hJ.below
   have e6:=hJ.h6
   have b0:=hrow.cell
   have q0:=b0 0; have q1:=b0 1; have q2:=b0 2; have q3:=b0 3
   simp only [zg] at q0 q1 q2 q3
   subst e6
   clear hJ b0 hrow hT e5
   simp only [putS,zp]
   go_wp2
   refine bodyPost_ret (v:=.tuple #[.agg #[z0,z1,z2,z3],.int .i64 0]) (by simp [results,Tryz.results72,go_sem,q0,q1,q2,q3]) rfl ?_
   exact ⟨_,rfl,HBB.out,HT.out⟩
 ·obtain ⟨k,hk⟩:=zx r.check
  have HZ:=zh (show resR Dta.renum r = zeroR from zct h0)
  rw [HZ.out]
  rw [<- hk] at h0 hck ⊢
  have h0':((k:Int) != 0) = true:=by rw [bne_iff_ne]; omega
  obtain ⟨A3,c3,A4,c4,rfl⟩:=hv.form
  obtain ⟨n,hn⟩:=zx r.next.length
  obtain ⟨m,hm⟩:=zx r.fin.length
  obtain ⟨i0,hV⟩:=zx r.vars
  obtain ⟨i1,hE⟩:=zx r.empty
  rw [<- hn,<- hm,<- hV,<- hE] at hck ⊢
  have HC:=zh hck
  clear hck hv hk hn hm hV hE hs h0 HZ
  go_enter Tryz.func72,Tryz.ntmps72
  go_wp2_with (go_at_call 52; refine (HC.out _ (by go_grown)).mono ?_; rintro e w2 ⟨rfl,hb2⟩; have X:=zbq hb2; have HB2:=zh X.1; have R1:=zh X.2.1; have RR:=zh X.2.2; have y0:=X.2.1.cell; have y2:=X.2.2.cell; have y3:=X.2.2.free; clear hb2 X)
  refine zad (fun W => Row W (w.heap.size + 1) 25 #[.int .i64 0,.int .i64 0,.slice none 0 0,.slice none 0 0] /\ TDO W w2.heap.size zeroV zeroR /\ Below w.heap.size w W) (zam RR.out (zai _ _) HB2.out (by omega)) ?_
  clear y0 y2 y3
  rintro W5 ⟨r0,hT,hb⟩
  have b0:=r0.cell
  have q0:=b0 0; have q1:=b0 1; have q2:=b0 2; have q3:=b0 3
  simp only [zg] at q0 q1 q2 q3
  have HB:=zh hb
  clear b0 r0 hT hb
  exact bodyPost_ret (v:=.tuple #[zeroV,.int .i64 (k:Int)]) (by simp [results,Tryz.results72,go_sem,q0,q1,q2,q3,zeroV]) rfl ⟨_,rfl,HB.out,zai _ _⟩
theorem Dta.coar_in {d:Dta} (hd:d.OK) {s:Nat} (h:s < d.n):d.coar s ∈ d.fixed d.coar :=
 (d.fixed_mem _ _).2 ⟨by have:=(d.coar_rep hd).1.le s h; omega,(d.coar_rep hd).1.idem s h⟩
theorem Dta.quoL_fit {d:Dta} {V:Nat} (hd:d.Fit V):(d.quoL (d.fixed d.coar) d.coar).Fit V:=by
 have hq:=(Dta.clR_cong hd.ok).quot hd.ok
 refine ⟨hq.ok hd.ok,?_,hd.v3,hd.L⟩
 exact Nat.le_trans (zbl (d.fixed_nodup _) (fun a ha => ((d.fixed_mem _ _).1 ha).1)) hd.n64
theorem Dta.miniR_eq (d:Dta):(d.renum.quoL (d.renum.fixed d.renum.coar) d.renum.coar).renL = d.miniR:=by rw [Dta.renL_eq]; rfl
theorem zma (r:Raw):resR Dta.miniR r = resR Dta.mini r:=by
 by_cases h:r.check = 0
 ·obtain ⟨V,hd,hr⟩:=Raw.check_ok h
  have hs:=(Dta.mini_same hd.ok hd.ok rfl fun t ht => rfl).2.1
  obtain ⟨c1,c2,_⟩:=r.dta.mini_canon hd.ok
  unfold resR
  rw [if_pos h,if_pos h]
  have hV:r.vars = V:=by rw [hr]; rfl
  rw [hV]
  exact (hs.raw c1.ok (c2.trans (r.dta.miniR_canon hd.ok).2.1.symm) V).symm
 ·rw [zct h,zct h]
def fixT (cl:Nat -> Nat) (s:Nat):List Nat:=(List.range s).filter fun s => cl s == s
theorem zo6 (cl:Nat -> Nat) (s:Nat):fixT cl (s + 1) = if cl s = s then fixT cl s ++ [s] else fixT cl s:=by
 unfold fixT
 rw [List.range_succ,List.filter_append]
 by_cases h:cl s = s
 ·rw [if_pos h,List.filter_cons_of_pos (by simp [h])]; rfl
 ·rw [if_neg h,List.filter_cons_of_neg (by simp [h])]; simp
theorem zq6 (cl:Nat -> Nat) (s:Nat):(fixT cl s).length <= s:=by
 unfold fixT
 have:=List.length_filter_le (fun s => cl s == s) (List.range s)
 rw [List.length_range] at this; exact this
structure VaJ (W0:World) (d:Dta) (V:Nat) (a0 a1 a2 a3:Value) (f:Nat -> Bool) (u0 u1 u2 u3 u4 u5 u6:Value) (W:World):Prop where
 h0:f 0 = true -> u0 = .agg #[a0,a1,a2,a3]
 h1:f 1 = true -> u1 = .agg #[a0,a1,a2,a3]
 h2:f 2 = true -> f 7 = false -> O1 W W0.heap.size u2 (oI d.order)
 h3:f 3 = true -> u3 = .agg #[a0,a1,a2,a3]
 h4:f 4 = true -> f 7 = false -> O1 W W0.heap.size u4 (oI (List.range d.n))
 h5:f 5 = true -> TDO W W0.heap.size u5 (d.renL.raw V)
 o5:f 5 = true -> f 2 = true /\ f 4 = true
 o7:f 7 = true -> f 5 = true /\ f 6 = true
 sees:Below W0.heap.size W0 W
 rs:f 6 = true -> ∃ g z0 z1 z2 z3,u6 = .pointer (some ⟨g,0,none⟩) /\ W0.heap.size <= g /\ Row W g 25 #[z0,z1,z2,z3] /\ (f 7 = true -> u5 = .agg #[z0,z1,z2,z3])
theorem VaJ.call2 {W0:World} {d:Dta} {V:Nat} {a0 a1 a2 a3:Value} {f:Nat -> Bool} {u0 u1 u2 u3 u4 u5 u6:Value} {W:World} {X:World} {u:Value} (h:VaJ W0 d V a0 a1 a2 a3 f u0 u1 u2 u3 u4 u5 u6 W) (hf:f 2 = false) (hb:Below W.heap.size W X) (ho:O1 X W.heap.size u (oI d.order)) :
  VaJ W0 d V a0 a1 a2 a3 (fun j => j == 2 || f j) u0 u1 u u3 u4 u5 u6 X:=by
 have f5:f 5 = false:=no_of (fun e => (h.o5 e).1) hf
 have f7:f 7 = false:=no_of (fun e => (h.o7 e).1) f5
 exact { h with
  h2:=fun _ _ => ho.mono h.sees.size
  h4:=fun e e6 => (h.h4 e e6).below hb zn
  h5:=fun e => by
   have e:f 5 = true:=e
   rw [f5] at e; cases e
  o5:=fun e => by
   have e:f 5 = true:=e
   rw [f5] at e; cases e
  sees:=h.sees.trans (hb.mono h.sees.size)
  o7:=fun e => by
   have e:f 7 = true:=e
   rw [f7] at e; cases e
  rs:=fun e => by
   obtain ⟨g,z0,z1,z2,z3,k1,k2,k3,k4⟩:=h.rs e
   exact ⟨g,z0,z1,z2,z3,k1,k2,k3.below hb k3.lt,fun e7 => by
    have e7:f 7 = true:=e7
    rw [f7] at e7; cases e7⟩ }
theorem VaJ.call4 {W0:World} {d:Dta} {V:Nat} {a0 a1 a2 a3:Value} {f:Nat -> Bool} {u0 u1 u2 u3 u4 u5 u6:Value} {W:World} {X:World} {u:Value} (h:VaJ W0 d V a0 a1 a2 a3 f u0 u1 u2 u3 u4 u5 u6 W) (hf:f 4 = false) (hb:Below W.heap.size W X) (ho:O1 X W.heap.size u (oI (List.range d.n))) :
  VaJ W0 d V a0 a1 a2 a3 (fun j => j == 4 || f j) u0 u1 u2 u3 u u5 u6 X:=by
 have f5:f 5 = false:=no_of (fun e => (h.o5 e).2) hf
 have f7:f 7 = false:=no_of (fun e => (h.o7 e).1) f5
 exact { h with
  h2:=fun e e6 => (h.h2 e e6).below hb zn
  h4:=fun _ _ => ho.mono h.sees.size
  h5:=fun e => by
   have e:f 5 = true:=e
   rw [f5] at e; cases e
  o5:=fun e => by
   have e:f 5 = true:=e
   rw [f5] at e; cases e
  sees:=h.sees.trans (hb.mono h.sees.size)
  o7:=fun e => by
   have e:f 7 = true:=e
   rw [f7] at e; cases e
  rs:=fun e => by
   obtain ⟨g,z0,z1,z2,z3,k1,k2,k3,k4⟩:=h.rs e
   exact ⟨g,z0,z1,z2,z3,k1,k2,k3.below hb k3.lt,fun e7 => by
    have e7:f 7 = true:=e7
    rw [f7] at e7; cases e7⟩ }
theorem VaJ.call5 {W0:World} {d:Dta} {V:Nat} {a0 a1 a2 a3:Value} {f:Nat -> Bool} {u0 u1 u2 u3 u4 u5 u6:Value} {W:World} {X:World} {u:Value} (h:VaJ W0 d V a0 a1 a2 a3 f u0 u1 u2 u3 u4 u5 u6 W) (hf:f 5 = false) (hb:Below W.heap.size W X) (ho:TDO X W.heap.size u (d.renL.raw V)) (h2:f 2 = true) (h4:f 4 = true) :
  VaJ W0 d V a0 a1 a2 a3 (fun j => j == 5 || f j) u0 u1 u2 u3 u4 u u6 X:=by
 have f5:f 5 = false:=hf
 have f7:f 7 = false:=no_of (fun e => (h.o7 e).1) f5
 exact { h with
  h2:=fun e e6 => (h.h2 e e6).below hb zn
  h4:=fun e e6 => (h.h4 e e6).below hb zn
  h5:=fun _ => ho.mono h.sees.size
  o5:=fun _ => ⟨h2,h4⟩
  sees:=h.sees.trans (hb.mono h.sees.size)
  o7:=fun e => by
   have e:f 7 = true:=e
   rw [f7] at e; cases e
  rs:=fun e => by
   obtain ⟨g,z0,z1,z2,z3,k1,k2,k3,k4⟩:=h.rs e
   exact ⟨g,z0,z1,z2,z3,k1,k2,k3.below hb k3.lt,fun e7 => by
    have e7:f 7 = true:=e7
    rw [f7] at e7; cases e7⟩ }
theorem VaJ.alloc {W0:World} {d:Dta} {V:Nat} {a0 a1 a2 a3:Value} {f:Nat -> Bool} {u0 u1 u2 u3 u4 u5 u6:Value} {W:World} (h:VaJ W0 d V a0 a1 a2 a3 f u0 u1 u2 u3 u4 u5 u6 W) (hf:f 6 = false) (z0 z1 z2 z3:Value) :
  VaJ W0 d V a0 a1 a2 a3 (fun j => j == 6 || f j) u0 u1 u2 u3 u4 u5 (.pointer (some ⟨W.heap.size,0,none⟩)) (W.alloc (.cells #[z0,z1,z2,z3] 25)):=by
 have f7:f 7 = false:=no_of (fun e => (h.o7 e).2) hf
 have hb:Below W.heap.size W (W.alloc (.cells #[z0,z1,z2,z3] 25)):=Below.alloc (Below.refl _ _) zn _
 exact { h with
  h2:=fun e e6 => (h.h2 e e6).below hb zn
  h4:=fun e e6 => (h.h4 e e6).below hb zn
  h5:=fun e => (h.h5 e).below hb zn
  sees:=h.sees.trans (hb.mono h.sees.size)
  o7:=fun e => by
   have e:f 7 = true:=e
   rw [f7] at e; cases e
  rs:=fun _ => ⟨_,z0,z1,z2,z3,rfl,h.sees.size,Row.new _ _ _,fun e7 => by
   have e7:f 7 = true:=e7
   rw [f7] at e7; cases e7⟩ }
theorem VaJ.store {W0:World} {d:Dta} {V:Nat} {a0 a1 a2 a3:Value} {f:Nat -> Bool} {u0 u1 u2 u3 u4 u5 u6:Value} {W:World} (h:VaJ W0 d V a0 a1 a2 a3 f u0 u1 u2 u3 u4 u5 u6 W) (h5:f 5 = true) (h6:f 6 = true) (g:Nat) (z0 z1 z2 z3 a b c e:Value) (hg:W0.heap.size <= g) (hr:Row W g 25 #[z0,z1,z2,z3]) (hp:u6 = .pointer (some ⟨g,0,none⟩)) (hu:u5 = .agg #[a,b,c,e]) :
  VaJ W0 d V a0 a1 a2 a3 (fun j => j == 7 || f j) u0 u1 u2 u3 u4 u5 u6 (set4 W g a b c e):=by
 have hs:=zam (w:=W0) (B0:=W0.heap.size) (a:=a) (b:=b) (c:=c) (e:=e) hr (h.h5 h5) h.sees hg
 exact { h with
  h2:=fun _ e => by cases e
  h4:=fun _ e => by cases e
  h5:=fun _ => hs.2.1
  o7:=fun _ => ⟨h5,h6⟩
  sees:=hs.2.2
  rs:=fun _ => ⟨g,a,b,c,e,hp,hg,hs.1,fun _ => hu⟩ }
set_option maxRecDepth 100000 in
set_option maxHeartbeats 8000000 in
theorem zmf (r:Raw) (v:Value) (w:World) (hv:TD w v r) (hs:Small r):Calls Tryz.prog 53 #[v] w (RetR w (resR Dta.miniR r) r.check):=by
 have hck:=fun W (h:Below w.heap.size w W) => zcg r v W (hv.below h zn) hs
 by_cases h0:r.check = 0
 ·obtain ⟨V,hd,hr⟩:=Raw.check_ok h0
  have hV:r.vars = V:=by rw [hr]; rfl
  rw [zfz (D:=r.dta) h0 hV,h0]
  have hv':TD w v (r.dta.raw V):=by rw [<- hr]; exact hv
  obtain ⟨d,hd'⟩:=zx r.dta
  rw [<- hd'] at hd hv' ⊢
  rw [h0] at hck
  rw [<- d.miniR_eq,<- d.renL_eq]
  have hdr:d.renL.Fit V:=by rw [d.renL_eq]; exact hd.renum
  obtain ⟨D,hD⟩:=zx d.renL
  rw [<- hD] at hdr ⊢
  obtain ⟨M,hM⟩:=zx (D.quoL (D.fixed D.coar) D.coar)
  rw [<- hM]
  have HDD:=zh hD; have HMM:=zh hM
  clear hD hM
  clear hr hV hd' h0
  obtain ⟨A3,c3,A4,c4,rfl⟩:=hv'.form
  obtain ⟨i0,hi0⟩:=zx ((d.raw V).vars)
  obtain ⟨i1,hi1⟩:=zx ((d.raw V).empty)
  obtain ⟨n,hn⟩:=zx ((d.raw V).next.length)
  obtain ⟨m,hm⟩:=zx ((d.raw V).fin.length)
  rw [<- hi0,<- hi1,<- hn,<- hm] at hv' hck ⊢
  have HC:=zh hck; have HV:=zh hv'; have HFIT:=zh hd; have HFR:=zh hdr
  clear hi0 hi1 hn hm hck hv' hd hs hv hdr
  go_enter Tryz.func53,Tryz.ntmps53
  go_upto_region 4 with (go_at_call 52; refine (HC.out _ (by go_grown)).mono ?_; rintro e w2 ⟨rfl,hb2⟩; have X:=zbq hb2; have HB2:=zh X.1; have R1:=zh X.2.1; have RR:=zh X.2.2; clear hb2 X)
  obtain ⟨gp,hgp⟩:=zx w.heap.size
  obtain ⟨gq,hgq⟩:=zx (w.heap.size + 1)
  rw [<- hgq] at RR
  rw [<- hgp] at R1
  rw [<- hgq,<- hgp]
  have hgb:w.heap.size <= gq:=by omega
  have hne:gp ≠ gq:=by omega
  clear hgp hgq HC
  have CV:=zh fun W (h:Below w2.heap.size w2 W) => zjp d V HFIT.out _ W ((HV.out.below HB2.out zn).below h zn)
  have CO:=zh fun W (h:Below w2.heap.size w2 W) => own19 d V HFIT.out _ W ((HV.out.below HB2.out zn).below h zn)
  have CQ:=zh fun W (h:Below w2.heap.size w2 W) vo vc (ho:N1 W vo (oI d.order)) (hc:N1 W vc (oI (List.range d.n))) => zdk d V HFIT.out d.order (fun s => s) (List.mem_of_getElem? d.order_zero) (fun a ha b hb x hx => (d.order_iff HFIT.out.ok _).2 ((d.order_acc a ha).step (d.order_acc b hb) hx)) (fun a ha => (d.order_acc a ha).lt HFIT.out.ok) (Nat.le_trans (d.order_len HFIT.out.ok) HFIT.out.n64) _ vo vc W ((HV.out.below HB2.out zn).below h zn) ho (by rw [List.map_id']; exact hc)
  clear HV HFIT
  refine zbk (by kernel_rfl) (by kernel_rfl) [16,17,18,19,20,21,5] [undef,undef,undef,undef,undef,undef,undef] ?_ ?_ (fun f vs W => ∃ u0 u1 u2 u3 u4 u5 u6,vs = [u0,u1,u2,u3,u4,u5,u6] /\ VaJ w2 d V (.int .i64 i0) (.int .i64 i1) (.slice A3 n c3) (.slice A4 m c4) f u0 u1 u2 u3 u4 u5 u6 W) ?_ ?_ ?_
  ·rfl
  ·simp only [putS,zp]
  ·exact ⟨_,_,_,_,_,_,_,rfl,⟨by simp,by simp,by simp,by simp,by simp,by simp,by simp,by simp,(Below.refl _ _).drew,by simp⟩⟩
  ·refine zah.cons ?_ (zah.cons ?_ (zah.cons ?_ (zah.cons ?_ (zah.cons ?_ (zah.cons ?_ (zah.cons ?_ (zah.cons ?_ (zah.nil))))))))
   ·rintro f vs W hl hf hd ⟨u0,u1,u2,u3,u4,u5,u6,rfl,hJ⟩ K hK
    have y0:=(R1.out.below hJ.sees R1.out.lt).cell
    have q0:=y0 0; have q1:=y0 1; have q2:=y0 2; have q3:=y0 3
    simp only [zg] at q0 q1 q2 q3
    clear y0
    have HJ:=zh hJ
    clear hJ
    simp only [putS,zp]
    go_simp
    have hz:=hK.out [_,u1,u2,u3,u4,u5,u6] W rfl ⟨_,_,_,_,_,_,_,rfl,{ HJ.out with h0:=fun _ => rfl }⟩
    simp only [putS,zp] at hz
    exact hz
   ·rintro f vs W hl hf hd ⟨u0,u1,u2,u3,u4,u5,u6,rfl,hJ⟩ K hK
    have y0:=(R1.out.below hJ.sees R1.out.lt).cell
    have q0:=y0 0; have q1:=y0 1; have q2:=y0 2; have q3:=y0 3
    simp only [zg] at q0 q1 q2 q3
    clear y0
    have HJ:=zh hJ
    clear hJ
    simp only [putS,zp]
    go_simp
    have hz:=hK.out [u0,_,u2,u3,u4,u5,u6] W rfl ⟨_,_,_,_,_,_,_,rfl,{ HJ.out with h1:=fun _ => rfl }⟩
    simp only [putS,zp] at hz
    exact hz
   ·rintro f vs W hl hf hd ⟨u0,u1,u2,u3,u4,u5,u6,rfl,hJ⟩ K hK
    have e1:=hJ.h1 (zao hd 1 (by kernel_rfl))
    subst e1
    have HJ:=zh hJ
    clear hJ
    simp only [putS,zp]
    go_simp
    go_at_call 100
    refine (CV.out W HJ.out.sees).mono ?_
    rintro e wx ⟨A,c,rfl,hb,ho⟩
    have hz:=hK.out [u0,_,_,u3,u4,u5,u6] wx rfl ⟨_,_,_,_,_,_,_,rfl,HJ.out.call2 hf hb ho⟩
    simp only [putS,zp] at hz
    exact hz
   ·rintro f vs W hl hf hd ⟨u0,u1,u2,u3,u4,u5,u6,rfl,hJ⟩ K hK
    have y0:=(R1.out.below hJ.sees R1.out.lt).cell
    have q0:=y0 0; have q1:=y0 1; have q2:=y0 2; have q3:=y0 3
    simp only [zg] at q0 q1 q2 q3
    clear y0
    have HJ:=zh hJ
    clear hJ
    simp only [putS,zp]
    go_simp
    have hz:=hK.out [u0,u1,u2,_,u4,u5,u6] W rfl ⟨_,_,_,_,_,_,_,rfl,{ HJ.out with h3:=fun _ => rfl }⟩
    simp only [putS,zp] at hz
    exact hz
   ·rintro f vs W hl hf hd ⟨u0,u1,u2,u3,u4,u5,u6,rfl,hJ⟩ K hK
    have e3:=hJ.h3 (zao hd 3 (by kernel_rfl))
    subst e3
    have HJ:=zh hJ
    clear hJ
    simp only [putS,zp]
    go_simp
    go_at_call 101
    refine (CO.out W HJ.out.sees).mono ?_
    rintro e wx ⟨A,c,rfl,hb,ho⟩
    have hz:=hK.out [u0,u1,u2,_,_,u5,u6] wx rfl ⟨_,_,_,_,_,_,_,rfl,HJ.out.call4 hf hb ho⟩
    simp only [putS,zp] at hz
    exact hz
   ·rintro f vs W hl hf hd ⟨u0,u1,u2,u3,u4,u5,u6,rfl,hJ⟩ K hK
    have d2:=zao hd 2 (by kernel_rfl); have d4:=zao hd 4 (by kernel_rfl)
    have e0:=hJ.h0 (zao hd 0 (by kernel_rfl))
    subst e0
    have f5:f 5 = false:=hf
    have f7:=no_of (fun e => (hJ.o7 e).1) f5
    have hN2:=(hJ.h2 d2 f7).n1; have hN4:=(hJ.h4 d4 f7).n1
    have HQ:=zh (CQ.out W hJ.sees _ _ hN2 hN4)
    revert hK
    generalize hgen:(Shut _ -> _) = G
    obtain ⟨Ao,co,rfl,_⟩:=hN2.open
    obtain ⟨Ac,cc,rfl,_⟩:=hN4.open
    subst hgen
    intro hK
    have HD:=zh (And.intro d2 d4)
    clear d2 d4 hN2 hN4 f5 f7
    have HJ:=zh hJ
    clear hJ
    simp only [putS,zp]
    go_simp
    go_at_call 99
    refine HQ.out.mono ?_
    rintro e wx ⟨v',rfl,hb,ho⟩
    have hz:=hK.out [_,u1,_,u3,_,_,u6] wx rfl ⟨_,_,_,_,_,_,_,rfl,HJ.out.call5 hf hb ho HD.out.1 HD.out.2⟩
    simp only [putS,zp] at hz
    exact hz
   ·rintro f vs W hl hf hd ⟨u0,u1,u2,u3,u4,u5,u6,rfl,hJ⟩ K hK
    have HJ:=zh hJ
    clear hJ
    simp only [putS,zp]
    go_simp
    have hz:=hK.out [u0,u1,u2,u3,u4,u5,_] _ rfl ⟨_,_,_,_,_,_,_,rfl,HJ.out.alloc hf (.int .i64 0) (.int .i64 0) (.slice none 0 0) (.slice none 0 0)⟩
    simp only [putS,zp] at hz
    exact hz
   ·rintro f vs W hl hf hd ⟨u0,u1,u2,u3,u4,u5,u6,rfl,hJ⟩ K hK
    have d5:=zao hd 5 (by kernel_rfl); have d6:=zao hd 6 (by kernel_rfl)
    revert hK
    generalize hgen:(Shut _ -> _) = G
    obtain ⟨j0,j1,A5,n5,c5,A6,n6,c6,rfl⟩:=(hJ.h5 d5).shape
    obtain ⟨g,z0,z1,z2,z3,rfl,hg,hr,_⟩:=hJ.rs d6
    subst hgen
    intro hK
    have y0:=hr.cell; have y1:=hr.free; have y2:=hr.lt
    have q0:=y0 0; have q1:=y0 1; have q2:=y0 2; have q3:=y0 3
    simp only [zg] at q0 q1 q2 q3
    have HD:=zh d5; have HD6:=zh d6; have HR:=zh hr
    clear y0 hr d5 d6
    have HJ:=zh hJ
    clear hJ
    simp only [putS,zp]
    go_simp
    have hz:=hK.out [u0,u1,u2,u3,u4,_,_] (set4 W g (.int .i64 j0) (.int .i64 j1) (.slice A5 n5 c5) (.slice A6 n6 c6)) rfl ⟨_,_,_,_,_,_,_,rfl,HJ.out.store HD.out HD6.out g _ _ _ _ _ _ _ _ hg HR.out rfl rfl⟩
    simp only [putS,zp] at hz
    unfold set4 at hz
    exact hz
  ·rintro f vs W hl hall ⟨u0,u1,u2,u3,u4,u5,u6,rfl,hJ⟩
   obtain ⟨g5,z0,z1,z2,z3,e6,hg5,hr5,hz⟩:=hJ.rs (hall 6 (by decide))
   have e5:=hz (hall 7 (by decide))
   have hT:=hJ.h5 (hall 5 (by decide))
   rw [e5,<- HDD.out] at hT
   have HT:=zh (hT.mono HB2.out.size); have HBB:=zh (HB2.out.trans (hJ.sees.mono HB2.out.size))
   have RQ:=zh (RR.out.below hJ.sees RR.out.lt)
   have hg5n:g5 ≠ gq:=by have:=RR.out.lt; omega
   have hg5b:w.heap.size <= g5:=Nat.le_trans HB2.out.size hg5
   subst e6
   clear hJ hT e5 hz CV CO CQ R1 RR HB2 hl hall hg5
   have R5:=zh hr5
   clear hr5
   have CC:=zh fun X (h:Below W.heap.size W X) => zmt D V HFR.out _ X (HT.out.td.below h zn)
   obtain ⟨N,hN⟩:=zx D.n
   have hn64:N <= 64:=by rw [hN]; exact HFR.out.n64
   have hpos:1 <= N:=by rw [hN]; exact HFR.out.pos
   rw [<- hN] at CC
   have HN:=zh hN
   clear hN
   simp only [putS,zp]
   have b0:=R5.out.cell
   have q0:=b0 0; have q1:=b0 1; have q2:=b0 2; have q3:=b0 3
   simp only [zg] at q0 q1 q2 q3
   clear b0
   go_wp2_with (go_at_call 102; refine (CC.out _ (Below.refl _ _)).mono ?_; rintro e w3 ⟨A,c,rfl,hb3,ho3⟩; have HB3:=zh hb3; have HO3:=zh ho3; clear hb3 ho3 q0 q1 q2 q3 CC)
   obtain ⟨gc,cc,e,hgc1,hgc2,hcl⟩:=HO3.out.at hpos
   obtain ⟨rfl,rfl⟩:A = some ⟨gc,0,none⟩ /\ c = cc:=by simp only [Value.slice.injEq,true_and] at e; exact e
   clear e
   have HCL:=zh hcl
   clear hcl
   obtain ⟨cl,hcl⟩:=zx D.coar
   rw [<- hcl] at HO3 HCL
   go_loopg [7,8] N (fun gk q7 q8 X => ∃ (s:Nat) (A:Option Addr) (k c:Nat),s <= N /\ gk = N - s /\ q7 = .slice A k c /\ q8 = .int .i64 s /\ Below w3.heap.size w3 X /\ k = (fixT cl s).length /\ O1 X w3.heap.size (.slice A k c) (oI (fixT cl s)))
   case atStart => exact ⟨0,_,_,_,Nat.zero_le _,rfl,rfl,rfl,Below.refl _ _,rfl,VO.nil _ _ _⟩
   case round =>
    obtain ⟨s,A,k,c,hsN,rfl,rfl,rfl,hbX,hk,hoX⟩:=hrel
    by_cases hlt:s < N
    ·have hlti:(s:Int) < (N:Int):=by omega
     have hcs:=(hbX.cell (p:=⟨gc,s,none⟩) hgc2).trans (HCL.out s hlt)
     have hst:=zo6 cl s
     have hk64:k <= 64:=by have:=zq6 cl s; omega
     have HBX:=zh hbX; have HOX:=zh hoX; have HK:=zh hk
     clear hbX hoX hk
     by_cases hc:cl s = s
     ·rw [if_pos hc] at hst
      rw [hc] at hcs
      have HST:=zh hst
      clear hst hc
      go_wp2_with (at_builtin; refine zaa eI rfl (.tmp 36) (.tmp 38) rfl w3.heap.size _ _ rfl (VO.allocd HOX.out _) _ [.int .i64 (s:Int)] rfl (VS.one (Row.new _ _ _)) (by intro u hu; simp at hu; subst hu; rfl) (by rw [zag,zaj,<- HK.out]; simp; omega) (by have:=HBX.out.size; simp only [World.size_alloc]; omega) ?_; intro v4 w4 ho4 hg4 _; obtain ⟨A4,c4,rfl⟩:=VO.formN (n:=k + 1) ho4 (by rw [List.length_append,zag,zaj,<- HK.out]; rfl); have HO4:=zh ho4; have HG4:=zh hg4; clear ho4 hg4)
      have hIN:Hid (Below w3.heap.size w3 w4):=zae (w:=w3) (HBX.out.alloc (by have:=HBX.out.size; omega) _) (VO.allocd HOX.out _) HG4.out (by have:=HBX.out.size; simp only [World.size_alloc]; omega)
      go_roundg (N - (s + 1))
      case rel => exact ⟨s + 1,A4,k + 1,c4,by omega,rfl,rfl,by go_num,hIN.out,by rw [HST.out,List.length_append,<- HK.out]; rfl,by have:=HO4.out; rw [<- zce,<- zdx,<- HST.out] at this; exact this⟩
      case measure => omega
     ·rw [if_neg hc] at hst
      have HST:=zh hst
      have hci:((cl s:Nat):Int) ≠ (s:Int):=by omega
      have hcb:(((cl s:Nat):Int) == (s:Int)) = false:=by rw [beq_eq_false_iff_ne]; exact hci
      clear hst hc hci
      obtain ⟨y,hy⟩:=zx (cl s)
      rw [<- hy] at hcs hcb
      clear hy
      go_wp2
      go_roundg (N - (s + 1))
      case rel => exact ⟨s + 1,A,k,c,by omega,rfl,rfl,by go_num,HBX.out,by rw [HST.out]; exact HK.out,by rw [HST.out]; exact HOX.out⟩
      case measure => omega
    ·obtain rfl:N = s:=by omega
     have hlti:¬ ((N:Nat):Int) < (N:Int):=by omega
     have e7:fixT cl N = D.fixed D.coar:=by rw [hcl,HN.out]; rfl
     rw [e7] at hoX hk
     have hq:=zh (Dta.quoL_fit HFR.out)
     have HQ:=zh fun Y (h:Below wr.heap.size wr Y) vo vc (ho:N1 Y vo (oI (D.fixed D.coar))) (hc:N1 Y vc (oI ((List.range D.n).map D.coar))) => zdk D V HFR.out (D.fixed D.coar) D.coar (Dta.coar_in HFR.out.ok HFR.out.ok.he) (fun a ha b hb x hx => Dta.coar_in HFR.out.ok (HFR.out.ok.hn _ _ _ ((D.fixed_mem _ _).1 ha).1 ((D.fixed_mem _ _).1 hb).1 hx)) (fun a ha => ((D.fixed_mem _ _).1 ha).1) (Nat.le_trans (zbl (D.fixed_nodup _) (fun a ha => ((D.fixed_mem _ _).1 ha).1)) HFR.out.n64) _ vo vc Y (((HT.out.td.below HB3.out zn).below hbX zn).below h zn) ho hc
     have HN1:=zh (And.intro hoX.n1 (show N1 wr _ (oI ((List.range D.n).map D.coar)) from by have:=(HO3.out.below hbX zn).n1; rw [hcl] at this; rw [<- HN.out]; exact this))
     have HX:=zh (HBB.out.trans ((HB3.out.trans (hbX.mono HB3.out.size)).mono HBB.out.size))
     have RQ2:=zh ((RQ.out.below HB3.out RQ.out.lt).below hbX (by have:=RQ.out.lt; have:=HB3.out.size; omega))
     have R52:=(R5.out.below HB3.out R5.out.lt).below hbX (by have:=R5.out.lt; have:=HB3.out.size; omega)
     have b0:=R52.cell
     have q0:=b0 0; have q1:=b0 1; have q2:=b0 2; have q3:=b0 3
     simp only [zg] at q0 q1 q2 q3
     clear hbX hoX hk b0 R52 HT HBB R5 RQ HB3 HO3 HCL hcl e7 HFR
     rw [<- HMM.out] at hq HQ
     go_upto_region 13 with (go_at_call 99; refine (HQ.out _ (Below.refl _ _) _ _ HN1.out.1 HN1.out.2).mono ?_; rintro e w5 ⟨v5,rfl,hb5,ho5⟩; obtain ⟨j0,j1,A5,n5,c5,A6,n6,c6,rfl⟩:=ho5.shape; have HB5:=zh hb5; have HO5:=zh ho5; clear hb5 ho5 HQ HN1 q0 q1 q2 q3)
     refine zab (fun Y => Below w5.heap.size w5 Y /\ Row Y w5.heap.size 25 #[.int .i64 j0,.int .i64 j1,.slice A5 n5 c5,.slice A6 n6 c6]) ⟨by go_grown,by first | exact Row.new _ _ _ | (refine Row.lit ?_; simp only [World.size_alloc] <;> omega)⟩ ?_
     rintro Y ⟨hY,r9⟩
     obtain ⟨g9,hg9⟩:=zx w5.heap.size
     rw [<- hg9] at r9
     rw [<- hg9]
     have hlq:=RQ2.out.lt
     have hsz:=HB5.out.size
     clear hne
     have hne:g9 ≠ gq:=by omega
     have R9:=zh r9
     have RQ:=zh ((RQ2.out.below HB5.out RQ2.out.lt).below hY (by omega))
     have HBY:=zh (HX.out.trans ((HB5.out.trans (hY.mono hsz)).mono HX.out.size))
     have HM:=zh ((HO5.out.below hY zn).td)
     clear hY r9 RQ2 HX HB5 HO5 hlq hsz hg9
     have CV:=zh fun W (h:Below Y.heap.size Y W) => zjp M V hq.out _ W (HM.out.below h zn)
     have CO:=zh fun W (h:Below Y.heap.size Y W) => own19 M V hq.out _ W (HM.out.below h zn)
     have CQ:=zh fun W (h:Below Y.heap.size Y W) vo vc (ho:N1 W vo (oI M.order)) (hc:N1 W vc (oI (List.range M.n))) => zdk M V hq.out M.order (fun s => s) (List.mem_of_getElem? M.order_zero) (fun a ha b hb x hx => (M.order_iff hq.out.ok _).2 ((M.order_acc a ha).step (M.order_acc b hb) hx)) (fun a ha => (M.order_acc a ha).lt hq.out.ok) (Nat.le_trans (M.order_len hq.out.ok) hq.out.n64) _ vo vc W (HM.out.below h zn) ho (by rw [List.map_id']; exact hc)
     refine zbk (by kernel_rfl) (by kernel_rfl) [44,45,46,47,48,49,3] [undef,undef,undef,undef,undef,undef,.int .i64 0] ?_ ?_ (fun f vs W => ∃ u0 u1 u2 u3 u4 u5 u6,vs = [u0,u1,u2,u3,u4,u5,u6] /\ VqJ w Y M V g9 gq (.int .i64 j0) (.int .i64 j1) (.slice A5 n5 c5) (.slice A6 n6 c6) f u0 u1 u2 u3 u4 u5 u6 W) ?_ ?_ ?_
     ·rfl
     ·simp only [putS,zp]
     ·exact ⟨_,_,_,_,_,_,_,rfl,⟨by simp,by simp,by simp,by simp,by simp,by simp,rfl,by simp,by simp,HBY.out.drew,fun _ => (Below.refl _ _).drew,R9.out.drew,fun _ => RQ.out.drew,by simp⟩⟩
     ·refine zah.cons ?_ (zah.cons ?_ (zah.cons ?_ (zah.cons ?_ (zah.cons ?_ (zah.cons ?_ (zah.cons ?_ (zah.cons ?_ (zah.nil))))))))
      ·rintro f vs W hl hf hd ⟨u0,u1,u2,u3,u4,u5,u6,rfl,hJ⟩ K hK
       have y0:=hJ.rp.cell
       have q0:=y0 0; have q1:=y0 1; have q2:=y0 2; have q3:=y0 3
       simp only [zg] at q0 q1 q2 q3
       clear y0
       have HJ:=zh hJ
       clear hJ
       simp only [putS,zp]
       go_simp
       have hz:=hK.out [_,u1,u2,u3,u4,u5,u6] W rfl ⟨_,_,_,_,_,_,_,rfl,{ HJ.out with h0:=fun _ => rfl }⟩
       simp only [putS,zp] at hz
       exact hz
      ·rintro f vs W hl hf hd ⟨u0,u1,u2,u3,u4,u5,u6,rfl,hJ⟩ K hK
       have y0:=hJ.rp.cell
       have q0:=y0 0; have q1:=y0 1; have q2:=y0 2; have q3:=y0 3
       simp only [zg] at q0 q1 q2 q3
       clear y0
       have HJ:=zh hJ
       clear hJ
       simp only [putS,zp]
       go_simp
       have hz:=hK.out [u0,_,u2,u3,u4,u5,u6] W rfl ⟨_,_,_,_,_,_,_,rfl,{ HJ.out with h1:=fun _ => rfl }⟩
       simp only [putS,zp] at hz
       exact hz
      ·rintro f vs W hl hf hd ⟨u0,u1,u2,u3,u4,u5,u6,rfl,hJ⟩ K hK
       have e1:=hJ.h1 (zao hd 1 (by kernel_rfl))
       subst e1
       have d5:f 5 = false:=no_of (fun e => (hJ.o5 e).1) hf
       have HS:=zh (hJ.sees (no_of hJ.o6 d5))
       clear d5
       have HJ:=zh hJ
       clear hJ
       simp only [putS,zp]
       go_simp
       go_at_call 100
       refine (CV.out W HS.out).mono ?_
       rintro e wx ⟨A,c,rfl,hb,ho⟩
       have hz:=hK.out [u0,_,_,u3,u4,u5,u6] wx rfl ⟨_,_,_,_,_,_,_,rfl,HJ.out.call2 hf hb ho⟩
       simp only [putS,zp] at hz
       exact hz
      ·rintro f vs W hl hf hd ⟨u0,u1,u2,u3,u4,u5,u6,rfl,hJ⟩ K hK
       have y0:=hJ.rp.cell
       have q0:=y0 0; have q1:=y0 1; have q2:=y0 2; have q3:=y0 3
       simp only [zg] at q0 q1 q2 q3
       clear y0
       have HJ:=zh hJ
       clear hJ
       simp only [putS,zp]
       go_simp
       have hz:=hK.out [u0,u1,u2,_,u4,u5,u6] W rfl ⟨_,_,_,_,_,_,_,rfl,{ HJ.out with h3:=fun _ => rfl }⟩
       simp only [putS,zp] at hz
       exact hz
      ·rintro f vs W hl hf hd ⟨u0,u1,u2,u3,u4,u5,u6,rfl,hJ⟩ K hK
       have e3:=hJ.h3 (zao hd 3 (by kernel_rfl))
       subst e3
       have d5:f 5 = false:=no_of (fun e => (hJ.o5 e).2) hf
       have HS:=zh (hJ.sees (no_of hJ.o6 d5))
       clear d5
       have HJ:=zh hJ
       clear hJ
       simp only [putS,zp]
       go_simp
       go_at_call 101
       refine (CO.out W HS.out).mono ?_
       rintro e wx ⟨A,c,rfl,hb,ho⟩
       have hz:=hK.out [u0,u1,u2,_,_,u5,u6] wx rfl ⟨_,_,_,_,_,_,_,rfl,HJ.out.call4 hf hb ho⟩
       simp only [putS,zp] at hz
       exact hz
      ·rintro f vs W hl hf hd ⟨u0,u1,u2,u3,u4,u5,u6,rfl,hJ⟩ K hK
       have d2:=zao hd 2 (by kernel_rfl); have d4:=zao hd 4 (by kernel_rfl)
       have e0:=hJ.h0 (zao hd 0 (by kernel_rfl))
       subst e0
       have f5:f 5 = false:=hf
       have f6:=no_of hJ.o6 f5
       have hN2:=(hJ.h2 d2 f6).n1; have hN4:=(hJ.h4 d4 f6).n1
       have HQ:=zh (CQ.out W (hJ.sees f6) _ _ hN2 hN4)
       revert hK
       generalize hgen:(Shut _ -> _) = G
       obtain ⟨Ao,co,rfl,_⟩:=hN2.open
       obtain ⟨Ac,cc,rfl,_⟩:=hN4.open
       subst hgen
       intro hK
       have HD:=zh (And.intro d2 d4)
       clear d2 d4 hN2 hN4 f5 f6
       have HJ:=zh hJ
       clear hJ
       simp only [putS,zp]
       go_simp
       go_at_call 99
       refine HQ.out.mono ?_
       rintro e wx ⟨v',rfl,hb,ho⟩
       have hz:=hK.out [_,u1,_,u3,_,_,u6] wx rfl ⟨_,_,_,_,_,_,_,rfl,HJ.out.call5 hf hb ho HD.out.1 HD.out.2⟩
       simp only [putS,zp] at hz
       exact hz
      ·rintro f vs W hl hf hd ⟨u0,u1,u2,u3,u4,u5,u6,rfl,hJ⟩ K hK
       have d5:=zao hd 5 (by kernel_rfl)
       revert hK
       generalize hgen:(Shut _ -> _) = G
       obtain ⟨j0,j1,A5,n5,c5,A6,n6,c6,rfl⟩:=(hJ.h5 d5).shape
       subst hgen
       intro hK
       have hf':f 6 = false:=hf
       have rq:=hJ.rq hf'
       have y0:=rq.cell; have y1:=rq.free; have y2:=rq.lt
       have q0:=y0 0; have q1:=y0 1; have q2:=y0 2; have q3:=y0 3
       simp only [zg] at q0 q1 q2 q3
       have HD:=zh d5
       clear y0 rq d5 hf'
       have HJ:=zh hJ
       clear hJ
       simp only [putS,zp]
       go_simp
       have hz:=hK.out [u0,u1,u2,u3,u4,_,u6] (set4 W gq (.int .i64 j0) (.int .i64 j1) (.slice A5 n5 c5) (.slice A6 n6 c6)) rfl ⟨_,_,_,_,_,_,_,rfl,HJ.out.store hf HD.out hne hgb _ _ _ _ rfl⟩
       simp only [putS,zp] at hz
       unfold set4 at hz
       exact hz
      ·rintro f vs W hl hf hd ⟨u0,u1,u2,u3,u4,u5,u6,rfl,hJ⟩ K hK
       have HJ:=zh hJ
       clear hJ
       simp only [putS,zp]
       go_simp
       have hz:=hK.out [u0,u1,u2,u3,u4,u5,_] W rfl ⟨_,_,_,_,_,_,_,rfl,{ HJ.out with h6:=rfl }⟩
       simp only [putS,zp] at hz
       exact hz
     ·rintro f vs W hl hall ⟨u0,u1,u2,u3,u4,u5,u6,rfl,hJ⟩
      obtain ⟨z0,z1,z2,z3,e5,hrow⟩:=hJ.rs (hall 6 (by decide))
      have hT:=hJ.h5 (hall 5 (by decide))
      rw [e5] at hT
      have HT:=zh hT; have HBB:=zh hJ.below
      have e6:=hJ.h6
      have b0:=hrow.cell
      have q0:=b0 0; have q1:=b0 1; have q2:=b0 2; have q3:=b0 3
      simp only [zg] at q0 q1 q2 q3
      subst e6
      clear hJ b0 hrow hT e5
      simp only [putS,zp]
      go_wp2
      refine bodyPost_ret (v:=.tuple #[.agg #[z0,z1,z2,z3],.int .i64 0]) (by simp [results,Tryz.results53,go_sem,q0,q1,q2,q3]) rfl ?_
      exact ⟨_,rfl,HBB.out,HT.out⟩
 ·obtain ⟨k,hk⟩:=zx r.check
  have HZ:=zh (show resR Dta.miniR r = zeroR from zct h0)
  rw [HZ.out]
  rw [<- hk] at h0 hck ⊢
  have h0':((k:Int) != 0) = true:=by rw [bne_iff_ne]; omega
  obtain ⟨A3,c3,A4,c4,rfl⟩:=hv.form
  obtain ⟨n,hn⟩:=zx r.next.length
  obtain ⟨m,hm⟩:=zx r.fin.length
  obtain ⟨i0,hV⟩:=zx r.vars
  obtain ⟨i1,hE⟩:=zx r.empty
  rw [<- hn,<- hm,<- hV,<- hE] at hck ⊢
  have HC:=zh hck
  clear hck hv hk hn hm hV hE hs h0 HZ
  go_enter Tryz.func53,Tryz.ntmps53
  go_wp2_with (go_at_call 52; refine (HC.out _ (by go_grown)).mono ?_; rintro e w2 ⟨rfl,hb2⟩; have X:=zbq hb2; have HB2:=zh X.1; have R1:=zh X.2.1; have RR:=zh X.2.2; have y0:=X.2.1.cell; have y2:=X.2.2.cell; have y3:=X.2.2.free; clear hb2 X)
  refine zad (fun W => Row W (w.heap.size + 1) 25 #[.int .i64 0,.int .i64 0,.slice none 0 0,.slice none 0 0] /\ TDO W w2.heap.size zeroV zeroR /\ Below w.heap.size w W) (zam RR.out (zai _ _) HB2.out (by omega)) ?_
  clear y0 y2 y3
  rintro W5 ⟨r0,hT,hb⟩
  have b0:=r0.cell
  have q0:=b0 0; have q1:=b0 1; have q2:=b0 2; have q3:=b0 3
  simp only [zg] at q0 q1 q2 q3
  have HB:=zh hb
  clear b0 r0 hT hb
  exact bodyPost_ret (v:=.tuple #[zeroV,.int .i64 (k:Int)]) (by simp [results,Tryz.results53,go_sem,q0,q1,q2,q3,zeroV]) rfl ⟨_,rfl,HB.out,zai _ _⟩
theorem Dta.raw_fine {d:Dta} {V:Nat} (h:d.Fit V):(d.raw V).Fine:=by
 have h64:=h.n64; have h8:=h.L8.2
 refine ⟨by rw [(d.raw_len V).1]; omega,by rw [(d.raw_len V).2]; omega,?_⟩
 intro l hl
 obtain ⟨i,_,rfl⟩:=List.mem_map.1 hl
 refine ⟨by simp; omega,?_⟩
 intro k hk
 obtain ⟨j,_,rfl⟩:=List.mem_map.1 hk
 simp; omega
theorem zhw {D:Dta} {V:Nat} (h:D.Fit V):resR Dta.mini (D.raw V) = D.mini.raw V:=by
 have hc:=D.raw_check h
 obtain ⟨V',hd,hr⟩:=Raw.check_ok hc
 have hV:V = V':=by
  have h1:((V:Nat):Int) = (V':Int):=congrArg Raw.vars hr
  omega
 subst hV
 rw [zfz (D:=(D.raw V).dta) hc rfl]
 have hL:(D.raw V).dta.L = D.L:=hd.L.trans h.L.symm
 have hs:(D.raw V).dta.Same D:=zqg hL hr.symm
 have hm:=(Dta.mini_same hd.ok h.ok hL fun t ht => (hs.lang h.ok t ht).2).1
 obtain ⟨c1,c2,_⟩:=(D.raw V).dta.mini_canon hd.ok
 obtain ⟨_,d2,_⟩:=D.mini_canon h.ok
 exact hm.raw c1.ok (c2.trans (hL.trans d2.symm)) V
theorem zef (d:Dta) (V:Nat) (hd:d.Fit V) (v:Value) (w:World) (hv:TD w v (d.raw V)):Calls Tryz.prog 53 #[v] w (RetR w (d.mini.raw V) 0):=by
 have h:=zmf (d.raw V) v w hv (by have:=hd.n64; exact ⟨by rw [(d.raw_len V).1]; omega,by rw [(d.raw_len V).2]; omega⟩)
 rw [zma,zhw hd,d.raw_check hd] at h
 exact h
def za8 (r:Raw):Bool:=decide (r.check = 0) && zb7 r.dta
theorem zmq (d:Dta):zb7 d = !((List.range d.renum.n).any d.renum.fin):=rfl
set_option maxRecDepth 100000 in
set_option maxHeartbeats 4000000 in
theorem zpz (r:Raw) (va:Value) (w:World) (hva:TD w va r) (hs:Small r) :
  Calls Tryz.prog 21 #[va] w fun e w' => e = .returned (.tuple #[.bool (za8 r),.int .i64 (r.check:Nat)]) /\ Below w.heap.size w w':=by
 by_cases h0:r.check = 0
 ·obtain ⟨V,hd,hr⟩:=Raw.check_ok h0
  have h:=zls r.dta V hd va w (by rw [<- hr]; exact hva)
  unfold za8
  rw [h0]
  simpa using h
 ·have hre:=fun W (h:Below w.heap.size w W) => zjj r va W (hva.below h zn) hs
  rw [zct h0] at hre
  have he:za8 r = false:=by unfold za8; simp [h0]
  rw [he]
  obtain ⟨A1,c1,A2,c2,rfl⟩:=hva.form
  obtain ⟨k,hk⟩:=zx r.check
  obtain ⟨n1,h1⟩:=zx r.next.length
  obtain ⟨n2,h2⟩:=zx r.fin.length
  obtain ⟨V1,h5⟩:=zx r.vars
  obtain ⟨E1,h6⟩:=zx r.empty
  rw [<- h1,<- h2,<- h5,<- h6,<- hk] at hre ⊢
  rw [<- hk] at h0
  have hk0:((k:Int) == 0) = false:=by rw [beq_eq_false_iff_ne]; omega
  have HRE:=zh hre
  clear hre hva hk h1 h2 h5 h6 hs he h0
  go_enter Tryz.func21,Tryz.ntmps21
  go_upto_region 1 with fail
  refine zab (fun W => Below w.heap.size w W /\ Row W w.heap.size 25 #[.int .i64 V1,.int .i64 E1,.slice A1 n1 c1,.slice A2 n2 c2]) ⟨by go_grown,Row.new _ _ _⟩ ?_
  rintro W ⟨hb,r1⟩
  have y0:=r1.cell
  have HB:=zh hb
  clear hb r1
  go_upto_region 2 with (go_at_call 70; refine (HRE.out _ HB.out).mono ?_; intro e w6 h6; obtain ⟨A6,c6,A7,c7,rfl,hb6,ht6⟩:=h6.unfold; have HT:=zh ht6; have HB6:=zh (HB.out.trans (hb6.mono HB.out.size)); clear h6 hb6 ht6)
  clear y0
  refine zab (fun X => Below w.heap.size w X) (by have:=HB6.out; have:=this.size; go_grown) ?_
  rintro X hb
  have HBX:=zh hb
  clear hb
  go_wp2
  go_returns
  exact ⟨rfl,HBX.out⟩
set_option maxRecDepth 100000 in
set_option maxHeartbeats 4000000 in
theorem zkb (r:Raw) (va:Value) (w:World) (hva:TD w va r) (hs:Small r) :
  Calls Tryz.prog 22 #[va] w fun e w' => e = .returned (.tuple #[.bool (za8 r),.int .i64 (r.check:Nat)]) /\ Below w.heap.size w w':=by
 have hre:=fun W (h:Below w.heap.size w W) => zmb r va W (hva.below h zn) hs
 obtain ⟨k,hk⟩:=zx r.check
 rw [<- hk] at hre ⊢
 by_cases h0:k = 0
 ·obtain ⟨V,hd,hr⟩:=Raw.check_ok (hk ▸ h0)
  have hV:r.vars = V:=by rw [hr]; rfl
  have hres:resR Dta.renum r = r.dta.renum.raw V:=zfz (D:=r.dta) (hk ▸ h0) hV
  rw [hres,h0] at hre
  have hes:za8 r = !((List.range r.dta.renum.n).any r.dta.renum.fin):=by unfold za8; rw [<- hk,h0]; simp [zmq]
  rw [h0,hes]
  have hdn:=hd.renum
  obtain ⟨D,hD⟩:=zx r.dta.renum
  rw [<- hD] at hre hdn ⊢
  have hpos:=hdn.pos; have hn64:=hdn.n64
  obtain ⟨Z,hZ⟩:=zx (!((List.range D.n).any D.fin))
  rw [<- hZ]
  have HZ:=zh hZ
  clear hZ
  obtain ⟨A1,c1,A2,c2,rfl⟩:=hva.form
  obtain ⟨n1,h1⟩:=zx r.next.length
  obtain ⟨n2,h2⟩:=zx r.fin.length
  obtain ⟨V1,h5⟩:=zx r.vars
  obtain ⟨E1,h6⟩:=zx r.empty
  rw [<- h1,<- h2,<- h5,<- h6] at hre ⊢
  have HRE:=zh hre
  clear hre hva hk h1 h2 h5 h6 hs h0 hr hV hres hes hd hD hdn
  go_enter Tryz.func22,Tryz.ntmps22
  go_upto_region 1 with fail
  refine zab (fun W => Below w.heap.size w W /\ Row W w.heap.size 25 #[.int .i64 V1,.int .i64 E1,.slice A1 n1 c1,.slice A2 n2 c2]) ⟨by go_grown,Row.new _ _ _⟩ ?_
  rintro W ⟨hb,r1⟩
  have y0:=r1.cell
  have HB:=zh hb
  clear hb r1
  go_upto_region 2 with (go_at_call 72; refine (HRE.out _ HB.out).mono ?_; intro e w6 h6; obtain ⟨A6,c6,A7,c7,rfl,hb6,ht6⟩:=h6.unfold; have HT:=zh ht6; have HB6:=zh (HB.out.trans (hb6.mono HB.out.size)); clear h6 hb6 ht6)
  clear y0
  have hfin:=HT.out.td
  obtain ⟨vn,vf,hvv,_,hnb⟩:=hfin
  simp only [Value.agg.injEq,Array.mk.injEq,List.cons.injEq,and_true,true_and] at hvv
  obtain ⟨-,rfl⟩:=hvv
  rw [(D.raw_len V).2] at hnb
  rw [(D.raw_len V).2,(D.raw_len V).1]
  have hq:=(show NB w6 (.slice A7 D.n c7) ((List.range D.n).map D.fin) from hnb).at hpos
  obtain ⟨bk,ok,ck,e,hk1,hbk,hk2⟩:=hq
  simp only [Value.slice.injEq,true_and] at e
  obtain ⟨rfl,rfl⟩:=e
  have HK:=zh hk2
  obtain ⟨i0,hi0⟩:=zx ((D.raw V).vars)
  obtain ⟨i1,hi1⟩:=zx ((D.raw V).empty)
  rw [<- hi0,<- hi1]
  refine zab (fun X => Below w.heap.size w X /\ Below w6.heap.size w6 X /\ Row X w6.heap.size 25 #[.int .i64 i0,.int .i64 i1,.slice A6 D.n c6,.slice (some ⟨bk,ok,none⟩) D.n c7])
   ⟨by have:=HB6.out; have:=this.size; go_grown,by go_grown,Row.new _ _ _⟩ ?_
  rintro X ⟨hb,hb6,r1⟩
  have y0:=r1.cell; have y1:=r1.lt
  have HBX:=zh hb
  have HC:=zh fun s (h:s < D.n) => (hb6.cell (p:=⟨bk,ok + s,none⟩) hbk).trans (HK.out s h)
  obtain ⟨g4,hg4⟩:=zx w6.heap.size
  rw [<- hg4] at y0 y1
  rw [<- hg4]
  obtain ⟨N,hN⟩:=zx D.n
  rw [<- hN] at HZ HC y0 hpos hn64 hk1 ⊢
  have q0:=y0 0; have q1:=y0 1; have q2:=y0 2; have q3:=y0 3
  simp only [zg] at q0 q1 q2 q3
  clear hb hb6 r1 hnb hk2 HK HT HB6 HB HRE y0 hi0 hi1 hg4 hN
  go_wp2
  go_loopg [6] N (fun gk q6 Y => ∃ s:Nat,s <= N /\ gk = N - s /\ q6 = .int .i64 s /\ Y = X /\ (List.range s).any D.fin = false)
  case atStart => exact ⟨0,Nat.zero_le _,rfl,rfl,rfl,rfl⟩
  case round =>
   obtain ⟨s,hs,rfl,rfl,rfl,ha⟩:=hrel
   by_cases hlt:s < N
   ·have hlti:(s:Int) < (N:Int):=by omega
    have hc:=HC.out s hlt
    cases hb:D.fin s with
    | false =>
     rw [hb] at hc
     have HA:=zh (show (List.range (s + 1)).any D.fin = false by rw [List.range_succ,List.any_append,ha]; simp [hb])
     clear ha hb
     go_wp2
     go_roundg (N - (s + 1))
     case rel => exact ⟨s + 1,by omega,rfl,by go_num,rfl,HA.out⟩
     case measure => omega
    | true =>
     rw [hb] at hc
     have HA:=zh (show (List.range N).any D.fin = true from List.any_eq_true.2 ⟨s,List.mem_range.2 hlt,hb⟩)
     clear ha hb
     go_wp2
     go_returns
     exact ⟨by rw [HZ.out,HA.out]; rfl,HBX.out⟩
   ·obtain rfl:N = s:=by omega
    have hlti:¬ ((N:Nat):Int) < (N:Int):=by omega
    have HA:=zh ha
    clear ha
    go_wp2
    go_returns
    exact ⟨by rw [HZ.out,HA.out]; rfl,HBX.out⟩
 ·have hk0:((k:Int) != 0) = true:=by rw [bne_iff_ne]; omega
  have he:za8 r = false:=by unfold za8; rw [<- hk]; simp [h0]
  rw [he]
  rw [zct (hk ▸ h0)] at hre
  obtain ⟨A1,c1,A2,c2,rfl⟩:=hva.form
  obtain ⟨n1,h1⟩:=zx r.next.length
  obtain ⟨n2,h2⟩:=zx r.fin.length
  obtain ⟨V1,h5⟩:=zx r.vars
  obtain ⟨E1,h6⟩:=zx r.empty
  rw [<- h1,<- h2,<- h5,<- h6] at hre ⊢
  have HRE:=zh hre
  clear hre hva hk h1 h2 h5 h6 hs he h0
  go_enter Tryz.func22,Tryz.ntmps22
  go_upto_region 1 with fail
  refine zab (fun W => Below w.heap.size w W /\ Row W w.heap.size 25 #[.int .i64 V1,.int .i64 E1,.slice A1 n1 c1,.slice A2 n2 c2]) ⟨by go_grown,Row.new _ _ _⟩ ?_
  rintro W ⟨hb,r1⟩
  have y0:=r1.cell
  have HB:=zh hb
  clear hb r1
  go_upto_region 2 with (go_at_call 72; refine (HRE.out _ HB.out).mono ?_; intro e w6 h6; obtain ⟨A6,c6,A7,c7,rfl,hb6,ht6⟩:=h6.unfold; have HT:=zh ht6; have HB6:=zh (HB.out.trans (hb6.mono HB.out.size)); clear h6 hb6 ht6)
  clear y0
  refine zab (fun X => Below w.heap.size w X) (by have:=HB6.out; have:=this.size; go_grown) ?_
  rintro X hb
  have HBX:=zh hb
  clear hb
  go_wp2
  go_returns
  exact ⟨rfl,HBX.out⟩
end Go.Proofs.YthkfjnmnoanhlaaGreatDoor
