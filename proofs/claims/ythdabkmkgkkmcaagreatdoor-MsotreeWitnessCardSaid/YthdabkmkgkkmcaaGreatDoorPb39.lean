/- Part 39 of the proof; it says: lemmas and contracts. No conditions but those that each theorem states. -/
import Derived.Test.YthdabkmkgkkmcaaGreatDoorPb01
import Derived.Test.YthdabkmkgkkmcaaGreatDoorPb22
import Derived.Test.YthdabkmkgkkmcaaGreatDoorPb30
import Derived.Test.YthdabkmkgkkmcaaGreatDoorPb35
import Derived.Test.YthdabkmkgkkmcaaGreatDoorPb37
import Derived.Test.YthdabkmkgkkmcaaGreatDoorPb38
set_option linter.unusedSimpArgs false
set_option linter.unusedVariables false
set_option maxRecDepth 100000
set_option maxHeartbeats 32000000
namespace Go.Proofs.YthdabkmkgkkmcaaGreatDoor
open Go.RowKit
abbrev aZ1:ByteArray:={ data:=#[40,108,101,102,116,32,65,32,66,41] }
abbrev aF1:List Mk:=[⟨7,0,1,0,0⟩]
theorem aP1:(zcy (bts aZ1)).1 = aF1:=by decide +kernel
abbrev aZ2:ByteArray:={ data:=#[40,97,110,100,32,40,108,101,102,116,32,65,32,66,41,32,40,114,105,103,104,116,32,65,32,66,41,41] }
abbrev aF2:List Mk:=[⟨7,0,1,0,0⟩,⟨8,0,1,0,0⟩,⟨10,0,0,0,1⟩]
theorem aP2:(zcy (bts aZ2)).1 = aF2:=by decide +kernel
abbrev aZ3:ByteArray:={ data:=#[40,101,120,105,115,116,115,32,65,32,40,97,110,100,32,40,115,105,110,103,108,101,32,65,41,32,40,115,117,98,32,65,32,66,41,41,41] }
abbrev aF3:List Mk:=[⟨4,0,0,0,0⟩,⟨2,0,1,0,0⟩,⟨10,0,0,0,1⟩,⟨12,0,0,2,0⟩]
theorem aP3:(zcy (bts aZ3)).1 = aF3:=by decide +kernel
abbrev aZ4:ByteArray:={ data:=#[40,101,97,99,104,32,65,32,40,110,111,116,32,40,108,101,115,115,32,65,32,65,41,41,41] }
abbrev aF4:List Mk:=[⟨6,0,0,0,0⟩,⟨9,0,0,0,0⟩,⟨15,0,0,1,0⟩]
theorem aP4:(zcy (bts aZ4)).1 = aF4:=by decide +kernel
abbrev aZ5:ByteArray:={ data:=#[40,115,111,109,101,32,65,32,40,115,117,98,32,65,32,65,41,41] }
abbrev aF5:List Mk:=[⟨2,0,0,0,0⟩,⟨14,0,0,0,0⟩]
theorem aP5:(zcy (bts aZ5)).1 = aF5:=by decide +kernel
abbrev aZ6:ByteArray:={ data:=#[40,108,101,115,115,32,65,32,66,41] }
abbrev aF6:List Mk:=[⟨6,0,1,0,0⟩]
theorem aP6:(zcy (bts aZ6)).1 = aF6:=by decide +kernel
abbrev aZ7:ByteArray:={ data:=#[40,115,105,110,103,108,101,32,65,41] }
abbrev aF7:List Mk:=[⟨4,0,0,0,0⟩]
theorem aP7:(zcy (bts aZ7)).1 = aF7:=by decide +kernel
abbrev aZ8:ByteArray:={ data:=#[116,114,117,101] }
abbrev aF8:List Mk:=[⟨1,0,0,0,0⟩]
theorem aP8:(zcy (bts aZ8)).1 = aF8:=by decide +kernel
abbrev aZ9:ByteArray:={ data:=#[40,110,101,120,116,32,65,32,66,41] }
abbrev aF9:List Mk:=[⟨5,0,1,0,0⟩]
theorem aP9:(zcy (bts aZ9)).1 = aF9:=by decide +kernel
theorem aK1:Tr.ok (.leaf 7 0 1):=by unfold Tr.ok; simp only [Tr.ok,zes,okUn]; decide
theorem aC1:zai aF1 2 true = 0:=by decide +kernel
theorem aK2:Tr.ok (.bin 10 (.leaf 7 0 1) (.leaf 8 0 1)):=by unfold Tr.ok; simp only [Tr.ok,zes,okUn]; decide
theorem aC2:zai aF2 2 true = 0:=by decide +kernel
theorem aK3:Tr.ok (.un 12 0 (.bin 10 (.leaf 4 0 0) (.leaf 2 0 1))):=by unfold Tr.ok; simp only [Tr.ok,zes,okUn]; decide
theorem aC3:zai aF3 2 true = 0:=by decide +kernel
theorem aK4:Tr.ok (.un 15 0 (.un 9 0 (.leaf 6 0 0))):=by unfold Tr.ok; simp only [Tr.ok,zes,okUn]; decide
theorem aC4:zai aF4 2 true = 0:=by decide +kernel
theorem aK5:Tr.ok (.un 14 0 (.leaf 2 0 0)):=by unfold Tr.ok; simp only [Tr.ok,zes,okUn]; decide
theorem aC5:zai aF5 2 true = 0:=by decide +kernel
theorem aK6:Tr.ok (.leaf 6 0 1):=by unfold Tr.ok; simp only [Tr.ok,zes,okUn]; decide
theorem aC6:zai aF6 2 true = 0:=by decide +kernel
theorem aK7:Tr.ok (.leaf 4 0 0):=by unfold Tr.ok; simp only [Tr.ok,zes,okUn]; decide
theorem aC7:zai aF7 2 true = 0:=by decide +kernel
theorem aK8:Tr.ok (.leaf 1 0 0):=by unfold Tr.ok; simp only [Tr.ok,zes,okUn]; decide
theorem aC8:zai aF8 2 true = 0:=by decide +kernel
theorem zn2 {V M:Nat} {t:Tr} {l:List Lf} {b:Bool} (h:satS V M t = (l,b,0)):∃ d,cmpT V M t = some d /\ zbf d = (l,b,0):=by
 unfold satS at h
 cases hd:cmpT V M t with
 | none => rw [hd] at h; simp at h
 | some d => rw [hd] at h; exact ⟨d,rfl,h⟩
theorem zk5 {V M:Nat} {t:Tr} {l:List Lf} {b:Bool} (h:zhj V M t = (l,b,0)):∃ d,cmpT V M t = some d /\ refS d.notM = (l,b,0):=by
 unfold zhj at h
 cases hd:cmpT V M t with
 | none => rw [hd] at h; simp at h
 | some d => rw [hd] at h; exact ⟨d,rfl,h⟩
theorem zrt {V M:Nat} {t u:Tr} {l:List Lf} {b:Bool} (h:zjs V M t u = (l,b,0)):∃ d e c1 c2 c,cmpT V M t = some d /\ cmpT V M u = some e /\ opC (fun p q => p && !q) d e = some c1 /\ opC (fun p q => p && !q) e d = some c2 /\ opC (fun p q => p || q) c1 c2 = some c /\ refS c = (l,b,0):=by
 unfold zjs at h
 cases hd:cmpT V M t with
 | none => rw [hd] at h; simp at h
 | some d =>
  rw [hd] at h
  cases he:cmpT V M u with
  | none => rw [he] at h; simp at h
  | some e =>
   rw [he] at h
   cases hc:eqvC d e with
   | none => simp [hc] at h
   | some c =>
    simp only [hc] at h
    unfold eqvC at hc
    obtain ⟨c1,h1,h2⟩:=Option.bind_eq_some_iff.1 hc
    obtain ⟨c2,h3,h4⟩:=Option.bind_eq_some_iff.1 h2
    exact ⟨d,e,c1,c2,c,rfl,rfl,h1,h3,h4,h⟩
theorem zdg {f:List Mk} {t:Tr} {d:Dta} (hc:zai f 2 true = 0) (ok:t.ok) (he:f = t.enc 0) (h:cmpT 2 64 t = some d):d.Fit 2 /\ compS f (2:Nat) (64:Nat) = (d.raw 2,0):=by
 obtain ⟨V,t',hV,ck⟩:=zd5 hc
 have hVV:V = 2:=by omega
 subst hVV
 have e1:=ze1 (V:=2) (M:=64) (by omega) (by omega) (by omega) hc ok he
 rw [h] at e1
 refine ⟨?_,e1⟩
 have hfit:=zd4 (V:=2) (M:=64) (by omega) (by omega) t (vOK_of t ok 0 fun m hm => ?_) d h
 ·exact hfit
 ·obtain ⟨_,_,h3⟩:=(zca f 2).1 hc
  exact (h3 m (by rw [he]; exact hm)).2
theorem zb2 (S:ByteArray) (w:World):Calls Tryz.prog 16 #[.string S] w (RetMO w (zcy (bts S)).1):=by
 have hp:=zqk S w
 generalize zcy (bts S) = r at *
 have HP:=zh hp; clear hp
 go_enter Tryz.func16,Tryz.ntmps16
 go_wp2_with (go_at_call 44; refine HP.out.mono ?_; rintro e w1 ⟨v,rfl,hb1,ho1⟩)
 go_returns
 exact ⟨v,rfl,hb1,ho1⟩
theorem is21 (t:List Lf) (S:ByteArray) (h:zch t = (bts S,0)) (b:Bool) (v:Value) (w:World) (hv:TS w v t):Calls Tryz.prog 32 #[v,.bool b,.int .i64 0,.string S,.bool b] w fun e w' => e = .returned (.bool true) /\ Below w.heap.size w w':=by
 have hf:=znj t v w hv
 rw [h] at hf
 have hS:(⟨(bts S).toArray⟩:ByteArray) = S:=by cases S; simp [bts]
 simp only [hS] at hf
 have HF:=zh hf
 clear hf hS
 cases b
 all_goals
  go_enter Tryz.func32,Tryz.ntmps32
  go_wp2_with (go_at_call 73; refine HF.out.mono ?_; rintro e w1 ⟨rfl,hb1⟩; have HB:=zh hb1; clear hb1)
  go_returns
  exact ⟨zdc (by simp),HB.out⟩
abbrev aT1:List Lf:=[⟨1,1,-1⟩,⟨2,-1,-1⟩]
abbrev aS1:ByteArray:={ data:=#[40,49,32,40,50,32,45,32,45,41,32,45,41] }
theorem aM1:zch aT1 = (bts aS1,0):=by decide +kernel
abbrev aT2:List Lf:=[]
abbrev aS2:ByteArray:={ data:=#[45] }
theorem aM2:zch aT2 = (bts aS2,0):=by decide +kernel
abbrev aT3:List Lf:=[⟨2,-1,-1⟩]
abbrev aS3:ByteArray:={ data:=#[40,50,32,45,32,45,41] }
theorem aM3:zch aT3 = (bts aS3,0):=by decide +kernel
abbrev aT4:List Lf:=[]
abbrev aS4:ByteArray:={ data:=#[45] }
theorem aM4:zch aT4 = (bts aS4,0):=by decide +kernel
abbrev aT5:List Lf:=[]
abbrev aS5:ByteArray:={ data:=#[45] }
theorem aM5:zch aT5 = (bts aS5,0):=by decide +kernel
abbrev aT6:List Lf:=[⟨1,-1,1⟩,⟨2,-1,-1⟩]
abbrev aS6:ByteArray:={ data:=#[40,49,32,45,32,40,50,32,45,32,45,41,41] }
theorem aM6:zch aT6 = (bts aS6,0):=by decide +kernel
theorem aQ1 (v:Value) (w:World) (hv:MS w v aF1):Calls Tryz.prog 26 #[v,.int .i64 2,.int .i64 64] w (RetSm w (aT1,true,0)):=by
 obtain ⟨d,h1,h2⟩:=zn2 c1
 obtain ⟨hf,hc⟩:=zdg aC1 aK1 rfl h1
 have q:=zi4 aF1 v 2 64 w hv d hf hc
 rw [h2] at q
 exact q
theorem aQ2 (v:Value) (w:World) (hv:MS w v aF2):Calls Tryz.prog 26 #[v,.int .i64 2,.int .i64 64] w (RetSm w (aT2,false,0)):=by
 obtain ⟨d,h1,h2⟩:=zn2 c2
 obtain ⟨hf,hc⟩:=zdg aC2 aK2 rfl h1
 have q:=zi4 aF2 v 2 64 w hv d hf hc
 rw [h2] at q
 exact q
theorem aQ3 (v:Value) (w:World) (hv:MS w v aF3):Calls Tryz.prog 26 #[v,.int .i64 2,.int .i64 64] w (RetSm w (aT3,true,0)):=by
 obtain ⟨d,h1,h2⟩:=zn2 c3
 obtain ⟨hf,hc⟩:=zdg aC3 aK3 rfl h1
 have q:=zi4 aF3 v 2 64 w hv d hf hc
 rw [h2] at q
 exact q
theorem aQ4 (v:Value) (w:World) (hv:MS w v aF4):Calls Tryz.prog 17 #[v,.int .i64 2,.int .i64 64] w (RetSm w (aT4,true,0)):=by
 obtain ⟨d,h1,h2⟩:=zk5 c4
 obtain ⟨hf,hc⟩:=zdg aC4 aK4 rfl h1
 have q:=zh6 aF4 v 2 64 w hv d hf hc
 rw [h2] at q
 exact q
theorem aQ5 (v:Value) (w:World) (hv:MS w v aF5):Calls Tryz.prog 17 #[v,.int .i64 2,.int .i64 64] w (RetSm w (aT5,false,0)):=by
 obtain ⟨d,h1,h2⟩:=zk5 c5
 obtain ⟨hf,hc⟩:=zdg aC5 aK5 rfl h1
 have q:=zh6 aF5 v 2 64 w hv d hf hc
 rw [h2] at q
 exact q
theorem aQ6 (v u:Value) (w:World) (hv:MS w v aF6) (hu:MS w u aF1):Calls Tryz.prog 33 #[v,u,.int .i64 2,.int .i64 64] w (RetSm w (aT6,false,0)):=by
 obtain ⟨d,e,c1,c2,c,h1,h2,h3,h4,h5,h6⟩:=zrt c6
 obtain ⟨hf,hc⟩:=zdg aC6 aK6 rfl h1
 obtain ⟨hf2,hc2⟩:=zdg aC1 aK1 rfl h2
 have q:=znk aF6 aF1 v u 2 64 w hv hu d e c1 c2 c hf hf2 hc hc2 h3 h4 h5
 rw [h6] at q
 exact q
def RetN (w:World) (n:Nat) (k:Int) (e:Ending) (w':World):Prop:=∃ i j A c A' n' c',e = .returned (.tuple #[.agg #[.int .i64 i,.int .i64 j,.slice A n c,.slice A' n' c'],.int .i64 k]) /\ Below w.heap.size w w'
theorem RetC.n {w w':World} {R:Raw × Int} {n:Nat} {e:Ending} (h:RetC w R e w') (hn:R.1.next.length = n):RetN w n R.2 e w':=by
 obtain ⟨A,m,c,A',n',c',rfl,hb,ht⟩:=h
 obtain ⟨B,d,B',d',ex⟩:=ht.form
 simp at ex
 obtain ⟨⟨_,rfl,_⟩,_⟩:=ex
 subst hn
 exact ⟨_,_,_,_,_,_,_,rfl,hb⟩
theorem aQ7 (v:Value) (w:World) (hv:MS w v aF7):Calls Tryz.prog 11 #[v,.int .i64 2,.int .i64 64] w (RetN w 3 0):=by
 obtain ⟨hf,hc⟩:=zdg aC7 aK7 rfl (za5 2 64 4 0 0)
 have q:=zax aF7 v 2 64 w hv
 rw [show compS aF7 2 64 = _ from hc] at q
 exact q.mono fun e w' h => h.n (((Dta.raw_len _ 2).1).trans c7)
theorem aQ8 (v:Value) (w:World) (hv:MS w v aF8):Calls Tryz.prog 11 #[v,.int .i64 2,.int .i64 64] w (RetN w 1 0):=by
 obtain ⟨hf,hc⟩:=zdg aC8 aK8 rfl (za5 2 64 1 0 0)
 have q:=zax aF8 v 2 64 w hv
 rw [show compS aF8 2 64 = _ from hc] at q
 exact q.mono fun e w' h => h.n (((Dta.raw_len _ 2).1).trans c8)
theorem aQ9 (v:Value) (w:World) (hv:MS w v aF9):Calls Tryz.prog 11 #[v,.int .i64 2,.int .i64 64] w (RetN w 0 6):=by
 have q:=zax aF9 v 2 64 w hv
 have e:compS aF9 2 64 = (zeroR,6):=by
  have hc:zai aF9 2 true = 6:=by decide +kernel
  unfold compS; rw [hc]; rfl
 rw [e] at q
 exact q.mono fun e w' h => h.n rfl
theorem aQ0 (v:Value) (w:World) (hv:MS w v aF8):Calls Tryz.prog 11 #[v,.int .i64 2,.int .i64 0] w (RetN w 0 1):=by
 have q:=zax aF8 v 2 0 w hv
 have e:compS aF8 2 0 = (zeroR,1):=by unfold compS; rw [if_neg (by rw [aC8]; decide),if_pos (by decide)]
 rw [e] at q
 exact q.mono fun e w' h => h.n rfl
theorem zky (w:World):Calls Tryz.prog 12 #[] w fun e w' => e = .returned (.bool true) /\ Below w.heap.size w w':=by
 go_enter Tryz.func12,Tryz.ntmps12
 go_upto_region 1 with fail
 have P1:=zh fun W => (show Calls Tryz.prog 16 #[.string aZ1] W (RetMO W aF1) from by have q:=zb2 aZ1 W; rw [aP1] at q; exact q)
 have P2:=zh fun W => (show Calls Tryz.prog 16 #[.string aZ2] W (RetMO W aF2) from by have q:=zb2 aZ2 W; rw [aP2] at q; exact q)
 have P3:=zh fun W => (show Calls Tryz.prog 16 #[.string aZ3] W (RetMO W aF3) from by have q:=zb2 aZ3 W; rw [aP3] at q; exact q)
 have P4:=zh fun W => (show Calls Tryz.prog 16 #[.string aZ4] W (RetMO W aF4) from by have q:=zb2 aZ4 W; rw [aP4] at q; exact q)
 have P5:=zh fun W => (show Calls Tryz.prog 16 #[.string aZ5] W (RetMO W aF5) from by have q:=zb2 aZ5 W; rw [aP5] at q; exact q)
 have P6:=zh fun W => (show Calls Tryz.prog 16 #[.string aZ6] W (RetMO W aF6) from by have q:=zb2 aZ6 W; rw [aP6] at q; exact q)
 have P7:=zh fun W => (show Calls Tryz.prog 16 #[.string aZ7] W (RetMO W aF7) from by have q:=zb2 aZ7 W; rw [aP7] at q; exact q)
 have P8:=zh fun W => (show Calls Tryz.prog 16 #[.string aZ8] W (RetMO W aF8) from by have q:=zb2 aZ8 W; rw [aP8] at q; exact q)
 have P9:=zh fun W => (show Calls Tryz.prog 16 #[.string aZ9] W (RetMO W aF9) from by have q:=zb2 aZ9 W; rw [aP9] at q; exact q)
 have HB:Hid (Below w.heap.size w w):=Below.refl _ _
 go_upto_region 2 with (first
  | (go_at_call 16; (with_reducible refine (P1.out _).mono ?_); rintro e wp ⟨vp,rfl,hb,ho⟩; have HBP:=zh hb; have HP:=zh ho.ms; clear hb ho)
  | (go_at_call 26; (with_reducible refine (aQ1 _ _ HP.out).mono ?_); rintro e ws ⟨us1,rfl,hb,ho⟩; have HBS:=zh hb; have HT:=zh ho.ts; clear hb ho))
 refine zaa (fun W => Below w.heap.size w W /\ TS W us1 aT1) ⟨HB.out.trans ((HBP.out.trans (HBS.out.mono HBP.out.size)).mono HB.out.size),HT.out⟩ ?_
 clear HB HBP HBS HP HT
 rintro W1 ⟨hb,h1⟩
 have HB:=zh hb
 have HT1:=zh h1
 clear hb h1
 go_upto_region 3 with (first
  | (go_at_call 16; (with_reducible refine (P2.out _).mono ?_); rintro e wp ⟨vp,rfl,hb,ho⟩; have HBP:=zh hb; have HP:=zh ho.ms; clear hb ho)
  | (go_at_call 26; (with_reducible refine (aQ2 _ _ HP.out).mono ?_); rintro e ws ⟨us2,rfl,hb,ho⟩; have HBS:=zh hb; have HT:=zh ho.ts; clear hb ho))
 refine zaa (fun W => Below w.heap.size w W /\ TS W us1 aT1 /\ TS W us2 aT2) ⟨HB.out.trans ((HBP.out.trans (HBS.out.mono HBP.out.size)).mono HB.out.size),HT1.out.below (HBP.out.trans (HBS.out.mono HBP.out.size)) zn,HT.out⟩ ?_
 clear HB HBP HBS HP HT HT1
 rintro W2 ⟨hb,h1,h2⟩
 have HB:=zh hb
 have HT1:=zh h1
 have HT2:=zh h2
 clear hb h1 h2
 go_upto_region 4 with (first
  | (go_at_call 16; (with_reducible refine (P3.out _).mono ?_); rintro e wp ⟨vp,rfl,hb,ho⟩; have HBP:=zh hb; have HP:=zh ho.ms; clear hb ho)
  | (go_at_call 26; (with_reducible refine (aQ3 _ _ HP.out).mono ?_); rintro e ws ⟨us3,rfl,hb,ho⟩; have HBS:=zh hb; have HT:=zh ho.ts; clear hb ho))
 refine zaa (fun W => Below w.heap.size w W /\ TS W us1 aT1 /\ TS W us2 aT2 /\ TS W us3 aT3) ⟨HB.out.trans ((HBP.out.trans (HBS.out.mono HBP.out.size)).mono HB.out.size),HT1.out.below (HBP.out.trans (HBS.out.mono HBP.out.size)) zn,HT2.out.below (HBP.out.trans (HBS.out.mono HBP.out.size)) zn,HT.out⟩ ?_
 clear HB HBP HBS HP HT HT1 HT2
 rintro W3 ⟨hb,h1,h2,h3⟩
 have HB:=zh hb
 have HT1:=zh h1
 have HT2:=zh h2
 have HT3:=zh h3
 clear hb h1 h2 h3
 go_upto_region 6 with (first
  | (go_at_call 32; (with_reducible refine (is21 aT1 aS1 aM1 true us1 _ HT1.out).mono ?_); rintro e wi ⟨rfl,hb⟩; have HC1:=zh hb; clear hb)
  | (go_at_call 32; (with_reducible refine (is21 aT2 aS2 aM2 false us2 _ (HT2.out.below HC1.out zn)).mono ?_); rintro e wi ⟨rfl,hb⟩; have HC2:=zh (HC1.out.trans (hb.mono HC1.out.size)); clear hb)
  | (go_at_call 32; (with_reducible refine (is21 aT3 aS3 aM3 true us3 _ (HT3.out.below HC2.out zn)).mono ?_); rintro e wi ⟨rfl,hb⟩; have HC3:=zh (HC2.out.trans (hb.mono HC2.out.size)); clear hb))
 refine zaa (fun W => Below w.heap.size w W) (HB.out.trans (HC3.out.mono HB.out.size)) ?_
 clear HB HC1 HC2 HC3 HT1 HT2 HT3
 rintro WI hb
 have HB:=zh hb
 clear hb
 go_upto_region 7 with (first
  | (go_at_call 16; (with_reducible refine (P4.out _).mono ?_); rintro e wp ⟨vp,rfl,hb,ho⟩; have HBP:=zh hb; have HP:=zh ho.ms; clear hb ho)
  | (go_at_call 17; (with_reducible refine (aQ4 _ _ HP.out).mono ?_); rintro e ws ⟨us4,rfl,hb,ho⟩; have HBS:=zh hb; have HT:=zh ho.ts; clear hb ho))
 refine zaa (fun W => Below w.heap.size w W /\ TS W us4 aT4) ⟨HB.out.trans ((HBP.out.trans (HBS.out.mono HBP.out.size)).mono HB.out.size),HT.out⟩ ?_
 clear HB HBP HBS HP HT
 rintro W4 ⟨hb,h4⟩
 have HB:=zh hb
 have HT4:=zh h4
 clear hb h4
 go_upto_region 8 with (first
  | (go_at_call 16; (with_reducible refine (P5.out _).mono ?_); rintro e wp ⟨vp,rfl,hb,ho⟩; have HBP:=zh hb; have HP:=zh ho.ms; clear hb ho)
  | (go_at_call 17; (with_reducible refine (aQ5 _ _ HP.out).mono ?_); rintro e ws ⟨us5,rfl,hb,ho⟩; have HBS:=zh hb; have HT:=zh ho.ts; clear hb ho))
 refine zaa (fun W => Below w.heap.size w W /\ TS W us4 aT4 /\ TS W us5 aT5) ⟨HB.out.trans ((HBP.out.trans (HBS.out.mono HBP.out.size)).mono HB.out.size),HT4.out.below (HBP.out.trans (HBS.out.mono HBP.out.size)) zn,HT.out⟩ ?_
 clear HB HBP HBS HP HT HT4
 rintro W5 ⟨hb,h4,h5⟩
 have HB:=zh hb
 have HT4:=zh h4
 have HT5:=zh h5
 clear hb h4 h5
 go_upto_region 9 with (first
  | (go_at_call 16; (with_reducible refine (P6.out _).mono ?_); rintro e wp ⟨vp,rfl,hb,ho⟩; have HBP:=zh hb; have HP:=zh ho.ms; clear hb ho)
  | (go_at_call 16; (with_reducible refine (P1.out _).mono ?_); rintro e wq ⟨vq,rfl,hb,ho⟩; have HBQ:=zh hb; have HQ:=zh ho.ms; clear hb ho)
  | (go_at_call 33; (with_reducible refine (aQ6 _ _ _ (HP.out.below HBQ.out zn) HQ.out).mono ?_); rintro e ws ⟨us6,rfl,hb,ho⟩; have HBS:=zh (hb.mono HBQ.out.size); have HBS:=zh (HBQ.out.trans HBS.out); have HT:=zh ho.ts; clear hb ho))
 refine zaa (fun W => Below w.heap.size w W /\ TS W us4 aT4 /\ TS W us5 aT5 /\ TS W us6 aT6) ⟨HB.out.trans ((HBP.out.trans (HBS.out.mono HBP.out.size)).mono HB.out.size),HT4.out.below (HBP.out.trans (HBS.out.mono HBP.out.size)) zn,HT5.out.below (HBP.out.trans (HBS.out.mono HBP.out.size)) zn,HT.out⟩ ?_
 clear HB HBP HBS HP HT HT4 HT5 HBQ HQ
 rintro W6 ⟨hb,h4,h5,h6⟩
 have HB:=zh hb
 have HT4:=zh h4
 have HT5:=zh h5
 have HT6:=zh h6
 clear hb h4 h5 h6
 go_upto_region 11 with (first
  | (go_at_call 32; (with_reducible refine (is21 aT4 aS4 aM4 true us4 _ HT4.out).mono ?_); rintro e wi ⟨rfl,hb⟩; have HC1:=zh hb; clear hb)
  | (go_at_call 32; (with_reducible refine (is21 aT5 aS5 aM5 false us5 _ (HT5.out.below HC1.out zn)).mono ?_); rintro e wi ⟨rfl,hb⟩; have HC2:=zh (HC1.out.trans (hb.mono HC1.out.size)); clear hb)
  | (go_at_call 32; (with_reducible refine (is21 aT6 aS6 aM6 false us6 _ (HT6.out.below HC2.out zn)).mono ?_); rintro e wi ⟨rfl,hb⟩; have HC3:=zh (HC2.out.trans (hb.mono HC2.out.size)); clear hb))
 refine zaa (fun W => Below w.heap.size w W) (HB.out.trans (HC3.out.mono HB.out.size)) ?_
 clear HB HC1 HC2 HC3 HT4 HT5 HT6
 rintro WI hb
 have HB:=zh hb
 clear hb
 go_upto_region 12 with (first
  | (go_at_call 16; (with_reducible refine (P7.out _).mono ?_); rintro e wp ⟨vp,rfl,hb,ho⟩; have HBP:=zh hb; have HP:=zh ho.ms; clear hb ho)
  | (go_at_call 11; (with_reducible refine (aQ7 _ _ HP.out).mono ?_); rintro e wc12 ⟨i12,j12,A12,l12,B12,n12,m12,rfl,hb⟩; have HBS:=zh hb; clear hb))
 have HBQ:=zh (HBP.out.trans (HBS.out.mono HBP.out.size))
 refine zaa (fun W => Below w.heap.size w W /\ Row W wc12.heap.size 30 #[.int .i64 i12,.int .i64 j12,.slice A12 3 l12,.slice B12 n12 m12]) ⟨(HB.out.trans (HBQ.out.mono HB.out.size)).alloc (by have:=HB.out.size; have:=HBQ.out.size; omega) _,Row.new _ _ _⟩ ?_
 clear HB HBQ HBP HBS HP
 rintro W112 ⟨hb,h12⟩
 have HB:=zh hb
 have HR12:=zh h12
 clear hb h12
 go_upto_region 13 with (first
  | (go_at_call 16; (with_reducible refine (P8.out _).mono ?_); rintro e wp ⟨vp,rfl,hb,ho⟩; have HBP:=zh hb; have HP:=zh ho.ms; clear hb ho)
  | (go_at_call 11; (with_reducible refine (aQ8 _ _ HP.out).mono ?_); rintro e wc13 ⟨i13,j13,A13,l13,B13,n13,m13,rfl,hb⟩; have HBS:=zh hb; clear hb))
 have HBQ:=zh (HBP.out.trans (HBS.out.mono HBP.out.size))
 refine zaa (fun W => Below w.heap.size w W /\ Row W wc12.heap.size 30 #[.int .i64 i12,.int .i64 j12,.slice A12 3 l12,.slice B12 n12 m12] /\ Row W wc13.heap.size 30 #[.int .i64 i13,.int .i64 j13,.slice A13 1 l13,.slice B13 n13 m13]) ⟨(HB.out.trans (HBQ.out.mono HB.out.size)).alloc (by have:=HB.out.size; have:=HBQ.out.size; omega) _,(HR12.out.below HBQ.out HR12.out.lt).alloc _,Row.new _ _ _⟩ ?_
 clear HB HBQ HBP HBS HP HR12
 rintro W113 ⟨hb,h12,h13⟩
 have HB:=zh hb
 have HR12:=zh h12
 have HR13:=zh h13
 clear hb h12 h13
 go_upto_region 14 with (first
  | (go_at_call 16; (with_reducible refine (P9.out _).mono ?_); rintro e wp ⟨vp,rfl,hb,ho⟩; have HBP:=zh hb; have HP:=zh ho.ms; clear hb ho)
  | (go_at_call 11; (with_reducible refine (aQ9 _ _ HP.out).mono ?_); rintro e wc14 ⟨i14,j14,A14,l14,B14,n14,m14,rfl,hb⟩; have HBS:=zh hb; clear hb))
 have HBQ:=zh (HBP.out.trans (HBS.out.mono HBP.out.size))
 refine zaa (fun W => Below w.heap.size w W /\ Row W wc12.heap.size 30 #[.int .i64 i12,.int .i64 j12,.slice A12 3 l12,.slice B12 n12 m12] /\ Row W wc13.heap.size 30 #[.int .i64 i13,.int .i64 j13,.slice A13 1 l13,.slice B13 n13 m13]) ⟨(HB.out.trans (HBQ.out.mono HB.out.size)).alloc (by have:=HB.out.size; have:=HBQ.out.size; omega) _,(HR12.out.below HBQ.out HR12.out.lt).alloc _,(HR13.out.below HBQ.out HR13.out.lt).alloc _⟩ ?_
 clear HB HBQ HBP HBS HP HR12 HR13
 rintro W114 ⟨hb,h12,h13⟩
 have HB:=zh hb
 have HR12:=zh h12
 have HR13:=zh h13
 clear hb h12 h13
 go_upto_region 15 with (first
  | (go_at_call 16; (with_reducible refine (P8.out _).mono ?_); rintro e wp ⟨vp,rfl,hb,ho⟩; have HBP:=zh hb; have HP:=zh ho.ms; clear hb ho)
  | (go_at_call 11; (with_reducible refine (aQ0 _ _ HP.out).mono ?_); rintro e wc15 ⟨i15,j15,A15,l15,B15,n15,m15,rfl,hb⟩; have HBS:=zh hb; clear hb))
 have HBQ:=zh (HBP.out.trans (HBS.out.mono HBP.out.size))
 refine zaa (fun W => Below w.heap.size w W /\ Row W wc12.heap.size 30 #[.int .i64 i12,.int .i64 j12,.slice A12 3 l12,.slice B12 n12 m12] /\ Row W wc13.heap.size 30 #[.int .i64 i13,.int .i64 j13,.slice A13 1 l13,.slice B13 n13 m13]) ⟨(HB.out.trans (HBQ.out.mono HB.out.size)).alloc (by have:=HB.out.size; have:=HBQ.out.size; omega) _,(HR12.out.below HBQ.out HR12.out.lt).alloc _,(HR13.out.below HBQ.out HR13.out.lt).alloc _⟩ ?_
 clear HB HBQ HBP HBS HP HR12 HR13
 rintro W115 ⟨hb,h12,h13⟩
 have HB:=zh hb
 have HR12:=zh h12
 have HR13:=zh h13
 clear hb h12 h13
 have z7:=HR12.out.cell
 have z8:=HR13.out.cell
 go_wp2
 go_returns
 exact ⟨zdc (by simp),HB.out⟩
end Go.Proofs.YthdabkmkgkkmcaaGreatDoor
