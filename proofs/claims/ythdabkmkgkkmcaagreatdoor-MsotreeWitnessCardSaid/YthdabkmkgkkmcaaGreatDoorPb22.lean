/- Part 22 of the proof; it says: lemmas and contracts. No conditions but those that each theorem states. -/
import Derived.Test.YthdabkmkgkkmcaaGreatDoorPb01
import Derived.Test.YthdabkmkgkkmcaaGreatDoorPb05
import Derived.Test.YthdabkmkgkkmcaaGreatDoorPb06
import Derived.Test.YthdabkmkgkkmcaaGreatDoorPb14
import Derived.Test.YthdabkmkgkkmcaaGreatDoorPb20
import Derived.Test.YthdabkmkgkkmcaaGreatDoorPb21
set_option linter.unusedSimpArgs false
set_option linter.unusedVariables false
set_option maxRecDepth 100000
set_option maxHeartbeats 32000000
namespace Go.Proofs.YthdabkmkgkkmcaaGreatDoor
open Go.RowKit
def opR (a b:Dta) (g:Bool -> Bool -> Bool) (V:Nat):Raw × Nat:=if (prodO a b).length <= 64 then ((prodM a b g).raw V,0) else (zeroR,10)
abbrev FinP (fid:Nat) (g:Bool -> Bool -> Bool) (a b:Dta) (V:Nat):Prop:=∀ (w0:World) (gf gA gB:Nat) (vn vf un uf:Value),Row w0 gf 93 #[.func (.func fid) #[] #[]] -> AutV w0 gA V a vn vf -> AutV w0 gB V b un uf -> ∀ (p:Nat × Nat) (W:World),inP a b p -> Below w0.heap.size w0 W ->
 Calls Tryz.prog 97 #[pV p,.pointer (some ⟨gf,0,none⟩),.pointer (some ⟨gA,0,none⟩),.pointer (some ⟨gB,0,none⟩)] W fun e W' => e = .returned (.bool (g (a.fin p.1) (b.fin p.2))) /\ Below W.heap.size W W'
structure PrV (w:World) (G fid V:Nat) (a b:Dta) (vn vf un uf:Value) (W:World):Prop where
 below:Below G w W
 ha:AutV W G V a vn vf
 hb:AutV W (G + 1) V b un uf
 hf:Row W (G + 1 + 1) 93 #[.func (.func fid) #[] #[]]
 hr:Row W (G + 1 + 1 + 1) 30 #[.int .i64 0,.int .i64 0,.slice none 0 0,.slice none 0 0]
theorem PrV.to {w W W':World} {G fid V:Nat} {a b:Dta} {vn vf un uf:Value} (h:PrV w G fid V a b vn vf un uf W) (hb:Below W.heap.size W W') (hG:G <= W.heap.size):PrV w G fid V a b vn vf un uf W' :=
 ⟨h.below.trans (hb.mono hG),h.ha.below hb zn,h.hb.below hb zn,h.hf.below hb h.hf.lt,h.hr.below hb h.hr.lt⟩
theorem two_idx (W:World) (a b c d e f g h:Value):(Instr.index 141 (.agg #[a,b,c,d,e,f,g,h]) (.int .i64 0)).run Tryz.prog W = .ok (.agg #[a,b,c,d]) W /\ (Instr.index 141 (.agg #[a,b,c,d,e,f,g,h]) (.int .i64 1)).run Tryz.prog W = .ok (.agg #[e,f,g,h]) W:=⟨by kernel_rfl,by kernel_rfl⟩
theorem zfb (fid:Nat) (g:Bool -> Bool -> Bool) (a b:Dta) (V:Nat) (ha:a.Fit V) (hb:b.Fit V) (hP2:FinP fid g a b V) (va vb:Value) (w:World) (hva:TD w va (a.raw V)) (hvb:TD w vb (b.raw V)) :
  Calls Tryz.prog 55 #[va,vb,.func (.func fid) #[] #[]] w (RetR w (opR a b g V).1 (opR a b g V).2):=by
 have hL:a.L = b.L:=ha.L.trans hb.L.symm
 have hckA:=fun W (h:Below w.heap.size w W) => zc7 (a.raw V) va W (hva.below h zn) (by have:=ha.n64; rw [(a.raw_len V).1,(a.raw_len V).2]; omega)
 rw [a.raw_check ha] at hckA
 have hckB:=fun W (h:Below w.heap.size w W) => zc7 (b.raw V) vb W (hvb.below h zn) (by have:=hb.n64; rw [(b.raw_len V).1,(b.raw_len V).2]; omega)
 rw [b.raw_check hb] at hckB
 have hex:=fun (w0:World) (gA gB:Nat) (vn vf un uf:Value) (hA:AutV w0 gA V a vn vf) (hB:AutV w0 gB V b un uf) =>
  (show Calls Tryz.prog 94 #[.int .i64 (V:Int),.int .i64 64,.agg #[.int .i64 (a.e:Int),.int .i64 (b.e:Int)],.func (.func 95) #[] #[.pointer (some ⟨gA,0,none⟩),.pointer (some ⟨gB,0,none⟩)]] w0 (ExRetP (pairF a b) a.L (a.e,b.e) (inP a b) 64 w0) from
   zm8 (inP a b) (fun p hp => ⟨Nat.lt_of_lt_of_le hp.1 ha.n64,Nat.lt_of_lt_of_le hp.2 hb.n64⟩) (pairF a b) V a.L 64 ha.v3 ha.L (by omega) (by omega) (a.e,b.e) ⟨ha.ok.he,hb.ok.he⟩ _ _ w0 (zq7 a b V ha hb w0 gA gB vn vf un uf hA hB) (zgy ha.ok hb.ok hL))
 have hmi:=fun (w0:World) (gf gA gB:Nat) (vn vf un uf:Value) (hF:Row w0 gf 93 #[.func (.func fid) #[] #[]]) (hA:AutV w0 gA V a vn vf) (hB:AutV w0 gB V b un uf) (o:List (Nat × Nat)) (hE:Expl (pairF a b) a.L (a.e,b.e) o) (hP:∀ p ∈ o,inP a b p) (hl:o.length <= 64) (B:Nat) (kv rv:Value)
   (hk:KO 146 2 w0 B kv (o.map pC)) (hr:N3 w0 rv (nx3 o.length a.L (prodA a b o g).nx)) =>
  (show Calls Tryz.prog 96 #[.int .i64 (V:Int),kv,rv,.func (.func 97) #[] #[.pointer (some ⟨gf,0,none⟩),.pointer (some ⟨gA,0,none⟩),.pointer (some ⟨gB,0,none⟩)]] w0 (RetR w0 ((prodM a b g).raw V) 0) from by
   have h:=zo4 (prodA a b o g) V ⟨hE.ok _,hl,ha.v3,ha.L⟩ rfl o rfl (inP a b) hP (fun p => g (a.fin p.1) (b.fin p.2)) (fun i p hi => by show g (a.fin (o.getD i (a.e,b.e)).1) (b.fin (o.getD i (a.e,b.e)).2) = _; rw [getD_some hi]) _ _ _ w0 (fun p W hp hbw => hP2 w0 gf gA gB vn vf un uf hF hA hB p W hp hbw) B kv rv hk hr
   have e:=(zje ha.ok hb.ok hL g hE).raw (Dta.mini_ok (hE.ok _)) (zje ha.ok hb.ok hL g hE).L V
   rw [e] at h
   exact h)
 have hlen:=fun (o:List (Nat × Nat)) (hE:Expl (pairF a b) a.L (a.e,b.e) o) => (show o.length = (prodO a b).length from hE.len_eq (zb6 ha.ok hb.ok hL))
 have hmost:=fun (ks:List (Nat × Nat)) (h1:ks.Nodup) (h2:∀ s ∈ ks,AccK (pairF a b) a.L (a.e,b.e) s) => (zb6 ha.ok hb.ok hL).most h1 h2
 obtain ⟨vn,vf,rfl,hn,hf⟩:=hva
 obtain ⟨un,uf,rfl,hm,hg⟩:=hvb
 have hvars:(a.raw V).vars = (V:Int):=rfl
 have hemp:(a.raw V).empty = (a.e:Int):=rfl
 have hvars':(b.raw V).vars = (V:Int):=rfl
 have hemp':(b.raw V).empty = (b.e:Int):=rfl
 rw [hvars,hemp] at hckA ⊢
 rw [hvars',hemp'] at hckB ⊢
 obtain ⟨A1,c1,rfl,_⟩:=hn.open
 obtain ⟨A2,c2,rfl,_⟩:=hf.open
 obtain ⟨A3,c3,rfl,_⟩:=hm.open
 obtain ⟨A4,c4,rfl,_⟩:=hg.open
 rw [(a.raw_len V).1,(a.raw_len V).2] at hckA
 rw [(b.raw_len V).1,(b.raw_len V).2] at hckB
 rw [(a.raw_len V).1] at hn ⊢
 rw [(a.raw_len V).2] at hf ⊢
 rw [(b.raw_len V).1] at hm ⊢
 rw [(b.raw_len V).2] at hg ⊢
 have HCA:=zh hckA; have HCB:=zh hckB; have HEX:=zh hex; have HMI:=zh hmi; have HLEN:=zh hlen; have HMOST:=zh hmost
 have HN:=zh hn; have HF:=zh hf; have HM:=zh hm; have HG:=zh hg
 clear hckA hckB hex hmi hlen hmost hn hf hm hg hvars hemp hvars' hemp' hP2
 obtain ⟨n,hnn⟩:=zx a.n
 obtain ⟨m,hmm⟩:=zx b.n
 obtain ⟨E,hE⟩:=zx a.e
 obtain ⟨E',hE'⟩:=zx b.e
 have HV1:=zh (fun (W:World) (gA:Nat) (h:Row W gA 30 #[.int .i64 (V:Int),.int .i64 (E:Int),.slice A1 n c1,.slice A2 n c2]) (hb:Below w.heap.size w W) => (show AutV W gA V a (.slice A1 a.n c1) (.slice A2 a.n c2) from ⟨by rw [<- hE,<- hnn]; exact h,HN.out.below hb zn,HF.out.below hb zn⟩))
 have HV2:=zh (fun (W:World) (gA:Nat) (h:Row W gA 30 #[.int .i64 (V:Int),.int .i64 (E':Int),.slice A3 m c3,.slice A4 m c4]) (hb:Below w.heap.size w W) => (show AutV W gA V b (.slice A3 b.n c3) (.slice A4 b.n c4) from ⟨by rw [<- hE',<- hmm]; exact h,HM.out.below hb zn,HG.out.below hb zn⟩))
 rw [<- hnn,<- hE] at HCA
 rw [<- hmm,<- hE'] at HCB
 rw [<- hnn] at HV1
 rw [<- hmm] at HV2
 have HV1':Hid (∀ (W:World) (gA:Nat),AutV W gA V a (.slice A1 n c1) (.slice A2 n c2) -> Row W gA 30 #[.int .i64 (V:Int),.int .i64 (E:Int),.slice A1 n c1,.slice A2 n c2]):=fun W gA h => by rw [hE]; exact h.row
 have HV2':Hid (∀ (W:World) (gA:Nat),AutV W gA V b (.slice A3 m c3) (.slice A4 m c4) -> Row W gA 30 #[.int .i64 (V:Int),.int .i64 (E':Int),.slice A3 m c3,.slice A4 m c4]):=fun W gA h => by rw [hE']; exact h.row
 rw [<- hE,<- hE',<- hnn,<- hmm]
 have HEE:=zh hE; have HEE':=zh hE'
 clear hnn hmm hE hE' HN HF HM HG
 obtain ⟨R,hR⟩:=zx ((opR a b g V))
 have HRR:=zh hR
 rw [<- hR]
 clear hR
 go_enter Tryz.func55,Tryz.ntmps55
 go_wp2
 refine zaa (PrV w w.heap.size fid V a b (.slice A1 n c1) (.slice A2 n c2) (.slice A3 m c3) (.slice A4 m c4))
  ⟨by go_grown,HV1.out _ _ ((((Row.new _ _ _).alloc _).alloc _).alloc _) (by go_grown),HV2.out _ _ (((Row.lit (by simp)).alloc _).alloc _) (by go_grown),(Row.lit (by simp)).alloc _,Row.lit (by simp)⟩ ?_
 rintro W0 hp
 have HP:=zh hp
 clear hp
 go_loopg [17] 2 (fun gk q wr => ∃ i:Nat,i <= 2 /\ gk = 2 - i /\ q = .int .i64 i /\ PrV w w.heap.size fid V a b (.slice A1 n c1) (.slice A2 n c2) (.slice A3 m c3) (.slice A4 m c4) wr)
 case atStart => exact ⟨0,by omega,rfl,rfl,HP.out⟩
 case round =>
  clear HP
  obtain ⟨i,hi,rfl,rfl,hp⟩:=hrel
  obtain ⟨wl,hwl⟩:=zx wr
  subst hwl
  have HP:=zh hp
  have hsz:=hp.below.size
  clear hp
  by_cases hlt:i < 2
  ·have h01:i = 0 \/ i = 1:=by omega
   have hix:=two_idx wl (.int .i64 (V:Int)) (.int .i64 (E:Int)) (.slice A1 n c1) (.slice A2 n c2) (.int .i64 (V:Int)) (.int .i64 (E':Int)) (.slice A3 m c3) (.slice A4 m c4)
   obtain ⟨hi0,hi1⟩:=hix
   rcases h01 with rfl | rfl
   ·go_wp2_with (go_at_call 36; refine (HCA.out _ (by have:=HP.out.below; go_grown)).mono ?_; rintro e w2 ⟨rfl,hb2⟩; have HB2:=zh hb2; clear hb2)
    go_roundg 1
    case rel => exact ⟨1,by omega,rfl,by go_num,HP.out.to ((Below.alloc (Below.refl _ _) zn _).trans (HB2.out.mono (by simp))) hsz⟩
    case measure => omega
   ·go_wp2_with (go_at_call 36; refine (HCB.out _ (by have:=HP.out.below; go_grown)).mono ?_; rintro e w2 ⟨rfl,hb2⟩; have HB2:=zh hb2; clear hb2)
    go_roundg 0
    case rel => exact ⟨2,by omega,rfl,by go_num,HP.out.to ((Below.alloc (Below.refl _ _) zn _).trans (HB2.out.mono (by simp))) hsz⟩
    case measure => omega
  ·have hp:=HP.out
   have y0:=(HV1'.out _ _ hp.ha).cell; have y1:=(HV2'.out _ _ hp.hb).cell
   have HEXP:=zh (HEX.out wl w.heap.size (w.heap.size + 1) _ _ _ _ hp.ha hp.hb)
   rw [<- HEE.out,<- HEE'.out] at HEXP
   clear hp HEX HCA HCB
   go_upto_region 11 with (go_at_call 94; refine HEXP.out.mono ?_; intro e w2 h2; obtain ⟨kv,rv,bo,rfl,hb2,hcase⟩:=h2.out; have HB2:=zh hb2; have HCASE:=zh hcase; clear h2 hb2 hcase)
   have HP2:=zh (HP.out.to HB2.out hsz)
   have y0:=(HV1'.out _ _ HP2.out.ha).cell
   have z0:=HP2.out.hr.cell; have z1:=HP2.out.hr.free
   have hsz2:=HP2.out.below.size
   rw [HEE.out,HEE'.out] at HCASE
   rcases HCASE.out with ⟨rfl,o,hEo,hPo,hlo,hko,hro⟩ | ⟨rfl,ks,hk1,hk2,hk3⟩
   ·have hok:R = ((prodM a b g).raw V,0):=by rw [HRR.out]; unfold opR; rw [if_pos (by rw [<- HLEN.out o hEo]; exact hlo)]
    have HMM:=zh (HMI.out w2 (w.heap.size + 1 + 1) w.heap.size (w.heap.size + 1) _ _ _ _ HP2.out.hf HP2.out.ha HP2.out.hb o hEo hPo hlo _ kv rv hko (hro (fun p => g (a.fin p.1) (b.fin p.2))).n3)
    have HOK:=zh hok
    obtain ⟨R2,hR2⟩:=zx ((prodM a b g).raw V)
    rw [<- hR2] at HMM
    have HR2:=zh hR2
    clear HCASE hEo hPo hlo hko hro hok hR2
    go_wp2_with (go_at_call 96; refine HMM.out.mono ?_; intro e w6 h6; obtain ⟨A6,c6,A7,c7,rfl,hb6,ht6⟩:=h6.unfold; have HT:=zh ht6; have HB6:=zh hb6; have RR6:=zh (HP2.out.hr.below hb6 HP2.out.hr.lt); have b0:=RR6.out.cell; have b1:=RR6.out.free; clear h6 hb6 ht6 y0 z0 z1)
    refine zah (fun W => Row W (w.heap.size + 1 + 1 + 1) 30 #[.int .i64 R2.vars,.int .i64 R2.empty,.slice A6 R2.next.length c6,.slice A7 R2.fin.length c7] /\ TDO W w2.heap.size (.agg #[.int .i64 R2.vars,.int .i64 R2.empty,.slice A6 R2.next.length c6,.slice A7 R2.fin.length c7]) R2 /\ Below w.heap.size w W)
     (zaz RR6.out HT.out (HP2.out.below.trans (HB6.out.mono hsz2)) (by omega)) ?_
    clear b0 b1 RR6 HT
    rintro W5 ⟨r0,hT,hb⟩
    have b0:=r0.cell
    have q0:=b0 0; have q1:=b0 1; have q2:=b0 2; have q3:=b0 3
    simp only [zg] at q0 q1 q2 q3
    have HT:=zh (hT.mono hsz2); have HBX:=zh hb
    clear b0 r0 hT hb
    exact bodyPost_ret (v:=.tuple #[.agg #[.int .i64 R2.vars,.int .i64 R2.empty,.slice A6 R2.next.length c6,.slice A7 R2.fin.length c7],.int .i64 0]) (by simp [results,Tryz.results55,go_sem,q0,q1,q2,q3]) rfl ⟨_,by rw [HOK.out]; rfl,HBX.out,by rw [HOK.out]; show TDO _ _ _ ((prodM a b g).raw V); rw [<- HR2.out]; exact HT.out⟩
   ·have hok:R = (zeroR,10):=by rw [HRR.out]; unfold opR; rw [if_neg (by have:=HMOST.out ks hk1 hk2; omega)]
    have HOK:=zh hok
    clear HCASE hk1 hk2 hk3 hok y0
    go_wp2
    refine zah (fun W => Row W (w.heap.size + 1 + 1 + 1) 30 #[.int .i64 0,.int .i64 0,.slice none 0 0,.slice none 0 0] /\ TDO W w2.heap.size zeroV zeroR /\ Below w.heap.size w W) (zaz HP2.out.hr (zdj _ _) HP2.out.below (by omega)) ?_
    clear z0 z1
    rintro W5 ⟨r0,hT,hb⟩
    have b0:=r0.cell
    have q0:=b0 0; have q1:=b0 1; have q2:=b0 2; have q3:=b0 3
    simp only [zg] at q0 q1 q2 q3
    have HB:=zh hb
    clear b0 r0 hT hb
    exact bodyPost_ret (v:=.tuple #[zeroV,.int .i64 10]) (by simp [results,Tryz.results55,go_sem,q0,q1,q2,q3,zeroV]) rfl ⟨_,by rw [HOK.out]; rfl,HB.out,by rw [HOK.out]; exact zdj _ _⟩
theorem And_ok (a b:Dta) (V:Nat) (ha:a.Fit V) (hb:b.Fit V) (va vb:Value) (w:World) (hva:TD w va (a.raw V)) (hvb:TD w vb (b.raw V)) :
  Calls Tryz.prog 22 #[va,vb] w (RetR w (opR a b (fun p q => p && q) V).1 (opR a b (fun p q => p && q) V).2):=by
 have hpr:=fun W (h:Below w.heap.size w W) => zfb 56 (fun p q => p && q) a b V ha hb (fun w0 gf gA gB vn vf un uf hF hA hB p W hp hbw => zjd a b V ha hb w0 gf gA gB _ vn vf un uf hF hA hB p hp W hbw) va vb W (hva.below h zn) (hvb.below h zn)
 obtain ⟨A1,c1,A2,c2,rfl⟩:=hva.form
 obtain ⟨A3,c3,A4,c4,rfl⟩:=hvb.form
 obtain ⟨R,hR⟩:=zx (opR a b (fun p q => p && q) V)
 rw [<- hR] at hpr ⊢
 obtain ⟨ra,hra⟩:=zx (a.raw V)
 obtain ⟨rb,hrb⟩:=zx (b.raw V)
 rw [<- hra,<- hrb] at hpr ⊢
 obtain ⟨n1,h1⟩:=zx ra.next.length
 obtain ⟨n2,h2⟩:=zx ra.fin.length
 obtain ⟨n3,h3⟩:=zx rb.next.length
 obtain ⟨n4,h4⟩:=zx rb.fin.length
 obtain ⟨V1,h5⟩:=zx ra.vars
 obtain ⟨E1,h6⟩:=zx ra.empty
 obtain ⟨V2,h7⟩:=zx rb.vars
 obtain ⟨E2,h8⟩:=zx rb.empty
 rw [<- h1,<- h2,<- h3,<- h4,<- h5,<- h6,<- h7,<- h8] at hpr ⊢
 have HPR:=zh hpr
 clear hpr hva hvb hR hra hrb h1 h2 h3 h4 h5 h6 h7 h8
 obtain ⟨R2,k⟩:=R
 simp only at HPR ⊢
 go_enter Tryz.func22,Tryz.ntmps22
 go_upto_region 1 with fail
 refine zaa (fun W => Below w.heap.size w W /\ Row W w.heap.size 30 #[.int .i64 V1,.int .i64 E1,.slice A1 n1 c1,.slice A2 n2 c2] /\ Row W (w.heap.size + 1) 30 #[.int .i64 V2,.int .i64 E2,.slice A3 n3 c3,.slice A4 n4 c4] /\ Row W (w.heap.size + 1 + 1) 30 #[.int .i64 0,.int .i64 0,.slice none 0 0,.slice none 0 0])
  ⟨by go_grown,((Row.new _ _ _).alloc _).alloc _,(Row.lit (by simp)).alloc _,Row.lit (by simp)⟩ ?_
 rintro W ⟨hb,r1,r2,r3⟩
 have y0:=r1.cell; have y1:=r2.cell
 have HB:=zh hb; have R3:=zh r3
 have hsz:=hb.size
 clear hb r1 r2 r3
 go_wp2_with (go_at_call 55; refine (HPR.out _ HB.out).mono ?_; intro e w6 h6; obtain ⟨A6,c6,A7,c7,rfl,hb6,ht6⟩:=h6.unfold; have HT:=zh ht6; have HB6:=zh hb6; have RR6:=zh (R3.out.below hb6 R3.out.lt); have b0:=RR6.out.cell; have b1:=RR6.out.free; clear h6 hb6 ht6 y0 y1)
 refine zah (fun X => Row X (w.heap.size + 1 + 1) 30 #[.int .i64 R2.vars,.int .i64 R2.empty,.slice A6 R2.next.length c6,.slice A7 R2.fin.length c7] /\ TDO X W.heap.size (.agg #[.int .i64 R2.vars,.int .i64 R2.empty,.slice A6 R2.next.length c6,.slice A7 R2.fin.length c7]) R2 /\ Below w.heap.size w X)
  (zaz RR6.out HT.out (HB.out.trans (HB6.out.mono hsz)) (by omega)) ?_
 clear b0 b1 RR6 HT
 rintro W5 ⟨r0,hT,hb⟩
 have b0:=r0.cell
 have q0:=b0 0; have q1:=b0 1; have q2:=b0 2; have q3:=b0 3
 simp only [zg] at q0 q1 q2 q3
 have HT:=zh (hT.mono hsz); have HBX:=zh hb
 clear b0 r0 hT hb
 exact bodyPost_ret (v:=.tuple #[.agg #[.int .i64 R2.vars,.int .i64 R2.empty,.slice A6 R2.next.length c6,.slice A7 R2.fin.length c7],.int .i64 (k:Int)]) (by simp [results,Tryz.results22,go_sem,q0,q1,q2,q3]) rfl ⟨_,rfl,HBX.out,HT.out⟩
theorem Or_ok (a b:Dta) (V:Nat) (ha:a.Fit V) (hb:b.Fit V) (va vb:Value) (w:World) (hva:TD w va (a.raw V)) (hvb:TD w vb (b.raw V)) :
  Calls Tryz.prog 23 #[va,vb] w (RetR w (opR a b (fun p q => p || q) V).1 (opR a b (fun p q => p || q) V).2):=by
 have hpr:=fun W (h:Below w.heap.size w W) => zfb 57 (fun p q => p || q) a b V ha hb (fun w0 gf gA gB vn vf un uf hF hA hB p W hp hbw => zke a b V ha hb w0 gf gA gB _ vn vf un uf hF hA hB p hp W hbw) va vb W (hva.below h zn) (hvb.below h zn)
 obtain ⟨A1,c1,A2,c2,rfl⟩:=hva.form
 obtain ⟨A3,c3,A4,c4,rfl⟩:=hvb.form
 obtain ⟨R,hR⟩:=zx (opR a b (fun p q => p || q) V)
 rw [<- hR] at hpr ⊢
 obtain ⟨ra,hra⟩:=zx (a.raw V)
 obtain ⟨rb,hrb⟩:=zx (b.raw V)
 rw [<- hra,<- hrb] at hpr ⊢
 obtain ⟨n1,h1⟩:=zx ra.next.length
 obtain ⟨n2,h2⟩:=zx ra.fin.length
 obtain ⟨n3,h3⟩:=zx rb.next.length
 obtain ⟨n4,h4⟩:=zx rb.fin.length
 obtain ⟨V1,h5⟩:=zx ra.vars
 obtain ⟨E1,h6⟩:=zx ra.empty
 obtain ⟨V2,h7⟩:=zx rb.vars
 obtain ⟨E2,h8⟩:=zx rb.empty
 rw [<- h1,<- h2,<- h3,<- h4,<- h5,<- h6,<- h7,<- h8] at hpr ⊢
 have HPR:=zh hpr
 clear hpr hva hvb hR hra hrb h1 h2 h3 h4 h5 h6 h7 h8
 obtain ⟨R2,k⟩:=R
 simp only at HPR ⊢
 go_enter Tryz.func23,Tryz.ntmps23
 go_upto_region 1 with fail
 refine zaa (fun W => Below w.heap.size w W /\ Row W w.heap.size 30 #[.int .i64 V1,.int .i64 E1,.slice A1 n1 c1,.slice A2 n2 c2] /\ Row W (w.heap.size + 1) 30 #[.int .i64 V2,.int .i64 E2,.slice A3 n3 c3,.slice A4 n4 c4] /\ Row W (w.heap.size + 1 + 1) 30 #[.int .i64 0,.int .i64 0,.slice none 0 0,.slice none 0 0])
  ⟨by go_grown,((Row.new _ _ _).alloc _).alloc _,(Row.lit (by simp)).alloc _,Row.lit (by simp)⟩ ?_
 rintro W ⟨hb,r1,r2,r3⟩
 have y0:=r1.cell; have y1:=r2.cell
 have HB:=zh hb; have R3:=zh r3
 have hsz:=hb.size
 clear hb r1 r2 r3
 go_wp2_with (go_at_call 55; refine (HPR.out _ HB.out).mono ?_; intro e w6 h6; obtain ⟨A6,c6,A7,c7,rfl,hb6,ht6⟩:=h6.unfold; have HT:=zh ht6; have HB6:=zh hb6; have RR6:=zh (R3.out.below hb6 R3.out.lt); have b0:=RR6.out.cell; have b1:=RR6.out.free; clear h6 hb6 ht6 y0 y1)
 refine zah (fun X => Row X (w.heap.size + 1 + 1) 30 #[.int .i64 R2.vars,.int .i64 R2.empty,.slice A6 R2.next.length c6,.slice A7 R2.fin.length c7] /\ TDO X W.heap.size (.agg #[.int .i64 R2.vars,.int .i64 R2.empty,.slice A6 R2.next.length c6,.slice A7 R2.fin.length c7]) R2 /\ Below w.heap.size w X)
  (zaz RR6.out HT.out (HB.out.trans (HB6.out.mono hsz)) (by omega)) ?_
 clear b0 b1 RR6 HT
 rintro W5 ⟨r0,hT,hb⟩
 have b0:=r0.cell
 have q0:=b0 0; have q1:=b0 1; have q2:=b0 2; have q3:=b0 3
 simp only [zg] at q0 q1 q2 q3
 have HT:=zh (hT.mono hsz); have HBX:=zh hb
 clear b0 r0 hT hb
 exact bodyPost_ret (v:=.tuple #[.agg #[.int .i64 R2.vars,.int .i64 R2.empty,.slice A6 R2.next.length c6,.slice A7 R2.fin.length c7],.int .i64 (k:Int)]) (by simp [results,Tryz.results23,go_sem,q0,q1,q2,q3]) rfl ⟨_,rfl,HBX.out,HT.out⟩
theorem zma (a b:Dta) (V:Nat) (ha:a.Fit V) (hb:b.Fit V) (va vb:Value) (w:World) (hva:TD w va (a.raw V)) (hvb:TD w vb (b.raw V)) :
  Calls Tryz.prog 74 #[va,vb] w (RetR w (opR a b (fun p q => p && !q) V).1 (opR a b (fun p q => p && !q) V).2):=by
 have hpr:=fun W (h:Below w.heap.size w W) => zfb 125 (fun p q => p && !q) a b V ha hb (fun w0 gf gA gB vn vf un uf hF hA hB p W hp hbw => zhf a b V ha hb w0 gf gA gB _ vn vf un uf hF hA hB p hp W hbw) va vb W (hva.below h zn) (hvb.below h zn)
 obtain ⟨A1,c1,A2,c2,rfl⟩:=hva.form
 obtain ⟨A3,c3,A4,c4,rfl⟩:=hvb.form
 obtain ⟨R,hR⟩:=zx (opR a b (fun p q => p && !q) V)
 rw [<- hR] at hpr ⊢
 obtain ⟨ra,hra⟩:=zx (a.raw V)
 obtain ⟨rb,hrb⟩:=zx (b.raw V)
 rw [<- hra,<- hrb] at hpr ⊢
 obtain ⟨n1,h1⟩:=zx ra.next.length
 obtain ⟨n2,h2⟩:=zx ra.fin.length
 obtain ⟨n3,h3⟩:=zx rb.next.length
 obtain ⟨n4,h4⟩:=zx rb.fin.length
 obtain ⟨V1,h5⟩:=zx ra.vars
 obtain ⟨E1,h6⟩:=zx ra.empty
 obtain ⟨V2,h7⟩:=zx rb.vars
 obtain ⟨E2,h8⟩:=zx rb.empty
 rw [<- h1,<- h2,<- h3,<- h4,<- h5,<- h6,<- h7,<- h8] at hpr ⊢
 have HPR:=zh hpr
 clear hpr hva hvb hR hra hrb h1 h2 h3 h4 h5 h6 h7 h8
 obtain ⟨R2,k⟩:=R
 simp only at HPR ⊢
 go_enter Tryz.func74,Tryz.ntmps74
 go_upto_region 1 with fail
 refine zaa (fun W => Below w.heap.size w W /\ Row W w.heap.size 30 #[.int .i64 V1,.int .i64 E1,.slice A1 n1 c1,.slice A2 n2 c2] /\ Row W (w.heap.size + 1) 30 #[.int .i64 V2,.int .i64 E2,.slice A3 n3 c3,.slice A4 n4 c4] /\ Row W (w.heap.size + 1 + 1) 30 #[.int .i64 0,.int .i64 0,.slice none 0 0,.slice none 0 0])
  ⟨by go_grown,((Row.new _ _ _).alloc _).alloc _,(Row.lit (by simp)).alloc _,Row.lit (by simp)⟩ ?_
 rintro W ⟨hb,r1,r2,r3⟩
 have y0:=r1.cell; have y1:=r2.cell
 have HB:=zh hb; have R3:=zh r3
 have hsz:=hb.size
 clear hb r1 r2 r3
 go_wp2_with (go_at_call 55; refine (HPR.out _ HB.out).mono ?_; intro e w6 h6; obtain ⟨A6,c6,A7,c7,rfl,hb6,ht6⟩:=h6.unfold; have HT:=zh ht6; have HB6:=zh hb6; have RR6:=zh (R3.out.below hb6 R3.out.lt); have b0:=RR6.out.cell; have b1:=RR6.out.free; clear h6 hb6 ht6 y0 y1)
 refine zah (fun X => Row X (w.heap.size + 1 + 1) 30 #[.int .i64 R2.vars,.int .i64 R2.empty,.slice A6 R2.next.length c6,.slice A7 R2.fin.length c7] /\ TDO X W.heap.size (.agg #[.int .i64 R2.vars,.int .i64 R2.empty,.slice A6 R2.next.length c6,.slice A7 R2.fin.length c7]) R2 /\ Below w.heap.size w X)
  (zaz RR6.out HT.out (HB.out.trans (HB6.out.mono hsz)) (by omega)) ?_
 clear b0 b1 RR6 HT
 rintro W5 ⟨r0,hT,hb⟩
 have b0:=r0.cell
 have q0:=b0 0; have q1:=b0 1; have q2:=b0 2; have q3:=b0 3
 simp only [zg] at q0 q1 q2 q3
 have HT:=zh (hT.mono hsz); have HBX:=zh hb
 clear b0 r0 hT hb
 exact bodyPost_ret (v:=.tuple #[.agg #[.int .i64 R2.vars,.int .i64 R2.empty,.slice A6 R2.next.length c6,.slice A7 R2.fin.length c7],.int .i64 (k:Int)]) (by simp [results,Tryz.results74,go_sem,q0,q1,q2,q3]) rfl ⟨_,rfl,HBX.out,HT.out⟩
theorem zoh {a b:Dta} {V:Nat} (ha:a.Fit V) (hb:b.Fit V) (g:Bool -> Bool -> Bool) (hl:(prodO a b).length <= 64):(prodM a b g).Fit V :=
 ⟨(zf2 ha.ok hb.ok (ha.L.trans hb.L.symm) g).can.ok,Nat.le_trans (zog ha.ok hb.ok (ha.L.trans hb.L.symm) g) hl,ha.v3,(zf2 ha.ok hb.ok (ha.L.trans hb.L.symm) g).hL.trans ha.L⟩
theorem zet {d:Dta} {V:Nat} (h:d.Fit V):d.mini.Fit V:=⟨Dta.mini_ok h.ok,Nat.le_trans (Dta.mini_n h.ok) h.n64,h.v3,(d.mini_canon h.ok).2.1.trans h.L⟩
theorem zbt {d:Dta} {V:Nat} (h:d.Fit V):d.notM.Fit V:=zet ⟨Dta.neg_ok h.ok,h.n64,h.v3,h.L⟩
def opC (g:Bool -> Bool -> Bool) (a b:Dta):Option Dta:=if (prodO a b).length <= 64 then some (prodM a b g) else none
def exC (v M:Nat) (d:Dta):Option Dta:=if (setO d v).length <= M then some (zb0 d v) else none
def singC (x:Int) (V:Nat):Dta:=(atomA 4 x 0 V).mini
theorem zbz {a b d:Dta} {V:Nat} {g:Bool -> Bool -> Bool} (ha:a.Fit V) (hb:b.Fit V) (h:opC g a b = some d):d.Fit V:=by
 unfold opC at h
 split at h
 ·cases h; exact zoh ha hb g ‹_›
 ·cases h
theorem zef {d e:Dta} {V v M:Nat} (hd:d.Fit V) (hv:v < V) (hM:M <= 64) (h:exC v M d = some e):e.Fit V:=by
 unfold exC at h
 split at h
 ·cases h
  have hx:=zbs hd.ok hd.L hv
  have hf:(autE (setF d v) d.L (2 ^ d.e) (setO d v) (za7 d)).Fit V:=⟨hx.ok (za7 d),by show (setO d v).length <= 64; omega,hd.v3,hd.L⟩
  exact zet hf
 ·cases h
def unC (V M:Nat) (op x:Int) (d:Dta):Option Dta :=
 if op = 9 then some d.notM
 else if op = 12 then exC x.toNat M d
 else if op = 13 then (exC x.toNat M d.notM).map Dta.notM
 else if op = 14 then (opC (fun p q => p && q) d (singC x V)).bind (exC x.toNat M)
 else ((opC (fun p q => p && q) d.notM (singC x V)).bind (exC x.toNat M)).map Dta.notM
def binG (op:Int):Bool -> Bool -> Bool:=fun p q => if op = 10 then p && q else p || q
def cmpT (V M:Nat):Tr -> Option Dta
 | .leaf op x y => some (atomA op x y V).mini
 | .un op x a => (cmpT V M a).bind (unC V M op x)
 | .bin op a b => (cmpT V M a).bind fun d => (cmpT V M b).bind fun e => opC (binG op) d e
theorem zgl (x:Int) {V:Nat} (hV:V <= 3):(singC x V).Fit V:=zet (zcj 4 x 0 hV)
theorem zns {d e:Dta} {V M:Nat} {op x:Int} (hd:d.Fit V) (hx:op = 9 \/ (0 <= x /\ x < V)) (hM:M <= 64) (h:unC V M op x d = some e):e.Fit V:=by
 have hs:=zgl x hd.v3
 have hn:=zbt hd
 unfold unC at h
 split at h
 ·cases h; exact hn
 ·rename_i h9
  have hv:x.toNat < V:=by omega
  split at h
  ·exact zef hd hv hM h
  ·split at h
   ·obtain ⟨d1,h1,rfl⟩:=Option.map_eq_some_iff.1 h
    exact zbt (zef hn hv hM h1)
   ·split at h
    ·obtain ⟨d1,h1,h2⟩:=Option.bind_eq_some_iff.1 h
     exact zef (zbz hd hs h1) hv hM h2
    ·obtain ⟨d2,h3,rfl⟩:=Option.map_eq_some_iff.1 h
     obtain ⟨d1,h1,h2⟩:=Option.bind_eq_some_iff.1 h3
     exact zbt (zef (zbz hn hs h1) hv hM h2)
def stepC (V M:Nat) (S:Option (List Dta)) (m:Mk):Option (List Dta):=S.bind fun s =>
 if nc m.op = 0 then some ((atomA m.op m.x m.y V).mini :: s)
 else if nc m.op = 1 then match s with
  | d :: r => (unC V M m.op m.x d).map (· :: r)
  | [] => none
 else match s with
  | b :: a :: r => (opC (binG m.op) a b).map (· :: r)
  | _ => none
theorem zmf (V M:Nat) (l:List Mk):l.foldl (stepC V M) none = none:=by
 induction l with
 | nil => rfl
 | cons m l ih => exact ih
theorem zlq (V M:Nat) (t:Tr):t.ok -> ∀ (p:Nat) (s:List Dta),(t.enc p).foldl (stepC V M) (some s) = (cmpT V M t).map (· :: s):=by
 induction t with
 | leaf op x y =>
  intro ht p s
  have h0:=ht.2.1
  simp [Tr.enc,stepC,h0,cmpT]
 | un op x a ih =>
  intro ht p s
  have h1:=ht.1.2.1
  simp only [Tr.enc,List.foldl_append,ih ht.2,List.foldl_cons,List.foldl_nil,cmpT]
  cases h:cmpT V M a with
  | none => rfl
  | some d => simp [stepC,h1]
 | bin op a b iha ihb =>
  intro ht p s
  have h2:=ht.1
  simp only [Tr.enc,List.foldl_append,iha ht.2.1,List.foldl_cons,List.foldl_nil,cmpT]
  cases h:cmpT V M a with
  | none => simp [zmf,stepC]
  | some d =>
   simp only [Option.map_some,ihb ht.2.2,Option.bind_some]
   cases h':cmpT V M b with
   | none => rfl
   | some e => simp [stepC,h2]
def NeedC:List Mk -> Nat -> Prop
 | [],n => n = 1
 | m :: r,n => (nc m.op).toNat <= n /\ NeedC r (n - (nc m.op).toNat + 1)
theorem zre (t:Tr):t.ok -> ∀ (p n:Nat) (r:List Mk),NeedC r (n + 1) -> NeedC (t.enc p ++ r) n:=by
 induction t with
 | leaf op x y =>
  intro ht p n r h
  have h0:=ht.2.1
  simp [Tr.enc,NeedC,h0,h]
 | un op x a ih =>
  intro ht p n r h
  have h1:=ht.1.2.1
  simp only [Tr.enc,List.append_assoc]
  refine ih ht.2 p n _ ?_
  simp [NeedC,h1,h]
 | bin op a b iha ihb =>
  intro ht p n r h
  have h2:=ht.1
  simp only [Tr.enc,List.append_assoc]
  refine iha ht.2.1 p n _ (ihb ht.2.2 _ _ _ ?_)
  simp only [List.cons_append,List.nil_append,NeedC,h2]
  exact ⟨by show 2 <= n + 1 + 1; omega,by show NeedC r (n + 1 + 1 - 2 + 1); rwa [show n + 1 + 1 - 2 + 1 = n + 1 by omega]⟩
theorem zdo {a b:Dta} {L:Nat} (l:List (Nat × Nat)) (h0:(a.e,b.e) ∈ l) (hc:∀ p ∈ l,∀ q ∈ l,∀ x,x < L -> (a.nx p.1 q.1 x,b.nx p.2 q.2 x) ∈ l):∀ t:Bt,t.lb L -> (a.run t,b.run t) ∈ l
 | .nil,_ => h0
 | .node x u v,h => hc _ (zdo l h0 hc u h.2.1) _ (zdo l h0 hc v h.2.2) _ h.1.2
def zkr (a b:Dta) (L:Nat) (l:List (Nat × Nat)) (f:Bool -> Bool -> Bool):Bool :=
 l.contains (a.e,b.e) && l.all fun p => f (a.fin p.1) (b.fin p.2) && l.all fun q => (List.range L).all fun x => l.contains (a.nx p.1 q.1 x,b.nx p.2 q.2 x)
theorem zdv {a b:Dta} {L:Nat} {l:List (Nat × Nat)} {f:Bool -> Bool -> Bool} (h:zkr a b L l f = true):∀ t:Bt,t.lb L -> f (accS a t) (accS b t) = true:=by
 unfold zkr at h
 simp only [Bool.and_eq_true,List.contains_iff_mem,List.all_eq_true,List.mem_range] at h
 intro t ht
 exact (h.2 _ (zdo l h.1 (fun p hp q hq x hx => (h.2 p hp).2 q hq x hx) t ht)).1
theorem zeq {a b:Dta} {L:Nat} (l:List (Nat × Nat)) (h:zkr a b L l (fun p q => p == q) = true):∀ t:Bt,t.lb L -> accS a t = accS b t:=fun t ht => by simpa using zdv h t ht
theorem Dta.Is.n_le {d X:Dta} {L:Nat} {S:Bt -> Bool} (h:d.Is L S) (hX:X.OK) (hL:X.L = L) (hl:∀ t:Bt,t.lb L -> S t = accS X t):d.n <= X.n:=by
 have:=(h.same (Dta.mini_is hX hL (S:=accS X) (fun _ _ => rfl)) hl).n
 rw [this]
 exact Dta.mini_n hX
theorem Dta.Is.not {d:Dta} {L:Nat} {S:Bt -> Bool} (h:d.Is L S):d.notM.Is L (fun t => !S t):=by
 have:=Dta.notM_is h.can.ok
 rw [h.hL] at this
 exact this.of_lang fun t ht => by rw [h.lang t ht]
theorem Dta.Is.not_n {d:Dta} {L:Nat} {S:Bt -> Bool} (h:d.Is L S):d.notM.n <= d.n:=Dta.mini_n (Dta.neg_ok h.can.ok)
theorem Dta.Is.op {a b:Dta} {L:Nat} {S S':Bt -> Bool} (ha:a.Is L S) (hb:b.Is L S') (g:Bool -> Bool -> Bool) (hn:a.n * b.n <= 64):opC g a b = some (prodM a b g) /\ (prodM a b g).Is L (fun t => g (S t) (S' t)) /\ (prodM a b g).n <= a.n * b.n:=by
 have hL:a.L = b.L:=ha.hL.trans hb.hL.symm
 have hl:=zof ha.can.ok hb.can.ok hL
 refine ⟨by unfold opC; rw [if_pos (by omega)],?_,Nat.le_trans (zog ha.can.ok hb.can.ok hL g) hl⟩
 have:=zf2 ha.can.ok hb.can.ok hL g
 rw [ha.hL] at this
 exact this.of_lang fun t ht => by rw [ha.lang t ht,hb.lang t ht]
theorem Dta.Is.ex {d X:Dta} {V v:Nat} {S:Bt -> Bool} (h:d.Is (2 ^ V) S) (hv:v < V) (hn:d.n <= 6) (hX:X.OK) (hX64:X.n <= 64) (hXL:X.L = 2 ^ V) (hl:∀ t:Bt,t.lb (2 ^ V) -> S t = accS X t) :
  exC v 64 d = some (zb0 d v) /\ (zb0 d v).Is (2 ^ V) (fun t => za7 X (keyT (setF X v) (2 ^ X.e) t)) /\ (zb0 d v).n <= 64:=by
 have hs:=zq4 h.can.ok (V:=V) (v:=v) h.hL hv
 have hp:2 ^ d.n <= 2 ^ 6:=Nat.pow_le_pow_right (by omega) hn
 have h64:(setO d v).length <= 64:=by omega
 refine ⟨by unfold exC; rw [if_pos h64],?_,Nat.le_trans (zpr h.can.ok (V:=V) (v:=v) h.hL hv) h64⟩
 have hI:=zm9 h.can.ok (V:=V) (v:=v) h.hL hv
 rw [h.hL] at hI
 refine hI.of_lang fun t ht => ?_
 have e1:=zg4 h.can.ok (by omega) (V:=V) (v:=v) h.hL hv t (by rw [h.hL]; exact ht)
 have e2:=zg4 hX hX64 (V:=V) (v:=v) hXL hv t (by rw [hXL]; exact ht)
 rw [Bool.eq_iff_iff,e1,e2]
 constructor
 ·rintro ⟨u,hu,hf⟩
  have hub:=zh9 hv ht hu
  exact ⟨u,hu,by rw [h.lang u hub,hl u hub] at hf; exact hf⟩
 ·rintro ⟨u,hu,hf⟩
  have hub:=zh9 hv ht hu
  exact ⟨u,hu,by rw [h.lang u hub,hl u hub]; exact hf⟩
theorem Dta.Is.small {d:Dta} {L:Nat} {S:Bt -> Bool} (h:d.Is L S) (T:Bt) (hT:T.lb L) (hl:zjj L S T = true):zbf d = (T.enc 0,true,0) :=
 zq2 h.can.ok (S:=S) (fun t ht => h.lang t (by rw [<- h.hL]; exact ht)) T (by rw [h.hL]; exact hT) (by rw [h.hL]; exact hl)
theorem Dta.Is.small_no {d:Dta} {L:Nat} {S:Bt -> Bool} (h:d.Is L S) (hS:∀ t:Bt,t.lb L -> S t = false):zbf d = ([],false,0) :=
 zj7 h.can.ok fun t ht => by rw [h.hL] at ht; rw [h.lang t ht,hS t ht]
theorem zbn (op X Y:Int) {V:Nat} (hV:V <= 3):((atomA op X Y V).mini).Is (2 ^ V) (accS (atomA op X Y V)):=Dta.mini_is (zcj op X Y hV).ok rfl fun _ _ => rfl
theorem zj1 (op X Y:Int) {V:Nat} (hV:V <= 3):(atomA op X Y V).mini.n <= 4:=Dta.mini_n (zcj op X Y hV).ok
def satS (V M:Nat) (t:Tr):List Lf × Bool × Nat:=match cmpT V M t with
 | some d => zbf d
 | none => ([],false,10)
def refS (d:Dta):List Lf × Bool × Nat:=((zbf d).1,decide ((zbf d).2.2 = 0) && !(zbf d).2.1,(zbf d).2.2)
def zhj (V M:Nat) (t:Tr):List Lf × Bool × Nat:=match cmpT V M t with
 | some d => refS d.notM
 | none => ([],false,10)
def eqvC (d e:Dta):Option Dta:=(opC (fun p q => p && !q) d e).bind fun a => (opC (fun p q => p && !q) e d).bind fun b => opC (fun p q => p || q) a b
def zjs (V M:Nat) (t u:Tr):List Lf × Bool × Nat:=match cmpT V M t with
 | none => ([],false,10)
 | some d => match cmpT V M u with
  | none => ([],false,10)
  | some e => match eqvC d e with
   | none => ([],false,10)
   | some c => refS c
theorem za5 (V M:Nat) (op x y:Int):cmpT V M (.leaf op x y) = some (atomA op x y V).mini:=rfl
theorem zeg (V M:Nat) (op x:Int) (a:Tr):cmpT V M (.un op x a) = (cmpT V M a).bind (unC V M op x):=rfl
theorem zf8 (V M:Nat) (op:Int) (a b:Tr):cmpT V M (.bin op a b) = (cmpT V M a).bind fun d => (cmpT V M b).bind fun e => opC (binG op) d e:=rfl
theorem unC_9 (V M:Nat) (x:Int) (d:Dta):unC V M 9 x d = some d.notM:=by unfold unC; rw [if_pos rfl]
theorem unC_12 (V M:Nat) (x:Int) (d:Dta):unC V M 12 x d = exC x.toNat M d:=by unfold unC; rw [if_neg (by decide),if_pos rfl]
theorem unC_14 (V M:Nat) (x:Int) (d:Dta):unC V M 14 x d = (opC (fun p q => p && q) d (singC x V)).bind (exC x.toNat M):=by unfold unC; rw [if_neg (by decide),if_neg (by decide),if_neg (by decide),if_pos rfl]
theorem unC_15 (V M:Nat) (x:Int) (d:Dta):unC V M 15 x d = ((opC (fun p q => p && q) d.notM (singC x V)).bind (exC x.toNat M)).map Dta.notM:=by unfold unC; rw [if_neg (by decide),if_neg (by decide),if_neg (by decide),if_neg (by decide)]
theorem zgo {V M:Nat} {t:Tr} {d:Dta} (h:cmpT V M t = some d):satS V M t = zbf d:=by unfold satS; rw [h]
theorem zgb {V M:Nat} {t:Tr} {d:Dta} (h:cmpT V M t = some d):zhj V M t = refS d.notM:=by unfold zhj; rw [h]
theorem zkd {d:Dta} {l:List Lf} {b:Bool} (h:zbf d = (l,b,0)):refS d = (l,!b,0):=by unfold refS; rw [h]; simp
theorem zkl {V M:Nat} {t u:Tr} {d e c:Dta} (h:cmpT V M t = some d) (h2:cmpT V M u = some e) (h3:eqvC d e = some c):zjs V M t u = refS c:=by unfold zjs; rw [h,h2]; simp only [h3]
theorem zmq {L:Nat} {S:Bt -> Bool} (h:S .nil = true):zjj L S .nil = true:=by
 have e:cmpL Bt.nil.code Bt.nil.code = 0:=(ze2 _ _).2 rfl
 unfold zjj
 simp [h,Bt.size,tsF,e]
def X3:Dta:=⟨3,0,4,fun l r x => min (l + r + x % 2) 2,fun s => s == 1⟩
def X2:Dta:=⟨2,0,4,fun l r x => if l = 0 /\ r = 0 /\ x % 2 <= x / 2 then 0 else 1,fun s => s == 0⟩
def X6:Dta:=⟨6,0,4,fun l r x => X3.nx (l / 2) (r / 2) x * 2 + X2.nx (l % 2) (r % 2) x,fun s => X3.fin (s / 2) && X2.fin (s % 2)⟩
def Xt:Dta:=⟨1,0,4,fun _ _ _ => 0,fun _ => true⟩
def Xf:Dta:=⟨1,0,4,fun _ _ _ => 0,fun _ => false⟩
theorem X3_ok:X3.OK:=⟨by decide,fun l r x _ _ _ => by show min _ 2 < 3; omega⟩
theorem X2_ok:X2.OK:=⟨by decide,fun l r x _ _ _ => by show (if _ then 0 else 1) < 2; split <;> omega⟩
theorem X6_ok:X6.OK:=⟨by decide,fun l r x hl hr hx => by
 have h1:X3.nx (l / 2) (r / 2) x < 3:=by show min _ 2 < 3; omega
 have h2:X2.nx (l % 2) (r % 2) x < 2:=by show (if _ then 0 else 1) < 2; split <;> omega
 show _ * 2 + _ < 6
 omega⟩
theorem Xt_ok:Xt.OK:=⟨by decide,fun _ _ _ _ _ _ => Nat.zero_lt_one⟩
theorem Xf_ok:Xf.OK:=⟨by decide,fun _ _ _ _ _ _ => Nat.zero_lt_one⟩
theorem sing3:∀ t:Bt,t.lb 4 -> accS (atomA 4 0 0 2) t = accS X3 t:=zeq [(0,0),(1,1),(3,2)] (by decide +kernel)
theorem sub2C:∀ t:Bt,t.lb 4 -> accS (atomA 2 0 1 2) t = accS X2 t:=zeq [(0,0),(3,1)] (by decide +kernel)
theorem sub1C:∀ t:Bt,t.lb 4 -> accS (atomA 2 0 0 2) t = accS Xt t:=zeq [(0,0)] (by decide +kernel)
theorem less0:∀ t:Bt,t.lb 4 -> accS (atomA 6 0 0 2) t = accS Xf t:=zeq [(0,0),(3,0)] (by decide +kernel)
theorem X6_lang (t:Bt):X6.run t = X3.run t * 2 + X2.run t /\ X2.run t < 2:=by
 induction t with
 | nil => exact ⟨rfl,by decide⟩
 | node a l r ihl ihr =>
  obtain ⟨e1,g1⟩:=ihl
  obtain ⟨e2,g2⟩:=ihr
  constructor
  ·show X3.nx (X6.run l / 2) (X6.run r / 2) a.toNat * 2 + X2.nx (X6.run l % 2) (X6.run r % 2) a.toNat = _
   rw [e1,e2,show (X3.run l * 2 + X2.run l) / 2 = X3.run l by omega,show (X3.run r * 2 + X2.run r) / 2 = X3.run r by omega,show (X3.run l * 2 + X2.run l) % 2 = X2.run l by omega,show (X3.run r * 2 + X2.run r) % 2 = X2.run r by omega]
   rfl
  ·show (if _ then 0 else 1) < 2
   split <;> omega
theorem X6_acc (t:Bt):accS X6 t = (accS X3 t && accS X2 t):=by
 obtain ⟨e,g⟩:=X6_lang t
 show (X3.fin (X6.run t / 2) && X2.fin (X6.run t % 2)) = _
 rw [e,show (X3.run t * 2 + X2.run t) / 2 = X3.run t by omega,show (X3.run t * 2 + X2.run t) % 2 = X2.run t by omega]
 rfl
theorem c1:satS 2 64 (.leaf 7 0 1) = ([⟨1,1,-1⟩,⟨2,-1,-1⟩],true,0):=by
 rw [zgo (za5 _ _ _ _ _)]
 exact (zbn 7 0 1 (V:=2) (by omega)).small (.node 1 (.node 2 .nil .nil) .nil) (by decide) (by decide +kernel)
theorem c2:satS 2 64 (.bin 10 (.leaf 7 0 1) (.leaf 8 0 1)) = ([],false,0):=by
 have ha:=zbn 7 0 1 (V:=2) (by omega)
 have hb:=zbn 8 0 1 (V:=2) (by omega)
 have hn:=Nat.mul_le_mul (zj1 7 0 1 (V:=2) (by omega)) (zj1 8 0 1 (V:=2) (by omega))
 have e:=zf8 2 64 10 (.leaf 7 0 1) (.leaf 8 0 1)
 rw [za5,za5,Option.bind_some,Option.bind_some] at e
 generalize (atomA 7 0 1 2).mini = a at *
 generalize (atomA 8 0 1 2).mini = b at *
 obtain ⟨h1,h2,_⟩:=ha.op hb (binG 10) (by omega)
 rw [zgo (e.trans h1)]
 exact h2.small_no fun t ht => by
  have:=zdv (a:=atomA 7 0 1 2) (b:=atomA 8 0 1 2) (L:=4) (l:=[(0,0),(1,1),(2,3),(3,2),(3,3)]) (f:=fun p q => !(p && q)) (by decide +kernel) t ht
  revert this
  simp only [binG]
  cases accS (atomA 7 0 1 2) t <;> cases accS (atomA 8 0 1 2) t <;> decide
theorem c3:satS 2 64 (.un 12 0 (.bin 10 (.leaf 4 0 0) (.leaf 2 0 1))) = ([⟨2,-1,-1⟩],true,0):=by
 have ha:=zbn 4 0 0 (V:=2) (by omega)
 have hb:=zbn 2 0 1 (V:=2) (by omega)
 have na:=ha.n_le X3_ok rfl sing3
 have nb:=hb.n_le X2_ok rfl sub2C
 have hn:=Nat.mul_le_mul na nb
 have h6:X3.n * X2.n = 6:=by decide
 have e:=zeg 2 64 12 0 (.bin 10 (.leaf 4 0 0) (.leaf 2 0 1))
 rw [zf8,za5,za5,Option.bind_some,Option.bind_some] at e
 generalize (atomA 4 0 0 2).mini = a at *
 generalize (atomA 2 0 1 2).mini = b at *
 obtain ⟨h1,h2,h3⟩:=ha.op hb (binG 10) (by omega)
 rw [h1,Option.bind_some,unC_12] at e
 obtain ⟨k1,k2,_⟩:=h2.ex (X:=X6) (V:=2) (v:=0) (by omega) (by omega) X6_ok (by decide) rfl (fun t ht => by rw [X6_acc,sing3 t ht,sub2C t ht]; simp [binG])
 rw [zgo (e.trans k1)]
 exact k2.small (.node 2 .nil .nil) (by decide) (by decide +kernel)
theorem c4:zhj 2 64 (.un 15 0 (.un 9 0 (.leaf 6 0 0))) = ([],true,0):=by
 have h0:=zbn 6 0 0 (V:=2) (by omega)
 have n0:=h0.n_le Xf_ok rfl less0
 have hs:=zbn 4 0 0 (V:=2) (by omega)
 have ns:=zj1 4 0 0 (V:=2) (by omega)
 have e:=(zeg 2 64 15 0 (.un 9 0 (.leaf 6 0 0))).trans (congrArg (fun z => Option.bind z (unC 2 64 15 0)) (zeg 2 64 9 0 (.leaf 6 0 0)))
 rw [za5,Option.bind_some,unC_9,Option.bind_some,unC_15,singC] at e
 have h6:Xf.n = 1:=rfl
 rw [h6] at n0
 generalize (atomA 6 0 0 2).mini = a at *
 generalize (atomA 4 0 0 2).mini = b at *
 have n1:=h0.not_n
 have h2:=h0.not.not
 have n2:=h0.not.not_n
 have hn:=Nat.mul_le_mul (Nat.le_trans n2 (Nat.le_trans n1 n0)) ns
 obtain ⟨k1,k2,k3⟩:=h2.op hs (fun p q => p && q) (by omega)
 obtain ⟨j1,j2,_⟩:=k2.ex (X:=Xf) (V:=2) (v:=0) (by omega) (by omega) Xf_ok (by decide) rfl (fun t ht => by
  rw [less0 t ht]
  have e1:accS Xf t = false:=rfl
  simp [e1])
 rw [k1,Option.bind_some] at e
 change _ = Option.map Dta.notM (exC 0 64 _) at e
 rw [j1,Option.map_some] at e
 have hf:∀ t:Bt,za7 Xf (keyT (setF Xf 0) (2 ^ Xf.e) t) = false:=fun t => by simp [za7,Xf]
 rw [zgb e]
 exact zkd (j2.not.not.small_no fun t _ => by simp only [hf,Bool.not_not])
theorem c5:zhj 2 64 (.un 14 0 (.leaf 2 0 0)) = ([],false,0):=by
 have h0:=zbn 2 0 0 (V:=2) (by omega)
 have n0:=h0.n_le Xt_ok rfl sub1C
 have hs:=zbn 4 0 0 (V:=2) (by omega)
 have ns:=hs.n_le X3_ok rfl sing3
 have e:=zeg 2 64 14 0 (.leaf 2 0 0)
 rw [za5,Option.bind_some,unC_14,singC] at e
 have hn:=Nat.mul_le_mul n0 ns
 have h6:Xt.n * X3.n = 3:=by decide
 generalize (atomA 2 0 0 2).mini = a at *
 generalize (atomA 4 0 0 2).mini = b at *
 obtain ⟨k1,k2,k3⟩:=h0.op hs (fun p q => p && q) (by omega)
 obtain ⟨j1,j2,_⟩:=k2.ex (X:=X3) (V:=2) (v:=0) (by omega) (by omega) X3_ok (by decide) rfl (fun t ht => by
  rw [sub1C t ht,sing3 t ht]
  have e1:accS Xt t = true:=rfl
  simp [e1])
 rw [k1,Option.bind_some] at e
 rw [zgb (e.trans j1)]
 exact zkd (j2.not.small .nil trivial (zmq (by decide +kernel)))
theorem c6:zjs 2 64 (.leaf 6 0 1) (.leaf 7 0 1) = ([⟨1,-1,1⟩,⟨2,-1,-1⟩],false,0):=by
 have ha:=zbn 6 0 1 (V:=2) (by omega)
 have hb:=zbn 7 0 1 (V:=2) (by omega)
 have hn:=Nat.mul_le_mul (zj1 6 0 1 (V:=2) (by omega)) (zj1 7 0 1 (V:=2) (by omega))
 have ea:=za5 2 64 6 0 1
 have eb:=za5 2 64 7 0 1
 have h6:Xf.n = 1:=rfl
 generalize (atomA 6 0 1 2).mini = a at *
 generalize (atomA 7 0 1 2).mini = b at *
 have hn2:b.n * a.n <= 16:=by rw [Nat.mul_comm]; omega
 obtain ⟨h1,h2,h3⟩:=ha.op hb (fun p q => p && !q) (by omega)
 obtain ⟨k1,k2,_⟩:=hb.op ha (fun p q => p && !q) (by omega)
 have nk:=k2.n_le Xf_ok rfl (fun t ht => by
  have:=zdv (a:=atomA 7 0 1 2) (b:=atomA 6 0 1 2) (L:=4) (l:=[(0,0),(1,1),(2,2),(3,1),(3,2),(3,3)]) (f:=fun p q => !p || q) (by decide +kernel) t ht
  have e:accS Xf t = false:=rfl
  rw [e]
  revert this
  cases accS (atomA 7 0 1 2) t <;> cases accS (atomA 6 0 1 2) t <;> decide)
 rw [h6] at nk
 have hm:=Nat.mul_le_mul h3 nk
 obtain ⟨j1,j2,_⟩:=h2.op k2 (fun p q => p || q) (by omega)
 have e:eqvC a b = some (prodM (prodM a b fun p q => p && !q) (prodM b a fun p q => p && !q) fun p q => p || q):=by
  unfold eqvC
  rw [h1,Option.bind_some,k1,Option.bind_some,j1]
 rw [zkl ea eb e]
 exact zkd (j2.small (.node 1 .nil (.node 2 .nil .nil)) (by decide) (by decide +kernel))
theorem zr7:X3.Canon:=by
 refine ⟨X3_ok,by decide +kernel,?_⟩
 intro R hR s t hst
 obtain ⟨hs,ht⟩:=hR.lt s t hst
 have h0:0 < X3.n:=by decide
 have h1:1 < X3.L:=by decide
 have hf:=hR.fin s t hst
 have hg:=hR.fin _ _ (hR.l s t 0 1 hst h0 h1)
 have e1:s = 0 \/ s = 1 \/ s = 2:=by have:s < 3:=hs; omega
 have e2:t = 0 \/ t = 1 \/ t = 2:=by have:t < 3:=ht; omega
 rcases e1 with rfl | rfl | rfl <;> rcases e2 with rfl | rfl | rfl <;> first | rfl | exact absurd hf (by decide) | exact absurd hg (by decide)
theorem zr6:Xt.Canon:=by
 refine ⟨Xt_ok,by decide +kernel,?_⟩
 intro R hR s t hst
 obtain ⟨hs,ht⟩:=hR.lt s t hst
 have:s < 1:=hs
 have:t < 1:=ht
 omega
theorem c7:(atomA 4 0 0 2).mini.n = 3:=((zbn 4 0 0 (V:=2) (by omega)).same (⟨zr7,rfl,fun _ _ => rfl⟩:X3.Is (2 ^ 2) (accS X3)) sing3).n
theorem true1:∀ t:Bt,t.lb 4 -> accS (atomA 1 0 0 2) t = accS Xt t:=zeq [(0,0)] (by decide +kernel)
theorem c8:(atomA 1 0 0 2).mini.n = 1:=((zbn 1 0 0 (V:=2) (by omega)).same (⟨zr6,rfl,fun _ _ => rfl⟩:Xt.Is (2 ^ 2) (accS Xt)) true1).n
end Go.Proofs.YthdabkmkgkkmcaaGreatDoor
