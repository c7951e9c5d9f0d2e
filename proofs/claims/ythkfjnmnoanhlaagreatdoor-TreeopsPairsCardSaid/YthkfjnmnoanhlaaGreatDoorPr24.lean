/- Part 24 of the proof; it says: lemmas and contracts. No conditions but those that each theorem states. -/
import Derived.Test.YthkfjnmnoanhlaaGreatDoorPr01
import Derived.Test.YthkfjnmnoanhlaaGreatDoorPr05
import Derived.Test.YthkfjnmnoanhlaaGreatDoorPr06
import Derived.Test.YthkfjnmnoanhlaaGreatDoorPr08
import Derived.Test.YthkfjnmnoanhlaaGreatDoorPr16
import Derived.Test.YthkfjnmnoanhlaaGreatDoorPr20
import Derived.Test.YthkfjnmnoanhlaaGreatDoorPr22
import Derived.Test.YthkfjnmnoanhlaaGreatDoorPr23
set_option linter.unusedSimpArgs false
set_option linter.unusedVariables false
set_option linter.unusedSectionVars false
set_option maxRecDepth 100000
set_option maxHeartbeats 32000000
namespace Go.Proofs.YthkfjnmnoanhlaaGreatDoor
open Go.RowKit
def opR (a b:Dta) (g:Bool -> Bool -> Bool) (V:Nat):Raw × Nat:=if (prodO a b).length <= 64 then ((prodM a b g).raw V,0) else (zeroR,10)
abbrev FinP (fid:Nat) (g:Bool -> Bool -> Bool) (a b:Dta) (V:Nat):Prop:=∀ (w0:World) (gf gA gB:Nat) (vn vf un uf:Value),Row w0 gf 103 #[.func (.func fid) #[] #[]] -> AutV w0 gA V a vn vf -> AutV w0 gB V b un uf -> ∀ (p:Nat × Nat) (W:World),inP a b p -> Below w0.heap.size w0 W ->
 Calls Tryz.prog 118 #[pV p,.pointer (some ⟨gf,0,none⟩),.pointer (some ⟨gA,0,none⟩),.pointer (some ⟨gB,0,none⟩)] W fun e W' => e = .returned (.bool (g (a.fin p.1) (b.fin p.2))) /\ Below W.heap.size W W'
structure PrV (w:World) (G fid V:Nat) (a b:Dta) (vn vf un uf:Value) (W:World):Prop where
 below:Below G w W
 ha:AutV W G V a vn vf
 hb:AutV W (G + 1) V b un uf
 hf:Row W (G + 1 + 1) 103 #[.func (.func fid) #[] #[]]
 hr:Row W (G + 1 + 1 + 1) 25 #[.int .i64 0,.int .i64 0,.slice none 0 0,.slice none 0 0]
theorem PrV.to {w W W':World} {G fid V:Nat} {a b:Dta} {vn vf un uf:Value} (h:PrV w G fid V a b vn vf un uf W) (hb:Below W.heap.size W W') (hG:G <= W.heap.size):PrV w G fid V a b vn vf un uf W' :=
 ⟨h.below.trans (hb.mono hG),h.ha.below hb zn,h.hb.below hb zn,h.hf.below hb h.hf.lt,h.hr.below hb h.hr.lt⟩
theorem zhl (W:World) (a b c d e f g h:Value):(Instr.index 55 (.agg #[a,b,c,d,e,f,g,h]) (.int .i64 0)).run Tryz.prog W = .ok (.agg #[a,b,c,d]) W /\ (Instr.index 55 (.agg #[a,b,c,d,e,f,g,h]) (.int .i64 1)).run Tryz.prog W = .ok (.agg #[e,f,g,h]) W:=⟨by kernel_rfl,by kernel_rfl⟩
theorem zet (fid:Nat) (g:Bool -> Bool -> Bool) (a b:Dta) (V:Nat) (ha:a.Fit V) (hb:b.Fit V) (hP2:FinP fid g a b V) (va vb:Value) (w:World) (hva:TD w va (a.raw V)) (hvb:TD w vb (b.raw V)) :
  Calls Tryz.prog 77 #[va,vb,.func (.func fid) #[] #[]] w (RetR w (opR a b g V).1 (opR a b g V).2):=by
 have hL:a.L = b.L:=ha.L.trans hb.L.symm
 have hckA:=fun W (h:Below w.heap.size w W) => zap (a.raw V) va W (hva.below h zn) (by have:=ha.n64; rw [(a.raw_len V).1,(a.raw_len V).2]; omega)
 rw [a.raw_check ha] at hckA
 have hckB:=fun W (h:Below w.heap.size w W) => zap (b.raw V) vb W (hvb.below h zn) (by have:=hb.n64; rw [(b.raw_len V).1,(b.raw_len V).2]; omega)
 rw [b.raw_check hb] at hckB
 have hex:=fun (w0:World) (gA gB:Nat) (vn vf un uf:Value) (hA:AutV w0 gA V a vn vf) (hB:AutV w0 gB V b un uf) =>
  (show Calls Tryz.prog 115 #[.int .i64 (V:Int),.int .i64 64,.agg #[.int .i64 (a.e:Int),.int .i64 (b.e:Int)],.func (.func 116) #[] #[.pointer (some ⟨gA,0,none⟩),.pointer (some ⟨gB,0,none⟩)]] w0 (ExRetP (pairF a b) a.L (a.e,b.e) (inP a b) 64 w0) from
   zmm (inP a b) (fun p hp => ⟨Nat.lt_of_lt_of_le hp.1 ha.n64,Nat.lt_of_lt_of_le hp.2 hb.n64⟩) (pairF a b) V a.L 64 ha.v3 ha.L (by omega) (by omega) (a.e,b.e) ⟨ha.ok.he,hb.ok.he⟩ _ _ w0 (zqh a b V ha hb w0 gA gB vn vf un uf hA hB) (zgc ha.ok hb.ok hL))
 have hmi:=fun (w0:World) (gf gA gB:Nat) (vn vf un uf:Value) (hF:Row w0 gf 103 #[.func (.func fid) #[] #[]]) (hA:AutV w0 gA V a vn vf) (hB:AutV w0 gB V b un uf) (o:List (Nat × Nat)) (hE:Expl (pairF a b) a.L (a.e,b.e) o) (hP:∀ p ∈ o,inP a b p) (hl:o.length <= 64) (B:Nat) (kv rv:Value)
   (hk:KO 143 2 w0 B kv (o.map pC)) (hr:N3 w0 rv (nx3 o.length a.L (prodA a b o g).nx)) =>
  (show Calls Tryz.prog 117 #[.int .i64 (V:Int),kv,rv,.func (.func 118) #[] #[.pointer (some ⟨gf,0,none⟩),.pointer (some ⟨gA,0,none⟩),.pointer (some ⟨gB,0,none⟩)]] w0 (RetR w0 ((prodM a b g).raw V) 0) from by
   have h:=zog (prodA a b o g) V ⟨hE.ok _,hl,ha.v3,ha.L⟩ rfl o rfl (inP a b) hP (fun p => g (a.fin p.1) (b.fin p.2)) (fun i p hi => by show g (a.fin (o.getD i (a.e,b.e)).1) (b.fin (o.getD i (a.e,b.e)).2) = _; rw [getD_some hi]) _ _ _ w0 (fun p W hp hbw => hP2 w0 gf gA gB vn vf un uf hF hA hB p W hp hbw) B kv rv hk hr
   have e:=(zf0 ha.ok hb.ok hL g hE).raw (Dta.mini_ok (hE.ok _)) (zf0 ha.ok hb.ok hL g hE).L V
   rw [e] at h
   exact h)
 have hlen:=fun (o:List (Nat × Nat)) (hE:Expl (pairF a b) a.L (a.e,b.e) o) => (show o.length = (prodO a b).length from hE.len_eq (za9 ha.ok hb.ok hL))
 have hmost:=fun (ks:List (Nat × Nat)) (h1:ks.Nodup) (h2:∀ s ∈ ks,AccK (pairF a b) a.L (a.e,b.e) s) => (za9 ha.ok hb.ok hL).most h1 h2
 obtain ⟨vn,vf,rfl,hn,hf⟩:=hva
 obtain ⟨un,uf,rfl,hm,hg⟩:=hvb
 have hvars:(a.raw V).vars = (V:Int):=rfl
 have hemp:(a.raw V).empty = (a.e:Int):=rfl
 have hvars':(b.raw V).vars = (V:Int):=rfl
 have hemp':(b.raw V).empty = (b.e:Int):=rfl
 rw [hvars,hemp] at hckA ⊢
 rw [hvars',hemp'] at hckB ⊢
 obtain ⟨A1,c1,rfl,_⟩:=hn.open
 obtain ⟨A2,c2,rfl,_⟩:=hf.open
 obtain ⟨A3,c3,rfl,_⟩:=hm.open
 obtain ⟨A4,c4,rfl,_⟩:=hg.open
 rw [(a.raw_len V).1,(a.raw_len V).2] at hckA
 rw [(b.raw_len V).1,(b.raw_len V).2] at hckB
 rw [(a.raw_len V).1] at hn ⊢
 rw [(a.raw_len V).2] at hf ⊢
 rw [(b.raw_len V).1] at hm ⊢
 rw [(b.raw_len V).2] at hg ⊢
 have HCA:=zh hckA; have HCB:=zh hckB; have HEX:=zh hex; have HMI:=zh hmi; have HLEN:=zh hlen; have HMOST:=zh hmost
 have HN:=zh hn; have HF:=zh hf; have HM:=zh hm; have HG:=zh hg
 clear hckA hckB hex hmi hlen hmost hn hf hm hg hvars hemp hvars' hemp' hP2
 obtain ⟨n,hnn⟩:=zx a.n
 obtain ⟨m,hmm⟩:=zx b.n
 obtain ⟨E,hE⟩:=zx a.e
 obtain ⟨E',hE'⟩:=zx b.e
 have HV1:=zh (fun (W:World) (gA:Nat) (h:Row W gA 25 #[.int .i64 (V:Int),.int .i64 (E:Int),.slice A1 n c1,.slice A2 n c2]) (hb:Below w.heap.size w W) => (show AutV W gA V a (.slice A1 a.n c1) (.slice A2 a.n c2) from ⟨by rw [<- hE,<- hnn]; exact h,HN.out.below hb zn,HF.out.below hb zn⟩))
 have HV2:=zh (fun (W:World) (gA:Nat) (h:Row W gA 25 #[.int .i64 (V:Int),.int .i64 (E':Int),.slice A3 m c3,.slice A4 m c4]) (hb:Below w.heap.size w W) => (show AutV W gA V b (.slice A3 b.n c3) (.slice A4 b.n c4) from ⟨by rw [<- hE',<- hmm]; exact h,HM.out.below hb zn,HG.out.below hb zn⟩))
 rw [<- hnn,<- hE] at HCA
 rw [<- hmm,<- hE'] at HCB
 rw [<- hnn] at HV1
 rw [<- hmm] at HV2
 have HV1':Hid (∀ (W:World) (gA:Nat),AutV W gA V a (.slice A1 n c1) (.slice A2 n c2) -> Row W gA 25 #[.int .i64 (V:Int),.int .i64 (E:Int),.slice A1 n c1,.slice A2 n c2]):=fun W gA h => by rw [hE]; exact h.row
 have HV2':Hid (∀ (W:World) (gA:Nat),AutV W gA V b (.slice A3 m c3) (.slice A4 m c4) -> Row W gA 25 #[.int .i64 (V:Int),.int .i64 (E':Int),.slice A3 m c3,.slice A4 m c4]):=fun W gA h => by rw [hE']; exact h.row
 rw [<- hE,<- hE',<- hnn,<- hmm]
 have HEE:=zh hE; have HEE':=zh hE'
 clear hnn hmm hE hE' HN HF HM HG
 obtain ⟨R,hR⟩:=zx ((opR a b g V))
 have HRR:=zh hR
 rw [<- hR]
 clear hR
 go_enter Tryz.func77,Tryz.ntmps77
 go_wp2
 refine zab (PrV w w.heap.size fid V a b (.slice A1 n c1) (.slice A2 n c2) (.slice A3 m c3) (.slice A4 m c4))
  ⟨by go_grown,HV1.out _ _ ((((Row.new _ _ _).alloc _).alloc _).alloc _) (by go_grown),HV2.out _ _ (((Row.lit (by simp)).alloc _).alloc _) (by go_grown),(Row.lit (by simp)).alloc _,Row.lit (by simp)⟩ ?_
 rintro W0 hp
 have HP:=zh hp
 clear hp
 go_loopg [17] 2 (fun gk q wr => ∃ i:Nat,i <= 2 /\ gk = 2 - i /\ q = .int .i64 i /\ PrV w w.heap.size fid V a b (.slice A1 n c1) (.slice A2 n c2) (.slice A3 m c3) (.slice A4 m c4) wr)
 case atStart => exact ⟨0,by omega,rfl,rfl,HP.out⟩
 case round =>
  clear HP
  obtain ⟨i,hi,rfl,rfl,hp⟩:=hrel
  obtain ⟨wl,hwl⟩:=zx wr
  subst hwl
  have HP:=zh hp
  have hsz:=hp.below.size
  clear hp
  by_cases hlt:i < 2
  ·have h01:i = 0 \/ i = 1:=by omega
   have hix:=zhl wl (.int .i64 (V:Int)) (.int .i64 (E:Int)) (.slice A1 n c1) (.slice A2 n c2) (.int .i64 (V:Int)) (.int .i64 (E':Int)) (.slice A3 m c3) (.slice A4 m c4)
   obtain ⟨hi0,hi1⟩:=hix
   rcases h01 with rfl | rfl
   ·go_wp2_with (go_at_call 50; refine (HCA.out _ (by have:=HP.out.below; go_grown)).mono ?_; rintro e w2 ⟨rfl,hb2⟩; have HB2:=zh hb2; clear hb2)
    go_roundg 1
    case rel => exact ⟨1,by omega,rfl,by go_num,HP.out.to ((Below.alloc (Below.refl _ _) zn _).trans (HB2.out.mono (by simp))) hsz⟩
    case measure => omega
   ·go_wp2_with (go_at_call 50; refine (HCB.out _ (by have:=HP.out.below; go_grown)).mono ?_; rintro e w2 ⟨rfl,hb2⟩; have HB2:=zh hb2; clear hb2)
    go_roundg 0
    case rel => exact ⟨2,by omega,rfl,by go_num,HP.out.to ((Below.alloc (Below.refl _ _) zn _).trans (HB2.out.mono (by simp))) hsz⟩
    case measure => omega
  ·have hp:=HP.out
   have y0:=(HV1'.out _ _ hp.ha).cell; have y1:=(HV2'.out _ _ hp.hb).cell
   have HEXP:=zh (HEX.out wl w.heap.size (w.heap.size + 1) _ _ _ _ hp.ha hp.hb)
   rw [<- HEE.out,<- HEE'.out] at HEXP
   clear hp HEX HCA HCB
   go_upto_region 11 with (go_at_call 115; refine HEXP.out.mono ?_; intro e w2 h2; obtain ⟨kv,rv,bo,rfl,hb2,hcase⟩:=h2.out; have HB2:=zh hb2; have HCASE:=zh hcase; clear h2 hb2 hcase)
   have HP2:=zh (HP.out.to HB2.out hsz)
   have y0:=(HV1'.out _ _ HP2.out.ha).cell
   have z0:=HP2.out.hr.cell; have z1:=HP2.out.hr.free
   have hsz2:=HP2.out.below.size
   rw [HEE.out,HEE'.out] at HCASE
   rcases HCASE.out with ⟨rfl,o,hEo,hPo,hlo,hko,hro⟩ | ⟨rfl,ks,hk1,hk2,hk3⟩
   ·have hok:R = ((prodM a b g).raw V,0):=by rw [HRR.out]; unfold opR; rw [if_pos (by rw [<- HLEN.out o hEo]; exact hlo)]
    have HMM:=zh (HMI.out w2 (w.heap.size + 1 + 1) w.heap.size (w.heap.size + 1) _ _ _ _ HP2.out.hf HP2.out.ha HP2.out.hb o hEo hPo hlo _ kv rv hko (hro (fun p => g (a.fin p.1) (b.fin p.2))).n3)
    have HOK:=zh hok
    obtain ⟨R2,hR2⟩:=zx ((prodM a b g).raw V)
    rw [<- hR2] at HMM
    have HR2:=zh hR2
    clear HCASE hEo hPo hlo hko hro hok hR2
    go_wp2_with (go_at_call 117; refine HMM.out.mono ?_; intro e w6 h6; obtain ⟨A6,c6,A7,c7,rfl,hb6,ht6⟩:=h6.unfold; have HT:=zh ht6; have HB6:=zh hb6; have RR6:=zh (HP2.out.hr.below hb6 HP2.out.hr.lt); have b0:=RR6.out.cell; have b1:=RR6.out.free; clear h6 hb6 ht6 y0 z0 z1)
    refine zad (fun W => Row W (w.heap.size + 1 + 1 + 1) 25 #[.int .i64 R2.vars,.int .i64 R2.empty,.slice A6 R2.next.length c6,.slice A7 R2.fin.length c7] /\ TDO W w2.heap.size (.agg #[.int .i64 R2.vars,.int .i64 R2.empty,.slice A6 R2.next.length c6,.slice A7 R2.fin.length c7]) R2 /\ Below w.heap.size w W)
     (zam RR6.out HT.out (HP2.out.below.trans (HB6.out.mono hsz2)) (by omega)) ?_
    clear b0 b1 RR6 HT
    rintro W5 ⟨r0,hT,hb⟩
    have b0:=r0.cell
    have q0:=b0 0; have q1:=b0 1; have q2:=b0 2; have q3:=b0 3
    simp only [zg] at q0 q1 q2 q3
    have HT:=zh (hT.mono hsz2); have HBX:=zh hb
    clear b0 r0 hT hb
    exact bodyPost_ret (v:=.tuple #[.agg #[.int .i64 R2.vars,.int .i64 R2.empty,.slice A6 R2.next.length c6,.slice A7 R2.fin.length c7],.int .i64 0]) (by simp [results,Tryz.results77,go_sem,q0,q1,q2,q3]) rfl ⟨_,by rw [HOK.out]; rfl,HBX.out,by rw [HOK.out]; show TDO _ _ _ ((prodM a b g).raw V); rw [<- HR2.out]; exact HT.out⟩
   ·have hok:R = (zeroR,10):=by rw [HRR.out]; unfold opR; rw [if_neg (by have:=HMOST.out ks hk1 hk2; omega)]
    have HOK:=zh hok
    clear HCASE hk1 hk2 hk3 hok y0
    go_wp2
    refine zad (fun W => Row W (w.heap.size + 1 + 1 + 1) 25 #[.int .i64 0,.int .i64 0,.slice none 0 0,.slice none 0 0] /\ TDO W w2.heap.size zeroV zeroR /\ Below w.heap.size w W) (zam HP2.out.hr (zai _ _) HP2.out.below (by omega)) ?_
    clear z0 z1
    rintro W5 ⟨r0,hT,hb⟩
    have b0:=r0.cell
    have q0:=b0 0; have q1:=b0 1; have q2:=b0 2; have q3:=b0 3
    simp only [zg] at q0 q1 q2 q3
    have HB:=zh hb
    clear b0 r0 hT hb
    exact bodyPost_ret (v:=.tuple #[zeroV,.int .i64 10]) (by simp [results,Tryz.results77,go_sem,q0,q1,q2,q3,zeroV]) rfl ⟨_,by rw [HOK.out]; rfl,HB.out,by rw [HOK.out]; exact zai _ _⟩
end Go.Proofs.YthkfjnmnoanhlaaGreatDoor
namespace Go.Proofs.YthkfjnmnoanhlaaGreatDoor
open Go.RowKit
theorem zp0 (a b:Dta) (V:Nat) (ha:a.Fit V) (hb:b.Fit V) (va vb:Value) (w:World) (hva:TD w va (a.raw V)) (hvb:TD w vb (b.raw V)) :
  Calls Tryz.prog 31 #[va,vb] w (RetR w (opR a b (fun p q => p && q) V).1 (opR a b (fun p q => p && q) V).2):=by
 have hpr:=fun W (h:Below w.heap.size w W) => zet 78 (fun p q => p && q) a b V ha hb (fun w0 gf gA gB vn vf un uf hF hA hB p W hp hbw => zir a b V ha hb w0 gf gA gB _ vn vf un uf hF hA hB p hp W hbw) va vb W (hva.below h zn) (hvb.below h zn)
 obtain ⟨A1,c1,A2,c2,rfl⟩:=hva.form
 obtain ⟨A3,c3,A4,c4,rfl⟩:=hvb.form
 obtain ⟨R,hR⟩:=zx (opR a b (fun p q => p && q) V)
 rw [<- hR] at hpr ⊢
 obtain ⟨ra,hra⟩:=zx (a.raw V)
 obtain ⟨rb,hrb⟩:=zx (b.raw V)
 rw [<- hra,<- hrb] at hpr ⊢
 obtain ⟨n1,h1⟩:=zx ra.next.length
 obtain ⟨n2,h2⟩:=zx ra.fin.length
 obtain ⟨n3,h3⟩:=zx rb.next.length
 obtain ⟨n4,h4⟩:=zx rb.fin.length
 obtain ⟨V1,h5⟩:=zx ra.vars
 obtain ⟨E1,h6⟩:=zx ra.empty
 obtain ⟨V2,h7⟩:=zx rb.vars
 obtain ⟨E2,h8⟩:=zx rb.empty
 rw [<- h1,<- h2,<- h3,<- h4,<- h5,<- h6,<- h7,<- h8] at hpr ⊢
 have HPR:=zh hpr
 clear hpr hva hvb hR hra hrb h1 h2 h3 h4 h5 h6 h7 h8
 obtain ⟨R2,k⟩:=R
 simp only at HPR ⊢
 go_enter Tryz.func31,Tryz.ntmps31
 go_upto_region 1 with fail
 refine zab (fun W => Below w.heap.size w W /\ Row W w.heap.size 25 #[.int .i64 V1,.int .i64 E1,.slice A1 n1 c1,.slice A2 n2 c2] /\ Row W (w.heap.size + 1) 25 #[.int .i64 V2,.int .i64 E2,.slice A3 n3 c3,.slice A4 n4 c4] /\ Row W (w.heap.size + 1 + 1) 25 #[.int .i64 0,.int .i64 0,.slice none 0 0,.slice none 0 0])
  ⟨by go_grown,((Row.new _ _ _).alloc _).alloc _,(Row.lit (by simp)).alloc _,Row.lit (by simp)⟩ ?_
 rintro W ⟨hb,r1,r2,r3⟩
 have y0:=r1.cell; have y1:=r2.cell
 have HB:=zh hb; have R3:=zh r3
 have hsz:=hb.size
 clear hb r1 r2 r3
 go_wp2_with (go_at_call 77; refine (HPR.out _ HB.out).mono ?_; intro e w6 h6; obtain ⟨A6,c6,A7,c7,rfl,hb6,ht6⟩:=h6.unfold; have HT:=zh ht6; have HB6:=zh hb6; have RR6:=zh (R3.out.below hb6 R3.out.lt); have b0:=RR6.out.cell; have b1:=RR6.out.free; clear h6 hb6 ht6 y0 y1)
 refine zad (fun X => Row X (w.heap.size + 1 + 1) 25 #[.int .i64 R2.vars,.int .i64 R2.empty,.slice A6 R2.next.length c6,.slice A7 R2.fin.length c7] /\ TDO X W.heap.size (.agg #[.int .i64 R2.vars,.int .i64 R2.empty,.slice A6 R2.next.length c6,.slice A7 R2.fin.length c7]) R2 /\ Below w.heap.size w X)
  (zam RR6.out HT.out (HB.out.trans (HB6.out.mono hsz)) (by omega)) ?_
 clear b0 b1 RR6 HT
 rintro W5 ⟨r0,hT,hb⟩
 have b0:=r0.cell
 have q0:=b0 0; have q1:=b0 1; have q2:=b0 2; have q3:=b0 3
 simp only [zg] at q0 q1 q2 q3
 have HT:=zh (hT.mono hsz); have HBX:=zh hb
 clear b0 r0 hT hb
 exact bodyPost_ret (v:=.tuple #[.agg #[.int .i64 R2.vars,.int .i64 R2.empty,.slice A6 R2.next.length c6,.slice A7 R2.fin.length c7],.int .i64 (k:Int)]) (by simp [results,Tryz.results31,go_sem,q0,q1,q2,q3]) rfl ⟨_,rfl,HBX.out,HT.out⟩
theorem Or_ok (a b:Dta) (V:Nat) (ha:a.Fit V) (hb:b.Fit V) (va vb:Value) (w:World) (hva:TD w va (a.raw V)) (hvb:TD w vb (b.raw V)) :
  Calls Tryz.prog 33 #[va,vb] w (RetR w (opR a b (fun p q => p || q) V).1 (opR a b (fun p q => p || q) V).2):=by
 have hpr:=fun W (h:Below w.heap.size w W) => zet 80 (fun p q => p || q) a b V ha hb (fun w0 gf gA gB vn vf un uf hF hA hB p W hp hbw => zjw a b V ha hb w0 gf gA gB _ vn vf un uf hF hA hB p hp W hbw) va vb W (hva.below h zn) (hvb.below h zn)
 obtain ⟨A1,c1,A2,c2,rfl⟩:=hva.form
 obtain ⟨A3,c3,A4,c4,rfl⟩:=hvb.form
 obtain ⟨R,hR⟩:=zx (opR a b (fun p q => p || q) V)
 rw [<- hR] at hpr ⊢
 obtain ⟨ra,hra⟩:=zx (a.raw V)
 obtain ⟨rb,hrb⟩:=zx (b.raw V)
 rw [<- hra,<- hrb] at hpr ⊢
 obtain ⟨n1,h1⟩:=zx ra.next.length
 obtain ⟨n2,h2⟩:=zx ra.fin.length
 obtain ⟨n3,h3⟩:=zx rb.next.length
 obtain ⟨n4,h4⟩:=zx rb.fin.length
 obtain ⟨V1,h5⟩:=zx ra.vars
 obtain ⟨E1,h6⟩:=zx ra.empty
 obtain ⟨V2,h7⟩:=zx rb.vars
 obtain ⟨E2,h8⟩:=zx rb.empty
 rw [<- h1,<- h2,<- h3,<- h4,<- h5,<- h6,<- h7,<- h8] at hpr ⊢
 have HPR:=zh hpr
 clear hpr hva hvb hR hra hrb h1 h2 h3 h4 h5 h6 h7 h8
 obtain ⟨R2,k⟩:=R
 simp only at HPR ⊢
 go_enter Tryz.func33,Tryz.ntmps33
 go_upto_region 1 with fail
 refine zab (fun W => Below w.heap.size w W /\ Row W w.heap.size 25 #[.int .i64 V1,.int .i64 E1,.slice A1 n1 c1,.slice A2 n2 c2] /\ Row W (w.heap.size + 1) 25 #[.int .i64 V2,.int .i64 E2,.slice A3 n3 c3,.slice A4 n4 c4] /\ Row W (w.heap.size + 1 + 1) 25 #[.int .i64 0,.int .i64 0,.slice none 0 0,.slice none 0 0])
  ⟨by go_grown,((Row.new _ _ _).alloc _).alloc _,(Row.lit (by simp)).alloc _,Row.lit (by simp)⟩ ?_
 rintro W ⟨hb,r1,r2,r3⟩
 have y0:=r1.cell; have y1:=r2.cell
 have HB:=zh hb; have R3:=zh r3
 have hsz:=hb.size
 clear hb r1 r2 r3
 go_wp2_with (go_at_call 77; refine (HPR.out _ HB.out).mono ?_; intro e w6 h6; obtain ⟨A6,c6,A7,c7,rfl,hb6,ht6⟩:=h6.unfold; have HT:=zh ht6; have HB6:=zh hb6; have RR6:=zh (R3.out.below hb6 R3.out.lt); have b0:=RR6.out.cell; have b1:=RR6.out.free; clear h6 hb6 ht6 y0 y1)
 refine zad (fun X => Row X (w.heap.size + 1 + 1) 25 #[.int .i64 R2.vars,.int .i64 R2.empty,.slice A6 R2.next.length c6,.slice A7 R2.fin.length c7] /\ TDO X W.heap.size (.agg #[.int .i64 R2.vars,.int .i64 R2.empty,.slice A6 R2.next.length c6,.slice A7 R2.fin.length c7]) R2 /\ Below w.heap.size w X)
  (zam RR6.out HT.out (HB.out.trans (HB6.out.mono hsz)) (by omega)) ?_
 clear b0 b1 RR6 HT
 rintro W5 ⟨r0,hT,hb⟩
 have b0:=r0.cell
 have q0:=b0 0; have q1:=b0 1; have q2:=b0 2; have q3:=b0 3
 simp only [zg] at q0 q1 q2 q3
 have HT:=zh (hT.mono hsz); have HBX:=zh hb
 clear b0 r0 hT hb
 exact bodyPost_ret (v:=.tuple #[.agg #[.int .i64 R2.vars,.int .i64 R2.empty,.slice A6 R2.next.length c6,.slice A7 R2.fin.length c7],.int .i64 (k:Int)]) (by simp [results,Tryz.results33,go_sem,q0,q1,q2,q3]) rfl ⟨_,rfl,HBX.out,HT.out⟩
theorem zl3 (a b:Dta) (V:Nat) (ha:a.Fit V) (hb:b.Fit V) (va vb:Value) (w:World) (hva:TD w va (a.raw V)) (hvb:TD w vb (b.raw V)) :
  Calls Tryz.prog 35 #[va,vb] w (RetR w (opR a b (fun p q => p && !q) V).1 (opR a b (fun p q => p && !q) V).2):=by
 have hpr:=fun W (h:Below w.heap.size w W) => zet 81 (fun p q => p && !q) a b V ha hb (fun w0 gf gA gB vn vf un uf hF hA hB p W hp hbw => zgs a b V ha hb w0 gf gA gB _ vn vf un uf hF hA hB p hp W hbw) va vb W (hva.below h zn) (hvb.below h zn)
 obtain ⟨A1,c1,A2,c2,rfl⟩:=hva.form
 obtain ⟨A3,c3,A4,c4,rfl⟩:=hvb.form
 obtain ⟨R,hR⟩:=zx (opR a b (fun p q => p && !q) V)
 rw [<- hR] at hpr ⊢
 obtain ⟨ra,hra⟩:=zx (a.raw V)
 obtain ⟨rb,hrb⟩:=zx (b.raw V)
 rw [<- hra,<- hrb] at hpr ⊢
 obtain ⟨n1,h1⟩:=zx ra.next.length
 obtain ⟨n2,h2⟩:=zx ra.fin.length
 obtain ⟨n3,h3⟩:=zx rb.next.length
 obtain ⟨n4,h4⟩:=zx rb.fin.length
 obtain ⟨V1,h5⟩:=zx ra.vars
 obtain ⟨E1,h6⟩:=zx ra.empty
 obtain ⟨V2,h7⟩:=zx rb.vars
 obtain ⟨E2,h8⟩:=zx rb.empty
 rw [<- h1,<- h2,<- h3,<- h4,<- h5,<- h6,<- h7,<- h8] at hpr ⊢
 have HPR:=zh hpr
 clear hpr hva hvb hR hra hrb h1 h2 h3 h4 h5 h6 h7 h8
 obtain ⟨R2,k⟩:=R
 simp only at HPR ⊢
 go_enter Tryz.func35,Tryz.ntmps35
 go_upto_region 1 with fail
 refine zab (fun W => Below w.heap.size w W /\ Row W w.heap.size 25 #[.int .i64 V1,.int .i64 E1,.slice A1 n1 c1,.slice A2 n2 c2] /\ Row W (w.heap.size + 1) 25 #[.int .i64 V2,.int .i64 E2,.slice A3 n3 c3,.slice A4 n4 c4] /\ Row W (w.heap.size + 1 + 1) 25 #[.int .i64 0,.int .i64 0,.slice none 0 0,.slice none 0 0])
  ⟨by go_grown,((Row.new _ _ _).alloc _).alloc _,(Row.lit (by simp)).alloc _,Row.lit (by simp)⟩ ?_
 rintro W ⟨hb,r1,r2,r3⟩
 have y0:=r1.cell; have y1:=r2.cell
 have HB:=zh hb; have R3:=zh r3
 have hsz:=hb.size
 clear hb r1 r2 r3
 go_wp2_with (go_at_call 77; refine (HPR.out _ HB.out).mono ?_; intro e w6 h6; obtain ⟨A6,c6,A7,c7,rfl,hb6,ht6⟩:=h6.unfold; have HT:=zh ht6; have HB6:=zh hb6; have RR6:=zh (R3.out.below hb6 R3.out.lt); have b0:=RR6.out.cell; have b1:=RR6.out.free; clear h6 hb6 ht6 y0 y1)
 refine zad (fun X => Row X (w.heap.size + 1 + 1) 25 #[.int .i64 R2.vars,.int .i64 R2.empty,.slice A6 R2.next.length c6,.slice A7 R2.fin.length c7] /\ TDO X W.heap.size (.agg #[.int .i64 R2.vars,.int .i64 R2.empty,.slice A6 R2.next.length c6,.slice A7 R2.fin.length c7]) R2 /\ Below w.heap.size w X)
  (zam RR6.out HT.out (HB.out.trans (HB6.out.mono hsz)) (by omega)) ?_
 clear b0 b1 RR6 HT
 rintro W5 ⟨r0,hT,hb⟩
 have b0:=r0.cell
 have q0:=b0 0; have q1:=b0 1; have q2:=b0 2; have q3:=b0 3
 simp only [zg] at q0 q1 q2 q3
 have HT:=zh (hT.mono hsz); have HBX:=zh hb
 clear b0 r0 hT hb
 exact bodyPost_ret (v:=.tuple #[.agg #[.int .i64 R2.vars,.int .i64 R2.empty,.slice A6 R2.next.length c6,.slice A7 R2.fin.length c7],.int .i64 (k:Int)]) (by simp [results,Tryz.results35,go_sem,q0,q1,q2,q3]) rfl ⟨_,rfl,HBX.out,HT.out⟩
end Go.Proofs.YthkfjnmnoanhlaaGreatDoor
namespace Go.Proofs.YthkfjnmnoanhlaaGreatDoor
open Go.RowKit
def inclO (a b:Dta):List Lf × Bool × Nat:=if (prodO a b).length <= 64 then ((zas (prodM a b fun p q => p && !q)).1,decide ((zas (prodM a b fun p q => p && !q)).2.2 = 0) && !(zas (prodM a b fun p q => p && !q)).2.1,(zas (prodM a b fun p q => p && !q)).2.2) else ([],false,10)
theorem zec {a b:Dta} {V:Nat} (ha:a.Fit V) (hb:b.Fit V) (g:Bool -> Bool -> Bool) (hl:(prodO a b).length <= 64):(prodM a b g).Fit V :=
 ⟨(zcu ha.ok hb.ok (ha.L.trans hb.L.symm) g).can.ok,Nat.le_trans (znr ha.ok hb.ok (ha.L.trans hb.L.symm) g) hl,ha.v3,(zcu ha.ok hb.ok (ha.L.trans hb.L.symm) g).hL.trans ha.L⟩
theorem zga (a b:Dta) (V:Nat) (ha:a.Fit V) (hb:b.Fit V) (va vb:Value) (w:World) (hva:TD w va (a.raw V)) (hvb:TD w vb (b.raw V)) :
  Calls Tryz.prog 30 #[va,vb] w (RetSm w (inclO a b)):=by
 have hmi:=fun W (h:Below w.heap.size w W) => zl3 a b V ha hb va vb W (hva.below h zn) (hvb.below h zn)
 have hsm:=fun (hl:(prodO a b).length <= 64) v W (h:TD W v ((prodM a b fun p q => p && !q).raw V)) => zcq (prodM a b fun p q => p && !q) V (zec ha hb _ hl) v W h
 obtain ⟨A1,c1,A2,c2,rfl⟩:=hva.form
 obtain ⟨A3,c3,A4,c4,rfl⟩:=hvb.form
 obtain ⟨R,hR⟩:=zx (inclO a b)
 rw [<- hR]
 have HRR:=zh hR
 obtain ⟨ra,hra⟩:=zx (a.raw V)
 obtain ⟨rb,hrb⟩:=zx (b.raw V)
 rw [<- hra,<- hrb] at hmi ⊢
 obtain ⟨n1,h1⟩:=zx ra.next.length
 obtain ⟨n2,h2⟩:=zx ra.fin.length
 obtain ⟨n3,h3⟩:=zx rb.next.length
 obtain ⟨n4,h4⟩:=zx rb.fin.length
 obtain ⟨V1,h5⟩:=zx ra.vars
 obtain ⟨E1,h6⟩:=zx ra.empty
 obtain ⟨V2,h7⟩:=zx rb.vars
 obtain ⟨E2,h8⟩:=zx rb.empty
 rw [<- h1,<- h2,<- h3,<- h4,<- h5,<- h6,<- h7,<- h8] at hmi ⊢
 have HMI:=zh hmi; have HSM:=zh hsm
 clear hmi hsm hva hvb hR hra hrb h1 h2 h3 h4 h5 h6 h7 h8 ha hb
 by_cases hl:(prodO a b).length <= 64
 ·have hop:opR a b (fun p q => p && !q) V = ((prodM a b fun p q => p && !q).raw V,0):=by unfold opR; rw [if_pos hl]
  rw [hop] at HMI
  have HS:=zh (HSM.out hl)
  obtain ⟨S,hS⟩:=zx (zas (prodM a b fun p q => p && !q))
  have HR2:Hid (R = (S.1,decide (S.2.2 = 0) && !S.2.1,S.2.2)):=by unfold Hid; rw [HRR.out,hS]; unfold inclO; rw [if_pos hl]
  rw [<- hS] at HS
  obtain ⟨M,hM⟩:=zx ((prodM a b fun p q => p && !q).raw V)
  rw [<- hM] at HS HMI
  clear hop hl hS hM HRR HSM
  obtain ⟨S1,S2,S3⟩:=S
  simp only at HR2
  go_enter Tryz.func30,Tryz.ntmps30
  go_upto_region 1 with fail
  refine zab (fun W => Below w.heap.size w W /\ Row W w.heap.size 25 #[.int .i64 V1,.int .i64 E1,.slice A1 n1 c1,.slice A2 n2 c2] /\ Row W (w.heap.size + 1) 25 #[.int .i64 V2,.int .i64 E2,.slice A3 n3 c3,.slice A4 n4 c4])
   ⟨by go_grown,(Row.new _ _ _).alloc _,Row.lit (by simp)⟩ ?_
  rintro W ⟨hb,r1,r2⟩
  have y0:=r1.cell; have y1:=r2.cell
  have HB:=zh hb
  clear hb r1 r2
  go_upto_region 2 with (go_at_call 35; refine (HMI.out _ HB.out).mono ?_; intro e w6 h6; obtain ⟨A6,c6,A7,c7,rfl,hb6,ht6⟩:=h6.unfold; have HT:=zh ht6.td; have HB6:=zh (HB.out.trans (hb6.mono HB.out.size)); clear h6 hb6 ht6)
  refine zab (fun X => Below w.heap.size w X /\ Row X w6.heap.size 25 #[.int .i64 M.vars,.int .i64 M.empty,.slice A6 M.next.length c6,.slice A7 M.fin.length c7] /\ TD X (.agg #[.int .i64 M.vars,.int .i64 M.empty,.slice A6 M.next.length c6,.slice A7 M.fin.length c7]) M)
   ⟨by have h1:=HB6.out; have h2:=h1.size; go_grown,Row.new _ _ _,HT.out.below (Below.alloc (Below.refl _ _) zn _) zn⟩ ?_
  clear HB6 HT HB y0 y1
  rintro X ⟨hb,r1,ht⟩
  have y0:=r1.cell
  have HB:=zh hb; have HT:=zh ht
  clear hb r1 ht
  obtain ⟨mv,hmv⟩:=zx M.vars
  obtain ⟨me,hme⟩:=zx M.empty
  obtain ⟨mn,hmn⟩:=zx M.next.length
  obtain ⟨mf,hmf⟩:=zx M.fin.length
  rw [<- hmv,<- hme,<- hmn,<- hmf] at HT ⊢
  simp only [<- hmv,<- hme,<- hmn,<- hmf] at y0
  clear hmv hme hmn hmf
  by_cases h30:S3 = 0
  ·subst h30
   go_wp2_with (go_at_call 19; refine (HS.out _ _ HT.out).mono ?_; rintro e w7 ⟨v7,rfl,hb7,ht7⟩; obtain ⟨_,A8,c8,hf8,_⟩:=ht7.ts; subst hf8; have HB7:=zh (HB.out.trans (hb7.mono HB.out.size)); have HT7:=zh (ht7.mono HB.out.size); clear hb7 ht7)
   go_returns
   exact ⟨.slice A8 S1.length c8,by rw [HR2.out]; simp,HB7.out,by rw [HR2.out]; exact HT7.out⟩
  ·have h3b:(((S3:Nat):Int) == 0) = false:=by rw [beq_eq_false_iff_ne]; omega
   have H30:=zh h30
   clear h30
   go_wp2_with (go_at_call 19; refine (HS.out _ _ HT.out).mono ?_; rintro e w7 ⟨v7,rfl,hb7,ht7⟩; obtain ⟨_,A8,c8,hf8,_⟩:=ht7.ts; subst hf8; have HB7:=zh (HB.out.trans (hb7.mono HB.out.size)); have HT7:=zh (ht7.mono HB.out.size); clear hb7 ht7)
   go_returns
   exact ⟨.slice A8 S1.length c8,by rw [HR2.out,decide_eq_false H30.out]; simp,HB7.out,by rw [HR2.out]; exact HT7.out⟩
 ·have hop:opR a b (fun p q => p && !q) V = (zeroR,10):=by unfold opR; rw [if_neg hl]
  rw [hop] at HMI
  have HR2:Hid (R = ([],false,10)):=by unfold Hid; rw [HRR.out]; unfold inclO; rw [if_neg hl]
  clear hop hl HRR HSM
  go_enter Tryz.func30,Tryz.ntmps30
  go_upto_region 1 with fail
  refine zab (fun W => Below w.heap.size w W /\ Row W w.heap.size 25 #[.int .i64 V1,.int .i64 E1,.slice A1 n1 c1,.slice A2 n2 c2] /\ Row W (w.heap.size + 1) 25 #[.int .i64 V2,.int .i64 E2,.slice A3 n3 c3,.slice A4 n4 c4])
   ⟨by go_grown,(Row.new _ _ _).alloc _,Row.lit (by simp)⟩ ?_
  rintro W ⟨hb,r1,r2⟩
  have y0:=r1.cell; have y1:=r2.cell
  have HB:=zh hb
  clear hb r1 r2
  go_upto_region 2 with (go_at_call 35; refine (HMI.out _ HB.out).mono ?_; intro e w6 h6; obtain ⟨A6,c6,A7,c7,rfl,hb6,ht6⟩:=h6.unfold; have HB6:=zh (HB.out.trans (hb6.mono HB.out.size)); clear h6 hb6 ht6)
  refine zab (fun X => Below w.heap.size w X) (by have h1:=HB6.out; have h2:=h1.size; go_grown) ?_
  clear y0 y1
  rintro X hb
  have HBX:=zh hb
  clear hb
  go_wp2
  go_returns
  exact ⟨_,by rw [HR2.out]; rfl,HBX.out,by rw [HR2.out]; exact TO.nil _ _⟩
end Go.Proofs.YthkfjnmnoanhlaaGreatDoor
namespace Go.Proofs.YthkfjnmnoanhlaaGreatDoor
open Go.RowKit
def someD:Dta:=⟨2,0,2,fun l r x => if l = 0 /\ r = 0 /\ x = 0 then 0 else 1,fun s => s == 1⟩
def slimD:Dta:=⟨3,0,2,fun l r _ => match l,r with
 | 0,0 => 1
 | 0,1 => 1
 | 0,_ => 2
 | 1,0 => 1
 | _,_ => 2,fun s => decide (s < 2)⟩
theorem zaf:someD.Fit 1:=⟨⟨by decide,fun l r x hl hr hx => by show (if _ then 0 else 1) < 2; split <;> omega⟩,by decide,by omega,rfl⟩
theorem zal:slimD.Fit 1:=⟨⟨by decide,fun l r x hl hr hx => by
 have h1:l = 0 \/ l = 1 \/ l = 2:=by have:l < 3:=hl; omega
 have h2:r = 0 \/ r = 1 \/ r = 2:=by have:r < 3:=hr; omega
 rcases h1 with rfl | rfl | rfl <;> rcases h2 with rfl | rfl | rfl <;> first | exact (by decide:1 < 3) | exact (by decide:2 < 3)⟩,by decide,by omega,rfl⟩
theorem zp8:someD.raw 1 = ⟨1,0,[[[0,1],[1,1]],[[1,1],[1,1]]],[false,true]⟩:=by kernel_rfl
theorem zp9:slimD.raw 1 = ⟨1,0,[[[1,1],[1,1],[2,2]],[[1,1],[2,2],[2,2]],[[2,2],[2,2],[2,2]]],[true,true,false]⟩:=by kernel_rfl
instance lbDec (L:Nat):(t:Bt) -> Decidable (t.lb L)
 | .nil => isTrue trivial
 | .node a l r => by
  haveI:=lbDec L l
  haveI:=lbDec L r
  show Decidable ((_ /\ _) /\ _ /\ _)
  infer_instance
def leastT (L:Nat) (S:Bt -> Bool) (T:Bt):Bool:=S T && decide (T.size <= 31) && (List.range T.size).all (fun n => (tsF L (n + 1) n).all fun u => !S u) && (tsF L (T.size + 1) T.size).all fun u => !S u || decide (cmpL T.code u.code <= 0)
theorem zd8 {d:Dta} (h:d.OK) {S:Bt -> Bool} (hS:∀ t:Bt,t.lb d.L -> d.fin (d.run t) = S t) (T:Bt) (hT:T.lb d.L) (hl:leastT d.L S T = true):zas d = (T.enc 0,true,0):=by
 unfold leastT at hl
 simp only [Bool.and_eq_true,decide_eq_true_eq] at hl
 obtain ⟨⟨⟨h1,h31⟩,h2⟩,h3⟩:=hl
 have he:zb7 d = false:=by
  cases e:zb7 d with
  | false => rfl
  | true => have:=(zi8 h).1 e T hT; rw [hS T hT,h1] at this; cases this
 have hm:=Dta.mini_is h rfl hS
 have hno:∀ u:Bt,u.lb d.L -> S u = true -> T.size < u.size \/ T.size = u.size /\ leB T u:=by
  intro u hu hs
  rcases Nat.lt_trichotomy u.size T.size with hlt | heq | hgt
  ·have h4:=List.all_eq_true.1 h2 u.size (List.mem_range.2 hlt)
   have h5:=List.all_eq_true.1 h4 u ((zh1 d.L (u.size + 1) u.size (by omega) u).2 ⟨rfl,hu⟩)
   rw [hs] at h5; cases h5
  ·right
   have h5:=List.all_eq_true.1 h3 u ((zh1 d.L (T.size + 1) T.size (by omega) u).2 ⟨heq,hu⟩)
   rw [hs] at h5
   simp at h5
   exact ⟨heq.symm,h5⟩
  ·exact .inl hgt
 unfold zas
 rw [he]
 have key:zb2 d.mini = some T:=by
  cases e:zb2 d.mini with
  | none =>
   have:=zl6 hm.can.ok e T (by rw [hm.hL]; exact hT) (by rw [hm.lang T hT]; exact h1)
   omega
  | some t =>
   obtain ⟨k1,k2,k3,k4⟩:=zl5 hm.can.ok e
   rw [hm.hL] at k2
   have hst:S t = true:=by rw [<- hm.lang t k2]; exact k3
   have a:=hno t k2 hst
   have b:=k4 T (by rw [hm.hL]; exact hT) (by rw [hm.lang T hT]; exact h1)
   have hsz:T.size = t.size:=by omega
   have h5:leB T t:=by rcases a with a | a; omega; exact a.2
   have h6:leB t T:=by rcases b with b | b; omega; exact b.2
   unfold leB at h5 h6
   have h7:=zgj T.code t.code
   have h8:cmpL t.code T.code = 0:=by omega
   have h9:=(zgi _ _).1 h8
   have hp1:t.pos:=Bt.lt.pos (lb_lt.1 k2)
   have hp2:T.pos:=Bt.lt.pos (lb_lt.1 hT)
   have:=zrb t T [] [] hp1 hp2 (by rw [h9])
   rw [this.1]
 rw [key]
 rfl
theorem zfu {d:Dta} (h:d.OK) (hS:∀ t:Bt,t.lb d.L -> d.fin (d.run t) = false):zas d = ([],false,0):=by
 unfold zas
 rw [(zi8 h).2 hS]; rfl
def accS (d:Dta) (t:Bt):Bool:=d.fin (d.run t)
theorem zdl {d:Dta} {V:Nat} (h:d.Fit V):d.notM.Fit V:=⟨(Dta.notM_is h.ok).can.ok,Nat.le_trans (Dta.mini_n (Dta.neg_ok h.ok)) h.n64,h.v3,(Dta.notM_is h.ok).hL.trans h.L⟩
theorem notM_n {d:Dta} (h:d.OK):d.notM.n <= d.n:=Dta.mini_n (Dta.neg_ok h)
theorem ev1:zas someD = ([⟨1,-1,-1⟩],true,0):=zd8 zaf.ok (S:=accS someD) (fun _ _ => rfl) (.node 1 .nil .nil) (by decide) (by decide +kernel)
theorem ev2:zas slimD = ([],true,0):=zd8 zal.ok (S:=accS slimD) (fun _ _ => rfl) .nil (by decide) (by decide +kernel)
theorem ev3:zas slimD.notM = ([⟨0,1,2⟩,⟨0,-1,-1⟩,⟨0,-1,-1⟩],true,0) :=
 zd8 (zdl zal).ok (S:=fun t => !accS slimD t) (fun t ht => (Dta.notM_is zal.ok).lang t (by rw [(Dta.notM_is zal.ok).hL] at ht; exact ht)) (.node 0 (.node 0 .nil .nil) (.node 0 .nil .nil)) (by rw [(Dta.notM_is zal.ok).hL]; decide) (by rw [(Dta.notM_is zal.ok).hL]; decide +kernel)
theorem ev4:(prodO someD someD.notM).length <= 64:=by
 have h:=zeb zaf.ok (zdl zaf).ok (Dta.notM_is zaf.ok).hL.symm
 have h2:=notM_n zaf.ok
 have h3:someD.n * someD.notM.n <= 2 * 2:=Nat.mul_le_mul zn h2
 omega
theorem ev5:zas (prodM someD someD.notM fun p q => p && q) = ([],false,0):=by
 have hL:=(Dta.notM_is zaf.ok).hL
 have h:=zcu zaf.ok (zdl zaf).ok hL.symm (fun p q => p && q)
 refine zfu h.can.ok fun t ht => ?_
 rw [h.hL] at ht
 rw [h.lang t ht,(Dta.notM_is zaf.ok).lang t ht]
 simp
theorem ev6:(prodO someD slimD).length <= 6:=zeb zaf.ok zal.ok rfl
theorem zid:(prodM someD slimD fun p q => p && q).Fit 1:=zec zaf zal _ (by have:=ev6; omega)
theorem ev7:inclO (prodM someD slimD fun p q => p && q) slimD = ([],true,0):=by
 have hb:=zcu zaf.ok zal.ok rfl (fun p q => p && q)
 have hn:=znr zaf.ok zal.ok rfl (fun p q => p && q)
 have hl:=zeb zid.ok zal.ok hb.hL
 have hl6:=ev6
 have h3:(prodM someD slimD fun p q => p && q).n * slimD.n <= 6 * 3:=Nat.mul_le_mul (by omega) zn
 have h:=zcu zid.ok zal.ok hb.hL (fun p q => p && !q)
 have he:zas (prodM (prodM someD slimD fun p q => p && q) slimD fun p q => p && !q) = ([],false,0):=by
  refine zfu h.can.ok fun t ht => ?_
  rw [h.hL] at ht
  rw [h.lang t ht]
  rw [hb.hL] at ht
  rw [hb.lang t ht]
  cases someD.fin (someD.run t) <;> cases slimD.fin (slimD.run t) <;> rfl
 unfold inclO
 rw [if_pos (by omega),he]; rfl
theorem ev8:inclO someD slimD = ([⟨0,1,2⟩,⟨0,-1,-1⟩,⟨1,-1,-1⟩],false,0):=by
 have h:=zcu zaf.ok zal.ok rfl (fun p q => p && !q)
 have he:zas (prodM someD slimD fun p q => p && !q) = ([⟨0,1,2⟩,⟨0,-1,-1⟩,⟨1,-1,-1⟩],true,0) :=
  zd8 h.can.ok (S:=fun t => accS someD t && !accS slimD t) (fun t ht => h.lang t (by rw [h.hL] at ht; exact ht)) (.node 0 (.node 0 .nil .nil) (.node 1 .nil .nil)) (by rw [h.hL]; decide) (by rw [h.hL]; decide +kernel)
 unfold inclO
 rw [if_pos (by have:=ev6; omega),he]; rfl
theorem ev9:inclO slimD someD = ([],false,0):=by
 have h:=zcu zal.ok zaf.ok rfl (fun p q => p && !q)
 have he:zas (prodM slimD someD fun p q => p && !q) = ([],true,0) :=
  zd8 h.can.ok (S:=fun t => accS slimD t && !accS someD t) (fun t ht => h.lang t (by rw [h.hL] at ht; exact ht)) .nil (by rw [h.hL]; decide) (by rw [h.hL]; decide +kernel)
 unfold inclO
 rw [if_pos (by have:=zeb zal.ok zaf.ok rfl; have:slimD.n * someD.n = 6:=rfl; omega),he]; rfl
theorem ev10:(setO someD 0).length = 2:=by decide +kernel
def wantD:Dta:=⟨2,0,2,fun _ _ _ => 1,fun s => s == 1⟩
theorem zfl:wantD.Canon:=by
 refine ⟨⟨by decide,fun l r x _ _ _ => (by decide:1 < 2)⟩,by decide +kernel,?_⟩
 intro R hR s t hst
 obtain ⟨hs,ht⟩:=hR.lt s t hst
 have hf:=hR.fin s t hst
 have h1:s = 0 \/ s = 1:=by have:s < 2:=hs; omega
 have h2:t = 0 \/ t = 1:=by have:t < 2:=ht; omega
 rcases h1 with rfl | rfl <;> rcases h2 with rfl | rfl
 ·rfl
 ·exact absurd hf (by decide)
 ·exact absurd hf (by decide)
 ·rfl
def wantR:Raw:=⟨1,0,[[[1,1],[1,1]],[[1,1],[1,1]]],[false,true]⟩
theorem zp3:wantD.raw 1 = wantR:=by kernel_rfl
theorem ev11:(zax someD 0).raw 1 = wantR:=by
 have hE:=zhd zaf.ok (V:=1) (v:=0) rfl (by omega)
 have hW:wantD.Is 2 (fun t => wantD.fin (wantD.run t)):=⟨zfl,rfl,fun _ _ => rfl⟩
 have hs:(zax someD 0).Same wantD:=by
  refine Dta.canon_same hE.can zfl hE.hL ?_
  intro t ht
  rw [hE.hL] at ht
  have hi:=zmn zaf.ok (by decide) (V:=1) (v:=0) rfl (by omega) t ht
  rw [Bool.eq_iff_iff,hi]
  cases t with
  | nil =>
   constructor
   ·rintro ⟨u,hu,hf⟩
    cases u with
    | nil => exact hf
    | node => exact absurd hu (by simp [VarV,VarT])
   ·intro hf; exact absurd hf (by decide)
  | node a l r =>
   constructor
   ·intro _; rfl
   ·intro _
    have h1:hiV 0 a.toNat = 1:=by
     have:a.toNat = 0 \/ a.toNat = 1:=by have:a.toNat < 2:=ht.1.2; omega
     rcases this with h | h <;> rw [h] <;> decide
    refine ⟨.node (1:Int) l r,zij.2 ⟨⟨.inr (by rw [h1]; rfl),by omega⟩,zd4 0 l ht.2.1,zd4 0 r ht.2.2⟩,?_⟩
    show someD.fin (someD.nx _ _ 1) = true
    simp [someD]
 rw [hs.raw hE.can.ok hE.hL 1,zp3]
theorem ev12:accN someD 0 = 0:=by decide +kernel
theorem ev13:accN someD 1 = 1:=by decide +kernel
theorem ev14:accN someD 2 = 6:=by decide +kernel
theorem ev15:accN slimD 3 = 32:=by decide +kernel
end Go.Proofs.YthkfjnmnoanhlaaGreatDoor
namespace Go.Proofs.YthkfjnmnoanhlaaGreatDoor
open Go.RowKit
theorem N1.row {w:World} {g n:Nat} {l:List Int} {cs:Array Value} (h:Row w g 3 cs) (hc:cs = (iL l).toArray) (hn:l.length = n) (hl:n <= 1000000):N1 w (.slice (some ⟨g,0,none⟩) n n) l:=by
 subst hc
 have:=VS.lit h (by rw [zag]; omega)
 rw [zag,hn] at this
 exact this
theorem NB.row {w:World} {g n:Nat} {l:List Bool} {cs:Array Value} (h:Row w g 4 cs) (hc:cs = (bL l).toArray) (hn:l.length = n) (hl:n <= 1000000):NB w (.slice (some ⟨g,0,none⟩) n n) l:=by
 subst hc
 have:=VS.lit h (by rw [zat]; omega)
 rw [zat,hn] at this
 exact this
theorem N2.row {w:World} {g n:Nat} {l:List (List Int)} {vs:List Value} (h:Row w g 53 vs.toArray) (hn:vs.length = n) (hl:n <= 1000000) (hv:vs.length = l.length) (he:∀ (i:Nat) u,vs[i]? = some u -> ∃ x,l[i]? = some x /\ N1 w u x):N2 w (.slice (some ⟨g,0,none⟩) n n) l:=by
 subst hn
 exact ⟨vs,VS.lit h hl,hv,he⟩
theorem N3.row {w:World} {g n:Nat} {l:List (List (List Int))} {vs:List Value} (h:Row w g 54 vs.toArray) (hn:vs.length = n) (hl:n <= 1000000) (hv:vs.length = l.length) (he:∀ (i:Nat) u,vs[i]? = some u -> ∃ x,l[i]? = some x /\ N2 w u x):N3 w (.slice (some ⟨g,0,none⟩) n n) l:=by
 subst hn
 exact ⟨vs,VS.lit h hl,hv,he⟩
theorem zdr {α:Type} {P:Value -> α -> Prop} {u v:Value} {x y:α} (h1:P u x) (h2:P v y):∀ (i:Nat) z,[u,v][i]? = some z -> ∃ a,[x,y][i]? = some a /\ P z a:=by
 intro i z hz
 match i,hz with
 | 0,hz => simp at hz; subst hz; exact ⟨x,rfl,h1⟩
 | 1,hz => simp at hz; subst hz; exact ⟨y,rfl,h2⟩
 | i + 2,hz => simp at hz
theorem zds {α:Type} {P:Value -> α -> Prop} {u v s:Value} {x y t:α} (h1:P u x) (h2:P v y) (h3:P s t):∀ (i:Nat) z,[u,v,s][i]? = some z -> ∃ a,[x,y,t][i]? = some a /\ P z a:=by
 intro i z hz
 match i,hz with
 | 0,hz => simp at hz; subst hz; exact ⟨x,rfl,h1⟩
 | 1,hz => simp at hz; subst hz; exact ⟨y,rfl,h2⟩
 | 2,hz => simp at hz; subst hz; exact ⟨t,rfl,h3⟩
 | i + 3,hz => simp at hz
theorem some_ok (w:World):Calls Tryz.prog 38 #[] w fun e w' => ∃ g h,e = .returned (.agg #[.int .i64 1,.int .i64 0,.slice (some ⟨g,0,none⟩) 2 2,.slice (some ⟨h,0,none⟩) 2 2]) /\ Below w.heap.size w w' /\ TD w' (.agg #[.int .i64 1,.int .i64 0,.slice (some ⟨g,0,none⟩) 2 2,.slice (some ⟨h,0,none⟩) 2 2]) (someD.raw 1):=by
 rw [zp8]
 go_enter Tryz.func38,Tryz.ntmps38
 go_wp2
 go_returns
 refine ⟨_,_,rfl,by go_grown,_,_,rfl,N3.row (n:=2) (vs:=[_,_]) (by (repeat (first | (refine Row.lit ?_; simp only [World.size_alloc] <;> omega) | apply Row.alloc))) rfl (by omega) rfl (zdr (N2.row (n:=2) (vs:=[_,_]) (by (repeat (first | (refine Row.lit ?_; simp only [World.size_alloc] <;> omega) | apply Row.alloc))) rfl (by omega) rfl (zdr (N1.row (n:=2) (by (repeat (first | (refine Row.lit ?_; simp only [World.size_alloc] <;> omega) | apply Row.alloc))) rfl rfl (by omega)) (N1.row (n:=2) (by (repeat (first | (refine Row.lit ?_; simp only [World.size_alloc] <;> omega) | apply Row.alloc))) rfl rfl (by omega)))) (N2.row (n:=2) (vs:=[_,_]) (by (repeat (first | (refine Row.lit ?_; simp only [World.size_alloc] <;> omega) | apply Row.alloc))) rfl (by omega) rfl (zdr (N1.row (n:=2) (by (repeat (first | (refine Row.lit ?_; simp only [World.size_alloc] <;> omega) | apply Row.alloc))) rfl rfl (by omega)) (N1.row (n:=2) (by (repeat (first | (refine Row.lit ?_; simp only [World.size_alloc] <;> omega) | apply Row.alloc))) rfl rfl (by omega))))),NB.row (by (repeat (first | (refine Row.lit ?_; simp only [World.size_alloc] <;> omega) | apply Row.alloc))) rfl rfl (by omega)⟩
theorem slim_ok (w:World):Calls Tryz.prog 39 #[] w fun e w' => ∃ g h,e = .returned (.agg #[.int .i64 1,.int .i64 0,.slice (some ⟨g,0,none⟩) 3 3,.slice (some ⟨h,0,none⟩) 3 3]) /\ Below w.heap.size w w' /\ TD w' (.agg #[.int .i64 1,.int .i64 0,.slice (some ⟨g,0,none⟩) 3 3,.slice (some ⟨h,0,none⟩) 3 3]) (slimD.raw 1):=by
 rw [zp9]
 go_enter Tryz.func39,Tryz.ntmps39
 go_wp2
 go_returns
 refine ⟨_,_,rfl,by go_grown,_,_,rfl,N3.row (n:=3) (vs:=[_,_,_]) (by (repeat (first | (refine Row.lit ?_; simp only [World.size_alloc] <;> omega) | apply Row.alloc))) rfl (by omega) rfl (zds (N2.row (n:=3) (vs:=[_,_,_]) (by (repeat (first | (refine Row.lit ?_; simp only [World.size_alloc] <;> omega) | apply Row.alloc))) rfl (by omega) rfl (zds (N1.row (n:=2) (by (repeat (first | (refine Row.lit ?_; simp only [World.size_alloc] <;> omega) | apply Row.alloc))) rfl rfl (by omega)) (N1.row (n:=2) (by (repeat (first | (refine Row.lit ?_; simp only [World.size_alloc] <;> omega) | apply Row.alloc))) rfl rfl (by omega)) (N1.row (n:=2) (by (repeat (first | (refine Row.lit ?_; simp only [World.size_alloc] <;> omega) | apply Row.alloc))) rfl rfl (by omega)))) (N2.row (n:=3) (vs:=[_,_,_]) (by (repeat (first | (refine Row.lit ?_; simp only [World.size_alloc] <;> omega) | apply Row.alloc))) rfl (by omega) rfl (zds (N1.row (n:=2) (by (repeat (first | (refine Row.lit ?_; simp only [World.size_alloc] <;> omega) | apply Row.alloc))) rfl rfl (by omega)) (N1.row (n:=2) (by (repeat (first | (refine Row.lit ?_; simp only [World.size_alloc] <;> omega) | apply Row.alloc))) rfl rfl (by omega)) (N1.row (n:=2) (by (repeat (first | (refine Row.lit ?_; simp only [World.size_alloc] <;> omega) | apply Row.alloc))) rfl rfl (by omega)))) (N2.row (n:=3) (vs:=[_,_,_]) (by (repeat (first | (refine Row.lit ?_; simp only [World.size_alloc] <;> omega) | apply Row.alloc))) rfl (by omega) rfl (zds (N1.row (n:=2) (by (repeat (first | (refine Row.lit ?_; simp only [World.size_alloc] <;> omega) | apply Row.alloc))) rfl rfl (by omega)) (N1.row (n:=2) (by (repeat (first | (refine Row.lit ?_; simp only [World.size_alloc] <;> omega) | apply Row.alloc))) rfl rfl (by omega)) (N1.row (n:=2) (by (repeat (first | (refine Row.lit ?_; simp only [World.size_alloc] <;> omega) | apply Row.alloc))) rfl rfl (by omega))))),NB.row (by (repeat (first | (refine Row.lit ?_; simp only [World.size_alloc] <;> omega) | apply Row.alloc))) rfl rfl (by omega)⟩
end Go.Proofs.YthkfjnmnoanhlaaGreatDoor
namespace Go.Proofs.YthkfjnmnoanhlaaGreatDoor
open Go.RowKit
def Box (W:World) (g:Nat) (i j:Int) (n c m d:Nat) (A B:Option Addr) (r:Raw):Prop:=Row W g 25 #[.int .i64 i,.int .i64 j,.slice A n c,.slice B m d] /\ TD W (.agg #[.int .i64 i,.int .i64 j,.slice A n c,.slice B m d]) r
theorem Box.to {W X:World} {g n c m d:Nat} {i j:Int} {A B:Option Addr} {r:Raw} (h:Box W g i j n c m d A B r) (hb:Below W.heap.size W X):Box X g i j n c m d A B r:=⟨h.1.below hb h.1.lt,h.2.below hb zn⟩
theorem Box.td {W:World} {g n c m d:Nat} {i j:Int} {A B:Option Addr} {r:Raw} (h:Box W g i j n c m d A B r):TD W (.agg #[.int .i64 i,.int .i64 j,.slice A n c,.slice B m d]) r:=h.2
theorem Box.cell {W:World} {g n c m d:Nat} {i j:Int} {A B:Option Addr} {r:Raw} (h:Box W g i j n c m d A B r):∀ k,W.cell? ⟨g,k,none⟩ = (#[.int .i64 i,.int .i64 j,.slice A n c,.slice B m d]:Array Value)[k]?:=h.1.cell
theorem RetR.open {w:World} {r:Raw} {k:Nat} {z:Int} (hz:(k:Int) = z) {e:Ending} {w':World} (h:RetR w r k e w'):∃ i j n c m d A B,e = .returned (.tuple #[.agg #[.int .i64 i,.int .i64 j,.slice A n c,.slice B m d],.int .i64 z]) /\ Below w.heap.size w w' /\ TD w' (.agg #[.int .i64 i,.int .i64 j,.slice A n c,.slice B m d]) r:=by
 obtain ⟨A,c,Af,cf,rfl,hb,ht⟩:=h.unfold
 exact ⟨_,_,_,_,_,_,_,_,by rw [hz],hb,ht.td⟩
theorem RetSm.open {w:World} {t:List Lf} {b:Bool} {k:Nat} {z:Int} (hz:(k:Int) = z) {e:Ending} {w':World} (h:RetSm w (t,b,k) e w'):∃ A c,e = .returned (.tuple #[.slice A t.length c,.bool b,.int .i64 z]) /\ Below w.heap.size w w':=by
 obtain ⟨v,rfl,hb,ht⟩:=h
 obtain ⟨A,c,rfl⟩:=TS.form (show TS w' v t from ht.ts)
 exact ⟨A,c,by subst hz; rfl,hb⟩
theorem opR_ok {a b:Dta} {f:Bool -> Bool -> Bool} {V:Nat} (h:(prodO a b).length <= 64):opR a b f V = ((prodM a b f).raw V,0):=by unfold opR; rw [if_pos h]
abbrev CAwk:Prop:=∀ w,Calls Tryz.prog 28 #[] w fun e w' => e = .returned (.bool true) /\ Below w.heap.size w w'
end Go.Proofs.YthkfjnmnoanhlaaGreatDoor
namespace Go.Proofs.YthkfjnmnoanhlaaGreatDoor
end Go.Proofs.YthkfjnmnoanhlaaGreatDoor
namespace Go.Proofs.YthkfjnmnoanhlaaGreatDoor
theorem zqg {a b:Dta} {V:Nat} (hL:a.L = b.L) (h:a.raw V = b.raw V):a.Same b:=by
 unfold Dta.raw at h
 simp only [Raw.mk.injEq,true_and] at h
 obtain ⟨he,hn,hf⟩:=h
 have hnn:a.n = b.n:=by
  have:=congrArg List.length hn
  simpa [nx3] using this
 refine ⟨hnn,by omega,hL,fun l r x hl hr hx => ?_,fun s hs => ?_⟩
 ·obtain ⟨k1,k2,k3⟩:=zee (n:=a.n) (L:=a.L) (f:=a.nx) hl hr hx
  obtain ⟨g1,g2,g3⟩:=zee (n:=b.n) (L:=b.L) (f:=b.nx) (l:=l) (r:=r) (x:=x) (by omega) (by omega) (by omega)
  rw [hn,g1] at k1
  have k1:=Option.some.inj k1
  rw [<- k1,g2] at k2
  have k2:=Option.some.inj k2
  rw [<- k2,g3] at k3
  have:=Option.some.inj k3
  omega
 ·have:=congrArg (fun l => l[s]?) hf
  simp only [List.getElem?_map] at this
  rw [List.getElem?_range hs,List.getElem?_range (by omega)] at this
  exact Option.some.inj this
end Go.Proofs.YthkfjnmnoanhlaaGreatDoor
namespace Go.Proofs.YthkfjnmnoanhlaaGreatDoor
open Go.RowKit
theorem KO.keepB {E:TypeId} {k:Nat} {w w':World} {B g:Nat} {v:Value} {l:List (List Value)} (h:KO E k w B v l) (hn:v.ownBlock ≠ some g) (hk:∀ b,b < w.heap.size -> b ≠ g -> w'.heap[b]? = w.heap[b]?):KO E k w' B v l:=by
 obtain ⟨h0,h1,h⟩:=h
 refine ⟨h0,h1,?_⟩
 rcases h with h | ⟨g1,cap,cur,hv,hBg,hgg,r⟩
 ·exact .inl h
 ·exact .inr ⟨g1,cap,cur,hv,hBg,(hk g1 (lt_of_block hgg) (fun e => hn (by rw [hv,e]; rfl))).trans hgg,r⟩
theorem FBr.keepB {w w':World} {B g:Nat} {E:TypeId} {cs:Array Value} {v:Value} {os:List (Option Bt)} (h:FBr w B v os) (hn:v.ownBlock ≠ some g) (hr:Row w g E cs) (hE:E ≠ 61) (hk:∀ b,b < w.heap.size -> b ≠ g -> w'.heap[b]? = w.heap[b]?):FBr w' B v os:=by
 obtain ⟨ls,h1,h2,h3⟩:=h
 exact ⟨ls,h1.keepB hn hk,h2,fun s l o hl ho => (h3 s l o hl ho).keepRow hr hE hk⟩
theorem FBr.grown {E':TypeId} {w w':World} {B B' size n:Nat} {v u:Value} {os:List (Option Bt)} {xs:List Value} (h:FBr w B v os) (h1:61 ≠ E') (h2:94 ≠ E') (hu:w.ownsRow B' E' size u n xs) (hg:w.grownBy w' u.ownBlock):FBr w' B v os:=by
 obtain ⟨ls,k1,k2,k3⟩:=h
 refine ⟨ls,k1.far h2 hu hg,k2,fun s l o hl ho => ?_⟩
 have:=k3 s l o hl ho
 cases o with
 | none => exact this
 | some b => obtain ⟨u',h5,h6⟩:=this; exact ⟨u',h5,h6.farG h1 hu hg⟩
theorem FBr.own_lt {w:World} {B:Nat} {v:Value} {os:List (Option Bt)} (h:FBr w B v os) {g:Nat} (hg:v.ownBlock = some g):g < w.heap.size:=by
 obtain ⟨ls,h1,_⟩:=h
 exact (h1.blk_lt hg).2
theorem FBr.put0 {w:World} {B g n cap e:Nat} (h:FBr w B (.slice (some ⟨g,0,none⟩) n cap) (List.replicate n none)) (he:e < n) :
  FBr ((w.setCell ⟨g,e * 2,none⟩ (.slice none 0 0)).setCell ⟨g,e * 2 + 1,none⟩ (.bool true)) B (.slice (some ⟨g,0,none⟩) n cap) ((List.range n).map fun s => if s = e then some .nil else none):=by
 have h1:=h.put (by simp) he (u:=.slice none 0 0) (b:=.nil) (TO.nil _ _)
 have e1:(List.replicate n (none:Option Bt)).set e (some .nil) = (List.range n).map fun s => if s = e then some .nil else none:=by
  apply List.ext_getElem?
  intro i
  rw [List.getElem?_set,List.length_replicate,List.getElem?_map,List.getElem?_replicate]
  by_cases hi:i < n
  ·rw [List.getElem?_range hi]
   by_cases e2:e = i
   ·subst e2; rw [if_pos rfl,if_pos hi]; simp
   ·rw [if_neg e2,if_pos hi]; simp only [Option.map_some]; rw [if_neg (fun h:i = e => e2 h.symm)]
  ·rw [if_neg hi,List.getElem?_eq_none (l:=List.range n) (by simp; omega)]
   by_cases e2:e = i
   ·omega
   ·rw [if_neg e2]; rfl
 rw [<- e1]
 exact h1
def BO (w:World) (B:Nat) (v:Value) (rows:List (List (Option Bt))):Prop:=∃ vs,VO 95 w B v vs /\ vs.length = rows.length /\ ∀ (i:Nat) u,vs[i]? = some u -> ∃ os,rows[i]? = some os /\ FBr w B u os
theorem BO.nil (w:World) (B:Nat):BO w B (.slice none 0 0) []:=⟨[],VO.nil _ _ _,rfl,fun i u h => by simp at h⟩
structure BsI (w:World) (go V E N gO n cO:Nat) (vn vf:Value) (vs:List Value) (rows:List (List (Option Bt))) (os:List (Option Bt)) (W:World):Prop where
 below:Below w.heap.size w W
 goB:w.heap.size < go
 rd:Row W w.heap.size 25 #[.int .i64 (V:Int),.int .i64 (E:Int),vn,vf]
 vo:VO 95 W w.heap.size (.slice (some ⟨gO,0,none⟩) (n + 1) cO) (vs ++ [.slice (some ⟨go,0,none⟩) N N])
 hn:vs.length = n
 rs:rows.length = n /\ ∀ (i:Nat) u,vs[i]? = some u -> u.ownBlock ≠ some go /\ ∃ os,rows[i]? = some os /\ FBr W w.heap.size u os
 row:FBr W w.heap.size (.slice (some ⟨go,0,none⟩) N N) os
section
variable {w:World} {go V E N gO n cO:Nat} {vn vf:Value} {vs:List Value} {rows:List (List (Option Bt))} {os:List (Option Bt)} {W X:World}
theorem BsI.to (h:BsI w go V E N gO n cO vn vf vs rows os W) (hb:Below W.heap.size W X):BsI w go V E N gO n cO vn vf vs rows os X :=
 ⟨h.below.trans (hb.mono h.below.size),h.goB,h.rd.below hb h.rd.lt,h.vo.below hb zn,h.hn,⟨h.rs.1,fun i u hu => by obtain ⟨h1,os,h2,h3⟩:=h.rs.2 i u hu; exact ⟨h1,os,h2,h3.below hb zn⟩⟩,h.row.below hb zn⟩
theorem BsI.put (h:BsI w go V E N gO n cO vn vf vs rows os W) (hN:os.length = N) {s:Nat} (hs:s < N) {u:Value} {b:Bt} (hu:TO W w.heap.size u (b.enc 0)) :
  BsI w go V E N gO n cO vn vf vs rows (os.set s (some b)) ((W.setCell ⟨go,s * 2,none⟩ u).setCell ⟨go,s * 2 + 1,none⟩ (.bool true)):=by
 obtain ⟨g',cap',cs,he,hBg,hrow,_,_,_⟩:=h.row.open (by omega)
 simp only [Value.slice.injEq,Option.some.injEq,Addr.mk.injEq,and_true] at he
 obtain ⟨rfl,_,_⟩:=he
 have hgoB:=h.goB
 have hne:w.heap.size ≠ go:=by omega
 have hnv:(Value.slice (some ⟨gO,0,none⟩) (n + 1) cO).ownBlock ≠ some go:=h.vo.ne_row hrow (by decide)
 have hk:∀ b,b < W.heap.size -> b ≠ go -> ((W.setCell ⟨go,s * 2,none⟩ u).setCell ⟨go,s * 2 + 1,none⟩ (.bool true)).heap[b]? = W.heap[b]?:=fun b _ hb =>
  (Below.heap_setCell _ ⟨go,s * 2 + 1,none⟩ _ b hb).trans (Below.heap_setCell _ ⟨go,s * 2,none⟩ _ b hb)
 exact ⟨(h.below.setCell (p:=⟨go,s * 2,none⟩) hBg _).setCell (p:=⟨go,s * 2 + 1,none⟩) hBg _,hgoB,(h.rd.far hne _).far hne _,
  (h.vo.setFar hnv _).setFar hnv _,h.hn,⟨h.rs.1,fun i q hq => by obtain ⟨h1,os,h2,h3⟩:=h.rs.2 i q hq; exact ⟨h1,os,h2,h3.keepB h1 hrow (by decide) hk⟩⟩,h.row.put hN hs hu⟩
theorem BsI.old (h:BsI w go V E N gO n cO vn vf vs rows os W) {i:Nat} {oi:List (Option Bt)} (hi:rows[i]? = some oi) (hl:oi.length = N) (hN:0 < N) :
  ∃ gI cI,vs[i]? = some (.slice (some ⟨gI,0,none⟩) N cI) /\ gO < W.heap.size /\ W.cell? ⟨gO,i,none⟩ = some (.slice (some ⟨gI,0,none⟩) N cI) /\ N <= cI /\ cI <= 9223372036854775807 /\ gI < W.heap.size /\
   ∀ l o,oi[l]? = some o -> ∃ x,FV W w.heap.size [x,.bool o.isSome] o /\ W.cell? ⟨gI,l * 2,none⟩ = some x /\ W.cell? ⟨gI,l * 2 + 1,none⟩ = some (.bool o.isSome):=by
 have hin:i < n:=by have:=(List.getElem?_eq_some_iff.1 hi).1; rw [h.rs.1] at this; exact this
 have hu:vs[i]? = some (vs[i]'(by rw [h.hn]; exact hin)):=List.getElem?_eq_getElem _
 obtain ⟨_,os',h2,h3⟩:=h.rs.2 i _ hu
 rw [hi] at h2
 obtain rfl:=Option.some.inj h2
 obtain ⟨gI,cI,cs,he,_,hr,hc1,hc2,hcell⟩:=h3.open (by omega)
 rw [hl] at he hc1
 obtain ⟨g',cap',cs',he',_,hr',_,_,hcell'⟩:=h.vo.row (by simp)
 simp only [Value.slice.injEq,Option.some.injEq,Addr.mk.injEq,and_true] at he'
 obtain ⟨rfl,_,_⟩:=he'
 refine ⟨gI,cI,by rw [hu,he],hr'.lt,?_,hc1,hc2,hr.lt,hcell⟩
 rw [hcell' i _ (by rw [List.getElem?_append_left (by rw [h.hn]; exact hin)]; exact hu),he]
theorem BsI.cap (h:BsI w go V E N gO n cO vn vf vs rows os W):n + 1 <= cO /\ cO <= 9223372036854775807:=by
 obtain ⟨g',cap',cs',he',_,hr',h1,h2,_⟩:=h.vo.row (by simp)
 simp only [Value.slice.injEq,List.length_append,List.length_cons,List.length_nil] at he' h1
 omega
theorem BsI.done (h:BsI w go V E N gO n cO vn vf vs rows os W):BO W w.heap.size (.slice (some ⟨gO,0,none⟩) (n + 1) cO) (rows ++ [os]):=by
 refine ⟨_,h.vo,by simp [h.hn,h.rs.1],fun i u hu => ?_⟩
 by_cases hi:i < n
 ·rw [List.getElem?_append_left (by rw [h.hn]; exact hi)] at hu
  obtain ⟨_,os',h2,h3⟩:=h.rs.2 i u hu
  exact ⟨os',by rw [List.getElem?_append_left (by rw [h.rs.1]; exact hi)]; exact h2,h3⟩
 ·have hlen:=(List.getElem?_eq_some_iff.1 hu).1
  simp only [List.length_append,List.length_cons,List.length_nil,h.hn] at hlen
  obtain rfl:i = n:=by omega
  have e1:(vs ++ [Value.slice (some ⟨go,0,none⟩) N N])[i]? = some (.slice (some ⟨go,0,none⟩) N N):=by rw [<- h.hn]; simp
  rw [e1] at hu
  obtain rfl:=Option.some.inj hu
  exact ⟨os,by rw [<- h.rs.1]; simp,h.row⟩
end
theorem BsI.start {w wl X X4:World} {go V E N n:Nat} {vn vf v v4:Value} {vs:List Value} {rows:List (List (Option Bt))} {os:List (Option Bt)} (hbl:Below w.heap.size w wl) (hgo:go = wl.heap.size) (hx:w.heap.size < wl.heap.size)
  (hrd:Row wl w.heap.size 25 #[.int .i64 (V:Int),.int .i64 (E:Int),vn,vf])
  (h1:VO 95 wl w.heap.size v vs) (h2:vs.length = n) (hrl:rows.length = n) (h3:∀ (i:Nat) u,vs[i]? = some u -> ∃ os,rows[i]? = some os /\ FBr wl w.heap.size u os)
  (hX:Below wl.heap.size wl X) (hrow:FBr X w.heap.size (.slice (some ⟨go,0,none⟩) N N) os)
  (hg:(X.alloc (.cells #[.slice (some ⟨go,0,none⟩) N N] 95)).grownBy X4 v.ownBlock) (ho:VO 95 X4 w.heap.size v4 (vs ++ [.slice (some ⟨go,0,none⟩) N N])) :
  ∃ gO cO,v4 = .slice (some ⟨gO,0,none⟩) (n + 1) cO /\ BsI w go V E N gO n cO vn vf vs rows os X4:=by
 have hA:=Below.alloc (Below.refl X.heap.size X) zn (.cells #[.slice (some ⟨go,0,none⟩) N N] 95)
 have hXA:Below wl.heap.size wl (X.alloc (.cells #[.slice (some ⟨go,0,none⟩) N N] 95)):=hX.trans (hA.mono hX.size)
 have hvA:=VO.below h1 hXA zn
 obtain ⟨gO,cO,cs,e,_,_,_,_,_⟩:=ho.row (by simp)
 have hl:(vs ++ [Value.slice (some ⟨go,0,none⟩) N N]).length = n + 1:=by simp [h2]
 rw [hl] at e
 subst e
 refine ⟨gO,cO,rfl,⟨zae (hbl.trans (hXA.mono hbl.size)) hvA hg (Nat.le_trans hbl.size hXA.size),by omega,(hrd.below hXA hrd.lt).far_own (by decide) hvA.2 hg,ho,h2,⟨hrl,fun i u hu => ?_⟩,(hrow.below hA zn).grown (by decide) (by decide) hvA.2 hg⟩⟩
 obtain ⟨os',h4,h5⟩:=h3 i u hu
 refine ⟨fun e => ?_,os',h4,(h5.below hXA zn).grown (by decide) (by decide) hvA.2 hg⟩
 have:=h5.own_lt e
 omega
theorem best_no {d:Dta} {n:Nat} (h:∀ s,s < d.n -> (if d.fin s then rowS d n s else none) = none):bestS d n = none:=by
 rw [<- zem]
 have:∀ s,s <= d.n -> bstK d (rowS d n) s = none:=by
  intro s
  induction s with
  | zero => intro _; rfl
  | succ s ih => intro hs; rw [zdg (h s (by omega))]; exact ih (by omega)
 exact this _ zn
theorem zrj {d:Dta} {n s:Nat} {t:Bt} (hs:s < d.n) (hf:d.fin s = true) (h:rowS d n s = some t):∃ b,bestS d n = some b:=by
 rw [<- zem]
 unfold bstK
 rcases zcl ((List.range d.n).filterMap fun s => if d.fin s then rowS d n s else none) with ⟨_,h2⟩ | ⟨b,h1,_⟩
 ·have:t ∈ ((List.range d.n).filterMap fun s => if d.fin s then rowS d n s else none):=List.mem_filterMap.2 ⟨s,List.mem_range.2 hs,by rw [if_pos hf]; exact h⟩
  rw [h2] at this; cases this
 ·exact ⟨b,h1⟩
def osN (d:Dta) (n i l r x:Nat):List (Option Bt):=match n with
 | 0 => sizR d (zan d 0) 0
 | k + 1 => osP d.n (preK d (fun i l => ((zan d (k + 1)).getD i []).getD l none) k i l r x)
theorem zn7 (d:Dta) (n i l r x:Nat):(osN d n i l r x).length = d.n:=by
 cases n with
 | zero => show (sizR d (zan d 0) 0).length = _; exact zbr _ _ _
 | succ k => exact zdw _ _
theorem osN_all (d:Dta) (n:Nat):osN d n n 0 0 0 = sizR d (zan d n) n:=by
 cases n with
 | zero => rfl
 | succ k => show osP d.n _ = _; rw [zk9]; rfl
theorem osN_r (d:Dta) (n i l r:Nat):osN d n i l r d.L = osN d n i l (r + 1) 0:=by
 cases n with
 | zero => rfl
 | succ k => show osP d.n _ = osP d.n _; rw [zk8]
theorem osN_l (d:Dta) (n i l:Nat):osN d n i l d.n 0 = osN d n i (l + 1) 0 0:=by
 cases n with
 | zero => rfl
 | succ k => show osP d.n _ = osP d.n _; rw [znt]
theorem osN_i (d:Dta) (n i:Nat):osN d n i d.n 0 0 = osN d n (i + 1) 0 0 0:=by
 cases n with
 | zero => rfl
 | succ k => show osP d.n _ = osP d.n _; rw [preK_i]
end Go.Proofs.YthkfjnmnoanhlaaGreatDoor
