/- Part 35 of the proof; it says: lemmas and contracts. No conditions but those that each theorem states. -/
import Derived.BigRegion
import Derived.Deep.RegionHeld3
import Derived.Deep.LoopGhost
import Derived.Test.YthkfjnmnoanhlaaGreatDoorPr01
import Derived.Test.YthkfjnmnoanhlaaGreatDoorPr02
import Derived.Test.YthkfjnmnoanhlaaGreatDoorPr25
import Derived.Test.YthkfjnmnoanhlaaGreatDoorPr31
set_option linter.unusedSimpArgs false
set_option linter.unusedVariables false
namespace Go.Proofs.YthkfjnmnoanhlaaGreatDoor
open Go.RowKit
set_option maxRecDepth 100000 in
set_option maxHeartbeats 4000000 in
theorem zjn (ra rb:Raw) (R2:Raw) (k:Nat) (va vb:Value) (w:World) (hva:TD w va ra) (hvb:TD w vb rb) (hpr:∀ W,Below w.heap.size w W -> Calls Tryz.prog 35 #[va,vb] W (RetR W R2 k)) (hk:k ≠ 0) :
  Calls Tryz.prog 30 #[va,vb] w (RetSm w ([],false,k)):=by
 have h0':((k:Int) != 0) = true:=by rw [bne_iff_ne]; omega
 obtain ⟨A1,c1,A2,c2,rfl⟩:=hva.form
 obtain ⟨A3,c3,A4,c4,rfl⟩:=hvb.form
 obtain ⟨n1,h1⟩:=zx ra.next.length
 obtain ⟨n2,h2⟩:=zx ra.fin.length
 obtain ⟨n3,h3⟩:=zx rb.next.length
 obtain ⟨n4,h4⟩:=zx rb.fin.length
 obtain ⟨V1,h5⟩:=zx ra.vars
 obtain ⟨E1,h6⟩:=zx ra.empty
 obtain ⟨V2,h7⟩:=zx rb.vars
 obtain ⟨E2,h8⟩:=zx rb.empty
 rw [<- h1,<- h2,<- h3,<- h4,<- h5,<- h6,<- h7,<- h8] at hpr ⊢
 have HPR:=zh hpr
 clear hpr hva hvb h1 h2 h3 h4 h5 h6 h7 h8 hk
 go_enter Tryz.func30,Tryz.ntmps30
 go_upto_region 1 with fail
 refine zab (fun W => Below w.heap.size w W /\ Row W w.heap.size 25 #[.int .i64 V1,.int .i64 E1,.slice A1 n1 c1,.slice A2 n2 c2] /\ Row W (w.heap.size + 1) 25 #[.int .i64 V2,.int .i64 E2,.slice A3 n3 c3,.slice A4 n4 c4])
  ⟨by go_grown,(Row.new _ _ _).alloc _,Row.lit (by simp)⟩ ?_
 rintro W ⟨hb,r1,r2⟩
 have y0:=r1.cell; have y1:=r2.cell
 have HB:=zh hb
 have hsz:=hb.size
 clear hb r1 r2
 go_upto_region 2 with (go_at_call 35; refine (HPR.out _ HB.out).mono ?_; intro e w6 h6; obtain ⟨A6,c6,A7,c7,rfl,hb6,ht6⟩:=h6.unfold; have HT:=zh ht6; have HB6:=zh (HB.out.trans (hb6.mono HB.out.size)); clear h6 hb6 ht6)
 clear y0 y1
 refine zab (fun X => Below w.heap.size w X /\ Row X w6.heap.size 25 #[.int .i64 R2.vars,.int .i64 R2.empty,.slice A6 R2.next.length c6,.slice A7 R2.fin.length c7] /\ TD X (.agg #[.int .i64 R2.vars,.int .i64 R2.empty,.slice A6 R2.next.length c6,.slice A7 R2.fin.length c7]) R2)
  ⟨by have:=HB6.out; have:=this.size; go_grown,Row.new _ _ _,HT.out.td.below (Below.alloc (Below.refl _ _) zn _) zn⟩ ?_
 rintro X ⟨hb,r1,htd⟩
 have y0:=r1.cell
 have HBX:=zh hb; have HTD:=zh htd
 clear hb r1 htd HT HB6
 go_wp2
 go_returns
 exact ⟨_,rfl,HBX.out,TO.nil _ _⟩
set_option maxRecDepth 100000 in
set_option maxHeartbeats 4000000 in
theorem zif (ra rb:Raw) (R2:Raw) (t:List Lf) (b:Bool) (va vb:Value) (w:World) (hva:TD w va ra) (hvb:TD w vb rb) (hpr:∀ W,Below w.heap.size w W -> Calls Tryz.prog 35 #[va,vb] W (RetR W R2 0)) (hsm:∀ v W,TD W v R2 -> Calls Tryz.prog 19 #[v] W (RetSm W (t,b,0))) :
  Calls Tryz.prog 30 #[va,vb] w (RetSm w (t,!b,0)):=by
 obtain ⟨A1,c1,A2,c2,rfl⟩:=hva.form
 obtain ⟨A3,c3,A4,c4,rfl⟩:=hvb.form
 obtain ⟨n1,h1⟩:=zx ra.next.length
 obtain ⟨n2,h2⟩:=zx ra.fin.length
 obtain ⟨n3,h3⟩:=zx rb.next.length
 obtain ⟨n4,h4⟩:=zx rb.fin.length
 obtain ⟨V1,h5⟩:=zx ra.vars
 obtain ⟨E1,h6⟩:=zx ra.empty
 obtain ⟨V2,h7⟩:=zx rb.vars
 obtain ⟨E2,h8⟩:=zx rb.empty
 rw [<- h1,<- h2,<- h3,<- h4,<- h5,<- h6,<- h7,<- h8] at hpr ⊢
 have HPR:=zh hpr
 have HSM:=zh hsm
 clear hsm
 clear hpr hva hvb h1 h2 h3 h4 h5 h6 h7 h8
 go_enter Tryz.func30,Tryz.ntmps30
 go_upto_region 1 with fail
 refine zab (fun W => Below w.heap.size w W /\ Row W w.heap.size 25 #[.int .i64 V1,.int .i64 E1,.slice A1 n1 c1,.slice A2 n2 c2] /\ Row W (w.heap.size + 1) 25 #[.int .i64 V2,.int .i64 E2,.slice A3 n3 c3,.slice A4 n4 c4])
  ⟨by go_grown,(Row.new _ _ _).alloc _,Row.lit (by simp)⟩ ?_
 rintro W ⟨hb,r1,r2⟩
 have y0:=r1.cell; have y1:=r2.cell
 have HB:=zh hb
 have hsz:=hb.size
 clear hb r1 r2
 go_upto_region 2 with (go_at_call 35; refine (HPR.out _ HB.out).mono ?_; intro e w6 h6; obtain ⟨A6,c6,A7,c7,rfl,hb6,ht6⟩:=h6.unfold; have HT:=zh ht6; have HB6:=zh (HB.out.trans (hb6.mono HB.out.size)); clear h6 hb6 ht6)
 clear y0 y1
 refine zab (fun X => Below w.heap.size w X /\ Row X w6.heap.size 25 #[.int .i64 R2.vars,.int .i64 R2.empty,.slice A6 R2.next.length c6,.slice A7 R2.fin.length c7] /\ TD X (.agg #[.int .i64 R2.vars,.int .i64 R2.empty,.slice A6 R2.next.length c6,.slice A7 R2.fin.length c7]) R2)
  ⟨by have:=HB6.out; have:=this.size; go_grown,Row.new _ _ _,HT.out.td.below (Below.alloc (Below.refl _ _) zn _) zn⟩ ?_
 rintro X ⟨hb,r1,htd⟩
 have y0:=r1.cell
 have HBX:=zh hb; have HTD:=zh htd
 clear hb r1 htd HT HB6
 have HS:=zh (HSM.out _ X HTD.out)
 clear HSM HTD
 go_wp2_with (go_at_call 19; refine HS.out.mono ?_; rintro e w8 ⟨v8,rfl,hb8,ho8⟩; obtain ⟨_,A8,c8,hf8,_⟩:=ho8.ts; subst hf8; have HB8:=zh (HBX.out.trans (hb8.mono HBX.out.size)); have HO8:=zh (ho8.mono HBX.out.size); clear hb8 ho8)
 go_returns
 exact ⟨_,rfl,HB8.out,HO8.out⟩
set_option maxRecDepth 100000 in
set_option maxHeartbeats 4000000 in
theorem zjm (ra rb:Raw) (R2:Raw) (b:Bool) (va vb:Value) (w:World) (hva:TD w va ra) (hvb:TD w vb rb) (hpr:∀ W,Below w.heap.size w W -> Calls Tryz.prog 35 #[va,vb] W (RetR W R2 0)) (f:Nat) (hf:f ≠ 0) (hsm:∀ v W,TD W v R2 -> Calls Tryz.prog 19 #[v] W (RetSm W ([],b,f))) :
  Calls Tryz.prog 30 #[va,vb] w (RetSm w ([],false,f)):=by
 have h0':((f:Int) != 0) = true:=by rw [bne_iff_ne]; omega
 have h0e:((f:Int) == 0) = false:=by rw [beq_eq_false_iff_ne]; omega
 obtain ⟨A1,c1,A2,c2,rfl⟩:=hva.form
 obtain ⟨A3,c3,A4,c4,rfl⟩:=hvb.form
 obtain ⟨n1,h1⟩:=zx ra.next.length
 obtain ⟨n2,h2⟩:=zx ra.fin.length
 obtain ⟨n3,h3⟩:=zx rb.next.length
 obtain ⟨n4,h4⟩:=zx rb.fin.length
 obtain ⟨V1,h5⟩:=zx ra.vars
 obtain ⟨E1,h6⟩:=zx ra.empty
 obtain ⟨V2,h7⟩:=zx rb.vars
 obtain ⟨E2,h8⟩:=zx rb.empty
 rw [<- h1,<- h2,<- h3,<- h4,<- h5,<- h6,<- h7,<- h8] at hpr ⊢
 have HPR:=zh hpr
 have HSM:=zh hsm
 clear hsm
 clear hpr hva hvb h1 h2 h3 h4 h5 h6 h7 h8 hf
 go_enter Tryz.func30,Tryz.ntmps30
 go_upto_region 1 with fail
 refine zab (fun W => Below w.heap.size w W /\ Row W w.heap.size 25 #[.int .i64 V1,.int .i64 E1,.slice A1 n1 c1,.slice A2 n2 c2] /\ Row W (w.heap.size + 1) 25 #[.int .i64 V2,.int .i64 E2,.slice A3 n3 c3,.slice A4 n4 c4])
  ⟨by go_grown,(Row.new _ _ _).alloc _,Row.lit (by simp)⟩ ?_
 rintro W ⟨hb,r1,r2⟩
 have y0:=r1.cell; have y1:=r2.cell
 have HB:=zh hb
 have hsz:=hb.size
 clear hb r1 r2
 go_upto_region 2 with (go_at_call 35; refine (HPR.out _ HB.out).mono ?_; intro e w6 h6; obtain ⟨A6,c6,A7,c7,rfl,hb6,ht6⟩:=h6.unfold; have HT:=zh ht6; have HB6:=zh (HB.out.trans (hb6.mono HB.out.size)); clear h6 hb6 ht6)
 clear y0 y1
 refine zab (fun X => Below w.heap.size w X /\ Row X w6.heap.size 25 #[.int .i64 R2.vars,.int .i64 R2.empty,.slice A6 R2.next.length c6,.slice A7 R2.fin.length c7] /\ TD X (.agg #[.int .i64 R2.vars,.int .i64 R2.empty,.slice A6 R2.next.length c6,.slice A7 R2.fin.length c7]) R2)
  ⟨by have:=HB6.out; have:=this.size; go_grown,Row.new _ _ _,HT.out.td.below (Below.alloc (Below.refl _ _) zn _) zn⟩ ?_
 rintro X ⟨hb,r1,htd⟩
 have y0:=r1.cell
 have HBX:=zh hb; have HTD:=zh htd
 clear hb r1 htd HT HB6
 have HS:=zh (HSM.out _ X HTD.out)
 clear HSM HTD
 go_wp2_with (go_at_call 19; refine HS.out.mono ?_; rintro e w8 ⟨v8,rfl,hb8,ho8⟩; obtain ⟨_,A8,c8,hf8,_⟩:=ho8.ts; subst hf8; have HB8:=zh (HBX.out.trans (hb8.mono HBX.out.size)); have HO8:=zh (ho8.mono HBX.out.size); clear hb8 ho8)
 go_returns
 exact ⟨_,rfl,HB8.out,HO8.out⟩
set_option maxRecDepth 100000 in
set_option maxHeartbeats 4000000 in
theorem zgu (ra rb:Raw) (R2:Raw) (k:Nat) (va vb:Value) (w:World) (hva:TD w va ra) (hvb:TD w vb rb) (hpr:∀ W,Below w.heap.size w W -> Calls Tryz.prog 36 #[va,vb] W (RetR W R2 k)) (hk:k ≠ 0) :
  Calls Tryz.prog 37 #[va,vb] w (RetSm w ([],false,k)):=by
 have h0':((k:Int) != 0) = true:=by rw [bne_iff_ne]; omega
 obtain ⟨A1,c1,A2,c2,rfl⟩:=hva.form
 obtain ⟨A3,c3,A4,c4,rfl⟩:=hvb.form
 obtain ⟨n1,h1⟩:=zx ra.next.length
 obtain ⟨n2,h2⟩:=zx ra.fin.length
 obtain ⟨n3,h3⟩:=zx rb.next.length
 obtain ⟨n4,h4⟩:=zx rb.fin.length
 obtain ⟨V1,h5⟩:=zx ra.vars
 obtain ⟨E1,h6⟩:=zx ra.empty
 obtain ⟨V2,h7⟩:=zx rb.vars
 obtain ⟨E2,h8⟩:=zx rb.empty
 rw [<- h1,<- h2,<- h3,<- h4,<- h5,<- h6,<- h7,<- h8] at hpr ⊢
 have HPR:=zh hpr
 clear hpr hva hvb h1 h2 h3 h4 h5 h6 h7 h8 hk
 go_enter Tryz.func37,Tryz.ntmps37
 go_upto_region 1 with fail
 refine zab (fun W => Below w.heap.size w W /\ Row W w.heap.size 25 #[.int .i64 V1,.int .i64 E1,.slice A1 n1 c1,.slice A2 n2 c2] /\ Row W (w.heap.size + 1) 25 #[.int .i64 V2,.int .i64 E2,.slice A3 n3 c3,.slice A4 n4 c4])
  ⟨by go_grown,(Row.new _ _ _).alloc _,Row.lit (by simp)⟩ ?_
 rintro W ⟨hb,r1,r2⟩
 have y0:=r1.cell; have y1:=r2.cell
 have HB:=zh hb
 have hsz:=hb.size
 clear hb r1 r2
 go_upto_region 2 with (go_at_call 36; refine (HPR.out _ HB.out).mono ?_; intro e w6 h6; obtain ⟨A6,c6,A7,c7,rfl,hb6,ht6⟩:=h6.unfold; have HT:=zh ht6; have HB6:=zh (HB.out.trans (hb6.mono HB.out.size)); clear h6 hb6 ht6)
 clear y0 y1
 refine zab (fun X => Below w.heap.size w X /\ Row X w6.heap.size 25 #[.int .i64 R2.vars,.int .i64 R2.empty,.slice A6 R2.next.length c6,.slice A7 R2.fin.length c7] /\ TD X (.agg #[.int .i64 R2.vars,.int .i64 R2.empty,.slice A6 R2.next.length c6,.slice A7 R2.fin.length c7]) R2)
  ⟨by have:=HB6.out; have:=this.size; go_grown,Row.new _ _ _,HT.out.td.below (Below.alloc (Below.refl _ _) zn _) zn⟩ ?_
 rintro X ⟨hb,r1,htd⟩
 have y0:=r1.cell
 have HBX:=zh hb; have HTD:=zh htd
 clear hb r1 htd HT HB6
 go_wp2
 go_returns
 exact ⟨_,rfl,HBX.out,TO.nil _ _⟩
set_option maxRecDepth 100000 in
set_option maxHeartbeats 4000000 in
theorem zgb (ra rb:Raw) (R2:Raw) (t:List Lf) (b:Bool) (va vb:Value) (w:World) (hva:TD w va ra) (hvb:TD w vb rb) (hpr:∀ W,Below w.heap.size w W -> Calls Tryz.prog 36 #[va,vb] W (RetR W R2 0)) (hsm:∀ v W,TD W v R2 -> Calls Tryz.prog 20 #[v] W (RetSm W (t,b,0))) :
  Calls Tryz.prog 37 #[va,vb] w (RetSm w (t,!b,0)):=by
 obtain ⟨A1,c1,A2,c2,rfl⟩:=hva.form
 obtain ⟨A3,c3,A4,c4,rfl⟩:=hvb.form
 obtain ⟨n1,h1⟩:=zx ra.next.length
 obtain ⟨n2,h2⟩:=zx ra.fin.length
 obtain ⟨n3,h3⟩:=zx rb.next.length
 obtain ⟨n4,h4⟩:=zx rb.fin.length
 obtain ⟨V1,h5⟩:=zx ra.vars
 obtain ⟨E1,h6⟩:=zx ra.empty
 obtain ⟨V2,h7⟩:=zx rb.vars
 obtain ⟨E2,h8⟩:=zx rb.empty
 rw [<- h1,<- h2,<- h3,<- h4,<- h5,<- h6,<- h7,<- h8] at hpr ⊢
 have HPR:=zh hpr
 have HSM:=zh hsm
 clear hsm
 clear hpr hva hvb h1 h2 h3 h4 h5 h6 h7 h8
 go_enter Tryz.func37,Tryz.ntmps37
 go_upto_region 1 with fail
 refine zab (fun W => Below w.heap.size w W /\ Row W w.heap.size 25 #[.int .i64 V1,.int .i64 E1,.slice A1 n1 c1,.slice A2 n2 c2] /\ Row W (w.heap.size + 1) 25 #[.int .i64 V2,.int .i64 E2,.slice A3 n3 c3,.slice A4 n4 c4])
  ⟨by go_grown,(Row.new _ _ _).alloc _,Row.lit (by simp)⟩ ?_
 rintro W ⟨hb,r1,r2⟩
 have y0:=r1.cell; have y1:=r2.cell
 have HB:=zh hb
 have hsz:=hb.size
 clear hb r1 r2
 go_upto_region 2 with (go_at_call 36; refine (HPR.out _ HB.out).mono ?_; intro e w6 h6; obtain ⟨A6,c6,A7,c7,rfl,hb6,ht6⟩:=h6.unfold; have HT:=zh ht6; have HB6:=zh (HB.out.trans (hb6.mono HB.out.size)); clear h6 hb6 ht6)
 clear y0 y1
 refine zab (fun X => Below w.heap.size w X /\ Row X w6.heap.size 25 #[.int .i64 R2.vars,.int .i64 R2.empty,.slice A6 R2.next.length c6,.slice A7 R2.fin.length c7] /\ TD X (.agg #[.int .i64 R2.vars,.int .i64 R2.empty,.slice A6 R2.next.length c6,.slice A7 R2.fin.length c7]) R2)
  ⟨by have:=HB6.out; have:=this.size; go_grown,Row.new _ _ _,HT.out.td.below (Below.alloc (Below.refl _ _) zn _) zn⟩ ?_
 rintro X ⟨hb,r1,htd⟩
 have y0:=r1.cell
 have HBX:=zh hb; have HTD:=zh htd
 clear hb r1 htd HT HB6
 have HS:=zh (HSM.out _ X HTD.out)
 clear HSM HTD
 go_wp2_with (go_at_call 20; refine HS.out.mono ?_; rintro e w8 ⟨v8,rfl,hb8,ho8⟩; obtain ⟨_,A8,c8,hf8,_⟩:=ho8.ts; subst hf8; have HB8:=zh (HBX.out.trans (hb8.mono HBX.out.size)); have HO8:=zh (ho8.mono HBX.out.size); clear hb8 ho8)
 go_returns
 exact ⟨_,rfl,HB8.out,HO8.out⟩
set_option maxRecDepth 100000 in
set_option maxHeartbeats 4000000 in
theorem zgt (ra rb:Raw) (R2:Raw) (b:Bool) (va vb:Value) (w:World) (hva:TD w va ra) (hvb:TD w vb rb) (hpr:∀ W,Below w.heap.size w W -> Calls Tryz.prog 36 #[va,vb] W (RetR W R2 0)) (f:Nat) (hf:f ≠ 0) (hsm:∀ v W,TD W v R2 -> Calls Tryz.prog 20 #[v] W (RetSm W ([],b,f))) :
  Calls Tryz.prog 37 #[va,vb] w (RetSm w ([],false,f)):=by
 have h0':((f:Int) != 0) = true:=by rw [bne_iff_ne]; omega
 have h0e:((f:Int) == 0) = false:=by rw [beq_eq_false_iff_ne]; omega
 obtain ⟨A1,c1,A2,c2,rfl⟩:=hva.form
 obtain ⟨A3,c3,A4,c4,rfl⟩:=hvb.form
 obtain ⟨n1,h1⟩:=zx ra.next.length
 obtain ⟨n2,h2⟩:=zx ra.fin.length
 obtain ⟨n3,h3⟩:=zx rb.next.length
 obtain ⟨n4,h4⟩:=zx rb.fin.length
 obtain ⟨V1,h5⟩:=zx ra.vars
 obtain ⟨E1,h6⟩:=zx ra.empty
 obtain ⟨V2,h7⟩:=zx rb.vars
 obtain ⟨E2,h8⟩:=zx rb.empty
 rw [<- h1,<- h2,<- h3,<- h4,<- h5,<- h6,<- h7,<- h8] at hpr ⊢
 have HPR:=zh hpr
 have HSM:=zh hsm
 clear hsm
 clear hpr hva hvb h1 h2 h3 h4 h5 h6 h7 h8 hf
 go_enter Tryz.func37,Tryz.ntmps37
 go_upto_region 1 with fail
 refine zab (fun W => Below w.heap.size w W /\ Row W w.heap.size 25 #[.int .i64 V1,.int .i64 E1,.slice A1 n1 c1,.slice A2 n2 c2] /\ Row W (w.heap.size + 1) 25 #[.int .i64 V2,.int .i64 E2,.slice A3 n3 c3,.slice A4 n4 c4])
  ⟨by go_grown,(Row.new _ _ _).alloc _,Row.lit (by simp)⟩ ?_
 rintro W ⟨hb,r1,r2⟩
 have y0:=r1.cell; have y1:=r2.cell
 have HB:=zh hb
 have hsz:=hb.size
 clear hb r1 r2
 go_upto_region 2 with (go_at_call 36; refine (HPR.out _ HB.out).mono ?_; intro e w6 h6; obtain ⟨A6,c6,A7,c7,rfl,hb6,ht6⟩:=h6.unfold; have HT:=zh ht6; have HB6:=zh (HB.out.trans (hb6.mono HB.out.size)); clear h6 hb6 ht6)
 clear y0 y1
 refine zab (fun X => Below w.heap.size w X /\ Row X w6.heap.size 25 #[.int .i64 R2.vars,.int .i64 R2.empty,.slice A6 R2.next.length c6,.slice A7 R2.fin.length c7] /\ TD X (.agg #[.int .i64 R2.vars,.int .i64 R2.empty,.slice A6 R2.next.length c6,.slice A7 R2.fin.length c7]) R2)
  ⟨by have:=HB6.out; have:=this.size; go_grown,Row.new _ _ _,HT.out.td.below (Below.alloc (Below.refl _ _) zn _) zn⟩ ?_
 rintro X ⟨hb,r1,htd⟩
 have y0:=r1.cell
 have HBX:=zh hb; have HTD:=zh htd
 clear hb r1 htd HT HB6
 have HS:=zh (HSM.out _ X HTD.out)
 clear HSM HTD
 go_wp2_with (go_at_call 20; refine HS.out.mono ?_; rintro e w8 ⟨v8,rfl,hb8,ho8⟩; obtain ⟨_,A8,c8,hf8,_⟩:=ho8.ts; subst hf8; have HB8:=zh (HBX.out.trans (hb8.mono HBX.out.size)); have HO8:=zh (ho8.mono HBX.out.size); clear hb8 ho8)
 go_returns
 exact ⟨_,rfl,HB8.out,TO.nil _ _⟩
theorem ze7 {α:Type} (l:List α) (k:Nat):l.take (min l.length k) = l.take k:=by
 by_cases h:l.length <= k
 ·rw [Nat.min_eq_left h,List.take_length,List.take_of_length_le h]
 ·rw [Nat.min_eq_right (by omega)]
theorem RowF.snoc {w W:World} {B:Nat} {v4 x:Value} {vs:List Value} {ll:List (List Int)} {l:List Int} (ho:VO 53 W B v4 (vs ++ [x])) (h2:vs.length = ll.length) (h3:∀ (i:Nat) v,vs[i]? = some v -> ∃ l,ll[i]? = some l /\ N1 w v l) (hx:N1 w x l):RowF w W B v4 (ll ++ [l]):=by
 refine ⟨_,ho,by simp [h2],fun i v hv => ?_⟩
 by_cases hi:i < vs.length
 ·rw [List.getElem?_append_left hi] at hv
  rw [List.getElem?_append_left (by omega)]
  exact h3 i v hv
 ·have hlen:=(List.getElem?_eq_some_iff.1 hv).1
  simp at hlen
  have:i = vs.length:=by omega
  subst this
  simp at hv
  subst hv
  exact ⟨l,by rw [h2]; simp,hx⟩
theorem RowF.mono {w W:World} {B B':Nat} {u:Value} {ll:List (List Int)} (h:RowF w W B u ll) (hB:B' <= B):RowF w W B' u ll:=by
 obtain ⟨vs,h1,h2⟩:=h
 exact ⟨vs,h1.mono hB,h2⟩
theorem RowF.far {w W X:World} {B B':Nat} {u v:Value} {ll:List (List Int)} {E:TypeId} {xs:List Value} (h:RowF w W B u ll) (hE:53 ≠ E) (hv:VO E W B' v xs) (hg:W.grownBy X v.ownBlock):RowF w X B u ll:=by
 obtain ⟨vs,h1,h2⟩:=h
 exact ⟨vs,h1.far hE hv.2 hg,h2⟩
theorem RowF.allocd {w W:World} {B:Nat} {u:Value} {ll:List (List Int)} (h:RowF w W B u ll) (X:Obj):RowF w (W.alloc X) B u ll:=by
 obtain ⟨vs,h1,h2⟩:=h
 exact ⟨vs,VO.allocd h1 X,h2⟩
theorem RowsF.snoc {w W X:World} {B i c:Nat} {A:Option Addr} {v4 x:Value} {vs:List Value} {L3:List (List (List Int))} {ll:List (List Int)} (h1:VO 54 W B (.slice A i c) vs) (h2:vs.length = L3.length) (h3:∀ (i:Nat) v,vs[i]? = some v -> ∃ ll,L3[i]? = some ll /\ RowF w W B v ll) (hx:RowF w W B x ll)
  (ho:VO 54 X B v4 (vs ++ [x])) (hg:(W.alloc (.cells #[x] 54)).grownBy X (Value.slice A i c).ownBlock):RowsF w X B v4 (L3 ++ [ll]):=by
 have hfr:∀ {u l},RowF w W B u l -> RowF w X B u l:=fun h => (h.allocd (.cells #[x] 54)).far (by decide) (VO.allocd h1 _) hg
 refine ⟨_,ho,by simp [h2],fun j v hv => ?_⟩
 by_cases hi:j < vs.length
 ·rw [List.getElem?_append_left hi] at hv
  rw [List.getElem?_append_left (by omega)]
  obtain ⟨l,e,h⟩:=h3 j v hv
  exact ⟨l,e,hfr h⟩
 ·have hlen:=(List.getElem?_eq_some_iff.1 hv).1
  simp at hlen
  have:j = vs.length:=by omega
  subst this
  simp at hv
  subst hv
  exact ⟨ll,by rw [h2]; simp,hfr hx⟩
theorem RowsF.setF {w W:World} {B g:Nat} {u:Value} {L3:List (List (List Int))} {E:TypeId} {cs:Array Value} (h:RowsF w W B u L3) (hr:Row W g E cs) (h1:54 ≠ E) (h2:53 ≠ E) (i:Nat) (x:Value):RowsF w (W.setCell ⟨g,i,none⟩ x) B u L3:=by
 obtain ⟨vs,k1,k2,k3⟩:=h
 refine ⟨vs,VO.setFar k1 (VO.ne_row k1 hr h1) x,k2,fun j v hv => ?_⟩
 obtain ⟨ll,e,us,q1,q2⟩:=k3 j v hv
 exact ⟨ll,e,us,VO.setFar q1 (VO.ne_row q1 hr h2) x,q2⟩
structure FwI (w:World) (a0 a1 a2 a3:Value) (W:World):Prop where
 below:Below w.heap.size w W
 ra:Row W w.heap.size 25 #[a0,a1,a2,a3]
 rr:Row W (w.heap.size + 1) 25 #[.int .i64 0,.int .i64 0,.slice none 0 0,.slice none 0 0]
theorem FwI.to {w W X:World} {a0 a1 a2 a3:Value} (h:FwI w a0 a1 a2 a3 W) (hb:Below W.heap.size W X):FwI w a0 a1 a2 a3 X :=
 ⟨h.below.trans (hb.mono h.below.size),h.ra.below hb h.ra.lt,h.rr.below hb h.rr.lt⟩
theorem FwI.own {w W X:World} {a0 a1 a2 a3 v x:Value} {xs:List Value} (h:FwI w a0 a1 a2 a3 W) (hv:VO 54 W w.heap.size v xs) (hg:(W.alloc (.cells #[x] 54)).grownBy X v.ownBlock):FwI w a0 a1 a2 a3 X:=by
 have hb:=h.below.alloc h.below.size (.cells #[x] 54)
 have hv':=VO.allocd hv (.cells #[x] 54)
 exact ⟨zae hb hv' hg hb.size,(h.ra.alloc _).far_own (by decide) hv'.2 hg,(h.rr.alloc _).far_own (by decide) hv'.2 hg⟩
theorem FwI.cut {w W:World} {a0 a1 a2 a3:Value} (h:FwI w a0 a1 a2 a3 W) (u v:Value):FwI w a0 a1 u v ((W.setCell ⟨w.heap.size,2,none⟩ u).setCell ⟨w.heap.size,3,none⟩ v) :=
 ⟨(h.below.setCell (p:=⟨w.heap.size,2,none⟩) zn _).setCell (p:=⟨w.heap.size,3,none⟩) zn _,(h.ra.set 2 _).set 3 _,(h.rr.far (by show w.heap.size + 1 ≠ w.heap.size; omega) _).far (by show w.heap.size + 1 ≠ w.heap.size; omega) _⟩
set_option maxRecDepth 100000 in
set_option maxHeartbeats 16000000 in
theorem zo7 (r:Raw) (v:Value) (w:World) (hv:TD w v r) :
  Calls Tryz.prog 13 #[v] w fun e w' => ∃ v',e = .returned v' /\ Below w.heap.size w w' /\ TDO w' w.heap.size v' (fewR r):=by
 obtain ⟨vn,vf,rfl,hn,hff⟩:=hv
 have HN3:=zh hn; have HNB:=zh hff
 obtain ⟨A3,c3,rfl,_,_,hcell⟩:=hn.open
 obtain ⟨A4,c4,rfl,hc41,hc42,_⟩:=hff.open
 obtain ⟨n,hn1⟩:=zx r.next.length
 obtain ⟨m,hm1⟩:=zx r.fin.length
 obtain ⟨i0,hi0⟩:=zx r.vars
 obtain ⟨i1,hi1⟩:=zx r.empty
 rw [<- hn1] at HN3 ⊢
 rw [<- hm1] at HNB hc41 ⊢
 rw [<- hi0,<- hi1]
 have HNL:=zh hn1; have HI0:=zh hi0; have HI1:=zh hi1; have HC:=zh hcell
 clear hn hff hcell hn1 hm1 hi0 hi1
 go_enter Tryz.func13,Tryz.ntmps13
 go_wp2
 refine zab (FwI w (.int .i64 i0) (.int .i64 i1) (.slice A3 n c3) (.slice A4 m c4)) ⟨by go_grown,(Row.new _ _ _).alloc _,Row.lit (by simp)⟩ ?_
 rintro W0 hI
 have HI:=zh hI
 clear hI
 obtain ⟨N,hN⟩:=zx (min n 66)
 have hN1:N <= n:=by omega
 have hN2:N <= 66:=by omega
 have HNN:=zh hN
 clear hN
 go_loopg [3,4] N (fun gk q3 q4 W => ∃ (s:Nat) (A:Option Addr) (c:Nat),s <= N /\ gk = N - s /\ q3 = .slice A s c /\ q4 = .int .i64 s /\ FwI w (.int .i64 i0) (.int .i64 i1) (.slice A3 n c3) (.slice A4 m c4) W /\ RowsF w W w.heap.size (.slice A s c) ((r.next.take s).map fewL))
 case atStart => exact ⟨0,_,_,Nat.zero_le _,rfl,rfl,rfl,HI.out,RowsF.nil _ _ _⟩
 case round =>
  clear HI
  obtain ⟨s,A,c,hsN,rfl,rfl,rfl,hi,hrows⟩:=hrel
  have y0:=hi.ra.cell
  have HI:=zh hi; have HR:=zh hrows
  clear hrows
  by_cases hlt:s < N
  ·have h1:(s:Int) < (n:Int):=by omega
   have h2:(s:Int) < 66:=by omega
   obtain ⟨ll,hll⟩:∃ x,r.next[s]? = some x:=⟨r.next[s]'(by rw [<- HNL.out]; omega),List.getElem?_eq_getElem _⟩
   obtain ⟨b3,o3,p,rfl,hb3,hc,hn2⟩:=HC.out s ll hll
   have d0:=(hi.below.cell (p:=⟨b3,_,none⟩) hb3).trans hc
   obtain ⟨A2,c2,rfl,_,_,hcell2⟩:=hn2.open
   obtain ⟨n2,hn2l⟩:=zx ll.length
   rw [<- hn2l] at d0
   have HC2:=zh hcell2; have HLL:=zh hll; have HN2L:=zh hn2l
   clear hi hc hn2 hcell2 hll hn2l
   obtain ⟨M,hM⟩:=zx (min n2 10)
   have hM1:M <= n2:=by omega
   have hM2:M <= 10:=by omega
   have HMM:=zh hM
   clear hM
   go_wp2
   obtain ⟨W,hW⟩:=zx wr
   rw [<- hW] at HI HR y0 d0 ⊢
   clear hW
   have D0:=zh d0
   go_loopg [5,6] M (fun gk q5 q6 X => ∃ (t:Nat) (A:Option Addr) (c:Nat),t <= M /\ gk = M - t /\ q5 = .slice A t c /\ q6 = .int .i64 t /\ Below W.heap.size W X /\ RowF w X W.heap.size (.slice A t c) ((ll.take t).map fun l => l.take 9))
   case atStart => exact ⟨0,_,_,Nat.zero_le _,rfl,rfl,rfl,Below.refl _ _,[],VO.nil _ _ _,rfl,fun i v h => by simp at h⟩
   case round =>
    obtain ⟨t,A5,c5,htM,rfl,rfl,rfl,hbX,hrow⟩:=hrel
    have HBX:=zh hbX; have HROW:=zh hrow
    have d1:=(hbX.cell (p:=⟨b3,o3 + s,none⟩) (Nat.lt_of_lt_of_le hb3 HI.out.below.size)).trans d0
    have z0:=(HI.out.to hbX).ra.cell
    clear hrow
    by_cases htl:t < M
    ·have k1:(t:Int) < (n2:Int):=by omega
     have k2:(t:Int) < 10:=by omega
     obtain ⟨l,hl⟩:∃ x,ll[t]? = some x:=⟨ll[t]'(by rw [<- HN2L.out]; omega),List.getElem?_eq_getElem _⟩
     obtain ⟨b2,o2,p,rfl,hb2,hc,hn1⟩:=HC2.out t l hl
     have d2:=((HI.out.to hbX).below.cell (p:=⟨b2,_,none⟩) hb2).trans hc
     obtain ⟨A1,c1,rfl,hc11,hc12,_⟩:=hn1.open
     obtain ⟨n1,hn1l⟩:=zx l.length
     rw [<- hn1l] at d2 hn1 hc11
     have HN1:=zh hn1; have HL:=zh hl; have DC:=zh (show w.cell? ⟨b2,o2 + t,none⟩ = some (.slice A1 n1 c1) from by rw [hc,hn1l])
     clear hc hn1 hl hn1l hbX
     go_upto_region 9 with fail
     have hmin:min (n1:Int) 9 = ((min n1 9:Nat):Int):=by omega
     obtain ⟨k9,hk9⟩:=zx (min n1 9)
     have hk1:k9 <= n1:=by omega
     have hk2:k9 <= c1:=by omega
     have hk3:k9 <= 9:=by omega
     rw [<- hk9] at hmin
     have HK9:=zh hk9
     clear hk9
     have HSX:Hid (∀ X,Below W.heap.size W X -> X.cell? ⟨w.heap.size,2,none⟩ = some (.slice (some ⟨b3,o3,none⟩) n c3) /\ X.cell? ⟨b3,o3 + s,none⟩ = some (.slice (some ⟨b2,o2,none⟩) n2 c2) /\ X.cell? ⟨b2,o2 + t,none⟩ = some (.slice A1 n1 c1)):=by
      intro X hX
      have hI:=HI.out.to hX
      exact ⟨(hI.ra.cell 2).trans rfl,(hX.cell (p:=⟨b3,o3 + s,none⟩) (Nat.lt_of_lt_of_le hb3 HI.out.below.size)).trans D0.out,(hI.below.cell (p:=⟨b2,_,none⟩) hb2).trans DC.out⟩
     obtain ⟨vs,hv1,hv2,hv3⟩:=HROW.out
     have HV1:=zh hv1; have HV2:=zh hv2; have HV3:=zh hv3
     clear hv1 hv2 hv3 d1 d2 z0
     refine wp_region_held_drew (S:=(fun X => X.cell? ⟨w.heap.size,2,none⟩ = some (.slice (some ⟨b3,o3,none⟩) n c3) /\ X.cell? ⟨b3,o3 + s,none⟩ = some (.slice (some ⟨b2,o2,none⟩) n2 c2) /\ X.cell? ⟨b2,o2 + t,none⟩ = some (.slice A1 n1 c1))) (by kernel_rfl) (HSX.out _ HBX.out.drew) (fun hHeld => ?_)
     refine tk 0 (oi:=⟨some 32,_,_,_,_,_⟩) ?_
     try simp only [zp]
     refine tk 1 (oi:=⟨some 33,_,_,_,_,_⟩) ?_
     try simp only [zp]
     refine tk 2 (oi:=⟨some 34,_,_,_,_,_⟩) ?_
     try simp only [zp]
     refine tk 3 (oi:=⟨some 35,_,_,_,_,_⟩) ?_
     try simp only [zp]
     refine tk 4 (oi:=⟨some 36,_,_,_,_,_⟩) ?_
     try simp only [zp]
     refine tk 5 (oi:=⟨some 37,_,_,_,_,_⟩) ?_
     try simp only [zp]
     refine tk 6 (oi:=⟨some 38,_,_,_,_,_⟩) ?_
     try simp only [zp]
     refine tk 7 (oi:=⟨some 39,_,_,_,_,_⟩) ?_
     try simp only [zp]
     refine tk 8 (oi:=⟨some 40,_,_,_,_,_⟩) ?_
     try simp only [zp]
     refine tk 9 (oi:=⟨some 41,_,_,_,_,_⟩) ?_
     try simp only [zp]
     refine tk 10 (oi:=⟨some 42,_,_,_,_,_⟩) ?_
     try simp only [zp]
     refine tk 11 (oi:=⟨some 43,_,_,_,_,_⟩) ?_
     try simp only [zp]
     refine tk 12 (oi:=⟨some 44,_,_,_,_,_⟩) ?_
     try simp only [zp]
     refine tk 13 (oi:=⟨some 45,_,_,_,_,_⟩) ?_
     try simp only [zp]
     refine tk 14 (oi:=⟨some 46,_,_,_,_,_⟩) ?_
     try simp only [zp]
     refine tk 15 (oi:=⟨some 47,_,_,_,_,_⟩) ?_
     try simp only [zp]
     refine tk 16 (oi:=⟨some 48,_,_,_,_,_⟩) ?_
     try simp only [zp]
     refine tk 17 (oi:=⟨some 49,_,_,_,_,_⟩) ?_
     try simp only [zp]
     refine tk 18 (oi:=⟨some 50,_,_,_,_,_⟩) ?_
     try simp only [zp]
     refine tk 19 (oi:=⟨some 51,_,_,_,_,_⟩) ?_
     try simp only [zp]
     refine wpAnyH_ready (rs:=[20]) (by kernel_rfl) (by simp) ?_
     refine AllReadyH.cons rfl (fun K hK => ?_) AllReadyH.nil
     go_simp
     have a1:=HBX.out.drew.alloc HBX.out.size (.cells #[.slice A1 k9 c1] 53)
     refine hK.out _ _ (HSX.out _ a1) (fun hHeld1 => ?_)
     clear hK K hHeld
     try simp only [zp]
     have vo5:=VO.allocd (VO.below HV1.out (Below.refl wr.heap.size wr).drew zn) (.cells #[.slice A1 k9 c1] 53)
     refine wpAnyH_ready (rs:=[21]) (by kernel_rfl) (by simp) ?_
     refine AllReadyH.cons rfl (fun K hK => ?_) AllReadyH.nil
     refine zak eII rfl (.tmp 32) (.tmp 52) rfl W.heap.size _ _ rfl vo5 _ [.slice A1 k9 c1] rfl (VS.one (by first | exact Row.new _ _ _ | exact Row.lit rfl | exact Row.litd rfl)) (by intro u hu; simp at hu; subst hu; rfl) (by rw [HV2.out,List.length_map,List.length_take]; simp; omega) (by have:=HBX.out.size; simp only [World.size_alloc,World.size_drew]; omega) ?_; intro v4 w4 ho4 hg4 _; obtain ⟨A4',c4',rfl⟩:=VO.formN (n:=t + 1) ho4 (by rw [List.length_append,HV2.out,List.length_map,List.length_take,<- HN2L.out]; simp; omega)
     have hB4:Below W.heap.size W w4:=zae (w:=W) a1 vo5 hg4 (by have:=HBX.out.size; simp only [World.size_alloc,World.size_drew]; omega)
     have HB4:=zh hB4; have HO4:=zh ho4
     clear ho4 hg4
     refine hK.out _ _ (HSX.out _ hB4) (fun hHeld4 => ?_)
     clear hK K hHeld1 hB4 vo5 a1
     try simp only [zp]
     refine tk 22 (oi:=⟨some 5,_,_,_,_,_⟩) ?_
     try simp only [zp]
     refine wpAnyH_done (by kernel_rfl) ?_ _
     clear hHeld4
     have HTK:Hid ((ll.take (t + 1)).map (fun l => l.take 9) = (ll.take t).map (fun l => l.take 9) ++ [l.take 9]):=by unfold Hid; rw [List.take_add_one,HL.out,List.map_append]; rfl
     have hN1k:=HN1.out.take 9
     rw [<- HK9.out] at hN1k
     have HR4:=zh (RowF.snoc (W:=w4) HO4.out HV2.out HV3.out hN1k)
     clear hN1k
     go_wp2
     go_roundg (M - (t + 1))
     case rel => exact ⟨t + 1,_,_,by omega,rfl,rfl,by go_num,HB4.out,by rw [HTK.out]; exact HR4.out⟩
     case measure => omega
    ·have htM:t = M:=by omega
     have HROW2:=zh (show RowF w wr W.heap.size (.slice A5 t c5) (fewL ll) from by
      have:=HROW.out
      have e:(ll.take t).map (fun l => l.take 9) = fewL ll:=by rw [htM,HMM.out,HN2L.out,ze7]; rfl
      rw [e] at this
      exact this)
     have HI2:=zh (HI.out.to hbX)
     obtain ⟨vs,hv1,hv2,hv3⟩:=(HR.out.below hbX zn)
     have hv2':vs.length = s:=by
      have h:=HNL.out
      rw [hv2,List.length_map,List.length_take]; omega
     have HV1:=zh hv1; have HV2:=zh hv2; have HV3:=zh hv3; have HVL:=zh hv2'
     have HTK:Hid ((r.next.take (s + 1)).map fewL = (r.next.take s).map fewL ++ [fewL ll]):=by unfold Hid; rw [List.take_add_one,HLL.out,List.map_append]; rfl
     have hfin:¬ (t:Int) < (n2:Int) \/ ((t:Int) < (n2:Int) /\ ¬ (t:Int) < 10):=by have:=HMM.out; omega
     clear hv1 hv2 hv3 hv2' hbX HROW htM
     rcases hfin with k1 | ⟨k1,k2⟩
     all_goals
      go_wp2_with (at_builtin; refine zaa eIII rfl (.tmp 54) (.tmp 56) rfl w.heap.size _ _ rfl (VO.allocd HV1.out _) _ [.slice A5 t c5] rfl (VS.one (Row.new _ _ _)) (by intro u hu; simp at hu; subst hu; rfl) (by rw [HVL.out]; simp; omega) (by simp only [World.size_alloc]; have:=HI2.out.below.size; omega) ?_; intro v4 w4 ho4 hg4 _; obtain ⟨A4',c4',rfl⟩:=VO.formN (n:=s + 1) ho4 (by rw [List.length_append,HVL.out]; rfl); have HO4:=zh ho4; have HG4:=zh hg4; clear ho4 hg4)
      have hR4:=RowsF.snoc HV1.out HV2.out HV3.out (HROW2.out.mono HI.out.below.size) HO4.out HG4.out
      have hI4:=FwI.own HI2.out HV1.out HG4.out
      have HR4:=zh hR4; have HI4:=zh hI4
      clear hR4 hI4
      go_roundg (N - (s + 1))
      case rel => exact ⟨s + 1,_,_,by omega,rfl,rfl,by go_num,HI4.out,by rw [HTK.out]; exact HR4.out⟩
      case measure => omega
  ·have hsN':s = N:=by omega
   have HRX:=zh (show RowsF w wr w.heap.size (.slice A s c) (fewR r).next from by
    have:=HR.out
    have e:(r.next.take s).map fewL = (fewR r).next:=by rw [hsN',HNN.out,HNL.out,ze7]; rfl
    rw [e] at this
    exact this)
   have hmin:min (m:Int) 66 = ((min m 66:Nat):Int):=by omega
   obtain ⟨k9,hk9⟩:=zx (min m 66)
   have hk1:k9 <= m:=by omega
   have hk2:k9 <= c4:=by omega
   have hk3:k9 <= 66:=by omega
   rw [<- hk9] at hmin
   have HNBk:=HNB.out.take 66
   rw [<- hk9] at HNBk
   have HNF:=zh HNBk
   clear hk9 HNBk
   have hfin:¬ (s:Int) < (n:Int) \/ ((s:Int) < (n:Int) /\ ¬ (s:Int) < 66):=by have:=HNN.out; omega
   have hfree:=hi.ra.free; have hlt3:=hi.ra.lt
   clear hi HR hsN'
   rcases hfin with k1 | ⟨k1,k2⟩
   all_goals
    go_upto_region 13 with fail
    refine zab (fun X => FwI w (.int .i64 i0) (.int .i64 i1) (.slice A s c) (.slice A4 k9 c4) X /\ RowsF w X w.heap.size (.slice A s c) (fewR r).next) ⟨FwI.cut HI.out (.slice A s c) (.slice A4 k9 c4),(HRX.out.setF HI.out.ra (by decide) (by decide) 2 _).setF (HI.out.ra.set 2 _) (by decide) (by decide) 3 _⟩ ?_
    clear y0 hfree hlt3 HI HRX
    rintro X ⟨hi,hrow⟩
    have htd:TD X (.agg #[.int .i64 i0,.int .i64 i1,.slice A s c,.slice A4 k9 c4]) (fewR r):=⟨_,_,by rw [HI0.out,HI1.out]; rfl,hrow.n3 hi.below,HNF.out.below hi.below zn⟩
    have CP:=zh (copy_td (fewR r) _ X htd (zi6 r))
    have y0:=hi.ra.cell
    have HI:=zh hi
    clear hi hrow htd
    obtain ⟨R,hR⟩:=zx (fewR r)
    rw [<- hR] at CP
    have HRR:=zh hR
    clear hR
    go_wp2_with ((go_at_call 49; refine CP.out.mono ?_; rintro e w6 ⟨v',rfl,hb6,ht6⟩; obtain ⟨A6,c6,A7,c7,rfl⟩:=ht6.td.form; have HT:=zh ht6; have HB6:=zh hb6; have RR6:=zh (HI.out.rr.below hb6 HI.out.rr.lt); have b0:=RR6.out.cell; have b1:=RR6.out.free; clear hb6 ht6 y0))
    refine zad (fun Y => Row Y (w.heap.size + 1) 25 #[.int .i64 R.vars,.int .i64 R.empty,.slice A6 R.next.length c6,.slice A7 R.fin.length c7] /\ TDO Y X.heap.size (.agg #[.int .i64 R.vars,.int .i64 R.empty,.slice A6 R.next.length c6,.slice A7 R.fin.length c7]) R /\ Below w.heap.size w Y)
     (zam RR6.out HT.out (HI.out.below.trans (HB6.out.mono HI.out.below.size)) (Nat.le_succ _)) ?_
    clear b0 b1 RR6 HT
    rintro W5 ⟨r0,hT,hb⟩
    have b0:=r0.cell
    have q0:=b0 0; have q1:=b0 1; have q2:=b0 2; have q3:=b0 3
    simp only [zg] at q0 q1 q2 q3
    have HT:=zh (hT.mono HI.out.below.size); have HBX:=zh hb
    clear b0 r0 hT hb
    refine bodyPost_ret (v:=.agg #[.int .i64 R.vars,.int .i64 R.empty,.slice A6 R.next.length c6,.slice A7 R.fin.length c7]) (by simp [results,Tryz.results13,go_sem,q0,q1,q2,q3]) rfl ⟨_,rfl,HBX.out,?_⟩
    rw [<- HRR.out]; exact HT.out
end Go.Proofs.YthkfjnmnoanhlaaGreatDoor
