/- Part 31 of the proof; it says: lemmas and contracts. No conditions but those that each theorem states. -/
import Derived.BigRegion
import Derived.Deep.RegionHeld3
import Derived.Test.YthkfjnmnoanhlaaGreatDoorPr01
import Derived.Test.YthkfjnmnoanhlaaGreatDoorPr22
import Derived.Test.YthkfjnmnoanhlaaGreatDoorPr24
import Derived.Test.YthkfjnmnoanhlaaGreatDoorPr28
import Derived.Test.YthkfjnmnoanhlaaGreatDoorPr29
import Derived.Test.YthkfjnmnoanhlaaGreatDoorPr30
set_option linter.unusedSimpArgs false
set_option linter.unusedVariables false
namespace Go.Proofs.YthkfjnmnoanhlaaGreatDoor
open Go.RowKit
set_option maxRecDepth 100000 in
set_option maxHeartbeats 4000000 in
theorem zp1 (ra rb:Raw) (R2:Raw) (k:Nat) (va vb:Value) (w:World) (hva:TD w va ra) (hvb:TD w vb rb) (hpr:∀ W,Below w.heap.size w W -> Calls Tryz.prog 77 #[va,vb,.func (.func 78) #[] #[]] W (RetR W R2 k)) :
  Calls Tryz.prog 31 #[va,vb] w (RetR w R2 k):=by
 obtain ⟨A1,c1,A2,c2,rfl⟩:=hva.form
 obtain ⟨A3,c3,A4,c4,rfl⟩:=hvb.form
 obtain ⟨n1,h1⟩:=zx ra.next.length
 obtain ⟨n2,h2⟩:=zx ra.fin.length
 obtain ⟨n3,h3⟩:=zx rb.next.length
 obtain ⟨n4,h4⟩:=zx rb.fin.length
 obtain ⟨V1,h5⟩:=zx ra.vars
 obtain ⟨E1,h6⟩:=zx ra.empty
 obtain ⟨V2,h7⟩:=zx rb.vars
 obtain ⟨E2,h8⟩:=zx rb.empty
 rw [<- h1,<- h2,<- h3,<- h4,<- h5,<- h6,<- h7,<- h8] at hpr ⊢
 have HPR:=zh hpr
 clear hpr hva hvb h1 h2 h3 h4 h5 h6 h7 h8
 go_enter Tryz.func31,Tryz.ntmps31
 go_upto_region 1 with fail
 refine zab (fun W => Below w.heap.size w W /\ Row W w.heap.size 25 #[.int .i64 V1,.int .i64 E1,.slice A1 n1 c1,.slice A2 n2 c2] /\ Row W (w.heap.size + 1) 25 #[.int .i64 V2,.int .i64 E2,.slice A3 n3 c3,.slice A4 n4 c4] /\ Row W (w.heap.size + 1 + 1) 25 #[.int .i64 0,.int .i64 0,.slice none 0 0,.slice none 0 0])
  ⟨by go_grown,((Row.new _ _ _).alloc _).alloc _,(Row.lit (by simp)).alloc _,Row.lit (by simp)⟩ ?_
 rintro W ⟨hb,r1,r2,r3⟩
 have y0:=r1.cell; have y1:=r2.cell
 have HB:=zh hb; have R3:=zh r3
 have hsz:=hb.size
 clear hb r1 r2 r3
 go_wp2_with (go_at_call 77; refine (HPR.out _ HB.out).mono ?_; intro e w6 h6; obtain ⟨A6,c6,A7,c7,rfl,hb6,ht6⟩:=h6.unfold; have HT:=zh ht6; have HB6:=zh hb6; have RR6:=zh (R3.out.below hb6 R3.out.lt); have b0:=RR6.out.cell; have b1:=RR6.out.free; clear h6 hb6 ht6 y0 y1)
 refine zad (fun X => Row X (w.heap.size + 1 + 1) 25 #[.int .i64 R2.vars,.int .i64 R2.empty,.slice A6 R2.next.length c6,.slice A7 R2.fin.length c7] /\ TDO X W.heap.size (.agg #[.int .i64 R2.vars,.int .i64 R2.empty,.slice A6 R2.next.length c6,.slice A7 R2.fin.length c7]) R2 /\ Below w.heap.size w X)
  (zam RR6.out HT.out (HB.out.trans (HB6.out.mono hsz)) (by omega)) ?_
 clear b0 b1 RR6 HT
 rintro W5 ⟨r0,hT,hb⟩
 have b0:=r0.cell
 have q0:=b0 0; have q1:=b0 1; have q2:=b0 2; have q3:=b0 3
 simp only [zg] at q0 q1 q2 q3
 have HT:=zh (hT.mono hsz); have HBX:=zh hb
 clear b0 r0 hT hb
 exact bodyPost_ret (v:=.tuple #[.agg #[.int .i64 R2.vars,.int .i64 R2.empty,.slice A6 R2.next.length c6,.slice A7 R2.fin.length c7],.int .i64 (k:Int)]) (by simp [results,Tryz.results31,go_sem,q0,q1,q2,q3]) rfl ⟨_,rfl,HBX.out,HT.out⟩
set_option maxRecDepth 100000 in
set_option maxHeartbeats 4000000 in
theorem Or_by (ra rb:Raw) (R2:Raw) (k:Nat) (va vb:Value) (w:World) (hva:TD w va ra) (hvb:TD w vb rb) (hpr:∀ W,Below w.heap.size w W -> Calls Tryz.prog 77 #[va,vb,.func (.func 80) #[] #[]] W (RetR W R2 k)) :
  Calls Tryz.prog 33 #[va,vb] w (RetR w R2 k):=by
 obtain ⟨A1,c1,A2,c2,rfl⟩:=hva.form
 obtain ⟨A3,c3,A4,c4,rfl⟩:=hvb.form
 obtain ⟨n1,h1⟩:=zx ra.next.length
 obtain ⟨n2,h2⟩:=zx ra.fin.length
 obtain ⟨n3,h3⟩:=zx rb.next.length
 obtain ⟨n4,h4⟩:=zx rb.fin.length
 obtain ⟨V1,h5⟩:=zx ra.vars
 obtain ⟨E1,h6⟩:=zx ra.empty
 obtain ⟨V2,h7⟩:=zx rb.vars
 obtain ⟨E2,h8⟩:=zx rb.empty
 rw [<- h1,<- h2,<- h3,<- h4,<- h5,<- h6,<- h7,<- h8] at hpr ⊢
 have HPR:=zh hpr
 clear hpr hva hvb h1 h2 h3 h4 h5 h6 h7 h8
 go_enter Tryz.func33,Tryz.ntmps33
 go_upto_region 1 with fail
 refine zab (fun W => Below w.heap.size w W /\ Row W w.heap.size 25 #[.int .i64 V1,.int .i64 E1,.slice A1 n1 c1,.slice A2 n2 c2] /\ Row W (w.heap.size + 1) 25 #[.int .i64 V2,.int .i64 E2,.slice A3 n3 c3,.slice A4 n4 c4] /\ Row W (w.heap.size + 1 + 1) 25 #[.int .i64 0,.int .i64 0,.slice none 0 0,.slice none 0 0])
  ⟨by go_grown,((Row.new _ _ _).alloc _).alloc _,(Row.lit (by simp)).alloc _,Row.lit (by simp)⟩ ?_
 rintro W ⟨hb,r1,r2,r3⟩
 have y0:=r1.cell; have y1:=r2.cell
 have HB:=zh hb; have R3:=zh r3
 have hsz:=hb.size
 clear hb r1 r2 r3
 go_wp2_with (go_at_call 77; refine (HPR.out _ HB.out).mono ?_; intro e w6 h6; obtain ⟨A6,c6,A7,c7,rfl,hb6,ht6⟩:=h6.unfold; have HT:=zh ht6; have HB6:=zh hb6; have RR6:=zh (R3.out.below hb6 R3.out.lt); have b0:=RR6.out.cell; have b1:=RR6.out.free; clear h6 hb6 ht6 y0 y1)
 refine zad (fun X => Row X (w.heap.size + 1 + 1) 25 #[.int .i64 R2.vars,.int .i64 R2.empty,.slice A6 R2.next.length c6,.slice A7 R2.fin.length c7] /\ TDO X W.heap.size (.agg #[.int .i64 R2.vars,.int .i64 R2.empty,.slice A6 R2.next.length c6,.slice A7 R2.fin.length c7]) R2 /\ Below w.heap.size w X)
  (zam RR6.out HT.out (HB.out.trans (HB6.out.mono hsz)) (by omega)) ?_
 clear b0 b1 RR6 HT
 rintro W5 ⟨r0,hT,hb⟩
 have b0:=r0.cell
 have q0:=b0 0; have q1:=b0 1; have q2:=b0 2; have q3:=b0 3
 simp only [zg] at q0 q1 q2 q3
 have HT:=zh (hT.mono hsz); have HBX:=zh hb
 clear b0 r0 hT hb
 exact bodyPost_ret (v:=.tuple #[.agg #[.int .i64 R2.vars,.int .i64 R2.empty,.slice A6 R2.next.length c6,.slice A7 R2.fin.length c7],.int .i64 (k:Int)]) (by simp [results,Tryz.results33,go_sem,q0,q1,q2,q3]) rfl ⟨_,rfl,HBX.out,HT.out⟩
set_option maxRecDepth 100000 in
set_option maxHeartbeats 4000000 in
theorem zie (ra rb:Raw) (R2:Raw) (k:Nat) (va vb:Value) (w:World) (hva:TD w va ra) (hvb:TD w vb rb) (hpr:∀ W,Below w.heap.size w W -> Calls Tryz.prog 77 #[va,vb,.func (.func 81) #[] #[]] W (RetR W R2 k)) :
  Calls Tryz.prog 35 #[va,vb] w (RetR w R2 k):=by
 obtain ⟨A1,c1,A2,c2,rfl⟩:=hva.form
 obtain ⟨A3,c3,A4,c4,rfl⟩:=hvb.form
 obtain ⟨n1,h1⟩:=zx ra.next.length
 obtain ⟨n2,h2⟩:=zx ra.fin.length
 obtain ⟨n3,h3⟩:=zx rb.next.length
 obtain ⟨n4,h4⟩:=zx rb.fin.length
 obtain ⟨V1,h5⟩:=zx ra.vars
 obtain ⟨E1,h6⟩:=zx ra.empty
 obtain ⟨V2,h7⟩:=zx rb.vars
 obtain ⟨E2,h8⟩:=zx rb.empty
 rw [<- h1,<- h2,<- h3,<- h4,<- h5,<- h6,<- h7,<- h8] at hpr ⊢
 have HPR:=zh hpr
 clear hpr hva hvb h1 h2 h3 h4 h5 h6 h7 h8
 go_enter Tryz.func35,Tryz.ntmps35
 go_upto_region 1 with fail
 refine zab (fun W => Below w.heap.size w W /\ Row W w.heap.size 25 #[.int .i64 V1,.int .i64 E1,.slice A1 n1 c1,.slice A2 n2 c2] /\ Row W (w.heap.size + 1) 25 #[.int .i64 V2,.int .i64 E2,.slice A3 n3 c3,.slice A4 n4 c4] /\ Row W (w.heap.size + 1 + 1) 25 #[.int .i64 0,.int .i64 0,.slice none 0 0,.slice none 0 0])
  ⟨by go_grown,((Row.new _ _ _).alloc _).alloc _,(Row.lit (by simp)).alloc _,Row.lit (by simp)⟩ ?_
 rintro W ⟨hb,r1,r2,r3⟩
 have y0:=r1.cell; have y1:=r2.cell
 have HB:=zh hb; have R3:=zh r3
 have hsz:=hb.size
 clear hb r1 r2 r3
 go_wp2_with (go_at_call 77; refine (HPR.out _ HB.out).mono ?_; intro e w6 h6; obtain ⟨A6,c6,A7,c7,rfl,hb6,ht6⟩:=h6.unfold; have HT:=zh ht6; have HB6:=zh hb6; have RR6:=zh (R3.out.below hb6 R3.out.lt); have b0:=RR6.out.cell; have b1:=RR6.out.free; clear h6 hb6 ht6 y0 y1)
 refine zad (fun X => Row X (w.heap.size + 1 + 1) 25 #[.int .i64 R2.vars,.int .i64 R2.empty,.slice A6 R2.next.length c6,.slice A7 R2.fin.length c7] /\ TDO X W.heap.size (.agg #[.int .i64 R2.vars,.int .i64 R2.empty,.slice A6 R2.next.length c6,.slice A7 R2.fin.length c7]) R2 /\ Below w.heap.size w X)
  (zam RR6.out HT.out (HB.out.trans (HB6.out.mono hsz)) (by omega)) ?_
 clear b0 b1 RR6 HT
 rintro W5 ⟨r0,hT,hb⟩
 have b0:=r0.cell
 have q0:=b0 0; have q1:=b0 1; have q2:=b0 2; have q3:=b0 3
 simp only [zg] at q0 q1 q2 q3
 have HT:=zh (hT.mono hsz); have HBX:=zh hb
 clear b0 r0 hT hb
 exact bodyPost_ret (v:=.tuple #[.agg #[.int .i64 R2.vars,.int .i64 R2.empty,.slice A6 R2.next.length c6,.slice A7 R2.fin.length c7],.int .i64 (k:Int)]) (by simp [results,Tryz.results35,go_sem,q0,q1,q2,q3]) rfl ⟨_,rfl,HBX.out,HT.out⟩
set_option maxRecDepth 100000 in
set_option maxHeartbeats 4000000 in
theorem zfg (ra rb:Raw) (R2:Raw) (k:Nat) (va vb:Value) (w:World) (hva:TD w va ra) (hvb:TD w vb rb) (hpr:∀ W,Below w.heap.size w W -> Calls Tryz.prog 79 #[va,vb,.int .i64 0] W (RetR W R2 k)) :
  Calls Tryz.prog 32 #[va,vb] w (RetR w R2 k):=by
 obtain ⟨A1,c1,A2,c2,rfl⟩:=hva.form
 obtain ⟨A3,c3,A4,c4,rfl⟩:=hvb.form
 obtain ⟨n1,h1⟩:=zx ra.next.length
 obtain ⟨n2,h2⟩:=zx ra.fin.length
 obtain ⟨n3,h3⟩:=zx rb.next.length
 obtain ⟨n4,h4⟩:=zx rb.fin.length
 obtain ⟨V1,h5⟩:=zx ra.vars
 obtain ⟨E1,h6⟩:=zx ra.empty
 obtain ⟨V2,h7⟩:=zx rb.vars
 obtain ⟨E2,h8⟩:=zx rb.empty
 rw [<- h1,<- h2,<- h3,<- h4,<- h5,<- h6,<- h7,<- h8] at hpr ⊢
 have HPR:=zh hpr
 clear hpr hva hvb h1 h2 h3 h4 h5 h6 h7 h8
 go_enter Tryz.func32,Tryz.ntmps32
 go_upto_region 1 with fail
 refine zab (fun W => Below w.heap.size w W /\ Row W w.heap.size 25 #[.int .i64 V1,.int .i64 E1,.slice A1 n1 c1,.slice A2 n2 c2] /\ Row W (w.heap.size + 1) 25 #[.int .i64 V2,.int .i64 E2,.slice A3 n3 c3,.slice A4 n4 c4] /\ Row W (w.heap.size + 1 + 1) 25 #[.int .i64 0,.int .i64 0,.slice none 0 0,.slice none 0 0])
  ⟨by go_grown,((Row.new _ _ _).alloc _).alloc _,(Row.lit (by simp)).alloc _,Row.lit (by simp)⟩ ?_
 rintro W ⟨hb,r1,r2,r3⟩
 have y0:=r1.cell; have y1:=r2.cell
 have HB:=zh hb; have R3:=zh r3
 have hsz:=hb.size
 clear hb r1 r2 r3
 go_wp2_with (go_at_call 79; refine (HPR.out _ HB.out).mono ?_; intro e w6 h6; obtain ⟨A6,c6,A7,c7,rfl,hb6,ht6⟩:=h6.unfold; have HT:=zh ht6; have HB6:=zh hb6; have RR6:=zh (R3.out.below hb6 R3.out.lt); have b0:=RR6.out.cell; have b1:=RR6.out.free; clear h6 hb6 ht6 y0 y1)
 refine zad (fun X => Row X (w.heap.size + 1 + 1) 25 #[.int .i64 R2.vars,.int .i64 R2.empty,.slice A6 R2.next.length c6,.slice A7 R2.fin.length c7] /\ TDO X W.heap.size (.agg #[.int .i64 R2.vars,.int .i64 R2.empty,.slice A6 R2.next.length c6,.slice A7 R2.fin.length c7]) R2 /\ Below w.heap.size w X)
  (zam RR6.out HT.out (HB.out.trans (HB6.out.mono hsz)) (by omega)) ?_
 clear b0 b1 RR6 HT
 rintro W5 ⟨r0,hT,hb⟩
 have b0:=r0.cell
 have q0:=b0 0; have q1:=b0 1; have q2:=b0 2; have q3:=b0 3
 simp only [zg] at q0 q1 q2 q3
 have HT:=zh (hT.mono hsz); have HBX:=zh hb
 clear b0 r0 hT hb
 exact bodyPost_ret (v:=.tuple #[.agg #[.int .i64 R2.vars,.int .i64 R2.empty,.slice A6 R2.next.length c6,.slice A7 R2.fin.length c7],.int .i64 (k:Int)]) (by simp [results,Tryz.results32,go_sem,q0,q1,q2,q3]) rfl ⟨_,rfl,HBX.out,HT.out⟩
set_option maxRecDepth 100000 in
set_option maxHeartbeats 4000000 in
theorem zhz (ra rb:Raw) (R2:Raw) (k:Nat) (va vb:Value) (w:World) (hva:TD w va ra) (hvb:TD w vb rb) (hpr:∀ W,Below w.heap.size w W -> Calls Tryz.prog 79 #[va,vb,.int .i64 1] W (RetR W R2 k)) :
  Calls Tryz.prog 34 #[va,vb] w (RetR w R2 k):=by
 obtain ⟨A1,c1,A2,c2,rfl⟩:=hva.form
 obtain ⟨A3,c3,A4,c4,rfl⟩:=hvb.form
 obtain ⟨n1,h1⟩:=zx ra.next.length
 obtain ⟨n2,h2⟩:=zx ra.fin.length
 obtain ⟨n3,h3⟩:=zx rb.next.length
 obtain ⟨n4,h4⟩:=zx rb.fin.length
 obtain ⟨V1,h5⟩:=zx ra.vars
 obtain ⟨E1,h6⟩:=zx ra.empty
 obtain ⟨V2,h7⟩:=zx rb.vars
 obtain ⟨E2,h8⟩:=zx rb.empty
 rw [<- h1,<- h2,<- h3,<- h4,<- h5,<- h6,<- h7,<- h8] at hpr ⊢
 have HPR:=zh hpr
 clear hpr hva hvb h1 h2 h3 h4 h5 h6 h7 h8
 go_enter Tryz.func34,Tryz.ntmps34
 go_upto_region 1 with fail
 refine zab (fun W => Below w.heap.size w W /\ Row W w.heap.size 25 #[.int .i64 V1,.int .i64 E1,.slice A1 n1 c1,.slice A2 n2 c2] /\ Row W (w.heap.size + 1) 25 #[.int .i64 V2,.int .i64 E2,.slice A3 n3 c3,.slice A4 n4 c4] /\ Row W (w.heap.size + 1 + 1) 25 #[.int .i64 0,.int .i64 0,.slice none 0 0,.slice none 0 0])
  ⟨by go_grown,((Row.new _ _ _).alloc _).alloc _,(Row.lit (by simp)).alloc _,Row.lit (by simp)⟩ ?_
 rintro W ⟨hb,r1,r2,r3⟩
 have y0:=r1.cell; have y1:=r2.cell
 have HB:=zh hb; have R3:=zh r3
 have hsz:=hb.size
 clear hb r1 r2 r3
 go_wp2_with (go_at_call 79; refine (HPR.out _ HB.out).mono ?_; intro e w6 h6; obtain ⟨A6,c6,A7,c7,rfl,hb6,ht6⟩:=h6.unfold; have HT:=zh ht6; have HB6:=zh hb6; have RR6:=zh (R3.out.below hb6 R3.out.lt); have b0:=RR6.out.cell; have b1:=RR6.out.free; clear h6 hb6 ht6 y0 y1)
 refine zad (fun X => Row X (w.heap.size + 1 + 1) 25 #[.int .i64 R2.vars,.int .i64 R2.empty,.slice A6 R2.next.length c6,.slice A7 R2.fin.length c7] /\ TDO X W.heap.size (.agg #[.int .i64 R2.vars,.int .i64 R2.empty,.slice A6 R2.next.length c6,.slice A7 R2.fin.length c7]) R2 /\ Below w.heap.size w X)
  (zam RR6.out HT.out (HB.out.trans (HB6.out.mono hsz)) (by omega)) ?_
 clear b0 b1 RR6 HT
 rintro W5 ⟨r0,hT,hb⟩
 have b0:=r0.cell
 have q0:=b0 0; have q1:=b0 1; have q2:=b0 2; have q3:=b0 3
 simp only [zg] at q0 q1 q2 q3
 have HT:=zh (hT.mono hsz); have HBX:=zh hb
 clear b0 r0 hT hb
 exact bodyPost_ret (v:=.tuple #[.agg #[.int .i64 R2.vars,.int .i64 R2.empty,.slice A6 R2.next.length c6,.slice A7 R2.fin.length c7],.int .i64 (k:Int)]) (by simp [results,Tryz.results34,go_sem,q0,q1,q2,q3]) rfl ⟨_,rfl,HBX.out,HT.out⟩
set_option maxRecDepth 100000 in
set_option maxHeartbeats 4000000 in
theorem zdm (ra rb:Raw) (R2:Raw) (k:Nat) (va vb:Value) (w:World) (hva:TD w va ra) (hvb:TD w vb rb) (hpr:∀ W,Below w.heap.size w W -> Calls Tryz.prog 79 #[va,vb,.int .i64 2] W (RetR W R2 k)) :
  Calls Tryz.prog 36 #[va,vb] w (RetR w R2 k):=by
 obtain ⟨A1,c1,A2,c2,rfl⟩:=hva.form
 obtain ⟨A3,c3,A4,c4,rfl⟩:=hvb.form
 obtain ⟨n1,h1⟩:=zx ra.next.length
 obtain ⟨n2,h2⟩:=zx ra.fin.length
 obtain ⟨n3,h3⟩:=zx rb.next.length
 obtain ⟨n4,h4⟩:=zx rb.fin.length
 obtain ⟨V1,h5⟩:=zx ra.vars
 obtain ⟨E1,h6⟩:=zx ra.empty
 obtain ⟨V2,h7⟩:=zx rb.vars
 obtain ⟨E2,h8⟩:=zx rb.empty
 rw [<- h1,<- h2,<- h3,<- h4,<- h5,<- h6,<- h7,<- h8] at hpr ⊢
 have HPR:=zh hpr
 clear hpr hva hvb h1 h2 h3 h4 h5 h6 h7 h8
 go_enter Tryz.func36,Tryz.ntmps36
 go_upto_region 1 with fail
 refine zab (fun W => Below w.heap.size w W /\ Row W w.heap.size 25 #[.int .i64 V1,.int .i64 E1,.slice A1 n1 c1,.slice A2 n2 c2] /\ Row W (w.heap.size + 1) 25 #[.int .i64 V2,.int .i64 E2,.slice A3 n3 c3,.slice A4 n4 c4] /\ Row W (w.heap.size + 1 + 1) 25 #[.int .i64 0,.int .i64 0,.slice none 0 0,.slice none 0 0])
  ⟨by go_grown,((Row.new _ _ _).alloc _).alloc _,(Row.lit (by simp)).alloc _,Row.lit (by simp)⟩ ?_
 rintro W ⟨hb,r1,r2,r3⟩
 have y0:=r1.cell; have y1:=r2.cell
 have HB:=zh hb; have R3:=zh r3
 have hsz:=hb.size
 clear hb r1 r2 r3
 go_wp2_with (go_at_call 79; refine (HPR.out _ HB.out).mono ?_; intro e w6 h6; obtain ⟨A6,c6,A7,c7,rfl,hb6,ht6⟩:=h6.unfold; have HT:=zh ht6; have HB6:=zh hb6; have RR6:=zh (R3.out.below hb6 R3.out.lt); have b0:=RR6.out.cell; have b1:=RR6.out.free; clear h6 hb6 ht6 y0 y1)
 refine zad (fun X => Row X (w.heap.size + 1 + 1) 25 #[.int .i64 R2.vars,.int .i64 R2.empty,.slice A6 R2.next.length c6,.slice A7 R2.fin.length c7] /\ TDO X W.heap.size (.agg #[.int .i64 R2.vars,.int .i64 R2.empty,.slice A6 R2.next.length c6,.slice A7 R2.fin.length c7]) R2 /\ Below w.heap.size w X)
  (zam RR6.out HT.out (HB.out.trans (HB6.out.mono hsz)) (by omega)) ?_
 clear b0 b1 RR6 HT
 rintro W5 ⟨r0,hT,hb⟩
 have b0:=r0.cell
 have q0:=b0 0; have q1:=b0 1; have q2:=b0 2; have q3:=b0 3
 simp only [zg] at q0 q1 q2 q3
 have HT:=zh (hT.mono hsz); have HBX:=zh hb
 clear b0 r0 hT hb
 exact bodyPost_ret (v:=.tuple #[.agg #[.int .i64 R2.vars,.int .i64 R2.empty,.slice A6 R2.next.length c6,.slice A7 R2.fin.length c7],.int .i64 (k:Int)]) (by simp [results,Tryz.results36,go_sem,q0,q1,q2,q3]) rfl ⟨_,rfl,HBX.out,HT.out⟩
set_option maxRecDepth 100000 in
set_option maxHeartbeats 4000000 in
theorem zcc (ra rb:Raw) (z:Int) (va vb:Value) (w:World) (hva:TD w va ra) (hvb:TD w vb rb) (hsa:Small ra) (hsb:Small rb) (h0:ra.check ≠ 0) :
  Calls Tryz.prog 79 #[va,vb,.int .i64 z] w (RetR w zeroR ra.check):=by
 have hckA:=fun W (h:Below w.heap.size w W) => zcg ra va W (hva.below h zn) hsa
 have hckB:=fun W (h:Below w.heap.size w W) => zcg rb vb W (hvb.below h zn) hsb
 obtain ⟨k,hk⟩:=zx ra.check
 rw [<- hk] at h0 hckA ⊢
 have h0':((k:Int) != 0) = true:=by rw [bne_iff_ne]; omega
 obtain ⟨A1,c1,A2,c2,rfl⟩:=hva.form
 obtain ⟨A3,c3,A4,c4,rfl⟩:=hvb.form
 obtain ⟨n1,h1⟩:=zx ra.next.length
 obtain ⟨n2,h2⟩:=zx ra.fin.length
 obtain ⟨n3,h3⟩:=zx rb.next.length
 obtain ⟨n4,h4⟩:=zx rb.fin.length
 obtain ⟨V1,h5⟩:=zx ra.vars
 obtain ⟨E1,h6⟩:=zx ra.empty
 obtain ⟨V2,h7⟩:=zx rb.vars
 obtain ⟨E2,h8⟩:=zx rb.empty
 rw [<- h1,<- h2,<- h5,<- h6] at hckA
 rw [<- h3,<- h4,<- h7,<- h8] at hckB
 rw [<- h1,<- h2,<- h3,<- h4,<- h5,<- h6,<- h7,<- h8]
 have HCA:=zh hckA; have HCB:=zh hckB
 clear hckA hckB hva hvb h1 h2 h3 h4 h5 h6 h7 h8 hsa hsb h0  hk
 go_enter Tryz.func79,Tryz.ntmps79
 go_upto_region 1 with fail
 refine zab (fun W => Below w.heap.size w W /\ Row W w.heap.size 25 #[.int .i64 V1,.int .i64 E1,.slice A1 n1 c1,.slice A2 n2 c2] /\ Row W (w.heap.size + 1) 25 #[.int .i64 V2,.int .i64 E2,.slice A3 n3 c3,.slice A4 n4 c4] /\ Row W (w.heap.size + 1 + 1) 25 #[.int .i64 0,.int .i64 0,.slice none 0 0,.slice none 0 0])
  ⟨by go_grown,((Row.new _ _ _).alloc _).alloc _,(Row.lit (by simp)).alloc _,Row.lit (by simp)⟩ ?_
 rintro W ⟨hb,r1,r2,r3⟩
 have y0:=r1.cell; have y1:=r2.cell
 have HB:=zh hb; have R1:=zh r1; have R2:=zh r2; have R3:=zh r3
 clear hb r1 r2 r3
 go_upto_region 2 with (go_at_call 52; refine (HCA.out _ HB.out).mono ?_; rintro e w2 ⟨rfl,hb2⟩; have HB2:=zh hb2; clear hb2)
 clear y0 y1
 have y0:=(R1.out.below HB2.out R1.out.lt).cell; have y1:=(R2.out.below HB2.out R2.out.lt).cell
 have z0:=(R3.out.below HB2.out R3.out.lt).cell; have z1:=(R3.out.below HB2.out R3.out.lt).free
 have RR:=zh (R3.out.below HB2.out R3.out.lt)
 have HBB:=zh (HB.out.trans (HB2.out.mono HB.out.size))
 go_wp2
 all_goals
  refine zad (fun X => Row X (w.heap.size + 1 + 1) 25 #[.int .i64 0,.int .i64 0,.slice none 0 0,.slice none 0 0] /\ TDO X w2.heap.size zeroV zeroR /\ Below w.heap.size w X) (zam RR.out (zai _ _) HBB.out (by omega)) ?_
  clear y0 y1 z0 z1
  rintro W5 ⟨r0,hT,hb⟩
  have b0:=r0.cell
  have q0:=b0 0; have q1:=b0 1; have q2:=b0 2; have q3:=b0 3
  simp only [zg] at q0 q1 q2 q3
  have HBX:=zh hb
  clear b0 r0 hT hb
  exact bodyPost_ret (v:=.tuple #[zeroV,.int .i64 (k:Int)]) (by simp [results,Tryz.results79,go_sem,q0,q1,q2,q3,zeroV]) rfl ⟨_,rfl,HBX.out,zai _ _⟩
set_option maxRecDepth 100000 in
set_option maxHeartbeats 4000000 in
theorem zcb (ra rb:Raw) (z:Int) (va vb:Value) (w:World) (hva:TD w va ra) (hvb:TD w vb rb) (hsa:Small ra) (hsb:Small rb) (h0:ra.check = 0) (g0:rb.check ≠ 0) :
  Calls Tryz.prog 79 #[va,vb,.int .i64 z] w (RetR w zeroR rb.check):=by
 have hckA:=fun W (h:Below w.heap.size w W) => zcg ra va W (hva.below h zn) hsa
 have hckB:=fun W (h:Below w.heap.size w W) => zcg rb vb W (hvb.below h zn) hsb
 obtain ⟨k,hk⟩:=zx rb.check
 rw [h0] at hckA
 rw [<- hk] at g0 hckB ⊢
 have h0':((k:Int) != 0) = true:=by rw [bne_iff_ne]; omega
 obtain ⟨A1,c1,A2,c2,rfl⟩:=hva.form
 obtain ⟨A3,c3,A4,c4,rfl⟩:=hvb.form
 obtain ⟨n1,h1⟩:=zx ra.next.length
 obtain ⟨n2,h2⟩:=zx ra.fin.length
 obtain ⟨n3,h3⟩:=zx rb.next.length
 obtain ⟨n4,h4⟩:=zx rb.fin.length
 obtain ⟨V1,h5⟩:=zx ra.vars
 obtain ⟨E1,h6⟩:=zx ra.empty
 obtain ⟨V2,h7⟩:=zx rb.vars
 obtain ⟨E2,h8⟩:=zx rb.empty
 rw [<- h1,<- h2,<- h5,<- h6] at hckA
 rw [<- h3,<- h4,<- h7,<- h8] at hckB
 rw [<- h1,<- h2,<- h3,<- h4,<- h5,<- h6,<- h7,<- h8]
 have HCA:=zh hckA; have HCB:=zh hckB
 clear hckA hckB hva hvb h1 h2 h3 h4 h5 h6 h7 h8 hsa hsb h0 g0 hk
 go_enter Tryz.func79,Tryz.ntmps79
 go_upto_region 1 with fail
 refine zab (fun W => Below w.heap.size w W /\ Row W w.heap.size 25 #[.int .i64 V1,.int .i64 E1,.slice A1 n1 c1,.slice A2 n2 c2] /\ Row W (w.heap.size + 1) 25 #[.int .i64 V2,.int .i64 E2,.slice A3 n3 c3,.slice A4 n4 c4] /\ Row W (w.heap.size + 1 + 1) 25 #[.int .i64 0,.int .i64 0,.slice none 0 0,.slice none 0 0])
  ⟨by go_grown,((Row.new _ _ _).alloc _).alloc _,(Row.lit (by simp)).alloc _,Row.lit (by simp)⟩ ?_
 rintro W ⟨hb,r1,r2,r3⟩
 have y0:=r1.cell; have y1:=r2.cell
 have HB:=zh hb; have R1:=zh r1; have R2:=zh r2; have R3:=zh r3
 clear hb r1 r2 r3
 go_upto_region 2 with (go_at_call 52; refine (HCA.out _ HB.out).mono ?_; rintro e w2 ⟨rfl,hb2⟩; have HB2:=zh hb2; clear hb2)
 clear y0 y1
 have y0:=(R1.out.below HB2.out R1.out.lt).cell; have y1:=(R2.out.below HB2.out R2.out.lt).cell
 have z0:=(R3.out.below HB2.out R3.out.lt).cell; have z1:=(R3.out.below HB2.out R3.out.lt).free
 have RR:=zh (R3.out.below HB2.out R3.out.lt)
 have HBB:=zh (HB.out.trans (HB2.out.mono HB.out.size))
 go_upto_region 5 with (go_at_call 52; refine (HCB.out _ HBB.out).mono ?_; rintro e w3 ⟨rfl,hb3⟩; have HB3:=zh hb3; clear hb3)
 clear y0 y1 z0 z1
 have q1:=R1.out.below HB2.out R1.out.lt; have q2:=R2.out.below HB2.out R2.out.lt
 have y0:=(q1.below HB3.out q1.lt).cell; have y1:=(q2.below HB3.out q2.lt).cell
 have RR2:=zh (RR.out.below HB3.out RR.out.lt)
 have z0:=RR2.out.cell; have z1:=RR2.out.free
 have HB4:=zh (HBB.out.trans (HB3.out.mono HBB.out.size))
 clear q1 q2
 go_wp2
 all_goals
  refine zad (fun X => Row X (w.heap.size + 1 + 1) 25 #[.int .i64 0,.int .i64 0,.slice none 0 0,.slice none 0 0] /\ TDO X w3.heap.size zeroV zeroR /\ Below w.heap.size w X) (zam RR2.out (zai _ _) HB4.out (by omega)) ?_
  clear y0 y1 z0 z1
  rintro W5 ⟨r0,hT,hb⟩
  have b0:=r0.cell
  have q0:=b0 0; have q1:=b0 1; have q2:=b0 2; have q3:=b0 3
  simp only [zg] at q0 q1 q2 q3
  have HBX:=zh hb
  clear b0 r0 hT hb
  exact bodyPost_ret (v:=.tuple #[zeroV,.int .i64 (k:Int)]) (by simp [results,Tryz.results79,go_sem,q0,q1,q2,q3,zeroV]) rfl ⟨_,rfl,HBX.out,zai _ _⟩
set_option maxRecDepth 100000 in
set_option maxHeartbeats 4000000 in
theorem zca (ra rb:Raw) (z:Int) (va vb:Value) (w:World) (hva:TD w va ra) (hvb:TD w vb rb) (hsa:Small ra) (hsb:Small rb) (h0:ra.check = 0) (g0:rb.check = 0) (hne:ra.vars ≠ rb.vars) :
  Calls Tryz.prog 79 #[va,vb,.int .i64 z] w (RetR w zeroR 7):=by
 have hckA:=fun W (h:Below w.heap.size w W) => zcg ra va W (hva.below h zn) hsa
 have hckB:=fun W (h:Below w.heap.size w W) => zcg rb vb W (hvb.below h zn) hsb
 rw [h0] at hckA
 rw [g0] at hckB
 obtain ⟨A1,c1,A2,c2,rfl⟩:=hva.form
 obtain ⟨A3,c3,A4,c4,rfl⟩:=hvb.form
 obtain ⟨n1,h1⟩:=zx ra.next.length
 obtain ⟨n2,h2⟩:=zx ra.fin.length
 obtain ⟨n3,h3⟩:=zx rb.next.length
 obtain ⟨n4,h4⟩:=zx rb.fin.length
 obtain ⟨V1,h5⟩:=zx ra.vars
 obtain ⟨E1,h6⟩:=zx ra.empty
 obtain ⟨V2,h7⟩:=zx rb.vars
 obtain ⟨E2,h8⟩:=zx rb.empty
 rw [<- h1,<- h2,<- h5,<- h6] at hckA
 rw [<- h3,<- h4,<- h7,<- h8] at hckB
 rw [<- h1,<- h2,<- h3,<- h4,<- h5,<- h6,<- h7,<- h8]
 rw [<- h5,<- h7] at hne
 have hneb:(V1 != V2) = true:=by rw [bne_iff_ne]; exact hne
 have HCA:=zh hckA; have HCB:=zh hckB
 clear hckA hckB hva hvb h1 h2 h3 h4 h5 h6 h7 h8 hsa hsb h0 g0
 go_enter Tryz.func79,Tryz.ntmps79
 go_upto_region 1 with fail
 refine zab (fun W => Below w.heap.size w W /\ Row W w.heap.size 25 #[.int .i64 V1,.int .i64 E1,.slice A1 n1 c1,.slice A2 n2 c2] /\ Row W (w.heap.size + 1) 25 #[.int .i64 V2,.int .i64 E2,.slice A3 n3 c3,.slice A4 n4 c4] /\ Row W (w.heap.size + 1 + 1) 25 #[.int .i64 0,.int .i64 0,.slice none 0 0,.slice none 0 0])
  ⟨by go_grown,((Row.new _ _ _).alloc _).alloc _,(Row.lit (by simp)).alloc _,Row.lit (by simp)⟩ ?_
 rintro W ⟨hb,r1,r2,r3⟩
 have y0:=r1.cell; have y1:=r2.cell
 have HB:=zh hb; have R1:=zh r1; have R2:=zh r2; have R3:=zh r3
 clear hb r1 r2 r3
 go_upto_region 2 with (go_at_call 52; refine (HCA.out _ HB.out).mono ?_; rintro e w2 ⟨rfl,hb2⟩; have HB2:=zh hb2; clear hb2)
 clear y0 y1
 have y0:=(R1.out.below HB2.out R1.out.lt).cell; have y1:=(R2.out.below HB2.out R2.out.lt).cell
 have z0:=(R3.out.below HB2.out R3.out.lt).cell; have z1:=(R3.out.below HB2.out R3.out.lt).free
 have RR:=zh (R3.out.below HB2.out R3.out.lt)
 have HBB:=zh (HB.out.trans (HB2.out.mono HB.out.size))
 go_upto_region 5 with (go_at_call 52; refine (HCB.out _ HBB.out).mono ?_; rintro e w3 ⟨rfl,hb3⟩; have HB3:=zh hb3; clear hb3)
 clear y0 y1 z0 z1
 have q1:=R1.out.below HB2.out R1.out.lt; have q2:=R2.out.below HB2.out R2.out.lt
 have y0:=(q1.below HB3.out q1.lt).cell; have y1:=(q2.below HB3.out q2.lt).cell
 have RR2:=zh (RR.out.below HB3.out RR.out.lt)
 have z0:=RR2.out.cell; have z1:=RR2.out.free
 have HB4:=zh (HBB.out.trans (HB3.out.mono HBB.out.size))
 clear q1 q2
 go_wp2
 all_goals
  refine zad (fun X => Row X (w.heap.size + 1 + 1) 25 #[.int .i64 0,.int .i64 0,.slice none 0 0,.slice none 0 0] /\ TDO X w3.heap.size zeroV zeroR /\ Below w.heap.size w X) (zam RR2.out (zai _ _) HB4.out (by omega)) ?_
  clear y0 y1 z0 z1
  rintro W5 ⟨r0,hT,hb⟩
  have b0:=r0.cell
  have q0:=b0 0; have q1:=b0 1; have q2:=b0 2; have q3:=b0 3
  simp only [zg] at q0 q1 q2 q3
  have HBX:=zh hb
  clear b0 r0 hT hb
  exact bodyPost_ret (v:=.tuple #[zeroV,.int .i64 7]) (by simp [results,Tryz.results79,go_sem,q0,q1,q2,q3,zeroV]) rfl ⟨_,rfl,HBX.out,zai _ _⟩
structure BaP (w:World) (a0 a1 a2 a3 b0 b1 b2 b3:Value) (W:World):Prop where
 below:Below w.heap.size w W
 ra:Row W w.heap.size 25 #[a0,a1,a2,a3]
 rb:Row W (w.heap.size + 1) 25 #[b0,b1,b2,b3]
 rr:Row W (w.heap.size + 1 + 1 + 1) 25 #[.int .i64 0,.int .i64 0,.slice none 0 0,.slice none 0 0]
theorem BaP.to {w W X:World} {a0 a1 a2 a3 b0 b1 b2 b3:Value} (h:BaP w a0 a1 a2 a3 b0 b1 b2 b3 W) (hb:Below W.heap.size W X):BaP w a0 a1 a2 a3 b0 b1 b2 b3 X :=
 ⟨h.below.trans (hb.mono h.below.size),h.ra.below hb h.ra.lt,h.rb.below hb h.rb.lt,h.rr.below hb h.rr.lt⟩
set_option maxRecDepth 100000 in
set_option maxHeartbeats 4000000 in
theorem zc8 (ra rb:Raw) (z:Value) (hz:∃ fid,z = .func (.func fid) #[] #[]) (va vb:Value) (w:World) (hva:TD w va ra) (hvb:TD w vb rb) (hsa:Small ra) (hsb:Small rb) (h0:ra.check ≠ 0) :
  Calls Tryz.prog 77 #[va,vb,z] w (RetR w zeroR ra.check):=by
 obtain ⟨fid,rfl⟩:=hz
 have hckA:=fun W (h:Below w.heap.size w W) => zap ra va W (hva.below h zn) hsa
 have hckB:=fun W (h:Below w.heap.size w W) => zap rb vb W (hvb.below h zn) hsb
 obtain ⟨k,hk⟩:=zx ra.check
 rw [<- hk] at h0 hckA ⊢
 have h0':((k:Int) != 0) = true:=by rw [bne_iff_ne]; omega
 obtain ⟨A1,c1,A2,c2,rfl⟩:=hva.form
 obtain ⟨A3,c3,A4,c4,rfl⟩:=hvb.form
 obtain ⟨n1,h1⟩:=zx ra.next.length
 obtain ⟨n2,h2⟩:=zx ra.fin.length
 obtain ⟨n3,h3⟩:=zx rb.next.length
 obtain ⟨n4,h4⟩:=zx rb.fin.length
 obtain ⟨V1,h5⟩:=zx ra.vars
 obtain ⟨E1,h6⟩:=zx ra.empty
 obtain ⟨V2,h7⟩:=zx rb.vars
 obtain ⟨E2,h8⟩:=zx rb.empty
 rw [<- h1,<- h2,<- h5,<- h6] at hckA
 rw [<- h3,<- h4,<- h7,<- h8] at hckB
 rw [<- h1,<- h2,<- h3,<- h4,<- h5,<- h6,<- h7,<- h8]
 have HCA:=zh hckA; have HCB:=zh hckB
 clear hckA hckB hva hvb h1 h2 h3 h4 h5 h6 h7 h8 hsa hsb h0  hk
 go_enter Tryz.func77,Tryz.ntmps77
 go_wp2
 refine zab (BaP w (.int .i64 V1) (.int .i64 E1) (.slice A1 n1 c1) (.slice A2 n2 c2) (.int .i64 V2) (.int .i64 E2) (.slice A3 n3 c3) (.slice A4 n4 c4))
  ⟨by go_grown,(((Row.new _ _ _).alloc _).alloc _).alloc _,((Row.lit (by simp)).alloc _).alloc _,Row.lit (by simp)⟩ ?_
 rintro W0 hp
 have HP:=zh hp
 clear hp
 go_loopg [17] 2 (fun gk q wr => ∃ i:Nat,i <= 0 /\ gk = 2 - i /\ q = .int .i64 i /\ BaP w (.int .i64 V1) (.int .i64 E1) (.slice A1 n1 c1) (.slice A2 n2 c2) (.int .i64 V2) (.int .i64 E2) (.slice A3 n3 c3) (.slice A4 n4 c4) wr)
 case atStart => exact ⟨0,by omega,rfl,rfl,HP.out⟩
 case round =>
  clear HP
  obtain ⟨i,hi,rfl,rfl,hp⟩:=hrel
  obtain ⟨wl,hwl⟩:=zx wr
  subst hwl
  have HP:=zh hp
  have hsz:=hp.below.size
  clear hp
  have hix:=zhl wl (.int .i64 V1) (.int .i64 E1) (.slice A1 n1 c1) (.slice A2 n2 c2) (.int .i64 V2) (.int .i64 E2) (.slice A3 n3 c3) (.slice A4 n4 c4)
  obtain ⟨hi0,hi1⟩:=hix
  obtain rfl:i = 0:=by omega
  ·skip
   ·go_wp2_with (go_at_call 50; refine (HCA.out _ (by have:=HP.out.below; go_grown)).mono ?_; rintro e w2 ⟨rfl,hb2⟩; have HP2:=zh (HP.out.to ((Below.alloc (Below.refl _ _) zn _).trans (hb2.mono (by simp)))); have z0:=HP2.out.rr.cell; have z1:=HP2.out.rr.free; clear hb2)
    refine zad (fun X => Row X (w.heap.size + 1 + 1 + 1) 25 #[.int .i64 0,.int .i64 0,.slice none 0 0,.slice none 0 0] /\ TDO X w.heap.size zeroV zeroR /\ Below w.heap.size w X) (zam HP2.out.rr (zai _ _) HP2.out.below (by omega)) ?_
    clear z0 z1
    rintro W5 ⟨r0,hT,hb⟩
    have b0:=r0.cell
    have q0:=b0 0; have q1:=b0 1; have q2:=b0 2; have q3:=b0 3
    simp only [zg] at q0 q1 q2 q3
    have HBX:=zh hb
    clear b0 r0 hT hb
    exact bodyPost_ret (v:=.tuple #[zeroV,.int .i64 (k:Int)]) (by simp [results,Tryz.results77,go_sem,q0,q1,q2,q3,zeroV]) rfl ⟨_,rfl,HBX.out,zai _ _⟩
set_option maxRecDepth 100000 in
set_option maxHeartbeats 4000000 in
theorem zc7 (ra rb:Raw) (z:Value) (hz:∃ fid,z = .func (.func fid) #[] #[]) (va vb:Value) (w:World) (hva:TD w va ra) (hvb:TD w vb rb) (hsa:Small ra) (hsb:Small rb) (h0:ra.check = 0) (g0:rb.check ≠ 0) :
  Calls Tryz.prog 77 #[va,vb,z] w (RetR w zeroR rb.check):=by
 obtain ⟨fid,rfl⟩:=hz
 have hckA:=fun W (h:Below w.heap.size w W) => zap ra va W (hva.below h zn) hsa
 have hckB:=fun W (h:Below w.heap.size w W) => zap rb vb W (hvb.below h zn) hsb
 obtain ⟨k,hk⟩:=zx rb.check
 rw [h0] at hckA
 rw [<- hk] at g0 hckB ⊢
 have h0':((k:Int) != 0) = true:=by rw [bne_iff_ne]; omega
 obtain ⟨A1,c1,A2,c2,rfl⟩:=hva.form
 obtain ⟨A3,c3,A4,c4,rfl⟩:=hvb.form
 obtain ⟨n1,h1⟩:=zx ra.next.length
 obtain ⟨n2,h2⟩:=zx ra.fin.length
 obtain ⟨n3,h3⟩:=zx rb.next.length
 obtain ⟨n4,h4⟩:=zx rb.fin.length
 obtain ⟨V1,h5⟩:=zx ra.vars
 obtain ⟨E1,h6⟩:=zx ra.empty
 obtain ⟨V2,h7⟩:=zx rb.vars
 obtain ⟨E2,h8⟩:=zx rb.empty
 rw [<- h1,<- h2,<- h5,<- h6] at hckA
 rw [<- h3,<- h4,<- h7,<- h8] at hckB
 rw [<- h1,<- h2,<- h3,<- h4,<- h5,<- h6,<- h7,<- h8]
 have HCA:=zh hckA; have HCB:=zh hckB
 clear hckA hckB hva hvb h1 h2 h3 h4 h5 h6 h7 h8 hsa hsb h0 g0 hk
 go_enter Tryz.func77,Tryz.ntmps77
 go_wp2
 refine zab (BaP w (.int .i64 V1) (.int .i64 E1) (.slice A1 n1 c1) (.slice A2 n2 c2) (.int .i64 V2) (.int .i64 E2) (.slice A3 n3 c3) (.slice A4 n4 c4))
  ⟨by go_grown,(((Row.new _ _ _).alloc _).alloc _).alloc _,((Row.lit (by simp)).alloc _).alloc _,Row.lit (by simp)⟩ ?_
 rintro W0 hp
 have HP:=zh hp
 clear hp
 go_loopg [17] 2 (fun gk q wr => ∃ i:Nat,i <= 1 /\ gk = 2 - i /\ q = .int .i64 i /\ BaP w (.int .i64 V1) (.int .i64 E1) (.slice A1 n1 c1) (.slice A2 n2 c2) (.int .i64 V2) (.int .i64 E2) (.slice A3 n3 c3) (.slice A4 n4 c4) wr)
 case atStart => exact ⟨0,by omega,rfl,rfl,HP.out⟩
 case round =>
  clear HP
  obtain ⟨i,hi,rfl,rfl,hp⟩:=hrel
  obtain ⟨wl,hwl⟩:=zx wr
  subst hwl
  have HP:=zh hp
  have hsz:=hp.below.size
  clear hp
  have hix:=zhl wl (.int .i64 V1) (.int .i64 E1) (.slice A1 n1 c1) (.slice A2 n2 c2) (.int .i64 V2) (.int .i64 E2) (.slice A3 n3 c3) (.slice A4 n4 c4)
  obtain ⟨hi0,hi1⟩:=hix
  have h01:i = 0 \/ i = 1:=by omega
  ·rcases h01 with rfl | rfl
   ·go_wp2_with (go_at_call 50; refine (HCA.out _ (by have:=HP.out.below; go_grown)).mono ?_; rintro e w2 ⟨rfl,hb2⟩; have HB2:=zh hb2; clear hb2)
    go_roundg 1
    case rel => exact ⟨1,by omega,rfl,by go_num,HP.out.to ((Below.alloc (Below.refl _ _) zn _).trans (HB2.out.mono (by simp)))⟩
    case measure => omega
   ·go_wp2_with (go_at_call 50; refine (HCB.out _ (by have:=HP.out.below; go_grown)).mono ?_; rintro e w2 ⟨rfl,hb2⟩; have HP2:=zh (HP.out.to ((Below.alloc (Below.refl _ _) zn _).trans (hb2.mono (by simp)))); have z0:=HP2.out.rr.cell; have z1:=HP2.out.rr.free; clear hb2)
    refine zad (fun X => Row X (w.heap.size + 1 + 1 + 1) 25 #[.int .i64 0,.int .i64 0,.slice none 0 0,.slice none 0 0] /\ TDO X w.heap.size zeroV zeroR /\ Below w.heap.size w X) (zam HP2.out.rr (zai _ _) HP2.out.below (by omega)) ?_
    clear z0 z1
    rintro W5 ⟨r0,hT,hb⟩
    have b0:=r0.cell
    have q0:=b0 0; have q1:=b0 1; have q2:=b0 2; have q3:=b0 3
    simp only [zg] at q0 q1 q2 q3
    have HBX:=zh hb
    clear b0 r0 hT hb
    exact bodyPost_ret (v:=.tuple #[zeroV,.int .i64 (k:Int)]) (by simp [results,Tryz.results77,go_sem,q0,q1,q2,q3,zeroV]) rfl ⟨_,rfl,HBX.out,zai _ _⟩
set_option maxRecDepth 100000 in
set_option maxHeartbeats 4000000 in
theorem zc6 (ra rb:Raw) (z:Value) (hz:∃ fid,z = .func (.func fid) #[] #[]) (va vb:Value) (w:World) (hva:TD w va ra) (hvb:TD w vb rb) (hsa:Small ra) (hsb:Small rb) (h0:ra.check = 0) (g0:rb.check = 0) (hne:ra.vars ≠ rb.vars) :
  Calls Tryz.prog 77 #[va,vb,z] w (RetR w zeroR 7):=by
 obtain ⟨fid,rfl⟩:=hz
 have hckA:=fun W (h:Below w.heap.size w W) => zap ra va W (hva.below h zn) hsa
 have hckB:=fun W (h:Below w.heap.size w W) => zap rb vb W (hvb.below h zn) hsb
 rw [h0] at hckA
 rw [g0] at hckB
 obtain ⟨A1,c1,A2,c2,rfl⟩:=hva.form
 obtain ⟨A3,c3,A4,c4,rfl⟩:=hvb.form
 obtain ⟨n1,h1⟩:=zx ra.next.length
 obtain ⟨n2,h2⟩:=zx ra.fin.length
 obtain ⟨n3,h3⟩:=zx rb.next.length
 obtain ⟨n4,h4⟩:=zx rb.fin.length
 obtain ⟨V1,h5⟩:=zx ra.vars
 obtain ⟨E1,h6⟩:=zx ra.empty
 obtain ⟨V2,h7⟩:=zx rb.vars
 obtain ⟨E2,h8⟩:=zx rb.empty
 rw [<- h1,<- h2,<- h5,<- h6] at hckA
 rw [<- h3,<- h4,<- h7,<- h8] at hckB
 rw [<- h1,<- h2,<- h3,<- h4,<- h5,<- h6,<- h7,<- h8]
 rw [<- h5,<- h7] at hne
 have hneb:(V1 != V2) = true:=by rw [bne_iff_ne]; exact hne
 have HCA:=zh hckA; have HCB:=zh hckB
 clear hckA hckB hva hvb h1 h2 h3 h4 h5 h6 h7 h8 hsa hsb h0 g0
 go_enter Tryz.func77,Tryz.ntmps77
 go_wp2
 refine zab (BaP w (.int .i64 V1) (.int .i64 E1) (.slice A1 n1 c1) (.slice A2 n2 c2) (.int .i64 V2) (.int .i64 E2) (.slice A3 n3 c3) (.slice A4 n4 c4))
  ⟨by go_grown,(((Row.new _ _ _).alloc _).alloc _).alloc _,((Row.lit (by simp)).alloc _).alloc _,Row.lit (by simp)⟩ ?_
 rintro W0 hp
 have HP:=zh hp
 clear hp
 go_loopg [17] 2 (fun gk q wr => ∃ i:Nat,i <= 2 /\ gk = 2 - i /\ q = .int .i64 i /\ BaP w (.int .i64 V1) (.int .i64 E1) (.slice A1 n1 c1) (.slice A2 n2 c2) (.int .i64 V2) (.int .i64 E2) (.slice A3 n3 c3) (.slice A4 n4 c4) wr)
 case atStart => exact ⟨0,by omega,rfl,rfl,HP.out⟩
 case round =>
  clear HP
  obtain ⟨i,hi,rfl,rfl,hp⟩:=hrel
  obtain ⟨wl,hwl⟩:=zx wr
  subst hwl
  have HP:=zh hp
  have hsz:=hp.below.size
  clear hp
  have hix:=zhl wl (.int .i64 V1) (.int .i64 E1) (.slice A1 n1 c1) (.slice A2 n2 c2) (.int .i64 V2) (.int .i64 E2) (.slice A3 n3 c3) (.slice A4 n4 c4)
  obtain ⟨hi0,hi1⟩:=hix
  have h01:i = 0 \/ i = 1 \/ i = 2:=by omega
  ·rcases h01 with rfl | rfl | rfl
   ·go_wp2_with (go_at_call 50; refine (HCA.out _ (by have:=HP.out.below; go_grown)).mono ?_; rintro e w2 ⟨rfl,hb2⟩; have HB2:=zh hb2; clear hb2)
    go_roundg 1
    case rel => exact ⟨1,by omega,rfl,by go_num,HP.out.to ((Below.alloc (Below.refl _ _) zn _).trans (HB2.out.mono (by simp)))⟩
    case measure => omega
   ·go_wp2_with (go_at_call 50; refine (HCB.out _ (by have:=HP.out.below; go_grown)).mono ?_; rintro e w2 ⟨rfl,hb2⟩; have HB2:=zh hb2; clear hb2)
    go_roundg 0
    case rel => exact ⟨2,by omega,rfl,by go_num,HP.out.to ((Below.alloc (Below.refl _ _) zn _).trans (HB2.out.mono (by simp)))⟩
    case measure => omega
   ·have HP2:=HP
    have y0:=HP2.out.ra.cell; have y1:=HP2.out.rb.cell
    have z0:=HP2.out.rr.cell; have z1:=HP2.out.rr.free
    go_wp2
    clear y0 y1
    refine zad (fun X => Row X (w.heap.size + 1 + 1 + 1) 25 #[.int .i64 0,.int .i64 0,.slice none 0 0,.slice none 0 0] /\ TDO X w.heap.size zeroV zeroR /\ Below w.heap.size w X) (zam HP2.out.rr (zai _ _) HP2.out.below (by omega)) ?_
    clear z0 z1
    rintro W5 ⟨r0,hT,hb⟩
    have b0:=r0.cell
    have q0:=b0 0; have q1:=b0 1; have q2:=b0 2; have q3:=b0 3
    simp only [zg] at q0 q1 q2 q3
    have HBX:=zh hb
    clear b0 r0 hT hb
    exact bodyPost_ret (v:=.tuple #[zeroV,.int .i64 7]) (by simp [results,Tryz.results77,go_sem,q0,q1,q2,q3,zeroV]) rfl ⟨_,rfl,HBX.out,zai _ _⟩
def opAny (ra rb:Raw) (g:Bool -> Bool -> Bool):Raw × Nat :=
 if ra.check ≠ 0 then (zeroR,ra.check) else if rb.check ≠ 0 then (zeroR,rb.check) else if ra.vars ≠ rb.vars then (zeroR,7) else opR ra.dta rb.dta g ra.vars.toNat
theorem Raw.check_dta {r:Raw} (h:r.check = 0):∃ V:Nat,r.vars = (V:Int) /\ r.dta.Fit V /\ r = r.dta.raw V:=by
 obtain ⟨V,hd,hr⟩:=Raw.check_ok h
 exact ⟨V,by rw [hr]; rfl,hd,hr⟩
theorem And_any (ra rb:Raw) (va vb:Value) (w:World) (hva:TD w va ra) (hvb:TD w vb rb) (hsa:Small ra) (hsb:Small rb) :
  Calls Tryz.prog 31 #[va,vb] w (RetR w (opAny ra rb fun p q => p && q).1 (opAny ra rb fun p q => p && q).2):=by
 by_cases h0:ra.check = 0
 ·by_cases g0:rb.check = 0
  ·by_cases hv:ra.vars = rb.vars
   ·have e:opAny ra rb (fun p q => p && q) = opR ra.dta rb.dta (fun p q => p && q) ra.vars.toNat:=by unfold opAny; simp [h0,g0,hv]
    rw [e]
    obtain ⟨V,hV,hd,hr⟩:=Raw.check_dta h0
    obtain ⟨V',hV',hd',hr'⟩:=Raw.check_dta g0
    have:V' = V:=by rw [hV,hV'] at hv; omega
    subst this
    rw [hV,Int.toNat_natCast]
    exact zp0 ra.dta rb.dta V' hd hd' va vb w (by rw [<- hr]; exact hva) (by rw [<- hr']; exact hvb)
   ·have e:opAny ra rb (fun p q => p && q) = (zeroR,7):=by unfold opAny; simp [h0,g0,hv]
    rw [e]
    exact zp1 ra rb zeroR 7 va vb w hva hvb fun W hb => zc6 ra rb _ ⟨_,rfl⟩ va vb W (hva.below hb zn) (hvb.below hb zn) hsa hsb h0 g0 hv
  ·have e:opAny ra rb (fun p q => p && q) = (zeroR,rb.check):=by unfold opAny; simp [h0,g0]
   rw [e]
   exact zp1 ra rb zeroR rb.check va vb w hva hvb fun W hb => zc7 ra rb _ ⟨_,rfl⟩ va vb W (hva.below hb zn) (hvb.below hb zn) hsa hsb h0 g0
 ·have e:opAny ra rb (fun p q => p && q) = (zeroR,ra.check):=by unfold opAny; simp [h0]
  rw [e]
  exact zp1 ra rb zeroR ra.check va vb w hva hvb fun W hb => zc8 ra rb _ ⟨_,rfl⟩ va vb W (hva.below hb zn) (hvb.below hb zn) hsa hsb h0
theorem Or_any (ra rb:Raw) (va vb:Value) (w:World) (hva:TD w va ra) (hvb:TD w vb rb) (hsa:Small ra) (hsb:Small rb) :
  Calls Tryz.prog 33 #[va,vb] w (RetR w (opAny ra rb fun p q => p || q).1 (opAny ra rb fun p q => p || q).2):=by
 by_cases h0:ra.check = 0
 ·by_cases g0:rb.check = 0
  ·by_cases hv:ra.vars = rb.vars
   ·have e:opAny ra rb (fun p q => p || q) = opR ra.dta rb.dta (fun p q => p || q) ra.vars.toNat:=by unfold opAny; simp [h0,g0,hv]
    rw [e]
    obtain ⟨V,hV,hd,hr⟩:=Raw.check_dta h0
    obtain ⟨V',hV',hd',hr'⟩:=Raw.check_dta g0
    have:V' = V:=by rw [hV,hV'] at hv; omega
    subst this
    rw [hV,Int.toNat_natCast]
    exact Or_ok ra.dta rb.dta V' hd hd' va vb w (by rw [<- hr]; exact hva) (by rw [<- hr']; exact hvb)
   ·have e:opAny ra rb (fun p q => p || q) = (zeroR,7):=by unfold opAny; simp [h0,g0,hv]
    rw [e]
    exact Or_by ra rb zeroR 7 va vb w hva hvb fun W hb => zc6 ra rb _ ⟨_,rfl⟩ va vb W (hva.below hb zn) (hvb.below hb zn) hsa hsb h0 g0 hv
  ·have e:opAny ra rb (fun p q => p || q) = (zeroR,rb.check):=by unfold opAny; simp [h0,g0]
   rw [e]
   exact Or_by ra rb zeroR rb.check va vb w hva hvb fun W hb => zc7 ra rb _ ⟨_,rfl⟩ va vb W (hva.below hb zn) (hvb.below hb zn) hsa hsb h0 g0
 ·have e:opAny ra rb (fun p q => p || q) = (zeroR,ra.check):=by unfold opAny; simp [h0]
  rw [e]
  exact Or_by ra rb zeroR ra.check va vb w hva hvb fun W hb => zc8 ra rb _ ⟨_,rfl⟩ va vb W (hva.below hb zn) (hvb.below hb zn) hsa hsb h0
theorem zjl (ra rb:Raw) (va vb:Value) (w:World) (hva:TD w va ra) (hvb:TD w vb rb) (hsa:Small ra) (hsb:Small rb) :
  Calls Tryz.prog 35 #[va,vb] w (RetR w (opAny ra rb fun p q => p && !q).1 (opAny ra rb fun p q => p && !q).2):=by
 by_cases h0:ra.check = 0
 ·by_cases g0:rb.check = 0
  ·by_cases hv:ra.vars = rb.vars
   ·have e:opAny ra rb (fun p q => p && !q) = opR ra.dta rb.dta (fun p q => p && !q) ra.vars.toNat:=by unfold opAny; simp [h0,g0,hv]
    rw [e]
    obtain ⟨V,hV,hd,hr⟩:=Raw.check_dta h0
    obtain ⟨V',hV',hd',hr'⟩:=Raw.check_dta g0
    have:V' = V:=by rw [hV,hV'] at hv; omega
    subst this
    rw [hV,Int.toNat_natCast]
    exact zl3 ra.dta rb.dta V' hd hd' va vb w (by rw [<- hr]; exact hva) (by rw [<- hr']; exact hvb)
   ·have e:opAny ra rb (fun p q => p && !q) = (zeroR,7):=by unfold opAny; simp [h0,g0,hv]
    rw [e]
    exact zie ra rb zeroR 7 va vb w hva hvb fun W hb => zc6 ra rb _ ⟨_,rfl⟩ va vb W (hva.below hb zn) (hvb.below hb zn) hsa hsb h0 g0 hv
  ·have e:opAny ra rb (fun p q => p && !q) = (zeroR,rb.check):=by unfold opAny; simp [h0,g0]
   rw [e]
   exact zie ra rb zeroR rb.check va vb w hva hvb fun W hb => zc7 ra rb _ ⟨_,rfl⟩ va vb W (hva.below hb zn) (hvb.below hb zn) hsa hsb h0 g0
 ·have e:opAny ra rb (fun p q => p && !q) = (zeroR,ra.check):=by unfold opAny; simp [h0]
  rw [e]
  exact zie ra rb zeroR ra.check va vb w hva hvb fun W hb => zc8 ra rb _ ⟨_,rfl⟩ va vb W (hva.below hb zn) (hvb.below hb zn) hsa hsb h0
theorem k_abs {K:Act -> World -> Prop} {a:Act} {w:World} (F:World -> Prop) (hF:F w) (hk:∀ W,F W -> K a W):K a w:=hk w hF
def adE {α:Type} [DecidableEq α] (o:List α) (s t:α):Nat -> List α
 | 0 => o
 | 1 => addS o s
 | _ => addS (addS o s) t
theorem O2.rd {W:World} {B m c:Nat} {A:Option Addr} {ll:List (List Int)} (h:O2 W B (.slice A m c) ll) {i:Nat} {l:List Int} (hl:ll[i]? = some l) (hp:0 < l.length) :
  ∃ g gi ci,A = some ⟨g,0,none⟩ /\ g < W.heap.size /\ W.cell? ⟨g,i,none⟩ = some (.slice (some ⟨gi,0,none⟩) l.length ci) /\ l.length <= ci /\ ci <= 9223372036854775807 /\ gi < W.heap.size /\ (∀ t x,l[t]? = some x -> W.cell? ⟨gi,t,none⟩ = some (.int .i64 x)) /\ ∃ cs,Row W gi 3 cs:=by
 obtain ⟨vs,h1,h2,h3⟩:=h
 have hi:i < vs.length:=by rw [h2]; exact (List.getElem?_eq_some_iff.1 hl).1
 obtain ⟨g,cap,cs,he,_,hr,_,_,hcell⟩:=h1.row (by omega)
 simp only [Value.slice.injEq] at he
 obtain ⟨l',h4,h5⟩:=h3 i _ (List.getElem?_eq_getElem hi)
 rw [hl] at h4; cases h4
 obtain ⟨gi,ci,cs2,he2,_,hr2,hc2,hc3,hcell2⟩:=VO.row h5 (by rw [zag]; exact hp)
 rw [zag] at he2 hc2
 exact ⟨g,gi,ci,he.1,hr.lt,by rw [hcell i _ (List.getElem?_eq_getElem hi),he2],hc2,hc3,hr2.lt,fun t x hx => hcell2 t _ (iL_at hx),_,hr2⟩
theorem O2.formN {W:World} {B m:Nat} {v:Value} {ll:List (List Int)} (h:O2 W B v ll) (hm:ll.length = m):∃ A c,v = .slice A m c:=by
 obtain ⟨vs,h1,h2,_⟩:=h
 exact VO.formN h1 (h2.trans hm)
theorem O2.lit1 (w:World) (l:List Int) (hl:l.length <= 1000):O2 ((w.alloc (.cells (iL l).toArray 3)).alloc (.cells #[.slice (some ⟨w.heap.size,0,none⟩) l.length l.length] 53)) w.heap.size (.slice (some ⟨w.heap.size + 1,0,none⟩) 1 1) [l]:=by
 have h1:=VO.lit (E:=3) (w:=w) (n:=l.length) (iL l) (zag l) (by omega) (zc0 l)
 have h2:=VO.lit (E:=53) (w:=w.alloc (.cells (iL l).toArray 3)) (n:=1) [.slice (some ⟨w.heap.size,0,none⟩) l.length l.length] rfl (by omega) (by intro u hu; simp at hu; subst hu; rfl)
 simp only [World.size_alloc] at h2
 refine ⟨_,h2.mono (by omega),rfl,fun i u hu => ?_⟩
 have:i = 0:=by have:=(List.getElem?_eq_some_iff.1 hu).1; simp at this; omega
 subst this
 simp at hu
 subst hu
 exact ⟨l,rfl,VO.allocd h1 _⟩
structure BothI (W:World) (B:Nat) (v u1 u2:Value) (l1 l2:List Int):Prop where
 vo:VO 53 W B v [u1,u2]
 o1:O1 W B u1 l1
 o2:O1 W B u2 l2
theorem BothI.to {W X:World} {B:Nat} {v u1 u2:Value} {l1 l2:List Int} (h:BothI W B v u1 u2 l1 l2) (hb:Below W.heap.size W X):BothI X B v u1 u2 l1 l2 :=
 ⟨h.vo.below hb zn,VO.below h.o1 hb zn,VO.below h.o2 hb zn⟩
theorem BothI.far {W X:World} {B B':Nat} {v u1 u2 p:Value} {l1 l2:List Int} {xs:List Value} (h:BothI W B v u1 u2 l1 l2) (hne:Apart v p) (hp:VO 53 W B' p xs) (hg:W.grownBy X p.ownBlock):BothI X B v u1 u2 l1 l2 :=
 ⟨h.vo.farB hne hg,h.o1.far (by decide) hp hg,h.o2.far (by decide) hp hg⟩
set_option maxRecDepth 100000 in
set_option maxHeartbeats 4000000 in
theorem Count_chk (r:Raw) (M:Int) (x:Value) (w:World) (hv:TD w x r) (hs:Small r) (h0:r.check ≠ 0):Calls Tryz.prog 23 #[x,.int .i64 M] w fun e w' => e = .returned (.tuple #[.int .u64 0,.int .i64 (r.check:Nat)]) /\ Below w.heap.size w w':=by
 have hck:=fun W (h:Below w.heap.size w W) => zap r x W (hv.below h zn) hs
 obtain ⟨k,hk⟩:=zx r.check
 rw [<- hk] at h0 hck ⊢
 have h0':((k:Int) != 0) = true:=by rw [bne_iff_ne]; omega
 obtain ⟨A3,c3,A4,c4,rfl⟩:=hv.form
 obtain ⟨n,hn⟩:=zx r.next.length
 obtain ⟨m,hm⟩:=zx r.fin.length
 obtain ⟨i0,hV⟩:=zx r.vars
 obtain ⟨i1,hE⟩:=zx r.empty
 rw [<- hn,<- hm,<- hV,<- hE] at hck ⊢
 have HC:=zh hck
 clear hck hv hk hn hm hV hE hs h0
 go_enter Tryz.func23,Tryz.ntmps23
 go_wp2_with (go_at_call 50; refine (HC.out _ (by go_grown)).mono ?_; rintro e w2 ⟨rfl,hb2⟩; have HB2:=zh ((Below.alloc (Below.refl _ _) zn _).trans (hb2.mono (by simp only [World.size_alloc]; omega))); clear hb2)
 go_returns
 exact ⟨rfl,HB2.out⟩
set_option maxRecDepth 100000 in
set_option maxHeartbeats 4000000 in
theorem zjh (r:Raw) (x:Value) (w:World) (hv:TD w x r) (hs:Small r) (h0:r.check ≠ 0):Calls Tryz.prog 19 #[x] w (RetSm w ([],false,r.check)):=by
 have hck:=fun W (h:Below w.heap.size w W) => zpz r x W (hv.below h zn) hs
 have he:za8 r = false:=by unfold za8; simp [h0]
 rw [he] at hck
 obtain ⟨k,hk⟩:=zx r.check
 rw [<- hk] at h0 hck ⊢
 have h0':((k:Int) != 0) = true:=by rw [bne_iff_ne]; omega
 obtain ⟨A3,c3,A4,c4,rfl⟩:=hv.form
 obtain ⟨n,hn⟩:=zx r.next.length
 obtain ⟨m,hm⟩:=zx r.fin.length
 obtain ⟨i0,hV⟩:=zx r.vars
 obtain ⟨i1,hE⟩:=zx r.empty
 rw [<- hn,<- hm,<- hV,<- hE] at hck ⊢
 have HC:=zh hck
 clear hck hv hk he hn hm hV hE hs h0
 go_enter Tryz.func19,Tryz.ntmps19
 go_wp2_with (go_at_call 21; refine (HC.out _ (by go_grown)).mono ?_; rintro e w2 ⟨rfl,hb2⟩; have HB2:=zh ((Below.alloc (Below.refl _ _) zn _).trans (hb2.mono (by simp only [World.size_alloc]; omega))); clear hb2)
 go_returns
 exact ⟨_,rfl,HB2.out,TO.nil _ _⟩
set_option maxRecDepth 100000 in
set_option maxHeartbeats 4000000 in
theorem zgq (r:Raw) (x:Value) (w:World) (hv:TD w x r) (hs:Small r) (h0:r.check ≠ 0):Calls Tryz.prog 20 #[x] w (RetSm w ([],false,r.check)):=by
 have hck:=fun W (h:Below w.heap.size w W) => zkb r x W (hv.below h zn) hs
 have he:za8 r = false:=by unfold za8; simp [h0]
 rw [he] at hck
 obtain ⟨k,hk⟩:=zx r.check
 rw [<- hk] at h0 hck ⊢
 have h0':((k:Int) != 0) = true:=by rw [bne_iff_ne]; omega
 obtain ⟨A3,c3,A4,c4,rfl⟩:=hv.form
 obtain ⟨n,hn⟩:=zx r.next.length
 obtain ⟨m,hm⟩:=zx r.fin.length
 obtain ⟨i0,hV⟩:=zx r.vars
 obtain ⟨i1,hE⟩:=zx r.empty
 rw [<- hn,<- hm,<- hV,<- hE] at hck ⊢
 have HC:=zh hck
 clear hck hv hk he hn hm hV hE hs h0
 go_enter Tryz.func20,Tryz.ntmps20
 go_wp2_with (go_at_call 22; refine (HC.out _ (by go_grown)).mono ?_; rintro e w2 ⟨rfl,hb2⟩; have HB2:=zh ((Below.alloc (Below.refl _ _) zn _).trans (hb2.mono (by simp only [World.size_alloc]; omega))); clear hb2)
 go_returns
 exact ⟨_,rfl,HB2.out,TO.nil _ _⟩
set_option maxRecDepth 100000 in
set_option maxHeartbeats 4000000 in
theorem zft (r:Raw) (x:Value) (w:World) (hv:TD w x r) (hs:Small r) (h0:r.check = 0) (h1:za8 r = true):Calls Tryz.prog 20 #[x] w (RetSm w ([],false,0)):=by
 have hck:=fun W (h:Below w.heap.size w W) => zkb r x W (hv.below h zn) hs
 rw [h0,h1] at hck
 obtain ⟨A3,c3,A4,c4,rfl⟩:=hv.form
 obtain ⟨n,hn⟩:=zx r.next.length
 obtain ⟨m,hm⟩:=zx r.fin.length
 obtain ⟨i0,hV⟩:=zx r.vars
 obtain ⟨i1,hE⟩:=zx r.empty
 rw [<- hn,<- hm,<- hV,<- hE] at hck ⊢
 have HC:=zh hck
 clear hck hv h1 hn hm hV hE hs h0
 go_enter Tryz.func20,Tryz.ntmps20
 go_wp2_with (go_at_call 22; refine (HC.out _ (by go_grown)).mono ?_; rintro e w2 ⟨rfl,hb2⟩; have HB2:=zh ((Below.alloc (Below.refl _ _) zn _).trans (hb2.mono (by simp only [World.size_alloc]; omega))); clear hb2)
 go_returns
 exact ⟨_,rfl,HB2.out,TO.nil _ _⟩
def smAny (r:Raw):List Lf × Bool × Nat:=if r.check ≠ 0 then ([],false,r.check) else zas r.dta
theorem zji (r:Raw) (x:Value) (w:World) (hv:TD w x r) (hs:Small r):Calls Tryz.prog 19 #[x] w (RetSm w (smAny r)):=by
 by_cases h0:r.check = 0
 ·rw [show smAny r = zas r.dta by unfold smAny; simp [h0]]
  obtain ⟨V,hV,hd,hr⟩:=Raw.check_dta h0
  exact zcq r.dta V hd x w (by rw [<- hr]; exact hv)
 ·rw [show smAny r = ([],false,r.check) by unfold smAny; simp [h0]]
  exact zjh r x w hv hs h0
end Go.Proofs.YthkfjnmnoanhlaaGreatDoor
