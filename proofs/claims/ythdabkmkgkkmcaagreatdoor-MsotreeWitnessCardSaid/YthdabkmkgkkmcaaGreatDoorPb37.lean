/- Part 37 of the proof; it says: lemmas and contracts. No conditions but those that each theorem states. -/
import Derived.Defers
import Derived.Recover
import Derived.Test.YthdabkmkgkkmcaaGreatDoorPb01
import Derived.Test.YthdabkmkgkkmcaaGreatDoorPb36
set_option linter.unusedSimpArgs false
set_option linter.unusedVariables false
set_option maxRecDepth 100000
set_option maxHeartbeats 32000000
namespace Go.Proofs.YthdabkmkgkkmcaaGreatDoor
open Go.RowKit
theorem FI.start {S:ByteArray} {w w2 w3:World} {B g p many:Nat} {lv:Value} {l:List Mk} {xm om:Array Value} (hK:Keep (· = g) w w2) (hr2:Row w2 g 133 #[.string S,.int .i64 p,lv,.int .i64 many]) (ho:MO w B lv l) (hap:∀ b,lv.ownBlock = some b -> b ≠ g)
  (hb3:Below (w2.alloc (.cells xm 26)).heap.size (w2.alloc (.cells xm 26)) w3):FI S w B g w2.heap.size w3.heap.size lv p many lv l xm om (w3.alloc (.cells om 136)):=by
 have hx:=(Row.new w2 26 xm).below hb3 (by simp only [World.size_alloc]; omega)
 have hbb:Below w2.heap.size w2 w3:=(Below.alloc (Below.refl _ _) zn _).trans (hb3.mono (by simp only [World.size_alloc]; omega))
 have h3:=hbb.size
 have hl:=hr2.lt
 have hxl:=hx.lt
 have hks:=hK.size
 refine ⟨(hr2.below hbb hl).alloc _,hx.alloc _,Row.new _ _ _,?_,?_,⟨by omega,by omega,by omega,by omega,by omega⟩,fun b hb => ?_⟩
 ·exact (((ho.keep hK hap).below hbb zn)).below (B':=w3.heap.size) (Below.alloc (Below.refl _ _) zn _) zn
 ·refine Keep.alloc ?_ _
  exact ⟨hbb.os.trans hK.os,hbb.tape.trans hK.tape,hbb.output.trans hK.output,Nat.le_trans hK.size hbb.size,fun i hi hs => (hbb.block i (by omega)).trans (hK.block i hi fun e => hs (.inl e))⟩
 ·have:=(ho.own_lt b hb).2
  exact ⟨hap b hb,by omega,by omega,.inl hb⟩
theorem FI.err_step {S:ByteArray} {w0:World} {B g X O:Nat} {lv0:Value} {p many:Nat} {lv:Value} {l:List Mk} {xm om:Array Value} {W W':World} (h:FI S w0 B g X O lv0 p many lv l xm om W) (hB:B <= g) (ho:∀ b,lv0.ownBlock = some b -> B <= b) (hs:B <= w0.heap.size) (hk:Keep (· = g) W W'):Below B w0 W' :=
 h.below hB ho hs (hk.below_le (by have:=h.k.size; omega) fun k hk => by subst hk; exact hB)
theorem zm2 (S:ByteArray) (B g n p many p1:Nat) (l:List Mk) (lv:Value) (op:Int) (c:UInt8) (w:World) (hih:zei S B g n) (hr:Row w g 133 #[.string S,.int .i64 p,lv,.int .i64 many]) (ho:MO w B lv l) (hB:B <= g)
  (hp:p <= S.size) (hS:S.size <= 1000000) (hm:many < 64) (hn:64 <= n + many) (hl:l.length <= many) (hc:needP (bts S) (40 :: bts zan) 2 p = .ok p c) (h40:c ≠ 40) (hname:nameP (bts S) false p = .ok p1 op) (hp1:p1 <= S.size) (h1:0 <= op) (h2:op <= 255) (hv:nv op = 0) (hcc:nc op = 0) :
  Calls Tryz.prog 86 #[.pointer (some ⟨g,0,none⟩)] w (zag S B g lv l (form (bts S) (n + 1) p many) w):=by
 obtain ⟨x,hx⟩:=zx (form (bts S) (n + 1) p many)
 rw [<- hx]
 have hx2:x = .ok p1 (many + 1,.leaf op 0 0):=by
  rw [hx,za8,hc,PR.bind_ok,if_neg (by omega)]
  simp only [h40,decide_false,if_false]
  rw [hname,PR.bind_ok]
  simp only [hv,hcc]
  rfl
 clear hx
 have hneed:=fun W h => za6 S { data:=#[40,97,98,99,100,101,102,103,104,105,106,107,108,109,110,111,112,113,114,115,116,117,118,119,120,121,122] } g p lv (.int .i64 many) 2 W h hp hS
 have e0:bts { data:=#[40,97,98,99,100,101,102,103,104,105,106,107,108,109,110,111,112,113,114,115,116,117,118,119,120,121,122] } = 40 :: bts zan:=rfl
 rw [e0,hc] at hneed
 clear e0
 have hnm:=fun W h => zco S false g (p) lv (.int .i64 ((many + 1:Nat):Int)) W h (hp) hS
 rw [hname] at hnm
 have hin:((c.toNat:Int) == 40) = false:=by
  rw [beq_eq_false_iff_ne]
  intro h
  apply h40
  have:c.toNat = 40:=by omega
  exact UInt8.toNat_inj.1 this
 have hm64:((many:Int) == 64) = false:=by simp; omega
 have hap:=ho.apart hr (by decide)
 have hlb:∀ b,lv.ownBlock = some b -> B <= b:=fun b hb => (ho.own_lt b hb).1
 have hBw:B <= w.heap.size:=by have:=hr.lt; omega
 have HN:=zh hneed; have HM:=zh hnm; have HX:=zh hx2; have HR:=zh hr; have HO:=zh ho; have HAP:=zh hap; have HLB:=zh hlb; have HV:=zh hv; have HC:=zh hcc; have HIH:=zh hih
 clear hneed hnm hx2 hr ho hap hlb hv hcc hc h40 hname hih
 have rc:=HR.out.cell
 have rf:=HR.out.free
 have rl:=HR.out.lt
 have hfd:=zbw
 go_enter Tryz.func86,Tryz.ntmps86
 go_wp2_with (first
  | (go_at_call 129; refine (HN.out _ HR.out).mono ?_; rintro e w1 ⟨hb1,rfl⟩; have HB1:=zh hb1; clear hb1; have HR1:=zh (HR.out.below HB1.out HR.out.lt); have rc:=HR1.out.cell; have rf:=HR1.out.free; have rl:=HR1.out.lt)
  | (go_at_call 130; refine (HM.out _ (HR1.out.set 3 (.int .i64 ((many:Int) + 1)))).mono ?_; rintro e w2 ⟨hk2,rfl,hr2⟩; have HK2:Hid (Keep (· = g) w w2):=(Keep.set (S:=(· = g)) (Keep.of_below HB1.out zn) (p:=⟨g,3,none⟩) (.inl rfl) _).trans hk2; have HR2:=zh hr2; clear hk2 hr2 rc rf rl)
  | (go_at_call 88; refine (zaj op _ h1 h2).mono ?_; rintro e w3 ⟨rfl,hb3⟩; rw [HV.out,HC.out]; have hi:=FI.start (S:=S) (om:=#[.string { data:=(nm op).toArray },.int .i64 0,.int .i64 0]) HK2.out HR2.out HO.out HAP.out hb3; obtain ⟨x0,x1,hz1,HB3⟩:=za9 hb3; have hr3:=HR2.out.below HB3.out HR2.out.lt; have rc:=hr3.cell; have rf:=hr3.free; have rl:=hr3.lt; clear hr3 hb3; have HI:=zh hi; clear hi))
 all_goals first
  | exact ⟨rfl,zag.err HERR.out HBE.out⟩
  | skip
 go_region_law (refine zau rfl (.tmp 77) (.tmp 79) rfl B _ l rfl ((HI.out).own.below (by go_grown) zn) _ [⟨op,0,0,0,0⟩] rfl (MS.one (by first | exact Row.new _ _ _ | exact Row.litd (by simp)) h1 h2) (by simp only [List.length_append,Tr.enc_len,List.length_singleton]; omega) (by simp only [World.size_alloc,World.size_drew]; have:=(HI.out).r.lt; omega) (l.length + 1) (by simp only [List.length_append,Tr.enc_len,List.length_singleton]) ?_; intro A6 c6 w6 ho6 hg6 ht6; have hr6:=(HI.out).mid (by go_grown) hg6; have y0:=hr6.cell; have y1:=hr6.free; have y2:=hr6.lt)
 all_goals
  go_wp2
  go_returns
  obtain ⟨f1,f2,f3,f4⟩:=(HI.out).finish (by go_grown) hg6 ho6 ht6
  refine zag.ok (q:=p1) (a:=(many + 1,.leaf op 0 0)) HX.out ?_ f1 f2 f3 f4
  exact zao (by simp only [List.length_append,Tr.enc_len,Tr.size]; omega)
theorem zmz (S:ByteArray) (B g n p many p1:Nat) (l:List Mk) (lv:Value) (op:Int) (c:UInt8) (w:World) (hih:zei S B g n) (hr:Row w g 133 #[.string S,.int .i64 p,lv,.int .i64 many]) (ho:MO w B lv l) (hB:B <= g)
  (hp:p <= S.size) (hS:S.size <= 1000000) (hm:many < 64) (hn:64 <= n + many) (hl:l.length <= many) (hc:needP (bts S) (40 :: bts zan) 2 p = .ok p c) (h40:c = 40) (hname:nameP (bts S) true (p + 1) = .ok p1 op) (hp1:p1 <= S.size) (h1:0 <= op) (h2:op <= 255) (hv:nv op = 1) (hcc:nc op = 0) :
  Calls Tryz.prog 86 #[.pointer (some ⟨g,0,none⟩)] w (zag S B g lv l (form (bts S) (n + 1) p many) w):=by
 obtain ⟨x,hx⟩:=zx (form (bts S) (n + 1) p many)
 rw [<- hx]
 have hx2:x = (varP (bts S) p1).bind fun p x => (pastP (bts S) 41 p).bind fun p _ => .ok p (many + 1,.leaf op x 0):=by
  rw [hx,za8,hc,PR.bind_ok,if_neg (by omega)]
  subst h40
  simp only [decide_true,if_true]
  rw [hname,PR.bind_ok]
  simp only [hv,hcc]
  rfl
 clear hx
 have hneed:=fun W h => za6 S { data:=#[40,97,98,99,100,101,102,103,104,105,106,107,108,109,110,111,112,113,114,115,116,117,118,119,120,121,122] } g p lv (.int .i64 many) 2 W h hp hS
 have e0:bts { data:=#[40,97,98,99,100,101,102,103,104,105,106,107,108,109,110,111,112,113,114,115,116,117,118,119,120,121,122] } = 40 :: bts zan:=rfl
 rw [e0,hc] at hneed
 clear e0
 have hnm:=fun W h => zco S true g (p + 1) lv (.int .i64 ((many + 1:Nat):Int)) W h (by
  have:=(za3 hc).2.1
  have:=(List.getElem?_eq_some_iff.1 this).1
  rw [zab] at this
  omega) hS
 rw [hname] at hnm
 have hin:((c.toNat:Int) == 40) = true:=by subst h40; rfl
 have hm64:((many:Int) == 64) = false:=by simp; omega
 have hap:=ho.apart hr (by decide)
 have hlb:∀ b,lv.ownBlock = some b -> B <= b:=fun b hb => (ho.own_lt b hb).1
 have hBw:B <= w.heap.size:=by have:=hr.lt; omega
 have HN:=zh hneed; have HM:=zh hnm; have HX:=zh hx2; have HR:=zh hr; have HO:=zh ho; have HAP:=zh hap; have HLB:=zh hlb; have HV:=zh hv; have HC:=zh hcc; have HIH:=zh hih
 clear hneed hnm hx2 hr ho hap hlb hv hcc hc h40 hname hih
 have rc:=HR.out.cell
 have rf:=HR.out.free
 have rl:=HR.out.lt
 have hfd:=zbw
 go_enter Tryz.func86,Tryz.ntmps86
 go_wp2_with (first
  | (go_at_call 129; refine (HN.out _ HR.out).mono ?_; rintro e w1 ⟨hb1,rfl⟩; have HB1:=zh hb1; clear hb1; have HR1:=zh (HR.out.below HB1.out HR.out.lt); have rc:=HR1.out.cell; have rf:=HR1.out.free; have rl:=HR1.out.lt)
  | (go_at_call 130; refine (HM.out _ ((HR1.out.set 3 (.int .i64 ((many:Int) + 1))).set 1 (.int .i64 ((p:Int) + 1)))).mono ?_; rintro e w2 ⟨hk2,rfl,hr2⟩; have HK2:Hid (Keep (· = g) w w2):=(Keep.set (S:=(· = g)) (Keep.set (S:=(· = g)) (Keep.of_below HB1.out zn) (p:=⟨g,3,none⟩) (.inl rfl) _) (p:=⟨g,1,none⟩) (.inl rfl) _).trans hk2; have HR2:=zh hr2; clear hk2 hr2 rc rf rl)
  | (go_at_call 88; refine (zaj op _ h1 h2).mono ?_; rintro e w3 ⟨rfl,hb3⟩; rw [HV.out,HC.out]; have hi:=FI.start (S:=S) (om:=#[.string { data:=(nm op).toArray },.int .i64 1,.int .i64 0]) HK2.out HR2.out HO.out HAP.out hb3; obtain ⟨x0,x1,hz1,HB3⟩:=za9 hb3; have hr3:=HR2.out.below HB3.out HR2.out.lt; have rc:=hr3.cell; have rf:=hr3.free; have rl:=hr3.lt; clear hr3 hb3; have HI:=zh hi; clear hi)
  | (go_at_call 131; (with_reducible refine (zcl S g _ _ _ _ (HI.out).r hp1 hS).mono ?_); intro e w4 hpost; rcases hpost.split with ⟨q4,vx,hx4,rfl,hk,hr⟩ | ⟨q4,k,hx4,rfl,hk⟩ <;> first | (have HI4:=zh ((HI.out).step hk hr); clear rc rf rl x0 x1; have rc:=HI4.out.r.cell; have rf:=HI4.out.r.free; have rl:=HI4.out.r.lt; have x0:=HI4.out.x.cell; have x1:=HI4.out.x.free; have o0:=HI4.out.o.cell; have o1:=HI4.out.o.lt; have o2:=HI4.out.x.lt; have HI4q:q4 <= S.size:=(by have h:=zdl (s:=bts S) (p:=p1) (by rw [zab]; assumption); rw [hx4,zab] at h; exact h.2.1); have hx:=HX.out; rw [hx4,PR.bind_ok] at hx; clear HX; have HX:=zh hx; clear hx hx4 hk hr) | (have HERR:Hid (x = .err q4 k):=(by unfold Hid; rw [HX.out,hx4]; rfl); have HBE:=zh ((HI.out).err_step hB HLB.out hBw hk)))
  | (go_at_call 132; (with_reducible refine (zbq S 41 g _ _ _ _ ((HI4.out.set 1 (.int .i64 vx))).r HI4q hS).mono ?_); intro e w5 hpost; rcases hpost.split with ⟨q5,_,hx5,rfl,hk,hr⟩ | ⟨q5,k,hx5,rfl,hk⟩ <;> first | (have HI5:=zh (((HI4.out.set 1 (.int .i64 vx))).step hk hr); clear rc rf rl x0 x1 o0 o1 o2; have rc:=HI5.out.r.cell; have rf:=HI5.out.r.free; have rl:=HI5.out.r.lt; have x0:=HI5.out.x.cell; have x1:=HI5.out.x.free; have o0:=HI5.out.o.cell; have o1:=HI5.out.o.lt; have o2:=HI5.out.x.lt; have HI5q:q5 <= S.size:=(by have h:=zal (s:=bts S) 41 (p:=q4) (by rw [zab]; assumption); rw [hx5,zab] at h; exact h.2.1); have hx:=HX.out; rw [hx5,PR.bind_ok] at hx; clear HX; have HX:=zh hx; clear hx hx5 hk hr) | (have HERR:Hid (x = .err q5 k):=(by unfold Hid; rw [HX.out,hx5]; rfl); have HBE:=zh (((HI4.out.set 1 (.int .i64 vx))).err_step hB HLB.out hBw hk))))
 all_goals first
  | exact ⟨rfl,zag.err HERR.out HBE.out⟩
  | skip
 go_region_law (refine zau rfl (.tmp 77) (.tmp 79) rfl B _ l rfl ((HI5.out).own.below (by go_grown) zn) _ [⟨op,vx,0,0,0⟩] rfl (MS.one (by first | exact Row.new _ _ _ | exact Row.litd (by simp)) h1 h2) (by simp only [List.length_append,Tr.enc_len,List.length_singleton]; omega) (by simp only [World.size_alloc,World.size_drew]; have:=(HI5.out).r.lt; omega) (l.length + 1) (by simp only [List.length_append,Tr.enc_len,List.length_singleton]) ?_; intro A6 c6 w6 ho6 hg6 ht6; have hr6:=(HI5.out).mid (by go_grown) hg6; have y0:=hr6.cell; have y1:=hr6.free; have y2:=hr6.lt)
 all_goals
  go_wp2
  go_returns
  obtain ⟨f1,f2,f3,f4⟩:=(HI5.out).finish (by go_grown) hg6 ho6 ht6
  refine zag.ok (q:=q5) (a:=(many + 1,.leaf op vx 0)) HX.out ?_ f1 f2 f3 f4
  exact zao (by simp only [List.length_append,Tr.enc_len,Tr.size]; omega)
theorem zmx (S:ByteArray) (B g n p many p1:Nat) (l:List Mk) (lv:Value) (op:Int) (c:UInt8) (w:World) (hih:zei S B g n) (hr:Row w g 133 #[.string S,.int .i64 p,lv,.int .i64 many]) (ho:MO w B lv l) (hB:B <= g)
  (hp:p <= S.size) (hS:S.size <= 1000000) (hm:many < 64) (hn:64 <= n + many) (hl:l.length <= many) (hc:needP (bts S) (40 :: bts zan) 2 p = .ok p c) (h40:c = 40) (hname:nameP (bts S) true (p + 1) = .ok p1 op) (hp1:p1 <= S.size) (h1:0 <= op) (h2:op <= 255) (hv:nv op = 2) (hcc:nc op = 0) :
  Calls Tryz.prog 86 #[.pointer (some ⟨g,0,none⟩)] w (zag S B g lv l (form (bts S) (n + 1) p many) w):=by
 obtain ⟨x,hx⟩:=zx (form (bts S) (n + 1) p many)
 rw [<- hx]
 have hx2:x = (varP (bts S) p1).bind fun p x => (varP (bts S) p).bind fun p y => (pastP (bts S) 41 p).bind fun p _ => .ok p (many + 1,.leaf op x y):=by
  rw [hx,za8,hc,PR.bind_ok,if_neg (by omega)]
  subst h40
  simp only [decide_true,if_true]
  rw [hname,PR.bind_ok]
  simp only [hv,hcc]
  rfl
 clear hx
 have hneed:=fun W h => za6 S { data:=#[40,97,98,99,100,101,102,103,104,105,106,107,108,109,110,111,112,113,114,115,116,117,118,119,120,121,122] } g p lv (.int .i64 many) 2 W h hp hS
 have e0:bts { data:=#[40,97,98,99,100,101,102,103,104,105,106,107,108,109,110,111,112,113,114,115,116,117,118,119,120,121,122] } = 40 :: bts zan:=rfl
 rw [e0,hc] at hneed
 clear e0
 have hnm:=fun W h => zco S true g (p + 1) lv (.int .i64 ((many + 1:Nat):Int)) W h (by
  have:=(za3 hc).2.1
  have:=(List.getElem?_eq_some_iff.1 this).1
  rw [zab] at this
  omega) hS
 rw [hname] at hnm
 have hin:((c.toNat:Int) == 40) = true:=by subst h40; rfl
 have hm64:((many:Int) == 64) = false:=by simp; omega
 have hap:=ho.apart hr (by decide)
 have hlb:∀ b,lv.ownBlock = some b -> B <= b:=fun b hb => (ho.own_lt b hb).1
 have hBw:B <= w.heap.size:=by have:=hr.lt; omega
 have HN:=zh hneed; have HM:=zh hnm; have HX:=zh hx2; have HR:=zh hr; have HO:=zh ho; have HAP:=zh hap; have HLB:=zh hlb; have HV:=zh hv; have HC:=zh hcc; have HIH:=zh hih
 clear hneed hnm hx2 hr ho hap hlb hv hcc hc h40 hname hih
 have rc:=HR.out.cell
 have rf:=HR.out.free
 have rl:=HR.out.lt
 have hfd:=zbw
 go_enter Tryz.func86,Tryz.ntmps86
 go_wp2_with (first
  | (go_at_call 129; refine (HN.out _ HR.out).mono ?_; rintro e w1 ⟨hb1,rfl⟩; have HB1:=zh hb1; clear hb1; have HR1:=zh (HR.out.below HB1.out HR.out.lt); have rc:=HR1.out.cell; have rf:=HR1.out.free; have rl:=HR1.out.lt)
  | (go_at_call 130; refine (HM.out _ ((HR1.out.set 3 (.int .i64 ((many:Int) + 1))).set 1 (.int .i64 ((p:Int) + 1)))).mono ?_; rintro e w2 ⟨hk2,rfl,hr2⟩; have HK2:Hid (Keep (· = g) w w2):=(Keep.set (S:=(· = g)) (Keep.set (S:=(· = g)) (Keep.of_below HB1.out zn) (p:=⟨g,3,none⟩) (.inl rfl) _) (p:=⟨g,1,none⟩) (.inl rfl) _).trans hk2; have HR2:=zh hr2; clear hk2 hr2 rc rf rl)
  | (go_at_call 88; refine (zaj op _ h1 h2).mono ?_; rintro e w3 ⟨rfl,hb3⟩; rw [HV.out,HC.out]; have hi:=FI.start (S:=S) (om:=#[.string { data:=(nm op).toArray },.int .i64 2,.int .i64 0]) HK2.out HR2.out HO.out HAP.out hb3; obtain ⟨x0,x1,hz1,HB3⟩:=za9 hb3; have hr3:=HR2.out.below HB3.out HR2.out.lt; have rc:=hr3.cell; have rf:=hr3.free; have rl:=hr3.lt; clear hr3 hb3; have HI:=zh hi; clear hi)
  | (go_at_call 131; (with_reducible refine (zcl S g _ _ _ _ (HI.out).r hp1 hS).mono ?_); intro e w4 hpost; rcases hpost.split with ⟨q4,vx,hx4,rfl,hk,hr⟩ | ⟨q4,k,hx4,rfl,hk⟩ <;> first | (have HI4:=zh ((HI.out).step hk hr); clear rc rf rl x0 x1; have rc:=HI4.out.r.cell; have rf:=HI4.out.r.free; have rl:=HI4.out.r.lt; have x0:=HI4.out.x.cell; have x1:=HI4.out.x.free; have o0:=HI4.out.o.cell; have o1:=HI4.out.o.lt; have o2:=HI4.out.x.lt; have HI4q:q4 <= S.size:=(by have h:=zdl (s:=bts S) (p:=p1) (by rw [zab]; assumption); rw [hx4,zab] at h; exact h.2.1); have hx:=HX.out; rw [hx4,PR.bind_ok] at hx; clear HX; have HX:=zh hx; clear hx hx4 hk hr) | (have HERR:Hid (x = .err q4 k):=(by unfold Hid; rw [HX.out,hx4]; rfl); have HBE:=zh ((HI.out).err_step hB HLB.out hBw hk)))
  | (go_at_call 131; (with_reducible refine (zcl S g _ _ _ _ ((HI4.out.set 1 (.int .i64 vx))).r HI4q hS).mono ?_); intro e w5 hpost; rcases hpost.split with ⟨q5,vy,hx5,rfl,hk,hr⟩ | ⟨q5,k,hx5,rfl,hk⟩ <;> first | (have HI5:=zh (((HI4.out.set 1 (.int .i64 vx))).step hk hr); clear rc rf rl x0 x1 o0 o1 o2; have rc:=HI5.out.r.cell; have rf:=HI5.out.r.free; have rl:=HI5.out.r.lt; have x0:=HI5.out.x.cell; have x1:=HI5.out.x.free; have o0:=HI5.out.o.cell; have o1:=HI5.out.o.lt; have o2:=HI5.out.x.lt; have HI5q:q5 <= S.size:=(by have h:=zdl (s:=bts S) (p:=q4) (by rw [zab]; assumption); rw [hx5,zab] at h; exact h.2.1); have hx:=HX.out; rw [hx5,PR.bind_ok] at hx; clear HX; have HX:=zh hx; clear hx hx5 hk hr) | (have HERR:Hid (x = .err q5 k):=(by unfold Hid; rw [HX.out,hx5]; rfl); have HBE:=zh (((HI4.out.set 1 (.int .i64 vx))).err_step hB HLB.out hBw hk)))
  | (go_at_call 132; (with_reducible refine (zbq S 41 g _ _ _ _ ((HI5.out.set 2 (.int .i64 vy))).r HI5q hS).mono ?_); intro e w6 hpost; rcases hpost.split with ⟨q6,_,hx6,rfl,hk,hr⟩ | ⟨q6,k,hx6,rfl,hk⟩ <;> first | (have HI6:=zh (((HI5.out.set 2 (.int .i64 vy))).step hk hr); clear rc rf rl x0 x1 o0 o1 o2; have rc:=HI6.out.r.cell; have rf:=HI6.out.r.free; have rl:=HI6.out.r.lt; have x0:=HI6.out.x.cell; have x1:=HI6.out.x.free; have o0:=HI6.out.o.cell; have o1:=HI6.out.o.lt; have o2:=HI6.out.x.lt; have HI6q:q6 <= S.size:=(by have h:=zal (s:=bts S) 41 (p:=q5) (by rw [zab]; assumption); rw [hx6,zab] at h; exact h.2.1); have hx:=HX.out; rw [hx6,PR.bind_ok] at hx; clear HX; have HX:=zh hx; clear hx hx6 hk hr) | (have HERR:Hid (x = .err q6 k):=(by unfold Hid; rw [HX.out,hx6]; rfl); have HBE:=zh (((HI5.out.set 2 (.int .i64 vy))).err_step hB HLB.out hBw hk))))
 all_goals first
  | exact ⟨rfl,zag.err HERR.out HBE.out⟩
  | skip
 go_region_law (refine zau rfl (.tmp 77) (.tmp 79) rfl B _ l rfl ((HI6.out).own.below (by go_grown) zn) _ [⟨op,vx,vy,0,0⟩] rfl (MS.one (by first | exact Row.new _ _ _ | exact Row.litd (by simp)) h1 h2) (by simp only [List.length_append,Tr.enc_len,List.length_singleton]; omega) (by simp only [World.size_alloc,World.size_drew]; have:=(HI6.out).r.lt; omega) (l.length + 1) (by simp only [List.length_append,Tr.enc_len,List.length_singleton]) ?_; intro A6 c6 w6 ho6 hg6 ht6; have hr6:=(HI6.out).mid (by go_grown) hg6; have y0:=hr6.cell; have y1:=hr6.free; have y2:=hr6.lt)
 all_goals
  go_wp2
  go_returns
  obtain ⟨f1,f2,f3,f4⟩:=(HI6.out).finish (by go_grown) hg6 ho6 ht6
  refine zag.ok (q:=q6) (a:=(many + 1,.leaf op vx vy)) HX.out ?_ f1 f2 f3 f4
  exact zao (by simp only [List.length_append,Tr.enc_len,Tr.size]; omega)
theorem zm1 (S:ByteArray) (B g n p many p1:Nat) (l:List Mk) (lv:Value) (op:Int) (c:UInt8) (w:World) (hih:zei S B g n) (hr:Row w g 133 #[.string S,.int .i64 p,lv,.int .i64 many]) (ho:MO w B lv l) (hB:B <= g)
  (hp:p <= S.size) (hS:S.size <= 1000000) (hm:many < 64) (hn:64 <= n + many) (hl:l.length <= many) (hc:needP (bts S) (40 :: bts zan) 2 p = .ok p c) (h40:c = 40) (hname:nameP (bts S) true (p + 1) = .ok p1 op) (hp1:p1 <= S.size) (h1:0 <= op) (h2:op <= 255) (hv:nv op = 0) (hcc:nc op = 1) :
  Calls Tryz.prog 86 #[.pointer (some ⟨g,0,none⟩)] w (zag S B g lv l (form (bts S) (n + 1) p many) w):=by
 obtain ⟨x,hx⟩:=zx (form (bts S) (n + 1) p many)
 rw [<- hx]
 have hx2:x = (pastP (bts S) 32 p1).bind fun p _ => (form (bts S) n p (many + 1)).bind fun p a => (pastP (bts S) 41 p).bind fun p _ => .ok p (a.1,.un op 0 a.2):=by
  rw [hx,za8,hc,PR.bind_ok,if_neg (by omega)]
  subst h40
  simp only [decide_true,if_true]
  rw [hname,PR.bind_ok]
  simp only [hv,hcc]
  rfl
 clear hx
 have hneed:=fun W h => za6 S { data:=#[40,97,98,99,100,101,102,103,104,105,106,107,108,109,110,111,112,113,114,115,116,117,118,119,120,121,122] } g p lv (.int .i64 many) 2 W h hp hS
 have e0:bts { data:=#[40,97,98,99,100,101,102,103,104,105,106,107,108,109,110,111,112,113,114,115,116,117,118,119,120,121,122] } = 40 :: bts zan:=rfl
 rw [e0,hc] at hneed
 clear e0
 have hnm:=fun W h => zco S true g (p + 1) lv (.int .i64 ((many + 1:Nat):Int)) W h (by
  have:=(za3 hc).2.1
  have:=(List.getElem?_eq_some_iff.1 this).1
  rw [zab] at this
  omega) hS
 rw [hname] at hnm
 have hin:((c.toNat:Int) == 40) = true:=by subst h40; rfl
 have hm64:((many:Int) == 64) = false:=by simp; omega
 have hap:=ho.apart hr (by decide)
 have hlb:∀ b,lv.ownBlock = some b -> B <= b:=fun b hb => (ho.own_lt b hb).1
 have hBw:B <= w.heap.size:=by have:=hr.lt; omega
 have HN:=zh hneed; have HM:=zh hnm; have HX:=zh hx2; have HR:=zh hr; have HO:=zh ho; have HAP:=zh hap; have HLB:=zh hlb; have HV:=zh hv; have HC:=zh hcc; have HIH:=zh hih
 clear hneed hnm hx2 hr ho hap hlb hv hcc hc h40 hname hih
 have rc:=HR.out.cell
 have rf:=HR.out.free
 have rl:=HR.out.lt
 have hfd:=zbw
 go_enter Tryz.func86,Tryz.ntmps86
 go_wp2_with (first
  | (go_at_call 129; refine (HN.out _ HR.out).mono ?_; rintro e w1 ⟨hb1,rfl⟩; have HB1:=zh hb1; clear hb1; have HR1:=zh (HR.out.below HB1.out HR.out.lt); have rc:=HR1.out.cell; have rf:=HR1.out.free; have rl:=HR1.out.lt)
  | (go_at_call 130; refine (HM.out _ ((HR1.out.set 3 (.int .i64 ((many:Int) + 1))).set 1 (.int .i64 ((p:Int) + 1)))).mono ?_; rintro e w2 ⟨hk2,rfl,hr2⟩; have HK2:Hid (Keep (· = g) w w2):=(Keep.set (S:=(· = g)) (Keep.set (S:=(· = g)) (Keep.of_below HB1.out zn) (p:=⟨g,3,none⟩) (.inl rfl) _) (p:=⟨g,1,none⟩) (.inl rfl) _).trans hk2; have HR2:=zh hr2; clear hk2 hr2 rc rf rl)
  | (go_at_call 88; refine (zaj op _ h1 h2).mono ?_; rintro e w3 ⟨rfl,hb3⟩; rw [HV.out,HC.out]; have hi:=FI.start (S:=S) (om:=#[.string { data:=(nm op).toArray },.int .i64 0,.int .i64 1]) HK2.out HR2.out HO.out HAP.out hb3; obtain ⟨x0,x1,hz1,HB3⟩:=za9 hb3; have hr3:=HR2.out.below HB3.out HR2.out.lt; have rc:=hr3.cell; have rf:=hr3.free; have rl:=hr3.lt; clear hr3 hb3; have HI:=zh hi; clear hi)
  | (go_at_call 132; (with_reducible refine (zbq S 32 g _ _ _ _ (HI.out).r hp1 hS).mono ?_); intro e w4 hpost; rcases hpost.split with ⟨q4,_,hx4,rfl,hk,hr⟩ | ⟨q4,k,hx4,rfl,hk⟩ <;> first | (have HI4:=zh ((HI.out).step hk hr); clear rc rf rl x0 x1; have rc:=HI4.out.r.cell; have rf:=HI4.out.r.free; have rl:=HI4.out.r.lt; have x0:=HI4.out.x.cell; have x1:=HI4.out.x.free; have o0:=HI4.out.o.cell; have o1:=HI4.out.o.lt; have o2:=HI4.out.x.lt; have HI4q:q4 <= S.size:=(by have h:=zal (s:=bts S) 32 (p:=p1) (by rw [zab]; assumption); rw [hx4,zab] at h; exact h.2.1); have hx:=HX.out; rw [hx4,PR.bind_ok] at hx; clear HX; have HX:=zh hx; clear hx hx4 hk hr) | (have HERR:Hid (x = .err q4 k):=(by unfold Hid; rw [HX.out,hx4]; rfl); have HBE:=zh ((HI.out).err_step hB HLB.out hBw hk)))
  | (go_at_call 86; (with_reducible refine (HIH.out _ _ _ _ _ (HI4.out).r (HI4.out).own HI4q (by omega) (by omega) (by omega)).mono ?_); intro e w5 hpost; rcases hpost.split with ⟨q5,a,lv5,hx5,rfl,hk,hr,ho,hlo⟩ | ⟨q5,k,hx5,rfl,hb⟩ <;> first | (have HI5:=zh ((HI4.out).child hk hr ho hlo); clear rc rf rl x0 x1 o0 o1 o2; have rc:=HI5.out.r.cell; have rf:=HI5.out.r.free; have rl:=HI5.out.r.lt; have x0:=HI5.out.x.cell; have x1:=HI5.out.x.free; have o0:=HI5.out.o.cell; have o1:=HI5.out.o.lt; have o2:=HI5.out.x.lt; have hg:=zey (bts S) n _ (many + 1) (by rw [zab]; exact HI4q) (by omega) (by omega); rw [hx5,zab] at hg; obtain ⟨_,HI5q,HI5k,HI5m,HI5l,_⟩:=hg; have HI5s:=a.2.size_pos; have HX0:=HX.out; rw [hx5,PR.bind_ok] at HX0; clear HX; have HX:=zh HX0; have HI5K:=zh HI5k; clear HX0 hx5 hk hr ho hlo HI5k) | (have HERR:Hid (x = .err q5 k):=(by unfold Hid; rw [HX.out,hx5]; rfl); have HBE:=zh ((HI4.out).below hB HLB.out hBw hb)))
  | (go_at_call 132; (with_reducible refine (zbq S 41 g _ _ _ _ ((HI5.out.set 3 (.int .i64 ((l.length:Int) + a.2.size - 1)))).r HI5q hS).mono ?_); intro e w6 hpost; rcases hpost.split with ⟨q6,_,hx6,rfl,hk,hr⟩ | ⟨q6,k,hx6,rfl,hk⟩ <;> first | (have HI6:=zh (((HI5.out.set 3 (.int .i64 ((l.length:Int) + a.2.size - 1)))).step hk hr); clear rc rf rl x0 x1 o0 o1 o2; have rc:=HI6.out.r.cell; have rf:=HI6.out.r.free; have rl:=HI6.out.r.lt; have x0:=HI6.out.x.cell; have x1:=HI6.out.x.free; have o0:=HI6.out.o.cell; have o1:=HI6.out.o.lt; have o2:=HI6.out.x.lt; have HI6q:q6 <= S.size:=(by have h:=zal (s:=bts S) 41 (p:=q5) (by rw [zab]; assumption); rw [hx6,zab] at h; exact h.2.1); have hx:=HX.out; rw [hx6,PR.bind_ok] at hx; clear HX; have HX:=zh hx; clear hx hx6 hk hr) | (have HERR:Hid (x = .err q6 k):=(by unfold Hid; rw [HX.out,hx6]; rfl); have HBE:=zh (((HI5.out.set 3 (.int .i64 ((l.length:Int) + a.2.size - 1)))).err_step hB HLB.out hBw hk))))
 all_goals first
  | exact ⟨rfl,zag.err HERR.out HBE.out⟩
  | skip
 go_region_law (refine zau rfl (.tmp 77) (.tmp 79) rfl B _ (l ++ a.2.enc l.length) rfl ((HI6.out).own.below (by go_grown) zn) _ [⟨op,0,0,((l.length:Int) + a.2.size - 1),0⟩] rfl (MS.one (by first | exact Row.new _ _ _ | exact Row.litd (by simp)) h1 h2) (by simp only [List.length_append,Tr.enc_len,List.length_singleton]; omega) (by simp only [World.size_alloc,World.size_drew]; have:=(HI6.out).r.lt; omega) (l.length + a.2.size + 1) (by simp only [List.length_append,Tr.enc_len,List.length_singleton]) ?_; intro A6 c6 w6 ho6 hg6 ht6; have hr6:=(HI6.out).mid (by go_grown) hg6; have y0:=hr6.cell; have y1:=hr6.free; have y2:=hr6.lt)
 all_goals
  go_wp2
  go_returns
  obtain ⟨f1,f2,f3,f4⟩:=(HI6.out).finish (by go_grown) hg6 ho6 ht6
  refine zag.ok (q:=q6) (a:=(a.1,.un op 0 a.2)) HX.out ?_ f1 f2 (by have e:((l.length:Int) + a.2.size - 1) = ((l.length + a.2.size - 1:Nat):Int):=(by have:=a.2.size_pos; omega); rw [e,List.append_assoc] at f3; exact f3) f4
  exact zao (by simp only [List.length_append,Tr.enc_len,Tr.size]; omega)
theorem zmy (S:ByteArray) (B g n p many p1:Nat) (l:List Mk) (lv:Value) (op:Int) (c:UInt8) (w:World) (hih:zei S B g n) (hr:Row w g 133 #[.string S,.int .i64 p,lv,.int .i64 many]) (ho:MO w B lv l) (hB:B <= g)
  (hp:p <= S.size) (hS:S.size <= 1000000) (hm:many < 64) (hn:64 <= n + many) (hl:l.length <= many) (hc:needP (bts S) (40 :: bts zan) 2 p = .ok p c) (h40:c = 40) (hname:nameP (bts S) true (p + 1) = .ok p1 op) (hp1:p1 <= S.size) (h1:0 <= op) (h2:op <= 255) (hv:nv op = 1) (hcc:nc op = 1) :
  Calls Tryz.prog 86 #[.pointer (some ⟨g,0,none⟩)] w (zag S B g lv l (form (bts S) (n + 1) p many) w):=by
 obtain ⟨x,hx⟩:=zx (form (bts S) (n + 1) p many)
 rw [<- hx]
 have hx2:x = (varP (bts S) p1).bind fun p x => (pastP (bts S) 32 p).bind fun p _ => (form (bts S) n p (many + 1)).bind fun p a => (pastP (bts S) 41 p).bind fun p _ => .ok p (a.1,.un op x a.2):=by
  rw [hx,za8,hc,PR.bind_ok,if_neg (by omega)]
  subst h40
  simp only [decide_true,if_true]
  rw [hname,PR.bind_ok]
  simp only [hv,hcc]
  rfl
 clear hx
 have hneed:=fun W h => za6 S { data:=#[40,97,98,99,100,101,102,103,104,105,106,107,108,109,110,111,112,113,114,115,116,117,118,119,120,121,122] } g p lv (.int .i64 many) 2 W h hp hS
 have e0:bts { data:=#[40,97,98,99,100,101,102,103,104,105,106,107,108,109,110,111,112,113,114,115,116,117,118,119,120,121,122] } = 40 :: bts zan:=rfl
 rw [e0,hc] at hneed
 clear e0
 have hnm:=fun W h => zco S true g (p + 1) lv (.int .i64 ((many + 1:Nat):Int)) W h (by
  have:=(za3 hc).2.1
  have:=(List.getElem?_eq_some_iff.1 this).1
  rw [zab] at this
  omega) hS
 rw [hname] at hnm
 have hin:((c.toNat:Int) == 40) = true:=by subst h40; rfl
 have hm64:((many:Int) == 64) = false:=by simp; omega
 have hap:=ho.apart hr (by decide)
 have hlb:∀ b,lv.ownBlock = some b -> B <= b:=fun b hb => (ho.own_lt b hb).1
 have hBw:B <= w.heap.size:=by have:=hr.lt; omega
 have HN:=zh hneed; have HM:=zh hnm; have HX:=zh hx2; have HR:=zh hr; have HO:=zh ho; have HAP:=zh hap; have HLB:=zh hlb; have HV:=zh hv; have HC:=zh hcc; have HIH:=zh hih
 clear hneed hnm hx2 hr ho hap hlb hv hcc hc h40 hname hih
 have rc:=HR.out.cell
 have rf:=HR.out.free
 have rl:=HR.out.lt
 have hfd:=zbw
 go_enter Tryz.func86,Tryz.ntmps86
 go_wp2_with (first
  | (go_at_call 129; refine (HN.out _ HR.out).mono ?_; rintro e w1 ⟨hb1,rfl⟩; have HB1:=zh hb1; clear hb1; have HR1:=zh (HR.out.below HB1.out HR.out.lt); have rc:=HR1.out.cell; have rf:=HR1.out.free; have rl:=HR1.out.lt)
  | (go_at_call 130; refine (HM.out _ ((HR1.out.set 3 (.int .i64 ((many:Int) + 1))).set 1 (.int .i64 ((p:Int) + 1)))).mono ?_; rintro e w2 ⟨hk2,rfl,hr2⟩; have HK2:Hid (Keep (· = g) w w2):=(Keep.set (S:=(· = g)) (Keep.set (S:=(· = g)) (Keep.of_below HB1.out zn) (p:=⟨g,3,none⟩) (.inl rfl) _) (p:=⟨g,1,none⟩) (.inl rfl) _).trans hk2; have HR2:=zh hr2; clear hk2 hr2 rc rf rl)
  | (go_at_call 88; refine (zaj op _ h1 h2).mono ?_; rintro e w3 ⟨rfl,hb3⟩; rw [HV.out,HC.out]; have hi:=FI.start (S:=S) (om:=#[.string { data:=(nm op).toArray },.int .i64 1,.int .i64 1]) HK2.out HR2.out HO.out HAP.out hb3; obtain ⟨x0,x1,hz1,HB3⟩:=za9 hb3; have hr3:=HR2.out.below HB3.out HR2.out.lt; have rc:=hr3.cell; have rf:=hr3.free; have rl:=hr3.lt; clear hr3 hb3; have HI:=zh hi; clear hi)
  | (go_at_call 131; (with_reducible refine (zcl S g _ _ _ _ (HI.out).r hp1 hS).mono ?_); intro e w4 hpost; rcases hpost.split with ⟨q4,vx,hx4,rfl,hk,hr⟩ | ⟨q4,k,hx4,rfl,hk⟩ <;> first | (have HI4:=zh ((HI.out).step hk hr); clear rc rf rl x0 x1; have rc:=HI4.out.r.cell; have rf:=HI4.out.r.free; have rl:=HI4.out.r.lt; have x0:=HI4.out.x.cell; have x1:=HI4.out.x.free; have o0:=HI4.out.o.cell; have o1:=HI4.out.o.lt; have o2:=HI4.out.x.lt; have HI4q:q4 <= S.size:=(by have h:=zdl (s:=bts S) (p:=p1) (by rw [zab]; assumption); rw [hx4,zab] at h; exact h.2.1); have hx:=HX.out; rw [hx4,PR.bind_ok] at hx; clear HX; have HX:=zh hx; clear hx hx4 hk hr) | (have HERR:Hid (x = .err q4 k):=(by unfold Hid; rw [HX.out,hx4]; rfl); have HBE:=zh ((HI.out).err_step hB HLB.out hBw hk)))
  | (go_at_call 132; (with_reducible refine (zbq S 32 g _ _ _ _ ((HI4.out.set 1 (.int .i64 vx))).r HI4q hS).mono ?_); intro e w5 hpost; rcases hpost.split with ⟨q5,_,hx5,rfl,hk,hr⟩ | ⟨q5,k,hx5,rfl,hk⟩ <;> first | (have HI5:=zh (((HI4.out.set 1 (.int .i64 vx))).step hk hr); clear rc rf rl x0 x1 o0 o1 o2; have rc:=HI5.out.r.cell; have rf:=HI5.out.r.free; have rl:=HI5.out.r.lt; have x0:=HI5.out.x.cell; have x1:=HI5.out.x.free; have o0:=HI5.out.o.cell; have o1:=HI5.out.o.lt; have o2:=HI5.out.x.lt; have HI5q:q5 <= S.size:=(by have h:=zal (s:=bts S) 32 (p:=q4) (by rw [zab]; assumption); rw [hx5,zab] at h; exact h.2.1); have hx:=HX.out; rw [hx5,PR.bind_ok] at hx; clear HX; have HX:=zh hx; clear hx hx5 hk hr) | (have HERR:Hid (x = .err q5 k):=(by unfold Hid; rw [HX.out,hx5]; rfl); have HBE:=zh (((HI4.out.set 1 (.int .i64 vx))).err_step hB HLB.out hBw hk)))
  | (go_at_call 86; (with_reducible refine (HIH.out _ _ _ _ _ (HI5.out).r (HI5.out).own HI5q (by omega) (by omega) (by omega)).mono ?_); intro e w6 hpost; rcases hpost.split with ⟨q6,a,lv6,hx6,rfl,hk,hr,ho,hlo⟩ | ⟨q6,k,hx6,rfl,hb⟩ <;> first | (have HI6:=zh ((HI5.out).child hk hr ho hlo); clear rc rf rl x0 x1 o0 o1 o2; have rc:=HI6.out.r.cell; have rf:=HI6.out.r.free; have rl:=HI6.out.r.lt; have x0:=HI6.out.x.cell; have x1:=HI6.out.x.free; have o0:=HI6.out.o.cell; have o1:=HI6.out.o.lt; have o2:=HI6.out.x.lt; have hg:=zey (bts S) n _ (many + 1) (by rw [zab]; exact HI5q) (by omega) (by omega); rw [hx6,zab] at hg; obtain ⟨_,HI6q,HI6k,HI6m,HI6l,_⟩:=hg; have HI6s:=a.2.size_pos; have HX0:=HX.out; rw [hx6,PR.bind_ok] at HX0; clear HX; have HX:=zh HX0; have HI6K:=zh HI6k; clear HX0 hx6 hk hr ho hlo HI6k) | (have HERR:Hid (x = .err q6 k):=(by unfold Hid; rw [HX.out,hx6]; rfl); have HBE:=zh ((HI5.out).below hB HLB.out hBw hb)))
  | (go_at_call 132; (with_reducible refine (zbq S 41 g _ _ _ _ ((HI6.out.set 3 (.int .i64 ((l.length:Int) + a.2.size - 1)))).r HI6q hS).mono ?_); intro e w7 hpost; rcases hpost.split with ⟨q7,_,hx7,rfl,hk,hr⟩ | ⟨q7,k,hx7,rfl,hk⟩ <;> first | (have HI7:=zh (((HI6.out.set 3 (.int .i64 ((l.length:Int) + a.2.size - 1)))).step hk hr); clear rc rf rl x0 x1 o0 o1 o2; have rc:=HI7.out.r.cell; have rf:=HI7.out.r.free; have rl:=HI7.out.r.lt; have x0:=HI7.out.x.cell; have x1:=HI7.out.x.free; have o0:=HI7.out.o.cell; have o1:=HI7.out.o.lt; have o2:=HI7.out.x.lt; have HI7q:q7 <= S.size:=(by have h:=zal (s:=bts S) 41 (p:=q6) (by rw [zab]; assumption); rw [hx7,zab] at h; exact h.2.1); have hx:=HX.out; rw [hx7,PR.bind_ok] at hx; clear HX; have HX:=zh hx; clear hx hx7 hk hr) | (have HERR:Hid (x = .err q7 k):=(by unfold Hid; rw [HX.out,hx7]; rfl); have HBE:=zh (((HI6.out.set 3 (.int .i64 ((l.length:Int) + a.2.size - 1)))).err_step hB HLB.out hBw hk))))
 all_goals first
  | exact ⟨rfl,zag.err HERR.out HBE.out⟩
  | skip
 go_region_law (refine zau rfl (.tmp 77) (.tmp 79) rfl B _ (l ++ a.2.enc l.length) rfl ((HI7.out).own.below (by go_grown) zn) _ [⟨op,vx,0,((l.length:Int) + a.2.size - 1),0⟩] rfl (MS.one (by first | exact Row.new _ _ _ | exact Row.litd (by simp)) h1 h2) (by simp only [List.length_append,Tr.enc_len,List.length_singleton]; omega) (by simp only [World.size_alloc,World.size_drew]; have:=(HI7.out).r.lt; omega) (l.length + a.2.size + 1) (by simp only [List.length_append,Tr.enc_len,List.length_singleton]) ?_; intro A6 c6 w6 ho6 hg6 ht6; have hr6:=(HI7.out).mid (by go_grown) hg6; have y0:=hr6.cell; have y1:=hr6.free; have y2:=hr6.lt)
 all_goals
  go_wp2
  go_returns
  obtain ⟨f1,f2,f3,f4⟩:=(HI7.out).finish (by go_grown) hg6 ho6 ht6
  refine zag.ok (q:=q7) (a:=(a.1,.un op vx a.2)) HX.out ?_ f1 f2 (by have e:((l.length:Int) + a.2.size - 1) = ((l.length + a.2.size - 1:Nat):Int):=(by have:=a.2.size_pos; omega); rw [e,List.append_assoc] at f3; exact f3) f4
  exact zao (by simp only [List.length_append,Tr.enc_len,Tr.size]; omega)
theorem zm0 (S:ByteArray) (B g n p many p1:Nat) (l:List Mk) (lv:Value) (op:Int) (c:UInt8) (w:World) (hih:zei S B g n) (hr:Row w g 133 #[.string S,.int .i64 p,lv,.int .i64 many]) (ho:MO w B lv l) (hB:B <= g)
  (hp:p <= S.size) (hS:S.size <= 1000000) (hm:many < 64) (hn:64 <= n + many) (hl:l.length <= many) (hc:needP (bts S) (40 :: bts zan) 2 p = .ok p c) (h40:c = 40) (hname:nameP (bts S) true (p + 1) = .ok p1 op) (hp1:p1 <= S.size) (h1:0 <= op) (h2:op <= 255) (hv:nv op = 0) (hcc:nc op = 2) :
  Calls Tryz.prog 86 #[.pointer (some ⟨g,0,none⟩)] w (zag S B g lv l (form (bts S) (n + 1) p many) w):=by
 obtain ⟨x,hx⟩:=zx (form (bts S) (n + 1) p many)
 rw [<- hx]
 have hx2:x = (pastP (bts S) 32 p1).bind fun p _ => (form (bts S) n p (many + 1)).bind fun p a => (pastP (bts S) 32 p).bind fun p _ => (form (bts S) n p a.1).bind fun p b => (pastP (bts S) 41 p).bind fun p _ => .ok p (b.1,.bin op a.2 b.2):=by
  rw [hx,za8,hc,PR.bind_ok,if_neg (by omega)]
  subst h40
  simp only [decide_true,if_true]
  rw [hname,PR.bind_ok]
  simp only [hv,hcc]
  rfl
 clear hx
 have hneed:=fun W h => za6 S { data:=#[40,97,98,99,100,101,102,103,104,105,106,107,108,109,110,111,112,113,114,115,116,117,118,119,120,121,122] } g p lv (.int .i64 many) 2 W h hp hS
 have e0:bts { data:=#[40,97,98,99,100,101,102,103,104,105,106,107,108,109,110,111,112,113,114,115,116,117,118,119,120,121,122] } = 40 :: bts zan:=rfl
 rw [e0,hc] at hneed
 clear e0
 have hnm:=fun W h => zco S true g (p + 1) lv (.int .i64 ((many + 1:Nat):Int)) W h (by
  have:=(za3 hc).2.1
  have:=(List.getElem?_eq_some_iff.1 this).1
  rw [zab] at this
  omega) hS
 rw [hname] at hnm
 have hin:((c.toNat:Int) == 40) = true:=by subst h40; rfl
 have hm64:((many:Int) == 64) = false:=by simp; omega
 have hap:=ho.apart hr (by decide)
 have hlb:∀ b,lv.ownBlock = some b -> B <= b:=fun b hb => (ho.own_lt b hb).1
 have hBw:B <= w.heap.size:=by have:=hr.lt; omega
 have HN:=zh hneed; have HM:=zh hnm; have HX:=zh hx2; have HR:=zh hr; have HO:=zh ho; have HAP:=zh hap; have HLB:=zh hlb; have HV:=zh hv; have HC:=zh hcc; have HIH:=zh hih
 clear hneed hnm hx2 hr ho hap hlb hv hcc hc h40 hname hih
 have rc:=HR.out.cell
 have rf:=HR.out.free
 have rl:=HR.out.lt
 have hfd:=zbw
 go_enter Tryz.func86,Tryz.ntmps86
 go_wp2_with (first
  | (go_at_call 129; refine (HN.out _ HR.out).mono ?_; rintro e w1 ⟨hb1,rfl⟩; have HB1:=zh hb1; clear hb1; have HR1:=zh (HR.out.below HB1.out HR.out.lt); have rc:=HR1.out.cell; have rf:=HR1.out.free; have rl:=HR1.out.lt)
  | (go_at_call 130; refine (HM.out _ ((HR1.out.set 3 (.int .i64 ((many:Int) + 1))).set 1 (.int .i64 ((p:Int) + 1)))).mono ?_; rintro e w2 ⟨hk2,rfl,hr2⟩; have HK2:Hid (Keep (· = g) w w2):=(Keep.set (S:=(· = g)) (Keep.set (S:=(· = g)) (Keep.of_below HB1.out zn) (p:=⟨g,3,none⟩) (.inl rfl) _) (p:=⟨g,1,none⟩) (.inl rfl) _).trans hk2; have HR2:=zh hr2; clear hk2 hr2 rc rf rl)
  | (go_at_call 88; refine (zaj op _ h1 h2).mono ?_; rintro e w3 ⟨rfl,hb3⟩; rw [HV.out,HC.out]; have hi:=FI.start (S:=S) (om:=#[.string { data:=(nm op).toArray },.int .i64 0,.int .i64 2]) HK2.out HR2.out HO.out HAP.out hb3; obtain ⟨x0,x1,hz1,HB3⟩:=za9 hb3; have hr3:=HR2.out.below HB3.out HR2.out.lt; have rc:=hr3.cell; have rf:=hr3.free; have rl:=hr3.lt; clear hr3 hb3; have HI:=zh hi; clear hi)
  | (go_at_call 132; (with_reducible refine (zbq S 32 g _ _ _ _ (HI.out).r hp1 hS).mono ?_); intro e w4 hpost; rcases hpost.split with ⟨q4,_,hx4,rfl,hk,hr⟩ | ⟨q4,k,hx4,rfl,hk⟩ <;> first | (have HI4:=zh ((HI.out).step hk hr); clear rc rf rl x0 x1; have rc:=HI4.out.r.cell; have rf:=HI4.out.r.free; have rl:=HI4.out.r.lt; have x0:=HI4.out.x.cell; have x1:=HI4.out.x.free; have o0:=HI4.out.o.cell; have o1:=HI4.out.o.lt; have o2:=HI4.out.x.lt; have HI4q:q4 <= S.size:=(by have h:=zal (s:=bts S) 32 (p:=p1) (by rw [zab]; assumption); rw [hx4,zab] at h; exact h.2.1); have hx:=HX.out; rw [hx4,PR.bind_ok] at hx; clear HX; have HX:=zh hx; clear hx hx4 hk hr) | (have HERR:Hid (x = .err q4 k):=(by unfold Hid; rw [HX.out,hx4]; rfl); have HBE:=zh ((HI.out).err_step hB HLB.out hBw hk)))
  | (go_at_call 86; (with_reducible refine (HIH.out _ _ _ _ _ (HI4.out).r (HI4.out).own HI4q (by omega) (by omega) (by omega)).mono ?_); intro e w5 hpost; rcases hpost.split with ⟨q5,a,lv5,hx5,rfl,hk,hr,ho,hlo⟩ | ⟨q5,k,hx5,rfl,hb⟩ <;> first | (have HI5:=zh ((HI4.out).child hk hr ho hlo); clear rc rf rl x0 x1 o0 o1 o2; have rc:=HI5.out.r.cell; have rf:=HI5.out.r.free; have rl:=HI5.out.r.lt; have x0:=HI5.out.x.cell; have x1:=HI5.out.x.free; have o0:=HI5.out.o.cell; have o1:=HI5.out.o.lt; have o2:=HI5.out.x.lt; have hg:=zey (bts S) n _ (many + 1) (by rw [zab]; exact HI4q) (by omega) (by omega); rw [hx5,zab] at hg; obtain ⟨_,HI5q,HI5k,HI5m,HI5l,_⟩:=hg; have HI5s:=a.2.size_pos; have HX0:=HX.out; rw [hx5,PR.bind_ok] at HX0; clear HX; have HX:=zh HX0; have HI5K:=zh HI5k; clear HX0 hx5 hk hr ho hlo HI5k) | (have HERR:Hid (x = .err q5 k):=(by unfold Hid; rw [HX.out,hx5]; rfl); have HBE:=zh ((HI4.out).below hB HLB.out hBw hb)))
  | (go_at_call 132; (with_reducible refine (zbq S 32 g _ _ _ _ ((HI5.out.set 3 (.int .i64 ((l.length:Int) + a.2.size - 1)))).r HI5q hS).mono ?_); intro e w6 hpost; rcases hpost.split with ⟨q6,_,hx6,rfl,hk,hr⟩ | ⟨q6,k,hx6,rfl,hk⟩ <;> first | (have HI6:=zh (((HI5.out.set 3 (.int .i64 ((l.length:Int) + a.2.size - 1)))).step hk hr); clear rc rf rl x0 x1 o0 o1 o2; have rc:=HI6.out.r.cell; have rf:=HI6.out.r.free; have rl:=HI6.out.r.lt; have x0:=HI6.out.x.cell; have x1:=HI6.out.x.free; have o0:=HI6.out.o.cell; have o1:=HI6.out.o.lt; have o2:=HI6.out.x.lt; have HI6q:q6 <= S.size:=(by have h:=zal (s:=bts S) 32 (p:=q5) (by rw [zab]; assumption); rw [hx6,zab] at h; exact h.2.1); have hx:=HX.out; rw [hx6,PR.bind_ok] at hx; clear HX; have HX:=zh hx; clear hx hx6 hk hr) | (have HERR:Hid (x = .err q6 k):=(by unfold Hid; rw [HX.out,hx6]; rfl); have HBE:=zh (((HI5.out.set 3 (.int .i64 ((l.length:Int) + a.2.size - 1)))).err_step hB HLB.out hBw hk)))
  | (go_at_call 86; (with_reducible refine (HIH.out _ _ _ _ _ (HI6.out).r (HI6.out).own HI6q (by omega) (by omega) (by rw [List.length_append,Tr.enc_len]; omega)).mono ?_); intro e w7 hpost; rcases hpost.split with ⟨q7,b,lv7,hx7,rfl,hk,hr,ho,hlo⟩ | ⟨q7,k,hx7,rfl,hb⟩ <;> first | (have HI7:=zh ((HI6.out).child hk hr ho hlo); clear rc rf rl x0 x1 o0 o1 o2; have rc:=HI7.out.r.cell; have rf:=HI7.out.r.free; have rl:=HI7.out.r.lt; have x0:=HI7.out.x.cell; have x1:=HI7.out.x.free; have o0:=HI7.out.o.cell; have o1:=HI7.out.o.lt; have o2:=HI7.out.x.lt; have hg:=zey (bts S) n _ (a.1) (by rw [zab]; exact HI6q) (by omega) (by omega); rw [hx7,zab] at hg; obtain ⟨_,HI7q,HI7k,HI7m,HI7l,_⟩:=hg; have HI7s:=b.2.size_pos; have HX0:=HX.out; rw [hx7,PR.bind_ok] at HX0; clear HX; have HX:=zh HX0; have HI7K:=zh HI7k; clear HX0 hx7 hk hr ho hlo HI7k) | (have HERR:Hid (x = .err q7 k):=(by unfold Hid; rw [HX.out,hx7]; rfl); have HBE:=zh ((HI6.out).below hB HLB.out hBw hb)))
  | (go_at_call 132; (with_reducible refine (zbq S 41 g _ _ _ _ ((HI7.out.set 4 (.int .i64 ((l.length:Int) + ((a.2.enc l.length).length:Int) + b.2.size - 1)))).r HI7q hS).mono ?_); intro e w8 hpost; rcases hpost.split with ⟨q8,_,hx8,rfl,hk,hr⟩ | ⟨q8,k,hx8,rfl,hk⟩ <;> first | (have HI8:=zh (((HI7.out.set 4 (.int .i64 ((l.length:Int) + ((a.2.enc l.length).length:Int) + b.2.size - 1)))).step hk hr); clear rc rf rl x0 x1 o0 o1 o2; have rc:=HI8.out.r.cell; have rf:=HI8.out.r.free; have rl:=HI8.out.r.lt; have x0:=HI8.out.x.cell; have x1:=HI8.out.x.free; have o0:=HI8.out.o.cell; have o1:=HI8.out.o.lt; have o2:=HI8.out.x.lt; have HI8q:q8 <= S.size:=(by have h:=zal (s:=bts S) 41 (p:=q7) (by rw [zab]; assumption); rw [hx8,zab] at h; exact h.2.1); have hx:=HX.out; rw [hx8,PR.bind_ok] at hx; clear HX; have HX:=zh hx; clear hx hx8 hk hr) | (have HERR:Hid (x = .err q8 k):=(by unfold Hid; rw [HX.out,hx8]; rfl); have HBE:=zh (((HI7.out.set 4 (.int .i64 ((l.length:Int) + ((a.2.enc l.length).length:Int) + b.2.size - 1)))).err_step hB HLB.out hBw hk))))
 all_goals first
  | exact ⟨rfl,zag.err HERR.out HBE.out⟩
  | skip
 go_region_law (refine zau rfl (.tmp 77) (.tmp 79) rfl B _ ((l ++ a.2.enc l.length) ++ b.2.enc (l ++ a.2.enc l.length).length) rfl ((HI8.out).own.below (by go_grown) zn) _ [⟨op,0,0,((l.length:Int) + a.2.size - 1),((l.length:Int) + ((a.2.enc l.length).length:Int) + b.2.size - 1)⟩] rfl (MS.one (by first | exact Row.new _ _ _ | exact Row.litd (by simp)) h1 h2) (by simp only [List.length_append,Tr.enc_len,List.length_singleton]; omega) (by simp only [World.size_alloc,World.size_drew]; have:=(HI8.out).r.lt; omega) (l.length + a.2.size + b.2.size + 1) (by simp only [List.length_append,Tr.enc_len,List.length_singleton]) ?_; intro A6 c6 w6 ho6 hg6 ht6; have hr6:=(HI8.out).mid (by go_grown) hg6; have y0:=hr6.cell; have y1:=hr6.free; have y2:=hr6.lt)
 all_goals
  go_wp2
  go_returns
  obtain ⟨f1,f2,f3,f4⟩:=(HI8.out).finish (by go_grown) hg6 ho6 ht6
  refine zag.ok (q:=q8) (a:=(b.1,.bin op a.2 b.2)) HX.out ?_ f1 f2 (by have s1:=a.2.size_pos; have s2:=b.2.size_pos; have e:((l.length:Int) + a.2.size - 1) = ((l.length + a.2.size - 1:Nat):Int):=(by omega); have e2:((l.length:Int) + ((a.2.enc l.length).length:Int) + b.2.size - 1) = ((l.length + a.2.size + b.2.size - 1:Nat):Int):=(by simp only [Tr.enc_len]; omega); rw [e2,e,List.length_append,Tr.enc_len,List.append_assoc,List.append_assoc] at f3; exact f3) f4
  exact zao (by simp only [List.length_append,Tr.enc_len,Tr.size]; omega)
theorem zmw (S:ByteArray) (B g n p many q:Nat) (k:Int) (l:List Mk) (lv:Value) (w:World) (hr:Row w g 133 #[.string S,.int .i64 p,lv,.int .i64 many]) (hB:B <= g)
  (hp:p <= S.size) (hS:S.size <= 1000000) (hc:needP (bts S) (40 :: bts zan) 2 p = .err q k) :
  Calls Tryz.prog 86 #[.pointer (some ⟨g,0,none⟩)] w (zag S B g lv l (form (bts S) (n + 1) p many) w):=by
 obtain ⟨x,hx⟩:=zx (form (bts S) (n + 1) p many)
 rw [<- hx]
 have hx2:x = .err q k:=by rw [hx,za8,hc,PR.bind_err]
 clear hx
 have hneed:=fun W h => za6 S { data:=#[40,97,98,99,100,101,102,103,104,105,106,107,108,109,110,111,112,113,114,115,116,117,118,119,120,121,122] } g p lv (.int .i64 many) 2 W h hp hS
 have e0:bts { data:=#[40,97,98,99,100,101,102,103,104,105,106,107,108,109,110,111,112,113,114,115,116,117,118,119,120,121,122] } = 40 :: bts zan:=rfl
 rw [e0,hc] at hneed
 clear e0 hc
 have hBw:B <= w.heap.size:=by have:=hr.lt; omega
 have HN:=zh hneed; have HX:=zh hx2; have HR:=zh hr
 clear hneed hx2 hr
 go_enter Tryz.func86,Tryz.ntmps86
 go_wp2_with (go_at_call 129; refine (HN.out _ HR.out).mono ?_; rintro e w1 ⟨hb1,rfl⟩)
 exact ⟨rfl,zag.err HX.out (hb1.mono hBw)⟩
theorem zmv (S:ByteArray) (B g n p:Nat) (l:List Mk) (lv:Value) (c:UInt8) (w:World) (hr:Row w g 133 #[.string S,.int .i64 p,lv,.int .i64 (64:Nat)]) (hB:B <= g)
  (hp:p <= S.size) (hS:S.size <= 1000000) (hc:needP (bts S) (40 :: bts zan) 2 p = .ok p c) :
  Calls Tryz.prog 86 #[.pointer (some ⟨g,0,none⟩)] w (zag S B g lv l (form (bts S) (n + 1) p 64) w):=by
 obtain ⟨x,hx⟩:=zx (form (bts S) (n + 1) p 64)
 rw [<- hx]
 have hx2:x = .err p 4:=by rw [hx,za8,hc,PR.bind_ok,if_pos rfl]
 clear hx
 have hneed:=fun W h => za6 S { data:=#[40,97,98,99,100,101,102,103,104,105,106,107,108,109,110,111,112,113,114,115,116,117,118,119,120,121,122] } g p lv (.int .i64 (64:Nat)) 2 W h hp hS
 have e0:bts { data:=#[40,97,98,99,100,101,102,103,104,105,106,107,108,109,110,111,112,113,114,115,116,117,118,119,120,121,122] } = 40 :: bts zan:=rfl
 rw [e0,hc] at hneed
 clear e0 hc
 have hBw:B <= w.heap.size:=by have:=hr.lt; omega
 have HN:=zh hneed; have HX:=zh hx2; have HR:=zh hr
 clear hneed hx2 hr
 go_enter Tryz.func86,Tryz.ntmps86
 go_wp2_with (go_at_call 129; refine (HN.out _ HR.out).mono ?_; rintro e w1 ⟨hb1,rfl⟩; have HR1:=zh (HR.out.below hb1 HR.out.lt); have rc:=HR1.out.cell; have rf:=HR1.out.free; have rl:=HR1.out.lt)
 exact ⟨rfl,zag.err HX.out (hb1.mono hBw)⟩
theorem zmu (S:ByteArray) (B g n p many q:Nat) (k:Int) (l:List Mk) (lv:Value) (c:UInt8) (w:World) (hr:Row w g 133 #[.string S,.int .i64 p,lv,.int .i64 many]) (hB:B <= g)
  (hp:p <= S.size) (hS:S.size <= 1000000) (hm:many < 64) (hc:needP (bts S) (40 :: bts zan) 2 p = .ok p c) (h40:c = 40) (hname:nameP (bts S) true (p + 1) = .err q k) :
  Calls Tryz.prog 86 #[.pointer (some ⟨g,0,none⟩)] w (zag S B g lv l (form (bts S) (n + 1) p many) w):=by
 obtain ⟨x,hx⟩:=zx (form (bts S) (n + 1) p many)
 rw [<- hx]
 have hx2:x = .err q k:=by
  rw [hx,za8,hc,PR.bind_ok,if_neg (by omega)]
  subst h40
  simp only [decide_true,if_true]
  rw [hname,PR.bind_err]
 clear hx
 have hneed:=fun W h => za6 S { data:=#[40,97,98,99,100,101,102,103,104,105,106,107,108,109,110,111,112,113,114,115,116,117,118,119,120,121,122] } g p lv (.int .i64 many) 2 W h hp hS
 have e0:bts { data:=#[40,97,98,99,100,101,102,103,104,105,106,107,108,109,110,111,112,113,114,115,116,117,118,119,120,121,122] } = 40 :: bts zan:=rfl
 rw [e0,hc] at hneed
 clear e0
 have hnm:=fun W h => zco S true g (p + 1) lv (.int .i64 ((many + 1:Nat):Int)) W h (by
  have:=(za3 hc).2.1
  have:=(List.getElem?_eq_some_iff.1 this).1
  rw [zab] at this
  omega) hS
 rw [hname] at hnm
 have hin:((c.toNat:Int) == 40) = true:=by subst h40; rfl
 have hm64:((many:Int) == 64) = false:=by simp; omega
 have hBw:B <= w.heap.size:=by have:=hr.lt; omega
 have HN:=zh hneed; have HM:=zh hnm; have HX:=zh hx2; have HR:=zh hr
 clear hneed hnm hx2 hr hc hname h40
 go_enter Tryz.func86,Tryz.ntmps86
 go_wp2_with (first
  | (go_at_call 129; refine (HN.out _ HR.out).mono ?_; rintro e w1 ⟨hb1,rfl⟩; have HB1:=zh hb1; clear hb1; have HR1:=zh (HR.out.below HB1.out HR.out.lt); have rc:=HR1.out.cell; have rf:=HR1.out.free; have rl:=HR1.out.lt)
  | (go_at_call 130; refine (HM.out _ ((HR1.out.set 3 (.int .i64 ((many:Int) + 1))).set 1 (.int .i64 ((p:Int) + 1)))).mono ?_; rintro e w2 ⟨hk2,rfl⟩; have HK2:Hid (Keep (· = g) w w2):=(Keep.set (S:=(· = g)) (Keep.set (S:=(· = g)) (Keep.of_below HB1.out zn) (p:=⟨g,3,none⟩) (.inl rfl) _) (p:=⟨g,1,none⟩) (.inl rfl) _).trans hk2))
 exact ⟨rfl,zag.err HX.out (HK2.out.below_le hBw fun k hk => by subst hk; exact hB)⟩
theorem zmt (S:ByteArray) (B g n p many q:Nat) (k:Int) (l:List Mk) (lv:Value) (c:UInt8) (w:World) (hr:Row w g 133 #[.string S,.int .i64 p,lv,.int .i64 many]) (hB:B <= g)
  (hp:p <= S.size) (hS:S.size <= 1000000) (hm:many < 64) (hc:needP (bts S) (40 :: bts zan) 2 p = .ok p c) (h40:c ≠ 40) (hname:nameP (bts S) false p = .err q k) :
  Calls Tryz.prog 86 #[.pointer (some ⟨g,0,none⟩)] w (zag S B g lv l (form (bts S) (n + 1) p many) w):=by
 obtain ⟨x,hx⟩:=zx (form (bts S) (n + 1) p many)
 rw [<- hx]
 have hx2:x = .err q k:=by
  rw [hx,za8,hc,PR.bind_ok,if_neg (by omega)]
  simp only [h40,decide_false,if_false]
  rw [hname,PR.bind_err]
 clear hx
 have hneed:=fun W h => za6 S { data:=#[40,97,98,99,100,101,102,103,104,105,106,107,108,109,110,111,112,113,114,115,116,117,118,119,120,121,122] } g p lv (.int .i64 many) 2 W h hp hS
 have e0:bts { data:=#[40,97,98,99,100,101,102,103,104,105,106,107,108,109,110,111,112,113,114,115,116,117,118,119,120,121,122] } = 40 :: bts zan:=rfl
 rw [e0,hc] at hneed
 clear e0
 have hnm:=fun W h => zco S false g p lv (.int .i64 ((many + 1:Nat):Int)) W h hp hS
 rw [hname] at hnm
 have hin:((c.toNat:Int) == 40) = false:=by
  rw [beq_eq_false_iff_ne]
  intro h
  apply h40
  have:c.toNat = 40:=by omega
  exact UInt8.toNat_inj.1 this
 have hm64:((many:Int) == 64) = false:=by simp; omega
 have hBw:B <= w.heap.size:=by have:=hr.lt; omega
 have HN:=zh hneed; have HM:=zh hnm; have HX:=zh hx2; have HR:=zh hr
 clear hneed hnm hx2 hr hc hname h40
 go_enter Tryz.func86,Tryz.ntmps86
 go_wp2_with (first
  | (go_at_call 129; refine (HN.out _ HR.out).mono ?_; rintro e w1 ⟨hb1,rfl⟩; have HB1:=zh hb1; clear hb1; have HR1:=zh (HR.out.below HB1.out HR.out.lt); have rc:=HR1.out.cell; have rf:=HR1.out.free; have rl:=HR1.out.lt)
  | (go_at_call 130; refine (HM.out _ (HR1.out.set 3 (.int .i64 ((many:Int) + 1)))).mono ?_; rintro e w2 ⟨hk2,rfl⟩; have HK2:Hid (Keep (· = g) w w2):=(Keep.set (S:=(· = g)) (Keep.of_below HB1.out zn) (p:=⟨g,3,none⟩) (.inl rfl) _).trans hk2))
 exact ⟨rfl,zag.err HX.out (HK2.out.below_le hBw fun k hk => by subst hk; exact hB)⟩
theorem nvnc {op:Int} (h:nm op ≠ []) (h1:op ≠ 1):(nv op = 1 /\ nc op = 0) \/ (nv op = 2 /\ nc op = 0) \/ (nv op = 0 /\ nc op = 1) \/ (nv op = 1 /\ nc op = 1) \/ (nv op = 0 /\ nc op = 2):=by
 have hr:=zlf h
 have hc:op = 2 \/ op = 3 \/ op = 4 \/ op = 5 \/ op = 6 \/ op = 7 \/ op = 8 \/ op = 9 \/ op = 10 \/ op = 11 \/ op = 12 \/ op = 13 \/ op = 14 \/ op = 15:=by omega
 rcases hc with rfl | rfl | rfl | rfl | rfl | rfl | rfl | rfl | rfl | rfl | rfl | rfl | rfl | rfl <;> decide
theorem zg0 (S:ByteArray) (B g:Nat) (hB:B <= g) (hS:S.size <= 1000000):∀ n,zei S B g n:=by
 intro n
 induction n with
 | zero => intro p many l lv W _ _ _ h1 h2 _; omega
 | succ n ih =>
  intro p many l lv W hr ho hp hm hn hl
  cases hc:needP (bts S) (40 :: bts zan) 2 p with
  | err q k => exact zmw S B g n p many q k l lv W hr hB hp hS hc
  | ok q c =>
   have hq:=(za3 hc).1
   subst hq
   by_cases h64:many = 64
   ·subst h64; exact zmv S B g n q l lv c W hr hB hp hS hc
   by_cases h40:c = 40
   ·cases hname:nameP (bts S) true (q + 1) with
    | err q2 k => exact zmu S B g n q many q2 k l lv c W hr hB hp hS (by omega) hc h40 hname
    | ok p1 op =>
     have hg:=zfd (s:=bts S) (p:=q + 1) true (by
      have:=(List.getElem?_eq_some_iff.1 (za3 hc).2.1).1
      omega)
     rw [hname] at hg
     obtain ⟨_,g1,g2,g3,_⟩:=hg
     rw [zab] at g1
     have hr1:=zlf g2
     rcases nvnc g2 (by simpa using g3) with ⟨h1,h2⟩ | ⟨h1,h2⟩ | ⟨h1,h2⟩ | ⟨h1,h2⟩ | ⟨h1,h2⟩
     ·exact zmz S B g n q many p1 l lv op c W ih hr ho hB hp hS (by omega) (by omega) hl hc h40 hname g1 (by omega) (by omega) h1 h2
     ·exact zmx S B g n q many p1 l lv op c W ih hr ho hB hp hS (by omega) (by omega) hl hc h40 hname g1 (by omega) (by omega) h1 h2
     ·exact zm1 S B g n q many p1 l lv op c W ih hr ho hB hp hS (by omega) (by omega) hl hc h40 hname g1 (by omega) (by omega) h1 h2
     ·exact zmy S B g n q many p1 l lv op c W ih hr ho hB hp hS (by omega) (by omega) hl hc h40 hname g1 (by omega) (by omega) h1 h2
     ·exact zm0 S B g n q many p1 l lv op c W ih hr ho hB hp hS (by omega) (by omega) hl hc h40 hname g1 (by omega) (by omega) h1 h2
   ·cases hname:nameP (bts S) false q with
    | err q2 k => exact zmt S B g n q many q2 k l lv c W hr hB hp hS (by omega) hc h40 hname
    | ok p1 op =>
     have hg:=zfd (s:=bts S) (p:=q) false (by rw [zab]; exact hp)
     rw [hname] at hg
     obtain ⟨_,g1,g2,g3,_⟩:=hg
     rw [zab] at g1
     have hop:op = 1:=by simpa using g3
     subst hop
     exact zm2 S B g n q many p1 l lv 1 c W ih hr ho hB hp hS (by omega) (by omega) hl hc h40 hname g1 (by omega) (by omega) rfl rfl
theorem zh2 (p1 p2 p3:Addr) (w:World) :
  CallsD Tryz.prog 85 #[.pointer (some p1),.pointer (some p2),.pointer (some p3)] .returning w fun e u' w' => e = .returned (.tuple #[]) /\ u' = .returning /\ w' = w:=by
 refine callsD_of_wpS Tryz.func85 rfl fun c₀ cs hu => ?_
 apply wpS_seq
 apply wpS_region
 simp [wpOpsS,go_sem,recoverD,hu,Tryz.ntmps85,Exit.thenS]
 refine wpS_of_wp ?_
 go_wp2
 cases c₀
 simp_all [bodyPostS,results,Tryz.results85]
def zj4 (bf ba be p:Nat) (k:Int) (w w':World):Prop :=
 Row w' bf 23 #[.slice none 0 0] /\ Row w' ba 3 #[.int .i64 p] /\ Row w' be 31 #[.int .i64 k] /\ Keep (fun b => b = bf \/ b = ba \/ b = be) w w'
theorem zku (bf ba be p:Nat) (k:Int) (x y z:Value) (w:World) (h1:Row w bf 23 #[x]) (h2:Row w ba 3 #[y]) (h3:Row w be 31 #[z]) (d1:bf ≠ ba) (d2:bf ≠ be) (d3:ba ≠ be) :
  CallsD Tryz.prog 85 #[.pointer (some ⟨bf,0,none⟩),.pointer (some ⟨ba,0,none⟩),.pointer (some ⟨be,0,none⟩)] (.panicking (Pan p k)) w fun e u' w' =>
   e = .returned (.tuple #[]) /\ (∃ v,u' = .panicking [{ v:=v,recovered:=true }]) /\ zj4 bf ba be p k w w':=by
 have c1:=h1.cell; have c2:=h2.cell; have c3:=h3.cell
 have f1:=h1.free; have f2:=h2.free; have f3:=h3.free
 have l1:=h1.lt; have l2:=h2.lt; have l3:=h3.lt
 refine callsD_of_wpS Tryz.func85 rfl fun c₀ cs hu => ?_
 unfold Pan at hu
 apply wpS_seq
 apply wpS_region
 simp [wpOpsS,go_sem,recoverD,hu,Tryz.ntmps85,Exit.thenS]
 refine wpS_of_wp ?_
 change Code.wp _ _ _ { tmps:=#[.pointer (some ⟨bf,0,none⟩),.pointer (some ⟨ba,0,none⟩),.pointer (some ⟨be,0,none⟩),undef,undef,undef,.iface 130 (.agg #[.int .i64 p,.int .i64 k]),undef,undef,undef,undef,undef,undef,undef,undef,undef],defers:=[] } _
 have hta:∀ (a b:Value) (W:World),(Instr.typeAssert (.iface 130 (.agg #[a,b])) 20 130 true).run Tryz.prog W = .ok (.tuple #[.agg #[a,b],.bool true]) W:=fun _ _ _ => by kernel_rfl
 go_wp2
 go_region
 go_wp2
 have hcp:zj4 bf ba be p k w ((((w.setCell ⟨bf,0,none⟩ (.slice none 0 0)).setCell ⟨ba,0,none⟩ (.int .i64 p)).setCell ⟨be,0,none⟩ (.int .i64 k)).alloc (.cells #[.int .i64 p,.int .i64 k] 130)).drew :=
  ⟨(((h1.set 0 (.slice none 0 0)).far d1 _).far d2 _).alloc _,(((h2.far d1.symm _).set 0 (.int .i64 p)).far d3 _).alloc _,(((h3.far d2.symm _).far d3.symm _).set 0 (.int .i64 k)).alloc _,
   ((((Keep.refl _ _).set (p:=⟨bf,0,none⟩) (.inl (.inl rfl)) _).set (p:=⟨ba,0,none⟩) (.inl (.inr (.inl rfl))) _).set (p:=⟨be,0,none⟩) (.inl (.inr (.inr rfl))) _).alloc _ |>.drew⟩
 have HCP:=zh hcp; clear hcp
 cases c₀
 simp only at hu
 subst hu
 simp [bodyPostS,results,Tryz.results85]
 exact HCP.out
def zl9 (w:World) (r:List Mk × Nat × Int) (e:Ending) (w':World):Prop:=∃ v,e = .returned (.tuple #[v,.int .i64 r.2.1,.int .i64 r.2.2]) /\ Below w.heap.size w w' /\ MO w' w.heap.size v r.1
theorem zni (S:ByteArray) (w:World) (hS:4096 < S.size):Calls Tryz.prog 44 #[.string S] w (zl9 w ([],0,4)):=by
 have hmf:∀ (fn:Fn) (first cap:Array Value) (W:World),(Instr.makeFunc fn first cap).run Tryz.prog W = .ok (.func fn first cap) W:=fun _ _ _ _ => rfl
 go_enter_defers Tryz.func44,Tryz.ntmps44
 go_wp2
 exact ⟨.tuple #[.slice none 0 0,.int .i64 0,.int .i64 4],by simp [results,Tryz.results44,go_sem],⟨_,rfl,by go_grown,MO.nil _ _⟩⟩
theorem zqj (S:ByteArray) (w:World) (hS:S.size <= 4096) (p:Nat) (k:Int) (h:form (bts S) 65 0 0 = .err p k):Calls Tryz.prog 44 #[.string S] w (zl9 w ([],p,k)):=by
 have hmf:∀ (fn:Fn) (first cap:Array Value) (W:World),(Instr.makeFunc fn first cap).run Tryz.prog W = .ok (.func fn first cap) W:=fun _ _ _ _ => rfl
 have hform:=fun W h1 h2 => zg0 S (w.heap.size + 3) (w.heap.size + 3) zn (by omega) 65 0 0 [] (.slice none 0 0) W h1 h2 (by omega) (by omega) (by omega) (by simp)
 rw [h] at hform
 have HF:=zh hform; clear hform h
 go_enter_defers Tryz.func44,Tryz.ntmps44
 go_wp2_with (go_at_call 86; refine (HF.out _ (Row.lit (by simp only [World.size_alloc])) (MO.nil _ _)).mono ?_; rintro e w1 ⟨rfl,hb1⟩)
 have r1:=((((Row.new w 23 #[.slice none 0 0]).alloc (.cells #[.int .i64 0] 3)).alloc (.cells #[.int .i64 0] 31)).alloc (.cells #[.string S,.int .i64 (0:Nat),.slice none 0 0,.int .i64 (0:Nat)] 133)).below hb1 (by omega)
 have r2:=(((Row.new (w.alloc (.cells #[.slice none 0 0] 23)) 3 #[.int .i64 0]).alloc (.cells #[.int .i64 0] 31)).alloc (.cells #[.string S,.int .i64 (0:Nat),.slice none 0 0,.int .i64 (0:Nat)] 133)).below hb1 (by simp only [World.size_alloc]; omega)
 have r3:=((Row.new ((w.alloc (.cells #[.slice none 0 0] 23)).alloc (.cells #[.int .i64 0] 3)) 31 #[.int .i64 0]).alloc (.cells #[.string S,.int .i64 (0:Nat),.slice none 0 0,.int .i64 (0:Nat)] 133)).below hb1 (by simp only [World.size_alloc]; omega)
 simp only [World.size_alloc] at r2 r3
 have hbw:Below w.heap.size w w1:=(by go_grown:Below w.heap.size w ((((w.alloc (.cells #[.slice none 0 0] 23)).alloc (.cells #[.int .i64 0] 3)).alloc (.cells #[.int .i64 0] 31)).alloc (.cells #[.string S,.int .i64 (0:Nat),.slice none 0 0,.int .i64 (0:Nat)] 133))).trans (hb1.mono (by omega))
 refine leaves_cons (f:=85) (args:=#[.pointer (some ⟨w.heap.size,0,none⟩),.pointer (some ⟨w.heap.size + 1,0,none⟩),.pointer (some ⟨w.heap.size + 1 + 1,0,none⟩)]) (by simp [Pan]) (by simp [go_sem]) ?_
 refine (zku _ _ _ p k _ _ _ w1 r1 r2 r3 (by omega) (by omega) (by omega)).mono ?_
 rintro e u' w2 ⟨rfl,⟨v,rfl⟩,c1,c2,c3,c4⟩
 have d1:=c1.cell; have d2:=c2.cell; have d3:=c3.cell
 show Leaves _ _ _ _ _ .returning w2
 exact ⟨.tuple #[.slice none 0 0,.int .i64 p,.int .i64 k],by simp [results,Tryz.results44,go_sem,d1,d2,d3],⟨_,rfl,hbw.trans (c4.below_le hbw.size fun b hb => by omega),MO.nil _ _⟩⟩
theorem zr8 (S:ByteArray) (w:World) (hS:S.size <= 4096) (p:Nat) (a:Nat × Tr) (h:form (bts S) 65 0 0 = .ok p a) (r:List Mk × Nat × Int) (hr:r = if p < S.size then ([],p,5) else (a.2.enc 0,0,0)):Calls Tryz.prog 44 #[.string S] w (zl9 w r):=by
 have hmf:∀ (fn:Fn) (first cap:Array Value) (W:World),(Instr.makeFunc fn first cap).run Tryz.prog W = .ok (.func fn first cap) W:=fun _ _ _ _ => rfl
 have hform:=fun W h1 h2 => zg0 S (w.heap.size + 3) (w.heap.size + 3) zn (by omega) 65 0 0 [] (.slice none 0 0) W h1 h2 (by omega) (by omega) (by omega) (by simp)
 rw [h] at hform
 have HF:=zh hform; clear hform h
 have HR:=zh hr; clear hr
 go_enter_defers Tryz.func44,Tryz.ntmps44
 have hrows:∀ w1,Keep (fun b => b = w.heap.size + 3 \/ (Value.slice none 0 0).ownBlock = some b) ((((w.alloc (.cells #[.slice none 0 0] 23)).alloc (.cells #[.int .i64 0] 3)).alloc (.cells #[.int .i64 0] 31)).alloc (.cells #[.string S,.int .i64 (0:Nat),.slice none 0 0,.int .i64 (0:Nat)] 133)) w1 ->
   Row w1 w.heap.size 23 #[.slice none 0 0] /\ Row w1 (w.heap.size + 1) 3 #[.int .i64 0] /\ Row w1 (w.heap.size + 1 + 1) 31 #[.int .i64 0] /\ Below w.heap.size w w1:=by
  intro w1 hk
  have r1:=((((Row.new w 23 #[.slice none 0 0]).alloc (.cells #[.int .i64 0] 3)).alloc (.cells #[.int .i64 0] 31)).alloc (.cells #[.string S,.int .i64 (0:Nat),.slice none 0 0,.int .i64 (0:Nat)] 133))
  have r2:=(((Row.new (w.alloc (.cells #[.slice none 0 0] 23)) 3 #[.int .i64 0]).alloc (.cells #[.int .i64 0] 31)).alloc (.cells #[.string S,.int .i64 (0:Nat),.slice none 0 0,.int .i64 (0:Nat)] 133))
  have r3:=((Row.new ((w.alloc (.cells #[.slice none 0 0] 23)).alloc (.cells #[.int .i64 0] 3)) 31 #[.int .i64 0]).alloc (.cells #[.string S,.int .i64 (0:Nat),.slice none 0 0,.int .i64 (0:Nat)] 133))
  simp only [World.size_alloc] at r2 r3
  have no:∀ b,(Value.slice none 0 0).ownBlock ≠ some b:=fun b h => by simp [Value.ownBlock] at h
  refine ⟨hk.row r1 (fun h => h.elim (by omega) (no _)),hk.row r2 (fun h => h.elim (by omega) (no _)),hk.row r3 (fun h => h.elim (by omega) (no _)),?_⟩
  exact (by go_grown:Below w.heap.size w ((((w.alloc (.cells #[.slice none 0 0] 23)).alloc (.cells #[.int .i64 0] 3)).alloc (.cells #[.int .i64 0] 31)).alloc (.cells #[.string S,.int .i64 (0:Nat),.slice none 0 0,.int .i64 (0:Nat)] 133))).trans
   (hk.below_le (by simp only [World.size_alloc]; omega) fun b hb => hb.elim (by omega) fun h => absurd h (no _))
 have HRW:=zh hrows; clear hrows
 by_cases hlt:p < S.size
 all_goals
  go_wp2_with (go_at_call 86; refine (HF.out _ (Row.lit (by simp only [World.size_alloc])) (MO.nil _ _)).mono ?_; rintro e w1 ⟨lv,rfl,hk1,hr1,ho1,hl1⟩; have rc:=hr1.cell; have rl:=hr1.lt; obtain ⟨r1,r2,r3,hbw⟩:=HRW.out _ hk1; have c1:=r1.cell; have c2:=r2.cell; have c3:=r3.cell; have f1:=r1.free; have f2:=r2.free; have f3:=r3.free; have HBW:=zh hbw; obtain ⟨A,c,rfl⟩:=ho1.form; have HO:=zh ho1; clear hk1 hl1 hbw ho1)
 ·go_region
  go_wp2
  refine leaves_cons (f:=85) (args:=#[.pointer (some ⟨w.heap.size,0,none⟩),.pointer (some ⟨w.heap.size + 1,0,none⟩),.pointer (some ⟨w.heap.size + 1 + 1,0,none⟩)]) (by simp) (by simp [go_sem]) ?_
  refine (zh2 _ _ _ _).mono ?_
  rintro e u' w2 ⟨rfl,rfl,rfl⟩
  show Leaves _ _ _ _ _ .returning _
  refine ⟨.tuple #[.slice none 0 0,.int .i64 p,.int .i64 5],by simp [results,Tryz.results44,go_sem,c1,c2,c3],⟨.slice none 0 0,by rw [HR.out,if_pos hlt],?_,by rw [HR.out,if_pos hlt]; exact MO.nil _ _⟩⟩
  have hh:=HBW.out
  go_grown
 ·refine leaves_cons (f:=85) (args:=#[.pointer (some ⟨w.heap.size,0,none⟩),.pointer (some ⟨w.heap.size + 1,0,none⟩),.pointer (some ⟨w.heap.size + 1 + 1,0,none⟩)]) (by simp) (by simp [go_sem]) ?_
  refine (zh2 _ _ _ _).mono ?_
  rintro e u' w2 ⟨rfl,rfl,rfl⟩
  show Leaves _ _ _ _ _ .returning _
  refine ⟨.tuple #[.slice A (a.2.enc 0).length c,.int .i64 0,.int .i64 0],by simp [results,Tryz.results44,go_sem,c1,c2,c3],⟨.slice A (a.2.enc 0).length c,by rw [HR.out,if_neg hlt]; rfl,?_,?_⟩⟩
  ·have hh:=HBW.out
   go_grown
  ·rw [HR.out,if_neg hlt]
   have ho:MO w1 (w.heap.size + 3) (.slice A (a.2.enc 0).length c) (a.2.enc 0):=HO.out
   have hne:∀ b,b < w.heap.size + 3 -> (Value.slice A (a.2.enc 0).length c).ownBlock ≠ some b:=fun b hb e => by have:=(ho.own_lt b e).1; omega
   exact (((ho.far (hne _ (by simp only; omega)) _).far (hne _ (by simp only; omega)) _).far (hne _ (by simp only; omega)) _).mono (by omega)
theorem zqk (S:ByteArray) (w:World):Calls Tryz.prog 44 #[.string S] w (zl9 w (zcy (bts S))):=by
 unfold zcy
 rw [zab]
 by_cases h:4096 < S.size
 ·rw [if_pos h]; exact zni S w h
 ·rw [if_neg h]
  cases hf:form (bts S) 65 0 0 with
  | err p k => exact zqj S w (by omega) p k hf
  | ok p a => exact zr8 S w (by omega) p a hf _ rfl
end Go.Proofs.YthdabkmkgkkmcaaGreatDoor
