/- Part 19 of the proof; it says: lemmas and contracts. No conditions but those that each theorem states. -/
import Derived.Test.YthdabkmkgkkmcaaGreatDoorPb01
import Derived.Test.YthdabkmkgkkmcaaGreatDoorPb11
import Derived.Test.YthdabkmkgkkmcaaGreatDoorPb13
set_option linter.unusedSimpArgs false
set_option linter.unusedVariables false
set_option maxRecDepth 100000
set_option maxHeartbeats 32000000
namespace Go.Proofs.YthdabkmkgkkmcaaGreatDoor
open Go.RowKit
abbrev ExQ (w0:World) (go gn bm:Nat) (ks:List Nat) (W:World):Prop:=ExI 51 48 236 1 sL sC w0 go gn bm ks W
abbrev KeepQ (row:Option Nat) (W W':World):Prop:=KeepG 51 48 row W W'
abbrev NextS (P:Nat -> Prop) (f:Nat -> Nat -> Nat -> Nat) (L:Nat) (j1 j2:Value) (w0:World):Prop:=∀ (a b x:Nat) (W:World),P a -> P b -> x < L -> Below w0.heap.size w0 W ->
 Calls Tryz.prog 161 #[sV a,sV b,.int .i64 (x:Int),j1,j2] W fun e W' => e = .returned (sV (f a b x)) /\ Below W.heap.size W W'
theorem sC_one (p:Nat):(sC p).length = 1 /\ ∀ u ∈ sC p,u.oneCell' = true:=⟨rfl,fun u hu => by simp [sC] at hu; subst hu; rfl⟩
theorem at_S (w0:World) (go gn bm:Nat) (s:Nat) (hs:sOK s) (ks:List Nat) (hl:ks.length <= 5000) (W:World) (h:ExQ w0 go gn bm ks W) :
  Calls Tryz.prog 179 #[sV s,.pointer (some ⟨gn,0,none⟩),.pointer (some ⟨go,0,none⟩)] W
   fun e W' => e = .returned (.int .i64 ((idxD (addS ks s) s:Nat):Int)) /\ ExQ w0 go gn bm (addS ks s) W' /\ KeepQ none W W':=by
 obtain ⟨ov,ho1,ho2⟩:=h.ro
 obtain ⟨m,hm⟩:=zx ks.length
 obtain ⟨A,c,rfl⟩:=ho2.form (n:=m) (by rw [List.length_map,hm])
 have hkey:=zpe s hs
 unfold sV at hkey ⊢
 have z1:=h.rn.cell
 have zq:=h.rn.lt; have zo:=ho1.lt
 have HK2:=zh h; have R1:=zh ho1; have K1:=zh ho2; have HM:=zh hm; have HKEY:=zh hkey
 clear h ho1 ho2 hm hkey hs
 by_cases hin:s ∈ ks
 ·rw [zqg hin]
  obtain ⟨K,hK⟩:=zx (idxD ks s)
  rw [<- hK]
  have HIN:=zh hin; have HKK:=zh hK
  clear hin hK
  go_enter Tryz.func179,Tryz.ntmps179
  go_wp2_with (at_lookup; refine zcq zev rfl (.tmp 8) (.tmp 9) _ rfl zel rfl HK2.out.nm s HIN.out K HKK.out.symm _ rfl HKEY.out ?_)
  go_returns
  exact ⟨rfl,HK2.out,KeepG.refl _ _ _ _⟩
 ·rw [zqh hin,zll hin,<- HM.out]
  have HIN:=zh hin
  clear hin
  go_enter Tryz.func179,Tryz.ntmps179
  have z3:=R1.out.cell
  go_wp2_with (first
   | (at_lookup; refine zbo zev rfl (.tmp 8) (.tmp 9) _ rfl zel rfl HK2.out.nm s HIN.out _ rfl HKEY.out ?_)
   | (at_mapUpdate; refine zaw kl_set zev rfl (.tmp 17) (.tmp 18) (.tmp 19) _ (.inl rfl) zel rfl HK2.out.nm (by have:=HM.out; omega) s HIN.out _ rfl HKEY.out (by rw [<- HM.out]; rfl) ?_; intro w1 hm1 hg1; have HM1:=zh hm1; have HG1:=zh hg1; have y3:=(R1.out.grown hg1 (fun e => HK2.out.nm.ne_row R1.out (Option.some.inj e).symm)).cell; clear hm1 hg1 z3)
   | (at_builtin; go_loud (refine zdi eS rfl (.tmp 20) (.tmp 22) rfl w0.heap.size _ _ rfl ((K1.out.grownNe HG1.out (.inr (fun e => HK2.out.nm.ne_ko K1.out e.symm))).allocd _) _ _ (sC s) rfl rfl (sC_one s).2 (fun j u hj => by rw [(Row.new w1 _ _).cell j]; simpa [sC] using hj) (by rw [List.length_map]; omega) (by simp only [World.size_alloc]; have e1:=HK2.out.below.size; have e2:=HG1.out.size; omega) ?_; intro ov' w2 ho2 hg2 _; obtain ⟨A',c',rfl⟩:=KO.form (n:=m + 1) ho2 (by rw [List.length_append,List.length_map,HM.out]; rfl); have HADD:=zh (HK2.out.add (by decide) (by decide) (by decide) R1.out K1.out HM1.out HG1.out ho2 hg2); have y6:=(HK2.out.row2 K1.out HG1.out hg2 R1.out (by decide)).cell; have y7:=(HK2.out.row2 K1.out HG1.out hg2 R1.out (by decide)).free; clear ho2 hg2)))
  go_returns
  exact ⟨rfl,HADD.out.1,HADD.out.2⟩
structure GrC (TA TN:TypeId) (V gv ga gx go gn:Nat) (j1 j2:Value) (W:World):Prop where
 rv:Row W gv 3 #[.int .i64 (V:Int)]
 ra:Row W ga TA #[.func (.func 179) #[] #[.pointer (some ⟨gn,0,none⟩),.pointer (some ⟨go,0,none⟩)]]
 rx:Row W gx TN #[.func (.func 161) #[] #[j1,j2]]
structure TyOQ (TA TN:TypeId):Prop where
 a1:TA ≠ 51
 a2:TA ≠ 48
 n1:TN ≠ 51
 n2:TN ≠ 48
 a3:TA ≠ 36
 n3:TN ≠ 36
 a4:TA ≠ 37
 n4:TN ≠ 37
theorem GrC.keepG {TA TN:TypeId} (t:TyOQ TA TN) {V gv ga gx go gn:Nat} {j1 j2:Value} {W W':World} (h:GrC TA TN V gv ga gx go gn j1 j2 W) (hk:KeepQ none W W'):GrC TA TN V gv ga gx go gn j1 j2 W' :=
 ⟨h.rv.keepG hk (by decide) (by decide) (by simp),h.ra.keepG hk t.a1 t.a2 (by simp),h.rx.keepG hk t.n1 t.n2 (by simp)⟩
theorem grow_S (P:Nat -> Prop) (hPk:∀ p,P p -> sOK p) (f:Nat -> Nat -> Nat -> Nat) (V L:Nat) (hV:V <= 3) (hL:L = 2 ^ V) (j1 j2:Value) (w0:World) (TA TN:TypeId) (ht:TyOQ TA TN) (gv ga gx go gn bm:Nat) (hnx:NextS P f L j1 j2 w0) (hok:∀ a b x,P a -> P b -> x < L -> P (f a b x))
  (ks:List Nat) (hks:∀ p ∈ ks,P p) (hlen:ks.length <= 4900) (l r:Nat) (a b:Nat) (ha:ks[l]? = some a) (hb:ks[r]? = some b) (B:Nat) (rv:Value) (vs:List Value) (hvl:vs.length <= 1000) (W:World) (hW:ExQ w0 go gn bm ks W) (hB:GrC TA TN V gv ga gx go gn j1 j2 W) (hrv:VO 36 W B rv vs) (hBB:B <= W.heap.size) (hBw:w0.heap.size <= B) :
  Calls Tryz.prog 180 #[rv,.int .i64 (l:Int),.int .i64 (r:Int),.pointer (some ⟨gv,0,none⟩),.pointer (some ⟨ga,0,none⟩),.pointer (some ⟨gx,0,none⟩),.pointer (some ⟨go,0,none⟩)] W
   fun e W' => ∃ rv' u,e = .returned rv' /\ VO 36 W' B rv' (vs ++ [u]) /\ O1 W' W.heap.size u (oI ((List.range L).map (cX f a b ks))) /\ ExQ w0 go gn bm (ksX f a b ks L) W' /\ KeepQ rv.ownBlock W W' /\ (rv'.ownBlock = rv.ownBlock \/ ∃ g,rv'.ownBlock = some g /\ W.heap.size <= g):=by
 have hsh:=zdm V hV
 rw [<- hL] at hsh
 have hL8:L <= 8:=by rw [hL]; exact Nat.pow_le_pow_right (by omega) hV
 have hV3':(V:Int) <= 3:=by omega
 have HW:=zh hW; have HBX:=zh hB; have HRV:=zh hrv; have HNX:=zh hnx; have HOK:=zh hok
 have hla:l < ks.length:=(List.getElem?_eq_some_iff.1 ha).1
 have hrb:r < ks.length:=(List.getElem?_eq_some_iff.1 hb).1
 have HA:=zh ha; have HBb:=zh hb
 have hpa:P a:=hks a (List.mem_of_getElem? ha)
 have hpb:P b:=hks b (List.mem_of_getElem? hb)
 obtain ⟨nv,hnv⟩:=zx vs.length
 obtain ⟨Ar,cr,rfl⟩:=VO.formN (n:=nv) hrv hnv.symm
 have HNV:=zh hnv
 have z0:=hB.rv.cell
 clear hL hW hB hrv hnx hok ha hb hks hnv
 go_enter Tryz.func180,Tryz.ntmps180
 go_wp2
 clear z0
 go_loopg [11,15] L (fun gk q11 q15 wr => ∃ x:Nat,x <= L /\ gk = L - x /\ q15 = .int .i64 x /\ VO 3 wr W.heap.size q11 (iL (oI ((List.range x).map (cX f a b ks)))) /\ ExQ w0 go gn bm (ksX f a b ks x) wr /\ KeepQ none W wr)
 case atStart => exact ⟨0,Nat.zero_le _,rfl,rfl,VO.nil _ _ _,HW.out,KeepG.refl _ _ _ _⟩
 case round =>
  obtain ⟨x,hx,rfl,rfl,hto,hex,hkp⟩:=hrel
  obtain ⟨wx,hwx⟩:=zx wr
  subst hwx
  obtain ⟨At,ct,rfl⟩:=VO.formN (n:=x) hto (by rw [zad,zap]; simp)
  have HTO:=zh hto; have HEX:=zh hex; have HKP:=zh hkp
  have hgrb:=HBX.out.keepG ht hkp
  clear hto hkp hsh hV3'
  by_cases hlt:x < L
  ·obtain ⟨ov,ho1,ho2⟩:=hex.ro
   have hpre:=zbj f a b ks x
   have hkl:=zit f a b ks x
   obtain ⟨m,hm⟩:=zx ((ksX f a b ks x).length)
   obtain ⟨g3,cap3,cs3,rfl,hg3,hrow3,hc1,hc2,hcell3⟩:=ho2.row (by rw [List.length_map]; have:=hpre.length_le; omega)
   rw [List.length_map,<- hm] at ho1 ho2 hc1
   have e0:=hcell3 l (sC a) (by rw [List.getElem?_map,zar hpre HA.out]; rfl)
   have e1:=hcell3 r (sC b) (by rw [List.getElem?_map,zar hpre HBb.out]; rfl)
   have a0:=e0 0 (by omega); have b0:=e1 0 (by omega)
   simp only [sC,List.getElem?_cons_zero,Nat.add_zero,Nat.mul_one] at a0 b0
   have y0:=ho1.cell; have y1:=hgrb.ra.cell; have y2:=hgrb.rx.cell
   have hpl:=hpre.length_le
   have hlm:l < m:=by omega
   have hrm:r < m:=by omega
   have hnext:=fun W' (h:Below wx.heap.size wx W') => HNX.out a b x W' hpa hpb hlt (hex.below.trans (h.mono hex.below.size))
   have HCB:=zh (fun W' (h:Below wx.heap.size wx W') => (show Calls Tryz.prog 161 #[.int .u64 (a:Int),.int .u64 (b:Int),.int .i64 (x:Int),j1,j2] W' (fun e W2 => e = .returned (sV (f a b x)) /\ Below W'.heap.size W' W2) from hnext W' h))
   have hfo:=hPk _ (HOK.out a b x hpa hpb hlt)
   have hsucc:=zb4 f a b ks x
   have hcx:cX f a b ks x = idxD (addS (ksX f a b ks x) (f a b x)) (f a b x):=by unfold cX; rw [zb4]
   have HAT:=zh (fun W' (h:Below wx.heap.size wx W') => at_S w0 go gn bm (f a b x) hfo (ksX f a b ks x) (by omega) W' (hex.keep h))
   rw [<- hsucc] at HAT
   have HSX:=zh hcx
   obtain ⟨s,hs⟩:=zx (f a b x)
   rw [<- hs] at HCB HAT
   obtain ⟨q,hq⟩:=zx (cX f a b ks x)
   have HQ:=zh (show idxD (ksX f a b ks (x + 1)) s = q by rw [hq,hs]; rfl)
   have HQ2:=zh hq
   have HGA:=zh hgrb
   have HLEN:Hid ((iL (oI ((List.range x).map (cX f a b ks)))).length + [Value.int .i64 (q:Int)].length <= 1000000):=by unfold Hid; rw [zad,zap,List.length_map,List.length_range]; simp only [List.length_cons,List.length_nil]; omega
   have hgo:=ho1.lt
   have hg3l:=hrow3.lt
   clear ho1 ho2 hrow3 hc1 hc2 hcell3 e0 e1 hpre hkl hm hnext hfo hsucc hcx hs hq hpl hg3 hgrb hex
   have ya:wx.cell? ⟨ga,0,none⟩ = some (.func (.func 179) #[] #[.pointer (some ⟨gn,0,none⟩),.pointer (some ⟨go,0,none⟩)]):=y1 0
   have yn:wx.cell? ⟨gx,0,none⟩ = some (.func (.func 161) #[] #[j1,j2]):=y2 0
   have yk:wx.cell? ⟨go,0,none⟩ = some (.slice (some ⟨g3,0,none⟩) m cap3):=y0 0
   clear y0 y1 y2
   go_upto_region 5 with fail
   refine RgA.start (c:=13) (S:=fun W' => W'.cell? ⟨ga,0,none⟩ = some (.func (.func 179) #[] #[.pointer (some ⟨gn,0,none⟩),.pointer (some ⟨go,0,none⟩)]) /\ W'.cell? ⟨gx,0,none⟩ = some (.func (.func 161) #[] #[j1,j2]) /\ W'.cell? ⟨go,0,none⟩ = some (.slice (some ⟨g3,0,none⟩) m cap3) /\ W'.cell? ⟨g3,l,none⟩ = some (.int .u64 (a:Int)) /\ W'.cell? ⟨g3,r,none⟩ = some (.int .u64 (b:Int))) (by kernel_rfl) ⟨ya,yn,yk,a0,b0⟩ ?_
   refine RgA.take0 (i:=0) (oi:=⟨some 18,_,_,_,_,_⟩) (v:=?_) rfl (by kernel_rfl) (by kernel_rfl) (by kernel_rfl) (fun _ _ _ h => h) rfl (Or.inl ⟨by rfl,?_⟩) ?_
   rotate_left 1
   ·(intro w hSw; (first | (go_simp; done) | (go_simp; with_reducible rfl)))
   try simp only [zp]
   refine RgA.take (i:=1) (oi:=⟨some 19,_,_,_,_,_⟩) (v:=?_) rfl (by kernel_rfl) (by kernel_rfl) (by kernel_rfl) (fun _ _ _ h => h) [1] (by kernel_rfl) (by rfl) rfl (Or.inl ⟨by rfl,?_⟩) ?_
   rotate_left 1
   ·(rintro w ⟨s0,s1,s2,s3,s4⟩; (first | (go_simp; done) | (go_simp; with_reducible rfl)))
   try simp only [zp]
   refine RgA.take (i:=2) (oi:=⟨some 20,_,_,_,_,_⟩) (v:=?_) rfl (by kernel_rfl) (by kernel_rfl) (by kernel_rfl) (fun _ _ _ h => h) [12,2] (by kernel_rfl) (by rfl) rfl (Or.inl ⟨by rfl,?_⟩) ?_
   rotate_left 1
   ·(rintro w ⟨s0,s1,s2,s3,s4⟩; (first | (go_simp; done) | (go_simp; with_reducible rfl)))
   try simp only [zp]
   refine RgA.take (i:=3) (oi:=⟨some 21,_,_,_,_,_⟩) (v:=?_) rfl (by kernel_rfl) (by kernel_rfl) (by kernel_rfl) (fun _ _ _ h => h) [12,6,5,3] (by kernel_rfl) (by rfl) rfl (Or.inl ⟨by rfl,?_⟩) ?_
   rotate_left 1
   ·(rintro w ⟨s0,s1,s2,s3,s4⟩; (first | (go_simp; done) | (go_simp; with_reducible rfl)))
   try simp only [zp]
   refine RgA.take (i:=4) (oi:=⟨some 22,_,_,_,_,_⟩) (v:=?_) rfl (by kernel_rfl) (by kernel_rfl) (by kernel_rfl) (fun _ _ _ h => h) [12,6,5,4] (by kernel_rfl) (by rfl) rfl (Or.inl ⟨by rfl,?_⟩) ?_
   rotate_left 1
   ·(rintro w ⟨s0,s1,s2,s3,s4⟩; (first | (go_simp; done) | (go_simp; with_reducible rfl)))
   try simp only [zp]
   refine RgA.take (i:=5) (oi:=⟨some 23,_,_,_,_,_⟩) (v:=?_) rfl (by kernel_rfl) (by kernel_rfl) (by kernel_rfl) (fun _ _ _ h => h) [12,6,5] (by kernel_rfl) (by rfl) rfl (Or.inl ⟨by rfl,?_⟩) ?_
   rotate_left 1
   ·(rintro w ⟨s0,s1,s2,s3,s4⟩; (first | (go_simp; done) | (go_simp; with_reducible rfl)))
   try simp only [zp]
   refine RgA.take (i:=6) (oi:=⟨some 24,_,_,_,_,_⟩) (v:=?_) rfl (by kernel_rfl) (by kernel_rfl) (by kernel_rfl) (fun _ _ _ h => h) [12,6] (by kernel_rfl) (by rfl) rfl (Or.inl ⟨by rfl,?_⟩) ?_
   rotate_left 1
   ·(rintro w ⟨s0,s1,s2,s3,s4⟩; (first | (go_simp; done) | (go_simp; with_reducible rfl)))
   try simp only [zp]
   refine RgA.take (i:=7) (oi:=⟨some 25,_,_,_,_,_⟩) (v:=?_) rfl (by kernel_rfl) (by kernel_rfl) (by kernel_rfl) (fun _ _ _ h => h) [12,10,9,7] (by kernel_rfl) (by rfl) rfl (Or.inl ⟨by rfl,?_⟩) ?_
   rotate_left 1
   ·(rintro w ⟨s0,s1,s2,s3,s4⟩; (first | (go_simp; done) | (go_simp; with_reducible rfl)))
   try simp only [zp]
   refine RgA.take (i:=8) (oi:=⟨some 26,_,_,_,_,_⟩) (v:=?_) rfl (by kernel_rfl) (by kernel_rfl) (by kernel_rfl) (fun _ _ _ h => h) [12,10,9,8] (by kernel_rfl) (by rfl) rfl (Or.inl ⟨by rfl,?_⟩) ?_
   rotate_left 1
   ·(rintro w ⟨s0,s1,s2,s3,s4⟩; (first | (go_simp; done) | (go_simp; with_reducible rfl)))
   try simp only [zp]
   refine RgA.take (i:=9) (oi:=⟨some 27,_,_,_,_,_⟩) (v:=?_) rfl (by kernel_rfl) (by kernel_rfl) (by kernel_rfl) (fun _ _ _ h => h) [12,10,9] (by kernel_rfl) (by rfl) rfl (Or.inl ⟨by rfl,?_⟩) ?_
   rotate_left 1
   ·(rintro w ⟨s0,s1,s2,s3,s4⟩; (first | (go_simp; done) | (go_simp; with_reducible rfl)))
   try simp only [zp]
   refine RgA.take (i:=10) (oi:=⟨some 28,_,_,_,_,_⟩) (v:=?_) rfl (by kernel_rfl) (by kernel_rfl) (by kernel_rfl) (fun _ _ _ h => h) [12,10] (by kernel_rfl) (by rfl) rfl (Or.inl ⟨by rfl,?_⟩) ?_
   rotate_left 1
   ·(rintro w ⟨s0,s1,s2,s3,s4⟩; (first | (go_simp; done) | (go_simp; with_reducible rfl)))
   try simp only [zp]
   refine RgA.take (i:=11) (oi:=⟨some 29,_,_,_,_,_⟩) (v:=?_) rfl (by kernel_rfl) (by kernel_rfl) (by kernel_rfl) (fun _ _ _ h => h) [12,11] (by kernel_rfl) (by rfl) rfl (Or.inl ⟨by rfl,?_⟩) ?_
   rotate_left 1
   ·(rintro w ⟨s0,s1,s2,s3,s4⟩; (first | (go_simp; done) | (go_simp; with_reducible rfl)))
   try simp only [zp]
   refine RgA.one (i:=12) (by kernel_rfl) rfl (fun K hK => ?_)
   go_simp
   (go_at_call 161; refine (HCB.out _ ((Below.refl _ _).drew)).mono ?_; rintro e w3 ⟨rfl,hb3⟩)
   have HB3:Hid (Below wx.heap.size wx w3):=⟨hb3.os,hb3.tape,hb3.output,hb3.size,hb3.block⟩
   clear hb3
   refine hK.out _ _ (fun _ => ⟨(HGA.out.ra.below HB3.out HGA.out.ra.lt).cell 0,(HGA.out.rx.below HB3.out HGA.out.rx.lt).cell 0,(HB3.out.cell (p:=⟨go,0,none⟩) hgo).trans yk,(HB3.out.cell (p:=⟨g3,_,none⟩) hg3l).trans a0,(HB3.out.cell (p:=⟨g3,_,none⟩) hg3l).trans b0⟩) ?_
   clear hK K
   try simp only [zp]
   refine RgA.one (i:=13) (by kernel_rfl) rfl (fun K hK => ?_)
   go_simp
   (go_at_call 179; refine (HAT.out _ HB3.out).mono ?_; rintro e w4 ⟨rfl,hex4,hkp4⟩; rw [HQ.out])
   have HEX4:=zh hex4; have HKQ:=zh ((KeepG.of_below HB3.out).trans hkp4); have HKP4:=zh (HKP.out.trans HKQ.out)
   have HTO4:=zh (VO.keepG (VO.below HTO.out HB3.out zn) hkp4 (by decide) (by decide) zdd)
   clear hex4 hkp4
   refine hK.out _ _ (fun hc => by simp at hc) ?_
   clear hK K
   try simp only [zp]
   refine RgA.one (i:=14) (by kernel_rfl) rfl (fun K hK => ?_)
   go_simp
   refine hK.out _ _ (fun hc => by simp at hc) ?_
   clear hK K
   try simp only [zp]
   refine RgA.one (i:=15) (by kernel_rfl) rfl (fun K hK => ?_)
   refine zaq eI rfl (.tmp 18) (.tmp 32) rfl W.heap.size _ _ rfl (VO.allocd HTO4.out _) _ [.int .i64 (q:Int)] rfl (VS.one (Row.new _ _ _)) (zpk [(q:Int)]) HLEN.out (HKP4.out.trans (KeepG.of_below (Below.alloc (Below.refl _ _) zn _))).size ?_
   intro v5 w5 ho5 hg5 _
   obtain ⟨A5,c5,rfl⟩:=VO.formN (n:=x + 1) ho5 (by rw [List.length_append,zad,zap,List.length_map,List.length_range]; rfl)
   have HO5:=zh ho5
   have HKP5:=zh ((HKP4.out.trans (KeepG.of_below (Below.alloc (Below.refl _ _) zn _))).grow hg5 (fun g hg => (World.ownsRow.lt HTO4.out.2 g hg).1))
   have HEX5:=zh (HEX4.out.far hg5 (VO.allocd HTO4.out _) (by decide) (by decide) (by decide) HW.out.below.size)
   clear ho5 hg5
   refine hK.out _ _ (fun hc => by simp at hc) ?_
   clear hK K
   try simp only [zp]
   refine RgA.one (i:=16) (by kernel_rfl) rfl (fun K hK => ?_)
   go_simp
   refine hK.out _ _ (fun hc => by simp at hc) ?_
   clear hK K
   try simp only [zp]
   refine RgA.done (by kernel_rfl) ?_
   have HTO5:Hid (VO 3 w5 W.heap.size (.slice A5 (x + 1) c5) (iL (oI ((List.range (x + 1)).map (cX f a b ks))))):=by
    have h:=HO5.out
    rw [HQ2.out] at h
    unfold Hid
    rw [List.range_succ,List.map_append,List.map_cons,List.map_nil,zio,zgz]
    exact h
   go_wp2
   go_roundg (L - (x + 1))
   case rel => exact ⟨x + 1,by omega,rfl,by go_num,HTO5.out,HEX5.out,HKP5.out⟩
   case measure => omega
  ·have hxe:x = L:=by omega
   have hto:=HTO.out
   rw [hxe] at hto hex
   have HXE:=zh hxe
   have HTO2:=zh hto; have HEX2:=zh hex
   clear hxe
   have HRV2:=zh (HRV.out.keepG HKP.out (by decide) (by decide) zdd)
   have hsz:=HKP.out.size
   clear hto hex hgrb
   go_wp2_with (at_builtin; refine zac eII rfl (.tmp 35) (.tmp 37) rfl B _ _ rfl (VO.allocd HRV2.out _) _ [.slice At x ct] rfl (VS.one (Row.new _ _ _)) (by intro u hu; simp at hu; subst hu; rfl) (by rw [<- HNV.out]; simp; have:=HNV.out; omega) (by simp only [World.size_alloc]; omega) ?_; intro v7 w7 ho7 hg7 hob7; have HO7:=zh ho7; have HT7:=zh (VO.far (VO.allocd HTO2.out _) (by decide) (VO.allocd HRV2.out _).2 hg7); have HE7:=zh (HEX2.out.far hg7 (VO.allocd HRV2.out _) (by decide) (by decide) (by decide) hBw); have HK7:=zh ((HKP.out.trans (KeepG.of_below (Below.alloc (Below.refl _ _) zn _))).wide.growR hg7); have HOB:=zh hob7; clear ho7 hg7 hob7)
   go_returns
   refine ⟨v7,_,rfl,HO7.out,(by rw [HXE.out]; exact HT7.out),HE7.out,HK7.out,?_⟩
   rcases HOB.out with h | h
   ·exact .inl h
   ·exact .inr ⟨_,h,by simp only [World.size_alloc]; omega⟩
theorem zo3 (D:Dta) (V:Nat) (hD:D.Fit V) (he:D.e = 0) (o:List Nat) (hn:o.length = D.n) (P:Nat -> Prop) (hP:∀ p ∈ o,P p) (fin:Nat -> Bool) (hfin:∀ i p,o[i]? = some p -> D.fin i = fin p) (j1:Value) (w:World)
  (hcb:∀ p W,P p -> Below w.heap.size w W -> Calls Tryz.prog 164 #[sV p,j1] W fun e W' => e = .returned (.bool (fin p)) /\ Below W.heap.size W W')
  (B:Nat) (kv rv:Value) (hk:KO 51 1 w B kv (o.map sC)) (hr:N3 w rv (nx3 D.n D.L D.nx)) :
  Calls Tryz.prog 163 #[.int .i64 (V:Int),kv,rv,.func (.func 164) #[] #[j1]] w (RetR w (D.mini.raw V) 0):=by
 have hn64:=hD.n64
 have hpos:=hD.pos
 obtain ⟨Ar,cr,rfl,_⟩:=hr.open
 have hlen3:(nx3 D.n D.L D.nx).length = D.n:=by simp [nx3]
 rw [hlen3] at hr ⊢
 obtain ⟨g,cap,cs,rfl,hgB,hrow,hc1,hc2,hcell⟩:=hk.row (by rw [List.length_map]; omega)
 rw [List.length_map] at hc1 ⊢
 have hglt:=hrow.lt
 have HCL:=zh (fun (i p:Nat) (hi:o[i]? = some p) => (show w.cell? ⟨g,i,none⟩ = some (.int .u64 (p:Int)) from by have h:=hcell i (sC p) (by rw [List.getElem?_map,hi]; rfl) 0 (by omega); simpa [sC] using h))
 have hmi:=fun v W (h:TD W v (D.raw V)) => zce D V hD v W h
 have HMI:=zh hmi; have HCB:=zh hcb; have HR:=zh hr; have HP:=zh hP; have HFIN:=zh hfin; have HE:=zh he
 rw [hn] at hc1 ⊢
 have HN:=zh hn
 obtain ⟨n,hnn⟩:=zx D.n
 rw [<- hnn] at hn64 hpos hc1 HR HN ⊢
 have HNN:=zh hnn
 clear hmi hcb hr hP hfin he hk hrow hcell hn hnn hlen3 hD
 go_enter Tryz.func163,Tryz.ntmps163
 go_wp2
 refine zaa (fun W => Below w.heap.size w W /\ Row W w.heap.size 30 #[.int .i64 0,.int .i64 0,.slice none 0 0,.slice none 0 0] /\ Row W (w.heap.size + 1) 30 #[.int .i64 (V:Int),.int .i64 0,.slice Ar n cr,.slice none 0 0]) ⟨by go_grown,(Row.new _ _ _).alloc _,Row.lit (by simp)⟩ ?_
 rintro w1 ⟨hb,hr0,hr1⟩
 have HB:=zh hb; have R0:=zh hr0; have R1:=zh hr1
 clear hb hr0 hr1
 go_loopg [18] n (fun gk q wr => ∃ (i:Nat) (vf:Value),i <= n /\ gk = n - i /\ q = .int .i64 i /\ Below w.heap.size w wr /\ Row wr w.heap.size 30 #[.int .i64 0,.int .i64 0,.slice none 0 0,.slice none 0 0] /\ Row wr (w.heap.size + 1) 30 #[.int .i64 (V:Int),.int .i64 0,.slice Ar n cr,vf] /\ OB wr w.heap.size vf ((List.range i).map D.fin))
 case atStart => exact ⟨0,_,Nat.zero_le _,rfl,rfl,HB.out,R0.out,R1.out,VO.nil _ _ _⟩
 case round =>
  clear HB R0 R1
  obtain ⟨i,vf,hi,rfl,rfl,hb,hr0,hr1,hof⟩:=hrel
  obtain ⟨wl,hwl⟩:=zx wr
  subst hwl
  obtain ⟨Af,cf,rfl⟩:=VO.formN (n:=i) hof (by simp [bL])
  have HB:=zh hb; have R0:=zh hr0; have R1:=zh hr1; have OF:=zh hof
  by_cases hlt:i < n
  ·obtain ⟨p,hp⟩:∃ p,o[i]? = some p:=⟨o[i]'(by rw [HN.out]; exact hlt),List.getElem?_eq_getElem _⟩
   have c0:=HCL.out i p hp
   rw [<- hb.cell (p:=⟨g,_,none⟩) hglt] at c0
   have hPp:=HP.out p (List.mem_of_getElem? hp)
   have hfp:=HFIN.out i p hp
   obtain ⟨s,hs⟩:=zx (fin p)
   have HS:=zh (show s = D.fin i by rw [hs,hfp])
   have hcb:=fun W (h:Below wl.heap.size wl W) => HCB.out p W hPp (hb.trans (h.mono hb.size))
   rw [<- hs] at hcb
   unfold sV at hcb
   have HCP:=zh hcb
   clear hb hr0 hr1 hof hp hPp hfp hs hcb
   go_upto_region 5 with fail
   refine zaa (fun W => Below wl.heap.size wl W) (Below.refl _ _) ?_
   rintro W hb
   have R0W:=zh (R0.out.below hb R0.out.lt); have R1W:=zh (R1.out.below hb R1.out.lt); have OFW:=zh (OF.out.below hb zn)
   have HBW:=zh (HB.out.trans (hb.mono HB.out.size))
   have HCW:=zh (fun W' (h:Below W.heap.size W W') => HCP.out W' (hb.trans (h.mono hb.size)))
   have z0:=R1W.out.cell; have z1:=R1W.out.free; have hz:=R1W.out.lt
   clear hb c0 HB R0 R1 OF HCP
   first
   | go_region_law (first
    | (go_simp; go_at_call 164; refine (HCW.out _ (by go_grown)).mono ?_; rintro e w3 ⟨rfl,hb3⟩; have HB3:Hid (Below W.heap.size W w3):=(show Below W.heap.size W w3 from ⟨hb3.os,hb3.tape,hb3.output,hb3.size,hb3.block⟩); have hz3:w.heap.size + 1 < w3.heap.size:=Nat.lt_of_lt_of_le hz HB3.out.size; have x0:=(R1W.out.below HB3.out hz).cell; have x1:=fun X => ((R1W.out.below HB3.out hz).alloc X).cell; clear hb3; try go_simp)
    | (refine zaq eB rfl (.tmp 23) (.tmp 27) rfl w.heap.size _ _ rfl (VO.allocd (OFW.out.below HB3.out zn) _) _ [.bool s] rfl (VS.one (by first | exact Row.new _ _ _ | exact Row.lit rfl | exact Row.litd rfl)) (zqd [s]) (by rw [zb1]; simp; omega) (by simp only [World.size_alloc]; have:=HB3.out.size; have:=HBW.out.size; omega) ?_; intro v4 w4 ho4 hg4 _; obtain ⟨A5,c5,rfl⟩:=VO.formN (n:=i + 1) ho4 (by rw [List.length_append,zb1]; simp); have HO4:=zh ho4; have R04:=zh ((Row.alloc (R0W.out.below HB3.out R0W.out.lt) _).far_own (by decide) (VO.allocd (OFW.out.below HB3.out zn) _).2 hg4); have R14:=zh ((Row.alloc (R1W.out.below HB3.out hz) _).far_own (by decide) (VO.allocd (OFW.out.below HB3.out zn) _).2 hg4); have HB4:=zh (zat (w:=w) (by have h1:=HBW.out.trans (HB3.out.mono HBW.out.size); have h2:=h1.size; go_grown) (VO.allocd (OFW.out.below HB3.out zn) _) hg4 (by simp only [World.size_alloc]; have:=HB3.out.size; have:=HBW.out.size; omega)); have z04:=R14.out.cell; have z14:=R14.out.free; clear ho4 hg4))
   | fail
   all_goals
    have OF4:Hid (OB w4 w.heap.size (.slice A5 (i + 1) c5) ((List.range (i + 1)).map D.fin)):=by
     have h:=HO4.out
     unfold Hid OB
     rw [List.range_succ,List.map_append,List.map_cons,List.map_nil,<- HS.out]
     unfold bL at h ⊢
     rw [List.map_append]
     exact h
    go_wp2
    go_roundg (n - (i + 1))
    case rel => exact ⟨i + 1,_,by omega,rfl,by go_num,HB4.out.setCell (p:=⟨w.heap.size + 1,3,none⟩) (by simp) _,R04.out.far (by simp) _,R14.out.set 3 _,OF4.out.setRow R14.out (by decide) 3 _⟩
    case measure => omega
  ·have hie:i = n:=by omega
   have hof':OB wl w.heap.size (.slice Af i cf) ((List.range D.n).map D.fin):=by rw [<- HNN.out,<- hie]; exact hof
   have htd:TD wl (.agg #[.int .i64 (V:Int),.int .i64 0,.slice Ar n cr,.slice Af i cf]) (D.raw V):=⟨_,_,by rw [show (D.raw V).empty = 0 by show ((D.e:Nat):Int) = 0; rw [HE.out]; rfl]; rfl,(show N3 wl (.slice Ar n cr) (nx3 D.n D.L D.nx) by rw [<- HNN.out]; exact HR.out.below hb zn),hof'.nb⟩
   obtain ⟨R,hR⟩:=zx (D.mini.raw V)
   have HRR:=zh hR
   have HMM:=zh (HMI.out _ wl htd)
   rw [<- hR] at HMM
   have z0:=hr1.cell
   clear hb hr0 hr1 hof hof' htd hR hie
   go_wp2_with (go_at_call 14; refine HMM.out.mono ?_; intro e w6 h6; obtain ⟨A6,c6,A7,c7,rfl,hb6,ht6⟩:=h6.unfold; have HT:=zh ht6; have HB6:=zh hb6; have RR6:=zh (R0.out.below hb6 R0.out.lt); have b0:=RR6.out.cell; have b1:=RR6.out.free; clear h6 hb6 ht6 z0)
   refine zah (fun W => Row W w.heap.size 30 #[.int .i64 R.vars,.int .i64 R.empty,.slice A6 R.next.length c6,.slice A7 R.fin.length c7] /\ TDO W wl.heap.size (.agg #[.int .i64 R.vars,.int .i64 R.empty,.slice A6 R.next.length c6,.slice A7 R.fin.length c7]) R /\ Below w.heap.size w W)
    (zaz RR6.out HT.out (HB.out.trans (HB6.out.mono HB.out.size)) zn) ?_
   clear b0 b1 RR6 HT
   rintro W5 ⟨r0,hT,hb⟩
   have b0:=r0.cell
   have q0:=b0 0; have q1:=b0 1; have q2:=b0 2; have q3:=b0 3
   simp only [zg] at q0 q1 q2 q3
   have HT:=zh (hT.mono HB.out.size); have HBX:=zh hb
   clear b0 r0 hT hb
   refine bodyPost_ret (v:=.tuple #[.agg #[.int .i64 R.vars,.int .i64 R.empty,.slice A6 R.next.length c6,.slice A7 R.fin.length c7],.int .i64 0]) (by simp [results,Tryz.results163,go_sem,q0,q1,q2,q3]) rfl ⟨_,rfl,HBX.out,?_⟩
   rw [<- HRR.out]; exact HT.out
end Go.Proofs.YthdabkmkgkkmcaaGreatDoor
