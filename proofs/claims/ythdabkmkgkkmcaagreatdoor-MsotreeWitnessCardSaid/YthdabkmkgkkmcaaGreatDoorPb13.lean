/- Part 13 of the proof; it says: lemmas and contracts. No conditions but those that each theorem states. -/
import Derived.Deep.RegionLaw
import Derived.Deep.RegionHeld3
import Derived.Test.YthdabkmkgkkmcaaGreatDoorPb01
import Derived.Test.YthdabkmkgkkmcaaGreatDoorPb11
import Derived.Test.YthdabkmkgkkmcaaGreatDoorPb12
set_option linter.unusedSimpArgs false
set_option linter.unusedVariables false
set_option linter.unusedSectionVars false
set_option maxRecDepth 100000
set_option maxHeartbeats 32000000
namespace Go.Proofs.YthdabkmkgkkmcaaGreatDoor
open Go.RowKit
theorem KeepG.grow {E1 E2:TypeId} {r row:Option Nat} {A B C:World} (h:KeepG E1 E2 r A B) (hg:B.grownBy C row) (hr:∀ g,row = some g -> A.heap.size <= g):KeepG E1 E2 r A C :=
 ⟨hg.os.trans h.os,hg.tape.trans h.tape,hg.output.trans h.output,Nat.le_trans h.size hg.size,fun g cs E fr hgg h1 h2 h3 => by
  have hl:g < A.heap.size:=(Array.getElem?_eq_some_iff.1 hgg).1
  rw [hg.block g (Nat.lt_of_lt_of_le hl h.size) (fun e => by have:=hr g e.symm; omega)]
  exact h.block g cs E fr hgg h1 h2 h3⟩
theorem KeepG.growR {E1 E2:TypeId} {row:Option Nat} {A B C:World} (h:KeepG E1 E2 row A B) (hg:B.grownBy C row):KeepG E1 E2 row A C :=
 ⟨hg.os.trans h.os,hg.tape.trans h.tape,hg.output.trans h.output,Nat.le_trans h.size hg.size,fun g cs E fr hgg h1 h2 h3 => by
  have hl:g < A.heap.size:=(Array.getElem?_eq_some_iff.1 hgg).1
  rw [hg.block g (Nat.lt_of_lt_of_le hl h.size) h3]
  exact h.block g cs E fr hgg h1 h2 h3⟩
section
variable {α:Type} [DecidableEq α]
def ksX (f:α -> α -> Nat -> α) (a b:α) (ks:List α) (x:Nat):List α:=(List.range x).foldl (fun o x => addS o (f a b x)) ks
theorem zb4 (f:α -> α -> Nat -> α) (a b:α) (ks:List α) (x:Nat):ksX f a b ks (x + 1) = addS (ksX f a b ks x) (f a b x):=by
 unfold ksX; rw [List.range_succ,List.foldl_append]; rfl
theorem zbj (f:α -> α -> Nat -> α) (a b:α) (ks:List α) (x:Nat):ks <+: ksX f a b ks x:=by
 induction x with
 | zero => exact List.prefix_refl _
 | succ x ih => rw [zb4]; exact ih.trans (zd6 _ _)
theorem zri (f:α -> α -> Nat -> α) (a b:α) (ks:List α) {x y:Nat} (h:x <= y):ksX f a b ks x <+: ksX f a b ks y:=by
  induction y with
  | zero => have:x = 0:=by omega
            subst this; exact List.prefix_refl _
  | succ y ih =>
    by_cases e:x = y + 1
    · subst e; exact List.prefix_refl _
    · rw [zb4]; exact (ih (by omega)).trans (zd6 _ _)
theorem zit (f:α -> α -> Nat -> α) (a b:α) (ks:List α) (x:Nat):(ksX f a b ks x).length <= ks.length + x:=by
 induction x with
 | zero => exact zn
 | succ x ih =>
  rw [zb4]
  have:(addS (ksX f a b ks x) (f a b x)).length <= (ksX f a b ks x).length + 1:=by unfold addS; split <;> simp
  omega
def cX (f:α -> α -> Nat -> α) (a b:α) (ks:List α) (x:Nat):Nat:=idxD (ksX f a b ks (x + 1)) (f a b x)
theorem zrm {o:List α} {s:α} (h:s ∈ o):o[idxD o s]? = some s:=by
 induction o with
 | nil => simp at h
 | cons b o ih =>
  rw [zbv]
  by_cases e:b = s
  ·subst e; rw [if_pos rfl]; rfl
  ·rw [if_neg e]
   have:s ∈ o:=by
    rcases List.mem_cons.1 h with h | h
    ·exact absurd h.symm e
    ·exact h
   simpa using ih this
theorem cX_get (f:α -> α -> Nat -> α) (a b:α) (ks:List α) {x L:Nat} (h:x < L):(ksX f a b ks L)[cX f a b ks x]? = some (f a b x):=by
 refine zar (zri f a b ks (show x + 1 <= L from h)) ?_
 exact zrm (by rw [zb4]; exact zl7 _ _)
end
theorem zdd {v:Value}:v.ownBlock = none \/ v.ownBlock ≠ none:=by cases v.ownBlock <;> simp
theorem ExI.far {α:Type} [DecidableEq α] {K SK MT:TypeId} {n:Nat} {lit:α -> Lit} {kC:α -> List Value} {w0:World} {go gn bm:Nat} {ks:List α} {W w':World} {X:Obj} {E:TypeId} {B:Nat} {u:Value} {xs:List Value} (h:ExI K SK MT n lit kC w0 go gn bm ks W)
  (hg:(W.alloc X).grownBy w' u.ownBlock) (hu:VO E (W.alloc X) B u xs) (h1:K ≠ E) (h2:SK ≠ E) (h3:MT ≠ E) (hB:w0.heap.size <= B):ExI K SK MT n lit kC w0 go gn bm ks w':=by
 have hk:=h.keep (Below.alloc (Below.refl W.heap.size W) zn X)
 obtain ⟨ov,r1,r2⟩:=hk.ro
 exact ⟨hk.below.grown hg hk.below.size (fun k hk => Nat.le_trans hB (World.ownsRow.lt hu.2 k hk).1),hk.rn.far_own h3 hu.2 hg,hk.nm.kept hg (fun e => hk.nm.ne_own hu e),⟨ov,r1.far_own h2 hu.2 hg,r2.far h1 hu.2 hg⟩,hk.bd⟩
structure GrB (TA TN:TypeId) (V gv ga gx go gn:Nat) (j1 j2:Value) (W:World):Prop where
 rv:Row W gv 3 #[.int .i64 (V:Int)]
 ra:Row W ga TA #[.func (.func 133) #[] #[.pointer (some ⟨gn,0,none⟩),.pointer (some ⟨go,0,none⟩)]]
 rx:Row W gx TN #[.func (.func 95) #[] #[j1,j2]]
structure TyOK (TA TN:TypeId):Prop where
 a1:TA ≠ 146
 a2:TA ≠ 142
 n1:TN ≠ 146
 n2:TN ≠ 142
 a3:TA ≠ 36
 n3:TN ≠ 36
 a4:TA ≠ 37
 n4:TN ≠ 37
theorem GrB.keepG {TA TN:TypeId} (t:TyOK TA TN) {V gv ga gx go gn:Nat} {j1 j2:Value} {W W':World} (h:GrB TA TN V gv ga gx go gn j1 j2 W) (hk:KeepP none W W'):GrB TA TN V gv ga gx go gn j1 j2 W' :=
 ⟨h.rv.keepG hk (by decide) (by decide) (by simp),h.ra.keepG hk t.a1 t.a2 (by simp),h.rx.keepG hk t.n1 t.n2 (by simp)⟩
theorem grow_P (P:Nat × Nat -> Prop) (hPk:∀ p,P p -> pOK p) (f:Nat × Nat -> Nat × Nat -> Nat -> Nat × Nat) (V L:Nat) (hV:V <= 3) (hL:L = 2 ^ V) (j1 j2:Value) (w0:World) (TA TN:TypeId) (ht:TyOK TA TN) (gv ga gx go gn bm:Nat) (hnx:NextP P f L j1 j2 w0) (hok:∀ a b x,P a -> P b -> x < L -> P (f a b x))
  (ks:List (Nat × Nat)) (hks:∀ p ∈ ks,P p) (hlen:ks.length <= 4900) (l r:Nat) (a b:Nat × Nat) (ha:ks[l]? = some a) (hb:ks[r]? = some b) (B:Nat) (rv:Value) (vs:List Value) (hvl:vs.length <= 1000) (W:World) (hW:ExP w0 go gn bm ks W) (hB:GrB TA TN V gv ga gx go gn j1 j2 W) (hrv:VO 36 W B rv vs) (hBB:B <= W.heap.size) (hBw:w0.heap.size <= B) :
  Calls Tryz.prog 134 #[rv,.int .i64 (l:Int),.int .i64 (r:Int),.pointer (some ⟨gv,0,none⟩),.pointer (some ⟨ga,0,none⟩),.pointer (some ⟨gx,0,none⟩),.pointer (some ⟨go,0,none⟩)] W
   fun e W' => ∃ rv' u,e = .returned rv' /\ VO 36 W' B rv' (vs ++ [u]) /\ O1 W' W.heap.size u (oI ((List.range L).map (cX f a b ks))) /\ ExP w0 go gn bm (ksX f a b ks L) W' /\ KeepP rv.ownBlock W W' /\ (rv'.ownBlock = rv.ownBlock \/ ∃ g,rv'.ownBlock = some g /\ W.heap.size <= g):=by
 have hsh:=zdm V hV
 rw [<- hL] at hsh
 have hL8:L <= 8:=by rw [hL]; exact Nat.pow_le_pow_right (by omega) hV
 have hV3':(V:Int) <= 3:=by omega
 have HW:=zh hW; have HBX:=zh hB; have HRV:=zh hrv; have HNX:=zh hnx; have HOK:=zh hok
 have hla:l < ks.length:=(List.getElem?_eq_some_iff.1 ha).1
 have hrb:r < ks.length:=(List.getElem?_eq_some_iff.1 hb).1
 have HA:=zh ha; have HBb:=zh hb
 have hpa:P a:=hks a (List.mem_of_getElem? ha)
 have hpb:P b:=hks b (List.mem_of_getElem? hb)
 obtain ⟨nv,hnv⟩:=zx vs.length
 obtain ⟨Ar,cr,rfl⟩:=VO.formN (n:=nv) hrv hnv.symm
 have HNV:=zh hnv
 have z0:=hB.rv.cell
 clear hL hW hB hrv hnx hok ha hb hks hnv
 go_enter Tryz.func134,Tryz.ntmps134
 go_wp2
 clear z0
 go_loopg [11,15] L (fun gk q11 q15 wr => ∃ x:Nat,x <= L /\ gk = L - x /\ q15 = .int .i64 x /\ VO 3 wr W.heap.size q11 (iL (oI ((List.range x).map (cX f a b ks)))) /\ ExP w0 go gn bm (ksX f a b ks x) wr /\ KeepP none W wr)
 case atStart => exact ⟨0,Nat.zero_le _,rfl,rfl,VO.nil _ _ _,HW.out,KeepG.refl _ _ _ _⟩
 case round =>
  obtain ⟨x,hx,rfl,rfl,hto,hex,hkp⟩:=hrel
  obtain ⟨wx,hwx⟩:=zx wr
  subst hwx
  obtain ⟨At,ct,rfl⟩:=VO.formN (n:=x) hto (by rw [zad,zap]; simp)
  have HTO:=zh hto; have HEX:=zh hex; have HKP:=zh hkp
  have hgrb:=HBX.out.keepG ht hkp
  clear hto hkp hsh hV3'
  by_cases hlt:x < L
  ·obtain ⟨ov,ho1,ho2⟩:=hex.ro
   have hpre:=zbj f a b ks x
   have hkl:=zit f a b ks x
   obtain ⟨m,hm⟩:=zx ((ksX f a b ks x).length)
   obtain ⟨g3,cap3,cs3,rfl,hg3,hrow3,hc1,hc2,hcell3⟩:=ho2.row (by rw [List.length_map]; have:=hpre.length_le; omega)
   rw [List.length_map,<- hm] at ho1 ho2 hc1
   have e0:=hcell3 l (pC a) (by rw [List.getElem?_map,zar hpre HA.out]; rfl)
   have e1:=hcell3 r (pC b) (by rw [List.getElem?_map,zar hpre HBb.out]; rfl)
   have a0:=e0 0 (by omega); have a1:=e0 1 (by omega); have b0:=e1 0 (by omega); have b1:=e1 1 (by omega)
   simp only [pC,List.getElem?_cons_zero,List.getElem?_cons_succ,Nat.add_zero] at a0 a1 b0 b1
   have y0:=ho1.cell; have y1:=hgrb.ra.cell; have y2:=hgrb.rx.cell
   have hpl:=hpre.length_le
   have hlm:l < m:=by omega
   have hrm:r < m:=by omega
   have hnext:=fun W' (h:Below wx.heap.size wx W') => HNX.out a b x W' hpa hpb hlt (hex.below.trans (h.mono hex.below.size))
   have HCB:=zh (fun W' (h:Below wx.heap.size wx W') => (show Calls Tryz.prog 95 #[.agg #[.int .i64 (a.1:Int),.int .i64 (a.2:Int)],.agg #[.int .i64 (b.1:Int),.int .i64 (b.2:Int)],.int .i64 (x:Int),j1,j2] W' (fun e W2 => e = .returned (pV (f a b x)) /\ Below W'.heap.size W' W2) from hnext W' h))
   have hfo:=hPk _ (HOK.out a b x hpa hpb hlt)
   have hsucc:=zb4 f a b ks x
   have hcx:cX f a b ks x = idxD (addS (ksX f a b ks x) (f a b x)) (f a b x):=by unfold cX; rw [zb4]
   have HAT:=zh (fun W' (h:Below wx.heap.size wx W') => at_P w0 go gn bm (f a b x) hfo (ksX f a b ks x) (by omega) W' (hex.keep h))
   rw [<- hsucc] at HAT
   have HSX:=zh hcx
   obtain ⟨s,hs⟩:=zx (f a b x)
   rw [<- hs] at HCB HAT
   obtain ⟨q,hq⟩:=zx (cX f a b ks x)
   have HQ:=zh (show idxD (ksX f a b ks (x + 1)) s = q by rw [hq,hs]; rfl)
   have HQ2:=zh hq
   have HGA:=zh hgrb
   have HLEN:Hid ((iL (oI ((List.range x).map (cX f a b ks)))).length + [Value.int .i64 (q:Int)].length <= 1000000):=by unfold Hid; rw [zad,zap,List.length_map,List.length_range]; simp only [List.length_cons,List.length_nil]; omega
   have hgo:=ho1.lt
   have hg3l:=hrow3.lt
   clear ho1 ho2 hrow3 hc1 hc2 hcell3 e0 e1 hpre hkl hm hnext hfo hsucc hcx hs hq hpl hg3 hgrb hex
   have ya:wx.cell? ⟨ga,0,none⟩ = some (.func (.func 133) #[] #[.pointer (some ⟨gn,0,none⟩),.pointer (some ⟨go,0,none⟩)]):=y1 0
   have yn:wx.cell? ⟨gx,0,none⟩ = some (.func (.func 95) #[] #[j1,j2]):=y2 0
   have yk:wx.cell? ⟨go,0,none⟩ = some (.slice (some ⟨g3,0,none⟩) m cap3):=y0 0
   clear y0 y1 y2
   go_upto_region 5 with fail
   refine RgA.start (c:=13) (S:=fun W' => W'.cell? ⟨ga,0,none⟩ = some (.func (.func 133) #[] #[.pointer (some ⟨gn,0,none⟩),.pointer (some ⟨go,0,none⟩)]) /\ W'.cell? ⟨gx,0,none⟩ = some (.func (.func 95) #[] #[j1,j2]) /\ W'.cell? ⟨go,0,none⟩ = some (.slice (some ⟨g3,0,none⟩) m cap3) /\ W'.cell? ⟨g3,l * 2,none⟩ = some (.int .i64 (a.1:Int)) /\ W'.cell? ⟨g3,l * 2 + 1,none⟩ = some (.int .i64 (a.2:Int)) /\ W'.cell? ⟨g3,r * 2,none⟩ = some (.int .i64 (b.1:Int)) /\ W'.cell? ⟨g3,r * 2 + 1,none⟩ = some (.int .i64 (b.2:Int))) (by kernel_rfl) ⟨ya,yn,yk,a0,a1,b0,b1⟩ ?_
   refine RgA.take0 (i:=0) (oi:=⟨some 18,_,_,_,_,_⟩) (v:=?_) rfl (by kernel_rfl) (by kernel_rfl) (by kernel_rfl) (fun _ _ _ h => h) rfl (Or.inl ⟨by rfl,?_⟩) ?_
   rotate_left 1
   ·(intro w hSw; (first | (go_simp; done) | (go_simp; with_reducible rfl)))
   try simp only [zp]
   refine RgA.take (i:=1) (oi:=⟨some 19,_,_,_,_,_⟩) (v:=?_) rfl (by kernel_rfl) (by kernel_rfl) (by kernel_rfl) (fun _ _ _ h => h) [1] (by kernel_rfl) (by rfl) rfl (Or.inl ⟨by rfl,?_⟩) ?_
   rotate_left 1
   ·(rintro w ⟨s0,s1,s2,s3,s4,s5,s6⟩; (first | (go_simp; done) | (go_simp; with_reducible rfl)))
   try simp only [zp]
   refine RgA.take (i:=2) (oi:=⟨some 20,_,_,_,_,_⟩) (v:=?_) rfl (by kernel_rfl) (by kernel_rfl) (by kernel_rfl) (fun _ _ _ h => h) [12,2] (by kernel_rfl) (by rfl) rfl (Or.inl ⟨by rfl,?_⟩) ?_
   rotate_left 1
   ·(rintro w ⟨s0,s1,s2,s3,s4,s5,s6⟩; (first | (go_simp; done) | (go_simp; with_reducible rfl)))
   try simp only [zp]
   refine RgA.take (i:=3) (oi:=⟨some 21,_,_,_,_,_⟩) (v:=?_) rfl (by kernel_rfl) (by kernel_rfl) (by kernel_rfl) (fun _ _ _ h => h) [12,6,5,3] (by kernel_rfl) (by rfl) rfl (Or.inl ⟨by rfl,?_⟩) ?_
   rotate_left 1
   ·(rintro w ⟨s0,s1,s2,s3,s4,s5,s6⟩; (first | (go_simp; done) | (go_simp; with_reducible rfl)))
   try simp only [zp]
   refine RgA.take (i:=4) (oi:=⟨some 22,_,_,_,_,_⟩) (v:=?_) rfl (by kernel_rfl) (by kernel_rfl) (by kernel_rfl) (fun _ _ _ h => h) [12,6,5,4] (by kernel_rfl) (by rfl) rfl (Or.inl ⟨by rfl,?_⟩) ?_
   rotate_left 1
   ·(rintro w ⟨s0,s1,s2,s3,s4,s5,s6⟩; (first | (go_simp; done) | (go_simp; with_reducible rfl)))
   try simp only [zp]
   refine RgA.take (i:=5) (oi:=⟨some 23,_,_,_,_,_⟩) (v:=?_) rfl (by kernel_rfl) (by kernel_rfl) (by kernel_rfl) (fun _ _ _ h => h) [12,6,5] (by kernel_rfl) (by rfl) rfl (Or.inl ⟨by rfl,?_⟩) ?_
   rotate_left 1
   ·(rintro w ⟨s0,s1,s2,s3,s4,s5,s6⟩; (first | (go_simp; done) | (go_simp; with_reducible rfl)))
   try simp only [zp]
   refine RgA.take (i:=6) (oi:=⟨some 24,_,_,_,_,_⟩) (v:=?_) rfl (by kernel_rfl) (by kernel_rfl) (by kernel_rfl) (fun _ _ _ h => h) [12,6] (by kernel_rfl) (by rfl) rfl (Or.inl ⟨by rfl,?_⟩) ?_
   rotate_left 1
   ·(rintro w ⟨s0,s1,s2,s3,s4,s5,s6⟩; (first | (go_simp; done) | (go_simp; with_reducible rfl)))
   try simp only [zp]
   refine RgA.take (i:=7) (oi:=⟨some 25,_,_,_,_,_⟩) (v:=?_) rfl (by kernel_rfl) (by kernel_rfl) (by kernel_rfl) (fun _ _ _ h => h) [12,10,9,7] (by kernel_rfl) (by rfl) rfl (Or.inl ⟨by rfl,?_⟩) ?_
   rotate_left 1
   ·(rintro w ⟨s0,s1,s2,s3,s4,s5,s6⟩; (first | (go_simp; done) | (go_simp; with_reducible rfl)))
   try simp only [zp]
   refine RgA.take (i:=8) (oi:=⟨some 26,_,_,_,_,_⟩) (v:=?_) rfl (by kernel_rfl) (by kernel_rfl) (by kernel_rfl) (fun _ _ _ h => h) [12,10,9,8] (by kernel_rfl) (by rfl) rfl (Or.inl ⟨by rfl,?_⟩) ?_
   rotate_left 1
   ·(rintro w ⟨s0,s1,s2,s3,s4,s5,s6⟩; (first | (go_simp; done) | (go_simp; with_reducible rfl)))
   try simp only [zp]
   refine RgA.take (i:=9) (oi:=⟨some 27,_,_,_,_,_⟩) (v:=?_) rfl (by kernel_rfl) (by kernel_rfl) (by kernel_rfl) (fun _ _ _ h => h) [12,10,9] (by kernel_rfl) (by rfl) rfl (Or.inl ⟨by rfl,?_⟩) ?_
   rotate_left 1
   ·(rintro w ⟨s0,s1,s2,s3,s4,s5,s6⟩; (first | (go_simp; done) | (go_simp; with_reducible rfl)))
   try simp only [zp]
   refine RgA.take (i:=10) (oi:=⟨some 28,_,_,_,_,_⟩) (v:=?_) rfl (by kernel_rfl) (by kernel_rfl) (by kernel_rfl) (fun _ _ _ h => h) [12,10] (by kernel_rfl) (by rfl) rfl (Or.inl ⟨by rfl,?_⟩) ?_
   rotate_left 1
   ·(rintro w ⟨s0,s1,s2,s3,s4,s5,s6⟩; (first | (go_simp; done) | (go_simp; with_reducible rfl)))
   try simp only [zp]
   refine RgA.take (i:=11) (oi:=⟨some 29,_,_,_,_,_⟩) (v:=?_) rfl (by kernel_rfl) (by kernel_rfl) (by kernel_rfl) (fun _ _ _ h => h) [12,11] (by kernel_rfl) (by rfl) rfl (Or.inl ⟨by rfl,?_⟩) ?_
   rotate_left 1
   ·(rintro w ⟨s0,s1,s2,s3,s4,s5,s6⟩; (first | (go_simp; done) | (go_simp; with_reducible rfl)))
   try simp only [zp]
   refine RgA.one (i:=12) (by kernel_rfl) rfl (fun K hK => ?_)
   go_simp
   (go_at_call 95; refine (HCB.out _ ((Below.refl _ _).drew)).mono ?_; rintro e w3 ⟨rfl,hb3⟩)
   have HB3:Hid (Below wx.heap.size wx w3):=⟨hb3.os,hb3.tape,hb3.output,hb3.size,hb3.block⟩
   clear hb3
   refine hK.out _ _ (fun _ => ⟨(HGA.out.ra.below HB3.out HGA.out.ra.lt).cell 0,(HGA.out.rx.below HB3.out HGA.out.rx.lt).cell 0,(HB3.out.cell (p:=⟨go,0,none⟩) hgo).trans yk,(HB3.out.cell (p:=⟨g3,_,none⟩) hg3l).trans a0,(HB3.out.cell (p:=⟨g3,_,none⟩) hg3l).trans a1,(HB3.out.cell (p:=⟨g3,_,none⟩) hg3l).trans b0,(HB3.out.cell (p:=⟨g3,_,none⟩) hg3l).trans b1⟩) ?_
   clear hK K
   try simp only [zp]
   refine RgA.one (i:=13) (by kernel_rfl) rfl (fun K hK => ?_)
   go_simp
   (go_at_call 133; refine (HAT.out _ HB3.out).mono ?_; rintro e w4 ⟨rfl,hex4,hkp4⟩; rw [HQ.out])
   have HEX4:=zh hex4; have HKQ:=zh ((KeepG.of_below HB3.out).trans hkp4); have HKP4:=zh (HKP.out.trans HKQ.out)
   have HTO4:=zh (VO.keepG (VO.below HTO.out HB3.out zn) hkp4 (by decide) (by decide) zdd)
   clear hex4 hkp4
   refine hK.out _ _ (fun hc => by simp at hc) ?_
   clear hK K
   try simp only [zp]
   refine RgA.one (i:=14) (by kernel_rfl) rfl (fun K hK => ?_)
   go_simp
   refine hK.out _ _ (fun hc => by simp at hc) ?_
   clear hK K
   try simp only [zp]
   refine RgA.one (i:=15) (by kernel_rfl) rfl (fun K hK => ?_)
   refine zaq eI rfl (.tmp 18) (.tmp 32) rfl W.heap.size _ _ rfl (VO.allocd HTO4.out _) _ [.int .i64 (q:Int)] rfl (VS.one (Row.new _ _ _)) (zpk [(q:Int)]) HLEN.out (HKP4.out.trans (KeepG.of_below (Below.alloc (Below.refl _ _) zn _))).size ?_
   intro v5 w5 ho5 hg5 _
   obtain ⟨A5,c5,rfl⟩:=VO.formN (n:=x + 1) ho5 (by rw [List.length_append,zad,zap,List.length_map,List.length_range]; rfl)
   have HO5:=zh ho5
   have HKP5:=zh ((HKP4.out.trans (KeepG.of_below (Below.alloc (Below.refl _ _) zn _))).grow hg5 (fun g hg => (World.ownsRow.lt HTO4.out.2 g hg).1))
   have HEX5:=zh (HEX4.out.far hg5 (VO.allocd HTO4.out _) (by decide) (by decide) (by decide) HW.out.below.size)
   clear ho5 hg5
   refine hK.out _ _ (fun hc => by simp at hc) ?_
   clear hK K
   try simp only [zp]
   refine RgA.one (i:=16) (by kernel_rfl) rfl (fun K hK => ?_)
   go_simp
   refine hK.out _ _ (fun hc => by simp at hc) ?_
   clear hK K
   try simp only [zp]
   refine RgA.done (by kernel_rfl) ?_
   have HTO5:Hid (VO 3 w5 W.heap.size (.slice A5 (x + 1) c5) (iL (oI ((List.range (x + 1)).map (cX f a b ks))))):=by
    have h:=HO5.out
    rw [HQ2.out] at h
    unfold Hid
    rw [List.range_succ,List.map_append,List.map_cons,List.map_nil,zio,zgz]
    exact h
   go_wp2
   go_roundg (L - (x + 1))
   case rel => exact ⟨x + 1,by omega,rfl,by go_num,HTO5.out,HEX5.out,HKP5.out⟩
   case measure => omega
  ·have hxe:x = L:=by omega
   have hto:=HTO.out
   rw [hxe] at hto hex
   have HXE:=zh hxe
   have HTO2:=zh hto; have HEX2:=zh hex
   clear hxe
   have HRV2:=zh (HRV.out.keepG HKP.out (by decide) (by decide) zdd)
   have hsz:=HKP.out.size
   clear hto hex hgrb
   go_wp2_with (at_builtin; refine zac eII rfl (.tmp 35) (.tmp 37) rfl B _ _ rfl (VO.allocd HRV2.out _) _ [.slice At x ct] rfl (VS.one (Row.new _ _ _)) (by intro u hu; simp at hu; subst hu; rfl) (by rw [<- HNV.out]; simp; have:=HNV.out; omega) (by simp only [World.size_alloc]; omega) ?_; intro v7 w7 ho7 hg7 hob7; have HO7:=zh ho7; have HT7:=zh (VO.far (VO.allocd HTO2.out _) (by decide) (VO.allocd HRV2.out _).2 hg7); have HE7:=zh (HEX2.out.far hg7 (VO.allocd HRV2.out _) (by decide) (by decide) (by decide) hBw); have HK7:=zh ((HKP.out.trans (KeepG.of_below (Below.alloc (Below.refl _ _) zn _))).wide.growR hg7); have HOB:=zh hob7; clear ho7 hg7 hob7)
   go_returns
   refine ⟨v7,_,rfl,HO7.out,(by rw [HXE.out]; exact HT7.out),HE7.out,HK7.out,?_⟩
   rcases HOB.out with h | h
   ·exact .inl h
   ·exact .inr ⟨_,h,by simp only [World.size_alloc]; omega⟩
end Go.Proofs.YthdabkmkgkkmcaaGreatDoor
namespace Go.Proofs.YthdabkmkgkkmcaaGreatDoor
open Go.RowKit
theorem con_And (p q:Bool) (w:World):Calls Tryz.prog 56 #[.bool p,.bool q] w fun e w' => e = .returned (.bool (p && q)) /\ w = w':=by
 cases p <;> cases q <;> (go_enter Tryz.func56,Tryz.ntmps56; go_wp2; go_returns; exact ⟨rfl,rfl⟩)
theorem zjd (a b:Dta) (V:Nat) (ha:a.Fit V) (hb:b.Fit V) (w0:World) (gf gA gB:Nat) (TF:TypeId) (vn vf un uf:Value) (hF:Row w0 gf TF #[.func (.func 56) #[] #[]]) (hA:AutV w0 gA V a vn vf) (hB:AutV w0 gB V b un uf) (p:Nat × Nat) (hp:inP a b p) (W:World) (hbw:Below w0.heap.size w0 W) :
  Calls Tryz.prog 97 #[pV p,.pointer (some ⟨gf,0,none⟩),.pointer (some ⟨gA,0,none⟩),.pointer (some ⟨gB,0,none⟩)] W fun e W' => e = .returned (.bool ((fun p q => p && q) (a.fin p.1) (b.fin p.2))) /\ Below W.heap.size W W':=by
 have hA2:=hA.below hbw zn
 have hB2:=hB.below hbw zn
 have hF2:=hF.below hbw hF.lt
 obtain ⟨bk,ok,ck,rfl,hk1,hbk,hk2⟩:=hA2.hf.at ha.pos
 obtain ⟨bl,ol,cl,rfl,hl1,hbl,hl2⟩:=hB2.hf.at hb.pos
 obtain ⟨p1,p2⟩:=p
 obtain ⟨hp1,hp2⟩:=hp
 simp only at hp1 hp2
 have c0:=hk2 p1 hp1
 have d0:=hl2 p2 hp2
 unfold pV
 simp only
 obtain ⟨s,hs⟩:=zx (a.fin p1)
 obtain ⟨t,ht⟩:=zx (b.fin p2)
 rw [<- hs] at c0 ⊢
 rw [<- ht] at d0 ⊢
 have RA:=zh hA2.row; have RB:=zh hB2.row; have RF:=zh hF2
 obtain ⟨n,hnn⟩:=zx a.n
 obtain ⟨n',hnn'⟩:=zx b.n
 rw [<- hnn] at hp1 RA
 rw [<- hnn'] at hp2 RB
 have HCC:=zh (fun W1 (h:Below W.heap.size W W1) => (show W1.cell? ⟨bk,ok + p1,none⟩ = _ /\ W1.cell? ⟨bl,ol + p2,none⟩ = _ from ⟨(h.cell (p:=⟨bk,_,none⟩) hbk).trans c0,(h.cell (p:=⟨bl,_,none⟩) hbl).trans d0⟩))
 clear hA hB hF hA2 hB2 hF2 hk2 hl2 c0 d0 hs ht hnn hnn' hbw ha hb hbk hbl hk1 hl1
 go_enter Tryz.func97,Tryz.ntmps97
 go_upto_region 1 with fail
 refine zaa (fun W1 => Below W.heap.size W W1 /\ Row W1 W.heap.size 146 #[.int .i64 (p1:Int),.int .i64 (p2:Int)]) ⟨by go_grown,Row.new _ _ _⟩ ?_
 rintro W1 ⟨hb,r1⟩
 obtain ⟨c0,d0⟩:=HCC.out W1 hb
 have z1:=(RA.out.below hb RA.out.lt).cell; have z2:=(RB.out.below hb RB.out.lt).cell; have z3:=(RF.out.below hb RF.out.lt).cell
 have y1:=r1.cell
 have HB:=zh hb
 clear hb r1 HCC RA RB RF
 go_still_tail 13,(by kernel_rfl)
 change wpList _ _ _ _ _ W1.drew
 have HBD:=zh (HB.out.drew)
 generalize W1.drew = W2 at *
 go_wp2_with (go_at_call 56; refine (con_And s t _).mono ?_; rintro e w3 ⟨rfl,rfl⟩)
 go_returns
 exact ⟨rfl,HBD.out⟩
theorem con_Or (p q:Bool) (w:World):Calls Tryz.prog 57 #[.bool p,.bool q] w fun e w' => e = .returned (.bool (p || q)) /\ w = w':=by
 cases p <;> cases q <;> (go_enter Tryz.func57,Tryz.ntmps57; go_wp2; go_returns; exact ⟨rfl,rfl⟩)
theorem zke (a b:Dta) (V:Nat) (ha:a.Fit V) (hb:b.Fit V) (w0:World) (gf gA gB:Nat) (TF:TypeId) (vn vf un uf:Value) (hF:Row w0 gf TF #[.func (.func 57) #[] #[]]) (hA:AutV w0 gA V a vn vf) (hB:AutV w0 gB V b un uf) (p:Nat × Nat) (hp:inP a b p) (W:World) (hbw:Below w0.heap.size w0 W) :
  Calls Tryz.prog 97 #[pV p,.pointer (some ⟨gf,0,none⟩),.pointer (some ⟨gA,0,none⟩),.pointer (some ⟨gB,0,none⟩)] W fun e W' => e = .returned (.bool ((fun p q => p || q) (a.fin p.1) (b.fin p.2))) /\ Below W.heap.size W W':=by
 have hA2:=hA.below hbw zn
 have hB2:=hB.below hbw zn
 have hF2:=hF.below hbw hF.lt
 obtain ⟨bk,ok,ck,rfl,hk1,hbk,hk2⟩:=hA2.hf.at ha.pos
 obtain ⟨bl,ol,cl,rfl,hl1,hbl,hl2⟩:=hB2.hf.at hb.pos
 obtain ⟨p1,p2⟩:=p
 obtain ⟨hp1,hp2⟩:=hp
 simp only at hp1 hp2
 have c0:=hk2 p1 hp1
 have d0:=hl2 p2 hp2
 unfold pV
 simp only
 obtain ⟨s,hs⟩:=zx (a.fin p1)
 obtain ⟨t,ht⟩:=zx (b.fin p2)
 rw [<- hs] at c0 ⊢
 rw [<- ht] at d0 ⊢
 have RA:=zh hA2.row; have RB:=zh hB2.row; have RF:=zh hF2
 obtain ⟨n,hnn⟩:=zx a.n
 obtain ⟨n',hnn'⟩:=zx b.n
 rw [<- hnn] at hp1 RA
 rw [<- hnn'] at hp2 RB
 have HCC:=zh (fun W1 (h:Below W.heap.size W W1) => (show W1.cell? ⟨bk,ok + p1,none⟩ = _ /\ W1.cell? ⟨bl,ol + p2,none⟩ = _ from ⟨(h.cell (p:=⟨bk,_,none⟩) hbk).trans c0,(h.cell (p:=⟨bl,_,none⟩) hbl).trans d0⟩))
 clear hA hB hF hA2 hB2 hF2 hk2 hl2 c0 d0 hs ht hnn hnn' hbw ha hb hbk hbl hk1 hl1
 go_enter Tryz.func97,Tryz.ntmps97
 go_upto_region 1 with fail
 refine zaa (fun W1 => Below W.heap.size W W1 /\ Row W1 W.heap.size 146 #[.int .i64 (p1:Int),.int .i64 (p2:Int)]) ⟨by go_grown,Row.new _ _ _⟩ ?_
 rintro W1 ⟨hb,r1⟩
 obtain ⟨c0,d0⟩:=HCC.out W1 hb
 have z1:=(RA.out.below hb RA.out.lt).cell; have z2:=(RB.out.below hb RB.out.lt).cell; have z3:=(RF.out.below hb RF.out.lt).cell
 have y1:=r1.cell
 have HB:=zh hb
 clear hb r1 HCC RA RB RF
 go_still_tail 13,(by kernel_rfl)
 change wpList _ _ _ _ _ W1.drew
 have HBD:=zh (HB.out.drew)
 generalize W1.drew = W2 at *
 go_wp2_with (go_at_call 57; refine (con_Or s t _).mono ?_; rintro e w3 ⟨rfl,rfl⟩)
 go_returns
 exact ⟨rfl,HBD.out⟩
theorem zpy (p q:Bool) (w:World):Calls Tryz.prog 125 #[.bool p,.bool q] w fun e w' => e = .returned (.bool (p && !q)) /\ w = w':=by
 cases p <;> cases q <;> (go_enter Tryz.func125,Tryz.ntmps125; go_wp2; go_returns; exact ⟨rfl,rfl⟩)
theorem zhf (a b:Dta) (V:Nat) (ha:a.Fit V) (hb:b.Fit V) (w0:World) (gf gA gB:Nat) (TF:TypeId) (vn vf un uf:Value) (hF:Row w0 gf TF #[.func (.func 125) #[] #[]]) (hA:AutV w0 gA V a vn vf) (hB:AutV w0 gB V b un uf) (p:Nat × Nat) (hp:inP a b p) (W:World) (hbw:Below w0.heap.size w0 W) :
  Calls Tryz.prog 97 #[pV p,.pointer (some ⟨gf,0,none⟩),.pointer (some ⟨gA,0,none⟩),.pointer (some ⟨gB,0,none⟩)] W fun e W' => e = .returned (.bool ((fun p q => p && !q) (a.fin p.1) (b.fin p.2))) /\ Below W.heap.size W W':=by
 have hA2:=hA.below hbw zn
 have hB2:=hB.below hbw zn
 have hF2:=hF.below hbw hF.lt
 obtain ⟨bk,ok,ck,rfl,hk1,hbk,hk2⟩:=hA2.hf.at ha.pos
 obtain ⟨bl,ol,cl,rfl,hl1,hbl,hl2⟩:=hB2.hf.at hb.pos
 obtain ⟨p1,p2⟩:=p
 obtain ⟨hp1,hp2⟩:=hp
 simp only at hp1 hp2
 have c0:=hk2 p1 hp1
 have d0:=hl2 p2 hp2
 unfold pV
 simp only
 obtain ⟨s,hs⟩:=zx (a.fin p1)
 obtain ⟨t,ht⟩:=zx (b.fin p2)
 rw [<- hs] at c0 ⊢
 rw [<- ht] at d0 ⊢
 have RA:=zh hA2.row; have RB:=zh hB2.row; have RF:=zh hF2
 obtain ⟨n,hnn⟩:=zx a.n
 obtain ⟨n',hnn'⟩:=zx b.n
 rw [<- hnn] at hp1 RA
 rw [<- hnn'] at hp2 RB
 have HCC:=zh (fun W1 (h:Below W.heap.size W W1) => (show W1.cell? ⟨bk,ok + p1,none⟩ = _ /\ W1.cell? ⟨bl,ol + p2,none⟩ = _ from ⟨(h.cell (p:=⟨bk,_,none⟩) hbk).trans c0,(h.cell (p:=⟨bl,_,none⟩) hbl).trans d0⟩))
 clear hA hB hF hA2 hB2 hF2 hk2 hl2 c0 d0 hs ht hnn hnn' hbw ha hb hbk hbl hk1 hl1
 go_enter Tryz.func97,Tryz.ntmps97
 go_upto_region 1 with fail
 refine zaa (fun W1 => Below W.heap.size W W1 /\ Row W1 W.heap.size 146 #[.int .i64 (p1:Int),.int .i64 (p2:Int)]) ⟨by go_grown,Row.new _ _ _⟩ ?_
 rintro W1 ⟨hb,r1⟩
 obtain ⟨c0,d0⟩:=HCC.out W1 hb
 have z1:=(RA.out.below hb RA.out.lt).cell; have z2:=(RB.out.below hb RB.out.lt).cell; have z3:=(RF.out.below hb RF.out.lt).cell
 have y1:=r1.cell
 have HB:=zh hb
 clear hb r1 HCC RA RB RF
 go_still_tail 13,(by kernel_rfl)
 change wpList _ _ _ _ _ W1.drew
 have HBD:=zh (HB.out.drew)
 generalize W1.drew = W2 at *
 go_wp2_with (go_at_call 125; refine (zpy s t _).mono ?_; rintro e w3 ⟨rfl,rfl⟩)
 go_returns
 exact ⟨rfl,HBD.out⟩
end Go.Proofs.YthdabkmkgkkmcaaGreatDoor
namespace Go.Proofs.YthdabkmkgkkmcaaGreatDoor
open Go.RowKit
theorem zo4 (D:Dta) (V:Nat) (hD:D.Fit V) (he:D.e = 0) (o:List (Nat × Nat)) (hn:o.length = D.n) (P:Nat × Nat -> Prop) (hP:∀ p ∈ o,P p) (fin:Nat × Nat -> Bool) (hfin:∀ i p,o[i]? = some p -> D.fin i = fin p) (j1 j2 j3:Value) (w:World)
  (hcb:∀ p W,P p -> Below w.heap.size w W -> Calls Tryz.prog 97 #[pV p,j1,j2,j3] W fun e W' => e = .returned (.bool (fin p)) /\ Below W.heap.size W W')
  (B:Nat) (kv rv:Value) (hk:KO 146 2 w B kv (o.map pC)) (hr:N3 w rv (nx3 D.n D.L D.nx)) :
  Calls Tryz.prog 96 #[.int .i64 (V:Int),kv,rv,.func (.func 97) #[] #[j1,j2,j3]] w (RetR w (D.mini.raw V) 0):=by
 have hn64:=hD.n64
 have hpos:=hD.pos
 obtain ⟨Ar,cr,rfl,_⟩:=hr.open
 have hlen3:(nx3 D.n D.L D.nx).length = D.n:=by simp [nx3]
 rw [hlen3] at hr ⊢
 obtain ⟨g,cap,cs,rfl,hgB,hrow,hc1,hc2,hcell⟩:=hk.row (by rw [List.length_map]; omega)
 rw [List.length_map] at hc1 ⊢
 have hglt:=hrow.lt
 have HCL:=zh (fun i p (hi:o[i]? = some p) => (show w.cell? ⟨g,i * 2,none⟩ = some (.int .i64 (p.1:Int)) /\ w.cell? ⟨g,i * 2 + 1,none⟩ = some (.int .i64 (p.2:Int)) from
  ⟨by have h:=hcell i (pC p) (by rw [List.getElem?_map,hi]; rfl) 0 (by omega); simpa [pC] using h,by have h:=hcell i (pC p) (by rw [List.getElem?_map,hi]; rfl) 1 (by omega); simpa [pC] using h⟩))
 have hmi:=fun v W (h:TD W v (D.raw V)) => zce D V hD v W h
 have HMI:=zh hmi; have HCB:=zh hcb; have HR:=zh hr; have HP:=zh hP; have HFIN:=zh hfin; have HE:=zh he
 rw [hn] at hc1 ⊢
 have HN:=zh hn
 obtain ⟨n,hnn⟩:=zx D.n
 rw [<- hnn] at hn64 hpos hc1 HR HN ⊢
 have HNN:=zh hnn
 clear hmi hcb hr hP hfin he hk hrow hcell hn hnn hlen3 hD
 go_enter Tryz.func96,Tryz.ntmps96
 go_wp2
 refine zaa (fun W => Below w.heap.size w W /\ Row W w.heap.size 30 #[.int .i64 0,.int .i64 0,.slice none 0 0,.slice none 0 0] /\ Row W (w.heap.size + 1) 30 #[.int .i64 (V:Int),.int .i64 0,.slice Ar n cr,.slice none 0 0]) ⟨by go_grown,(Row.new _ _ _).alloc _,Row.lit (by simp)⟩ ?_
 rintro w1 ⟨hb,hr0,hr1⟩
 have HB:=zh hb; have R0:=zh hr0; have R1:=zh hr1
 clear hb hr0 hr1
 go_loopg [18] n (fun gk q wr => ∃ (i:Nat) (vf:Value),i <= n /\ gk = n - i /\ q = .int .i64 i /\ Below w.heap.size w wr /\ Row wr w.heap.size 30 #[.int .i64 0,.int .i64 0,.slice none 0 0,.slice none 0 0] /\ Row wr (w.heap.size + 1) 30 #[.int .i64 (V:Int),.int .i64 0,.slice Ar n cr,vf] /\ OB wr w.heap.size vf ((List.range i).map D.fin))
 case atStart => exact ⟨0,_,Nat.zero_le _,rfl,rfl,HB.out,R0.out,R1.out,VO.nil _ _ _⟩
 case round =>
  clear HB R0 R1
  obtain ⟨i,vf,hi,rfl,rfl,hb,hr0,hr1,hof⟩:=hrel
  obtain ⟨wl,hwl⟩:=zx wr
  subst hwl
  obtain ⟨Af,cf,rfl⟩:=VO.formN (n:=i) hof (by simp [bL])
  have HB:=zh hb; have R0:=zh hr0; have R1:=zh hr1; have OF:=zh hof
  by_cases hlt:i < n
  ·obtain ⟨p,hp⟩:∃ p,o[i]? = some p:=⟨o[i]'(by rw [HN.out]; exact hlt),List.getElem?_eq_getElem _⟩
   obtain ⟨c0,c1⟩:=HCL.out i p hp
   rw [<- hb.cell (p:=⟨g,_,none⟩) hglt] at c0 c1
   have hPp:=HP.out p (List.mem_of_getElem? hp)
   have hfp:=HFIN.out i p hp
   obtain ⟨s,hs⟩:=zx (fin p)
   have HS:=zh (show s = D.fin i by rw [hs,hfp])
   have hcb:=fun W (h:Below wl.heap.size wl W) => HCB.out p W hPp (hb.trans (h.mono hb.size))
   rw [<- hs] at hcb
   unfold pV at hcb
   have HCP:=zh hcb
   clear hb hr0 hr1 hof hp hPp hfp hs hcb
   go_upto_region 5 with fail
   refine zaa (fun W => Below wl.heap.size wl W /\ ∃ gp,gp = wl.heap.size /\ Row W gp 146 #[.int .i64 (p.1:Int),.int .i64 (p.2:Int)]) ⟨by go_grown,_,rfl,Row.new _ _ _⟩ ?_
   rintro W ⟨hb,gp,hgp,hrp⟩
   rw [<- hgp]
   have R0W:=zh (R0.out.below hb R0.out.lt); have R1W:=zh (R1.out.below hb R1.out.lt); have OFW:=zh (OF.out.below hb zn)
   have HBW:=zh (HB.out.trans (hb.mono HB.out.size))
   have HCW:=zh (fun W' (h:Below W.heap.size W W') => HCP.out W' (hb.trans (h.mono hb.size)))
   have z0:=R1W.out.cell; have z1:=R1W.out.free; have hz:=R1W.out.lt
   have y0:=hrp.cell
   have HRP:=zh hrp
   clear hb hgp hrp c0 c1 HB R0 R1 OF HCP
   first
   | go_region_law (first
    | (go_simp; go_at_call 97; refine (HCW.out _ (by go_grown)).mono ?_; rintro e w3 ⟨rfl,hb3⟩; have HB3:Hid (Below W.heap.size W w3):=(show Below W.heap.size W w3 from ⟨hb3.os,hb3.tape,hb3.output,hb3.size,hb3.block⟩); have hz3:w.heap.size + 1 < w3.heap.size:=Nat.lt_of_lt_of_le hz HB3.out.size; have x0:=(R1W.out.below HB3.out hz).cell; have x1:=fun X => ((R1W.out.below HB3.out hz).alloc X).cell; clear hb3; try go_simp)
    | (refine zaq eB rfl (.tmp 23) (.tmp 27) rfl w.heap.size _ _ rfl (VO.allocd (OFW.out.below HB3.out zn) _) _ [.bool s] rfl (VS.one (by first | exact Row.new _ _ _ | exact Row.lit rfl | exact Row.litd rfl)) (zqd [s]) (by rw [zb1]; simp; omega) (by simp only [World.size_alloc]; have:=HB3.out.size; have:=HBW.out.size; omega) ?_; intro v4 w4 ho4 hg4 _; obtain ⟨A5,c5,rfl⟩:=VO.formN (n:=i + 1) ho4 (by rw [List.length_append,zb1]; simp); have HO4:=zh ho4; have R04:=zh ((Row.alloc (R0W.out.below HB3.out R0W.out.lt) _).far_own (by decide) (VO.allocd (OFW.out.below HB3.out zn) _).2 hg4); have R14:=zh ((Row.alloc (R1W.out.below HB3.out hz) _).far_own (by decide) (VO.allocd (OFW.out.below HB3.out zn) _).2 hg4); have HB4:=zh (zat (w:=w) (by have h1:=HBW.out.trans (HB3.out.mono HBW.out.size); have h2:=h1.size; go_grown) (VO.allocd (OFW.out.below HB3.out zn) _) hg4 (by simp only [World.size_alloc]; have:=HB3.out.size; have:=HBW.out.size; omega)); have z04:=R14.out.cell; have z14:=R14.out.free; clear ho4 hg4))
   | fail
   all_goals
    have OF4:Hid (OB w4 w.heap.size (.slice A5 (i + 1) c5) ((List.range (i + 1)).map D.fin)):=by
     have h:=HO4.out
     unfold Hid OB
     rw [List.range_succ,List.map_append,List.map_cons,List.map_nil,<- HS.out]
     unfold bL at h ⊢
     rw [List.map_append]
     exact h
    go_wp2
    go_roundg (n - (i + 1))
    case rel => exact ⟨i + 1,_,by omega,rfl,by go_num,HB4.out.setCell (p:=⟨w.heap.size + 1,3,none⟩) (by simp) _,R04.out.far (by simp) _,R14.out.set 3 _,OF4.out.setRow R14.out (by decide) 3 _⟩
    case measure => omega
  ·have hie:i = n:=by omega
   have hof':OB wl w.heap.size (.slice Af i cf) ((List.range D.n).map D.fin):=by rw [<- HNN.out,<- hie]; exact hof
   have htd:TD wl (.agg #[.int .i64 (V:Int),.int .i64 0,.slice Ar n cr,.slice Af i cf]) (D.raw V):=⟨_,_,by rw [show (D.raw V).empty = 0 by show ((D.e:Nat):Int) = 0; rw [HE.out]; rfl]; rfl,(show N3 wl (.slice Ar n cr) (nx3 D.n D.L D.nx) by rw [<- HNN.out]; exact HR.out.below hb zn),hof'.nb⟩
   obtain ⟨R,hR⟩:=zx (D.mini.raw V)
   have HRR:=zh hR
   have HMM:=zh (HMI.out _ wl htd)
   rw [<- hR] at HMM
   have z0:=hr1.cell
   clear hb hr0 hr1 hof hof' htd hR hie
   go_wp2_with (go_at_call 14; refine HMM.out.mono ?_; intro e w6 h6; obtain ⟨A6,c6,A7,c7,rfl,hb6,ht6⟩:=h6.unfold; have HT:=zh ht6; have HB6:=zh hb6; have RR6:=zh (R0.out.below hb6 R0.out.lt); have b0:=RR6.out.cell; have b1:=RR6.out.free; clear h6 hb6 ht6 z0)
   refine zah (fun W => Row W w.heap.size 30 #[.int .i64 R.vars,.int .i64 R.empty,.slice A6 R.next.length c6,.slice A7 R.fin.length c7] /\ TDO W wl.heap.size (.agg #[.int .i64 R.vars,.int .i64 R.empty,.slice A6 R.next.length c6,.slice A7 R.fin.length c7]) R /\ Below w.heap.size w W)
    (zaz RR6.out HT.out (HB.out.trans (HB6.out.mono HB.out.size)) zn) ?_
   clear b0 b1 RR6 HT
   rintro W5 ⟨r0,hT,hb⟩
   have b0:=r0.cell
   have q0:=b0 0; have q1:=b0 1; have q2:=b0 2; have q3:=b0 3
   simp only [zg] at q0 q1 q2 q3
   have HT:=zh (hT.mono HB.out.size); have HBX:=zh hb
   clear b0 r0 hT hb
   refine bodyPost_ret (v:=.tuple #[.agg #[.int .i64 R.vars,.int .i64 R.empty,.slice A6 R.next.length c6,.slice A7 R.fin.length c7],.int .i64 0]) (by simp [results,Tryz.results96,go_sem,q0,q1,q2,q3]) rfl ⟨_,rfl,HBX.out,?_⟩
   rw [<- HRR.out]; exact HT.out
end Go.Proofs.YthdabkmkgkkmcaaGreatDoor
namespace Go.Proofs.YthdabkmkgkkmcaaGreatDoor
open Go.RowKit
section
variable {α:Type} [DecidableEq α] {f:α -> α -> Nat -> α} {L:Nat} {k0:α} {P:α -> Prop}
structure KsI (f:α -> α -> Nat -> α) (L:Nat) (k0:α) (P:α -> Prop) (ks:List α):Prop where
 nodup:ks.Nodup
 zero:ks[0]? = some k0
 acc:∀ s ∈ ks,AccK f L k0 s
 hP:∀ s ∈ ks,P s
theorem KsI.start (h:P k0):KsI f L k0 P [k0]:=⟨by simp,rfl,fun s hs => by simp at hs; subst hs; exact AccK.zero f L s,fun s hs => by simp at hs; subst hs; exact h⟩
theorem KsI.add {ks:List α} (h:KsI f L k0 P ks) (hok:∀ a b x,P a -> P b -> x < L -> P (f a b x)) {a b:α} (ha:a ∈ ks) (hb:b ∈ ks) {x:Nat} (hx:x < L):KsI f L k0 P (addS ks (f a b x)) :=
 ⟨zd7 h.nodup,zar (zd6 _ _) h.zero,zf9 h.acc (AccK.step f (h.acc a ha) (h.acc b hb) hx),zf9 h.hP (hok a b x (h.hP a ha) (h.hP b hb) hx)⟩
theorem KsI.ksX {ks:List α} (h:KsI f L k0 P ks) (hok:∀ a b x,P a -> P b -> x < L -> P (f a b x)) {a b:α} (ha:a ∈ ks) (hb:b ∈ ks):∀ {x:Nat},x <= L -> KsI f L k0 P (ksX f a b ks x):=by
 intro x
 induction x with
 | zero => intro _; exact h
 | succ x ih =>
  intro hx
  rw [zb4]
  exact (ih (by omega)).add hok ((zbj f a b ks x).subset ha) ((zbj f a b ks x).subset hb) (show x < L from hx)
def Good (f:α -> α -> Nat -> α) (L:Nat) (ks:List α) (a b:α) (l:List Nat):Prop:=l.length = L /\ ∀ x,x < L -> ∃ c,l[x]? = some c /\ ks[c]? = some (f a b x)
theorem Good.mono {ks ks':List α} {a b:α} {l:List Nat} (h:Good f L ks a b l) (hp:ks <+: ks'):Good f L ks' a b l :=
 ⟨h.1,fun x hx => by obtain ⟨c,h1,h2⟩:=h.2 x hx; exact ⟨c,h1,zar hp h2⟩⟩
theorem Good.made (ks:List α) (a b:α):Good f L (_root_.Go.Proofs.YthdabkmkgkkmcaaGreatDoor.ksX f a b ks L) a b ((List.range L).map (cX f a b ks)) :=
 ⟨by simp,fun x hx => ⟨cX f a b ks x,by rw [List.getElem?_map,List.getElem?_range hx]; rfl,cX_get f a b ks hx⟩⟩
def GRow (f:α -> α -> Nat -> α) (L:Nat) (ks:List α) (W:World) (B:Nat) (a:α) (m:Nat) (v:Value):Prop :=
 ∃ us:List Value,us.length = m /\ VO 36 W B v us /\ ∀ (r:Nat) u,us[r]? = some u -> ∃ b l,ks[r]? = some b /\ Good f L ks a b l /\ O1 W B u (oI l)
theorem GRow.mono {ks ks':List α} {W:World} {B:Nat} {a:α} {m:Nat} {v:Value} (h:GRow f L ks W B a m v) (hp:ks <+: ks'):GRow f L ks' W B a m v:=by
 obtain ⟨us,h1,h2,h3⟩:=h
 exact ⟨us,h1,h2,fun r u hu => by obtain ⟨b,l,h4,h5,h6⟩:=h3 r u hu; exact ⟨b,l,zar hp h4,h5.mono hp,h6⟩⟩
theorem GRow.map {ks:List α} {W W':World} {B:Nat} {a:α} {m:Nat} {v:Value} (h:GRow f L ks W B a m v) (h1:∀ l,VO 36 W B v l -> VO 36 W' B v l) (h2:∀ u l,VO 3 W B u l -> VO 3 W' B u l):GRow f L ks W' B a m v:=by
 obtain ⟨us,h3,h4,h5⟩:=h
 exact ⟨us,h3,h1 _ h4,fun r u hu => by obtain ⟨b,l,h6,h7,h8⟩:=h5 r u hu; exact ⟨b,l,h6,h7,h2 _ _ h8⟩⟩
theorem GRow.nil (ks:List α) (W:World) (B:Nat) (a:α):GRow f L ks W B a 0 (.slice none 0 0):=⟨[],rfl,VO.nil _ _ _,fun r u hu => by simp at hu⟩
theorem GRow.lt {ks:List α} {W:World} {B:Nat} {a:α} {m:Nat} {v:Value} (h:GRow f L ks W B a m v) {g:Nat} (hg:v.ownBlock = some g):g < W.heap.size:=by
 obtain ⟨us,_,h2,_⟩:=h; exact h2.blk_lt hg
structure GL (f:α -> α -> Nat -> α) (L:Nat) (ks:List α) (W:World) (B:Nat) (vals:List Value) (m:Nat -> Nat):Prop where
 at':∀ (i:Nat) v,vals[i]? = some v -> ∃ a,ks[i]? = some a /\ GRow f L ks W B a (m i) v
 ap:∀ (i j:Nat) v u,i ≠ j -> vals[i]? = some v -> vals[j]? = some u -> Apart v u
theorem GL.map {ks:List α} {W W':World} {B:Nat} {vals:List Value} {m:Nat -> Nat} (h:GL f L ks W B vals m) (h1:∀ v l,VO 36 W B v l -> VO 36 W' B v l) (h2:∀ u l,VO 3 W B u l -> VO 3 W' B u l):GL f L ks W' B vals m :=
 ⟨fun i v hv => by obtain ⟨a,h3,h4⟩:=h.at' i v hv; exact ⟨a,h3,h4.map (h1 v) h2⟩,h.ap⟩
theorem GL.congr {ks:List α} {W:World} {B:Nat} {vals:List Value} {m m':Nat -> Nat} (h:GL f L ks W B vals m) (e:∀ i,i < vals.length -> m i = m' i):GL f L ks W B vals m' :=
 ⟨fun i v hv => by
  obtain ⟨a,h3,h4⟩:=h.at' i v hv
  exact ⟨a,h3,by rw [<- e i (List.getElem?_eq_some_iff.1 hv).1]; exact h4⟩,h.ap⟩
theorem zj9 {vals:List Value} {i j:Nat} {v u:Value} (h:(vals.set i v)[j]? = some u):(j = i /\ u = v) \/ (j ≠ i /\ vals[j]? = some u):=by
 by_cases e:i = j
 ·subst e
  rw [List.getElem?_set] at h
  simp only [if_true] at h
  split at h
  ·cases h; exact .inl ⟨rfl,rfl⟩
  ·cases h
 ·rw [List.getElem?_set_ne e] at h
  exact .inr ⟨Ne.symm e,h⟩
theorem GL.grow {E1 E2:TypeId} (e1:36 ≠ E1) (e2:36 ≠ E2) (e3:3 ≠ E1) (e4:3 ≠ E2) {ks ks':List α} {W W':World} {B:Nat} {vals:List Value} {m:Nat -> Nat} (h:GL f L ks W B vals m) {i:Nat} {v v':Value} (hv:vals[i]? = some v)
  (hp:ks <+: ks') (hk:KeepG E1 E2 v.ownBlock W W') (ho:v'.ownBlock = v.ownBlock \/ ∃ g,v'.ownBlock = some g /\ W.heap.size <= g) {a:α} (ha:ks[i]? = some a) (hn:GRow f L ks' W' B a (m i + 1) v') :
  GL f L ks' W' B (vals.set i v') (fun r => if r = i then m i + 1 else m r):=by
 obtain ⟨a2,_,us2,hm2,hvo2,_⟩:=h.at' i v hv
 have hni:=hvo2.not_int (by decide)
 refine ⟨fun j u hu => ?_,fun j r u z hne hu hz => ?_⟩
 ·rcases zj9 hu with ⟨rfl,rfl⟩ | ⟨hji,hu⟩
  ·exact ⟨a,zar hp ha,by simpa using hn⟩
  ·obtain ⟨b,h3,h4⟩:=h.at' j u hu
   refine ⟨b,zar hp h3,?_⟩
   simp only [if_neg hji]
   have hap:=h.ap j i u v hji hu hv
   refine (h4.mono hp).map (fun l hl => hl.keepG hk e1 e2 ?_) (fun x l hl => VO.keepG hl hk e3 e4 ?_)
   ·cases hub:u.ownBlock with
    | none => exact .inl rfl
    | some g => exact .inr (fun e => hap g hub e.symm)
   ·cases hub:x.ownBlock with
    | none => exact .inl rfl
    | some g =>
     refine .inr (fun e => ?_)
     rcases hl.2.2 with ⟨hv2,_⟩ | ⟨g2,cap,cur,hv2,_,hg,_⟩
     ·rw [hv2] at hub; cases hub
     ·rw [hv2] at hub
      simp only [Value.ownBlock,Option.some.injEq] at hub
      subst hub
      exact hni g2 cur (0,0) e.symm hg
 ·have hfar:∀ (j:Nat) (u:Value),j ≠ i -> vals[j]? = some u -> Apart v' u:=fun j u hj hu g h1 h2 => by
   rcases ho with ho | ⟨g2,ho,hg2⟩
   ·exact h.ap j i u v hj hu hv g h2 (ho ▸ h1)
   ·obtain ⟨_,_,h4⟩:=h.at' j u hu
    have:=h4.lt h2
    rw [ho] at h1
    cases h1
    omega
  rcases zj9 hu with ⟨hj,hu'⟩ | ⟨hji,hu'⟩ <;> rcases zj9 hz with ⟨hr,hz'⟩ | ⟨hri,hz'⟩
  ·exact absurd (hj.trans hr.symm) hne
  ·rw [hu']; exact hfar r z hri hz'
  ·rw [hz']; exact (hfar j u hji hu').symm
  ·exact h.ap j r u z hne hu' hz'
theorem GL.snoc {ks:List α} {W:World} {B:Nat} {vals:List Value} {m:Nat -> Nat} (h:GL f L ks W B vals m) {a:α} (ha:ks[vals.length]? = some a):GL f L ks W B (vals ++ [.slice none 0 0]) (fun r => if r < vals.length then m r else 0):=by
 have key:∀ (j:Nat) (u:Value),(vals ++ [Value.slice none 0 0])[j]? = some u -> (j < vals.length /\ vals[j]? = some u) \/ (j = vals.length /\ u = .slice none 0 0):=fun j u hu => by
  by_cases hj:j < vals.length
  ·rw [List.getElem?_append_left hj] at hu; exact .inl ⟨hj,hu⟩
  ·have hlen:=(List.getElem?_eq_some_iff.1 hu).1
   simp at hlen
   have:j = vals.length:=by omega
   subst this
   simp at hu
   exact .inr ⟨rfl,hu.symm⟩
 refine ⟨fun j u hu => ?_,fun j r u z hne hu hz => ?_⟩
 ·rcases key j u hu with ⟨hj,hu⟩ | ⟨rfl,rfl⟩
  ·obtain ⟨b,h3,h4⟩:=h.at' j u hu
   exact ⟨b,h3,by rw [if_pos hj]; exact h4⟩
  ·exact ⟨a,ha,by rw [if_neg (by omega)]; exact GRow.nil _ _ _ _⟩
 ·rcases key j u hu with ⟨hj,hu⟩ | ⟨rfl,rfl⟩ <;> rcases key r z hz with ⟨hr,hz⟩ | ⟨rfl,rfl⟩
  ·exact h.ap j r u z hne hu hz
  ·intro g h1 h2; cases h2
  ·intro g h1 h2; cases h1
  ·exact absurd rfl hne
theorem zow {ks:List α} (h:ks.Nodup) {c:Nat} {s:α} (hc:ks[c]? = some s):c = ks.idxOf s:=by
 have h1:=zlk (List.mem_of_getElem? hc)
 have hl:=(List.getElem?_eq_some_iff.1 hc).1
 exact (List.getElem?_inj hl h).1 (hc.trans h1.symm)
theorem GL.closed {ks:List α} {W:World} {B:Nat} {vals:List Value} {m:Nat -> Nat} (h:GL f L ks W B vals m) (hl:vals.length = ks.length) (hm:∀ i,i < ks.length -> m i = ks.length):zhc f L ks:=by
 intro a b x ha hb hx
 obtain ⟨i,hi,rfl⟩:=List.mem_iff_getElem.1 ha
 obtain ⟨r,hr,rfl⟩:=List.mem_iff_getElem.1 hb
 obtain ⟨a2,h3,us,h4,h5,h6⟩:=h.at' i _ (List.getElem?_eq_getElem (by omega))
 rw [hm i hi] at h4
 obtain ⟨b2,l,h7,h8,_⟩:=h6 r _ (List.getElem?_eq_getElem (by omega))
 obtain ⟨c,_,h9⟩:=h8.2 x hx
 rw [List.getElem?_eq_getElem hi] at h3
 rw [List.getElem?_eq_getElem hr] at h7
 cases h3; cases h7
 exact List.mem_of_getElem? h9
theorem GL.n3 {ks:List α} {W:World} {B:Nat} {rv:Value} {vals:List Value} {m:Nat -> Nat} (h:GL f L ks W B vals m) (hl:vals.length = ks.length) (hm:∀ i,i < ks.length -> m i = ks.length) (hn:ks.Nodup) (hv:VO 37 W B rv vals) (fin:α -> Bool) :
  O3 W B rv (nx3 ks.length L (autE f L k0 ks fin).nx):=by
 refine ⟨vals,hv,by simp [nx3,hl],fun i v hvi => ?_⟩
 have hi:i < ks.length:=by rw [<- hl]; exact (List.getElem?_eq_some_iff.1 hvi).1
 refine ⟨_,by rw [nx3,List.getElem?_map,List.getElem?_range hi]; rfl,?_⟩
 obtain ⟨a,h3,us,h4,h5,h6⟩:=h.at' i v hvi
 rw [hm i hi] at h4
 refine ⟨us,h5,by simp [h4],fun r u hu => ?_⟩
 have hr:r < ks.length:=by rw [<- h4]; exact (List.getElem?_eq_some_iff.1 hu).1
 refine ⟨_,by rw [List.getElem?_map,List.getElem?_range hr]; rfl,?_⟩
 obtain ⟨b,l,h7,⟨h8,h9⟩,h10⟩:=h6 r u hu
 have:oI l = (List.range L).map fun x => ((autE f L k0 ks fin).nx i r x:Int):=by
  apply List.ext_getElem?
  intro x
  by_cases hx:x < L
  ·obtain ⟨c,h11,h12⟩:=h9 x hx
   rw [oI_at h11,List.getElem?_map,List.getElem?_range hx,Option.map_some]
   have e:(autE f L k0 ks fin).nx i r x = c:=by
    show ks.idxOf (f (ks.getD i k0) (ks.getD r k0) x) = c
    rw [getD_some h3,getD_some h7]
    exact (zow hn h12).symm
   rw [e]
  ·rw [List.getElem?_eq_none (by rw [zap]; omega),List.getElem?_eq_none (by simp; omega)]
 show O1 W B u (List.map (fun x => ((autE f L k0 ks fin).nx i r x:Int)) (List.range L))
 rw [<- this]
 exact h10
end
theorem ExI.setRow {α:Type} [DecidableEq α] {K SK MT:TypeId} {n:Nat} {lit:α -> Lit} {kC:α -> List Value} {w0:World} {go gn bm:Nat} {ks:List α} {W:World} (h:ExI K SK MT n lit kC w0 go gn bm ks W) {g:Nat} {E:TypeId} {cs:Array Value} (r:Row W g E cs) (h1:K ≠ E) (h2:SK ≠ E) (h3:MT ≠ E) (hB:w0.heap.size <= g) (j:Nat) (u:Value):ExI K SK MT n lit kC w0 go gn bm ks (W.setCell ⟨g,j,none⟩ u):=by
 obtain ⟨ov,r1,r2⟩:=h.ro
 exact ⟨h.below.setCell (p:=⟨g,j,none⟩) hB _,h.rn.far (Row.ne h.rn r h3) _,h.nm.setCell (fun e => h.nm.ne_row r e) _,⟨ov,r1.far (Row.ne r1 r h2) _,r2.setFar r h1 j u⟩,h.bd⟩
end Go.Proofs.YthdabkmkgkkmcaaGreatDoor
