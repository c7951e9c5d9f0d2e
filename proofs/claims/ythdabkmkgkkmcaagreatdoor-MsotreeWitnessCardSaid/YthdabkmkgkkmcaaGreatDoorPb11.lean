/- Part 11 of the proof; it says: lemmas and contracts. No conditions but those that each theorem states. -/
import Derived.StillTailTactics
import Derived.Deep.RegionLaw
import Derived.Deep.DeepCutAuto
import Derived.Test.YthdabkmkgkkmcaaGreatDoorPb01
import Derived.Test.YthdabkmkgkkmcaaGreatDoorPb05
import Derived.Test.YthdabkmkgkkmcaaGreatDoorPb07
import Derived.Test.YthdabkmkgkkmcaaGreatDoorPb08
import Derived.Test.YthdabkmkgkkmcaaGreatDoorPb10
set_option linter.unusedSimpArgs false
set_option linter.unusedVariables false
set_option linter.unusedSectionVars false
set_option maxRecDepth 100000
set_option maxHeartbeats 32000000
namespace Go.Proofs.YthdabkmkgkkmcaaGreatDoor
open Go.RowKit
structure KeepG (E1 E2:TypeId) (row:Option Nat) (W W':World):Prop where
 os:W'.os = W.os
 tape:W'.tape = W.tape
 output:W'.output = W.output
 size:W.heap.size <= W'.heap.size
 block:∀ g cs E fr,W.heap[g]? = some (.cells cs E fr) -> E ≠ E1 -> E ≠ E2 -> some g ≠ row -> W'.heap[g]? = W.heap[g]?
theorem KeepG.refl (E1 E2:TypeId) (row:Option Nat) (W:World):KeepG E1 E2 row W W:=⟨rfl,rfl,rfl,zn,fun _ _ _ _ _ _ _ _ => rfl⟩
theorem KeepG.of_below {E1 E2:TypeId} {row:Option Nat} {W W':World} (h:Below W.heap.size W W'):KeepG E1 E2 row W W' :=
 ⟨h.os,h.tape,h.output,h.size,fun g cs E fr hg _ _ _ => h.block g (Array.getElem?_eq_some_iff.1 hg).1⟩
theorem KeepG.trans {E1 E2:TypeId} {row:Option Nat} {A B C:World} (h:KeepG E1 E2 row A B) (k:KeepG E1 E2 row B C):KeepG E1 E2 row A C :=
 ⟨k.os.trans h.os,k.tape.trans h.tape,k.output.trans h.output,Nat.le_trans h.size k.size,fun g cs E fr hg h1 h2 h3 => (k.block g cs E fr ((h.block g cs E fr hg h1 h2 h3).trans hg) h1 h2 h3).trans (h.block g cs E fr hg h1 h2 h3)⟩
theorem KeepG.wide {E1 E2:TypeId} {row:Option Nat} {W W':World} (h:KeepG E1 E2 none W W'):KeepG E1 E2 row W W' :=
 ⟨h.os,h.tape,h.output,h.size,fun g cs E fr hg h1 h2 _ => h.block g cs E fr hg h1 h2 (by simp)⟩
theorem Row.keepG {E1 E2:TypeId} {row:Option Nat} {W W':World} {g:Nat} {E:TypeId} {cs:Array Value} (r:Row W g E cs) (h:KeepG E1 E2 row W W') (h1:E ≠ E1) (h2:E ≠ E2) (h3:some g ≠ row):Row W' g E cs:=(h.block g cs E (0,0) r h1 h2 h3).trans r
theorem VO.keepG {E1 E2:TypeId} {row:Option Nat} {W W':World} {B:Nat} {E:TypeId} {v:Value} {l:List Value} (r:VO E W B v l) (h:KeepG E1 E2 row W W') (h1:E ≠ E1) (h2:E ≠ E2) (h3:v.ownBlock = none \/ v.ownBlock ≠ row):VO E W' B v l:=by
 obtain ⟨h0,hl,h4⟩:=r
 refine ⟨h0,hl,?_⟩
 rcases h4 with h4 | ⟨g,cap,cur,hv,hB,hg,r⟩
 ·exact .inl h4
 ·refine .inr ⟨g,cap,cur,hv,hB,(h.block g cur E (0,0) hg h1 h2 (fun e => ?_)).trans hg,r⟩
  have e2:v.ownBlock = some g:=by rw [hv]; rfl
  rw [e2] at h3
  rcases h3 with h3 | h3
  ·cases h3
  ·exact h3 e
theorem O1.keepG {E1 E2:TypeId} {W W':World} {B:Nat} {v:Value} {l:List Int} (r:O1 W B v l) {row:Option Nat} (h:KeepG E1 E2 row W W') (h1:3 ≠ E1) (h2:3 ≠ E2) (h3:∀ g cs fr,row = some g -> W.heap[g]? ≠ some (.cells cs 3 fr)):O1 W' B v l:=by
 have r':VO 3 W B v (iL l):=r
 refine VO.keepG r' h h1 h2 ?_
 cases hv:v.ownBlock with
 | none => exact .inl rfl
 | some g =>
  refine .inr (fun e => ?_)
  rcases r'.2.2 with ⟨hv2,_⟩ | ⟨g2,cap,cur,hv2,_,hg,_⟩
  ·rw [hv2] at hv; cases hv
  ·rw [hv2] at hv
   simp only [Value.ownBlock,Option.some.injEq] at hv
   subst hv
   exact h3 g2 cur (0,0) e.symm hg
theorem VO.not_int {E:TypeId} {W:World} {B:Nat} {v:Value} {l:List Value} (h:VO E W B v l) (hne:E ≠ 3):∀ g cs fr,v.ownBlock = some g -> W.heap[g]? ≠ some (.cells cs 3 fr):=by
 intro g cs fr hg e
 rcases h.2.2 with ⟨hv,_⟩ | ⟨g2,cap,cur,hv,_,hg2,_⟩
 ·rw [hv] at hg; cases hg
 ·rw [hv] at hg
  simp only [Value.ownBlock,Option.some.injEq] at hg
  subst hg
  rw [hg2] at e
  simp only [Option.some.injEq,Obj.cells.injEq] at e
  exact hne e.2.1
def pV (p:Nat × Nat):Value:=.agg #[.int .i64 (p.1:Int),.int .i64 (p.2:Int)]
def pC (p:Nat × Nat):List Value:=[.int .i64 (p.1:Int),.int .i64 (p.2:Int)]
def pOK (p:Nat × Nat):Prop:=p.1 < 64 /\ p.2 < 64
instance (p:Nat × Nat):Decidable (pOK p):=inferInstanceAs (Decidable (p.1 < 64 /\ p.2 < 64))
def pL (p:Nat × Nat):Lit:=if pOK p then .string (keyBytes [.int .i64 (p.1:Int),.int .i64 (p.2:Int)]) else .int .i64 (((p.1 + p.2) * (p.1 + p.2) + p.1:Nat):Int)
theorem cantor {a b c d:Nat} (h:(a + b) * (a + b) + a = (c + d) * (c + d) + c):a = c /\ b = d:=by
 have key:∀ s t x y:Nat,x <= s -> s < t -> s * s + x = t * t + y -> False:=by
  intro s t x y hx hst he
  have h1:(s + 1) * (s + 1) <= t * t:=Nat.mul_le_mul hst hst
  have h2:(s + 1) * (s + 1) = s * s + 2 * s + 1:=by rw [Nat.mul_add,Nat.add_mul]; omega
  omega
 rcases Nat.lt_trichotomy (a + b) (c + d) with hl | he | hl
 ·exact (key _ _ _ _ (by omega) hl h).elim
 ·rw [he] at h; omega
 ·exact (key _ _ _ _ (by omega) hl h.symm).elim
theorem zpc:Kl pL:=by
 refine ⟨fun a b h => ?_,fun a => by unfold pL; split <;> trivial⟩
 unfold pL at h
 by_cases ha:pOK a <;> by_cases hb:pOK b
 ·rw [if_pos ha,if_pos hb] at h
  simp only [Lit.string.injEq] at h
  have:=keyBytes_inj (l:=[.int .i64 (a.1:Int),.int .i64 (a.2:Int)]) (l':=[.int .i64 (b.1:Int),.int .i64 (b.2:Int)]) (by simp [Alike,Lit.sameKind]) (by intro x hx; simp at hx; rcases hx with rfl | rfl <;> exact zhi _ (by have:=ha.1; have:=ha.2; omega)) (by intro x hx; simp at hx; rcases hx with rfl | rfl <;> exact zhi _ (by have:=hb.1; have:=hb.2; omega)) h
  simp only [List.cons.injEq,Lit.int.injEq,true_and,and_true] at this
  exact Prod.ext (by omega) (by omega)
 ·rw [if_pos ha,if_neg hb] at h; cases h
 ·rw [if_neg ha,if_pos hb] at h; cases h
 ·rw [if_neg ha,if_neg hb] at h
  simp only [Lit.int.injEq,true_and] at h
  have:=cantor (show (a.1 + a.2) * (a.1 + a.2) + a.1 = (b.1 + b.2) * (b.1 + b.2) + b.1 by omega)
  exact Prod.ext this.1 this.2
theorem zl6:WideMaps.ArrKey Tryz.prog 146 3 2:=⟨by kernel_rfl,by kernel_rfl,by kernel_rfl,by kernel_rfl⟩
theorem zd1:Maps.Keyed Tryz.prog 146:=Maps.Keyed.of_law zl6.law
theorem znt:0 < Tryz.prog.types.size:=by decide +kernel
theorem EltK.mk' {T E:TypeId} {k by8:Nat} (hu:Tryz.prog.underlying T = some (.slice E)) (z:Value) (hi:(Tryz.prog.info? E).map (fun i => (i.zero,i.size,i.bytes)) = some (some z,k,by8)) (hz:z.cells.size = k) (h48:by8 <= 64) (hk:0 < k):EltK T E k by8:=by
 obtain ⟨i,h1,h2,h3,h4⟩:=info_parts hi
 exact ⟨hu,⟨i,z,h1,h2,h3,h4,hz⟩,h48,hk⟩
theorem zli (p:Nat × Nat) (h:pOK p):keyOf Tryz.prog 146 (pV p) = some (pL p):=by
 unfold pL pV
 rw [if_pos h]
 exact WideMaps.keyOf_pair zl6 zbr ⟨_,(Nat.succ_pred_eq_of_pos znt).symm⟩ (zhi _ (by have:=h.1; omega)) (zhi _ (by have:=h.2; omega))
theorem zem:Tryz.prog.underlying 194 = some (.map 146 3):=by kernel_rfl
theorem eP:EltK 142 146 2 16:=EltK.mk' (by kernel_rfl) (.agg #[.int .i64 0,.int .i64 0]) (by kernel_rfl) rfl (by omega) (by omega)
def sV (s:Nat):Value:=.int .u64 (s:Int)
def sC (s:Nat):List Value:=[.int .u64 (s:Int)]
def sOK (s:Nat):Prop:=s < 2 ^ 64
def sL (s:Nat):Lit:=.int .u64 (s:Int)
theorem kl_set:Kl sL:=⟨fun a b h => by simp only [sL,Lit.int.injEq,true_and] at h; omega,fun a => trivial⟩
theorem zi7:Tryz.prog.underlying 51 = some (.int .u64):=by kernel_rfl
theorem zev:Maps.Keyed Tryz.prog 51:=Maps.int_keyed zi7
theorem zpe (s:Nat) (h:sOK s):keyOf Tryz.prog 51 (sV s) = some (sL s):=Maps.keyOf_int_mk zi7 (by
 have h1:IntKind.min .u64 = 0:=by decide
 have h2:IntKind.max .u64 = 18446744073709551615:=by decide
 unfold sOK at h
 simp only [Lit.wf,h1,h2,Bool.and_eq_true,decide_eq_true_eq]
 omega)
theorem zel:Tryz.prog.underlying 236 = some (.map 51 3):=by kernel_rfl
theorem eS:EltK 48 51 1 8:=EltK.mk' (by kernel_rfl) (.int .u64 0) (by kernel_rfl) rfl (by omega) (by omega)
end Go.Proofs.YthdabkmkgkkmcaaGreatDoor
namespace Go.Proofs.YthdabkmkgkkmcaaGreatDoor
open Go.RowKit
section
variable {α:Type} [DecidableEq α]
structure ExI (K SK MT:TypeId) (n:Nat) (lit:α -> Lit) (kC:α -> List Value) (w0:World) (go gn bm:Nat) (ks:List α) (W:World):Prop where
 below:Below w0.heap.size w0 W
 rn:Row W gn MT #[.map (some bm)]
 nm:NM K lit W bm ks
 ro:∃ ov,Row W go SK #[ov] /\ KO K n W w0.heap.size ov (ks.map kC)
 bd:w0.heap.size <= go /\ w0.heap.size <= gn /\ w0.heap.size <= bm
variable {K SK MT:TypeId} {n:Nat} {lit:α -> Lit} {kC:α -> List Value} {w0:World} {go gn bm:Nat} {ks:List α}
theorem ExI.keep {W W':World} (h:ExI K SK MT n lit kC w0 go gn bm ks W) (hb:Below W.heap.size W W'):ExI K SK MT n lit kC w0 go gn bm ks W':=by
 obtain ⟨ov,h1,h2⟩:=h.ro
 exact ⟨h.below.trans (hb.mono h.below.size),h.rn.below hb h.rn.lt,h.nm.below hb h.nm.lt,⟨ov,h1.below hb h1.lt,h2.below hb zn⟩,h.bd⟩
theorem ExI.row2 {W w1 w2:World} {ov:Value} {X:Obj} (h:ExI K SK MT n lit kC w0 go gn bm ks W) (h2:KO K n W w0.heap.size ov (ks.map kC)) (hg1:W.grownBy w1 (some bm)) (hg2:(w1.alloc X).grownBy w2 ov.ownBlock) {g:Nat} {E:TypeId} {cs:Array Value} (r:Row W g E cs) (hE:E ≠ K):Row w2 g E cs:=by
 have r1:Row (w1.alloc X) g E cs:=(r.grown hg1 (fun e => h.nm.ne_row r (Option.some.inj e).symm)).alloc X
 have k1:KO K n (w1.alloc X) w0.heap.size ov (ks.map kC):=(h2.grownNe hg1 (.inr (fun e => h.nm.ne_ko h2 e.symm))).allocd X
 exact r1.grown hg2 (fun e => k1.ne_row r1 hE.symm e.symm)
theorem ExI.add {W w1 w2:World} {s:α} {ov ov':Value} {X:Obj} (h:ExI K SK MT n lit kC w0 go gn bm ks W) (hKS:SK ≠ K) (hMK:MT ≠ K) (hMS:MT ≠ SK) (h1:Row W go SK #[ov]) (h2:KO K n W w0.heap.size ov (ks.map kC))
  (hm:NM K lit w1 bm (ks ++ [s])) (hg1:W.grownBy w1 (some bm)) (ho:KO K n w2 w0.heap.size ov' (ks.map kC ++ [kC s])) (hg2:(w1.alloc X).grownBy w2 ov.ownBlock) :
  ExI K SK MT n lit kC w0 go gn bm (ks ++ [s]) (w2.setCell ⟨go,0,none⟩ ov') /\ KeepG K SK none W (w2.setCell ⟨go,0,none⟩ ov'):=by
 have r2:=h.row2 h2 hg1 hg2 h1 hKS
 obtain ⟨b1,b2,b3⟩:=h.bd
 have k1:KO K n (w1.alloc X) w0.heap.size ov (ks.map kC):=(h2.grownNe hg1 (.inr (fun e => h.nm.ne_ko h2 e.symm))).allocd X
 have hb2:Below w0.heap.size w0 w2:=by
  refine Below.grown (Below.alloc (h.below.grown hg1 h.below.size (fun k hk => by cases hk; exact b3)) ?_ X) hg2 ?_ (fun k hk => (k1.blk_lt hk).1)
  ·exact Nat.le_trans h.below.size hg1.size
  ·simp only [World.size_alloc]; have:=h.below.size; have:=hg1.size; omega
 have hn2:NM K lit w2 bm (ks ++ [s]):=by
  refine (hm.alloc X).kept hg2 (fun e => ?_)
  have:=h.nm.ne_ko h2
  exact this e
 refine ⟨⟨hb2.setCell (p:=⟨go,0,none⟩) b1 _,?_,hn2.setCell (fun e => hn2.ne_row r2 e) _,⟨ov',r2.set 0 ov',?_⟩,h.bd⟩,?_⟩
 ·exact (h.row2 h2 hg1 hg2 h.rn hMK).far (Row.ne (h.row2 h2 hg1 hg2 h.rn hMK) r2 hMS) _
 ·rw [List.map_append]
  exact ho.setFar r2 (Ne.symm hKS) 0 ov'
 ·refine ⟨?_,?_,?_,?_,fun g cs E fr hg hE1 hE2 _ => ?_⟩
  ·show w2.os = _; exact hg2.os.trans hg1.os
  ·show w2.tape = _; exact hg2.tape.trans hg1.tape
  ·show w2.output = _; exact hg2.output.trans hg1.output
  ·have e1:=hg1.size; have e2:=hg2.size; simp only [World.size_alloc] at e2; simp [World.setCell]; omega
  ·have hgl:g < W.heap.size:=(Array.getElem?_eq_some_iff.1 hg).1
   have hne:g ≠ bm:=fun e => by
    obtain ⟨D,⟨es,clock,hh,_⟩,_⟩:=h.nm
    rw [<- e,hg] at hh; cases hh
   have hno:g ≠ go:=fun e => by
    have h1':=h1
    unfold Row at h1'
    rw [<- e,hg] at h1'
    simp only [Option.some.injEq,Obj.cells.injEq] at h1'
    exact hE2 h1'.2.1
   have hnv:some g ≠ ov.ownBlock:=fun e => by
    rcases h2.2.2 with ⟨hv,_⟩ | ⟨g2,cap2,cur2,hv,_,hg2',_⟩
    ·rw [hv] at e; cases e
    ·rw [hv] at e
     simp only [Value.ownBlock,Option.some.injEq] at e
     subst e
     rw [hg] at hg2'
     simp only [Option.some.injEq,Obj.cells.injEq] at hg2'
     exact hE1 hg2'.2.1
   rw [Below.heap_setCell _ _ _ _ (by exact hno),hg2.block g (by simp only [World.size_alloc]; have:=hg1.size; omega) hnv,Below.heap_alloc w1 X g (by have:=hg1.size; omega)]
   exact hg1.block g hgl (fun e => hne (Option.some.inj e))
end
end Go.Proofs.YthdabkmkgkkmcaaGreatDoor
namespace Go.Proofs.YthdabkmkgkkmcaaGreatDoor
open Go.RowKit
abbrev ExP (w0:World) (go gn bm:Nat) (ks:List (Nat × Nat)) (W:World):Prop:=ExI 146 142 194 2 pL pC w0 go gn bm ks W
abbrev KeepP (row:Option Nat) (W W':World):Prop:=KeepG 146 142 row W W'
theorem pC_one (p:Nat × Nat):(pC p).length = 2 /\ ∀ u ∈ pC p,u.oneCell' = true:=⟨rfl,fun u hu => by simp [pC] at hu; rcases hu with rfl | rfl <;> rfl⟩
theorem zqg {α:Type} [DecidableEq α] {o:List α} {s:α} (h:s ∈ o):addS o s = o:=by unfold addS; rw [if_pos h]
theorem zqh {α:Type} [DecidableEq α] {o:List α} {s:α} (h:s ∉ o):addS o s = o ++ [s]:=by unfold addS; rw [if_neg h]
theorem zll {α:Type} [DecidableEq α] {o:List α} {s:α} (h:s ∉ o):idxD (o ++ [s]) s = o.length:=by
 rw [zed,if_neg h,zbv,if_pos rfl,Nat.add_zero]
theorem at_P (w0:World) (go gn bm:Nat) (s:Nat × Nat) (hs:pOK s) (ks:List (Nat × Nat)) (hl:ks.length <= 5000) (W:World) (h:ExP w0 go gn bm ks W) :
  Calls Tryz.prog 133 #[pV s,.pointer (some ⟨gn,0,none⟩),.pointer (some ⟨go,0,none⟩)] W
   fun e W' => e = .returned (.int .i64 ((idxD (addS ks s) s:Nat):Int)) /\ ExP w0 go gn bm (addS ks s) W' /\ KeepP none W W':=by
 obtain ⟨ov,ho1,ho2⟩:=h.ro
 obtain ⟨m,hm⟩:=zx ks.length
 obtain ⟨A,c,rfl⟩:=ho2.form (n:=m) (by rw [List.length_map,hm])
 have hkey:=zli s hs
 unfold pV at hkey ⊢
 have hk2:=h.keep (Below.alloc (Below.refl W.heap.size W) zn (.cells #[.int .i64 (s.1:Int),.int .i64 (s.2:Int)] 146))
 have r1:=ho1.alloc (.cells #[.int .i64 (s.1:Int),.int .i64 (s.2:Int)] 146)
 have k1:=ho2.allocd (.cells #[.int .i64 (s.1:Int),.int .i64 (s.2:Int)] 146)
 have rb:=Row.new W 146 #[.int .i64 (s.1:Int),.int .i64 (s.2:Int)]
 have z1:=hk2.rn.cell; have z2:=h.rn.cell
 have zq:=h.rn.lt; have zo:=ho1.lt
 have HK2:=zh hk2; have R1:=zh r1; have K1:=zh k1; have HM:=zh hm; have HKEY:=zh hkey; have RB:=zh rb
 have HB:=zh (show Below W.heap.size W (W.alloc (.cells #[.int .i64 (s.1:Int),.int .i64 (s.2:Int)] 146)) from Below.alloc (Below.refl _ _) zn _)
 clear h ho1 ho2 hm hkey hk2 r1 k1 hs rb
 by_cases hin:s ∈ ks
 ·rw [zqg hin]
  obtain ⟨K,hK⟩:=zx (idxD ks s)
  rw [<- hK]
  have HIN:=zh hin; have HKK:=zh hK
  clear hin hK
  go_enter Tryz.func133,Tryz.ntmps133
  go_wp2_with (at_lookup; refine zcq zd1 rfl (.tmp 8) (.tmp 9) _ rfl zem rfl HK2.out.nm s HIN.out K HKK.out.symm _ rfl HKEY.out ?_)
  go_returns
  exact ⟨rfl,HK2.out,KeepG.of_below HB.out⟩
 ·rw [zqh hin,zll hin,<- HM.out]
  have HIN:=zh hin
  clear hin
  go_enter Tryz.func133,Tryz.ntmps133
  have z3:=R1.out.cell
  go_wp2_with (first
   | (at_lookup; refine zbo zd1 rfl (.tmp 8) (.tmp 9) _ rfl zem rfl HK2.out.nm s HIN.out _ rfl HKEY.out ?_)
   | (at_mapUpdate; refine zaw zpc zd1 rfl (.tmp 17) (.tmp 18) (.tmp 19) _ (.inl rfl) zem rfl HK2.out.nm (by have:=HM.out; omega) s HIN.out _ rfl HKEY.out (by rw [<- HM.out]; rfl) ?_; intro w1 hm1 hg1; have HM1:=zh hm1; have HG1:=zh hg1; have y3:=(R1.out.grown hg1 (fun e => HK2.out.nm.ne_row R1.out (Option.some.inj e).symm)).cell; have y5:=(RB.out.grown hg1 (fun e => HK2.out.nm.ne_row RB.out (Option.some.inj e).symm)).cell; clear hm1 hg1 z3)
   | (at_builtin; go_loud (refine zdi eP rfl (.tmp 20) (.tmp 22) rfl w0.heap.size _ _ rfl ((K1.out.grownNe HG1.out (.inr (fun e => HK2.out.nm.ne_ko K1.out e.symm))).allocd _) _ _ (pC s) rfl rfl (pC_one s).2 (fun j u hj => by rw [(Row.new w1 _ _).cell j]; simpa [pC] using hj) (by rw [List.length_map]; omega) (by simp only [World.size_alloc]; have e1:=HK2.out.below.size; have e2:=HG1.out.size; simp only [World.size_alloc] at e1 e2; omega) ?_; intro ov' w2 ho2 hg2 _; obtain ⟨A',c',rfl⟩:=KO.form (n:=m + 1) ho2 (by rw [List.length_append,List.length_map,HM.out]; rfl); have HADD:=zh (HK2.out.add (by decide) (by decide) (by decide) R1.out K1.out HM1.out HG1.out ho2 hg2); have y6:=(HK2.out.row2 K1.out HG1.out hg2 R1.out (by decide)).cell; have y7:=(HK2.out.row2 K1.out HG1.out hg2 R1.out (by decide)).free; clear ho2 hg2)))
  go_returns
  exact ⟨rfl,HADD.out.1,(KeepG.of_below HB.out).trans HADD.out.2⟩
end Go.Proofs.YthdabkmkgkkmcaaGreatDoor
namespace Go.Proofs.YthdabkmkgkkmcaaGreatDoor
open Go.RowKit
abbrev NextP (P:Nat × Nat -> Prop) (f:Nat × Nat -> Nat × Nat -> Nat -> Nat × Nat) (L:Nat) (j1 j2:Value) (w0:World):Prop:=∀ (a b:Nat × Nat) (x:Nat) (W:World),P a -> P b -> x < L -> Below w0.heap.size w0 W ->
 Calls Tryz.prog 95 #[pV a,pV b,.int .i64 (x:Int),j1,j2] W fun e W' => e = .returned (pV (f a b x)) /\ Below W.heap.size W W'
structure AutV (w:World) (g V:Nat) (d:Dta) (vn vf:Value):Prop where
 row:Row w g 30 #[.int .i64 (V:Int),.int .i64 (d.e:Int),vn,vf]
 hn:N3 w vn (nx3 d.n d.L d.nx)
 hf:NB w vf ((List.range d.n).map d.fin)
theorem AutV.below {w w':World} {g V:Nat} {d:Dta} {vn vf:Value} {B:Nat} (h:AutV w g V d vn vf) (hb:Below B w w') (hB:w.heap.size <= B):AutV w' g V d vn vf :=
 ⟨h.row.below hb (Nat.lt_of_lt_of_le h.row.lt hB),h.hn.below hb hB,h.hf.below hb hB⟩
def inP (a b:Dta) (p:Nat × Nat):Prop:=p.1 < a.n /\ p.2 < b.n
theorem zq7 (a b:Dta) (V:Nat) (ha:a.Fit V) (hb:b.Fit V) (w0:World) (gA gB:Nat) (vn vf un uf:Value) (hA:AutV w0 gA V a vn vf) (hB:AutV w0 gB V b un uf) :
  NextP (inP a b) (pairF a b) a.L (.pointer (some ⟨gA,0,none⟩)) (.pointer (some ⟨gB,0,none⟩)) w0:=by
 intro p q x W hp hq hx hbw
 have hA2:=hA.below hbw zn
 have hB2:=hB.below hbw zn
 obtain ⟨b3,o3,c3,hN⟩:=hA2.hn.nx ha.pos ha.L8.1
 obtain ⟨d3,e3,f3,hM⟩:=hB2.hn.nx hb.pos hb.L8.1
 have hxb:x < b.L:=by rw [hb.L,<- ha.L]; exact hx
 obtain ⟨b2,o2,c2,b1,o1,c1,hb3,c0,hB1,hb2,d0,hC1,hb1,f0⟩:=hN.at3 p.1 q.1 x hp.1 hq.1 hx
 obtain ⟨b2',o2',c2',b1',o1',c1',hb3',c0',hB1',hb2',d0',hC1',hb1',f0'⟩:=hM.at3 p.2 q.2 x hp.2 hq.2 hxb
 obtain rfl:=hN.form
 obtain rfl:=hM.form
 have RA:=zh hA2.row; have RB:=zh hB2.row
 obtain ⟨p1,p2⟩:=p
 obtain ⟨q1,q2⟩:=q
 obtain ⟨hp1,hp2⟩:=hp
 obtain ⟨hq1,hq2⟩:=hq
 simp only at hp1 hp2 hq1 hq2 c0 d0 f0 c0' d0' f0'
 unfold pV
 simp only
 obtain ⟨s,hs⟩:=zx (a.nx p1 q1 x)
 obtain ⟨t,ht⟩:=zx (b.nx p2 q2 x)
 have hres:pairF a b (p1,p2) (q1,q2) x = (s,t):=by rw [hs,ht]; rfl
 rw [hres]
 simp only
 rw [<- hs] at f0
 rw [<- ht] at f0'
 obtain ⟨n,hnn⟩:=zx a.n
 obtain ⟨n',hnn'⟩:=zx b.n
 obtain ⟨L,hLL⟩:=zx a.L
 obtain ⟨L',hLL'⟩:=zx b.L
 rw [<- hnn] at hp1 hq1 c0 RA hB1
 rw [<- hnn'] at hp2 hq2 c0' RB hB1'
 rw [<- hLL] at d0 hx hC1
 rw [<- hLL'] at d0' hxb hC1'
 clear hA hB hA2 hB2 hN hM hs ht hres hnn hnn' hLL hLL' hbw ha hb
 have HCC:=zh (fun W1 (h:Below W.heap.size W W1) => (show W1.cell? ⟨b3,o3 + p1,none⟩ = _ /\ W1.cell? ⟨b2,o2 + q1,none⟩ = _ /\ W1.cell? ⟨b1,o1 + x,none⟩ = _ /\ W1.cell? ⟨d3,e3 + p2,none⟩ = _ /\ W1.cell? ⟨b2',o2' + q2,none⟩ = _ /\ W1.cell? ⟨b1',o1' + x,none⟩ = _ from
  ⟨(h.cell (p:=⟨b3,_,none⟩) hb3).trans c0,(h.cell (p:=⟨b2,_,none⟩) hb2).trans d0,(h.cell (p:=⟨b1,_,none⟩) hb1).trans f0,(h.cell (p:=⟨d3,_,none⟩) hb3').trans c0',(h.cell (p:=⟨b2',_,none⟩) hb2').trans d0',(h.cell (p:=⟨b1',_,none⟩) hb1').trans f0'⟩))
 clear c0 d0 f0 c0' d0' f0' hb3 hb2 hb1 hb3' hb2' hb1'
 go_enter Tryz.func95,Tryz.ntmps95
 go_upto_region 1 with fail
 refine zaa (fun W1 => Below W.heap.size W W1 /\ Row W1 W.heap.size 146 #[.int .i64 (p1:Int),.int .i64 (p2:Int)] /\ Row W1 (W.heap.size + 1) 146 #[.int .i64 (q1:Int),.int .i64 (q2:Int)] /\ Row W1 (W.heap.size + 1 + 1) 146 #[.int .i64 0,.int .i64 0])
  ⟨by go_grown,((Row.new _ _ _).alloc _).alloc _,(Row.lit (by simp)).alloc _,Row.lit (by simp)⟩ ?_
 rintro W1 ⟨hb,r1,r2,r3⟩
 obtain ⟨c0,d0,f0,c0',d0',f0'⟩:=HCC.out W1 hb
 have z1:=(RA.out.below hb RA.out.lt).cell; have z2:=(RB.out.below hb RB.out.lt).cell
 have y1:=r1.cell; have y2:=r2.cell; have y3:=r3.cell; have y4:=r3.free
 have HB:=zh hb; have R3:=zh r3
 clear hb r1 r2 r3 HCC RA RB
 go_still_tail 27,(by kernel_rfl)
 change wpList _ _ _ _ _ W1.drew
 have R3D:=zh (R3.out.drew); have HBD:=zh (HB.out.drew)
 have z5:=R3D.out.cell; have z6:=R3D.out.free
 generalize W1.drew = W2 at *
 go_wp2
 refine zah (fun W' => Row W' (W.heap.size + 1 + 1) 146 #[.int .i64 (s:Int),.int .i64 (t:Int)] /\ Below W.heap.size W W')
  ⟨(R3D.out.set 0 _).set 1 _,((HBD.out).setCell (p:=⟨W.heap.size + 1 + 1,0,none⟩) (by simp; omega) _).setCell (p:=⟨W.heap.size + 1 + 1,1,none⟩) (by simp; omega) _⟩ ?_
 clear y1 y2 y3 y4 z1 z2 z5 z6 c0 d0 f0 c0' d0' f0'
 rintro W5 ⟨r0,hb⟩
 have b0:=r0.cell
 have q0:=b0 0; have q1:=b0 1
 simp only [List.getElem?_toArray,List.getElem?_cons_zero,List.getElem?_cons_succ] at q0 q1
 have HB5:=zh hb
 clear b0 r0 hb
 exact bodyPost_ret (v:=.agg #[.int .i64 (s:Int),.int .i64 (t:Int)]) (by simp [results,Tryz.results95,go_sem,q0,q1]) rfl ⟨rfl,HB5.out⟩
end Go.Proofs.YthdabkmkgkkmcaaGreatDoor
namespace Go.Proofs.YthdabkmkgkkmcaaGreatDoor
open Go.RowKit
theorem eTD:EltK 65 30 4 64:=EltK.mk' (by kernel_rfl) (.agg #[.int .i64 0,.int .i64 0,.slice none 0 0,.slice none 0 0]) (by kernel_rfl) rfl (by omega) (by omega)
def StkR (W:World) (B:Nat) (stk:Value) (rs:List Raw):Prop:=∃ ls,KO 30 4 W B stk ls /\ ls.length = rs.length /\ ∀ (i:Nat) l,ls[i]? = some l -> ∃ r,rs[i]? = some r /\ TDO W B (.agg l.toArray) r
theorem StkR.nil (W:World) (B:Nat):StkR W B (.slice none 0 0) []:=⟨[],KO.nil _ _ _ _,rfl,fun i l h => by simp at h⟩
theorem StkR.below {W W':World} {B:Nat} {stk:Value} {rs:List Raw} (h:StkR W B stk rs) (hb:Below W.heap.size W W'):StkR W' B stk rs:=by
 obtain ⟨ls,h1,h2,h3⟩:=h
 exact ⟨ls,h1.below hb zn,h2,fun i l hl => by
  obtain ⟨r,h4,h5⟩:=h3 i l hl
  exact ⟨r,h4,h5.below hb zn⟩⟩
theorem StkR.setTy {W:World} {B g:Nat} {stk:Value} {rs:List Raw} {E:TypeId} {cs:Array Value} (h:StkR W B stk rs) (r:Row W g E cs) (h0:30 ≠ E) (h1:3 ≠ E) (h2:36 ≠ E) (h3:37 ≠ E) (h4:4 ≠ E) (i:Nat) (u:Value):StkR (W.setCell ⟨g,i,none⟩ u) B stk rs:=by
 obtain ⟨ls,k1,k2,k3⟩:=h
 exact ⟨ls,k1.setFar r h0 i u,k2,fun j l hl => by
  obtain ⟨q,h5,h6⟩:=k3 j l hl
  exact ⟨q,h5,h6.setTy r h1 h2 h3 h4 i u⟩⟩
theorem StkR.push {W W':World} {B:Nat} {stk stk':Value} {rs:List Raw} {ls:List (List Value)} {a:List Value} {r:Raw} (h1:KO 30 4 W B stk ls) (h2:ls.length = rs.length) (h3:∀ (i:Nat) l,ls[i]? = some l -> ∃ r,rs[i]? = some r /\ TDO W B (.agg l.toArray) r)
  (hr:TDO W B (.agg a.toArray) r) (ho:KO 30 4 W' B stk' (ls ++ [a])) (hg:W.grownBy W' stk.ownBlock):StkR W' B stk' (rs ++ [r]):=by
 refine ⟨ls ++ [a],ho,by simp [h2],fun i l hl => ?_⟩
 by_cases hi:i < ls.length
 ·rw [List.getElem?_append_left hi] at hl
  obtain ⟨q,h4,h5⟩:=h3 i l hl
  exact ⟨q,by rw [List.getElem?_append_left (by omega)]; exact h4,h5.farG (by decide) (by decide) (by decide) (by decide) h1.2 hg⟩
 ·rw [List.getElem?_append_right (by omega)] at hl
  have hz:i - ls.length = 0:=by have:=(List.getElem?_eq_some_iff.1 hl).1; simp at this; omega
  rw [hz] at hl
  simp at hl
  subst hl
  exact ⟨r,by rw [List.getElem?_append_right (by omega),<- h2,hz]; rfl,hr.farG (by decide) (by decide) (by decide) (by decide) h1.2 hg⟩
theorem StkR.pop {W:World} {B g n cap m:Nat} {rs:List Raw} (h:StkR W B (.slice (some ⟨g,0,none⟩) n cap) rs) (hm:m <= n):StkR W B (.slice (some ⟨g,0,none⟩) m cap) (rs.take m):=by
 obtain ⟨ls,h1,h2,h3⟩:=h
 refine ⟨ls.take m,h1.take hm,by rw [List.length_take,List.length_take,h2],fun i l hl => ?_⟩
 rw [List.getElem?_take] at hl
 split at hl
 ·obtain ⟨q,h4,h5⟩:=h3 i l hl
  exact ⟨q,by rw [List.getElem?_take,if_pos ‹_›]; exact h4,h5⟩
 ·cases hl
structure CpF (B gc:Nat) (w w':World):Prop where
 below:Below B w w'
 rows:∀ g E cs,E ≠ 30 -> g ≠ gc -> Row w g E cs -> Row w' g E cs
theorem CpF.trans {B gc:Nat} {w1 w2 w3:World} (h:CpF B gc w1 w2) (h2:CpF B gc w2 w3):CpF B gc w1 w3 :=
 ⟨h.below.trans h2.below,fun g E cs hE hg r => h2.rows g E cs hE hg (h.rows g E cs hE hg r)⟩
theorem CpF.of {B gc:Nat} {w w':World} (h:Below w.heap.size w w') (hB:B <= w.heap.size):CpF B gc w w':=⟨h.mono hB,fun _ _ _ _ _ r => r.below h r.lt⟩
end Go.Proofs.YthdabkmkgkkmcaaGreatDoor
namespace Go.Proofs.YthdabkmkgkkmcaaGreatDoor
open Go.RowKit
structure CpI (B gc:Nat) (V M:Int) (stk:Value) (e:Int) (rs:List Raw) (W:World):Prop where
 row:Row W gc 67 #[.int .i64 V,.int .i64 M,stk,.int .i64 e]
 stk:StkR W B stk rs
 le:B <= W.heap.size
 gB:B <= gc
theorem keep_no (B gc:Nat) (V M e0:Int) (h0:(e0 == 0) = false) (A:Option Addr) (n c:Nat) (rs:List Raw) (w:World) (hc:CpI B gc V M (.slice A n c) e0 rs w) (x0 x1 x2 x3:Value) (e:Int) :
  Calls Tryz.prog 71 #[.pointer (some ⟨gc,0,none⟩),.agg #[x0,x1,x2,x3],.int .i64 e] w fun q w' => q = .returned (.tuple #[]) /\ Below w.heap.size w w':=by
 have y0:=hc.row.cell; have y2:=hc.row.lt
 have HC:=zh hc
 clear hc
 go_enter Tryz.func71,Tryz.ntmps71
 go_wp2
 go_returns
 exact ⟨rfl,by go_grown⟩
theorem keep_ok (B gc:Nat) (V M:Int) (A:Option Addr) (n c:Nat) (rs:List Raw) (hn:rs.length <= 1000) (w:World) (hc:CpI B gc V M (.slice A n c) 0 rs w) (r:Raw) (A1 A2:Option Addr) (n1 c1 n2 c2:Nat) (hr:TDO w B (.agg #[.int .i64 r.vars,.int .i64 r.empty,.slice A1 n1 c1,.slice A2 n2 c2]) r) (e:Int) :
  Calls Tryz.prog 71 #[.pointer (some ⟨gc,0,none⟩),.agg #[.int .i64 r.vars,.int .i64 r.empty,.slice A1 n1 c1,.slice A2 n2 c2],.int .i64 e] w fun q w' => q = .returned (.tuple #[]) /\ CpF B gc w w' /\ ∃ A' n' c',CpI B gc V M (.slice A' n' c') e (rs ++ [r]) w':=by
 have y0:=hc.row.cell; have y1:=hc.row.free; have y2:=hc.row.lt
 have HC:=zh hc; have HR:=zh hr
 clear hc hr
 go_enter Tryz.func71,Tryz.ntmps71
 go_upto_region 3 with fail
 have hA:=fun W:World => Below.alloc (Below.refl W.heap.size W) zn (.cells #[.int .i64 r.vars,.int .i64 r.empty,.slice A1 n1 c1,.slice A2 n2 c2] 30)
 have r1:=HC.out.row.set 3 (.int .i64 e)
 refine zaa (fun W => CpI B gc V M (.slice A n c) e rs W /\ Row W w.heap.size 30 #[.int .i64 r.vars,.int .i64 r.empty,.slice A1 n1 c1,.slice A2 n2 c2] /\ TDO W B (.agg #[.int .i64 r.vars,.int .i64 r.empty,.slice A1 n1 c1,.slice A2 n2 c2]) r /\ CpF B gc w W)
  ⟨⟨r1.alloc _,(HC.out.stk.setTy HC.out.row (by decide) (by decide) (by decide) (by decide) (by decide) 3 _).below (hA _),by have:=HC.out.le; simp; omega,HC.out.gB⟩,Row.lit (by simp),(HR.out.setTy HC.out.row (by decide) (by decide) (by decide) (by decide) 3 _).below (hA _) zn,⟨((Below.refl B w).setCell (p:=⟨gc,3,none⟩) HC.out.gB _).trans ((hA _).mono (by have:=HC.out.le; simp; omega)),fun g E cs _ hg h => (h.far (p:=⟨gc,3,none⟩) hg _).alloc _⟩⟩ ?_
 clear y0 y1 y2 hA r1
 rintro W ⟨hc,hd,hr,hb⟩
 have y0:=hc.row.cell; have y1:=hc.row.free; have y2:=hc.row.lt; have d0:=hd.cell
 have HC2:=zh hc; have HD:=zh hd; have HR2:=zh hr; have HB:=zh hb
 obtain ⟨ls,k1,k2,k3⟩:=hc.stk
 have K1:=zh k1; have K2:=zh k2; have K3:=zh k3
 clear hc hd hr hb k1 k2 k3 HC HR
 have HL:=zh (show ls.length <= 100000 by have:=K2.out; omega)
 have HLE:=zh HC2.out.le
 go_region_law (first
  | (refine zhe eTD rfl (.tmp 19) (.tmp 21) rfl B _ ls rfl (K1.out.below (B':=W.heap.size) (by go_grown) zn) _ _ [.int .i64 r.vars,.int .i64 r.empty,.slice A1 n1 c1,.slice A2 n2 c2] rfl rfl (by intro u hu; simp at hu; rcases hu with rfl | rfl | rfl | rfl <;> rfl) (fun j u hj => by first | exact ((Row.new _ _ _).cell j).trans (by rw [List.getElem?_toArray]; exact hj) | exact ((Row.lit rfl).cell j).trans (by rw [List.getElem?_toArray]; exact hj) | exact ((Row.litd rfl).cell j).trans (by rw [List.getElem?_toArray]; exact hj)) HL.out (by have:=HLE.out; simp only [World.size_alloc,World.size_drew]; omega) ?_; intro v4 w4 ho4 hg4 _; obtain ⟨A4,c4,rfl⟩:=KO.form (n:=ls.length + 1) ho4 (by simp); have HO4:=zh ho4; have HG4:=zh hg4; have R4:=zh ((HC2.out.row.below (B:=W.heap.size) (by go_grown) HC2.out.row.lt).far_own (by decide) (K1.out.below (B':=W.heap.size) (by go_grown) zn).2 hg4); have z4:=R4.out.cell; have f4:=R4.out.free; have PU:=zh (StkR.push (K1.out.below (B':=W.heap.size) (by go_grown) zn) K2.out (fun i l hl => by obtain ⟨q,h1,h2⟩:=K3.out i l hl; exact ⟨q,h1,h2.below (B':=W.heap.size) (by go_grown) zn⟩) (HR2.out.below (B':=W.heap.size) (by go_grown) zn) ho4 hg4); have hsz:=HLE.out; have F4:=zh (fun g E cs (hE:E ≠ 30) (h:Row W g E cs) => (h.below (B:=W.heap.size) (by go_grown) h.lt).far_own hE (K1.out.below (B':=W.heap.size) (by go_grown) zn).2 hg4); have HB4:Hid (Below B W w4):=Below.grown ((by go_grown:Below W.heap.size W _).mono hsz) hg4 (by simp only [World.size_alloc,World.size_drew]; omega) (fun k hk => (World.ownsRow.lt K1.out.2 k hk).1); clear ho4 hg4)
  )
 all_goals
  go_returns
  exact ⟨rfl,⟨(HB.out.below.trans HB4.out).setCell (p:=⟨gc,2,none⟩) HC2.out.gB _,fun g E cs hE hg h => (F4.out g E cs hE (HB.out.rows g E cs hE hg h)).far (p:=⟨gc,2,none⟩) hg _⟩,_,_,_,R4.out.set 2 _,PU.out.setTy R4.out (by decide) (by decide) (by decide) (by decide) (by decide) 2 _,by have:=HB4.out.size; have:=HLE.out; simp; omega,HC2.out.gB⟩
end Go.Proofs.YthdabkmkgkkmcaaGreatDoor
