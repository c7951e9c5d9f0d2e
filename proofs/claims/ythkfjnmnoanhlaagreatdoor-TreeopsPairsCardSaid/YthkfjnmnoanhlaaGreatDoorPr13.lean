/- Part 13 of the proof; it says: lemmas and contracts. No conditions but those that each theorem states. -/
import Derived.StillTailTactics
import Derived.Test.YthkfjnmnoanhlaaGreatDoorPr01
import Derived.Test.YthkfjnmnoanhlaaGreatDoorPr05
import Derived.Test.YthkfjnmnoanhlaaGreatDoorPr07
import Derived.Test.YthkfjnmnoanhlaaGreatDoorPr11
set_option linter.unusedSimpArgs false
set_option linter.unusedVariables false
set_option linter.unusedSectionVars false
set_option maxRecDepth 100000
set_option maxHeartbeats 32000000
namespace Go.Proofs.YthkfjnmnoanhlaaGreatDoor
open Go.RowKit
structure KeepG (E1 E2:TypeId) (row:Option Nat) (W W':World):Prop where
 os:W'.os = W.os
 tape:W'.tape = W.tape
 output:W'.output = W.output
 size:W.heap.size <= W'.heap.size
 block:∀ g cs E fr,W.heap[g]? = some (.cells cs E fr) -> E ≠ E1 -> E ≠ E2 -> some g ≠ row -> W'.heap[g]? = W.heap[g]?
theorem KeepG.refl (E1 E2:TypeId) (row:Option Nat) (W:World):KeepG E1 E2 row W W:=⟨rfl,rfl,rfl,zn,fun _ _ _ _ _ _ _ _ => rfl⟩
theorem KeepG.of_below {E1 E2:TypeId} {row:Option Nat} {W W':World} (h:Below W.heap.size W W'):KeepG E1 E2 row W W' :=
 ⟨h.os,h.tape,h.output,h.size,fun g cs E fr hg _ _ _ => h.block g (Array.getElem?_eq_some_iff.1 hg).1⟩
theorem KeepG.trans {E1 E2:TypeId} {row:Option Nat} {A B C:World} (h:KeepG E1 E2 row A B) (k:KeepG E1 E2 row B C):KeepG E1 E2 row A C :=
 ⟨k.os.trans h.os,k.tape.trans h.tape,k.output.trans h.output,Nat.le_trans h.size k.size,fun g cs E fr hg h1 h2 h3 => (k.block g cs E fr ((h.block g cs E fr hg h1 h2 h3).trans hg) h1 h2 h3).trans (h.block g cs E fr hg h1 h2 h3)⟩
theorem KeepG.wide {E1 E2:TypeId} {row:Option Nat} {W W':World} (h:KeepG E1 E2 none W W'):KeepG E1 E2 row W W' :=
 ⟨h.os,h.tape,h.output,h.size,fun g cs E fr hg h1 h2 _ => h.block g cs E fr hg h1 h2 (by simp)⟩
theorem Row.keepG {E1 E2:TypeId} {row:Option Nat} {W W':World} {g:Nat} {E:TypeId} {cs:Array Value} (r:Row W g E cs) (h:KeepG E1 E2 row W W') (h1:E ≠ E1) (h2:E ≠ E2) (h3:some g ≠ row):Row W' g E cs:=(h.block g cs E (0,0) r h1 h2 h3).trans r
theorem VO.keepG {E1 E2:TypeId} {row:Option Nat} {W W':World} {B:Nat} {E:TypeId} {v:Value} {l:List Value} (r:VO E W B v l) (h:KeepG E1 E2 row W W') (h1:E ≠ E1) (h2:E ≠ E2) (h3:v.ownBlock = none \/ v.ownBlock ≠ row):VO E W' B v l:=by
 obtain ⟨h0,hl,h4⟩:=r
 refine ⟨h0,hl,?_⟩
 rcases h4 with h4 | ⟨g,cap,cur,hv,hB,hg,r⟩
 ·exact .inl h4
 ·refine .inr ⟨g,cap,cur,hv,hB,(h.block g cur E (0,0) hg h1 h2 (fun e => ?_)).trans hg,r⟩
  have e2:v.ownBlock = some g:=by rw [hv]; rfl
  rw [e2] at h3
  rcases h3 with h3 | h3
  ·cases h3
  ·exact h3 e
theorem O1.keepG {E1 E2:TypeId} {W W':World} {B:Nat} {v:Value} {l:List Int} (r:O1 W B v l) {row:Option Nat} (h:KeepG E1 E2 row W W') (h1:3 ≠ E1) (h2:3 ≠ E2) (h3:∀ g cs fr,row = some g -> W.heap[g]? ≠ some (.cells cs 3 fr)):O1 W' B v l:=by
 have r':VO 3 W B v (iL l):=r
 refine VO.keepG r' h h1 h2 ?_
 cases hv:v.ownBlock with
 | none => exact .inl rfl
 | some g =>
  refine .inr (fun e => ?_)
  rcases r'.2.2 with ⟨hv2,_⟩ | ⟨g2,cap,cur,hv2,_,hg,_⟩
  ·rw [hv2] at hv; cases hv
  ·rw [hv2] at hv
   simp only [Value.ownBlock,Option.some.injEq] at hv
   subst hv
   exact h3 g2 cur (0,0) e.symm hg
theorem VO.not_int {E:TypeId} {W:World} {B:Nat} {v:Value} {l:List Value} (h:VO E W B v l) (hne:E ≠ 3):∀ g cs fr,v.ownBlock = some g -> W.heap[g]? ≠ some (.cells cs 3 fr):=by
 intro g cs fr hg e
 rcases h.2.2 with ⟨hv,_⟩ | ⟨g2,cap,cur,hv,_,hg2,_⟩
 ·rw [hv] at hg; cases hg
 ·rw [hv] at hg
  simp only [Value.ownBlock,Option.some.injEq] at hg
  subst hg
  rw [hg2] at e
  simp only [Option.some.injEq,Obj.cells.injEq] at e
  exact hne e.2.1
def pV (p:Nat × Nat):Value:=.agg #[.int .i64 (p.1:Int),.int .i64 (p.2:Int)]
def pC (p:Nat × Nat):List Value:=[.int .i64 (p.1:Int),.int .i64 (p.2:Int)]
def pOK (p:Nat × Nat):Prop:=p.1 < 64 /\ p.2 < 64
instance (p:Nat × Nat):Decidable (pOK p):=inferInstanceAs (Decidable (p.1 < 64 /\ p.2 < 64))
def pL (p:Nat × Nat):Lit:=if pOK p then .string (keyBytes [.int .i64 (p.1:Int),.int .i64 (p.2:Int)]) else .int .i64 (((p.1 + p.2) * (p.1 + p.2) + p.1:Nat):Int)
theorem cantor {a b c d:Nat} (h:(a + b) * (a + b) + a = (c + d) * (c + d) + c):a = c /\ b = d:=by
 have key:∀ s t x y:Nat,x <= s -> s < t -> s * s + x = t * t + y -> False:=by
  intro s t x y hx hst he
  have h1:(s + 1) * (s + 1) <= t * t:=Nat.mul_le_mul hst hst
  have h2:(s + 1) * (s + 1) = s * s + 2 * s + 1:=by rw [Nat.mul_add,Nat.add_mul]; omega
  omega
 rcases Nat.lt_trichotomy (a + b) (c + d) with hl | he | hl
 ·exact (key _ _ _ _ (by omega) hl h).elim
 ·rw [he] at h; omega
 ·exact (key _ _ _ _ (by omega) hl h.symm).elim
theorem zop:Kl pL:=by
 refine ⟨fun a b h => ?_,fun a => by unfold pL; split <;> trivial⟩
 unfold pL at h
 by_cases ha:pOK a <;> by_cases hb:pOK b
 ·rw [if_pos ha,if_pos hb] at h
  simp only [Lit.string.injEq] at h
  have:=keyBytes_inj (l:=[.int .i64 (a.1:Int),.int .i64 (a.2:Int)]) (l':=[.int .i64 (b.1:Int),.int .i64 (b.2:Int)]) (by simp [Alike,Lit.sameKind]) (by intro x hx; simp at hx; rcases hx with rfl | rfl <;> exact zgy _ (by have:=ha.1; have:=ha.2; omega)) (by intro x hx; simp at hx; rcases hx with rfl | rfl <;> exact zgy _ (by have:=hb.1; have:=hb.2; omega)) h
  simp only [List.cons.injEq,Lit.int.injEq,true_and,and_true] at this
  exact Prod.ext (by omega) (by omega)
 ·rw [if_pos ha,if_neg hb] at h; cases h
 ·rw [if_neg ha,if_pos hb] at h; cases h
 ·rw [if_neg ha,if_neg hb] at h
  simp only [Lit.int.injEq,true_and] at h
  have:=cantor (show (a.1 + a.2) * (a.1 + a.2) + a.1 = (b.1 + b.2) * (b.1 + b.2) + b.1 by omega)
  exact Prod.ext this.1 this.2
theorem zl1:WideMaps.ArrKey Tryz.prog 143 3 2:=⟨by kernel_rfl,by kernel_rfl,by kernel_rfl,by kernel_rfl⟩
theorem zdo:Maps.Keyed Tryz.prog 143:=Maps.Keyed.of_law zl1.law
theorem zm3:0 < Tryz.prog.types.size:=by decide +kernel
theorem EltK.mk' {T E:TypeId} {k by8:Nat} (hu:Tryz.prog.underlying T = some (.slice E)) (z:Value) (hi:(Tryz.prog.info? E).map (fun i => (i.zero,i.size,i.bytes)) = some (some z,k,by8)) (hz:z.cells.size = k) (h48:by8 <= 48) (hk:0 < k):EltK T E k by8:=by
 obtain ⟨i,h1,h2,h3,h4⟩:=info_parts hi
 exact ⟨hu,⟨i,z,h1,h2,h3,h4,hz⟩,h48,hk⟩
theorem zli (p:Nat × Nat) (h:pOK p):keyOf Tryz.prog 143 (pV p) = some (pL p):=by
 unfold pL pV
 rw [if_pos h]
 exact WideMaps.keyOf_pair zl1 zbh ⟨_,(Nat.succ_pred_eq_of_pos zm3).symm⟩ (zgy _ (by have:=h.1; omega)) (zgy _ (by have:=h.2; omega))
theorem zd6:Tryz.prog.underlying 175 = some (.map 143 3):=by kernel_rfl
theorem eP:EltK 140 143 2 16:=EltK.mk' (by kernel_rfl) (.agg #[.int .i64 0,.int .i64 0]) (by kernel_rfl) rfl (by omega) (by omega)
def sV (s:Nat):Value:=.int .u64 (s:Int)
def sC (s:Nat):List Value:=[.int .u64 (s:Int)]
def sOK (s:Nat):Prop:=s < 2 ^ 64
def sL (s:Nat):Lit:=.int .u64 (s:Int)
theorem kl_set:Kl sL:=⟨fun a b h => by simp only [sL,Lit.int.injEq,true_and] at h; omega,fun a => trivial⟩
theorem zik:Tryz.prog.underlying 39 = some (.int .u64):=by kernel_rfl
theorem zei:Maps.Keyed Tryz.prog 39:=Maps.int_keyed zik
theorem zou (s:Nat) (h:sOK s):keyOf Tryz.prog 39 (sV s) = some (sL s):=Maps.keyOf_int_mk zik (by
 have h1:IntKind.min .u64 = 0:=by decide
 have h2:IntKind.max .u64 = 18446744073709551615:=by decide
 unfold sOK at h
 simp only [Lit.wf,h1,h2,Bool.and_eq_true,decide_eq_true_eq]
 omega)
theorem zd5:Tryz.prog.underlying 125 = some (.map 39 3):=by kernel_rfl
theorem eS:EltK 72 39 1 8:=EltK.mk' (by kernel_rfl) (.int .u64 0) (by kernel_rfl) rfl (by omega) (by omega)
end Go.Proofs.YthkfjnmnoanhlaaGreatDoor
namespace Go.Proofs.YthkfjnmnoanhlaaGreatDoor
open Go.RowKit
section
variable {α:Type} [DecidableEq α]
structure ExI (K SK MT:TypeId) (n:Nat) (lit:α -> Lit) (kC:α -> List Value) (w0:World) (go gn bm:Nat) (ks:List α) (W:World):Prop where
 below:Below w0.heap.size w0 W
 rn:Row W gn MT #[.map (some bm)]
 nm:NM K lit W bm ks
 ro:∃ ov,Row W go SK #[ov] /\ KO K n W w0.heap.size ov (ks.map kC)
 bd:w0.heap.size <= go /\ w0.heap.size <= gn /\ w0.heap.size <= bm
variable {K SK MT:TypeId} {n:Nat} {lit:α -> Lit} {kC:α -> List Value} {w0:World} {go gn bm:Nat} {ks:List α}
theorem ExI.keep {W W':World} (h:ExI K SK MT n lit kC w0 go gn bm ks W) (hb:Below W.heap.size W W'):ExI K SK MT n lit kC w0 go gn bm ks W':=by
 obtain ⟨ov,h1,h2⟩:=h.ro
 exact ⟨h.below.trans (hb.mono h.below.size),h.rn.below hb h.rn.lt,h.nm.below hb h.nm.lt,⟨ov,h1.below hb h1.lt,h2.below hb zn⟩,h.bd⟩
theorem ExI.row2 {W w1 w2:World} {ov:Value} {X:Obj} (h:ExI K SK MT n lit kC w0 go gn bm ks W) (h2:KO K n W w0.heap.size ov (ks.map kC)) (hg1:W.grownBy w1 (some bm)) (hg2:(w1.alloc X).grownBy w2 ov.ownBlock) {g:Nat} {E:TypeId} {cs:Array Value} (r:Row W g E cs) (hE:E ≠ K):Row w2 g E cs:=by
 have r1:Row (w1.alloc X) g E cs:=(r.grown hg1 (fun e => h.nm.ne_row r (Option.some.inj e).symm)).alloc X
 have k1:KO K n (w1.alloc X) w0.heap.size ov (ks.map kC):=(h2.grownNe hg1 (.inr (fun e => h.nm.ne_ko h2 e.symm))).allocd X
 exact r1.grown hg2 (fun e => k1.ne_row r1 hE.symm e.symm)
theorem ExI.add {W w1 w2:World} {s:α} {ov ov':Value} {X:Obj} (h:ExI K SK MT n lit kC w0 go gn bm ks W) (hKS:SK ≠ K) (hMK:MT ≠ K) (hMS:MT ≠ SK) (h1:Row W go SK #[ov]) (h2:KO K n W w0.heap.size ov (ks.map kC))
  (hm:NM K lit w1 bm (ks ++ [s])) (hg1:W.grownBy w1 (some bm)) (ho:KO K n w2 w0.heap.size ov' (ks.map kC ++ [kC s])) (hg2:(w1.alloc X).grownBy w2 ov.ownBlock) :
  ExI K SK MT n lit kC w0 go gn bm (ks ++ [s]) (w2.setCell ⟨go,0,none⟩ ov') /\ KeepG K SK none W (w2.setCell ⟨go,0,none⟩ ov'):=by
 have r2:=h.row2 h2 hg1 hg2 h1 hKS
 obtain ⟨b1,b2,b3⟩:=h.bd
 have k1:KO K n (w1.alloc X) w0.heap.size ov (ks.map kC):=(h2.grownNe hg1 (.inr (fun e => h.nm.ne_ko h2 e.symm))).allocd X
 have hb2:Below w0.heap.size w0 w2:=by
  refine Below.grown (Below.alloc (h.below.grown hg1 h.below.size (fun k hk => by cases hk; exact b3)) ?_ X) hg2 ?_ (fun k hk => (k1.blk_lt hk).1)
  ·exact Nat.le_trans h.below.size hg1.size
  ·simp only [World.size_alloc]; have:=h.below.size; have:=hg1.size; omega
 have hn2:NM K lit w2 bm (ks ++ [s]):=by
  refine (hm.alloc X).kept hg2 (fun e => ?_)
  have:=h.nm.ne_ko h2
  exact this e
 refine ⟨⟨hb2.setCell (p:=⟨go,0,none⟩) b1 _,?_,hn2.setCell (fun e => hn2.ne_row r2 e) _,⟨ov',r2.set 0 ov',?_⟩,h.bd⟩,?_⟩
 ·exact (h.row2 h2 hg1 hg2 h.rn hMK).far (Row.ne (h.row2 h2 hg1 hg2 h.rn hMK) r2 hMS) _
 ·rw [List.map_append]
  exact ho.setFar r2 (Ne.symm hKS) 0 ov'
 ·refine ⟨?_,?_,?_,?_,fun g cs E fr hg hE1 hE2 _ => ?_⟩
  ·show w2.os = _; exact hg2.os.trans hg1.os
  ·show w2.tape = _; exact hg2.tape.trans hg1.tape
  ·show w2.output = _; exact hg2.output.trans hg1.output
  ·have e1:=hg1.size; have e2:=hg2.size; simp only [World.size_alloc] at e2; simp [World.setCell]; omega
  ·have hgl:g < W.heap.size:=(Array.getElem?_eq_some_iff.1 hg).1
   have hne:g ≠ bm:=fun e => by
    obtain ⟨D,⟨es,clock,hh,_⟩,_⟩:=h.nm
    rw [<- e,hg] at hh; cases hh
   have hno:g ≠ go:=fun e => by
    have h1':=h1
    unfold Row at h1'
    rw [<- e,hg] at h1'
    simp only [Option.some.injEq,Obj.cells.injEq] at h1'
    exact hE2 h1'.2.1
   have hnv:some g ≠ ov.ownBlock:=fun e => by
    rcases h2.2.2 with ⟨hv,_⟩ | ⟨g2,cap2,cur2,hv,_,hg2',_⟩
    ·rw [hv] at e; cases e
    ·rw [hv] at e
     simp only [Value.ownBlock,Option.some.injEq] at e
     subst e
     rw [hg] at hg2'
     simp only [Option.some.injEq,Obj.cells.injEq] at hg2'
     exact hE1 hg2'.2.1
   rw [Below.heap_setCell _ _ _ _ (by exact hno),hg2.block g (by simp only [World.size_alloc]; have:=hg1.size; omega) hnv,Below.heap_alloc w1 X g (by have:=hg1.size; omega)]
   exact hg1.block g hgl (fun e => hne (Option.some.inj e))
end
end Go.Proofs.YthkfjnmnoanhlaaGreatDoor
namespace Go.Proofs.YthkfjnmnoanhlaaGreatDoor
open Go.RowKit
abbrev ExP (w0:World) (go gn bm:Nat) (ks:List (Nat × Nat)) (W:World):Prop:=ExI 143 140 175 2 pL pC w0 go gn bm ks W
abbrev KeepP (row:Option Nat) (W W':World):Prop:=KeepG 143 140 row W W'
theorem pC_one (p:Nat × Nat):(pC p).length = 2 /\ ∀ u ∈ pC p,u.oneCell' = true:=⟨rfl,fun u hu => by simp [pC] at hu; rcases hu with rfl | rfl <;> rfl⟩
theorem zkn {α:Type} [DecidableEq α] {o:List α} {s:α} (h:s ∈ o):addS o s = o:=by unfold addS; rw [if_pos h]
theorem zko {α:Type} [DecidableEq α] {o:List α} {s:α} (h:s ∉ o):addS o s = o ++ [s]:=by unfold addS; rw [if_neg h]
theorem zlj {α:Type} [DecidableEq α] {o:List α} {s:α} (h:s ∉ o):idxD (o ++ [s]) s = o.length:=by
 rw [zdz,if_neg h,zbo,if_pos rfl,Nat.add_zero]
theorem at_P (w0:World) (go gn bm:Nat) (s:Nat × Nat) (hs:pOK s) (ks:List (Nat × Nat)) (hl:ks.length <= 5000) (W:World) (h:ExP w0 go gn bm ks W) :
  Calls Tryz.prog 147 #[pV s,.pointer (some ⟨gn,0,none⟩),.pointer (some ⟨go,0,none⟩)] W
   fun e W' => e = .returned (.int .i64 ((idxD (addS ks s) s:Nat):Int)) /\ ExP w0 go gn bm (addS ks s) W' /\ KeepP none W W':=by
 obtain ⟨ov,ho1,ho2⟩:=h.ro
 obtain ⟨m,hm⟩:=zx ks.length
 obtain ⟨A,c,rfl⟩:=ho2.form (n:=m) (by rw [List.length_map,hm])
 have hkey:=zli s hs
 unfold pV at hkey ⊢
 have hk2:=h.keep (Below.alloc (Below.refl W.heap.size W) zn (.cells #[.int .i64 (s.1:Int),.int .i64 (s.2:Int)] 143))
 have r1:=ho1.alloc (.cells #[.int .i64 (s.1:Int),.int .i64 (s.2:Int)] 143)
 have k1:=ho2.allocd (.cells #[.int .i64 (s.1:Int),.int .i64 (s.2:Int)] 143)
 have rb:=Row.new W 143 #[.int .i64 (s.1:Int),.int .i64 (s.2:Int)]
 have z1:=hk2.rn.cell; have z2:=h.rn.cell
 have zq:=h.rn.lt; have zo:=ho1.lt
 have HK2:=zh hk2; have R1:=zh r1; have K1:=zh k1; have HM:=zh hm; have HKEY:=zh hkey; have RB:=zh rb
 have HB:=zh (show Below W.heap.size W (W.alloc (.cells #[.int .i64 (s.1:Int),.int .i64 (s.2:Int)] 143)) from Below.alloc (Below.refl _ _) zn _)
 clear h ho1 ho2 hm hkey hk2 r1 k1 hs rb
 by_cases hin:s ∈ ks
 ·rw [zkn hin]
  obtain ⟨K,hK⟩:=zx (idxD ks s)
  rw [<- hK]
  have HIN:=zh hin; have HKK:=zh hK
  clear hin hK
  go_enter Tryz.func147,Tryz.ntmps147
  go_wp2_with (at_lookup; refine zb9 zdo rfl (.tmp 8) (.tmp 9) _ rfl zd6 rfl HK2.out.nm s HIN.out K HKK.out.symm _ rfl HKEY.out ?_)
  go_returns
  exact ⟨rfl,HK2.out,KeepG.of_below HB.out⟩
 ·rw [zko hin,zlj hin,<- HM.out]
  have HIN:=zh hin
  clear hin
  go_enter Tryz.func147,Tryz.ntmps147
  have z3:=R1.out.cell
  go_wp2_with (first
   | (at_lookup; refine zbd zdo rfl (.tmp 8) (.tmp 9) _ rfl zd6 rfl HK2.out.nm s HIN.out _ rfl HKEY.out ?_)
   | (at_mapUpdate; refine zaw zop zdo rfl (.tmp 17) (.tmp 18) (.tmp 19) _ (.inl rfl) zd6 rfl HK2.out.nm (by have:=HM.out; omega) s HIN.out _ rfl HKEY.out (by rw [<- HM.out]; rfl) ?_; intro w1 hm1 hg1; have HM1:=zh hm1; have HG1:=zh hg1; have y3:=(R1.out.grown hg1 (fun e => HK2.out.nm.ne_row R1.out (Option.some.inj e).symm)).cell; have y5:=(RB.out.grown hg1 (fun e => HK2.out.nm.ne_row RB.out (Option.some.inj e).symm)).cell; clear hm1 hg1 z3)
   | (at_builtin; go_loud (refine zcy eP rfl (.tmp 20) (.tmp 22) rfl w0.heap.size _ _ rfl ((K1.out.grownNe HG1.out (.inr (fun e => HK2.out.nm.ne_ko K1.out e.symm))).allocd _) _ _ (pC s) rfl rfl (pC_one s).2 (fun j u hj => by rw [(Row.new w1 _ _).cell j]; simpa [pC] using hj) (by rw [List.length_map]; omega) (by simp only [World.size_alloc]; have e1:=HK2.out.below.size; have e2:=HG1.out.size; simp only [World.size_alloc] at e1 e2; omega) ?_; intro ov' w2 ho2 hg2 _; obtain ⟨A',c',rfl⟩:=KO.form (n:=m + 1) ho2 (by rw [List.length_append,List.length_map,HM.out]; rfl); have HADD:=zh (HK2.out.add (by decide) (by decide) (by decide) R1.out K1.out HM1.out HG1.out ho2 hg2); have y6:=(HK2.out.row2 K1.out HG1.out hg2 R1.out (by decide)).cell; have y7:=(HK2.out.row2 K1.out HG1.out hg2 R1.out (by decide)).free; clear ho2 hg2)))
  go_returns
  exact ⟨rfl,HADD.out.1,(KeepG.of_below HB.out).trans HADD.out.2⟩
end Go.Proofs.YthkfjnmnoanhlaaGreatDoor
namespace Go.Proofs.YthkfjnmnoanhlaaGreatDoor
open Go.RowKit
abbrev NextP (P:Nat × Nat -> Prop) (f:Nat × Nat -> Nat × Nat -> Nat -> Nat × Nat) (L:Nat) (j1 j2:Value) (w0:World):Prop:=∀ (a b:Nat × Nat) (x:Nat) (W:World),P a -> P b -> x < L -> Below w0.heap.size w0 W ->
 Calls Tryz.prog 116 #[pV a,pV b,.int .i64 (x:Int),j1,j2] W fun e W' => e = .returned (pV (f a b x)) /\ Below W.heap.size W W'
structure AutV (w:World) (g V:Nat) (d:Dta) (vn vf:Value):Prop where
 row:Row w g 25 #[.int .i64 (V:Int),.int .i64 (d.e:Int),vn,vf]
 hn:N3 w vn (nx3 d.n d.L d.nx)
 hf:NB w vf ((List.range d.n).map d.fin)
theorem AutV.below {w w':World} {g V:Nat} {d:Dta} {vn vf:Value} {B:Nat} (h:AutV w g V d vn vf) (hb:Below B w w') (hB:w.heap.size <= B):AutV w' g V d vn vf :=
 ⟨h.row.below hb (Nat.lt_of_lt_of_le h.row.lt hB),h.hn.below hb hB,h.hf.below hb hB⟩
def inP (a b:Dta) (p:Nat × Nat):Prop:=p.1 < a.n /\ p.2 < b.n
theorem zqh (a b:Dta) (V:Nat) (ha:a.Fit V) (hb:b.Fit V) (w0:World) (gA gB:Nat) (vn vf un uf:Value) (hA:AutV w0 gA V a vn vf) (hB:AutV w0 gB V b un uf) :
  NextP (inP a b) (pairF a b) a.L (.pointer (some ⟨gA,0,none⟩)) (.pointer (some ⟨gB,0,none⟩)) w0:=by
 intro p q x W hp hq hx hbw
 have hA2:=hA.below hbw zn
 have hB2:=hB.below hbw zn
 obtain ⟨b3,o3,c3,hN⟩:=hA2.hn.nx ha.pos ha.L8.1
 obtain ⟨d3,e3,f3,hM⟩:=hB2.hn.nx hb.pos hb.L8.1
 have hxb:x < b.L:=by rw [hb.L,<- ha.L]; exact hx
 obtain ⟨b2,o2,c2,b1,o1,c1,hb3,c0,hB1,hb2,d0,hC1,hb1,f0⟩:=hN.at3 p.1 q.1 x hp.1 hq.1 hx
 obtain ⟨b2',o2',c2',b1',o1',c1',hb3',c0',hB1',hb2',d0',hC1',hb1',f0'⟩:=hM.at3 p.2 q.2 x hp.2 hq.2 hxb
 obtain rfl:=hN.form
 obtain rfl:=hM.form
 have RA:=zh hA2.row; have RB:=zh hB2.row
 obtain ⟨p1,p2⟩:=p
 obtain ⟨q1,q2⟩:=q
 obtain ⟨hp1,hp2⟩:=hp
 obtain ⟨hq1,hq2⟩:=hq
 simp only at hp1 hp2 hq1 hq2 c0 d0 f0 c0' d0' f0'
 unfold pV
 simp only
 obtain ⟨s,hs⟩:=zx (a.nx p1 q1 x)
 obtain ⟨t,ht⟩:=zx (b.nx p2 q2 x)
 have hres:pairF a b (p1,p2) (q1,q2) x = (s,t):=by rw [hs,ht]; rfl
 rw [hres]
 simp only
 rw [<- hs] at f0
 rw [<- ht] at f0'
 obtain ⟨n,hnn⟩:=zx a.n
 obtain ⟨n',hnn'⟩:=zx b.n
 obtain ⟨L,hLL⟩:=zx a.L
 obtain ⟨L',hLL'⟩:=zx b.L
 rw [<- hnn] at hp1 hq1 c0 RA hB1
 rw [<- hnn'] at hp2 hq2 c0' RB hB1'
 rw [<- hLL] at d0 hx hC1
 rw [<- hLL'] at d0' hxb hC1'
 clear hA hB hA2 hB2 hN hM hs ht hres hnn hnn' hLL hLL' hbw ha hb
 have HCC:=zh (fun W1 (h:Below W.heap.size W W1) => (show W1.cell? ⟨b3,o3 + p1,none⟩ = _ /\ W1.cell? ⟨b2,o2 + q1,none⟩ = _ /\ W1.cell? ⟨b1,o1 + x,none⟩ = _ /\ W1.cell? ⟨d3,e3 + p2,none⟩ = _ /\ W1.cell? ⟨b2',o2' + q2,none⟩ = _ /\ W1.cell? ⟨b1',o1' + x,none⟩ = _ from
  ⟨(h.cell (p:=⟨b3,_,none⟩) hb3).trans c0,(h.cell (p:=⟨b2,_,none⟩) hb2).trans d0,(h.cell (p:=⟨b1,_,none⟩) hb1).trans f0,(h.cell (p:=⟨d3,_,none⟩) hb3').trans c0',(h.cell (p:=⟨b2',_,none⟩) hb2').trans d0',(h.cell (p:=⟨b1',_,none⟩) hb1').trans f0'⟩))
 clear c0 d0 f0 c0' d0' f0' hb3 hb2 hb1 hb3' hb2' hb1'
 go_enter Tryz.func116,Tryz.ntmps116
 go_upto_region 1 with fail
 refine zab (fun W1 => Below W.heap.size W W1 /\ Row W1 W.heap.size 143 #[.int .i64 (p1:Int),.int .i64 (p2:Int)] /\ Row W1 (W.heap.size + 1) 143 #[.int .i64 (q1:Int),.int .i64 (q2:Int)] /\ Row W1 (W.heap.size + 1 + 1) 143 #[.int .i64 0,.int .i64 0])
  ⟨by go_grown,((Row.new _ _ _).alloc _).alloc _,(Row.lit (by simp)).alloc _,Row.lit (by simp)⟩ ?_
 rintro W1 ⟨hb,r1,r2,r3⟩
 obtain ⟨c0,d0,f0,c0',d0',f0'⟩:=HCC.out W1 hb
 have z1:=(RA.out.below hb RA.out.lt).cell; have z2:=(RB.out.below hb RB.out.lt).cell
 have y1:=r1.cell; have y2:=r2.cell; have y3:=r3.cell; have y4:=r3.free
 have HB:=zh hb; have R3:=zh r3
 clear hb r1 r2 r3 HCC RA RB
 go_still_tail 27,(by kernel_rfl)
 change wpList _ _ _ _ _ W1.drew
 have R3D:=zh (R3.out.drew); have HBD:=zh (HB.out.drew)
 have z5:=R3D.out.cell; have z6:=R3D.out.free
 generalize W1.drew = W2 at *
 go_wp2
 refine zad (fun W' => Row W' (W.heap.size + 1 + 1) 143 #[.int .i64 (s:Int),.int .i64 (t:Int)] /\ Below W.heap.size W W')
  ⟨(R3D.out.set 0 _).set 1 _,((HBD.out).setCell (p:=⟨W.heap.size + 1 + 1,0,none⟩) (by simp; omega) _).setCell (p:=⟨W.heap.size + 1 + 1,1,none⟩) (by simp; omega) _⟩ ?_
 clear y1 y2 y3 y4 z1 z2 z5 z6 c0 d0 f0 c0' d0' f0'
 rintro W5 ⟨r0,hb⟩
 have b0:=r0.cell
 have q0:=b0 0; have q1:=b0 1
 simp only [List.getElem?_toArray,List.getElem?_cons_zero,List.getElem?_cons_succ] at q0 q1
 have HB5:=zh hb
 clear b0 r0 hb
 exact bodyPost_ret (v:=.agg #[.int .i64 (s:Int),.int .i64 (t:Int)]) (by simp [results,Tryz.results116,go_sem,q0,q1]) rfl ⟨rfl,HB5.out⟩
end Go.Proofs.YthkfjnmnoanhlaaGreatDoor
