/- Part 4 of the proof; it says: lemmas and contracts. No conditions but those that each theorem states. -/
import Derived.Deep.RegionLaw
import Derived.Test.YthdabkmkgkkmcaaGreatDoorPb01
import Derived.Test.YthdabkmkgkkmcaaGreatDoorPb03
set_option linter.unusedSimpArgs false
set_option linter.unusedVariables false
set_option maxRecDepth 100000
set_option maxHeartbeats 32000000
namespace Go.Proofs.YthdabkmkgkkmcaaGreatDoor
open Go.RowKit
structure Elt (T E:TypeId) (z:Value) (by8:Nat):Prop where
 under:Tryz.prog.underlying T = some (.slice E)
 info:(Tryz.prog.info? E).map (fun i => (i.zero,i.size,i.bytes)) = some (some z,1,by8)
 small:by8 <= 48
 cells:z.cells = #[z]
theorem Elt.one {T E:TypeId} {z:Value} {by8:Nat} (h:Elt T E z by8):z.cells.size = 1:=by rw [h.cells]; rfl
def VS (w:World) (v:Value) (l:List Value):Prop :=
 ∃ A c,v = .slice A l.length c /\ l.length <= c /\ c <= 9223372036854775807 /\
  (0 < l.length -> ∃ b o,A = some ⟨b,o,none⟩ /\ b < w.heap.size /\ ∀ i x,l[i]? = some x -> w.cell? ⟨b,o + i,none⟩ = some x)
theorem VS.below {w w':World} {v:Value} {f:List Value} {B:Nat} (h:VS w v f) (hb:Below B w w') (hB:w.heap.size <= B):VS w' v f:=by
 obtain ⟨A,c,hv,h1,h2,h3⟩:=h
 refine ⟨A,c,hv,h1,h2,fun hp => ?_⟩
 obtain ⟨b,o,hA,hlt,hm⟩:=h3 hp
 exact ⟨b,o,hA,Nat.lt_of_lt_of_le hlt hb.size,fun i m him => (hb.cell (p:=⟨b,o + i,none⟩) (by simpa using Nat.lt_of_lt_of_le hlt hB)).trans (hm i m him)⟩
theorem VS.form {w:World} {v:Value} {l:List Value} (h:VS w v l):∃ A c,v = .slice A l.length c:=by
 obtain ⟨A,c,hv,_⟩:=h; exact ⟨A,c,hv⟩
theorem VS.at {w:World} {b o n c:Nat} {f:List Value} (h:VS w (.slice (some ⟨b,o,none⟩) n c) f) {i:Nat} {m:Value} (hm:f[i]? = some m):w.cell? ⟨b,o + i,none⟩ = some m:=by
 obtain ⟨A',c',hv,_,_,hc⟩:=h
 obtain ⟨b',o',hA,_,hcell⟩:=hc (by have:=(List.getElem?_eq_some_iff.1 hm).1; omega)
 simp only [Value.slice.injEq] at hv
 obtain ⟨h1,_⟩:=hv
 rw [hA] at h1
 cases h1
 exact hcell i m hm
theorem VS.lit {w:World} {g:Nat} {E:TypeId} {l:List Value} (h:Row w g E l.toArray) (hl:l.length <= 1000000):VS w (.slice (some ⟨g,0,none⟩) l.length l.length) l :=
 ⟨some ⟨g,0,none⟩,l.length,rfl,zn,by omega,fun _ => ⟨g,0,rfl,h.lt,fun i x hi => by rw [h.cell,Nat.zero_add]; simpa using hi⟩⟩
def VO (E:TypeId) (w:World) (B:Nat) (v:Value) (l:List Value):Prop:=(∀ u ∈ l,u.oneCell' = true) /\ w.ownsRow B E 1 v l.length l
theorem VO.nil (E:TypeId) (w:World) (B:Nat):VO E w B (.slice none 0 0) []:=⟨by simp,World.ownsRow_nil _ _ _ _⟩
theorem VO.vs {E:TypeId} {w:World} {B:Nat} {v:Value} {l:List Value} (h:VO E w B v l):VS w v l:=by
 obtain ⟨_,h⟩:=h
 have hx:=h
 rcases h.2 with ⟨hv,hn⟩ | ⟨g,cap,cur,hv,hB,hg,hnc,hcm,hcs,ht⟩
 ·exact ⟨none,0,by rw [hv,hn],by omega,by omega,by omega⟩
 ·refine ⟨some ⟨g,0,none⟩,cap,hv,hnc,by simpa [maxLen] using hcm,fun _ => ⟨g,0,rfl,lt_of_block hg,fun i x hi => ?_⟩⟩
  have hi':i < l.length:=(List.getElem?_eq_some_iff.1 hi).1
  rw [hv] at hx
  rw [Nat.zero_add,hx.cellAt _ (by omega)]
  exact hi
theorem VO.below {E:TypeId} {w w':World} {B B':Nat} {v:Value} {l:List Value} (h:VO E w B v l) (hb:Below B' w w') (hB:w.heap.size <= B'):VO E w' B v l:=by
 obtain ⟨h0,h1,h⟩:=h
 refine ⟨h0,h1,?_⟩
 rcases h with h | ⟨g,cap,cur,hv,hBg,hg,r⟩
 ·exact .inl h
 ·exact .inr ⟨g,cap,cur,hv,hBg,(hb.block g (Nat.lt_of_lt_of_le (lt_of_block hg) hB)).trans hg,r⟩
theorem VO.mono {E:TypeId} {w:World} {B B':Nat} {v:Value} {l:List Value} (h:VO E w B v l) (hB:B' <= B):VO E w B' v l:=by
 obtain ⟨h0,h1,h⟩:=h
 refine ⟨h0,h1,?_⟩
 rcases h with h | ⟨g,cap,cur,hv,hB,hg,r⟩
 ·exact .inl h
 ·exact .inr ⟨g,cap,cur,hv,by omega,hg,r⟩
theorem VO.made {E:TypeId} {w:World} {n:Nat} (c:Array Value) (hc:c.size = n) (hn:n <= 1000000):VO E (w.alloc (.cells c E)) w.heap.size (.slice (some ⟨w.heap.size,0,none⟩) 0 n) [] :=
 ⟨by simp,World.ownsRow_made w c n zn (by simp only [maxLen]; omega) (by omega)⟩
theorem zih {T E:TypeId} {z:Value} {by8:Nat} (hE:Elt T E z by8) (w:World) (B:Nat) (v:Value) (f:List Value) (hown:VO E w B v f) (x:Value) (g:List Value) (hx:VS w x g) (h1c:∀ u ∈ g,u.oneCell' = true) (ty:TypeId) (hl:f.length + g.length <= 1000000) (hB:B <= w.heap.size) :
  ∃ v' w',(Builtin.append_ #[T,T] ty #[v,x]).run Tryz.prog w = .ok v' w' /\ VO E w' B v' (f ++ g) /\ w.grownBy w' v.ownBlock /\ (v'.ownBlock = v.ownBlock \/ v'.ownBlock = some w.heap.size):=by
 obtain ⟨i,hi,hz,h1,h2⟩:=info_parts hE.info
 have hsm:=hE.small
 obtain ⟨h0,hown⟩:=hown
 obtain ⟨A,c,rfl,hc,hc2,hcell⟩:=hx
 have hlen:(f ++ g).length = f.length + g.length:=by simp
 have hop:∀ u ∈ f ++ g,u.oneCell' = true:=fun u hu => by
  rcases List.mem_append.1 hu with h | h
  ·exact h0 u h
  ·exact h1c u h
 have hby:(f.length + g.length) * by8 <= 140737488355328:=by
  have:=Nat.mul_le_mul hl hsm
  omega
 by_cases hn:0 < g.length
 ·obtain ⟨b,o,rfl,hb,hm⟩:=hcell hn
  have hnews:∀ j u,g[j]? = some u -> w.cell? ((⟨b,o,none⟩:Addr).add j) = some u:=by
   intro j u hu
   have hadd:(⟨b,o,none⟩:Addr).add j = ⟨b,o + j,none⟩:=by
    unfold Addr.add
    by_cases hj0:j = 0
    ·subst hj0; simp
    ·rw [if_neg hj0]
   rw [hadd]; exact hm j u hu
  obtain ⟨v',w',hrun,h3,h4,_,h6⟩:=run_append_own_at (P:=Tryz.prog) w B T ty E i _ 1 by8 hE.under hi hz h1 h2 hE.one (by omega) v f.length f hown
   ⟨b,o,none⟩ g.length c g (by simp) hnews h1c (by simp only [maxLen]; omega) hby hB
  exact ⟨v',w',hrun,⟨hop,by rw [hlen]; exact h3⟩,h4,h6⟩
 ·have hg0:g = []:=List.eq_nil_of_length_eq_zero (by omega)
  subst hg0
  simp only [List.append_nil]
  cases A with
  | none => exact ⟨v,w,zct w B _ ty _ i 1 hE.under hi v _ _ hown c,⟨h0,hown⟩,World.grownBy.refl w _,.inl rfl⟩
  | some ad =>
   obtain ⟨v',w',hrun,h3,h4,_,h6⟩:=run_append_own_at (P:=Tryz.prog) w B T ty E i _ 1 by8 hE.under hi hz h1 h2 hE.one (by omega) v f.length f hown
    ad 0 c [] (by simp) (by simp) (by simp) (by simp only [maxLen]; omega) (by simpa using hby) hB
   exact ⟨v',w',hrun,⟨h0,by simpa using h3⟩,h4,h6⟩
theorem zfo {T E:TypeId} {z:Value} {by8:Nat} (hE:Elt T E z by8) {o:Oper} {a:Act} {w:World} {K:Act -> World -> Prop} {Q:Exit -> Act -> World -> Prop} (s x:Operand)
  (ho:o.op = .call { callee:=.builtin .append,args:=#[s,x],argTypes:=#[T,T] })
  (B:Nat) (v:Value) (f:List Value) (hs:a.eval s = v) (hown:VO E w B v f) (y:Value) (g:List Value) (hx:a.eval x = y) (hy:VS w y g) (h1c:∀ u ∈ g,u.oneCell' = true) (hl:f.length + g.length <= 1000000) (hB:B <= w.heap.size)
  (h:∀ v' w',VO E w' B v' (f ++ g) -> w.grownBy w' v.ownBlock -> (v'.ownBlock = v.ownBlock \/ v'.ownBlock = some w.heap.size) -> K (a.put o.dst v') w'):o.wp Tryz.prog a w K Q:=by
 obtain ⟨v',w',hrun,h2,h3,h4⟩:=zih hE w B v f hown y g hy h1c o.type hl hB
 unfold Oper.wp execOp
 simp only [ho,resolve,invoke,builtin,Sem.run_bind,Sem.run_pure,Result.andThen_ok,List.map_toArray,List.map_cons,List.map_nil,hs,hx,hrun]
 exact h v' w' h2 h3 h4
theorem zac {T E:TypeId} {z:Value} {by8:Nat} (hE:Elt T E z by8) {ops:Array Oper} {rest:List Oper} {o:Oper} {a:Act} {w:World} {Q:Exit -> Act -> World -> Prop} (hgd:o.guard = none) (s x:Operand)
  (ho:o.op = .call { callee:=.builtin .append,args:=#[s,x],argTypes:=#[T,T] })
  (B:Nat) (v:Value) (f:List Value) (hs:a.eval s = v) (hown:VO E w B v f) (y:Value) (g:List Value) (hx:a.eval x = y) (hy:VS w y g) (h1c:∀ u ∈ g,u.oneCell' = true) (hl:f.length + g.length <= 1000000) (hB:B <= w.heap.size)
  (h:∀ v' w',VO E w' B v' (f ++ g) -> w.grownBy w' v.ownBlock -> (v'.ownBlock = v.ownBlock \/ v'.ownBlock = some w.heap.size) -> wpList Tryz.prog ops Q rest (a.put o.dst v') w'):wpList Tryz.prog ops Q (o :: rest) a w :=
 wpList_plain hgd fun _ hK => zfo hE s x ho B v f hs hown y g hx hy h1c hl hB fun v' w' h2 h3 h4 => hK _ _ (h v' w' h2 h3 h4)
theorem zaq {T E:TypeId} {z:Value} {by8:Nat} (hE:Elt T E z by8) {ops:Array Oper} {o:Oper} {a:Act} {w:World} {K:Act -> World -> Prop} {Q:Exit -> Act -> World -> Prop} {X:Prop} (hgd:o.guard = none) (s x:Operand)
  (ho:o.op = .call { callee:=.builtin .append,args:=#[s,x],argTypes:=#[T,T] })
  (B:Nat) (v:Value) (f:List Value) (hs:a.eval s = v) (hown:VO E w B v f) (y:Value) (g:List Value) (hx:a.eval x = y) (hy:VS w y g) (h1c:∀ u ∈ g,u.oneCell' = true) (hl:f.length + g.length <= 1000000) (hB:B <= w.heap.size)
  (h:∀ v' w',VO E w' B v' (f ++ g) -> w.grownBy w' v.ownBlock -> (v'.ownBlock = v.ownBlock \/ v'.ownBlock = some w.heap.size) -> K (a.put o.dst v') w') :
  if Region.wanted o (yielded ops a.tmps) = true then Oper.wp Tryz.prog o a w K Q else X:=by
 have hw:Region.wanted o (yielded ops a.tmps) = true:=by simp [Region.wanted,hgd]
 rw [if_pos hw]
 exact zfo hE s x ho B v f hs hown y g hx hy h1c hl hB h
theorem zat {E:TypeId} {w w1 w2:World} {B:Nat} {v:Value} {f:List Value} (hb:Below B w w1) (ho:VO E w1 B v f) (hg:w1.grownBy w2 v.ownBlock) (hB:B <= w1.heap.size):Below B w w2 :=
 hb.grown hg hB fun k hk => (World.ownsRow.lt ho.2 k hk).1
theorem zeb {E:TypeId} {w:World} {B g n cap:Nat} {f:List Value} (h:VO E w B (.slice (some ⟨g,0,none⟩) n cap) f) (hn:f.length = n) (j:Nat) (u:Value) (hu:u.oneCell' = true) :
  VO E (w.setCell ⟨g,j,none⟩ u) B (.slice (some ⟨g,0,none⟩) n cap) (f.set j u):=by
 obtain ⟨h0,h1⟩:=h
 subst hn
 have hs:=(h1.stored j u).1
 refine ⟨fun a ha => ?_,by rw [List.length_set]; exact hs⟩
 rcases List.mem_or_eq_of_mem_set ha with h | h
 ·exact h0 a h
 ·rw [h]; exact hu
theorem VO.row {E:TypeId} {w:World} {B:Nat} {v:Value} {f:List Value} (h:VO E w B v f) (hp:0 < f.length):∃ g cap cs,v = .slice (some ⟨g,0,none⟩) f.length cap /\ B <= g /\ Row w g E cs /\ f.length <= cap /\ cap <= 9223372036854775807 /\ ∀ i x,f[i]? = some x -> w.cell? ⟨g,i,none⟩ = some x:=by
 have hvs:=h.vs
 obtain ⟨_,h⟩:=h
 rcases h.2 with ⟨hv,hn⟩ | ⟨g,cap,cur,hv,hB,hg,hnc,hcm,hcs,ht⟩
 ·omega
 ·subst hv
  refine ⟨g,cap,cur,rfl,hB,hg,hnc,by simpa [maxLen] using hcm,fun i x hi => ?_⟩
  have:=hvs.at hi
  rwa [Nat.zero_add] at this
theorem zbm {T E:TypeId} {z:Value} {by8:Nat} (hE:Elt T E z by8) (n:Nat) (hn:n <= 1000000) (w:World) :
  (Instr.makeSlice T (.int .i64 (n:Int)) (.int .i64 (n:Int))).run Tryz.prog w = .ok (.slice (some ⟨w.heap.size,0,none⟩) n n) (w.alloc (.cells (List.replicate n z).toArray E)):=by
 obtain ⟨i,hi,hz,h1,h2⟩:=info_parts hE.info
 have hsm:=hE.small
 have hby:by8 * n <= 281474976710656:=by
  have:=Nat.mul_le_mul hsm hn
  omega
 have:=zdb (P:=Tryz.prog) T E i z hE.under hi hz .i64 .i64 n n zn (by rw [h2]; exact hby) (by omega) w
 have e:madeCells #[z] n = (List.replicate n z).toArray:=by
  apply Array.toList_inj.1
  rw [toList_madeCells_one]
 rw [h1,Nat.mul_one,hE.cells,e] at this
 exact this
theorem VO.lit {E:TypeId} {w:World} {n:Nat} (l:List Value) (hl:l.length = n) (hn:n <= 1000000) (h1:∀ u ∈ l,u.oneCell' = true):VO E (w.alloc (.cells l.toArray E)) w.heap.size (.slice (some ⟨w.heap.size,0,none⟩) n n) l:=by
 subst hl
 exact ⟨h1,World.ownsRow_lit w l.toArray l.length zn (by simp only [maxLen]; omega) (by simp)⟩
theorem VO.far {E E':TypeId} {w w':World} {B B':Nat} {v u:Value} {l xs:List Value} {size n:Nat} (h:VO E w B v l) (hne:E ≠ E') (h2:w.ownsRow B' E' size u n xs) (hg:w.grownBy w' u.ownBlock):VO E w' B v l:=by
 obtain ⟨h0,h1,h⟩:=h
 refine ⟨h0,h1,?_⟩
 rcases h with h | ⟨g,cap,cur,hv,hBg,hgg,r⟩
 ·exact .inl h
 ·refine .inr ⟨g,cap,cur,hv,hBg,(hg.block g (lt_of_block hgg) (fun e => ?_)).trans hgg,r⟩
  rcases h2.2 with ⟨hu,_⟩ | ⟨g2,cap2,cur2,hu,_,hg2,_⟩
  ·rw [hu] at e; cases e
  ·rw [hu] at e
   simp only [Value.ownBlock,Option.some.injEq] at e
   subst e
   rw [hgg] at hg2
   simp only [Option.some.injEq,Obj.cells.injEq] at hg2
   exact hne hg2.2.1
theorem Row.far_own {E E':TypeId} {w w':World} {g B':Nat} {cs:Array Value} {u:Value} {xs:List Value} {size n:Nat} (h:Row w g E cs) (hne:E ≠ E') (h2:w.ownsRow B' E' size u n xs) (hg:w.grownBy w' u.ownBlock):Row w' g E cs:=by
 refine (hg.block g (lt_of_block h) (fun e => ?_)).trans h
 rcases h2.2 with ⟨hu,_⟩ | ⟨g2,cap2,cur2,hu,_,hg2,_⟩
 ·rw [hu] at e; cases e
 ·rw [hu] at e
  simp only [Value.ownBlock,Option.some.injEq] at e
  subst e
  have hh:=h
  unfold Row at hh
  rw [hh] at hg2
  simp only [Option.some.injEq,Obj.cells.injEq] at hg2
  exact hne hg2.2.1
theorem Row.ne {w:World} {g h:Nat} {E E':TypeId} {cs ds:Array Value} (h1:Row w g E cs) (h2:Row w h E' ds) (hne:E ≠ E'):g ≠ h:=fun e => by
 subst e
 unfold Row at h1 h2
 rw [h1] at h2
 simp only [Option.some.injEq,Obj.cells.injEq] at h2
 exact hne h2.2.1
def Apart (v u:Value):Prop:=∀ g,v.ownBlock = some g -> u.ownBlock ≠ some g
theorem Apart.symm {v u:Value} (h:Apart v u):Apart u v:=fun g h1 h2 => h g h2 h1
theorem VO.blk_lt {E:TypeId} {w:World} {B:Nat} {v:Value} {l:List Value} (h:VO E w B v l) {g:Nat} (hg:v.ownBlock = some g):g < w.heap.size:=(World.ownsRow.lt h.2 g hg).2
theorem VO.form {E:TypeId} {w:World} {B:Nat} {v:Value} {l:List Value} (h:VO E w B v l):∃ A c,v = .slice A l.length c:=h.vs.form
theorem VO.oneCell {E:TypeId} {w:World} {B:Nat} {v:Value} {l:List Value} (h:VO E w B v l):v.oneCell' = true:=by
 obtain ⟨A,c,rfl⟩:=h.form; rfl
theorem VO.setFar {E:TypeId} {w:World} {B:Nat} {v:Value} {l:List Value} (h:VO E w B v l) {p:Addr} (hp:v.ownBlock ≠ some p.block) (u:Value):VO E (w.setCell p u) B v l:=by
 obtain ⟨h0,h1,h⟩:=h
 refine ⟨h0,h1,?_⟩
 rcases h with h | ⟨g,cap,cur,hv,hBg,hgg,r⟩
 ·exact .inl h
 ·refine .inr ⟨g,cap,cur,hv,hBg,(Below.heap_setCell w p u g (fun e => hp (by rw [hv,e]; rfl))).trans hgg,r⟩
theorem VO.ne_row {E E':TypeId} {w:World} {B g:Nat} {v:Value} {l:List Value} {cs:Array Value} (h:VO E w B v l) (hr:Row w g E' cs) (hne:E ≠ E'):v.ownBlock ≠ some g:=by
 intro e
 rcases h.2.2 with ⟨hv,_⟩ | ⟨g2,cap2,cur2,hv,_,hg2,_⟩
 ·rw [hv] at e; cases e
 ·rw [hv] at e
  simp only [Value.ownBlock,Option.some.injEq] at e
  subst e
  have hh:=hr
  unfold Row at hh
  rw [hh] at hg2
  simp only [Option.some.injEq,Obj.cells.injEq] at hg2
  exact hne hg2.2.1.symm
def occ (m:Mk):List Int:=[m.x,m.y].take (nv m.op).toNat
structure Keep (S:Nat -> Prop) (w w':World):Prop where
 os:w'.os = w.os
 tape:w'.tape = w.tape
 output:w'.output = w.output
 size:w.heap.size <= w'.heap.size
 block:∀ k,k < w.heap.size -> ¬ S k -> w'.heap[k]? = w.heap[k]?
theorem Keep.refl (S:Nat -> Prop) (w:World):Keep S w w:=⟨rfl,rfl,rfl,zn,fun _ _ _ => rfl⟩
theorem Keep.trans {S:Nat -> Prop} {a b c:World} (h:Keep S a b) (k:Keep S b c):Keep S a c :=
 ⟨k.os.trans h.os,k.tape.trans h.tape,k.output.trans h.output,Nat.le_trans h.size k.size,fun i hi hs => (k.block i (Nat.lt_of_lt_of_le hi h.size) hs).trans (h.block i hi hs)⟩
theorem Keep.of_below {S:Nat -> Prop} {a b:World} {B:Nat} (h:Below B a b) (hB:a.heap.size <= B):Keep S a b :=
 ⟨h.os,h.tape,h.output,h.size,fun i hi _ => h.block i (Nat.lt_of_lt_of_le hi hB)⟩
theorem Keep.set {S:Nat -> Prop} {a b:World} (h:Keep S a b) {p:Addr} (hp:S p.block \/ a.heap.size <= p.block) (u:Value):Keep S a (b.setCell p u) :=
 ⟨h.os,h.tape,h.output,by simpa [World.setCell] using h.size,fun i hi hs => (Below.heap_setCell b p u i (by
  rintro rfl
  rcases hp with hp | hp
  ·exact hs hp
  ·omega)).trans (h.block i hi hs)⟩
theorem Keep.drew {S:Nat -> Prop} {a b:World} (h:Keep S a b):Keep S a b.drew:=⟨h.os,h.tape,h.output,h.size,h.block⟩
theorem Keep.alloc {S:Nat -> Prop} {a b:World} (h:Keep S a b) (o:Obj):Keep S a (b.alloc o) :=
 ⟨h.os,h.tape,h.output,Nat.le_trans h.size (by simp),fun i hi hs => (Below.heap_alloc b o i (Nat.lt_of_lt_of_le hi h.size)).trans (h.block i hi hs)⟩
theorem Keep.below {S:Nat -> Prop} {a b:World} (h:Keep S a b) {B:Nat} (hB:B <= a.heap.size) (hS:∀ k,k < B -> ¬ S k):Below B a b :=
 ⟨h.os,h.tape,h.output,h.size,fun i hi => h.block i (by omega) (hS i hi)⟩
theorem Keep.row {S:Nat -> Prop} {a b:World} (h:Keep S a b) {g:Nat} {t:TypeId} {cs:Array Value} (r:Row a g t cs) (hg:¬ S g):Row b g t cs:=(h.block g r.lt hg).trans r
end Go.Proofs.YthdabkmkgkkmcaaGreatDoor
