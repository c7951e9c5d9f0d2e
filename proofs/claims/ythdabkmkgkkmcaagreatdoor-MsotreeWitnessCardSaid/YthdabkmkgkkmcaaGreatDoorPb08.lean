/- Part 8 of the proof; it says: lemmas and contracts. No conditions but those that each theorem states. -/
import Derived.Deep.RegionLaw
import Derived.Deep.DeepCutAuto
import Derived.Test.YthdabkmkgkkmcaaGreatDoorPb01
import Derived.Test.YthdabkmkgkkmcaaGreatDoorPb07
set_option linter.unusedSimpArgs false
set_option linter.unusedVariables false
set_option maxRecDepth 100000
set_option maxHeartbeats 32000000
namespace Go.Proofs.YthdabkmkgkkmcaaGreatDoor
open Go.RowKit
theorem zah {P:Program} {f:Func} {Q:Ending -> World -> Prop} {x:Exit} {a:Act} {w:World} (F:World -> Prop) (hF:F w) (hk:∀ W,F W -> bodyPost P f Q x a W):bodyPost P f Q x a w:=hk w hF
theorem O1.far {E':TypeId} {w w':World} {B B':Nat} {v u:Value} {l:List Int} {xs:List Value} (h:O1 w B v l) (hne:3 ≠ E') (h2:VO E' w B' u xs) (hg:w.grownBy w' u.ownBlock):O1 w' B v l:=VO.far h hne h2.2 hg
theorem OB.far {E':TypeId} {w w':World} {B B':Nat} {v u:Value} {l:List Bool} {xs:List Value} (h:OB w B v l) (hne:4 ≠ E') (h2:VO E' w B' u xs) (hg:w.grownBy w' u.ownBlock):OB w' B v l:=VO.far h hne h2.2 hg
theorem V1.far {E':TypeId} {w w':World} {B B':Nat} {v:List Value} {u:Value} {l:List (List Int)} {xs:List Value} (h:V1 w B v l) (hne:3 ≠ E') (h2:VO E' w B' u xs) (hg:w.grownBy w' u.ownBlock):V1 w' B v l :=
 ⟨h.1,fun i u hu => by obtain ⟨l,h4,h5⟩:=h.2 i u hu; exact ⟨l,h4,h5.far hne h2 hg⟩⟩
theorem O2.far {E':TypeId} {w w':World} {B B':Nat} {v u:Value} {l:List (List Int)} {xs:List Value} (h:O2 w B v l) (hne:3 ≠ E') (hne2:36 ≠ E') (h2:VO E' w B' u xs) (hg:w.grownBy w' u.ownBlock):O2 w' B v l:=by
 obtain ⟨vs,h3,h4⟩:=h
 exact ⟨vs,h3.far hne2 h2.2 hg,h4.far hne h2 hg⟩
theorem V2.far {E':TypeId} {w w':World} {B B':Nat} {v:List Value} {u:Value} {l:List (List (List Int))} {xs:List Value} (h:V2 w B v l) (hne:3 ≠ E') (hne2:36 ≠ E') (h2:VO E' w B' u xs) (hg:w.grownBy w' u.ownBlock):V2 w' B v l :=
 ⟨h.1,fun i u hu => by obtain ⟨l,h4,h5⟩:=h.2 i u hu; exact ⟨l,h4,h5.far hne hne2 h2 hg⟩⟩
theorem O3.far {E':TypeId} {w w':World} {B B':Nat} {v u:Value} {l:List (List (List Int))} {xs:List Value} (h:O3 w B v l) (hne:3 ≠ E') (hne2:36 ≠ E') (hne3:37 ≠ E') (h2:VO E' w B' u xs) (hg:w.grownBy w' u.ownBlock):O3 w' B v l:=by
 obtain ⟨vs,h3,h4⟩:=h
 exact ⟨vs,h3.far hne3 h2.2 hg,h4.far hne hne2 h2 hg⟩
theorem O1.setRow {w:World} {B g:Nat} {v:Value} {l:List Int} {E:TypeId} {cs:Array Value} (h:O1 w B v l) (hr:Row w g E cs) (hne:3 ≠ E) (i:Nat) (u:Value):O1 (w.setCell ⟨g,i,none⟩ u) B v l:=VO.setFar h (VO.ne_row h hr hne) u
theorem OB.setRow {w:World} {B g:Nat} {v:Value} {l:List Bool} {E:TypeId} {cs:Array Value} (h:OB w B v l) (hr:Row w g E cs) (hne:4 ≠ E) (i:Nat) (u:Value):OB (w.setCell ⟨g,i,none⟩ u) B v l:=VO.setFar h (VO.ne_row h hr hne) u
theorem O3.setRow {w:World} {B g:Nat} {v:Value} {l:List (List (List Int))} {E:TypeId} {cs:Array Value} (h:O3 w B v l) (hr:Row w g E cs) (hne:3 ≠ E) (hne2:36 ≠ E) (hne3:37 ≠ E) (i:Nat) (u:Value):O3 (w.setCell ⟨g,i,none⟩ u) B v l :=
 h.turns (Turns.cell w _ u) (hr.notT (Ne.symm hne)) (hr.notT (Ne.symm hne2)) (hr.notT (Ne.symm hne3))
theorem TDO.setRow {w:World} {B g:Nat} {v:Value} {d:Raw} {cs:Array Value} (h:TDO w B v d) (r:Row w g 30 cs) (i:Nat) (u:Value):TDO (w.setCell ⟨g,i,none⟩ u) B v d:=by
 obtain ⟨vn,vf,h1,h2,h3⟩:=h
 exact ⟨vn,vf,h1,h2.setRow r (by decide) (by decide) (by decide) i u,h3.setRow r (by decide) i u⟩
theorem zaz {w W:World} {B B0 g:Nat} {d:Raw} {v a b c e x0 x1 x2 x3:Value} (r:Row W g 30 #[x0,x1,x2,x3]) (h:TDO W B v d) (hb:Below B0 w W) (hg:B0 <= g) :
  Row ((((W.setCell ⟨g,0,none⟩ a).setCell ⟨g,1,none⟩ b).setCell ⟨g,2,none⟩ c).setCell ⟨g,3,none⟩ e) g 30 #[a,b,c,e] /\
  TDO ((((W.setCell ⟨g,0,none⟩ a).setCell ⟨g,1,none⟩ b).setCell ⟨g,2,none⟩ c).setCell ⟨g,3,none⟩ e) B v d /\
  Below B0 w ((((W.setCell ⟨g,0,none⟩ a).setCell ⟨g,1,none⟩ b).setCell ⟨g,2,none⟩ c).setCell ⟨g,3,none⟩ e) :=
 ⟨(((r.set 0 _).set 1 _).set 2 _).set 3 _,(((h.setRow r 0 _).setRow (r.set 0 _) 1 _).setRow ((r.set 0 _).set 1 _) 2 _).setRow (((r.set 0 _).set 1 _).set 2 _) 3 _,
  (((hb.setCell (p:=⟨g,0,none⟩) hg _).setCell (p:=⟨g,1,none⟩) hg _).setCell (p:=⟨g,2,none⟩) hg _).setCell (p:=⟨g,3,none⟩) hg _⟩
theorem V1.snoc {w:World} {B:Nat} {vs:List Value} {u:Value} {ll:List (List Int)} {l:List Int} (h:V1 w B vs ll) (hu:O1 w B u l):V1 w B (vs ++ [u]) (ll ++ [l]):=by
 refine ⟨by simp [h.1],fun i v hv => ?_⟩
 by_cases hi:i < vs.length
 ·rw [List.getElem?_append_left hi] at hv
  obtain ⟨l,h1,h2⟩:=h.2 i v hv
  exact ⟨l,by rw [List.getElem?_append_left (by rw [<- h.1]; exact hi)]; exact h1,h2⟩
 ·rw [List.getElem?_append_right (by omega)] at hv
  have hz:i - vs.length = 0:=by have:=(List.getElem?_eq_some_iff.1 hv).1; simp at this; omega
  rw [hz] at hv
  cases hv
  exact ⟨l,by rw [List.getElem?_append_right (by rw [<- h.1]; omega),<- h.1,hz]; rfl,hu⟩
theorem V2.snoc {w:World} {B:Nat} {vs:List Value} {u:Value} {ll:List (List (List Int))} {l:List (List Int)} (h:V2 w B vs ll) (hu:O2 w B u l):V2 w B (vs ++ [u]) (ll ++ [l]):=by
 refine ⟨by simp [h.1],fun i v hv => ?_⟩
 by_cases hi:i < vs.length
 ·rw [List.getElem?_append_left hi] at hv
  obtain ⟨l,h1,h2⟩:=h.2 i v hv
  exact ⟨l,by rw [List.getElem?_append_left (by rw [<- h.1]; exact hi)]; exact h1,h2⟩
 ·rw [List.getElem?_append_right (by omega)] at hv
  have hz:i - vs.length = 0:=by have:=(List.getElem?_eq_some_iff.1 hv).1; simp at this; omega
  rw [hz] at hv
  cases hv
  exact ⟨l,by rw [List.getElem?_append_right (by rw [<- h.1]; omega),<- h.1,hz]; rfl,hu⟩
theorem zic {α:Type} {l:List α} {r:Nat} {x:α} (h:l[r]? = some x):l.set r x = l:=by
 apply List.ext_getElem?
 intro i
 rw [List.getElem?_set]
 by_cases e:r = i
 ·subst e; rw [if_pos rfl,if_pos (List.getElem?_eq_some_iff.1 h).1,h]
 ·rw [if_neg e]
def rowL (f:Nat -> Nat -> Nat -> Nat) (l r x:Nat):List Int:=(List.range x).map fun x => (f l r x:Int)
def rows2 (L:Nat) (f:Nat -> Nat -> Nat -> Nat) (l r:Nat):List (List Int):=(List.range r).map fun r => rowL f l r L
def rows3 (n L:Nat) (f:Nat -> Nat -> Nat -> Nat) (l:Nat):List (List (List Int)):=(List.range l).map fun l => rows2 L f l n
theorem zn7 (f:Nat -> Nat -> Nat -> Nat) (l r x:Nat):rowL f l r (x + 1) = rowL f l r x ++ [(f l r x:Int)]:=by simp [rowL,List.range_succ]
theorem zaf (f:Nat -> Nat -> Nat -> Nat) (l r x:Nat):(rowL f l r x).length = x:=by simp [rowL]
theorem zfa (n L:Nat) (f:Nat -> Nat -> Nat -> Nat) (l:Nat):rows3 n L f (l + 1) = rows3 n L f l ++ [rows2 L f l n]:=by simp [rows3,List.range_succ]
theorem za0 (n L:Nat) (f:Nat -> Nat -> Nat -> Nat) (l:Nat):(rows3 n L f l).length = l:=by simp [rows3]
structure RowsAt (w:World) (B n L l r:Nat) (f:Nat -> Nat -> Nat -> Nat) (vs:List Value):Prop where
 len:vs.length = n
 done:∀ i u,vs[i]? = some u -> i < r -> O1 w B u (rowL f l i L)
 todo:∀ i u,vs[i]? = some u -> r <= i -> u = .slice none 0 0
theorem RowsAt.start (w:World) (B n L l:Nat) (f:Nat -> Nat -> Nat -> Nat):RowsAt w B n L l 0 f (List.replicate n (.slice none 0 0)) :=
 ⟨by simp,fun i u _ h => by omega,fun i u hu _ => List.eq_of_mem_replicate (List.mem_of_getElem? hu)⟩
theorem RowsAt.full {w:World} {B n L l:Nat} {f:Nat -> Nat -> Nat -> Nat} {vs:List Value} (h:RowsAt w B n L l n f vs):V1 w B vs (rows2 L f l n):=by
 refine ⟨by rw [h.len]; simp [rows2],fun i u hu => ?_⟩
 have hi:i < n:=by have:=(List.getElem?_eq_some_iff.1 hu).1; rw [h.len] at this; exact this
 exact ⟨rowL f l i L,by unfold rows2; rw [List.getElem?_map,List.getElem?_range hi]; rfl,h.done i u hu hi⟩
theorem RowsAt.next {w w':World} {B n L l r g:Nat} {f:Nat -> Nat -> Nat -> Nat} {vs:List Value} {u:Value} (h:RowsAt w B n L l r f vs) (ht:Turns w w' g) (hn:NotT w g 3) (hr:r < n) (hu:O1 w' B u (rowL f l r L)):RowsAt w' B n L l (r + 1) f (vs.set r u):=by
 refine ⟨by rw [List.length_set]; exact h.len,fun i v hv hi => ?_,fun i v hv hi => ?_⟩
 ·rw [List.getElem?_set] at hv
  by_cases e:r = i
  ·subst e
   rw [if_pos rfl,if_pos (by rw [h.len]; exact hr)] at hv
   cases hv; exact hu
  ·rw [if_neg e] at hv
   exact (h.done i v hv (by omega)).turns ht hn
 ·rw [List.getElem?_set,if_neg (by omega)] at hv
  exact h.todo i v hv (by omega)
theorem Turns.refl (w:World) (g:Nat):Turns w w g:=⟨zn,fun _ _ _ => rfl⟩
theorem Turns.below {w a b:World} {g:Nat} (h:Turns w a g) (hb:Below a.heap.size a b):Turns w b g:=⟨Nat.le_trans h.1 hb.size,fun i hi hne => (hb.block i (Nat.lt_of_lt_of_le hi h.1)).trans (h.2 i hi hne)⟩
theorem Turns.alloc {w a:World} {g:Nat} (h:Turns w a g) (X:Obj):Turns w (a.alloc X) g:=⟨Nat.le_trans h.1 (by simp),fun i hi hne => (Below.heap_alloc a X i (Nat.lt_of_lt_of_le hi h.1)).trans (h.2 i hi hne)⟩
theorem Turns.grow {w a b:World} {g:Nat} {row:Option Nat} (h:Turns w a g) (hg:a.grownBy b row) (hr:∀ k,row = some k -> w.heap.size <= k):Turns w b g :=
 ⟨Nat.le_trans h.1 hg.size,fun i hi hne => (hg.block i (Nat.lt_of_lt_of_le hi h.1) (fun e => by have:=hr i e.symm; omega)).trans (h.2 i hi hne)⟩
theorem Turns.set {w a:World} {g:Nat} (h:Turns w a g) (i:Nat) (u:Value):Turns w (a.setCell ⟨g,i,none⟩ u) g:=⟨by simp; exact h.1,fun k hk hne => (Below.heap_setCell a ⟨g,i,none⟩ u k (by exact hne)).trans (h.2 k hk hne)⟩
structure RowX (wl wr:World) (g n l r x:Nat) (f:Nat -> Nat -> Nat -> Nat) (vs:List Value) (W:World):Prop where
 le:wl.heap.size <= wr.heap.size
 tn:Turns wr W g
 bl:Below wl.heap.size wl W
 row:∃ u,VO 36 W wl.heap.size (.slice (some ⟨g,0,none⟩) n n) (vs.set r u) /\ O1 W wr.heap.size u (rowL f l r x)
theorem RowX.keep {wl wr:World} {g n l r x:Nat} {f:Nat -> Nat -> Nat -> Nat} {vs:List Value} {W W':World} (h:RowX wl wr g n l r x f vs W) (hb:Below W.heap.size W W'):RowX wl wr g n l r x f vs W':=by
 obtain ⟨u,h1,h2⟩:=h.row
 exact ⟨h.le,h.tn.below hb,h.bl.trans (hb.mono h.bl.size),u,h1.below hb zn,h2.below hb zn⟩
theorem RowX.step {wl wr:World} {g n l r x:Nat} {f:Nat -> Nat -> Nat -> Nat} {vs:List Value} {W w1 w2:World} {u u':Value} {X:Obj} (h:RowX wl wr g n l r x f vs W) (hg:wl.heap.size <= g) (hlen:vs.length = n) (hr:r < n) (h1:VO 36 w1 wl.heap.size (.slice (some ⟨g,0,none⟩) n n) (vs.set r u)) (h2:O1 w1 wr.heap.size u (rowL f l r x))
  (hb:Below W.heap.size W w1) (ho:VO 3 w2 wr.heap.size u' (iL (rowL f l r x) ++ [.int .i64 (f l r x:Int)])) (hg2:(w1.alloc X).grownBy w2 u.ownBlock):RowX wl wr g n l r (x + 1) f vs (w2.setCell ⟨g,r,none⟩ u'):=by
 have k1:=h.keep hb
 have hgw:∀ k,u.ownBlock = some k -> wr.heap.size <= k:=fun k hk => (World.ownsRow.lt h2.2 k hk).1
 have r1:VO 36 w2 wl.heap.size (.slice (some ⟨g,0,none⟩) n n) (vs.set r u):=(VO.allocd h1 X).far (by decide) (VO.allocd h2 X).2 hg2
 have rw2:=(VO.row r1 (by rw [List.length_set,hlen]; omega))
 have hT:Turns wr w2 g:=Turns.grow (k1.tn.alloc X) hg2 hgw
 have hB:Below wl.heap.size wl w2:=by
  refine Below.grown (Below.alloc k1.bl k1.bl.size X) hg2 (by simp only [World.size_alloc]; have:=k1.bl.size; omega) (fun k hk => ?_)
  have:=hgw k hk
  have h4:=h.le
  omega
 refine ⟨h.le,hT.set r u',hB.setCell (p:=⟨g,r,none⟩) hg _,u',?_,?_⟩
 ·have:=zeb r1 (by rw [List.length_set]; exact hlen) r u' ho.oneCell
  rwa [List.set_set] at this
 ·unfold O1
  rw [zn7,zgz]
  refine VO.setFar ho (p:=⟨g,r,none⟩) (fun e => ?_) u'
  obtain ⟨g3,cap,cs,he,_,hrow,_⟩:=rw2
  simp only [Value.slice.injEq,Option.some.injEq,Addr.mk.injEq,and_true,true_and] at he
  exact VO.ne_row ho hrow (by decide) (by rw [e,he.1])
abbrev Cb3R (n L:Nat) (nx:Nat -> Nat -> Nat -> Nat) (k1 k2 k3:Value) (w:World):Prop:=∀ (l r x:Nat) (W:World),l < n -> r < n -> x < L -> Below w.heap.size w W ->
 Calls Tryz.prog 80 #[.int .i64 (l:Int),.int .i64 (r:Int),.int .i64 (x:Int),k1,k2,k3] W fun e W' => e = .returned (.int .i64 ((nx l r x:Nat):Int)) /\ Below W.heap.size W W'
abbrev Cb1R (n:Nat) (fin:Nat -> Bool) (j1 j2:Value) (w:World):Prop:=∀ (l:Nat) (W:World),l < n -> Below w.heap.size w W ->
 Calls Tryz.prog 81 #[.int .i64 (l:Int),j1,j2] W fun e W' => e = .returned (.bool (fin l)) /\ Below W.heap.size W W'
theorem built_R (V n L:Nat) (hV:V <= 3) (hL:L = 2 ^ V) (hn:n <= 64) (nx:Nat -> Nat -> Nat -> Nat) (fin:Nat -> Bool) (k1 k2 k3 j1 j2:Value) (w:World) (hc1:Cb3R n L nx k1 k2 k3 w) (hc2:Cb1R n fin j1 j2 w) :
  Calls Tryz.prog 39 #[.int .i64 (V:Int),.int .i64 (n:Int),.func (.func 80) #[] #[k1,k2,k3],.func (.func 81) #[] #[j1,j2]] w
   fun e w' => ∃ v,e = .returned v /\ Below w.heap.size w w' /\ TDO w' w.heap.size v ⟨V,0,nx3 n L nx,(List.range n).map fin⟩:=by
 have hsh:=zdm V hV
 rw [<- hL] at hsh
 have hL8:L <= 8:=by rw [hL]; exact Nat.pow_le_pow_right (by omega) hV
 have hV3':(V:Int) <= 3:=by omega
 have hmk:=zbm eII n (by omega)
 have HC1:=zh hc1; have HC2:=zh hc2
 clear hc1 hc2 hL
 go_enter Tryz.func39,Tryz.ntmps39
 go_wp2
 refine zaa (fun W => Below w.heap.size w W /\ Row W w.heap.size 30 #[.int .i64 0,.int .i64 0,.slice none 0 0,.slice none 0 0] /\ Row W (w.heap.size + 1) 30 #[.int .i64 (V:Int),.int .i64 0,.slice none 0 0,.slice none 0 0]) ⟨by go_grown,(Row.new _ _ _).alloc _,Row.lit (by simp)⟩ ?_
 rintro w1 ⟨hb,hr0,hr1⟩
 have HB:=zh hb; have R0:=zh hr0; have R1:=zh hr1
 clear hb hr0 hr1
 go_loopg [17] n (fun gk q wr => ∃ (l:Nat) (vn vf:Value),l <= n /\ gk = n - l /\ q = .int .i64 l /\ Below w.heap.size w wr /\ Row wr w.heap.size 30 #[.int .i64 0,.int .i64 0,.slice none 0 0,.slice none 0 0] /\ Row wr (w.heap.size + 1) 30 #[.int .i64 (V:Int),.int .i64 0,vn,vf] /\
  O3 wr w.heap.size vn (rows3 n L nx l) /\ OB wr w.heap.size vf ((List.range l).map fin))
 case atStart => exact ⟨0,_,_,Nat.zero_le _,rfl,rfl,HB.out,R0.out,R1.out,⟨[],VO.nil _ _ _,rfl,fun i u h => by simp at h⟩,VO.nil _ _ _⟩
 case round =>
  clear HB R0 R1
  obtain ⟨l,vn,vf,hl,rfl,rfl,hb,hr0,hr1,hon,hof⟩:=hrel
  obtain ⟨wl,hwl⟩:=zx wr
  subst hwl
  have HB:=zh hb; have R0:=zh hr0; have R1:=zh hr1; have ON:=zh hon; have OF:=zh hof
  clear hb hr0 hr1 hon hof
  by_cases hlt:l < n
  ·go_wp2
   refine zaa (fun W => Below wl.heap.size wl W /\ ∃ g,g = wl.heap.size /\ Row W g 36 (List.replicate n (Value.slice none 0 0)).toArray /\ VO 36 W wl.heap.size (.slice (some ⟨g,0,none⟩) n n) (List.replicate n (Value.slice none 0 0))) ⟨by go_grown,_,rfl,Row.new _ _ _,VO.lit _ (by simp) (by omega) (by intro u hu; rw [List.eq_of_mem_replicate hu]; rfl)⟩ ?_
   rintro w2 ⟨hb,g,hg,hrow,hvo⟩
   rw [<- hg]
   have HBL:=zh hb; have HVO:=zh hvo; have HG:=zh hg
   clear hb hrow hvo hg
   go_loopg [24] n (fun gk q wr2 => ∃ (r:Nat) (vs:List Value),r <= n /\ gk = n - r /\ q = .int .i64 r /\ Below wl.heap.size wl wr2 /\ VO 36 wr2 wl.heap.size (.slice (some ⟨g,0,none⟩) n n) vs /\ RowsAt wr2 wl.heap.size n L l r nx vs)
   case atStart => exact ⟨0,_,Nat.zero_le _,rfl,rfl,HBL.out,HVO.out,RowsAt.start _ _ _ _ _ _⟩
   case round =>
    clear HBL HVO
    obtain ⟨r,vs,hr,rfl,rfl,hbl,hvo,hat⟩:=hrel
    obtain ⟨wx,hwx⟩:=zx wr
    subst hwx
    have HBL:=zh hbl; have HVO:=zh hvo; have HAT:=zh hat
    clear hbl hvo hat
    by_cases hrt:r < n
    ·have hlen:=HAT.out.len
     obtain ⟨u0,hu0⟩:∃ u,vs[r]? = some u:=⟨vs[r]'(by omega),List.getElem?_eq_getElem _⟩
     have hnil:=HAT.out.todo r u0 hu0 zn
     have HX0:Hid (RowX wl wx g n l r 0 nx vs wx):=⟨HBL.out.size,Turns.refl _ _,HBL.out,.slice none 0 0,by
      rw [hnil] at hu0
      rw [zic hu0]; exact HVO.out,VO.nil _ _ _⟩
     have HLEN:=zh hlen
     clear hu0 hnil hlen
     go_wp2
     go_loopg [29] L (fun gk q W0 => ∃ x:Nat,x <= L /\ gk = L - x /\ q = .int .i64 x /\ RowX wl wx g n l r x nx vs W0)
     case atStart => exact ⟨0,Nat.zero_le _,rfl,rfl,HX0.out⟩
     case round =>
      clear HX0
      obtain ⟨x,hx,rfl,rfl,hxx⟩:=hrel
      obtain ⟨W,hW⟩:=zx wr
      subst hW
      have HX:=zh hxx; clear hxx
      by_cases hxt:x < L
      ·obtain ⟨u,hu1,hu2⟩:=HX.out.row
       obtain ⟨Au,cu,rfl⟩:=VO.formN (n:=x) hu2 (by rw [zad,zaf])
       have U1:=zh hu1; have U2:=zh hu2
       have c0:=VS.at hu1.vs (i:=r) (m:=.slice Au x cu) (by rw [List.getElem?_set,if_pos rfl,if_pos (by rw [HLEN.out]; exact hrt)])
       rw [Nat.zero_add] at c0
       obtain ⟨g3,cap3,cs3,he3,hg3,hrow3,_⟩:=VO.row hu1 (by rw [List.length_set,HLEN.out]; omega)
       simp only [Value.slice.injEq,Option.some.injEq,Addr.mk.injEq,and_true,true_and] at he3
       obtain ⟨rfl,-⟩:=he3
       have f0:=hrow3.free r
       have hgW:=hrow3.lt
       have hcb:=HC1.out l r x
       have HCB:=zh (fun W' (h:Below W.heap.size W W') => hcb W' hlt hrt hxt ((HB.out.trans (HX.out.bl.mono HB.out.size)).trans (h.mono (by have:=HB.out.size; have:=HX.out.bl.size; omega))))
       have R3:=zh hrow3
       have HCS:=zh ((hrow3.cell r).symm.trans c0)
       clear hu1 hu2 hg3 hrow3 hcb
       obtain ⟨s,hs⟩:=zx (nx l r x)
       rw [<- hs] at HCB
       have HS:=zh hs; clear hs
       go_wp2
       first
       | go_region_law (first
         | (go_simp; go_at_call 80; refine (HCB.out _ (by go_grown)).mono ?_; rintro e w3 ⟨rfl,hb3⟩; have HB3:Hid (Below W.heap.size W w3):=(show Below W.heap.size W w3 from ⟨hb3.os,hb3.tape,hb3.output,hb3.size,hb3.block⟩); have c1:=(HB3.out.cell (p:=⟨g,r,none⟩) hgW).trans c0; have f1:=((R3.out.below HB3.out hgW).free r); have hg31:g < w3.heap.size:=Nat.lt_of_lt_of_le hgW HB3.out.size; have hg32:g ≠ w3.heap.size:=Nat.ne_of_lt hg31; have c1a:=fun X => (((R3.out.below HB3.out hgW).alloc X).cell r).trans HCS.out; clear hb3; try go_simp)
         | (refine zaq eI rfl (.tmp 37) (.tmp 43) rfl wx.heap.size _ _ rfl (VO.allocd (U2.out.below HB3.out zn) _) _ [.int .i64 (s:Int)] rfl (VS.one (by first | exact Row.new _ _ _ | exact Row.lit rfl | exact Row.litd rfl)) (by intro u hu; simp at hu; subst hu; rfl) (by rw [zad,zaf]; simp only [List.length_cons,List.length_nil]; omega) (by simp only [World.size_alloc]; have:=HB3.out.size; have:=HX.out.tn.1; omega) ?_; intro v4 w4 ho4 hg4 _; obtain ⟨A4,c4,rfl⟩:=VO.formN (n:=x + 1) ho4 (by rw [List.length_append,zad,zaf]; rfl); rw [HS.out] at ho4; have HX4:=zh (HX.out.step (by rw [HG.out]; exact zn) HLEN.out hrt (U1.out.below HB3.out zn) (U2.out.below HB3.out zn) HB3.out ho4 hg4); have R4:=zh ((Row.alloc (R3.out.below HB3.out hgW) _).far_own (by decide) (VO.allocd (U2.out.below HB3.out zn) _).2 hg4); have c4':=(R4.out.cell r).trans HCS.out; have f4':=R4.out.free r; clear ho4 hg4))
       | fail
       all_goals
        have HX2:=zh HX4.out
        clear HX U1 U2 c0 f0 hgW R3 HCB HS
        go_wp2
        go_roundg (L - (x + 1))
        case rel => exact ⟨x + 1,by omega,rfl,by go_num,HX2.out⟩
        case measure => omega
      ·have hxe:x = L:=by omega
       have hX:=HX.out
       rw [hxe] at hX
       have HX2:=zh hX
       clear hX hxe
       obtain ⟨u,hu1,hu2⟩:=HX2.out.row
       obtain ⟨g3,cap3,cs3,he3,hg3,hrow3,_⟩:=VO.row HVO.out (by rw [HLEN.out]; omega)
       simp only [Value.slice.injEq,Option.some.injEq,Addr.mk.injEq,and_true,true_and] at he3
       obtain ⟨rfl,-⟩:=he3
       have HAT2:=zh (HAT.out.next HX2.out.tn (hrow3.notT (by decide)) hrt (hu2.mono HX2.out.le))
       have HU1:=zh hu1
       clear hu1 hu2 hrow3 hg3
       go_wp2
       go_roundg (n - (r + 1))
       case rel => exact ⟨r + 1,_,by omega,rfl,by go_num,HX2.out.bl,HU1.out,HAT2.out⟩
       case measure => omega
    ·have hre:r = n:=by omega
     have hA:=HAT.out
     rw [hre] at hA
     have HO2:Hid (O2 wx wl.heap.size (.slice (some ⟨g,0,none⟩) n n) (rows2 L nx l n)):=⟨vs,HVO.out,hA.full⟩
     have ON2:=zh (ON.out.below HBL.out zn); have OF2:=zh (OF.out.below HBL.out zn)
     have R02:=zh (R0.out.below HBL.out R0.out.lt); have R12:=zh (R1.out.below HBL.out R1.out.lt)
     have HB2:=zh (HB.out.trans (HBL.out.mono HB.out.size))
     have hbs:=HB.out.size
     clear hA hre HAT HVO HBL
     obtain ⟨vsn,hvn,hvn2⟩:=ON2.out
     obtain ⟨An,cn,rfl⟩:=VO.formN (n:=l) hvn (by rw [hvn2.1,za0])
     obtain ⟨Af,cf,rfl⟩:=VO.formN (n:=l) OF2.out (by simp [bL])
     have VN:=zh hvn; have VN2:=zh hvn2
     have z0:=R12.out.cell; have z1:=R12.out.free
     clear hvn hvn2
     go_wp2_with (at_builtin; refine zac eIII rfl (.tmp 49) (.tmp 51) rfl w.heap.size _ _ rfl (VO.allocd VN.out _) _ [.slice (some ⟨g,0,none⟩) n n] rfl (VS.one (Row.new _ _ _)) (by intro u hu; simp at hu; subst hu; rfl) (by rw [VN2.out.1,za0]; simp; omega) (by simp only [World.size_alloc]; have:=HB2.out.size; omega) ?_; intro v4 w4 ho4 hg4 _; obtain ⟨A4,c4,rfl⟩:=VO.formN (n:=l + 1) ho4 (by rw [List.length_append,VN2.out.1,za0]; rfl); have HO4:=zh ho4; have V24:=zh (V2.far (V2.below VN2.out (B':=wx.heap.size) (by go_grown) zn) (by decide) (by decide) (VO.allocd VN.out _) hg4); have O24:=zh (O2.far (O2.below HO2.out (B':=wx.heap.size) (by go_grown) zn) (by decide) (by decide) (VO.allocd VN.out _) hg4); have F4:=zh (OB.far (OB.below OF2.out (B':=wx.heap.size) (by go_grown) zn) (by decide) (VO.allocd VN.out _) hg4); have R04:=zh ((R02.out.alloc _).far_own (by decide) (VO.allocd VN.out _).2 hg4); have R14:=zh ((R12.out.alloc _).far_own (by decide) (VO.allocd VN.out _).2 hg4); have HB4:=zh (zat (w:=w) (by have h1:=HB2.out; have h2:=h1.size; go_grown) (VO.allocd VN.out _) hg4 (by simp only [World.size_alloc]; have:=HB2.out.size; omega)); clear z0 z1 ho4 hg4; have z0:=R14.out.cell; have z1:=R14.out.free)
     have O34:Hid (O3 w4 w.heap.size (.slice A4 (l + 1) c4) (rows3 n L nx (l + 1))):=by
      unfold Hid; rw [zfa]; exact ⟨_,HO4.out,V24.out.snoc (O24.out.mono hbs)⟩
     refine zaa (fun W => Below w.heap.size w W /\ Row W w.heap.size 30 #[.int .i64 0,.int .i64 0,.slice none 0 0,.slice none 0 0] /\ Row W (w.heap.size + 1) 30 #[.int .i64 (V:Int),.int .i64 0,.slice A4 (l + 1) c4,.slice Af l cf] /\
      O3 W w.heap.size (.slice A4 (l + 1) c4) (rows3 n L nx (l + 1)) /\ OB W w.heap.size (.slice Af l cf) ((List.range l).map fin))
      ⟨HB4.out.setCell (p:=⟨w.heap.size + 1,2,none⟩) (by simp) _,R04.out.far (by simp) _,R14.out.set 2 _,O34.out.setRow R14.out (by decide) (by decide) (by decide) 2 _,F4.out.setRow R14.out (by decide) 2 _⟩ ?_
     clear HO4 V24 O24 F4 R04 R14 HB4 O34 z0 z1 R0 R1 R02 R12 HB2 HB ON OF ON2 OF2 VN VN2 HO2 HG hmk
     rintro W ⟨hb,hr0,hr1,hon,hof⟩
     have HB:=zh hb; have R0:=zh hr0; have R1:=zh hr1; have ON:=zh hon; have OF:=zh hof
     have z0:=hr1.cell; have z1:=hr1.free
     have hz:=hr1.lt
     have HCB:=zh (fun W' (h:Below W.heap.size W W') => HC2.out l W' hlt (HB.out.trans (h.mono HB.out.size)))
     obtain ⟨s,hs⟩:=zx (fin l)
     rw [<- hs] at HCB
     have HS:=zh hs
     clear hb hr0 hr1 hon hof hs
     first
     | go_region_law (first
      | (go_simp; go_at_call 81; refine (HCB.out _ (by go_grown)).mono ?_; rintro e w3 ⟨rfl,hb3⟩; have HB3:Hid (Below W.heap.size W w3):=(show Below W.heap.size W w3 from ⟨hb3.os,hb3.tape,hb3.output,hb3.size,hb3.block⟩); have hz3:w.heap.size + 1 < w3.heap.size:=Nat.lt_of_lt_of_le hz HB3.out.size; have y0:=(R1.out.below HB3.out hz).cell; have y1:=fun X => ((R1.out.below HB3.out hz).alloc X).cell; clear hb3; try go_simp)
      | (refine zaq eB rfl (.tmp 55) (.tmp 59) rfl w.heap.size _ _ rfl (VO.allocd (OF.out.below HB3.out zn) _) _ [.bool s] rfl (VS.one (by first | exact Row.new _ _ _ | exact Row.lit rfl | exact Row.litd rfl)) (by intro u hu; simp at hu; subst hu; rfl) (by rw [zb1]; simp; omega) (by simp only [World.size_alloc]; have:=HB3.out.size; have:=HB.out.size; omega) ?_; intro v4 w4 ho4 hg4 _; obtain ⟨A5,c5,rfl⟩:=VO.formN (n:=l + 1) ho4 (by rw [List.length_append,zb1]; simp); have HO4:=zh ho4; have R04:=zh ((Row.alloc (R0.out.below HB3.out R0.out.lt) _).far_own (by decide) (VO.allocd (OF.out.below HB3.out zn) _).2 hg4); have R14:=zh ((Row.alloc (R1.out.below HB3.out hz) _).far_own (by decide) (VO.allocd (OF.out.below HB3.out zn) _).2 hg4); have ON4:=zh (O3.far (O3.below (ON.out.below HB3.out zn) (B':=w3.heap.size) (by go_grown) zn) (by decide) (by decide) (by decide) (VO.allocd (OF.out.below HB3.out zn) _) hg4); have HB4:=zh (zat (w:=w) (by have h1:=HB.out.trans (HB3.out.mono HB.out.size); have h2:=h1.size; go_grown) (VO.allocd (OF.out.below HB3.out zn) _) hg4 (by simp only [World.size_alloc]; have:=HB3.out.size; have:=HB.out.size; omega)); have z04:=R14.out.cell; have z14:=R14.out.free; clear ho4 hg4))
     | fail
     all_goals
      have OF4:Hid (OB w4 w.heap.size (.slice A5 (l + 1) c5) ((List.range (l + 1)).map fin)):=by
       have h:=HO4.out
       unfold Hid OB
       rw [List.range_succ,List.map_append,List.map_cons,List.map_nil,<- HS.out]
       unfold bL at h ⊢
       rw [List.map_append]
       exact h
      go_wp2
      go_roundg (n - (l + 1))
      case rel => exact ⟨l + 1,_,_,by omega,rfl,by go_num,HB4.out.setCell (p:=⟨w.heap.size + 1,3,none⟩) (by simp) _,R04.out.far (by simp) _,R14.out.set 3 _,ON4.out.setRow R14.out (by decide) (by decide) (by decide) 3 _,OF4.out.setRow R14.out (by decide) 3 _⟩
      case measure => omega
  ·have hln:l = n:=by omega
   have hT:Hid (TDO wl w.heap.size (.agg #[.int .i64 (V:Int),.int .i64 0,vn,vf]) ⟨V,0,nx3 n L nx,(List.range n).map fin⟩):=by
    have h1:=ON.out; have h2:=OF.out
    rw [hln] at h1 h2
    exact ⟨vn,vf,rfl,h1,h2⟩
   obtain ⟨vsn,hvn,hvn2⟩:=ON.out
   obtain ⟨An,cn,rfl⟩:=VO.formN (n:=l) hvn (by rw [hvn2.1,za0])
   obtain ⟨Af,cf,rfl⟩:=VO.formN (n:=l) OF.out (by simp [bL])
   clear hln ON OF hvn hvn2
   have a0:=R1.out.cell; have a3:=R1.out.lt
   have b0:=R0.out.cell; have b1:=R0.out.free; have b3:=R0.out.lt
   have q0:=b0 0; have q1:=b0 1; have q2:=b0 2; have q3:=b0 3
   have p0:=a0 0; have p1:=a0 1; have p2:=a0 2; have p3:=a0 3
   simp only [zg] at q0 q1 q2 q3 p0 p1 p2 p3
   clear a0 b0
   go_wp2
   refine zah (fun W => Row W w.heap.size 30 #[.int .i64 (V:Int),.int .i64 0,(.slice An l cn),(.slice Af l cf)] /\ TDO W w.heap.size (.agg #[.int .i64 (V:Int),.int .i64 0,.slice An l cn,.slice Af l cf]) ⟨V,0,nx3 n L nx,(List.range n).map fin⟩ /\ Below w.heap.size w W) (zaz R0.out hT.out HB.out zn) ?_
   clear q0 q1 q2 q3 p0 p1 p2 p3 a3 b1 b3 R0 R1 hT HB
   rintro W ⟨r0,hT,hb⟩
   have b0:=r0.cell
   have q0:=b0 0; have q1:=b0 1; have q2:=b0 2; have q3:=b0 3
   simp only [zg] at q0 q1 q2 q3
   have HT:=zh hT; have HB:=zh hb
   clear b0 r0 hT hb
   exact bodyPost_ret (v:=.agg #[.int .i64 (V:Int),.int .i64 0,.slice An l cn,.slice Af l cf]) (by simp [results,Tryz.results39,go_sem,q0,q1,q2,q3]) rfl ⟨_,rfl,HB.out,HT.out⟩
theorem zjq {k:Nat}:∀ {ls:List (List Value)},(∀ l ∈ ls,l.length = k) -> ∀ m,(ls.take m).flatten = ls.flatten.take (m * k)
 | [],_,m => by simp
 | l :: ls,h,0 => by simp
 | l :: ls,h,m + 1 => by
  have hl:=h l (by simp)
  rw [List.take_succ_cons,List.flatten_cons,List.flatten_cons,zjq (fun x hx => h x (by simp [hx])) m,Nat.succ_mul,Nat.add_comm,<- hl,List.take_length_add_append]
theorem KO.take {E:TypeId} {k:Nat} {w:World} {B g n cap m:Nat} {ls:List (List Value)} (h:KO E k w B (.slice (some ⟨g,0,none⟩) n cap) ls) (hm:m <= n):KO E k w B (.slice (some ⟨g,0,none⟩) m cap) (ls.take m):=by
 obtain ⟨h0,h1,h2⟩:=h
 rcases h2 with ⟨hv,_⟩ | ⟨g2,cap2,cur,hv,hB,hg,hnc,hcm,hcs,ht⟩
 ·cases hv
 ·simp only [Value.slice.injEq,Option.some.injEq,Addr.mk.injEq,and_true] at hv
  obtain ⟨rfl,hn,rfl⟩:=hv
  have hlen:(ls.take m).length = m:=by rw [List.length_take]; omega
  have h0':∀ l ∈ ls.take m,l.length = k /\ ∀ u ∈ l,u.oneCell' = true:=fun l hl => h0 l (List.mem_of_mem_take hl)
  have hft:=zjq (fun l hl => (h0 l hl).1) m
  have hmk:m * k <= ls.length * k:=Nat.mul_le_mul_right _ (by omega)
  refine ⟨h0',?_,.inr ⟨g,cap,cur,by rw [hlen],hB,hg,by omega,hcm,hcs,?_⟩⟩
  ·rw [ziw fun l hl => (h0' l hl).1]
  ·rw [hlen,hft,<- ht,List.take_take,Nat.min_eq_left hmk]
theorem O1.farG {E':TypeId} {w w':World} {B B' size n:Nat} {xs:List Value} {v u:Value} {l:List Int} (h:O1 w B v l) (hne:3 ≠ E') (h2:w.ownsRow B' E' size u n xs) (hg:w.grownBy w' u.ownBlock):O1 w' B v l:=VO.far h hne h2 hg
theorem OB.farG {E':TypeId} {w w':World} {B B' size n:Nat} {xs:List Value} {v u:Value} {l:List Bool} (h:OB w B v l) (hne:4 ≠ E') (h2:w.ownsRow B' E' size u n xs) (hg:w.grownBy w' u.ownBlock):OB w' B v l:=VO.far h hne h2 hg
theorem V1.farG {E':TypeId} {w w':World} {B B' size n:Nat} {xs:List Value} {v:List Value} {u:Value} {l:List (List Int)} (h:V1 w B v l) (hne:3 ≠ E') (h2:w.ownsRow B' E' size u n xs) (hg:w.grownBy w' u.ownBlock):V1 w' B v l :=
 ⟨h.1,fun i u hu => by obtain ⟨l,h4,h5⟩:=h.2 i u hu; exact ⟨l,h4,h5.farG hne h2 hg⟩⟩
theorem O2.farG {E':TypeId} {w w':World} {B B' size n:Nat} {xs:List Value} {v u:Value} {l:List (List Int)} (h:O2 w B v l) (hne:3 ≠ E') (hne2:36 ≠ E') (h2:w.ownsRow B' E' size u n xs) (hg:w.grownBy w' u.ownBlock):O2 w' B v l:=by
 obtain ⟨vs,h3,h4⟩:=h
 exact ⟨vs,h3.far hne2 h2 hg,h4.farG hne h2 hg⟩
theorem V2.farG {E':TypeId} {w w':World} {B B' size n:Nat} {xs:List Value} {v:List Value} {u:Value} {l:List (List (List Int))} (h:V2 w B v l) (hne:3 ≠ E') (hne2:36 ≠ E') (h2:w.ownsRow B' E' size u n xs) (hg:w.grownBy w' u.ownBlock):V2 w' B v l :=
 ⟨h.1,fun i u hu => by obtain ⟨l,h4,h5⟩:=h.2 i u hu; exact ⟨l,h4,h5.farG hne hne2 h2 hg⟩⟩
theorem O3.farG {E':TypeId} {w w':World} {B B' size n:Nat} {xs:List Value} {v u:Value} {l:List (List (List Int))} (h:O3 w B v l) (hne:3 ≠ E') (hne2:36 ≠ E') (hne3:37 ≠ E') (h2:w.ownsRow B' E' size u n xs) (hg:w.grownBy w' u.ownBlock):O3 w' B v l:=by
 obtain ⟨vs,h3,h4⟩:=h
 exact ⟨vs,h3.far hne3 h2 hg,h4.farG hne hne2 h2 hg⟩
theorem TDO.farG {E':TypeId} {w w':World} {B B' size n:Nat} {xs:List Value} {v u:Value} {r:Raw} (h:TDO w B v r) (h1:3 ≠ E') (h2':36 ≠ E') (h3:37 ≠ E') (h4:4 ≠ E') (h2:w.ownsRow B' E' size u n xs) (hg:w.grownBy w' u.ownBlock):TDO w' B v r:=by
 obtain ⟨vn,vf,e,a,b⟩:=h
 exact ⟨vn,vf,e,a.farG h1 h2' h3 h2 hg,b.farG h4 h2 hg⟩
theorem TDO.setTy {w:World} {B g:Nat} {v:Value} {d:Raw} {E:TypeId} {cs:Array Value} (h:TDO w B v d) (r:Row w g E cs) (h1:3 ≠ E) (h2:36 ≠ E) (h3:37 ≠ E) (h4:4 ≠ E) (i:Nat) (u:Value):TDO (w.setCell ⟨g,i,none⟩ u) B v d:=by
 obtain ⟨vn,vf,e,a,b⟩:=h
 exact ⟨vn,vf,e,a.setRow r h1 h2 h3 i u,b.setRow r h4 i u⟩
theorem zhe {T E:TypeId} {k by8:Nat} (hE:EltK T E k by8) {ops:Array Oper} {o:Oper} {a:Act} {w:World} {K:Act -> World -> Prop} {Q:Exit -> Act -> World -> Prop} {X:Prop} (hgd:o.guard = none) (s x:Operand)
  (ho:o.op = .call { callee:=.builtin .append,args:=#[s,x],argTypes:=#[T,T] }) (B:Nat) (v:Value) (ls:List (List Value)) (hs:a.eval s = v) (h:KO E k w B v ls) (b c:Nat) (el:List Value) (hx:a.eval x = .slice (some ⟨b,0,none⟩) 1 c)
  (ha:el.length = k) (h1c:∀ u ∈ el,u.oneCell' = true) (hb:∀ j u,el[j]? = some u -> w.cell? ⟨b,j,none⟩ = some u) (hl:ls.length <= 100000) (hB:B <= w.heap.size)
  (hK:∀ v' w',KO E k w' B v' (ls ++ [el]) -> w.grownBy w' v.ownBlock -> (v'.ownBlock = v.ownBlock \/ v'.ownBlock = some w.heap.size) -> K (a.put o.dst v') w') :
  if Region.wanted o (yielded ops a.tmps) = true then Oper.wp Tryz.prog o a w K Q else X:=by
 have hw:Region.wanted o (yielded ops a.tmps) = true:=by simp [Region.wanted,hgd]
 rw [if_pos hw]
 exact zfq hE s x ho B v ls hs h b c el hx ha h1c hb hl hB hK
abbrev Cb3M (n L:Nat) (nx:Nat -> Nat -> Nat -> Nat) (k1 k2 k3:Value) (w:World):Prop:=∀ (l r x:Nat) (W:World),l < n -> r < n -> x < L -> Below w.heap.size w W ->
 Calls Tryz.prog 40 #[.int .i64 (l:Int),.int .i64 (r:Int),.int .i64 (x:Int),k1,k2,k3] W fun e W' => e = .returned (.int .i64 ((nx l r x:Nat):Int)) /\ Below W.heap.size W W'
abbrev Cb1M (n:Nat) (fin:Nat -> Bool) (j1 j2:Value) (w:World):Prop:=∀ (l:Nat) (W:World),l < n -> Below w.heap.size w W ->
 Calls Tryz.prog 41 #[.int .i64 (l:Int),j1,j2] W fun e W' => e = .returned (.bool (fin l)) /\ Below W.heap.size W W'
theorem built_M (V n L:Nat) (hV:V <= 3) (hL:L = 2 ^ V) (hn:n <= 64) (nx:Nat -> Nat -> Nat -> Nat) (fin:Nat -> Bool) (k1 k2 k3 j1 j2:Value) (w:World) (hc1:Cb3M n L nx k1 k2 k3 w) (hc2:Cb1M n fin j1 j2 w) :
  Calls Tryz.prog 39 #[.int .i64 (V:Int),.int .i64 (n:Int),.func (.func 40) #[] #[k1,k2,k3],.func (.func 41) #[] #[j1,j2]] w
   fun e w' => ∃ v,e = .returned v /\ Below w.heap.size w w' /\ TDO w' w.heap.size v ⟨V,0,nx3 n L nx,(List.range n).map fin⟩:=by
 have hsh:=zdm V hV
 rw [<- hL] at hsh
 have hL8:L <= 8:=by rw [hL]; exact Nat.pow_le_pow_right (by omega) hV
 have hV3':(V:Int) <= 3:=by omega
 have hmk:=zbm eII n (by omega)
 have HC1:=zh hc1; have HC2:=zh hc2
 clear hc1 hc2 hL
 go_enter Tryz.func39,Tryz.ntmps39
 go_wp2
 refine zaa (fun W => Below w.heap.size w W /\ Row W w.heap.size 30 #[.int .i64 0,.int .i64 0,.slice none 0 0,.slice none 0 0] /\ Row W (w.heap.size + 1) 30 #[.int .i64 (V:Int),.int .i64 0,.slice none 0 0,.slice none 0 0]) ⟨by go_grown,(Row.new _ _ _).alloc _,Row.lit (by simp)⟩ ?_
 rintro w1 ⟨hb,hr0,hr1⟩
 have HB:=zh hb; have R0:=zh hr0; have R1:=zh hr1
 clear hb hr0 hr1
 go_loopg [17] n (fun gk q wr => ∃ (l:Nat) (vn vf:Value),l <= n /\ gk = n - l /\ q = .int .i64 l /\ Below w.heap.size w wr /\ Row wr w.heap.size 30 #[.int .i64 0,.int .i64 0,.slice none 0 0,.slice none 0 0] /\ Row wr (w.heap.size + 1) 30 #[.int .i64 (V:Int),.int .i64 0,vn,vf] /\
  O3 wr w.heap.size vn (rows3 n L nx l) /\ OB wr w.heap.size vf ((List.range l).map fin))
 case atStart => exact ⟨0,_,_,Nat.zero_le _,rfl,rfl,HB.out,R0.out,R1.out,⟨[],VO.nil _ _ _,rfl,fun i u h => by simp at h⟩,VO.nil _ _ _⟩
 case round =>
  clear HB R0 R1
  obtain ⟨l,vn,vf,hl,rfl,rfl,hb,hr0,hr1,hon,hof⟩:=hrel
  obtain ⟨wl,hwl⟩:=zx wr
  subst hwl
  have HB:=zh hb; have R0:=zh hr0; have R1:=zh hr1; have ON:=zh hon; have OF:=zh hof
  clear hb hr0 hr1 hon hof
  by_cases hlt:l < n
  ·go_wp2
   refine zaa (fun W => Below wl.heap.size wl W /\ ∃ g,g = wl.heap.size /\ Row W g 36 (List.replicate n (Value.slice none 0 0)).toArray /\ VO 36 W wl.heap.size (.slice (some ⟨g,0,none⟩) n n) (List.replicate n (Value.slice none 0 0))) ⟨by go_grown,_,rfl,Row.new _ _ _,VO.lit _ (by simp) (by omega) (by intro u hu; rw [List.eq_of_mem_replicate hu]; rfl)⟩ ?_
   rintro w2 ⟨hb,g,hg,hrow,hvo⟩
   rw [<- hg]
   have HBL:=zh hb; have HVO:=zh hvo; have HG:=zh hg
   clear hb hrow hvo hg
   go_loopg [24] n (fun gk q wr2 => ∃ (r:Nat) (vs:List Value),r <= n /\ gk = n - r /\ q = .int .i64 r /\ Below wl.heap.size wl wr2 /\ VO 36 wr2 wl.heap.size (.slice (some ⟨g,0,none⟩) n n) vs /\ RowsAt wr2 wl.heap.size n L l r nx vs)
   case atStart => exact ⟨0,_,Nat.zero_le _,rfl,rfl,HBL.out,HVO.out,RowsAt.start _ _ _ _ _ _⟩
   case round =>
    clear HBL HVO
    obtain ⟨r,vs,hr,rfl,rfl,hbl,hvo,hat⟩:=hrel
    obtain ⟨wx,hwx⟩:=zx wr
    subst hwx
    have HBL:=zh hbl; have HVO:=zh hvo; have HAT:=zh hat
    clear hbl hvo hat
    by_cases hrt:r < n
    ·have hlen:=HAT.out.len
     obtain ⟨u0,hu0⟩:∃ u,vs[r]? = some u:=⟨vs[r]'(by omega),List.getElem?_eq_getElem _⟩
     have hnil:=HAT.out.todo r u0 hu0 zn
     have HX0:Hid (RowX wl wx g n l r 0 nx vs wx):=⟨HBL.out.size,Turns.refl _ _,HBL.out,.slice none 0 0,by
      rw [hnil] at hu0
      rw [zic hu0]; exact HVO.out,VO.nil _ _ _⟩
     have HLEN:=zh hlen
     clear hu0 hnil hlen
     go_wp2
     go_loopg [29] L (fun gk q W0 => ∃ x:Nat,x <= L /\ gk = L - x /\ q = .int .i64 x /\ RowX wl wx g n l r x nx vs W0)
     case atStart => exact ⟨0,Nat.zero_le _,rfl,rfl,HX0.out⟩
     case round =>
      clear HX0
      obtain ⟨x,hx,rfl,rfl,hxx⟩:=hrel
      obtain ⟨W,hW⟩:=zx wr
      subst hW
      have HX:=zh hxx; clear hxx
      by_cases hxt:x < L
      ·obtain ⟨u,hu1,hu2⟩:=HX.out.row
       obtain ⟨Au,cu,rfl⟩:=VO.formN (n:=x) hu2 (by rw [zad,zaf])
       have U1:=zh hu1; have U2:=zh hu2
       have c0:=VS.at hu1.vs (i:=r) (m:=.slice Au x cu) (by rw [List.getElem?_set,if_pos rfl,if_pos (by rw [HLEN.out]; exact hrt)])
       rw [Nat.zero_add] at c0
       obtain ⟨g3,cap3,cs3,he3,hg3,hrow3,_⟩:=VO.row hu1 (by rw [List.length_set,HLEN.out]; omega)
       simp only [Value.slice.injEq,Option.some.injEq,Addr.mk.injEq,and_true,true_and] at he3
       obtain ⟨rfl,-⟩:=he3
       have f0:=hrow3.free r
       have hgW:=hrow3.lt
       have hcb:=HC1.out l r x
       have HCB:=zh (fun W' (h:Below W.heap.size W W') => hcb W' hlt hrt hxt ((HB.out.trans (HX.out.bl.mono HB.out.size)).trans (h.mono (by have:=HB.out.size; have:=HX.out.bl.size; omega))))
       have R3:=zh hrow3
       have HCS:=zh ((hrow3.cell r).symm.trans c0)
       clear hu1 hu2 hg3 hrow3 hcb
       obtain ⟨s,hs⟩:=zx (nx l r x)
       rw [<- hs] at HCB
       have HS:=zh hs; clear hs
       go_wp2
       first
       | go_region_law (first
         | (go_simp; go_at_call 40; refine (HCB.out _ (by go_grown)).mono ?_; rintro e w3 ⟨rfl,hb3⟩; have HB3:Hid (Below W.heap.size W w3):=(show Below W.heap.size W w3 from ⟨hb3.os,hb3.tape,hb3.output,hb3.size,hb3.block⟩); have c1:=(HB3.out.cell (p:=⟨g,r,none⟩) hgW).trans c0; have f1:=((R3.out.below HB3.out hgW).free r); have hg31:g < w3.heap.size:=Nat.lt_of_lt_of_le hgW HB3.out.size; have hg32:g ≠ w3.heap.size:=Nat.ne_of_lt hg31; have c1a:=fun X => (((R3.out.below HB3.out hgW).alloc X).cell r).trans HCS.out; clear hb3; try go_simp)
         | (refine zaq eI rfl (.tmp 37) (.tmp 43) rfl wx.heap.size _ _ rfl (VO.allocd (U2.out.below HB3.out zn) _) _ [.int .i64 (s:Int)] rfl (VS.one (by first | exact Row.new _ _ _ | exact Row.lit rfl | exact Row.litd rfl)) (by intro u hu; simp at hu; subst hu; rfl) (by rw [zad,zaf]; simp only [List.length_cons,List.length_nil]; omega) (by simp only [World.size_alloc]; have:=HB3.out.size; have:=HX.out.tn.1; omega) ?_; intro v4 w4 ho4 hg4 _; obtain ⟨A4,c4,rfl⟩:=VO.formN (n:=x + 1) ho4 (by rw [List.length_append,zad,zaf]; rfl); rw [HS.out] at ho4; have HX4:=zh (HX.out.step (by rw [HG.out]; exact zn) HLEN.out hrt (U1.out.below HB3.out zn) (U2.out.below HB3.out zn) HB3.out ho4 hg4); have R4:=zh ((Row.alloc (R3.out.below HB3.out hgW) _).far_own (by decide) (VO.allocd (U2.out.below HB3.out zn) _).2 hg4); have c4':=(R4.out.cell r).trans HCS.out; have f4':=R4.out.free r; clear ho4 hg4))
       | fail
       all_goals
        have HX2:=zh HX4.out
        clear HX U1 U2 c0 f0 hgW R3 HCB HS
        go_wp2
        go_roundg (L - (x + 1))
        case rel => exact ⟨x + 1,by omega,rfl,by go_num,HX2.out⟩
        case measure => omega
      ·have hxe:x = L:=by omega
       have hX:=HX.out
       rw [hxe] at hX
       have HX2:=zh hX
       clear hX hxe
       obtain ⟨u,hu1,hu2⟩:=HX2.out.row
       obtain ⟨g3,cap3,cs3,he3,hg3,hrow3,_⟩:=VO.row HVO.out (by rw [HLEN.out]; omega)
       simp only [Value.slice.injEq,Option.some.injEq,Addr.mk.injEq,and_true,true_and] at he3
       obtain ⟨rfl,-⟩:=he3
       have HAT2:=zh (HAT.out.next HX2.out.tn (hrow3.notT (by decide)) hrt (hu2.mono HX2.out.le))
       have HU1:=zh hu1
       clear hu1 hu2 hrow3 hg3
       go_wp2
       go_roundg (n - (r + 1))
       case rel => exact ⟨r + 1,_,by omega,rfl,by go_num,HX2.out.bl,HU1.out,HAT2.out⟩
       case measure => omega
    ·have hre:r = n:=by omega
     have hA:=HAT.out
     rw [hre] at hA
     have HO2:Hid (O2 wx wl.heap.size (.slice (some ⟨g,0,none⟩) n n) (rows2 L nx l n)):=⟨vs,HVO.out,hA.full⟩
     have ON2:=zh (ON.out.below HBL.out zn); have OF2:=zh (OF.out.below HBL.out zn)
     have R02:=zh (R0.out.below HBL.out R0.out.lt); have R12:=zh (R1.out.below HBL.out R1.out.lt)
     have HB2:=zh (HB.out.trans (HBL.out.mono HB.out.size))
     have hbs:=HB.out.size
     clear hA hre HAT HVO HBL
     obtain ⟨vsn,hvn,hvn2⟩:=ON2.out
     obtain ⟨An,cn,rfl⟩:=VO.formN (n:=l) hvn (by rw [hvn2.1,za0])
     obtain ⟨Af,cf,rfl⟩:=VO.formN (n:=l) OF2.out (by simp [bL])
     have VN:=zh hvn; have VN2:=zh hvn2
     have z0:=R12.out.cell; have z1:=R12.out.free
     clear hvn hvn2
     go_wp2_with (at_builtin; refine zac eIII rfl (.tmp 49) (.tmp 51) rfl w.heap.size _ _ rfl (VO.allocd VN.out _) _ [.slice (some ⟨g,0,none⟩) n n] rfl (VS.one (Row.new _ _ _)) (by intro u hu; simp at hu; subst hu; rfl) (by rw [VN2.out.1,za0]; simp; omega) (by simp only [World.size_alloc]; have:=HB2.out.size; omega) ?_; intro v4 w4 ho4 hg4 _; obtain ⟨A4,c4,rfl⟩:=VO.formN (n:=l + 1) ho4 (by rw [List.length_append,VN2.out.1,za0]; rfl); have HO4:=zh ho4; have V24:=zh (V2.far (V2.below VN2.out (B':=wx.heap.size) (by go_grown) zn) (by decide) (by decide) (VO.allocd VN.out _) hg4); have O24:=zh (O2.far (O2.below HO2.out (B':=wx.heap.size) (by go_grown) zn) (by decide) (by decide) (VO.allocd VN.out _) hg4); have F4:=zh (OB.far (OB.below OF2.out (B':=wx.heap.size) (by go_grown) zn) (by decide) (VO.allocd VN.out _) hg4); have R04:=zh ((R02.out.alloc _).far_own (by decide) (VO.allocd VN.out _).2 hg4); have R14:=zh ((R12.out.alloc _).far_own (by decide) (VO.allocd VN.out _).2 hg4); have HB4:=zh (zat (w:=w) (by have h1:=HB2.out; have h2:=h1.size; go_grown) (VO.allocd VN.out _) hg4 (by simp only [World.size_alloc]; have:=HB2.out.size; omega)); clear z0 z1 ho4 hg4; have z0:=R14.out.cell; have z1:=R14.out.free)
     have O34:Hid (O3 w4 w.heap.size (.slice A4 (l + 1) c4) (rows3 n L nx (l + 1))):=by
      unfold Hid; rw [zfa]; exact ⟨_,HO4.out,V24.out.snoc (O24.out.mono hbs)⟩
     refine zaa (fun W => Below w.heap.size w W /\ Row W w.heap.size 30 #[.int .i64 0,.int .i64 0,.slice none 0 0,.slice none 0 0] /\ Row W (w.heap.size + 1) 30 #[.int .i64 (V:Int),.int .i64 0,.slice A4 (l + 1) c4,.slice Af l cf] /\
      O3 W w.heap.size (.slice A4 (l + 1) c4) (rows3 n L nx (l + 1)) /\ OB W w.heap.size (.slice Af l cf) ((List.range l).map fin))
      ⟨HB4.out.setCell (p:=⟨w.heap.size + 1,2,none⟩) (by simp) _,R04.out.far (by simp) _,R14.out.set 2 _,O34.out.setRow R14.out (by decide) (by decide) (by decide) 2 _,F4.out.setRow R14.out (by decide) 2 _⟩ ?_
     clear HO4 V24 O24 F4 R04 R14 HB4 O34 z0 z1 R0 R1 R02 R12 HB2 HB ON OF ON2 OF2 VN VN2 HO2 HG hmk
     rintro W ⟨hb,hr0,hr1,hon,hof⟩
     have HB:=zh hb; have R0:=zh hr0; have R1:=zh hr1; have ON:=zh hon; have OF:=zh hof
     have z0:=hr1.cell; have z1:=hr1.free
     have hz:=hr1.lt
     have HCB:=zh (fun W' (h:Below W.heap.size W W') => HC2.out l W' hlt (HB.out.trans (h.mono HB.out.size)))
     obtain ⟨s,hs⟩:=zx (fin l)
     rw [<- hs] at HCB
     have HS:=zh hs
     clear hb hr0 hr1 hon hof hs
     first
     | go_region_law (first
      | (go_simp; go_at_call 41; refine (HCB.out _ (by go_grown)).mono ?_; rintro e w3 ⟨rfl,hb3⟩; have HB3:Hid (Below W.heap.size W w3):=(show Below W.heap.size W w3 from ⟨hb3.os,hb3.tape,hb3.output,hb3.size,hb3.block⟩); have hz3:w.heap.size + 1 < w3.heap.size:=Nat.lt_of_lt_of_le hz HB3.out.size; have y0:=(R1.out.below HB3.out hz).cell; have y1:=fun X => ((R1.out.below HB3.out hz).alloc X).cell; clear hb3; try go_simp)
      | (refine zaq eB rfl (.tmp 55) (.tmp 59) rfl w.heap.size _ _ rfl (VO.allocd (OF.out.below HB3.out zn) _) _ [.bool s] rfl (VS.one (by first | exact Row.new _ _ _ | exact Row.lit rfl | exact Row.litd rfl)) (by intro u hu; simp at hu; subst hu; rfl) (by rw [zb1]; simp; omega) (by simp only [World.size_alloc]; have:=HB3.out.size; have:=HB.out.size; omega) ?_; intro v4 w4 ho4 hg4 _; obtain ⟨A5,c5,rfl⟩:=VO.formN (n:=l + 1) ho4 (by rw [List.length_append,zb1]; simp); have HO4:=zh ho4; have R04:=zh ((Row.alloc (R0.out.below HB3.out R0.out.lt) _).far_own (by decide) (VO.allocd (OF.out.below HB3.out zn) _).2 hg4); have R14:=zh ((Row.alloc (R1.out.below HB3.out hz) _).far_own (by decide) (VO.allocd (OF.out.below HB3.out zn) _).2 hg4); have ON4:=zh (O3.far (O3.below (ON.out.below HB3.out zn) (B':=w3.heap.size) (by go_grown) zn) (by decide) (by decide) (by decide) (VO.allocd (OF.out.below HB3.out zn) _) hg4); have HB4:=zh (zat (w:=w) (by have h1:=HB.out.trans (HB3.out.mono HB.out.size); have h2:=h1.size; go_grown) (VO.allocd (OF.out.below HB3.out zn) _) hg4 (by simp only [World.size_alloc]; have:=HB3.out.size; have:=HB.out.size; omega)); have z04:=R14.out.cell; have z14:=R14.out.free; clear ho4 hg4))
     | fail
     all_goals
      have OF4:Hid (OB w4 w.heap.size (.slice A5 (l + 1) c5) ((List.range (l + 1)).map fin)):=by
       have h:=HO4.out
       unfold Hid OB
       rw [List.range_succ,List.map_append,List.map_cons,List.map_nil,<- HS.out]
       unfold bL at h ⊢
       rw [List.map_append]
       exact h
      go_wp2
      go_roundg (n - (l + 1))
      case rel => exact ⟨l + 1,_,_,by omega,rfl,by go_num,HB4.out.setCell (p:=⟨w.heap.size + 1,3,none⟩) (by simp) _,R04.out.far (by simp) _,R14.out.set 3 _,ON4.out.setRow R14.out (by decide) (by decide) (by decide) 3 _,OF4.out.setRow R14.out (by decide) 3 _⟩
      case measure => omega
  ·have hln:l = n:=by omega
   have hT:Hid (TDO wl w.heap.size (.agg #[.int .i64 (V:Int),.int .i64 0,vn,vf]) ⟨V,0,nx3 n L nx,(List.range n).map fin⟩):=by
    have h1:=ON.out; have h2:=OF.out
    rw [hln] at h1 h2
    exact ⟨vn,vf,rfl,h1,h2⟩
   obtain ⟨vsn,hvn,hvn2⟩:=ON.out
   obtain ⟨An,cn,rfl⟩:=VO.formN (n:=l) hvn (by rw [hvn2.1,za0])
   obtain ⟨Af,cf,rfl⟩:=VO.formN (n:=l) OF.out (by simp [bL])
   clear hln ON OF hvn hvn2
   have a0:=R1.out.cell; have a3:=R1.out.lt
   have b0:=R0.out.cell; have b1:=R0.out.free; have b3:=R0.out.lt
   have q0:=b0 0; have q1:=b0 1; have q2:=b0 2; have q3:=b0 3
   have p0:=a0 0; have p1:=a0 1; have p2:=a0 2; have p3:=a0 3
   simp only [zg] at q0 q1 q2 q3 p0 p1 p2 p3
   clear a0 b0
   go_wp2
   refine zah (fun W => Row W w.heap.size 30 #[.int .i64 (V:Int),.int .i64 0,(.slice An l cn),(.slice Af l cf)] /\ TDO W w.heap.size (.agg #[.int .i64 (V:Int),.int .i64 0,.slice An l cn,.slice Af l cf]) ⟨V,0,nx3 n L nx,(List.range n).map fin⟩ /\ Below w.heap.size w W) (zaz R0.out hT.out HB.out zn) ?_
   clear q0 q1 q2 q3 p0 p1 p2 p3 a3 b1 b3 R0 R1 hT HB
   rintro W ⟨r0,hT,hb⟩
   have b0:=r0.cell
   have q0:=b0 0; have q1:=b0 1; have q2:=b0 2; have q3:=b0 3
   simp only [zg] at q0 q1 q2 q3
   have HT:=zh hT; have HB:=zh hb
   clear b0 r0 hT hb
   exact bodyPost_ret (v:=.agg #[.int .i64 (V:Int),.int .i64 0,.slice An l cn,.slice Af l cf]) (by simp [results,Tryz.results39,go_sem,q0,q1,q2,q3]) rfl ⟨_,rfl,HB.out,HT.out⟩
end Go.Proofs.YthdabkmkgkkmcaaGreatDoor
