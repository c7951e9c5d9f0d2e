/- Part 3 of the proof; it says: lemmas and contracts. No conditions but those that each theorem states. -/
import Derived.Deep.RegionLaw
import Derived.Test.YthdabkmkgkkmcaaGreatDoorPb04
import Derived.Test.YthdabkmkgkkmcaaGreatDoorPb01
import Derived.Test.YthdabkmkgkkmcaaGreatDoorPb03
import Derived.Test.YthdabkmkgkkmcaaGreatDoorPb02
import Derived.Test.YthdabkmkgkkmcaaGreatDoorPi01
set_option linter.unusedSimpArgs false
set_option linter.unusedVariables false
set_option maxRecDepth 100000
set_option maxHeartbeats 32000000
namespace Go.Proofs.YthdabkmkgkkmcaaGreatDoor
open Go.RowKit
def zc1 (l:List Int):List Value:=l.map (Value.int .i64)
def OWI (w:World) (B:Nat) (v:Value) (l:List Int):Prop:=w.ownsRow B 3 1 v l.length (zc1 l)
theorem OWI.nil (w:World) (B:Nat):OWI w B (.slice none 0 0) []:=World.ownsRow_nil _ _ _ _
theorem OWI.is {w:World} {B:Nat} {v:Value} {l:List Int} (h:OWI w B v l):IS w v l:=by
 have hx:=h
 rcases h.2 with ⟨hv,hn⟩ | ⟨g,cap,cur,hv,hB,hg,hnc,hcm,hcs,ht⟩
 ·exact ⟨none,0,by rw [hv,hn],by omega,by omega,by omega⟩
 ·refine ⟨some ⟨g,0,none⟩,cap,hv,hnc,by simpa [maxLen] using hcm,fun _ => ⟨g,0,rfl,lt_of_block hg,fun i x hi => ?_⟩⟩
  have hi':i < l.length:=(List.getElem?_eq_some_iff.1 hi).1
  unfold OWI at hx
  rw [hv] at hx
  rw [Nat.zero_add,hx.cellAt _ (by omega)]
  simp [zc1,hi]
theorem OWI.below {w w':World} {B B':Nat} {v:Value} {l:List Int} (h:OWI w B v l) (hb:Below B' w w') (hB:w.heap.size <= B'):OWI w' B v l:=by
 obtain ⟨h1,h⟩:=h
 refine ⟨h1,?_⟩
 rcases h with h | ⟨g,cap,cur,hv,hBg,hg,r⟩
 ·exact .inl h
 ·exact .inr ⟨g,cap,cur,hv,hBg,(hb.block g (Nat.lt_of_lt_of_le (lt_of_block hg) hB)).trans hg,r⟩
theorem OWI.mono {w:World} {B B':Nat} {v:Value} {l:List Int} (h:OWI w B v l) (hB:B' <= B):OWI w B' v l:=by
 obtain ⟨h1,h⟩:=h
 refine ⟨h1,?_⟩
 rcases h with h | ⟨g,cap,cur,hv,hBg,hg,r⟩
 ·exact .inl h
 ·exact .inr ⟨g,cap,cur,hv,by omega,hg,r⟩
theorem OWI.made {w:World} {n:Nat} (c:Array Value) (hc:c.size = n) (hn:n <= 1000000):OWI (w.alloc (.cells c 3)) w.heap.size (.slice (some ⟨w.heap.size,0,none⟩) 0 n) [] :=
 World.ownsRow_made w c n zn (by simp only [maxLen]; omega) (by omega)
theorem zsj (w:World) (B:Nat) (v:Value) (f:List Int) (hown:OWI w B v f) (x:Value) (g:List Int) (hx:IS w x g) (ty:TypeId) (hl:f.length + g.length <= 1000000) (hB:B <= w.heap.size) :
  ∃ v' w',(Builtin.append_ #[36,36] ty #[v,x]).run Tryz.prog w = .ok v' w' /\ OWI w' B v' (f ++ g) /\ w.grownBy w' v.ownBlock /\ (v'.ownBlock = v.ownBlock \/ v'.ownBlock = some w.heap.size):=by
 obtain ⟨i,hi,hz,h1,h2⟩:=info_parts zrl
 obtain ⟨A,c,rfl,hc,hc2,hcell⟩:=hx
 have hlen:(f ++ g).length = f.length + g.length:=by simp
 have h1c:∀ u ∈ zc1 g,u.oneCell' = true:=by
  intro u hu
  simp only [zc1,List.mem_map] at hu
  obtain ⟨_,_,rfl⟩:=hu
  rfl
 by_cases hn:0 < g.length
 ·obtain ⟨b,o,rfl,hb,hm⟩:=hcell hn
  have hnews:∀ j u,(zc1 g)[j]? = some u -> w.cell? ((⟨b,o,none⟩:Addr).add j) = some u:=by
   intro j u hu
   simp only [zc1,List.getElem?_map,Option.map_eq_some_iff] at hu
   obtain ⟨x,hx,rfl⟩:=hu
   have hadd:(⟨b,o,none⟩:Addr).add j = ⟨b,o + j,none⟩:=by
    unfold Addr.add
    by_cases hj0:j = 0
    ·subst hj0; simp
    ·rw [if_neg hj0]
   rw [hadd]; exact hm j x hx
  obtain ⟨v',w',hrun,h3,h4,_,h6⟩:=run_append_own_at (P:=Tryz.prog) w B 36 ty 3 i _ 1 8 Tryz.underlying36 hi hz h1 h2 rfl (by omega) v f.length (zc1 f) hown
   ⟨b,o,none⟩ g.length c (zc1 g) (by simp [zc1]) hnews h1c (by simp only [maxLen]; omega) (by omega) hB
  exact ⟨v',w',hrun,by unfold OWI; rw [hlen,show zc1 (f ++ g) = zc1 f ++ zc1 g by simp [zc1]]; exact h3,h4,h6⟩
 ·have hg0:g = []:=List.eq_nil_of_length_eq_zero (by omega)
  subst hg0
  simp only [List.append_nil]
  cases A with
  | none => exact ⟨v,w,zct w B _ ty _ i 1 Tryz.underlying36 hi v _ _ hown c,hown,World.grownBy.refl w _,.inl rfl⟩
  | some ad =>
   obtain ⟨v',w',hrun,h3,h4,_,h6⟩:=run_append_own_at (P:=Tryz.prog) w B 36 ty 3 i _ 1 8 Tryz.underlying36 hi hz h1 h2 rfl (by omega) v f.length (zc1 f) hown
    ad 0 c [] (by simp) (by simp) (by simp) (by simp only [maxLen]; omega) (by omega) hB
   exact ⟨v',w',hrun,by unfold OWI; simpa using h3,h4,h6⟩
theorem zsc {o:Oper} {a:Act} {w:World} {K:Act -> World -> Prop} {Q:Exit -> Act -> World -> Prop} (s x:Operand)
  (ho:o.op = .call { callee:=.builtin .append,args:=#[s,x],argTypes:=#[36,36] })
  (B:Nat) (v:Value) (f:List Int) (hs:a.eval s = v) (hown:OWI w B v f) (y:Value) (g:List Int) (hx:a.eval x = y) (hy:IS w y g) (hl:f.length + g.length <= 1000000) (hB:B <= w.heap.size)
  (h:∀ v' w',OWI w' B v' (f ++ g) -> w.grownBy w' v.ownBlock -> (v'.ownBlock = v.ownBlock \/ v'.ownBlock = some w.heap.size) -> K (a.put o.dst v') w'):o.wp Tryz.prog a w K Q:=by
 obtain ⟨v',w',hrun,h2,h3,h4⟩:=zsj w B v f hown y g hy o.type hl hB
 unfold Oper.wp execOp
 simp only [ho,resolve,invoke,builtin,Sem.run_bind,Sem.run_pure,Result.andThen_ok,List.map_toArray,List.map_cons,List.map_nil,hs,hx,hrun]
 exact h v' w' h2 h3 h4
theorem zsd {ops:Array Oper} {rest:List Oper} {o:Oper} {a:Act} {w:World} {Q:Exit -> Act -> World -> Prop} (hgd:o.guard = none) (s x:Operand)
  (ho:o.op = .call { callee:=.builtin .append,args:=#[s,x],argTypes:=#[36,36] })
  (B:Nat) (v:Value) (f:List Int) (hs:a.eval s = v) (hown:OWI w B v f) (y:Value) (g:List Int) (hx:a.eval x = y) (hy:IS w y g) (hl:f.length + g.length <= 1000000) (hB:B <= w.heap.size)
  (h:∀ v' w',OWI w' B v' (f ++ g) -> w.grownBy w' v.ownBlock -> (v'.ownBlock = v.ownBlock \/ v'.ownBlock = some w.heap.size) -> wpList Tryz.prog ops Q rest (a.put o.dst v') w'):wpList Tryz.prog ops Q (o :: rest) a w :=
 wpList_plain hgd fun _ hK => zsc s x ho B v f hs hown y g hx hy hl hB fun v' w' h2 h3 h4 => hK _ _ (h v' w' h2 h3 h4)
theorem zsh {ops:Array Oper} {o:Oper} {a:Act} {w:World} {K:Act -> World -> Prop} {Q:Exit -> Act -> World -> Prop} {E:Prop} (hgd:o.guard = none) (s x:Operand)
  (ho:o.op = .call { callee:=.builtin .append,args:=#[s,x],argTypes:=#[36,36] })
  (B:Nat) (v:Value) (f:List Int) (hs:a.eval s = v) (hown:OWI w B v f) (y:Value) (g:List Int) (hx:a.eval x = y) (hy:IS w y g) (hl:f.length + g.length <= 1000000) (hB:B <= w.heap.size)
  (h:∀ v' w',OWI w' B v' (f ++ g) -> w.grownBy w' v.ownBlock -> (v'.ownBlock = v.ownBlock \/ v'.ownBlock = some w.heap.size) -> K (a.put o.dst v') w') :
  if Region.wanted o (yielded ops a.tmps) = true then Oper.wp Tryz.prog o a w K Q else E:=by
 have hw:Region.wanted o (yielded ops a.tmps) = true:=by simp [Region.wanted,hgd]
 rw [if_pos hw]
 exact zsc s x ho B v f hs hown y g hx hy hl hB h
theorem zsq {w w1 w2:World} {B:Nat} {v:Value} {f:List Int} (hb:Below B w w1) (ho:OWI w1 B v f) (hg:w1.grownBy w2 v.ownBlock) (hB:B <= w1.heap.size):Below B w w2 :=
 hb.grown hg hB fun k hk => (World.ownsRow.lt ho k hk).1
theorem IS.lit {w:World} {g:Nat} {l:List Int} (n c:Nat) (cs:Array Value) (h:Row w g 3 cs) (hn:n = l.length) (hc:n <= c) (hc2:c <= 9223372036854775807) (hcs:∀ (i:Nat) (x:Int),l[i]? = some x -> cs[i]? = some (Value.int .i64 x)):IS w (.slice (some ⟨g,0,none⟩) n c) l:=by
 subst hn
 exact ⟨some ⟨g,0,none⟩,c,rfl,hc,hc2,fun _ => ⟨g,0,rfl,h.lt,fun i x hi => by rw [h.cell,Nat.zero_add]; exact hcs i x hi⟩⟩
theorem zss {B g n c:Nat} (h:B <= g):∀ b,(Value.slice (some ⟨g,0,none⟩) n c).ownBlock = some b -> B <= b:=by
 intro b hb
 simp only [Value.ownBlock,Option.some.injEq] at hb
 omega
def RetIO (w:World) (l:List Int) (e:Ending) (w':World):Prop:=∃ v,e = .returned v /\ Below w.heap.size w w' /\ OWI w' w.heap.size v l
def RetIS (w:World) (l:List Int) (e:Ending) (w':World):Prop:=∃ v,e = .returned v /\ Below w.heap.size w w' /\ (∀ b,v.ownBlock = some b -> w.heap.size <= b) /\ IS w' v l
theorem zs1 (f:List Int) (v:Value) (w:World) (hv:IS w v f) (hl:f.length <= 1000000):Calls Tryz.prog 90 #[v] w (RetIO w f):=by
 have hnil:=fun (W:World) (A:Option Addr) (n c:Nat) => Lib.run_eql_slice_nil (P:=Tryz.prog) W 36 3 A n c 0 0 Tryz.underlying36
 have HV:=zh hv
 obtain ⟨A,c,rfl,hc,hc2,hcell⟩:=hv
 cases A with
 | none =>
  have hf:f = []:=by
   cases f with
   | nil => rfl
   | cons m f => obtain ⟨_,_,h,_⟩:=hcell (by simp); cases h
  subst hf
  clear hcell
  go_enter Tryz.func90,Tryz.ntmps90
  go_wp2
  go_returns
  exact ⟨_,rfl,Below.refl _ _,OWI.nil _ _⟩
 | some ad =>
  clear hcell
  go_enter Tryz.func90,Tryz.ntmps90
  go_wp2_with (at_builtin; go_must (refine zsd rfl (.tmp 5) (.tmp 6) rfl w.heap.size _ [] rfl (OWI.made (n:=0) #[] rfl (by omega)) _ f rfl (HV.out.below (Below.alloc (Below.refl _ _) zn _) zn) (by simpa using hl) (by simp) ?_; intro v1 w1 ho1 hg1 _))
  go_returns
  exact ⟨v1,rfl,zsq (Below.alloc (Below.refl _ _) zn _) (OWI.made (n:=0) #[] rfl (by omega)) hg1 (by simp),ho1⟩
def zlt (l:List Int) (x:Int) (k:Nat):Int:=match l with
 | [] => -1
 | y :: l => if x = y then k else zlt l x (k + 1)
theorem zse (l:List Int) (x:Int) (k:Nat):0 <= zlt l x k ↔ l.contains x = true:=by
 induction l generalizing k with
 | nil => simp [zlt]
 | cons y l ih =>
  simp only [zlt,List.contains_cons]
  by_cases h:x = y
  ·rw [if_pos h]; simp [h]
  ·rw [if_neg h,ih]; simp [h]
theorem zsz (f:List Int) (v:Value) (x:Int) (w:World) (hv:IS w v f):Calls Tryz.prog 91 #[v,.int .i64 x] w fun e w' => e = .returned (.int .i64 (zlt f x 0)) /\ w = w':=by
 obtain ⟨A,c,rfl,hc,hc2,hcell⟩:=hv
 obtain ⟨n,hn⟩:=zx f.length
 rw [<- hn] at hc hcell ⊢
 have H1:=zh hn; clear hn
 have H2:=zh hcell; clear hcell
 obtain ⟨R,hR⟩:=zx (zlt f x 0)
 rw [<- hR]
 have HR:=zh hR; clear hR
 go_enter Tryz.func91,Tryz.ntmps91
 go_wp2
 go_loopg [8] n (fun gk v wr => ∃ k:Nat,k <= n /\ gk = n - k /\ v = .int .i64 k /\ w = wr /\ zlt (f.drop k) x k = R)
 case atStart => exact ⟨0,Nat.zero_le _,rfl,rfl,rfl,by rw [HR.out,List.drop_zero]⟩
 case round =>
  obtain ⟨k,hk,rfl,rfl,rfl,hR⟩:=hrel
  by_cases hlt:k < n
  ·obtain ⟨y,hy⟩:∃ y,f[k]? = some y:=⟨f[k]'(by rw [<- H1.out]; exact hlt),List.getElem?_eq_getElem _⟩
   obtain ⟨b,o,rfl,hb,hcell⟩:=H2.out (by omega)
   have c0:=hcell k y hy
   clear hcell
   have hd:f.drop k = y :: f.drop (k + 1):=by
    have hk':k < f.length:=(List.getElem?_eq_some_iff.1 hy).1
    rw [List.drop_eq_getElem_cons hk',(List.getElem?_eq_some_iff.1 hy).2]
   rw [hd,zlt] at hR
   have HRR:=zh hR; clear hR hd hy
   by_cases he:x = y
   ·have he':(x == y) = true:=by simp [he]
    have HE:=zh he; clear he
    go_wp2
    go_returns
    exact ⟨zao (by rw [<- HRR.out,if_pos HE.out]),rfl⟩
   ·have he':(x == y) = false:=by simp [he]
    have HE:=zh he; clear he
    go_wp2
    go_roundg (n - (k + 1))
    case rel => exact ⟨k + 1,by omega,rfl,by go_num,rfl,by rw [<- HRR.out,if_neg HE.out]⟩
    case measure => omega
  ·have hkn:k = n:=by omega
   have hR0:R = -1:=by rw [<- hR,hkn,H1.out,List.drop_length,zlt]
   clear hR
   have HR0:=zh hR0; clear hR0
   have HK:=zh hkn; clear hkn
   go_wp2
   go_returns
   exact ⟨zao HR0.out.symm,rfl⟩
theorem zsb (f:List Int) (v:Value) (x:Int) (w:World) (hv:IS w v f):Calls Tryz.prog 50 #[v,.int .i64 x] w fun e w' => e = .returned (.bool (f.contains x)) /\ w = w':=by
 go_enter Tryz.func50,Tryz.ntmps50
 go_wp2_with (go_at_call 91; go_must (refine (zsz f _ x _ hv).mono ?_; rintro e w1 ⟨rfl,rfl⟩))
 go_returns
 refine ⟨zdc ?_,rfl⟩
 rw [<- zse f x 0]
 simp
theorem zsy (m:Mk) (w:World) (h0:0 <= m.op) (h1:m.op <= 255):Calls Tryz.prog 49 #[.agg #[.int .u8 m.op,.int .i64 m.x,.int .i64 m.y,.int .i64 m.a,.int .i64 m.b]] w (RetIS w (occ m)):=by
 have hfd:=zjp
 obtain ⟨k,hk,hk2⟩:∃ k:Nat,nv m.op = k /\ k <= 2:=by rcases zip m.op with h | h | h <;> exact ⟨(nv m.op).toNat,by omega,by omega⟩
 have hocc:occ m = [m.x,m.y].take k:=by rw [occ,hk]; rfl
 rw [hocc]
 have HO:=zh hocc; clear hocc
 go_enter Tryz.func49,Tryz.ntmps49
 go_wp2
 have hk3:(k:Int) <= 2:=by omega
 go_region_law (go_simp; go_at_call 88; refine (zaj _ _ h0 h1).mono ?_; rintro e w2 ⟨rfl,hb2⟩; rw [hk]; have y0:∀ j,w2.cell? ⟨w.heap.size,j,none⟩ = #[Value.int .u8 m.op,.int .i64 m.x,.int .i64 m.y,.int .i64 m.a,.int .i64 m.b][j]?:=(Row.below (by first | exact (Row.new _ _ _).drew | exact ((Row.new _ _ _).alloc _).drew) hb2 (by simp only [World.size_alloc,World.size_setCell,World.size_drew]; omega)).cell; have hbw:Hid (Below w.heap.size w w2):=(Below.trans (by go_grown) (hb2.mono (by simp only [World.size_alloc,World.size_setCell,World.size_drew]; omega))); try go_simp)
 all_goals
  go_wp2
  go_returns
  refine ⟨_,rfl,by have hh:=hbw.out; have hh2:=hh.size; go_grown,zss (by have hh:=hbw.out.size; first | exact hh | omega),IS.lit k 2 _ (by first | exact Row.new _ _ _ | exact (Row.litd (by simp)).below hb2 (by simp only [World.size_alloc,World.size_setCell,World.size_drew]; omega)) (by simp; omega) hk2 (by omega) ?_⟩
  intro i x hi
  rw [List.getElem?_take] at hi
  by_cases hik:i < k
  ·rw [if_pos hik] at hi
   have:i = 0 \/ i = 1:=by omega
   rcases this with rfl | rfl <;> simp at hi ⊢ <;> exact hi
  ·rw [if_neg hik] at hi; cases hi
def Away (S:Nat -> Prop) (v:Value):Prop:=∀ b,v.ownBlock = some b -> ¬ S b
theorem Keep.cell {S:Nat -> Prop} {a b:World} (h:Keep S a b) {g:Nat} (hg:g < a.heap.size) (hs:¬ S g) (o:Nat):b.cell? ⟨g,o,none⟩ = a.cell? ⟨g,o,none⟩ :=
 World.cell?_of_block (a:=⟨g,o,none⟩) (h.block g hg hs)
theorem MS.keep {S:Nat -> Prop} {w w':World} {v:Value} {f:List Mk} (h:MS w v f) (ha:Away S v) (hk:Keep S w w'):MS w' v f:=by
 obtain ⟨h0,A,c,hv,h1,h2,h3⟩:=h
 refine ⟨h0,A,c,hv,h1,h2,fun hp => ?_⟩
 obtain ⟨b,o,hA,hlt,hm⟩:=h3 hp
 have hs:¬ S b:=ha b (by rw [hv,hA]; rfl)
 exact ⟨b,o,hA,Nat.lt_of_lt_of_le hlt hk.size,fun i m him => (hm i m him).keep fun q => hk.cell hlt hs q⟩
theorem IS.keep {S:Nat -> Prop} {w w':World} {v:Value} {f:List Int} (h:IS w v f) (ha:Away S v) (hk:Keep S w w'):IS w' v f:=by
 obtain ⟨A,c,hv,h1,h2,h3⟩:=h
 refine ⟨A,c,hv,h1,h2,fun hp => ?_⟩
 obtain ⟨b,o,hA,hlt,hm⟩:=h3 hp
 have hs:¬ S b:=ha b (by rw [hv,hA]; rfl)
 exact ⟨b,o,hA,Nat.lt_of_lt_of_le hlt hk.size,fun i x him => (hk.cell hlt hs _).trans (hm i x him)⟩
def trav {σ:Type} (step:Nat -> List Int -> σ -> σ):Nat -> List Int -> Tr -> σ -> σ
 | p,ab,.leaf _ _ _,s => step p ab s
 | p,ab,.un op x a,s => trav step p (if isQ op then ab ++ [x] else ab) a s
 | p,ab,.bin _ a b,s => trav step (p + a.size) ab b (trav step p ab a s)
end Go.Proofs.YthdabkmkgkkmcaaGreatDoor
