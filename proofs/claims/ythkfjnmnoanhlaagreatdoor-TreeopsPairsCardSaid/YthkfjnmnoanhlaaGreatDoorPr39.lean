/- Part 39 of the proof; it says: lemmas and contracts. No conditions but those that each theorem states. -/
import Derived.Test.YthkfjnmnoanhlaaGreatDoorPr01
import Derived.Test.YthkfjnmnoanhlaaGreatDoorPr08
import Derived.Test.YthkfjnmnoanhlaaGreatDoorPr09
import Derived.Test.YthkfjnmnoanhlaaGreatDoorPr17
set_option linter.unusedSimpArgs false
set_option linter.unusedVariables false
set_option maxRecDepth 100000
set_option maxHeartbeats 32000000
namespace Go.Proofs.YthkfjnmnoanhlaaGreatDoor
open Go.RowKit
def Bs (n:Nat) (cs:Array Value):Prop:=∀ i,i < n -> ∃ b,cs[i]? = some (.bool b)
structure Wipe (B:Nat) (w w':World):Prop where
 below:Below B w w'
 row:∀ g E cs,Row w g E cs -> ∃ cs':Array Value,Row w' g E cs' /\ cs'.size = cs.size /\ (E ≠ 3 -> E ≠ 4 -> cs' = cs) /\ (E = 4 -> ∀ n,Bs n cs -> Bs n cs')
theorem Wipe.refl (B:Nat) (w:World):Wipe B w w:=⟨Below.refl _ _,fun g E cs h => ⟨cs,h,rfl,fun _ _ => rfl,fun _ n h => h⟩⟩
theorem Wipe.trans {B:Nat} {a b c:World} (h:Wipe B a b) (k:Wipe B b c):Wipe B a c:=by
 refine ⟨h.below.trans k.below,fun g E cs hr => ?_⟩
 obtain ⟨c1,r1,s1,e1,b1⟩:=h.row g E cs hr
 obtain ⟨c2,r2,s2,e2,b2⟩:=k.row g E c1 r1
 exact ⟨c2,r2,s2.trans s1,fun n1 n2 => (e2 n1 n2).trans (e1 n1 n2),fun he n hb => b2 he n (b1 he n hb)⟩
theorem Wipe.set {B g:Nat} {w:World} {E:TypeId} {cs:Array Value} (hr:Row w g E cs) (hE:E = 3 \/ E = 4) (hB:B <= g) (i:Nat) (u:Value) (hu:E = 4 -> ∃ b,u = .bool b):Wipe B w (w.setCell ⟨g,i,none⟩ u):=by
 refine ⟨(Below.refl B w).setCell (p:=⟨g,i,none⟩) hB u,fun k E' cs' h => ?_⟩
 by_cases hk:k = g
 ·subst hk
  have e:(some (Obj.cells cs E (0,0)):Option Obj) = some (.cells cs' E' (0,0)):=hr.symm.trans h
  simp only [Option.some.injEq,Obj.cells.injEq,and_true] at e
  obtain ⟨rfl,rfl⟩:=e
  refine ⟨_,hr.set i u,by simp,fun n1 n2 => by rcases hE with h | h <;> contradiction,fun he n hb j hj => ?_⟩
  obtain ⟨b,hx⟩:=hb j hj
  rw [Array.getElem?_setIfInBounds]
  by_cases hij:i = j
  ·subst hij
   rw [if_pos rfl]
   obtain ⟨b',rfl⟩:=hu he
   have:=(Array.getElem?_eq_some_iff.1 hx).1
   exact ⟨b',by rw [if_pos this]⟩
  ·rw [if_neg hij]; exact ⟨b,hx⟩
 ·exact ⟨cs',h.far hk u,rfl,fun _ _ => rfl,fun _ n hb => hb⟩
theorem Wipe.alloc {B:Nat} {w:World} (hB:B <= w.heap.size) (X:Obj):Wipe B w (w.alloc X):=⟨Below.alloc (Below.refl B w) hB X,fun g E cs h => ⟨cs,h.alloc X,rfl,fun _ _ => rfl,fun _ n h => h⟩⟩
def WI (w:World) (B:Nat) (v:Value):Prop:=∃ A n c,v = .slice A n c /\ n <= 9223372036854775807 /\ (0 < n -> ∃ g cs,A = some ⟨g,0,none⟩ /\ B <= g /\ Row w g 3 cs /\ n <= cs.size)
def WB (w:World) (B:Nat) (v:Value):Prop:=∃ A n c,v = .slice A n c /\ n <= 9223372036854775807 /\ (0 < n -> ∃ g cs,A = some ⟨g,0,none⟩ /\ B <= g /\ Row w g 4 cs /\ n <= cs.size /\ Bs n cs)
def WR (w:World) (B:Nat) (v:Value):Prop:=∃ A n c,v = .slice A n c /\ n <= 9223372036854775807 /\ (0 < n -> ∃ g cs,A = some ⟨g,0,none⟩ /\ Row w g 53 cs /\ n <= cs.size /\ ∀ i,i < n -> ∃ u,cs[i]? = some u /\ WI w B u)
def WK (w:World) (B:Nat) (v:Value):Prop:=∃ A n c,v = .slice A n c /\ n <= 9223372036854775807 /\ (0 < n -> ∃ g cs,A = some ⟨g,0,none⟩ /\ Row w g 54 cs /\ n <= cs.size /\ ∀ i,i < n -> ∃ u,cs[i]? = some u /\ WR w B u)
def WD (w:World) (B:Nat) (v:Value):Prop:=∃ i j vn vf,v = .agg #[.int .i64 i,.int .i64 j,vn,vf] /\ WK w B vn /\ WB w B vf
theorem WI.wipe {w w':World} {B C:Nat} {v:Value} (h:WI w B v) (k:Wipe C w w'):WI w' B v:=by
 obtain ⟨A,n,c,rfl,hn,h⟩:=h
 refine ⟨A,n,c,rfl,hn,fun hp => ?_⟩
 obtain ⟨g,cs,hA,hB,hr,hl⟩:=h hp
 obtain ⟨cs',hr',hs,_,_⟩:=k.row g _ cs hr
 exact ⟨g,cs',hA,hB,hr',by omega⟩
theorem WB.wipe {w w':World} {B C:Nat} {v:Value} (h:WB w B v) (k:Wipe C w w'):WB w' B v:=by
 obtain ⟨A,n,c,rfl,hn,h⟩:=h
 refine ⟨A,n,c,rfl,hn,fun hp => ?_⟩
 obtain ⟨g,cs,hA,hB,hr,hl,hb⟩:=h hp
 obtain ⟨cs',hr',hs,_,hb'⟩:=k.row g _ cs hr
 exact ⟨g,cs',hA,hB,hr',by omega,hb' rfl n hb⟩
theorem WR.wipe {w w':World} {B C:Nat} {v:Value} (h:WR w B v) (k:Wipe C w w'):WR w' B v:=by
 obtain ⟨A,n,c,rfl,hn,h⟩:=h
 refine ⟨A,n,c,rfl,hn,fun hp => ?_⟩
 obtain ⟨g,cs,hA,hr,hl,hu⟩:=h hp
 obtain ⟨cs',hr',hs,he,_⟩:=k.row g _ cs hr
 obtain rfl:=he (by decide) (by decide)
 exact ⟨g,_,hA,hr',hl,fun i hi => by obtain ⟨u,h1,h2⟩:=hu i hi; exact ⟨u,h1,h2.wipe k⟩⟩
theorem WK.wipe {w w':World} {B C:Nat} {v:Value} (h:WK w B v) (k:Wipe C w w'):WK w' B v:=by
 obtain ⟨A,n,c,rfl,hn,h⟩:=h
 refine ⟨A,n,c,rfl,hn,fun hp => ?_⟩
 obtain ⟨g,cs,hA,hr,hl,hu⟩:=h hp
 obtain ⟨cs',hr',hs,he,_⟩:=k.row g _ cs hr
 obtain rfl:=he (by decide) (by decide)
 exact ⟨g,_,hA,hr',hl,fun i hi => by obtain ⟨u,h1,h2⟩:=hu i hi; exact ⟨u,h1,h2.wipe k⟩⟩
theorem WD.wipe {w w':World} {B C:Nat} {v:Value} (h:WD w B v) (k:Wipe C w w'):WD w' B v:=by
 obtain ⟨i,j,vn,vf,rfl,h1,h2⟩:=h
 exact ⟨i,j,vn,vf,rfl,h1.wipe k,h2.wipe k⟩
theorem VO.parts {E:TypeId} {w:World} {B:Nat} {v:Value} {l:List Value} (h:VO E w B v l):∃ A c,v = .slice A l.length c /\ l.length <= 9223372036854775807 /\ (0 < l.length -> ∃ g cs,A = some ⟨g,0,none⟩ /\ B <= g /\ Row w g E cs /\ l.length <= cs.size /\ ∀ i,i < l.length -> cs[i]? = l[i]?):=by
 by_cases hp:0 < l.length
 ·obtain ⟨g,cap,cs,rfl,hB,hr,hc1,hc2,hcell⟩:=h.row hp
  have hsz:l.length <= cs.size:=by
   refine Classical.byContradiction fun hc => ?_
   have h1:=hcell cs.size (l[cs.size]'(by omega)) (List.getElem?_eq_getElem _)
   rw [hr.cell] at h1
   simp at h1
  refine ⟨some ⟨g,0,none⟩,cap,rfl,by omega,fun _ => ⟨g,cs,rfl,hB,hr,hsz,fun i hi => ?_⟩⟩
  have h1:=hcell i (l[i]) (List.getElem?_eq_getElem hi)
  rw [hr.cell] at h1
  rw [h1,List.getElem?_eq_getElem hi]
 ·obtain ⟨A,c,rfl⟩:=h.form
  exact ⟨A,c,rfl,by omega,fun h0 => absurd h0 hp⟩
theorem O1.wi {w:World} {B:Nat} {v:Value} {l:List Int} (h:O1 w B v l):WI w B v:=by
 obtain ⟨A,c,rfl,hn,hp⟩:=VO.parts h
 exact ⟨A,_,c,rfl,hn,fun h0 => by obtain ⟨g,cs,h1,h2,h3,h4,_⟩:=hp h0; exact ⟨g,cs,h1,h2,h3,h4⟩⟩
theorem OB.wb {w:World} {B:Nat} {v:Value} {l:List Bool} (h:OB w B v l):WB w B v:=by
 obtain ⟨A,c,rfl,hn,hp⟩:=VO.parts h
 refine ⟨A,_,c,rfl,hn,fun h0 => by
  obtain ⟨g,cs,h1,h2,h3,h4,h5⟩:=hp h0
  refine ⟨g,cs,h1,h2,h3,h4,fun i hi => ?_⟩
  rw [h5 i hi]
  rw [zat] at hi
  exact ⟨l[i],bL_at (List.getElem?_eq_getElem hi)⟩⟩
theorem O2.wr {w:World} {B:Nat} {v:Value} {l:List (List Int)} (h:O2 w B v l):WR w B v:=by
 obtain ⟨vs,h,h1,h2⟩:=h
 obtain ⟨A,c,rfl,hn,hp⟩:=VO.parts h
 refine ⟨A,_,c,rfl,hn,fun h0 => by
  obtain ⟨g,cs,k1,k2,k3,k4,k5⟩:=hp h0
  refine ⟨g,cs,k1,k3,k4,fun i hi => ?_⟩
  obtain ⟨x,_,hx⟩:=h2 i vs[i] (List.getElem?_eq_getElem hi)
  exact ⟨vs[i],by rw [k5 i hi]; exact List.getElem?_eq_getElem hi,hx.wi⟩⟩
theorem O3.wk {w:World} {B:Nat} {v:Value} {l:List (List (List Int))} (h:O3 w B v l):WK w B v:=by
 obtain ⟨vs,h,h1,h2⟩:=h
 obtain ⟨A,c,rfl,hn,hp⟩:=VO.parts h
 refine ⟨A,_,c,rfl,hn,fun h0 => by
  obtain ⟨g,cs,k1,k2,k3,k4,k5⟩:=hp h0
  refine ⟨g,cs,k1,k3,k4,fun i hi => ?_⟩
  obtain ⟨x,_,hx⟩:=h2 i vs[i] (List.getElem?_eq_getElem hi)
  exact ⟨vs[i],by rw [k5 i hi]; exact List.getElem?_eq_getElem hi,hx.wr⟩⟩
theorem TDO.wd {w:World} {B:Nat} {v:Value} {r:Raw} (h:TDO w B v r):WD w B v:=by
 obtain ⟨vn,vf,rfl,h1,h2⟩:=h
 exact ⟨_,_,_,_,rfl,h1.wk,h2.wb⟩
theorem Row.some {w:World} {g:Nat} {t:TypeId} {cs:Array Value} (h:Row w g t cs) {i:Nat} (hi:i < cs.size):∃ u,w.cell? ⟨g,i,none⟩ = some u:=⟨cs[i],by rw [h.cell,Array.getElem?_eq_getElem hi]⟩
theorem zn5 (v:Value) (B:Nat) (w:World) (hv:WI w B v) :
  Calls Tryz.prog 140 #[v] w fun e w' => e = .returned (.tuple #[]) /\ Wipe B w w':=by
 obtain ⟨A,n,c,rfl,hnm,hv⟩:=hv
 by_cases h0:n = 0
 ·subst h0
  clear hv
  go_enter Tryz.func140,Tryz.ntmps140
  go_wp2
  go_rounds 1
  refine bodyPost_end (results_none rfl _ _ _) rfl ?_
  exact ⟨rfl,Wipe.refl _ _⟩
 ·obtain ⟨g,cs,rfl,hBg,hr,hsz⟩:=hv (by omega)
  have HR0:=zh hr; clear hr
  skip
  go_enter Tryz.func140,Tryz.ntmps140
  go_wp2
  go_loopg [2] n (fun gk q wr => ∃ (k:Nat) (cs':Array Value),k <= n /\ gk = n - k /\ q = .int .i64 k /\ Wipe B w wr /\ Row wr g 3 cs' /\ n <= cs'.size)
  case atStart => exact ⟨0,cs,Nat.zero_le _,rfl,rfl,Wipe.refl _ _,HR0.out,hsz⟩
  case round =>
   obtain ⟨k,cs',hk,rfl,rfl,hb,hr,hs⟩:=hrel
   have HB:=zh hb; clear hb
   by_cases hlt:k < n
   ·obtain ⟨u0,c0⟩:=hr.some (i:=k) (by omega)
    skip
    have fr:=hr.free
    have HR:=zh hr; clear hr
    skip
    go_wp2
    go_roundg (n - (k + 1))
    case rel => exact ⟨k + 1,_,by omega,rfl,by go_num,HB.out.trans (Wipe.set HR.out (.inl rfl) hBg k _ (fun h => absurd h (by decide))),HR.out.set k _,by simpa using hs⟩
    case measure => omega
   ·go_wp2
    refine bodyPost_end (results_none rfl _ _ _) rfl ?_
    exact ⟨rfl,HB.out⟩
theorem zme (v:Value) (B:Nat) (w:World) (hv:WB w B v) :
  Calls Tryz.prog 74 #[v] w fun e w' => e = .returned (.tuple #[]) /\ Wipe B w w':=by
 obtain ⟨A,n,c,rfl,hnm,hv⟩:=hv
 by_cases h0:n = 0
 ·subst h0
  clear hv
  go_enter Tryz.func74,Tryz.ntmps74
  go_wp2
  go_rounds 1
  refine bodyPost_end (results_none rfl _ _ _) rfl ?_
  exact ⟨rfl,Wipe.refl _ _⟩
 ·obtain ⟨g,cs,rfl,hBg,hr,hsz,hbs⟩:=hv (by omega)
  have HR0:=zh hr; clear hr
  have HBS:=zh hbs; clear hbs
  go_enter Tryz.func74,Tryz.ntmps74
  go_wp2
  go_loopg [2] n (fun gk q wr => ∃ (k:Nat) (cs':Array Value),k <= n /\ gk = n - k /\ q = .int .i64 k /\ Wipe B w wr /\ Row wr g 4 cs' /\ n <= cs'.size /\ Bs n cs')
  case atStart => exact ⟨0,cs,Nat.zero_le _,rfl,rfl,Wipe.refl _ _,HR0.out,hsz,HBS.out⟩
  case round =>
   obtain ⟨k,cs',hk,rfl,rfl,hb,hr,hs,hbs⟩:=hrel
   have HB:=zh hb; clear hb
   by_cases hlt:k < n
   ·obtain ⟨b0,c0⟩:=hbs k hlt
    have c1:=(hr.cell k).trans c0
    have fr:=hr.free
    have HR:=zh hr; clear hr
    have HBS2:=zh hbs; clear hbs c0
    go_wp2
    go_roundg (n - (k + 1))
    case rel => exact ⟨k + 1,_,by omega,rfl,by go_num,HB.out.trans (Wipe.set HR.out (.inr rfl) hBg k _ (fun _ => ⟨_,rfl⟩)),HR.out.set k _,by simpa using hs,by
     intro i hi
     rw [Array.getElem?_setIfInBounds]
     split
     ·rename_i e; subst e; exact ⟨_,by rw [if_pos (by omega)]⟩
     ·exact HBS2.out i hi⟩
    case measure => omega
   ·go_wp2
    refine bodyPost_end (results_none rfl _ _ _) rfl ?_
    exact ⟨rfl,HB.out⟩
theorem zn3 (v:Value) (B:Nat) (w:World) (hv:WR w B v) :
  Calls Tryz.prog 113 #[v] w fun e w' => e = .returned (.tuple #[]) /\ Wipe B w w':=by
 have HV:=zh hv
 obtain ⟨A,n,c,rfl,hnm,hv⟩:=hv
 by_cases h0:n = 0
 ·subst h0
  clear hv HV
  go_enter Tryz.func113,Tryz.ntmps113
  go_wp2
  go_rounds 1
  refine bodyPost_end (results_none rfl _ _ _) rfl ?_
  exact ⟨rfl,Wipe.refl _ _⟩
 ·obtain ⟨g,cs,rfl,hr,hsz,hus⟩:=hv (by omega)
  clear hr hsz hus
  go_enter Tryz.func113,Tryz.ntmps113
  go_wp2
  go_loopg [2] n (fun gk q wr => ∃ k:Nat,k <= n /\ gk = n - k /\ q = .int .i64 k /\ Wipe B w wr)
  case atStart => exact ⟨0,Nat.zero_le _,rfl,rfl,Wipe.refl _ _⟩
  case round =>
   obtain ⟨k,hk,rfl,rfl,hb⟩:=hrel
   have HB:=zh hb; clear hb
   by_cases hlt:k < n
   ·obtain ⟨A',n',c',e,_,hv⟩:=HV.out.wipe HB.out
    simp only [Value.slice.injEq] at e
    obtain ⟨e1,rfl,rfl⟩:=e
    obtain ⟨g',cs',e2,hr,hsz,hus⟩:=hv (by omega)
    rw [<- e1] at e2
    simp only [Option.some.injEq,Addr.mk.injEq,and_true] at e2
    obtain rfl:=e2
    obtain ⟨u,hu,hw⟩:=hus k hlt
    have hcl:=(hr.cell k).trans hu
    have HW:=zh hw
    obtain ⟨A2,n2,c2,rfl,_⟩:=hw
    clear hv hus hu hr hsz e1
    go_wp2_with (go_at_call 140; refine (zn5 _ B _ HW.out).mono ?_; rintro ee wx ⟨rfl,hx⟩; have HX:=zh hx; clear hx)
    go_roundg (n - (k + 1))
    case rel => exact ⟨k + 1,by omega,rfl,by go_num,HB.out.trans HX.out⟩
    case measure => omega
   ·go_wp2
    refine bodyPost_end (results_none rfl _ _ _) rfl ?_
    exact ⟨rfl,HB.out⟩
theorem zj0 (v:Value) (B:Nat) (w:World) (hv:WK w B v) :
  Calls Tryz.prog 73 #[v] w fun e w' => e = .returned (.tuple #[]) /\ Wipe B w w':=by
 have HV:=zh hv
 obtain ⟨A,n,c,rfl,hnm,hv⟩:=hv
 by_cases h0:n = 0
 ·subst h0
  clear hv HV
  go_enter Tryz.func73,Tryz.ntmps73
  go_wp2
  go_rounds 1
  refine bodyPost_end (results_none rfl _ _ _) rfl ?_
  exact ⟨rfl,Wipe.refl _ _⟩
 ·obtain ⟨g,cs,rfl,hr,hsz,hus⟩:=hv (by omega)
  clear hr hsz hus
  go_enter Tryz.func73,Tryz.ntmps73
  go_wp2
  go_loopg [2] n (fun gk q wr => ∃ k:Nat,k <= n /\ gk = n - k /\ q = .int .i64 k /\ Wipe B w wr)
  case atStart => exact ⟨0,Nat.zero_le _,rfl,rfl,Wipe.refl _ _⟩
  case round =>
   obtain ⟨k,hk,rfl,rfl,hb⟩:=hrel
   have HB:=zh hb; clear hb
   by_cases hlt:k < n
   ·obtain ⟨A',n',c',e,_,hv⟩:=HV.out.wipe HB.out
    simp only [Value.slice.injEq] at e
    obtain ⟨e1,rfl,rfl⟩:=e
    obtain ⟨g',cs',e2,hr,hsz,hus⟩:=hv (by omega)
    rw [<- e1] at e2
    simp only [Option.some.injEq,Addr.mk.injEq,and_true] at e2
    obtain rfl:=e2
    obtain ⟨u,hu,hw⟩:=hus k hlt
    have hcl:=(hr.cell k).trans hu
    have HW:=zh hw
    obtain ⟨A2,n2,c2,rfl,_⟩:=hw
    clear hv hus hu hr hsz e1
    go_wp2_with (go_at_call 113; refine (zn3 _ B _ HW.out).mono ?_; rintro ee wx ⟨rfl,hx⟩; have HX:=zh hx; clear hx)
    go_roundg (n - (k + 1))
    case rel => exact ⟨k + 1,by omega,rfl,by go_num,HB.out.trans HX.out⟩
    case measure => omega
   ·go_wp2
    refine bodyPost_end (results_none rfl _ _ _) rfl ?_
    exact ⟨rfl,HB.out⟩
theorem zjz (v:Value) (B:Nat) (w:World) (hv:WD w B v) (hB:B <= w.heap.size) :
  Calls Tryz.prog 26 #[v] w fun e w' => e = .returned (.tuple #[]) /\ Wipe B w w':=by
 obtain ⟨i,j,vn,vf,rfl,h1,h2⟩:=hv
 have H1:=zh h1; have H2:=zh h2
 obtain ⟨A,n,c,rfl,_⟩:=h1
 obtain ⟨A',n',c',rfl,_⟩:=h2
 go_enter Tryz.func26,Tryz.ntmps26
 go_upto_region 1 with fail
 refine zab (fun X => Wipe B w X /\ ∃ g,g = w.heap.size /\ B <= g /\ Row X g 25 #[.int .i64 i,.int .i64 j,.slice A n c,.slice A' n' c']) ⟨Wipe.alloc hB _,_,rfl,hB,Row.new _ _ _⟩ ?_
 rintro X ⟨hx,g,hg,hgB,hr⟩
 rw [<- hg]
 have HX:=zh hx; have HR:=zh hr
 clear hx hr hg
 have y0:=HR.out.cell
 go_upto_region 2 with (go_at_call 73; refine (zj0 _ B _ (H1.out.wipe HX.out)).mono ?_; rintro ee wx ⟨rfl,hx⟩; replace HX:=zh (HX.out.trans hx); obtain ⟨cs',hr',hs,he,_⟩:=hx.row _ _ _ HR.out; obtain rfl:=he (by decide) (by decide); clear hx)
 have y1:=hr'.cell
 clear y0 hr'
 go_wp2_with (go_at_call 74; refine (zme _ B _ (H2.out.wipe HX.out)).mono ?_; rintro ee wy ⟨rfl,hy⟩; have HY:=zh (HX.out.trans hy); clear hy)
 refine bodyPost_end (results_none rfl _ _ _) rfl ?_
 exact ⟨rfl,HY.out⟩
theorem TO.wipe {w w':World} {B C:Nat} {v:Value} {f:List Lf} (h:TO w B v f) (k:Wipe C w w'):TO w' B v f:=by
 obtain ⟨h0,h1,h⟩:=h
 refine ⟨h0,h1,?_⟩
 rcases h with h | ⟨g,cap,cur,hv,hBg,hg,r⟩
 ·exact .inl h
 ·obtain ⟨cs',hr',_,he,_⟩:=k.row g _ cur hg
  obtain rfl:=he (by decide) (by decide)
  exact .inr ⟨g,cap,_,hv,hBg,hr',r⟩
end Go.Proofs.YthkfjnmnoanhlaaGreatDoor
