/- Part 45 of the proof; it says: lemmas and contracts. No conditions but those that each theorem states. -/
import Derived.Test.YthkfjnmnoanhlaaGreatDoorPr01
import Derived.Test.YthkfjnmnoanhlaaGreatDoorPr06
import Derived.Test.YthkfjnmnoanhlaaGreatDoorPr44
set_option linter.unusedSimpArgs false
set_option linter.unusedVariables false
set_option linter.unusedSectionVars false
set_option maxRecDepth 100000
set_option maxHeartbeats 32000000
namespace Go.Proofs.YthkfjnmnoanhlaaGreatDoor
open Go.ChangeShapes Go.WideShapes Go.ChangeAt Go.RowKit
theorem zmu:Tryz.prog.cellsOf 4 = 1:=by kernel_rfl
theorem zrg:Tryz.prog.cellsOf 53 = 1:=by kernel_rfl
theorem zrf:Tryz.prog.cellsOf 54 = 1:=by kernel_rfl
theorem zre:Tryz.prog.cellsOf 22 = 1:=by kernel_rfl
theorem zrd:Tryz.prog.cellsOf 23 = 1:=by kernel_rfl
theorem zpr:Tryz.prog.cellsOf 25 = 4:=by kernel_rfl
section
variable {H:Type} {enc:TypeId × Value -> H} {W:World}
theorem zh0 {T E:TypeId} {fuel:Nat} {cs:List Value} {x:DataW H × List MemPlace} (ht:Tryz.prog.underlying T = some (.slice E)) (hc:Tryz.prog.cellsOf E = 1) (h:DataW.trod enc Tryz.prog W 0 (fun _ => true) true fuel T cs = some x) :
  ∃ v l,cs = [v] /\ VS W v l /\ ∃ n,∀ (i:Nat) u,l[i]? = some u -> ∃ y,DataW.trod enc Tryz.prog W 0 (fun _ => true) true n E [u] = some y:=by
 rcases Go.Deep.open_slice1 ht hc h with ⟨rfl,_⟩ | ⟨a,len,cap,m,n,V,D,Pl,rfl,_,hl,hm,hmm,_,hx⟩
 ·exact ⟨_,[],rfl,VS.nil W,0,fun i u h => by simp at h⟩
 ·simp only [if_true] at hmm
  subst hmm
  refine ⟨_,(List.range len).map V,rfl,⟨some a,m,by simp,by simpa using hl,(by unfold maxLen at hm; exact hm),fun hp => ?_⟩,n,fun i u hu => ?_⟩
  ·simp only [List.length_map,List.length_range] at hp
   obtain ⟨b,off,spot⟩:=a
   have hspot:spot = none:=by
    have h0:=(hx 0 (by omega)).1
    have:W.cell? ⟨b,off,spot⟩ = some (V 0):=by simpa [Addr.add] using h0
    exact World.cell?_spot this
   subst hspot
   have hadd:∀ (o j:Nat),(⟨b,o,none⟩:Addr).add j = ⟨b,o + j,none⟩:=fun o j => Go.WideShapes.add_plain b o j
   refine ⟨b,off,rfl,?_,fun i u hi => ?_⟩
   ·have h0:=(hx 0 (by omega)).1
    rw [hadd] at h0
    exact World.block_lt_of_cell? _ _ h0
   ·obtain ⟨hi1,hi2⟩:=List.getElem?_eq_some_iff.1 hi
    simp only [List.length_map,List.length_range] at hi1
    simp only [List.getElem_map,List.getElem_range] at hi2
    subst hi2
    have h0:=(hx i (by omega)).1
    rw [hadd] at h0
    exact h0
  ·obtain ⟨hi1,hi2⟩:=List.getElem?_eq_some_iff.1 hu
   simp only [List.length_map,List.length_range] at hi1
   simp only [List.getElem_map,List.getElem_range] at hi2
   subst hi2
   exact ⟨_,(hx i (by omega)).2⟩
theorem zdb {α:Type} (R:Value -> α -> Prop):∀ (l:List Value),(∀ (i:Nat) u,l[i]? = some u -> ∃ y,R u y) -> ∃ ys:List α,l.length = ys.length /\ ∀ (i:Nat) u,l[i]? = some u -> ∃ y,ys[i]? = some y /\ R u y
 | [],_ => ⟨[],rfl,fun i u h => by simp at h⟩
 | v :: l,h => by
  obtain ⟨y,hy⟩:=h 0 v rfl
  obtain ⟨ys,h1,h2⟩:=zdb R l fun i u hu => h (i + 1) u (by simpa using hu)
  refine ⟨y :: ys,by simp [h1],fun i u hu => ?_⟩
  cases i with
  | zero => simp only [List.getElem?_cons_zero,Option.some.injEq] at hu; subst hu; exact ⟨y,rfl,hy⟩
  | succ i => simpa using h2 i u (by simpa using hu)
theorem open_n1 {fuel:Nat} {cs:List Value} {x:DataW H × List MemPlace} (h:DataW.trod enc Tryz.prog W 0 (fun _ => true) true fuel 53 cs = some x):∃ v l,cs = [v] /\ N1 W v l:=by
 obtain ⟨v,l,rfl,hv,n,hn⟩:=zh0 Tryz.underlying53 zgl h
 obtain ⟨ys,h1,h2⟩:=zdb (fun u y => u = .int .i64 y) l fun i u hu => by
  obtain ⟨y,hy⟩:=hn i u hu
  obtain ⟨z,e,_,_⟩:=DataW.trod_int Tryz.underlying3 hy
  exact ⟨z,by simpa using e⟩
 refine ⟨v,ys,rfl,?_⟩
 have:l = iL ys:=List.ext_getElem? fun i => by
  by_cases hi:i < l.length
  ·obtain ⟨y,h3,h4⟩:=h2 i _ (List.getElem?_eq_getElem hi)
   rw [iL_at h3,List.getElem?_eq_getElem hi,h4]
  ·rw [List.getElem?_eq_none (by omega),List.getElem?_eq_none (by rw [zag]; omega)]
 unfold N1; rw [<- this]; exact hv
theorem open_nb {fuel:Nat} {cs:List Value} {x:DataW H × List MemPlace} (h:DataW.trod enc Tryz.prog W 0 (fun _ => true) true fuel 23 cs = some x):∃ v l,cs = [v] /\ NB W v l:=by
 obtain ⟨v,l,rfl,hv,n,hn⟩:=zh0 Tryz.underlying23 zmu h
 obtain ⟨ys,h1,h2⟩:=zdb (fun u y => u = .bool y) l fun i u hu => by
  obtain ⟨y,hy⟩:=hn i u hu
  obtain ⟨z,e,_⟩:=DataW.trod_bool Tryz.underlying4 hy
  exact ⟨z,by simpa using e⟩
 refine ⟨v,ys,rfl,?_⟩
 have:l = bL ys:=List.ext_getElem? fun i => by
  by_cases hi:i < l.length
  ·obtain ⟨y,h3,h4⟩:=h2 i _ (List.getElem?_eq_getElem hi)
   rw [bL_at h3,List.getElem?_eq_getElem hi,h4]
  ·rw [List.getElem?_eq_none (by omega),List.getElem?_eq_none (by rw [zat]; omega)]
 unfold NB; rw [<- this]; exact hv
theorem open_n2 {fuel:Nat} {cs:List Value} {x:DataW H × List MemPlace} (h:DataW.trod enc Tryz.prog W 0 (fun _ => true) true fuel 54 cs = some x):∃ v l,cs = [v] /\ N2 W v l:=by
 obtain ⟨v,l,rfl,hv,n,hn⟩:=zh0 Tryz.underlying54 zrg h
 obtain ⟨ys,h1,h2⟩:=zdb (fun u y => N1 W u y) l fun i u hu => by
  obtain ⟨y,hy⟩:=hn i u hu
  obtain ⟨u',z,e,h3⟩:=open_n1 hy
  simp only [List.cons.injEq,and_true] at e
  exact ⟨z,e ▸ h3⟩
 exact ⟨v,ys,rfl,l,hv,h1,h2⟩
theorem open_n3 {fuel:Nat} {cs:List Value} {x:DataW H × List MemPlace} (h:DataW.trod enc Tryz.prog W 0 (fun _ => true) true fuel 22 cs = some x):∃ v l,cs = [v] /\ N3 W v l:=by
 obtain ⟨v,l,rfl,hv,n,hn⟩:=zh0 Tryz.underlying22 zrf h
 obtain ⟨ys,h1,h2⟩:=zdb (fun u y => N2 W u y) l fun i u hu => by
  obtain ⟨y,hy⟩:=hn i u hu
  obtain ⟨u',z,e,h3⟩:=open_n2 hy
  simp only [List.cons.injEq,and_true] at e
  exact ⟨z,e ▸ h3⟩
 exact ⟨v,ys,rfl,l,hv,h1,h2⟩
theorem four {cs:List Value} (h:cs.length = 4):∃ a b c d,cs = [a,b,c,d]:=by
 match cs,h with
 | [a,b,c,d],_ => exact ⟨a,b,c,d,rfl⟩
theorem und_dfa:∃ f0 f1 f2 f3:Field,Tryz.prog.underlying 25 = some (.struct #[f0,f1,f2,f3]) /\ f0.type = 3 /\ f1.type = 3 /\ f2.type = 22 /\ f3.type = 23 /\
  f0.offset = 0 /\ f1.offset = 1 /\ f2.offset = 2 /\ f3.offset = 3:=⟨_,_,_,_,Tryz.underlying25,rfl,rfl,rfl,rfl,rfl,rfl,rfl,rfl⟩
theorem zn8 {d:DataW H} {p:List MemPlace} {v:Value} (h:DataW.Trod enc Tryz.prog W 0 (fun _ => true) true 25 v d p) (hval:Value.okWide Tryz.prog W .any 0 25 v) :
  ∃ r,TD W v r:=by
 obtain ⟨cs,rfl,_⟩:=okWide_struct Tryz.underlying25 hval
 obtain ⟨f0,f1,f2,f3,hu,t0,t1,t2,t3,o0,o1,o2,o3⟩:=und_dfa
 obtain ⟨fuel,hf⟩:=h
 obtain ⟨xs,n,_,_,hl,hxl,hx⟩:=DataW.trod_struct hu hf
 rw [zpr] at hl
 obtain ⟨a,b,c,e,hcs⟩:=four hl
 have g0:=hx 0 f0 rfl
 have g1:=hx 1 f1 rfl
 have g2:=hx 2 f2 rfl
 have g3:=hx 3 f3 rfl
 have hxl':xs.length = 4:=hxl
 rw [t0,o0,zgl,List.getElem?_eq_getElem (by omega),hcs] at g0
 rw [t1,o1,zgl,List.getElem?_eq_getElem (by omega),hcs] at g1
 rw [t2,o2,zre,List.getElem?_eq_getElem (by omega),hcs] at g2
 rw [t3,o3,zrd,List.getElem?_eq_getElem (by omega),hcs] at g3
 simp only [List.drop_zero,List.drop_succ_cons,List.take_succ_cons,List.take_zero] at g0 g1 g2 g3
 obtain ⟨i0,e0,_,_⟩:=DataW.trod_int Tryz.underlying3 g0
 obtain ⟨i1,e1,_,_⟩:=DataW.trod_int Tryz.underlying3 g1
 obtain ⟨u2,l2,e2,k2⟩:=open_n3 g2
 obtain ⟨u3,l3,e3,k3⟩:=open_nb g3
 simp only [List.cons.injEq,and_true] at e0 e1 e2 e3
 subst e0 e1 e2 e3
 refine ⟨⟨i0,i1,l2,l3⟩,c,e,?_,k2,k3⟩
 have:cs.toList = [.int .i64 i0,.int .i64 i1,c,e]:=by simpa [Value.cells] using hcs
 congr 1
 apply Array.ext'
 simpa using this
end
noncomputable def laidWorld20 (os:Os):World :=
 { World.holding Tryz.prog os ⟨#[],#[],[]⟩ with heap:=((((World.holding Tryz.prog os ⟨#[],#[],[]⟩).heap.modify 2 (layAs (zh2 Rows.laid_math_bits_deBruijn64tab))).modify 1 (layAs (zh2 Rows.laid_math_bits_deBruijn32tab))).modify 0 (layAs (zh2 Rows.laid_internal_strconv_uint64pow10))) }
end Go.Proofs.YthkfjnmnoanhlaaGreatDoor
