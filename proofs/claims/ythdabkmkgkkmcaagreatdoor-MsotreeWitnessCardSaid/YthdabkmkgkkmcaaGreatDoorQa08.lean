/- Part 8 of the proof; it says: lemmas and contracts. No conditions but those that each theorem states. -/
import Derived.Test.YthdabkmkgkkmcaaGreatDoorPb01
import Derived.Test.YthdabkmkgkkmcaaGreatDoorPb03
import Derived.Test.YthdabkmkgkkmcaaGreatDoorPb15
import Derived.Test.YthdabkmkgkkmcaaGreatDoorPb42
import Derived.Test.YthdabkmkgkkmcaaGreatDoorPb02
import Derived.Test.YthdabkmkgkkmcaaGreatDoorQa01
import Derived.Test.YthdabkmkgkkmcaaGreatDoorQa03
import Derived.Test.YthdabkmkgkkmcaaGreatDoorQa06
set_option linter.unusedSimpArgs false
set_option linter.unusedVariables false
set_option maxRecDepth 100000
set_option maxHeartbeats 32000000
namespace Go.Proofs.YthdabkmkgkkmcaaGreatDoor
open Go.ChangeShapes Go.WideShapes Go.ChangeAt Go.RowKit
theorem ztp:Tryz.prog.cellsOf 97 = 3:=by kernel_rfl
theorem three {cs:List Value} (h:cs.length = 3):∃ a b c,cs = [a,b,c]:=by
 match cs,h with
 | [a,b,c],_ => exact ⟨a,b,c,rfl⟩
theorem zwo:∃ f0 f1 f2:Field,Tryz.prog.underlying 97 = some (.struct #[f0,f1,f2]) /\ f0.type = 5 /\ f1.type = 3 /\ f2.type = 3 /\
  f0.offset = 0 /\ f1.offset = 1 /\ f2.offset = 2:=⟨_,_,_,Tryz.underlying97,rfl,rfl,rfl,rfl,rfl,rfl⟩
theorem zvy {H:Type} {enc:TypeId × Value -> H} {W:World} {base:Nat} {sp:Nat -> Bool} {held:Bool} {fuel:Nat} {cs:List Value} {x:DataW H × List MemPlace} (h:DataW.trod enc Tryz.prog W base sp held fuel 97 cs = some x) :
  ∃ m:Lf,cs = m.cells /\ 0 <= m.label /\ m.label <= 255:=by
 obtain ⟨f0,f1,f2,hu,t0,t1,t2,o0,o1,o2⟩:=zwo
 obtain ⟨xs,n,_,_,hl,hxl,hx⟩:=DataW.trod_struct hu h
 rw [ztp] at hl
 obtain ⟨a,b,c,rfl⟩:=three hl
 have g0:=hx 0 f0 rfl
 have g1:=hx 1 f1 rfl
 have g2:=hx 2 f2 rfl
 have hxl':xs.length = 3:=hxl
 rw [t0,o0,zry,List.getElem?_eq_getElem (by omega)] at g0
 rw [t1,o1,ze4,List.getElem?_eq_getElem (by omega)] at g1
 rw [t2,o2,ze4,List.getElem?_eq_getElem (by omega)] at g2
 simp only [List.drop_zero,List.drop_succ_cons,List.take_succ_cons,List.take_zero] at g0 g1 g2
 obtain ⟨i0,e0,_,w0⟩:=DataW.trod_int Tryz.underlying5 g0
 obtain ⟨i1,e1,_,w1⟩:=DataW.trod_int Tryz.underlying3 g1
 obtain ⟨i2,e2,_,w2⟩:=DataW.trod_int Tryz.underlying3 g2
 injection e0 with e0 _
 injection e1 with e1 _
 injection e2 with e2 _
 subst e0; subst e1; subst e2
 have hb:=bounds_u8 w0
 exact ⟨⟨i0,i1,i2⟩,rfl,hb.1,by have:=hb.2; simpa using this⟩
instance:Inhabited Lf:=⟨⟨0,0,0⟩⟩
theorem zvx {H:Type} {enc:TypeId × Value -> H} {W:World} {d:DataW H} {p:List MemPlace} {v:Value} (h:DataW.Trod enc Tryz.prog W 0 (fun _ => true) true 44 v d p) (hval:Value.okWide Tryz.prog W .any 0 44 v) :
  ∃ f,TS W v f:=by
 obtain ⟨a0,len,cap,rfl⟩:=okWide_slice Tryz.underlying44 hval
 obtain ⟨fuel,hf⟩:=h
 rcases Go.Deep.open_slice Tryz.underlying44 hf with ⟨hcs,_⟩ | ⟨a,l,c,m,n,D,Pl,hcs,_,hl,hm,hmm,_,hx⟩
 ·simp only [Value.cells,List.cons.injEq,and_true] at hcs
  cases hcs
  exact ⟨[],TS.nil W⟩
 ·have hcs':Value.slice a0 len cap = .slice (some a) l c:=by simpa [Value.cells] using hcs
  cases hcs'
  simp only [if_true] at hmm
  subst hmm
  rw [ztp] at hx
  have hx2:∀ i,i < len -> ∃ m:Lf,W.cells? 0 (a.add (i * 3)) 3 = some m.cells /\ 0 <= m.label /\ m.label <= 255:=fun i hi => by
   obtain ⟨cs',h1,h2⟩:=hx i (by omega)
   obtain ⟨mm,rfl,h3⟩:=zvy h2
   exact ⟨mm,h1,h3⟩
  obtain ⟨F,hF⟩:=Go.Deep.choose_lt (α:=Lf) hx2
  refine ⟨(List.range len).map F,fun mm hmm => ?_,some a,m,by simp,by simpa using hl,(by unfold maxLen at hm; exact hm),fun hp => ?_⟩
  ·obtain ⟨i,hi,rfl⟩:=List.mem_map.1 hmm
   exact (hF i (List.mem_range.1 hi)).2
  ·simp only [List.length_map,List.length_range] at hp
   obtain ⟨b,off,spot⟩:=a
   have key:∀ i,i < len -> ∀ j,j < 3 -> W.cell? (((⟨b,off,spot⟩:Addr).add (i * 3)).add j) = (F i).cells[j]?:=fun i hi j hj => (World.cells?_some (hF i hi).1).2.2 j hj
   have hspot:spot = none:=by
    have h0:=key 0 hp 0 (by omega)
    simp only [Nat.zero_mul] at h0
    have:W.cell? ⟨b,off,spot⟩ = some (.int .u8 (F 0).label):=by simpa [Addr.add,Lf.cells] using h0
    exact World.cell?_spot this
   subst hspot
   have hadd:∀ (o j:Nat),(⟨b,o,none⟩:Addr).add j = ⟨b,o + j,none⟩:=fun o j => Go.WideShapes.add_plain b o j
   simp only [hadd] at key
   refine ⟨b,off,rfl,?_,fun i mm hi => ?_⟩
   ·have h0:=key 0 hp 0 (by omega)
    simp only [Nat.zero_mul,Nat.add_zero] at h0
    exact World.block_lt_of_cell? _ _ h0
   ·obtain ⟨hi1,hi2⟩:=List.getElem?_eq_some_iff.1 hi
    simp only [List.length_map,List.length_range] at hi1
    simp only [List.getElem_map,List.getElem_range] at hi2
    subst hi2
    exact ⟨key i hi1 0 (by omega),key i hi1 1 (by omega),key i hi1 2 (by omega)⟩
theorem zun {W:World} {x:String × DataW Unit} {rest:List (String × DataW Unit)} (h:laidMet Tryz.prog (x :: ("math/bits.deBruijn64tab", Rows.laid_math_bits_deBruijn64tab) :: rest) W):DB W:=by
 have h':laidMet Tryz.prog (("math/bits.deBruijn64tab", Lib.tabData .u8 (Lib.deBruijn64tab.map fun n:Nat => (n:Int))) :: rest) W:=by
  obtain ⟨n,d⟩:=x
  obtain ⟨ps,⟨g,t,cs,fuel,p,q,_,_,_,_,hr,rfl⟩,hn,hc⟩:=h
  exact ⟨q,hr,(List.nodup_append.1 hn).2.1,fun b off hm => hc b off (List.mem_append_right _ hm)⟩
 have ht:=Lib.tabIs_of_head (g:=0) (by kernel_rfl) (by kernel_rfl) Tryz.underlying245 Tryz.underlying5 (by kernel_rfl) (by kernel_rfl) h'
 intro j hj
 have:=ht.cell (g:=0) (by kernel_rfl) j (by simpa using hj)
 rw [this,List.getD_eq_getElem?_getD,List.getElem?_map,List.getElem?_eq_getElem hj,List.getD_eq_getElem?_getD,List.getElem?_eq_getElem hj]
 rfl
end Go.Proofs.YthdabkmkgkkmcaaGreatDoor
