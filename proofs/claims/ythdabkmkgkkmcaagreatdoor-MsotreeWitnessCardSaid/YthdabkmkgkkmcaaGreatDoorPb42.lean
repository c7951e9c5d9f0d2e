/- Part 42 of the proof; it says: lemmas and contracts. No conditions but those that each theorem states. -/
import Derived.Test.YthdabkmkgkkmcaaGreatDoorCards
import Derived.Test.YthdabkmkgkkmcaaGreatDoorTie
import Derived.ProofKit
import Derived.OpenShut
import Derived.Carry
import Derived.Deep.Slices
import Derived.Deep.DeepHandedRow
import Derived.Lib.LaidTab
import Derived.Test.YthdabkmkgkkmcaaGreatDoorPb01
import Derived.Test.YthdabkmkgkkmcaaGreatDoorPb03
set_option linter.unusedSimpArgs false
set_option linter.unusedVariables false
set_option maxRecDepth 100000
set_option maxHeartbeats 32000000
namespace Go.Proofs.YthdabkmkgkkmcaaGreatDoor
open Go.ChangeShapes Go.WideShapes Go.ChangeAt Go.RowKit
theorem rowOwn:ownKnob Tryz.prog.godebug = none:=by kernel_rfl
theorem rowLaid:laidOutB Tryz.prog = true:=by kernel_rfl
theorem ze5 {H:Type} {enc:TypeId × Value -> H} {W W':World} (hb:Below W.heap.size W W'):∀ {ts:List TypeId} {vs:List Value} {ds:List (DataW H)} {ps:List MemPlace},(∀ t ∈ ts,Tryz.prog.readableRec t = true /\ t < Tryz.prog.types.size) ->
  DataW.TrodAll enc Tryz.prog W 0 (fun _ => true) true ts vs ds ps -> (∀ x ∈ ps,x.block < W.heap.size) -> DataW.TrodAll enc Tryz.prog W' 0 (fun b => decide (b < W.heap.size)) true ts vs ds ps
 | [],[],[],_,_,h,_ => h
 | [],_ :: _,_,_,_,h,_ => by cases h
 | [],[],_ :: _,_,_,h,_ => by cases h
 | _ :: _,[],_,_,_,h,_ => by cases h
 | _ :: _,_ :: _,[],_,_,h,_ => by cases h
 | t :: ts,v :: vs,d :: ds,ps,ht,h,hl => by
  obtain ⟨p,q,h1,h2,rfl⟩:=h
  exact ⟨p,q,Below.trod rowLaid (ht t (by simp)).1 (ht t (by simp)).2 h1 hb (fun x hx => hl x (by simp [hx])),ze5 hb (fun t' h' => ht t' (by simp [h'])) h2 (fun x hx => hl x (by simp [hx])),rfl⟩
theorem zrh {H:Type} {enc:TypeId × Value -> H} {f:Func} {s:ChangeSpec} {W W':World} {args:Array Value} {ds gs:List (DataW H)} {before:List MemPlace} (hs:s.vars = []) (hf:f.resultTypes.toList = [4]) (hf2:f.resultTypes.size = 1)
  (hW:DataW.Whole enc Tryz.prog f.params.toList s.vars false W args.toList ds gs before) (hb:Below W.heap.size W W') (ht:∀ t ∈ f.params.toList,Tryz.prog.readableRec t = true /\ t < Tryz.prog.types.size)
  (hfn:(s.fn H (ds ++ gs)).results = [.lit (.bool true)] /\ (s.fn H (ds ++ gs)).args = ds /\ (s.fn H (ds ++ gs)).vars = []):s.post enc Tryz.prog f false true false false W args (.bool true) W':=by
 have hlt:=hW.lt
 have hW':=hW
 obtain ⟨p,q,hA,hV,rfl,_,_⟩:=hW
 rw [hs] at hV
 obtain ⟨rfl,rfl⟩:=trodVars_none hV
 refine ⟨ds,[],_,[],p,[],hW',?_,?_,?_,hb.frame _,fun h => by cases h⟩
 ·rw [hf,hf2,hfn.1]
  exact trodAll_mk1 (shut_bool Tryz.underlying4 _)
 ·rw [hfn.2.1]
  exact ze5 hb ht hA fun x hx => hlt x (by simp [hx])
 ·rw [hs,hfn.2.2]
  exact rfl
theorem zh0:Tryz.prog.cellsOf 26 = 5:=by kernel_rfl
theorem five {cs:List Value} (h:cs.length = 5):∃ a b c d e,cs = [a,b,c,d,e]:=by
 match cs,h with
 | [a,b,c,d,e],_ => exact ⟨a,b,c,d,e,rfl⟩
theorem zqp:∃ f0 f1 f2 f3 f4:Field,Tryz.prog.underlying 26 = some (.struct #[f0,f1,f2,f3,f4]) /\ f0.type = 5 /\ f1.type = 3 /\ f2.type = 3 /\ f3.type = 3 /\ f4.type = 3 /\
  f0.offset = 0 /\ f1.offset = 1 /\ f2.offset = 2 /\ f3.offset = 3 /\ f4.offset = 4:=⟨_,_,_,_,_,Tryz.underlying26,rfl,rfl,rfl,rfl,rfl,rfl,rfl,rfl,rfl,rfl⟩
theorem zry:Tryz.prog.cellsOf 5 = 1:=by kernel_rfl
theorem ze4:Tryz.prog.cellsOf 3 = 1:=by kernel_rfl
theorem zoq {H:Type} {enc:TypeId × Value -> H} {W:World} {base:Nat} {sp:Nat -> Bool} {held:Bool} {fuel:Nat} {cs:List Value} {x:DataW H × List MemPlace} (h:DataW.trod enc Tryz.prog W base sp held fuel 26 cs = some x) :
  ∃ m:Mk,cs = m.cells /\ 0 <= m.op /\ m.op <= 255:=by
 obtain ⟨f0,f1,f2,f3,f4,hu,t0,t1,t2,t3,t4,o0,o1,o2,o3,o4⟩:=zqp
 obtain ⟨xs,n,_,_,hl,hxl,hx⟩:=DataW.trod_struct hu h
 rw [zh0] at hl
 obtain ⟨a,b,c,d,e,rfl⟩:=five hl
 have g0:=hx 0 f0 rfl
 have g1:=hx 1 f1 rfl
 have g2:=hx 2 f2 rfl
 have g3:=hx 3 f3 rfl
 have g4:=hx 4 f4 rfl
 have hxl':xs.length = 5:=hxl
 rw [t0,o0,zry,List.getElem?_eq_getElem (by omega)] at g0
 rw [t1,o1,ze4,List.getElem?_eq_getElem (by omega)] at g1
 rw [t2,o2,ze4,List.getElem?_eq_getElem (by omega)] at g2
 rw [t3,o3,ze4,List.getElem?_eq_getElem (by omega)] at g3
 rw [t4,o4,ze4,List.getElem?_eq_getElem (by omega)] at g4
 simp only [List.drop_zero,List.drop_succ_cons,List.take_succ_cons,List.take_zero] at g0 g1 g2 g3 g4
 obtain ⟨i0,e0,_,w0⟩:=DataW.trod_int Tryz.underlying5 g0
 obtain ⟨i1,e1,_,w1⟩:=DataW.trod_int Tryz.underlying3 g1
 obtain ⟨i2,e2,_,w2⟩:=DataW.trod_int Tryz.underlying3 g2
 obtain ⟨i3,e3,_,w3⟩:=DataW.trod_int Tryz.underlying3 g3
 obtain ⟨i4,e4,_,w4⟩:=DataW.trod_int Tryz.underlying3 g4
 injection e0 with e0 _
 injection e1 with e1 _
 injection e2 with e2 _
 injection e3 with e3 _
 injection e4 with e4 _
 subst e0; subst e1; subst e2; subst e3; subst e4
 have hb:=bounds_u8 w0
 exact ⟨⟨i0,i1,i2,i3,i4⟩,rfl,hb.1,by have:=hb.2; simpa using this⟩
instance:Inhabited Mk:=⟨⟨0,0,0,0,0⟩⟩
theorem zfu {H:Type} {enc:TypeId × Value -> H} {W:World} {d:DataW H} {p:List MemPlace} {v:Value} (h:DataW.Trod enc Tryz.prog W 0 (fun _ => true) true 23 v d p) (hval:Value.okWide Tryz.prog W .any 0 23 v) :
  ∃ f,MS W v f:=by
 obtain ⟨a0,len,cap,rfl⟩:=okWide_slice Tryz.underlying23 hval
 obtain ⟨fuel,hf⟩:=h
 rcases Go.Deep.open_slice Tryz.underlying23 hf with ⟨hcs,_⟩ | ⟨a,l,c,m,n,D,Pl,hcs,_,hl,hm,hmm,_,hx⟩
 ·simp only [Value.cells,List.cons.injEq,and_true] at hcs
  cases hcs
  exact ⟨[],MS.nil W⟩
 ·have hcs':Value.slice a0 len cap = .slice (some a) l c:=by simpa [Value.cells] using hcs
  cases hcs'
  simp only [if_true] at hmm
  subst hmm
  rw [zh0] at hx
  have hx2:∀ i,i < len -> ∃ m:Mk,W.cells? 0 (a.add (i * 5)) 5 = some m.cells /\ 0 <= m.op /\ m.op <= 255:=fun i hi => by
   obtain ⟨cs',h1,h2⟩:=hx i (by omega)
   obtain ⟨mm,rfl,h3⟩:=zoq h2
   exact ⟨mm,h1,h3⟩
  obtain ⟨F,hF⟩:=Go.Deep.choose_lt (α:=Mk) hx2
  refine ⟨(List.range len).map F,fun mm hmm => ?_,some a,m,by simp,by simpa using hl,(by unfold maxLen at hm; exact hm),fun hp => ?_⟩
  ·obtain ⟨i,hi,rfl⟩:=List.mem_map.1 hmm
   exact (hF i (List.mem_range.1 hi)).2
  ·simp only [List.length_map,List.length_range] at hp
   obtain ⟨b,off,spot⟩:=a
   have key:∀ i,i < len -> ∀ j,j < 5 -> W.cell? (((⟨b,off,spot⟩:Addr).add (i * 5)).add j) = (F i).cells[j]?:=fun i hi j hj => (World.cells?_some (hF i hi).1).2.2 j hj
   have hspot:spot = none:=by
    have h0:=key 0 hp 0 (by omega)
    simp only [Nat.zero_mul] at h0
    have:W.cell? ⟨b,off,spot⟩ = some (.int .u8 (F 0).op):=by simpa [Addr.add,Mk.cells] using h0
    exact World.cell?_spot this
   subst hspot
   have hadd:∀ (o j:Nat),(⟨b,o,none⟩:Addr).add j = ⟨b,o + j,none⟩:=fun o j => Go.WideShapes.add_plain b o j
   simp only [hadd] at key
   refine ⟨b,off,rfl,?_,fun i mm hi => ?_⟩
   ·have h0:=key 0 hp 0 (by omega)
    simp only [Nat.zero_mul,Nat.add_zero] at h0
    exact World.block_lt_of_cell? _ _ h0
   ·obtain ⟨hi1,hi2⟩:=List.getElem?_eq_some_iff.1 hi
    simp only [List.length_map,List.length_range] at hi1
    simp only [List.getElem_map,List.getElem_range] at hi2
    subst hi2
    exact ⟨key i hi1 0 (by omega),key i hi1 1 (by omega),key i hi1 2 (by omega),key i hi1 3 (by omega),key i hi1 4 (by omega)⟩
def litV:DataW Unit -> Value
 | .lit (.int k n) => .int k n
 | _ => undef
def zir:DataW Unit -> List Value
 | .agg l => l.map litV
 | _ => []
def layAs (vs:List Value):Obj -> Obj
 | .cells _ t frozen => .cells vs.toArray t frozen
 | o => o
abbrev rangesV:List Value:=[.int .u8 128,.int .u8 191,.int .u8 160,.int .u8 191,.int .u8 128,.int .u8 159,.int .u8 144,.int .u8 191,.int .u8 128,.int .u8 143,.int .u8 0,.int .u8 0,.int .u8 0,.int .u8 0,.int .u8 0,.int .u8 0,.int .u8 0,.int .u8 0,.int .u8 0,.int .u8 0,.int .u8 0,.int .u8 0,.int .u8 0,.int .u8 0,.int .u8 0,.int .u8 0,.int .u8 0,.int .u8 0,.int .u8 0,.int .u8 0,.int .u8 0,.int .u8 0]
noncomputable def laidWorld (os:Os):World :=
 { World.holding Tryz.prog os ⟨#[],#[],[]⟩ with heap:=((((((World.holding Tryz.prog os ⟨#[],#[],[]⟩).heap.modify 3 (layAs (Go.Pinned.utf8FirstZ.map fun (n:Nat) => Value.int .u8 (n:Int)))).modify 4 (layAs rangesV)).modify 0 (layAs (zir Rows.laid_math_bits_deBruijn64tab))).modify 5 (layAs (zir Rows.laid_math_bits_deBruijn32tab))).modify 1 (layAs (zir Rows.laid_internal_strconv_uint64pow10))) }
end Go.Proofs.YthdabkmkgkkmcaaGreatDoor
