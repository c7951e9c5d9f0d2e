/- Part 26 of the proof; it says: lemmas and contracts. No conditions but those that each theorem states. -/
import Derived.Deep.RegionLaw
import Derived.Test.YthdabkmkgkkmcaaGreatDoorPb01
import Derived.Test.YthdabkmkgkkmcaaGreatDoorPb03
import Derived.Test.YthdabkmkgkkmcaaGreatDoorPb04
import Derived.Test.YthdabkmkgkkmcaaGreatDoorPb25
set_option linter.unusedSimpArgs false
set_option linter.unusedVariables false
set_option maxRecDepth 100000
set_option maxHeartbeats 32000000
namespace Go.Proofs.YthdabkmkgkkmcaaGreatDoor
open Go.RowKit
def RetFE (w:World) (f:List Mk) (e:Int) (en:Ending) (w':World):Prop:=∃ v,en = .returned (.tuple #[v,.int .i64 e]) /\ Below w.heap.size w w' /\ MO w' w.heap.size v f
def wrapS (f:List Mk) (m:Mk):List Mk × Int:=if za4 f then (if f.length = 64 then ([],4) else (f ++ [{ m with a:=f.length - 1 }],0)) else ([],2)
theorem zqm (f:List Mk) (v:Value) (m:Mk) (w:World) (hv:MS w v f) (h0:0 <= m.op) (h1:m.op <= 255) :
  Calls Tryz.prog 51 #[v,.agg #[.int .u8 m.op,.int .i64 m.x,.int .i64 m.y,.int .i64 m.a,.int .i64 m.b]] w (RetFE w (wrapS f m).1 (wrapS f m).2):=by
 have HV:=zh hv
 obtain ⟨hop,A,c,rfl,hc,hc2,hcell⟩:=hv
 clear hcell hop
 have hbx:Below w.heap.size w (w.alloc (.cells #[.int .u8 m.op,.int .i64 m.x,.int .i64 m.y,.int .i64 m.a,.int .i64 m.b] 26)):=Below.alloc (Below.refl _ _) zn _
 have HBX:=zh hbx; clear hbx
 obtain ⟨t,ht⟩:=zx (za4 f)
 have HT:=zh ht; clear ht
 cases t with
 | false =>
  go_enter Tryz.func51,Tryz.ntmps51
  go_wp2_with (go_at_call 46; go_must (refine (za1 f _ _ (HV.out.below HBX.out zn)).mono ?_; rintro e w1 ⟨rfl,hb1⟩; rw [<- HT.out]))
  go_returns
  exact ⟨_,by rw [wrapS,<- HT.out]; rfl,HBX.out.trans (hb1.mono (by simp)),by rw [wrapS,<- HT.out]; exact MO.nil _ _⟩
 | true =>
  have hl:=zff f HT.out.symm
  obtain ⟨n,hn⟩:=zx f.length
  rw [<- hn] at hl HV ⊢
  have HN:=zh hn; clear hn
  obtain ⟨hl1,hl2⟩:=hl
  by_cases h64:n = 64
  ·have h64':((n:Int) == 64) = true:=by simp [h64]
   have H64:=zh h64; clear h64
   go_enter Tryz.func51,Tryz.ntmps51
   go_wp2_with (go_at_call 46; go_must (refine (za1 f _ _ (HV.out.below HBX.out zn)).mono ?_; rintro e w1 ⟨rfl,hb1⟩; rw [<- HT.out]))
   go_returns
   have e:wrapS f m = ([],4):=by rw [wrapS,<- HT.out]; simp [<- HN.out,H64.out]
   exact ⟨.slice none 0 0,by rw [e]; rfl,HBX.out.trans (hb1.mono (by simp)),by rw [e]; exact MO.nil _ _⟩
  ·have h64':((n:Int) == 64) = false:=by simp; omega
   have H64:=zh h64; clear h64
   go_enter Tryz.func51,Tryz.ntmps51
   go_wp2_with (go_at_call 46; go_must (refine (za1 f _ _ (HV.out.below HBX.out zn)).mono ?_; rintro e w1 ⟨rfl,hb1⟩; rw [<- HT.out]; have R:=zh ((Row.new w _ _).below hb1 (by simp only [World.size_alloc]; omega)); obtain ⟨x0,x1,x2,HB1⟩:=za9 hb1; clear hb1))
   have E3:Hid (wrapS f m = (f ++ [{ m with a:=(n:Int) - 1 }],0)):=by unfold Hid; rw [wrapS,<- HT.out,<- HN.out,if_pos rfl,if_neg H64.out]
   have R2:=zh (R.out.set 3 (.int .i64 ((n:Int) - 1)))
   go_region_law (first
    | (go_simp; go_at_call 92; refine (zjw f _ _ (HV.out.below (B:=w.heap.size) (by have hh:=HB1.out; go_grown) zn) (by rw [<- HN.out]; omega)).mono ?_; rintro e w2 ⟨v1,rfl,hb2,ho1⟩; replace ho1:MO w2 w.heap.size v1 f:=ho1.mono (by have:=HB1.out.size; simp only [World.size_alloc,World.size_setCell,World.size_drew]; omega); have hz2:w.heap.size < w2.heap.size:=(by have h1:=hb2.size; have h2:=HB1.out.size; simp only [World.size_alloc,World.size_setCell,World.size_drew] at h1; omega); have hbw:Hid (Below w.heap.size w w2):=(Below.trans (by have hh:=HB1.out; go_grown) (hb2.mono (by simp only [World.size_alloc,World.size_setCell,World.size_drew]; omega))); have y0:∀ j,w2.cell? ⟨w.heap.size,j,none⟩ = #[Value.int .u8 m.op,.int .i64 m.x,.int .i64 m.y,.int .i64 (n - 1),.int .i64 m.b][j]?:=(Row.below (by first | exact R2.out | exact R2.out.alloc _) hb2 (by simp only [World.size_alloc,World.size_setCell,World.size_drew]; omega)).cell; try go_simp)
    | (refine zd8 rfl (.tmp 19) (.tmp 21) rfl w.heap.size v1 f rfl (ho1.below (B':=w2.heap.size) (by go_grown) zn) _ [{ m with a:=(n:Int) - 1 }] rfl (MS.one (by first | exact Row.new _ _ _ | exact (Row.litd (by simp)).below hb2 (by simp only [World.size_alloc,World.size_setCell,World.size_drew]; omega)) h0 h1) (by simp only [List.length_cons,List.length_nil,<- HN.out]; omega) (by first | exact Nat.le_of_lt hz2 | (simp only [World.size_alloc,World.size_setCell,World.size_drew]; omega)) ?_; intro v3 w3 ho3 hg3 ht3))
   all_goals
    go_wp2
    go_returns
    refine ⟨v3,by rw [E3.out]; rfl,?_,?_⟩
    ·have hh:=hbw.out; exact zcz (v':=v3) (g:=f) (by go_grown) (ho1.below (B':=w2.heap.size) (by go_grown) zn) hg3 (by first | exact Nat.le_of_lt hz2 | (simp only [World.size_alloc,World.size_setCell,World.size_drew]; omega))
    ·rw [E3.out]; exact ho3
theorem zql (f:List Mk) (v:Value) (w:World) (hv:MS w v f):Calls Tryz.prog 19 #[v] w (RetFE w (wrapS f ⟨9,0,0,0,0⟩).1 (wrapS f ⟨9,0,0,0,0⟩).2):=by
 go_enter Tryz.func19,Tryz.ntmps19
 go_wp2_with (go_at_call 51; go_must (refine (zqm f _ ⟨9,0,0,0,0⟩ _ hv (by decide) (by decide)).mono ?_; rintro e w1 ⟨v1,rfl,hb1,ho1⟩))
 go_returns
 exact ⟨v1,rfl,hb1,ho1⟩
end Go.Proofs.YthdabkmkgkkmcaaGreatDoor
