/- Part 3 of the proof; it says: lemmas and contracts. No conditions but those that each theorem states. -/
import Derived.Test.YthkfjnmnoanhlaaGreatDoorChecked
import Derived.WalkKit
import Derived.WalkSpells
import Derived.WalkLawsBesides
import Derived.Handy
import Derived.Lib.Hide
import Derived.Deep.LoopGhost
import Derived.Deep.QuietTactic
import Derived.BigQuiet
import Derived.Lib.QuietBelow
import Derived.Deep.RegionWith
import Derived.Deep.DeepFit
import Derived.Deep.DeepMust
import Derived.Maps.AppendAt
import Derived.Deep.AppendLies
import Derived.Test.YthkfjnmnoanhlaaGreatDoorPr01
set_option linter.unusedSimpArgs false
set_option linter.unusedVariables false
set_option maxRecDepth 100000
set_option maxHeartbeats 32000000
namespace Go.Proofs.YthkfjnmnoanhlaaGreatDoor
open Go.RowKit
def Row (w:World) (g:Nat) (t:TypeId) (cs:Array Value):Prop:=w.heap[g]? = some (.cells cs t (0,0))
theorem Row.lt {w:World} {g:Nat} {t:TypeId} {cs:Array Value} (h:Row w g t cs):g < w.heap.size:=lt_of_block h
theorem Row.cell {w:World} {g:Nat} {t:TypeId} {cs:Array Value} (h:Row w g t cs):∀ i,w.cell? ⟨g,i,none⟩ = cs[i]?:=fun i => cell_of_row w g i cs t (0,0) h
theorem Row.free {w:World} {g:Nat} {t:TypeId} {cs:Array Value} (h:Row w g t cs):∀ i,w.frozen? ⟨g,i,none⟩ = false:=fun i => by unfold Row at h; simp [World.frozen?,h]
theorem Row.new (w:World) (t:TypeId) (cs:Array Value):Row (w.alloc (.cells cs t)) w.heap.size t cs:=heap_alloc_new w _
theorem Row.drew {w:World} {g:Nat} {t:TypeId} {cs:Array Value} (h:Row w g t cs):Row w.drew g t cs:=h
theorem Row.alloc {w:World} {g:Nat} {t:TypeId} {cs:Array Value} (h:Row w g t cs) (o:Obj):Row (w.alloc o) g t cs:=(Below.heap_alloc w o g h.lt).trans h
theorem Row.set {w:World} {g:Nat} {t:TypeId} {cs:Array Value} (h:Row w g t cs) (i:Nat) (u:Value):Row (w.setCell ⟨g,i,none⟩ u) g t (cs.setIfInBounds i u):=by
 unfold Row at h ⊢
 simp [World.setCell,Array.getElem?_modify,h]
theorem Row.far {w:World} {g:Nat} {t:TypeId} {cs:Array Value} (h:Row w g t cs) {p:Addr} (hp:g ≠ p.block) (u:Value):Row (w.setCell p u) g t cs:=(Below.heap_setCell w p u g hp).trans h
theorem Row.below {w w':World} {g:Nat} {t:TypeId} {cs:Array Value} {B:Nat} (h:Row w g t cs) (hb:Below B w w') (hg:g < B):Row w' g t cs:=(hb.block g hg).trans h
theorem Row.grown {w w':World} {g:Nat} {t:TypeId} {cs:Array Value} {row:Option Nat} (h:Row w g t cs) (hb:w.grownBy w' row) (hg:some g ≠ row):Row w' g t cs:=(hb.block g h.lt hg).trans h
theorem zab {P:Program} {c:Code} {Q:Exit -> Act -> World -> Prop} {a:Act} {w:World} (F:World -> Prop) (hF:F w) (hk:∀ W,F W -> Code.wp P c Q a W):Code.wp P c Q a w:=hk w hF
theorem zcs {P:Program} (t e:TypeId) (i:TypeInfo) (z:Value) (ht:P.underlying t = some (.slice e)) (hi:P.info? e = some i) (hz:i.zero = some z)
  (kl kc:IntKind) (n c:Nat) (hnc:n <= c) (hbytes:i.bytes * c <= 281474976710656) (h63:c <= 9223372036854775807) (w:World) :
  (Instr.makeSlice t (.int kl (n:Int)) (.int kc (c:Int))).run P w = .ok (.slice (some ⟨w.heap.size,0,none⟩) n c) (w.alloc (.cells (madeCells z.cells (c * i.size)) e)):=by
 have hb:(i.bytes:Int) * (c:Int) <= 281474976710656:=by
  have h:((i.bytes * c:Nat):Int) <= 281474976710656:=by omega
  rwa [Int.natCast_mul] at h
 have hr:=run_make (P:=P) w t e i z ht hi hz kl kc n c (by omega) (by omega) hb (by omega)
 simp only [Int.toNat_natCast] at hr
 exact hr
theorem zq1:(Tryz.prog.info? 3).map (fun i => (i.zero,i.size,i.bytes)) = some (some (.int .i64 0),1,8):=by kernel_rfl
def IS (w:World) (v:Value) (l:List Int):Prop :=
 ∃ A c,v = .slice A l.length c /\ l.length <= c /\ c <= 9223372036854775807 /\
  (0 < l.length -> ∃ b o,A = some ⟨b,o,none⟩ /\ b < w.heap.size /\ ∀ i x,l[i]? = some x -> w.cell? ⟨b,o + i,none⟩ = some (.int .i64 x))
theorem IS.below {w w':World} {v:Value} {f:List Int} {B:Nat} (h:IS w v f) (hb:Below B w w') (hB:w.heap.size <= B):IS w' v f:=by
 obtain ⟨A,c,hv,h1,h2,h3⟩:=h
 refine ⟨A,c,hv,h1,h2,fun hp => ?_⟩
 obtain ⟨b,o,hA,hlt,hm⟩:=h3 hp
 exact ⟨b,o,hA,Nat.lt_of_lt_of_le hlt hb.size,fun i m him => (hb.cell (p:=⟨b,o + i,none⟩) (by simpa using Nat.lt_of_lt_of_le hlt hB)).trans (hm i m him)⟩
theorem zch {P:Program} (w:World) (base:Nat) (t ty e:TypeId) (i:TypeInfo) (size:Nat) (ht:P.underlying t = some (.slice e)) (hi:P.info? e = some i)
  (v:Value) (n:Nat) (xs:List Value) (hown:w.ownsRow base e size v n xs) (c:Nat):(Builtin.append_ #[t,t] ty #[v,.slice none 0 c]).run P w = .ok v w:=by
 rcases hown.2 with ⟨rfl,rfl⟩ | ⟨g,cap,cur,rfl,_,_,hnc,_⟩
 ·simp [Builtin.append_,run_underlying ht,sizeOf,typeInfo,hi,Builtin.lenOf,Builtin.firstCells]
 ·simp [Builtin.append_,run_underlying ht,sizeOf,typeInfo,hi,Builtin.lenOf,Builtin.firstCells,hnc,storeCells]
theorem Row.lit {w:World} {t:TypeId} {cs:Array Value} {g:Nat} (h:g = w.heap.size):Row (w.alloc (.cells cs t)) g t cs:=h ▸ Row.new w t cs
theorem Row.litd {w:World} {t:TypeId} {cs:Array Value} {g:Nat} (h:g = w.heap.size):Row (w.alloc (.cells cs t)).drew g t cs:=h ▸ Row.new w t cs
theorem zil {α:Type} {f g:List α} {k:Nat} {x y:α} (hx:f[k]? = some x) (hy:g[k]? = some y) (h:f.take k = g.take k):f.take (k + 1) = g.take (k + 1) ↔ x = y:=by
 rw [List.take_add_one,List.take_add_one,hx,hy,h]
 simp
end Go.Proofs.YthkfjnmnoanhlaaGreatDoor
