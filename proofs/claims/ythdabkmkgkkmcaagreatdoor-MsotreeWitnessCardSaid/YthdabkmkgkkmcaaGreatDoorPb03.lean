/- Part 3 of the proof; it says: lemmas and contracts. No conditions but those that each theorem states. -/
import Derived.Test.YthdabkmkgkkmcaaGreatDoorChecked
import Derived.WalkKit
import Derived.WalkSpells
import Derived.WalkLawsBesides
import Derived.Handy
import Derived.Lib.Hide
import Derived.Deep.LoopGhost
import Derived.Deep.QuietTactic
import Derived.BigQuiet
import Derived.Lib.QuietBelow
import Derived.Deep.RegionWith
import Derived.Deep.DeepFit
import Derived.Deep.DeepMust
import Derived.Maps.AppendAt
import Derived.Deep.AppendLies
import Derived.Test.YthdabkmkgkkmcaaGreatDoorPb01
set_option linter.unusedSimpArgs false
set_option linter.unusedVariables false
set_option maxRecDepth 100000
set_option maxHeartbeats 32000000
namespace Go.Proofs.YthdabkmkgkkmcaaGreatDoor
open Go.RowKit
theorem zdc {a b:Bool} (h:a = true ↔ b = true):Ending.returned (.bool a) = Ending.returned (.bool b):=by rw [Bool.eq_iff_iff.2 h]
theorem zao {k:IntKind} {a b:Int} (h:a = b):Ending.returned (.int k a) = Ending.returned (.int k b):=by rw [h]
def Row (w:World) (g:Nat) (t:TypeId) (cs:Array Value):Prop:=w.heap[g]? = some (.cells cs t (0,0))
theorem Row.lt {w:World} {g:Nat} {t:TypeId} {cs:Array Value} (h:Row w g t cs):g < w.heap.size:=lt_of_block h
theorem Row.cell {w:World} {g:Nat} {t:TypeId} {cs:Array Value} (h:Row w g t cs):∀ i,w.cell? ⟨g,i,none⟩ = cs[i]?:=fun i => cell_of_row w g i cs t (0,0) h
theorem Row.free {w:World} {g:Nat} {t:TypeId} {cs:Array Value} (h:Row w g t cs):∀ i,w.frozen? ⟨g,i,none⟩ = false:=fun i => by unfold Row at h; simp [World.frozen?,h]
theorem Row.new (w:World) (t:TypeId) (cs:Array Value):Row (w.alloc (.cells cs t)) w.heap.size t cs:=heap_alloc_new w _
theorem Row.drew {w:World} {g:Nat} {t:TypeId} {cs:Array Value} (h:Row w g t cs):Row w.drew g t cs:=h
theorem Row.alloc {w:World} {g:Nat} {t:TypeId} {cs:Array Value} (h:Row w g t cs) (o:Obj):Row (w.alloc o) g t cs:=(Below.heap_alloc w o g h.lt).trans h
theorem Row.set {w:World} {g:Nat} {t:TypeId} {cs:Array Value} (h:Row w g t cs) (i:Nat) (u:Value):Row (w.setCell ⟨g,i,none⟩ u) g t (cs.setIfInBounds i u):=by
 unfold Row at h ⊢
 simp [World.setCell,Array.getElem?_modify,h]
theorem Row.far {w:World} {g:Nat} {t:TypeId} {cs:Array Value} (h:Row w g t cs) {p:Addr} (hp:g ≠ p.block) (u:Value):Row (w.setCell p u) g t cs:=(Below.heap_setCell w p u g hp).trans h
theorem Row.below {w w':World} {g:Nat} {t:TypeId} {cs:Array Value} {B:Nat} (h:Row w g t cs) (hb:Below B w w') (hg:g < B):Row w' g t cs:=(hb.block g hg).trans h
theorem Row.grown {w w':World} {g:Nat} {t:TypeId} {cs:Array Value} {row:Option Nat} (h:Row w g t cs) (hb:w.grownBy w' row) (hg:some g ≠ row):Row w' g t cs:=(hb.block g h.lt hg).trans h
theorem za9 {w w1:World} {cs:Array Value} {t:TypeId} (h:Below (w.alloc (.cells cs t)).heap.size (w.alloc (.cells cs t)) w1) :
  (∀ j,w1.cell? ⟨w.heap.size,j,none⟩ = cs[j]?) /\ (∀ j,w1.frozen? ⟨w.heap.size,j,none⟩ = false) /\ w.heap.size < w1.heap.size /\ Hid (Below w.heap.size w w1):=by
 have r:=(Row.new w t cs).below h (by simp only [World.size_alloc]; omega)
 exact ⟨r.cell,r.free,r.lt,(Below.alloc (Below.refl _ _) zn _).trans (h.mono (by simp only [World.size_alloc]; omega))⟩
theorem after2 {w w1:World} {cs ds:Array Value} {t u:TypeId} (h:Below ((w.alloc (.cells cs t)).alloc (.cells ds u)).heap.size ((w.alloc (.cells cs t)).alloc (.cells ds u)) w1) :
  (∀ j,w1.cell? ⟨w.heap.size,j,none⟩ = cs[j]?) /\ (∀ j,w1.frozen? ⟨w.heap.size,j,none⟩ = false) /\ (∀ j,w1.cell? ⟨w.heap.size + 1,j,none⟩ = ds[j]?) /\ (∀ j,w1.frozen? ⟨w.heap.size + 1,j,none⟩ = false) /\
   w.heap.size + 1 < w1.heap.size /\ Hid (Below w.heap.size w w1):=by
 have r:=(Row.alloc (Row.new w t cs) (.cells ds u)).below h (by simp only [World.size_alloc]; omega)
 have q:=(Row.new (w.alloc (.cells cs t)) u ds).below h (by simp only [World.size_alloc]; omega)
 simp only [World.size_alloc] at q
 exact ⟨r.cell,r.free,q.cell,q.free,q.lt,((Below.alloc (Below.refl _ _) zn _).alloc (by simp only [World.size_alloc]; omega) _).trans (h.mono (by simp only [World.size_alloc]; omega))⟩
theorem zmk {P:Program} {c:Code} {Q:Exit -> Act -> World -> Prop} {n:Nat} {a:Act} {w:World} (F:World -> Prop) (hF:F w) (hk:∀ W,F W -> Code.rounds P c Q n a W):Code.rounds P c Q n a w:=hk w hF
theorem zaa {P:Program} {c:Code} {Q:Exit -> Act -> World -> Prop} {a:Act} {w:World} (F:World -> Prop) (hF:F w) (hk:∀ W,F W -> Code.wp P c Q a W):Code.wp P c Q a w:=hk w hF
theorem zdb {P:Program} (t e:TypeId) (i:TypeInfo) (z:Value) (ht:P.underlying t = some (.slice e)) (hi:P.info? e = some i) (hz:i.zero = some z)
  (kl kc:IntKind) (n c:Nat) (hnc:n <= c) (hbytes:i.bytes * c <= 281474976710656) (h63:c <= 9223372036854775807) (w:World) :
  (Instr.makeSlice t (.int kl (n:Int)) (.int kc (c:Int))).run P w = .ok (.slice (some ⟨w.heap.size,0,none⟩) n c) (w.alloc (.cells (madeCells z.cells (c * i.size)) e)):=by
 have hb:(i.bytes:Int) * (c:Int) <= 281474976710656:=by
  have h:((i.bytes * c:Nat):Int) <= 281474976710656:=by omega
  rwa [Int.natCast_mul] at h
 have hr:=run_make (P:=P) w t e i z ht hi hz kl kc n c (by omega) (by omega) hb (by omega)
 simp only [Int.toNat_natCast] at hr
 exact hr
theorem zrl:(Tryz.prog.info? 3).map (fun i => (i.zero,i.size,i.bytes)) = some (some (.int .i64 0),1,8):=by kernel_rfl
theorem zif (n:Nat) (hn:n <= 1000000) (w:World) :
  (Instr.makeSlice 36 (.int .i64 (n:Int)) (.int .i64 (n:Int))).run Tryz.prog w = .ok (.slice (some ⟨w.heap.size,0,none⟩) n n) (w.alloc (.cells (madeCells #[.int .i64 0] n) 3)):=by
 obtain ⟨i,hi,hz,h1,h2⟩:=info_parts zrl
 have:=zdb (P:=Tryz.prog) 36 3 i (.int .i64 0) Tryz.underlying36 hi hz .i64 .i64 n n zn (by rw [h2]; omega) (by omega) w
 rw [h1,Nat.mul_one] at this
 exact this
theorem zg2 (W:World) (s x y:Value):(Instr.field 136 (.agg #[s,x,y]) 0).run Tryz.prog W = .ok s W:=by kernel_rfl
theorem zjp (W:World) (s x y:Value):(Instr.field 136 (.agg #[s,x,y]) 1).run Tryz.prog W = .ok x W:=by kernel_rfl
theorem zbw (W:World) (s x y:Value):(Instr.field 136 (.agg #[s,x,y]) 2).run Tryz.prog W = .ok y W:=by kernel_rfl
def Mk.cells (m:Mk):List Value:=[.int .u8 m.op,.int .i64 m.x,.int .i64 m.y,.int .i64 m.a,.int .i64 m.b]
def zbl (f:List Mk):List Value:=f.flatMap Mk.cells
def OpOk (f:List Mk):Prop:=∀ m ∈ f,0 <= m.op /\ m.op <= 255
theorem zc6 (f:List Mk):(zbl f).length = f.length * 5:=by
 induction f with
 | nil => rfl
 | cons m f ih => simp only [zbl,List.flatMap_cons,List.length_append,List.length_cons] at *; rw [ih]; simp [Mk.cells]; omega
theorem zb9 (f:List Mk) (i:Nat) (m:Mk) (h:f[i]? = some m) (j:Nat) (hj:j < 5):(zbl f)[i * 5 + j]? = m.cells[j]?:=by
 induction f generalizing i with
 | nil => simp at h
 | cons a f ih =>
  simp only [zbl,List.flatMap_cons]
  cases i with
  | zero =>
   simp only [List.getElem?_cons_zero,Option.some.injEq] at h
   subst h
   rw [List.getElem?_append_left (by simp [Mk.cells]; omega)]
   simp
  | succ i =>
   simp only [List.getElem?_cons_succ] at h
   rw [List.getElem?_append_right (by simp [Mk.cells]; omega)]
   have:=ih i h
   simp only [zbl] at this
   rw [<- this]
   congr 1
   simp [Mk.cells]; omega
theorem ziy (f g:List Mk):zbl (f ++ g) = zbl f ++ zbl g:=by simp [zbl]
theorem zm6 (f:List Mk):∀ u ∈ zbl f,u.oneCell' = true:=by
 intro u hu
 simp only [zbl,List.mem_flatMap,Mk.cells] at hu
 obtain ⟨m,_,hu⟩:=hu
 simp only [List.mem_cons,List.not_mem_nil,or_false] at hu
 rcases hu with rfl | rfl | rfl | rfl | rfl <;> rfl
def M5 (w:World) (b p:Nat) (m:Mk):Prop :=
 w.cell? ⟨b,p,none⟩ = some (.int .u8 m.op) /\ w.cell? ⟨b,p + 1,none⟩ = some (.int .i64 m.x) /\ w.cell? ⟨b,p + 2,none⟩ = some (.int .i64 m.y) /\
  w.cell? ⟨b,p + 3,none⟩ = some (.int .i64 m.a) /\ w.cell? ⟨b,p + 4,none⟩ = some (.int .i64 m.b)
theorem M5.keep {w w':World} {b p:Nat} {m:Mk} (h:M5 w b p m) (hk:∀ o,w'.cell? ⟨b,o,none⟩ = w.cell? ⟨b,o,none⟩):M5 w' b p m:=by
 unfold M5 at *
 simpa only [hk] using h
def MS (w:World) (v:Value) (f:List Mk):Prop :=
 OpOk f /\ ∃ A c,v = .slice A f.length c /\ f.length <= c /\ c <= 9223372036854775807 /\
  (0 < f.length -> ∃ b o,A = some ⟨b,o,none⟩ /\ b < w.heap.size /\ ∀ i m,f[i]? = some m -> M5 w b (o + i * 5) m)
theorem MS.below {w w':World} {v:Value} {f:List Mk} {B:Nat} (h:MS w v f) (hb:Below B w w') (hB:w.heap.size <= B):MS w' v f:=by
 obtain ⟨h0,A,c,hv,h1,h2,h3⟩:=h
 refine ⟨h0,A,c,hv,h1,h2,fun hp => ?_⟩
 obtain ⟨b,o,hA,hlt,hm⟩:=h3 hp
 exact ⟨b,o,hA,Nat.lt_of_lt_of_le hlt hb.size,fun i m him => (hm i m him).keep fun q => hb.cell (p:=⟨b,q,none⟩) (by simpa using Nat.lt_of_lt_of_le hlt hB)⟩
theorem MS.nil (w:World):MS w (.slice none 0 0) []:=⟨by simp [OpOk],none,0,rfl,by simp,by omega,by simp⟩
def MO (w:World) (B:Nat) (v:Value) (f:List Mk):Prop:=OpOk f /\ w.ownsRow B 26 5 v f.length (zbl f)
theorem MO.nil (w:World) (B:Nat):MO w B (.slice none 0 0) []:=⟨by simp [OpOk],World.ownsRow_nil _ _ _ _⟩
theorem MO.ms {w:World} {B:Nat} {v:Value} {f:List Mk} (h:MO w B v f):MS w v f:=by
 obtain ⟨h0,h⟩:=h
 have hx:=h
 refine ⟨h0,?_⟩
 rcases h.2 with ⟨hv,hn⟩ | ⟨g,cap,cur,hv,hB,hg,hnc,hcm,hcs,ht⟩
 ·exact ⟨none,0,by rw [hv,hn],by omega,by omega,by omega⟩
 ·refine ⟨some ⟨g,0,none⟩,cap,hv,hnc,by simpa [maxLen] using hcm,fun _ => ⟨g,0,rfl,lt_of_block hg,fun i m hi => ?_⟩⟩
  have hi':i < f.length:=(List.getElem?_eq_some_iff.1 hi).1
  have key:∀ j,j < 5 -> w.cell? ⟨g,0 + i * 5 + j,none⟩ = m.cells[j]?:=fun j hj => by
   subst hv
   rw [Nat.zero_add,hx.cellAt _ (by omega),zb9 f i m hi j hj]
  exact ⟨key 0 (by omega),key 1 (by omega),key 2 (by omega),key 3 (by omega),key 4 (by omega)⟩
theorem MO.below {w w':World} {B B':Nat} {v:Value} {f:List Mk} (h:MO w B v f) (hb:Below B' w w') (hB:w.heap.size <= B'):MO w' B v f:=by
 obtain ⟨h0,h1,h⟩:=h
 refine ⟨h0,h1,?_⟩
 rcases h with h | ⟨g,cap,cur,hv,hBg,hg,r⟩
 ·exact .inl h
 ·exact .inr ⟨g,cap,cur,hv,hBg,(hb.block g (Nat.lt_of_lt_of_le (lt_of_block hg) hB)).trans hg,r⟩
theorem MO.mono {w:World} {B B':Nat} {v:Value} {f:List Mk} (h:MO w B v f) (hB:B' <= B):MO w B' v f:=by
 obtain ⟨h0,h1,h⟩:=h
 refine ⟨h0,h1,?_⟩
 rcases h with h | ⟨g,cap,cur,hv,hB,hg,r⟩
 ·exact .inl h
 ·exact .inr ⟨g,cap,cur,hv,by omega,hg,r⟩
theorem zjl:(Tryz.prog.info? 26).map (fun i => (i.zero,i.size,i.bytes)) = some (some (.agg #[.int .u8 0,.int .i64 0,.int .i64 0,.int .i64 0,.int .i64 0]),5,40):=by kernel_rfl
def IS (w:World) (v:Value) (l:List Int):Prop :=
 ∃ A c,v = .slice A l.length c /\ l.length <= c /\ c <= 9223372036854775807 /\
  (0 < l.length -> ∃ b o,A = some ⟨b,o,none⟩ /\ b < w.heap.size /\ ∀ i x,l[i]? = some x -> w.cell? ⟨b,o + i,none⟩ = some (.int .i64 x))
theorem zct {P:Program} (w:World) (base:Nat) (t ty e:TypeId) (i:TypeInfo) (size:Nat) (ht:P.underlying t = some (.slice e)) (hi:P.info? e = some i)
  (v:Value) (n:Nat) (xs:List Value) (hown:w.ownsRow base e size v n xs) (c:Nat):(Builtin.append_ #[t,t] ty #[v,.slice none 0 c]).run P w = .ok v w:=by
 rcases hown.2 with ⟨rfl,rfl⟩ | ⟨g,cap,cur,rfl,_,_,hnc,_⟩
 ·simp [Builtin.append_,run_underlying ht,sizeOf,typeInfo,hi,Builtin.lenOf,Builtin.firstCells]
 ·simp [Builtin.append_,run_underlying ht,sizeOf,typeInfo,hi,Builtin.lenOf,Builtin.firstCells,hnc,storeCells]
theorem zij (w:World) (B:Nat) (v:Value) (f:List Mk) (hown:MO w B v f) (x:Value) (g:List Mk) (hx:MS w x g) (ty:TypeId) (hl:f.length + g.length <= 1000000) (hB:B <= w.heap.size) :
  ∃ v' w',(Builtin.append_ #[23,23] ty #[v,x]).run Tryz.prog w = .ok v' w' /\ MO w' B v' (f ++ g) /\ w.grownBy w' v.ownBlock /\ (v'.ownBlock = v.ownBlock \/ v'.ownBlock = some w.heap.size):=by
 obtain ⟨i,hi,hz,h1,h2⟩:=info_parts zjl
 obtain ⟨h0,hown⟩:=hown
 obtain ⟨hg,A,c,rfl,hc,hc2,hcell⟩:=hx
 have hop:OpOk (f ++ g):=by
  intro m hm
  rcases List.mem_append.1 hm with h | h
  ·exact h0 m h
  ·exact hg m h
 have hlen:(f ++ g).length = f.length + g.length:=by simp
 by_cases hn:0 < g.length
 ·obtain ⟨b,o,rfl,hb,hm⟩:=hcell hn
  have hnews:∀ j u,(zbl g)[j]? = some u -> w.cell? ((⟨b,o,none⟩:Addr).add j) = some u:=by
   intro j u hu
   have hj:j < g.length * 5:=by rw [<- zc6]; exact (List.getElem?_eq_some_iff.1 hu).1
   have hi5:j / 5 < g.length:=by omega
   obtain ⟨m,hmm⟩:∃ m,g[j / 5]? = some m:=⟨g[j / 5],List.getElem?_eq_getElem hi5⟩
   have hsplit:j = j / 5 * 5 + j % 5:=by omega
   have hr5:j % 5 < 5:=by omega
   have e:=zb9 g (j / 5) m hmm (j % 5) hr5
   rw [<- hsplit,hu] at e
   have hm5:=hm (j / 5) m hmm
   have hadd:(⟨b,o,none⟩:Addr).add j = ⟨b,o + j / 5 * 5 + j % 5,none⟩:=by
    unfold Addr.add
    by_cases hj0:j = 0
    ·subst hj0; simp
    ·rw [if_neg hj0]; simp; omega
   rw [hadd]
   obtain ⟨c0,c1,c2,c3,c4⟩:=hm5
   have hcase:j % 5 = 0 \/ j % 5 = 1 \/ j % 5 = 2 \/ j % 5 = 3 \/ j % 5 = 4:=by omega
   rcases hcase with h | h | h | h | h <;> rw [h] at e ⊢ <;> simp [Mk.cells] at e <;> subst e <;> assumption
  obtain ⟨v',w',hrun,h3,h4,_,h6⟩:=run_append_own_at (P:=Tryz.prog) w B 23 ty 26 i _ 5 40 Tryz.underlying23 hi hz h1 h2 rfl (by omega) v f.length (zbl f) hown
   ⟨b,o,none⟩ g.length c (zbl g) (zc6 g) hnews (zm6 g) (by simp only [maxLen]; omega) (by omega) hB
  exact ⟨v',w',hrun,⟨hop,by rw [hlen,ziy]; exact h3⟩,h4,h6⟩
 ·have hg0:g = []:=List.eq_nil_of_length_eq_zero (by omega)
  subst hg0
  simp only [List.append_nil] at hop ⊢
  cases A with
  | none => exact ⟨v,w,zct w B _ ty _ i 5 Tryz.underlying23 hi v _ _ hown c,⟨hop,hown⟩,World.grownBy.refl w _,.inl rfl⟩
  | some ad =>
   obtain ⟨v',w',hrun,h3,h4,_,h6⟩:=run_append_own_at (P:=Tryz.prog) w B 23 ty 26 i _ 5 40 Tryz.underlying23 hi hz h1 h2 rfl (by omega) v f.length (zbl f) hown
    ad 0 c [] (by simp) (by simp) (by simp) (by simp only [maxLen]; omega) (by omega) hB
   exact ⟨v',w',hrun,⟨hop,by simpa using h3⟩,h4,h6⟩
theorem zfp {o:Oper} {a:Act} {w:World} {K:Act -> World -> Prop} {Q:Exit -> Act -> World -> Prop} (s x:Operand)
  (ho:o.op = .call { callee:=.builtin .append,args:=#[s,x],argTypes:=#[23,23] })
  (B:Nat) (v:Value) (f:List Mk) (hs:a.eval s = v) (hown:MO w B v f) (y:Value) (g:List Mk) (hx:a.eval x = y) (hy:MS w y g) (hl:f.length + g.length <= 1000000) (hB:B <= w.heap.size)
  (h:∀ v' w',MO w' B v' (f ++ g) -> w.grownBy w' v.ownBlock -> (v'.ownBlock = v.ownBlock \/ v'.ownBlock = some w.heap.size) -> K (a.put o.dst v') w'):o.wp Tryz.prog a w K Q:=by
 obtain ⟨v',w',hrun,h2,h3,h4⟩:=zij w B v f hown y g hy o.type hl hB
 unfold Oper.wp execOp
 simp only [ho,resolve,invoke,builtin,Sem.run_bind,Sem.run_pure,Result.andThen_ok,List.map_toArray,List.map_cons,List.map_nil,hs,hx,hrun]
 exact h v' w' h2 h3 h4
theorem zay {ops:Array Oper} {rest:List Oper} {o:Oper} {a:Act} {w:World} {Q:Exit -> Act -> World -> Prop} (hgd:o.guard = none) (s x:Operand)
  (ho:o.op = .call { callee:=.builtin .append,args:=#[s,x],argTypes:=#[23,23] })
  (B:Nat) (v:Value) (f:List Mk) (hs:a.eval s = v) (hown:MO w B v f) (y:Value) (g:List Mk) (hx:a.eval x = y) (hy:MS w y g) (hl:f.length + g.length <= 1000000) (hB:B <= w.heap.size)
  (h:∀ v' w',MO w' B v' (f ++ g) -> w.grownBy w' v.ownBlock -> (v'.ownBlock = v.ownBlock \/ v'.ownBlock = some w.heap.size) -> wpList Tryz.prog ops Q rest (a.put o.dst v') w'):wpList Tryz.prog ops Q (o :: rest) a w :=
 wpList_plain hgd fun _ hK => zfp s x ho B v f hs hown y g hx hy hl hB fun v' w' h2 h3 h4 => hK _ _ (h v' w' h2 h3 h4)
theorem zd8 {ops:Array Oper} {o:Oper} {a:Act} {w:World} {K:Act -> World -> Prop} {Q:Exit -> Act -> World -> Prop} {E:Prop} (hgd:o.guard = none) (s x:Operand)
  (ho:o.op = .call { callee:=.builtin .append,args:=#[s,x],argTypes:=#[23,23] })
  (B:Nat) (v:Value) (f:List Mk) (hs:a.eval s = v) (hown:MO w B v f) (y:Value) (g:List Mk) (hx:a.eval x = y) (hy:MS w y g) (hl:f.length + g.length <= 1000000) (hB:B <= w.heap.size)
  (h:∀ v' w',MO w' B v' (f ++ g) -> w.grownBy w' v.ownBlock -> (v'.ownBlock = v.ownBlock \/ v'.ownBlock = some w.heap.size) -> K (a.put o.dst v') w') :
  if Region.wanted o (yielded ops a.tmps) = true then Oper.wp Tryz.prog o a w K Q else E:=by
 have hw:Region.wanted o (yielded ops a.tmps) = true:=by simp [Region.wanted,hgd]
 rw [if_pos hw]
 exact zfp s x ho B v f hs hown y g hx hy hl hB h
theorem Row.lit {w:World} {t:TypeId} {cs:Array Value} {g:Nat} (h:g = w.heap.size):Row (w.alloc (.cells cs t)) g t cs:=h ▸ Row.new w t cs
theorem Row.litd {w:World} {t:TypeId} {cs:Array Value} {g:Nat} (h:g = w.heap.size):Row (w.alloc (.cells cs t)).drew g t cs:=h ▸ Row.new w t cs
theorem MS.one {w:World} {g:Nat} {m:Mk} (h:Row w g 26 #[.int .u8 m.op,.int .i64 m.x,.int .i64 m.y,.int .i64 m.a,.int .i64 m.b]) (h0:0 <= m.op) (h1:m.op <= 255):MS w (.slice (some ⟨g,0,none⟩) 1 1) [m]:=by
 refine ⟨by simpa [OpOk] using ⟨h0,h1⟩,some ⟨g,0,none⟩,1,rfl,by simp,by omega,fun _ => ⟨g,0,rfl,h.lt,fun i m' hi => ?_⟩⟩
 cases i with
 | succ i => simp at hi
 | zero =>
  simp only [List.getElem?_cons_zero,Option.some.injEq] at hi
  subst hi
  have c:=h.cell
  exact ⟨by rw [c]; rfl,by rw [c]; rfl,by rw [c]; rfl,by rw [c]; rfl,by rw [c]; rfl⟩
def RetMO (w:World) (f:List Mk) (e:Ending) (w':World):Prop:=∃ v,e = .returned v /\ Below w.heap.size w w' /\ MO w' w.heap.size v f
theorem zcz {w w1 w2:World} {B:Nat} {v v':Value} {f g:List Mk} (hb:Below B w w1) (ho:MO w1 B v f) (hg:w1.grownBy w2 v.ownBlock) (hB:B <= w1.heap.size):Below B w w2 :=
 hb.grown hg hB fun k hk => (ho.2.lt k hk).1
theorem zlu (f:List Mk) (v:Value) (w:World) (hv:MS w v f) (hl:f.length <= 1000000):Calls Tryz.prog 10 #[v] w (RetMO w f):=by
 have HV:=zh hv; clear hv
 go_enter Tryz.func10,Tryz.ntmps10
 go_wp2_with (at_builtin; go_must (refine zay rfl (.const (.slice none 0 0)) (.tmp 3) rfl w.heap.size (.slice none 0 0) [] rfl (MO.nil _ _) v f rfl HV.out (by simpa using hl) zn ?_; intro v1 w1 ho1 hg1 _))
 go_returns
 exact ⟨v1,rfl,zcz (v':=v1) (g:=f) (Below.refl _ _) (MO.nil _ _) hg1 zn,ho1⟩
theorem MO.made {w:World} {n:Nat} (c:Array Value) (hc:c.size = n * 5) (hn:n <= 1000000):MO (w.alloc (.cells c 26)) w.heap.size (.slice (some ⟨w.heap.size,0,none⟩) 0 n) [] :=
 ⟨by simp [OpOk],World.ownsRow_made w c n zn (by simp only [maxLen]; omega) hc⟩
theorem zjw (f:List Mk) (v:Value) (w:World) (hv:MS w v f) (hl:f.length <= 1000000):Calls Tryz.prog 92 #[v] w (RetMO w f):=by
 have hnil:=fun (W:World) (A:Option Addr) (n c:Nat) => Lib.run_eql_slice_nil (P:=Tryz.prog) W 23 26 A n c 0 0 Tryz.underlying23
 have HV:=zh hv
 obtain ⟨hop,A,c,rfl,hc,hc2,hcell⟩:=hv
 cases A with
 | none =>
  have hf:f = []:=by
   cases f with
   | nil => rfl
   | cons m f => obtain ⟨_,_,h,_⟩:=hcell (by simp); cases h
  subst hf
  clear hcell
  go_enter Tryz.func92,Tryz.ntmps92
  go_wp2
  go_returns
  exact ⟨_,rfl,Below.refl _ _,MO.nil _ _⟩
 | some ad =>
  clear hcell
  go_enter Tryz.func92,Tryz.ntmps92
  go_wp2_with (at_builtin; go_must (refine zay rfl (.tmp 5) (.tmp 6) rfl w.heap.size _ [] rfl (MO.made #[] rfl (by omega)) _ f rfl (HV.out.below (Below.alloc (Below.refl _ _) zn _) zn) (by simpa using hl) (by simp) ?_; intro v1 w1 ho1 hg1 _))
  go_returns
  exact ⟨v1,rfl,zcz (v':=v1) (g:=f) (Below.alloc (Below.refl _ _) zn _) (MO.made #[] rfl (by omega)) hg1 (by simp),ho1⟩
theorem idx4 (W:World) (a b c d:Value):(Instr.index 192 (.agg #[a,b,c,d]) (.int .u8 0)).run Tryz.prog W = .ok a W /\ (Instr.index 192 (.agg #[a,b,c,d]) (.int .u8 1)).run Tryz.prog W = .ok b W /\
  (Instr.index 192 (.agg #[a,b,c,d]) (.int .u8 2)).run Tryz.prog W = .ok c W /\ (Instr.index 192 (.agg #[a,b,c,d]) (.int .u8 3)).run Tryz.prog W = .ok d W:=by
 refine ⟨?_,?_,?_,?_⟩ <;> kernel_rfl
theorem idx9 (W:World) (a b c d e f g h i:Value):(Instr.index 193 (.agg #[a,b,c,d,e,f,g,h,i]) (.int .i64 0)).run Tryz.prog W = .ok a W /\ (Instr.index 193 (.agg #[a,b,c,d,e,f,g,h,i]) (.int .i64 1)).run Tryz.prog W = .ok b W /\
  (Instr.index 193 (.agg #[a,b,c,d,e,f,g,h,i]) (.int .i64 2)).run Tryz.prog W = .ok c W /\ (Instr.index 193 (.agg #[a,b,c,d,e,f,g,h,i]) (.int .i64 3)).run Tryz.prog W = .ok d W /\
  (Instr.index 193 (.agg #[a,b,c,d,e,f,g,h,i]) (.int .i64 4)).run Tryz.prog W = .ok e W /\ (Instr.index 193 (.agg #[a,b,c,d,e,f,g,h,i]) (.int .i64 5)).run Tryz.prog W = .ok f W /\
  (Instr.index 193 (.agg #[a,b,c,d,e,f,g,h,i]) (.int .i64 6)).run Tryz.prog W = .ok g W /\ (Instr.index 193 (.agg #[a,b,c,d,e,f,g,h,i]) (.int .i64 7)).run Tryz.prog W = .ok h W /\
  (Instr.index 193 (.agg #[a,b,c,d,e,f,g,h,i]) (.int .i64 8)).run Tryz.prog W = .ok i W:=by
 refine ⟨?_,?_,?_,?_,?_,?_,?_,?_,?_⟩ <;> kernel_rfl
def ze6 (op:Int) (w:World) (e:Ending) (w':World):Prop:=e = .returned (.agg #[.string ⟨(nm op).toArray⟩,.int .i64 (nv op),.int .i64 (nc op)]) /\ Below w.heap.size w w'
theorem zpp (op:Int) (w:World) (h:op = 1 \/ op = 3 \/ op = 4 \/ op = 9 \/ op = 10 \/ op = 11 \/ op = 12 \/ op = 13 \/ op = 14 \/ op = 15):Calls Tryz.prog 88 #[.int .u8 op] w (ze6 op w):=by
 have i0:=fun W a b c d => (idx4 W a b c d).1
 have i1:=fun W a b c d => (idx4 W a b c d).2.1
 have i2:=fun W a b c d => (idx4 W a b c d).2.2.1
 have i3:=fun W a b c d => (idx4 W a b c d).2.2.2
 rcases h with rfl | rfl | rfl | rfl | rfl | rfl | rfl | rfl | rfl | rfl
 all_goals
  go_enter Tryz.func88,Tryz.ntmps88
  go_wp2
  go_returns
  exact ⟨rfl,by go_grown⟩
theorem zpo (op:Int) (w:World) (h:op = 2 \/ op = 5 \/ op = 6 \/ op = 7 \/ op = 8):Calls Tryz.prog 88 #[.int .u8 op] w (ze6 op w):=by
 obtain ⟨i0,i1,i2,i3,i4,i5,i6,i7,i8⟩:_ /\ _ /\ _ /\ _ /\ _ /\ _ /\ _ /\ _ /\ _:=⟨fun W a b c d e f g h i => (idx9 W a b c d e f g h i).1,fun W a b c d e f g h i => (idx9 W a b c d e f g h i).2.1,fun W a b c d e f g h i => (idx9 W a b c d e f g h i).2.2.1,fun W a b c d e f g h i => (idx9 W a b c d e f g h i).2.2.2.1,
  fun W a b c d e f g h i => (idx9 W a b c d e f g h i).2.2.2.2.1,fun W a b c d e f g h i => (idx9 W a b c d e f g h i).2.2.2.2.2.1,fun W a b c d e f g h i => (idx9 W a b c d e f g h i).2.2.2.2.2.2.1,fun W a b c d e f g h i => (idx9 W a b c d e f g h i).2.2.2.2.2.2.2.1,fun W a b c d e f g h i => (idx9 W a b c d e f g h i).2.2.2.2.2.2.2.2⟩
 rcases h with rfl | rfl | rfl | rfl | rfl
 all_goals
  go_enter Tryz.func88,Tryz.ntmps88
  go_wp2
  go_rounds 10
  go_returns
  exact ⟨rfl,by go_grown⟩
theorem zpn (op:Int) (w:World) (h:op = 0 \/ (16 <= op /\ op <= 255)):Calls Tryz.prog 88 #[.int .u8 op] w (ze6 op w):=by
 obtain ⟨i0,i1,i2,i3,i4,i5,i6,i7,i8⟩:_ /\ _ /\ _ /\ _ /\ _ /\ _ /\ _ /\ _ /\ _:=⟨fun W a b c d e f g h i => (idx9 W a b c d e f g h i).1,fun W a b c d e f g h i => (idx9 W a b c d e f g h i).2.1,fun W a b c d e f g h i => (idx9 W a b c d e f g h i).2.2.1,fun W a b c d e f g h i => (idx9 W a b c d e f g h i).2.2.2.1,
  fun W a b c d e f g h i => (idx9 W a b c d e f g h i).2.2.2.2.1,fun W a b c d e f g h i => (idx9 W a b c d e f g h i).2.2.2.2.2.1,fun W a b c d e f g h i => (idx9 W a b c d e f g h i).2.2.2.2.2.2.1,fun W a b c d e f g h i => (idx9 W a b c d e f g h i).2.2.2.2.2.2.2.1,fun W a b c d e f g h i => (idx9 W a b c d e f g h i).2.2.2.2.2.2.2.2⟩
 rcases h with rfl | ⟨h1,h2⟩
 ·go_enter Tryz.func88,Tryz.ntmps88
  go_wp2
  go_rounds 10
  go_returns
  exact ⟨rfl,by go_grown⟩
 ·have e:nm op = [] /\ nv op = 0 /\ nc op = 0:=by
   unfold nm nv nc
   refine ⟨?_,?_,?_⟩ <;> repeat (first | rfl | rw [if_neg (by omega)])
  go_enter Tryz.func88,Tryz.ntmps88
  go_wp2
  go_rounds 10
  go_returns
  exact ⟨by rw [e.1,e.2.1,e.2.2],by go_grown⟩
theorem zaj (op:Int) (w:World) (h0:0 <= op) (h1:op <= 255):Calls Tryz.prog 88 #[.int .u8 op] w (ze6 op w):=by
 by_cases h:op = 2 \/ op = 5 \/ op = 6 \/ op = 7 \/ op = 8
 ·exact zpo op w h
 ·by_cases h':op = 0 \/ (16 <= op /\ op <= 255)
  ·exact zpn op w h'
  ·exact zpp op w (by omega)
theorem zcw (m:Mk) (w:World) (h0:0 <= m.op) (h1:m.op <= 255):Calls Tryz.prog 110 #[.agg #[.int .u8 m.op,.int .i64 m.x,.int .i64 m.y,.int .i64 m.a,.int .i64 m.b]] w fun e w' => e = .returned (.bool (spare m)) /\ Below w.heap.size w w':=by
 have f1:=zjp
 rcases zip m.op with hv | hv | hv
 all_goals
  go_enter Tryz.func110,Tryz.ntmps110
  go_wp2_with (go_at_call 88; go_must (refine (zaj _ _ h0 h1).mono ?_; rintro e w1 ⟨rfl,hb1⟩; obtain ⟨bc1,bc2,bc3,hb2⟩:=za9 hb1; clear hb1))
  all_goals
   go_returns
   refine ⟨zdc ?_,hb2.out⟩
   first | (simp [spare,hv]; done) | (simp [spare,hv, *]; done) | (simp [spare,hv]; omega) | (simp [spare,hv, *]; omega)
theorem zbe (m:Mk) (v:Int) (w:World) (h0:0 <= m.op) (h1:m.op <= 255):Calls Tryz.prog 109 #[.agg #[.int .u8 m.op,.int .i64 m.x,.int .i64 m.y,.int .i64 m.a,.int .i64 m.b],.int .i64 v] w fun e w' => e = .returned (.bool (zak m v)) /\ Below w.heap.size w w':=by
 have f1:=zjp
 rcases zip m.op with hv | hv | hv
 all_goals
  go_enter Tryz.func109,Tryz.ntmps109
  go_wp2_with (go_at_call 88; go_must (refine (zaj _ _ h0 h1).mono ?_; rintro e w1 ⟨rfl,hb1⟩; obtain ⟨bc1,bc2,bc3,hb2⟩:=za9 hb1; clear hb1))
  all_goals
   go_returns
   refine ⟨zdc ?_,hb2.out⟩
   first | (simp [zak,hv]; done) | (simp [zak,hv, *]; done) | (simp [zak,hv]; omega) | (simp [zak,hv, *]; omega)
def outc (n:Nat) (l:List Nat):Array Value:=((l ++ List.replicate (n - l.length) 0).map fun s:Nat => Value.int .i64 s).toArray
theorem zf4 (n:Nat) (l:List Nat) (j:Nat) (h:j < n) (hl:l.length <= n):(outc n l)[j]? = some (.int .i64 (l.getD j 0:Nat)):=by
 simp only [outc,List.getElem?_toArray,List.getElem?_map]
 by_cases hj:j < l.length
 ·rw [List.getElem?_append_left hj,List.getElem?_eq_getElem hj]
  simp [List.getD,List.getElem?_eq_getElem hj]
 ·rw [List.getElem?_append_right (by omega),List.getElem?_replicate,if_pos (by omega)]
  simp [List.getD,List.getElem?_eq_none (by omega:l.length <= j)]
theorem zon (n:Nat) (l:List Nat) (h:l.length < n):outc n (l ++ [0]) = outc n l:=by
 unfold outc
 obtain ⟨d,hd⟩:∃ d,n - l.length = d + 1:=⟨n - l.length - 1,by omega⟩
 have hd2:n - (l ++ [0]).length = d:=by simp; omega
 rw [hd,hd2,List.replicate_succ,List.append_assoc]
 rfl
theorem zq9 (n:Nat) (l:List Nat) (v:Nat) (h:l.length < n):(outc n l).setIfInBounds l.length (.int .i64 v) = outc n (l ++ [v]):=by
 unfold outc
 obtain ⟨d,hd⟩:∃ d,n - l.length = d + 1:=⟨n - l.length - 1,by omega⟩
 have hd2:n - (l ++ [v]).length = d:=by simp; omega
 rw [hd,hd2,List.replicate_succ,List.append_assoc]
 simp only [List.map_append,List.map_cons,List.setIfInBounds_toArray]
 rw [List.set_append_right _ _ (by simp)]
 simp
theorem zoo (n:Nat):madeCells #[.int .i64 0] n = outc n []:=by
 apply Array.ext'
 rw [toList_madeCells_one]
 simp [outc]
theorem zny (f:List Mk) (v:Value) (w:World) (hv:MS w v f) (hn2:f.length <= 100) :
  Calls Tryz.prog 108 #[v] w fun e w' => e = .returned (.slice (some ⟨w.heap.size,0,none⟩) f.length f.length) /\ Below w.heap.size w w' /\ Row w' w.heap.size 3 (outc f.length (szs f)):=by
 obtain ⟨hop,A,c,rfl,hc,hc2,hcell⟩:=hv
 have hfd:=zbw
 obtain ⟨n,hn⟩:=zx f.length
 rw [<- hn] at hn2 hc hcell ⊢
 have H1:=zh hn; clear hn
 have H2:=zh hcell; clear hcell
 have H3:=zh hop; clear hop
 have hmk:=fun W => zif n (by omega) W
 go_enter Tryz.func108,Tryz.ntmps108
 go_wp2
 go_loopg [14] n (fun gk v wr => ∃ k:Nat,k <= n /\ gk = n - k /\ v = .int .i64 k /\ Below w.heap.size w wr /\ Row wr w.heap.size 3 (outc n (szs (f.take k))))
 case atStart =>
  exact ⟨0,Nat.zero_le _,rfl,rfl,by go_grown,by rw [zoo]; exact Row.new w _ _⟩
 case round =>
  obtain ⟨k,hk,rfl,rfl,hbe,hout⟩:=hrel
  by_cases hlt:k < n
  ·obtain ⟨m,hm⟩:∃ m,f[k]? = some m:=⟨f[k]'(by rw [<- H1.out]; exact hlt),List.getElem?_eq_getElem _⟩
   obtain ⟨b,o,rfl,hb,hcell⟩:=H2.out (by omega)
   obtain ⟨c0,c1,c2,c3,c4⟩:=hcell k m hm
   clear hcell
   obtain ⟨m1,m2⟩:=H3.out m (List.mem_of_getElem? hm)
   rw [<- hbe.cell (p:=⟨b,_,none⟩) hb] at c0 c1 c2 c3 c4
   have hz:w.heap.size < wr.heap.size:=hout.lt
   have hb':b < wr.heap.size:=by omega
   have hsl:(szs (f.take k)).length = k:=by rw [zda,List.length_take,<- H1.out]; omega
   have hsz:=zk7 (f.take k)
   have hst:=zib f k m hm
   have HSL:=zh hsl; clear hsl
   have HSZ:=zh hsz; clear hsz
   have HST:=zh hst; clear hst
   have HB:=zh hbe; clear hbe
   have HO:=zh hout; clear hout
   have HM:=zh hm; clear hm
   go_wp2_with (go_at_call 88; go_must (refine (zaj _ _ m1 m2).mono ?_; rintro e w1 ⟨rfl,hb1⟩; have hb2:=hb1; obtain ⟨x0,x1,y0,y1,hz1,HB1⟩:=after2 hb1; clear hb1))
   have X:=zh ((Row.alloc (Row.new wr _ _) _).below hb2 (by simp only [World.size_alloc]; omega))
   have Y:=((Row.new _ _ _).below hb2 (by simp only [World.size_alloc]; omega))
   simp only [World.size_alloc] at Y
   have Y:=zh Y
   have Z:=((Row.alloc (Row.alloc HO.out _) _).below hb2 (by simp only [World.size_alloc]; omega))
   have HW:Hid (Below w.heap.size w w1):=HB.out.trans (HB1.out.mono (by omega))
   clear hb2 c0 c1 c2 c3 c4
   have o1:=Z.free
   have o0:∀ j,j < n -> w1.cell? ⟨w.heap.size,j,none⟩ = some (.int .i64 ((szs (f.take k)).getD j 0:Nat)):=fun j hj => (Z.cell j).trans (zf4 _ _ _ hj (by rw [HSL.out]; omega))
   have Z:=zh Z
   have HN:=zh (zdz m.op)
   generalize szs (f.take k) = L at *
   have O0:=zh o0; clear o0
   have ok:=O0.out k hlt
   have hs1:=HSZ.out (k - 1)
   have hs2:=HSZ.out (k - L.getD (k - 1) 0 - 1)
   generalize e1:L.getD (k - 1) 0 = s1 at *
   generalize e2:L.getD (k - s1 - 1) 0 = s2 at *
   have E1:=zh e1; clear e1
   have E2:=zh e2; clear e2
   have D0:Hid (blk L m = 0 -> ∀ w2,Row w2 w.heap.size 3 (outc n L) -> Row w2 w.heap.size 3 (outc n (szs (f.take (k + 1))))):=fun hb w2 hr => by
    rw [HST.out,hb,zon _ _ (by rw [HSL.out]; exact hlt)]; exact hr
   have DV:Hid (∀ (v:Nat) (V:Int) (w2:World),V = v -> blk L m = v -> Row w2 w.heap.size 3 (outc n L) -> Row (w2.setCell ⟨w.heap.size,k,none⟩ (.int .i64 V)) w.heap.size 3 (outc n (szs (f.take (k + 1))))):=by
    rintro v V w2 rfl hb hr
    have h:=hr.set k (.int .i64 (v:Int))
    have e:=zq9 n L v (by rw [HSL.out]; exact hlt)
    rw [HSL.out] at e
    rw [e] at h
    rw [HST.out,hb]; exact h
   have hzz:=hz
   by_cases hk0:k = 0
   ·have hk1:((k:Int) == 0) = true:=by simp [hk0]
    have HK:=zh hk0; clear hk0
    rcases HN.out with hnc | hnc | hnc
    ·rw [hnc]; have HN:=zh hnc; clear hnc
     go_rounds 1
     ·go_roundg (n - (k + 1))
      case rel => exact ⟨k + 1,by omega,rfl,by go_num,HW.out.setCell (by simp) _,DV.out 1 1 _ rfl (by simp [blk,HN.out, *]) Z.out⟩
      case measure => omega
     all_goals
      go_roundg (n - (k + 1))
      case rel => exact ⟨k + 1,by omega,rfl,by go_num,HW.out,D0.out (by simp [blk,HN.out, *]) _ Z.out⟩
      case measure => omega
    all_goals
     rw [hnc]; have HN:=zh hnc; clear hnc
     go_rounds 1
     go_roundg (n - (k + 1))
     case rel => exact ⟨k + 1,by omega,rfl,by go_num,HW.out,D0.out (by simp [blk,HN.out,HSL.out,HK.out]) _ Z.out⟩
     case measure => omega
   ·have hk1:((k:Int) == 0) = false:=by simp [hk0]
    have hk2:1 <= k:=by omega
    have HK:=zh hk0; clear hk0
    have ok1:=O0.out (k - 1) (by omega)
    rw [E1.out] at ok1
    rcases HN.out with hnc | hnc | hnc
    ·rw [hnc]; have HN:=zh hnc; clear hnc
     go_rounds 1
     ·go_roundg (n - (k + 1))
      case rel => exact ⟨k + 1,by omega,rfl,by go_num,HW.out.setCell (by simp) _,DV.out 1 1 _ rfl (by simp [blk,HN.out, *]) Z.out⟩
      case measure => omega
     all_goals
      go_roundg (n - (k + 1))
      case rel => exact ⟨k + 1,by omega,rfl,by go_num,HW.out,D0.out (by simp [blk,HN.out, *]) _ Z.out⟩
      case measure => omega
    all_goals
     rw [hnc]; have HN:=zh hnc; clear hnc
     by_cases hs0:s1 = 0
     ·have hs0':((s1:Int) == 0) = true:=by simp [hs0]
      have HS0:=zh hs0; clear hs0
      go_rounds 1
      go_roundg (n - (k + 1))
      case rel => exact ⟨k + 1,by omega,rfl,by go_num,HW.out,D0.out (by simp only [blk,HSL.out]; rw [E1.out,HN.out]; simp [HK.out,HS0.out]) _ Z.out⟩
      case measure => omega
     have hs0':((s1:Int) == 0) = false:=by simp [hs0]
     have hs3:1 <= s1:=by omega
     have HS0:=zh hs0; clear hs0
    ·go_rounds 2
     ·go_roundg (n - (k + 1))
      case rel => exact ⟨k + 1,by omega,rfl,by go_num,((HW.out.setCell (by simp; omega) _).setCell (by simp; omega) _).setCell (by simp) _,DV.out (1 + s1) _ _ (by omega) (by simp only [blk,HSL.out]; rw [E1.out,HN.out]; first | (simp [HK.out,HS0.out, *]; done) | (simp [HK.out,HS0.out, *]; omega)) ((Z.out.far (by simp; omega) _).far (by simp; omega) _)⟩
      case measure => omega
     all_goals
      go_roundg (n - (k + 1))
      case rel => exact ⟨k + 1,by omega,rfl,by go_num,((HW.out.setCell (by simp; omega) _).setCell (by simp; omega) _),D0.out (by simp only [blk,HSL.out]; rw [E1.out,HN.out]; first | (simp [HK.out,HS0.out, *]; done) | (simp [HK.out,HS0.out]; omega)) _ ((Z.out.far (by simp; omega) _).far (by simp; omega) _)⟩
      case measure => omega
    ·by_cases hs4:k - s1 = 0
     ·have hs4':((k:Int) - (s1:Int) == 0) = true:=by rw [beq_iff_eq]; omega
      have HS4:=zh hs4; clear hs4
      go_rounds 2
      go_roundg (n - (k + 1))
      case rel => exact ⟨k + 1,by omega,rfl,by go_num,((HW.out.setCell (by simp; omega) _).setCell (by simp; omega) _),D0.out (by simp only [blk,HSL.out]; rw [E1.out,HN.out]; simp [HK.out,HS0.out,HS4.out]) _ ((Z.out.far (by simp; omega) _).far (by simp; omega) _)⟩
      case measure => omega
     have hs4':((k:Int) - (s1:Int) == 0) = false:=by rw [beq_eq_false_iff_ne]; omega
     have hs5:1 <= k - s1:=by omega
     have HS4:=zh hs4; clear hs4
     have ok2:=O0.out (k - s1 - 1) (by omega)
     rw [E2.out] at ok2
     by_cases hs6:s2 = 0
     ·have hs6':((s2:Int) == 0) = true:=by simp [hs6]
      have HS6:=zh hs6; clear hs6
      go_rounds 2
      go_roundg (n - (k + 1))
      case rel => exact ⟨k + 1,by omega,rfl,by go_num,((HW.out.setCell (by simp; omega) _).setCell (by simp; omega) _),D0.out (by simp only [blk,HSL.out]; rw [E1.out,HN.out,E2.out]; simp [HK.out,HS0.out,HS4.out,HS6.out]) _ ((Z.out.far (by simp; omega) _).far (by simp; omega) _)⟩
      case measure => omega
     have hs6':((s2:Int) == 0) = false:=by simp [hs6]
     have HS6:=zh hs6; clear hs6
     refine wp_loop_rounds 3 ?_
     rw [rounds_succ]
     go_wp2
     rw [rounds_succ]
     go_wp2
     refine zmk (fun W => Row W wr.heap.size 26 #[.int .u8 m.op,.int .i64 m.x,.int .i64 m.y,.int .i64 m.a,.int .i64 m.b] /\ Row W (wr.heap.size + 1) 26 #[.int .u8 m.op,.int .i64 m.x,.int .i64 m.y,.int .i64 ((k:Int) - s1 - 1),.int .i64 ((k:Int) - 1)] /\ Row W w.heap.size 3 (outc n L) /\ Below w.heap.size w W) ?_ ?_
     ·refine ⟨(((X.out.far (by simp) _).far (by simp) _).far (by simp) _).far (by simp) _,(((Y.out.set 3 _).set 4 _).set 3 _).set 4 _,(((Z.out.far (by simp; omega) _).far (by simp; omega) _).far (by simp; omega) _).far (by simp; omega) _,(((HW.out.setCell (by simp; omega) _).setCell (by simp; omega) _).setCell (by simp; omega) _).setCell (by simp; omega) _⟩
     rintro w2 ⟨X2,Y2,Z2,HW2⟩
     clear x0 x1 y0 y1 o1 ok ok1 ok2 hz1
     have x0:=X2.cell; have y0:=Y2.cell; have o0:=Z2.cell; have o1:=Z2.free
     have ok:=(o0 k).trans (zf4 _ _ _ hlt (by rw [HSL.out]; omega))
     have HO2:=zh o0; clear o0
     have X2:=zh X2; have Y2:=zh Y2; have Z2:=zh Z2; have HW2:=zh HW2
     rw [rounds_succ]
     go_wp2
     ·go_roundg (n - (k + 1))
      case rel => exact ⟨k + 1,by omega,rfl,by go_num,HW2.out.setCell (by simp) _,DV.out (1 + s1 + s2) _ _ (by omega) (by simp only [blk,HSL.out]; rw [E1.out,HN.out,E2.out]; simp [HK.out,HS0.out,HS4.out,HS6.out, *]; omega) Z2.out⟩
      case measure => omega
     all_goals
      go_roundg (n - (k + 1))
      case rel => exact ⟨k + 1,by omega,rfl,by go_num,HW2.out,D0.out (by simp only [blk,HSL.out]; rw [E1.out,HN.out,E2.out]; simp [HK.out,HS0.out,HS4.out,HS6.out]; omega) _ Z2.out⟩
      case measure => omega
  ·go_wp2
   go_returns
   have:k = n:=by omega
   subst this
   rw [List.take_of_length_le (by rw [<- H1.out]; omega)] at hout
   exact ⟨rfl,hbe,hout⟩
end Go.Proofs.YthdabkmkgkkmcaaGreatDoor
