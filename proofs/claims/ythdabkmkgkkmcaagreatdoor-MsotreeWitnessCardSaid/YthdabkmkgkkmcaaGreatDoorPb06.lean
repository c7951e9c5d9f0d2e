/- Part 6 of the proof; it says: lemmas and contracts. No conditions but those that each theorem states. -/
import Derived.Maps.OwnSet
import Derived.WideKeyPair
import Derived.Test.YthdabkmkgkkmcaaGreatDoorPb01
import Derived.Test.YthdabkmkgkkmcaaGreatDoorPb04
import Derived.Test.YthdabkmkgkkmcaaGreatDoorPb05
set_option linter.unusedSimpArgs false
set_option linter.unusedVariables false
set_option linter.unusedSectionVars false
set_option maxRecDepth 100000
set_option maxHeartbeats 32000000
namespace Go.Proofs.YthdabkmkgkkmcaaGreatDoor
open Go.RowKit
theorem zk3 (w:World):(zeroValue 3).run Tryz.prog w = .ok (.int .i64 0) w:=by kernel_rfl
theorem zbr:Tryz.prog.underlying 3 = some (.int .i64):=by kernel_rfl
theorem zhi (s:Nat) (hs:s <= 1000000):(Lit.int .i64 (s:Int)).wf = true:=by
 have h1:IntKind.min .i64 = -9223372036854775808:=by decide
 have h2:IntKind.max .i64 = 9223372036854775807:=by decide
 simp only [Lit.wf,h1,h2,Bool.and_eq_true,decide_eq_true_eq]
 omega
structure Kl {α:Type} (lit:α -> Lit):Prop where
 inj:∀ a b,lit a = lit b -> a = b
 key:∀ a,WideAt.IsKeyLit (lit a)
section
variable {α:Type} [DecidableEq α]
def NM (k:TypeId) (lit:α -> Lit) (w:World) (b:Nat) (ks:List α):Prop :=
 ∃ D:DataW Nat,w.ownsMap Tryz.prog k (plainElem Tryz.prog 3) b ks.length D /\ Maps.Tidy D /\ Maps.size D = ks.length /\ (∀ s,Maps.has D (lit s) = decide (s ∈ ks)) /\
  ∀ s ∈ ks,∀ z,D.atKey (lit s) z = .lit (.int .i64 ((ks.idxOf s:Nat):Int))
variable {k:TypeId} {lit:α -> Lit} {w:World} {b:Nat} {ks:List α}
theorem NM.made (k:TypeId) (lit:α -> Lit) (w:World):NM k lit (w.alloc (.map #[] 0)) w.heap.size ([]:List α) :=
 ⟨.map [],World.ownsMap_made w _ _ _,Maps.tidy_empty,rfl,by intro s; simp [Maps.has_eq],by intro s hs; cases hs⟩
theorem NM.lt (h:NM k lit w b ks):b < w.heap.size:=by
 obtain ⟨D,hD,_⟩:=h; exact hD.lt
theorem NM.kept {w':World} {row:Option Nat} (h:NM k lit w b ks) (hg:w.grownBy w' row) (hne:some b ≠ row):NM k lit w' b ks:=by
 obtain ⟨D,hD,r⟩:=h; exact ⟨D,hD.kept hg hne,r⟩
theorem NM.alloc (h:NM k lit w b ks) (o:Obj):NM k lit (w.alloc o) b ks:=h.kept (World.grownBy_alloc w o none) (by simp)
theorem NM.drew (h:NM k lit w b ks):NM k lit w.drew b ks:=h
theorem NM.setCell (h:NM k lit w b ks) {a:Addr} (ha:b ≠ a.block) (u:Value):NM k lit (w.setCell a u) b ks:=by
 obtain ⟨D,hD,r⟩:=h; exact ⟨D,hD.setCell ha u,r⟩
theorem NM.heap {w':World} (h:NM k lit w b ks) (hh:w'.heap[b]? = w.heap[b]?):NM k lit w' b ks:=by
 obtain ⟨D,⟨es,clock,h1,h2⟩,r⟩:=h; exact ⟨D,⟨es,clock,hh.trans h1,h2⟩,r⟩
theorem NM.below {w':World} {B:Nat} (h:NM k lit w b ks) (hb:Below B w w') (hB:b < B):NM k lit w' b ks:=h.heap (hb.block b hB)
theorem NM.ne_row (h:NM k lit w b ks) {g:Nat} {E:TypeId} {cs:Array Value} (hr:Row w g E cs):b ≠ g:=fun e => by
 obtain ⟨D,⟨es,clock,h1,_⟩,_⟩:=h
 subst e
 unfold Row at hr
 rw [h1] at hr
 cases hr
theorem NM.ne_own (h:NM k lit w b ks) {E:TypeId} {B:Nat} {v:Value} {l:List Value} (hr:VO E w B v l):some b ≠ v.ownBlock:=fun e => by
 obtain ⟨D,⟨es,clock,h1,_⟩,_⟩:=h
 rcases hr.2.2 with ⟨hv,_⟩ | ⟨g2,cap2,cur2,hv,_,hg2,_⟩
 ·rw [hv] at e; cases e
 ·rw [hv] at e
  simp only [Value.ownBlock,Option.some.injEq] at e
  subst e
  rw [h1] at hg2
  cases hg2
theorem zqn (K:Maps.Keyed Tryz.prog k) {o:Oper} {a:Act} {Kk:Act -> World -> Prop} {Q:Exit -> Act -> World -> Prop} (m x:Operand) (t:TypeId) (hop:o.op = Op.lookup t m x true)
  (ht:Tryz.prog.underlying t = some (.map k 3)) (hm:a.eval m = .map (some b)) (h:NM k lit w b ks) (s:α) (key:Value) (hx:a.eval x = key) (hkey:keyOf Tryz.prog k key = some (lit s))
  (hK:Kk (a.put o.dst (.tuple #[.int .i64 ((if s ∈ ks then ks.idxOf s else 0:Nat):Int),.bool (decide (s ∈ ks))])) w):o.wp Tryz.prog a w Kk Q:=by
 obtain ⟨D,hD,_,_,hhas,hat⟩:=h
 obtain ⟨v,ps,hrun,hv⟩:=hD.look_ok K ht (zk3 w) (plainElem_int zbr (by decide)) hkey
 obtain ⟨c,rfl,hc,hwc⟩:=plainElem_int_inv zbr hv
 have hc1:=congrArg Prod.fst hc
 simp only at hc1
 unfold Oper.wp
 simp [execOp,hop,hm,hx,hrun,Result.andThen]
 rw [hhas]
 by_cases hs:s ∈ ks
 ·rw [hat s hs] at hc1
  cases hc1
  rw [if_pos hs] at hK
  exact hK
 ·rw [Maps.atKey_of_not_has (by rw [hhas,decide_eq_false hs])] at hc1
  cases hc1
  rw [if_neg hs] at hK
  exact hK
theorem zfr (K:Maps.Keyed Tryz.prog k) {ops:Array Oper} {rest:List Oper} {o:Oper} {a:Act} {Q:Exit -> Act -> World -> Prop} (hg:o.guard = none) (m x:Operand) (t:TypeId) (hop:o.op = Op.lookup t m x true)
  (ht:Tryz.prog.underlying t = some (.map k 3)) (hm:a.eval m = .map (some b)) (h:NM k lit w b ks) (s:α) (key:Value) (hx:a.eval x = key) (hkey:keyOf Tryz.prog k key = some (lit s))
  (hK:wpList Tryz.prog ops Q rest (a.put o.dst (.tuple #[.int .i64 ((if s ∈ ks then ks.idxOf s else 0:Nat):Int),.bool (decide (s ∈ ks))])) w):wpList Tryz.prog ops Q (o :: rest) a w :=
 wpList_plain hg fun K' hK' => zqn K m x t hop ht hm h s key hx hkey (hK' _ _ hK)
theorem zek (K:Maps.Keyed Tryz.prog k) {ops:Array Oper} {rest:List Oper} {o:Oper} {a:Act} {Q:Exit -> Act -> World -> Prop} (hg:o.guard = none) (m x:Operand) (t:TypeId) (hop:o.op = Op.lookup t m x true)
  (ht:Tryz.prog.underlying t = some (.map k 3)) (hm:a.eval m = .map (some b)) (h:NM k lit w b ks) (s:α) (hs:s ∈ ks) (key:Value) (hx:a.eval x = key) (hkey:keyOf Tryz.prog k key = some (lit s))
  (hK:wpList Tryz.prog ops Q rest (a.put o.dst (.tuple #[.int .i64 ((ks.idxOf s:Nat):Int),.bool true])) w):wpList Tryz.prog ops Q (o :: rest) a w:=by
 refine zfr K hg m x t hop ht hm h s key hx hkey ?_
 rw [if_pos hs,decide_eq_true hs]; exact hK
theorem zbo (K:Maps.Keyed Tryz.prog k) {ops:Array Oper} {rest:List Oper} {o:Oper} {a:Act} {Q:Exit -> Act -> World -> Prop} (hg:o.guard = none) (m x:Operand) (t:TypeId) (hop:o.op = Op.lookup t m x true)
  (ht:Tryz.prog.underlying t = some (.map k 3)) (hm:a.eval m = .map (some b)) (h:NM k lit w b ks) (s:α) (hs:s ∉ ks) (key:Value) (hx:a.eval x = key) (hkey:keyOf Tryz.prog k key = some (lit s))
  (hK:wpList Tryz.prog ops Q rest (a.put o.dst (.tuple #[.int .i64 0,.bool false])) w):wpList Tryz.prog ops Q (o :: rest) a w:=by
 refine zfr K hg m x t hop ht hm h s key hx hkey ?_
 rw [if_neg hs,decide_eq_false hs]; exact hK
theorem NM.look (h:NM k lit w b ks) (K:Maps.Keyed Tryz.prog k) {t:TypeId} (ht:Tryz.prog.underlying t = some (.map k 3)) (s:α) (hs:s ∈ ks) (key:Value) (hkey:keyOf Tryz.prog k key = some (lit s)) :
  (Instr.lookup t (.map (some b)) key false).run Tryz.prog w = .ok (.int .i64 ((ks.idxOf s:Nat):Int)) w:=by
 obtain ⟨D,hD,_,_,hhas,hat⟩:=h
 obtain ⟨v,ps,hrun,hv⟩:=hD.lookup K ht (zk3 w) (plainElem_int zbr (by decide)) hkey
 obtain ⟨c,rfl,hc,hwc⟩:=plainElem_int_inv zbr hv
 have hc1:=congrArg Prod.fst hc
 simp only at hc1
 rw [hat s hs] at hc1
 cases hc1
 exact hrun
theorem NM.put (hl:Kl lit) (h:NM k lit w b ks) (K:Maps.Keyed Tryz.prog k) {t:TypeId} (ht:Tryz.prog.underlying t = some (.map k 3)) (hn:ks.length <= 1000000) (s:α) (hs:s ∉ ks) (key:Value) (hkey:keyOf Tryz.prog k key = some (lit s)) :
  ∃ w',(Instr.mapUpdate t (.map (some b)) key (.int .i64 ((ks.length:Nat):Int))).run Tryz.prog w = .ok () w' /\ NM k lit w' b (ks ++ [s]) /\ w.grownBy w' (some b):=by
 obtain ⟨D,hD,htd,hsz,hhas,hat⟩:=h
 have hwf:=zhi ks.length (by omega)
 obtain ⟨w',h1,h2,h3⟩:=hD.update K ht (by simp only [maxLen]; omega) hkey (plainElem_int zbr hwf)
 have hno:Maps.has D (lit s) = false:=by rw [hhas,decide_eq_false hs]
 refine ⟨w',h1,⟨_,by rw [List.length_append,List.length_singleton]; exact h2,htd.put (hl.key s) _,?_,?_,?_⟩,h3⟩
 ·rw [Maps.size_put htd,hno]; simp [hsz]
 ·intro u
  by_cases e:u = s
  ·subst e
   rw [Maps.has_put_same htd.isMap (hl.key u)]; simp
  ·rw [Maps.has_put_other (fun h => e (hl.inj _ _ h)),hhas]
   simp [e]
 ·intro u hu z
  by_cases e:u = s
  ·subst e
   rw [Maps.atKey_put_same htd.isMap (hl.key u),List.idxOf_append,if_neg hs]
   simp
  ·have hm:u ∈ ks:=by simpa [e] using hu
   rw [Maps.atKey_put_other (fun h => e (hl.inj _ _ h)),hat u hm,List.idxOf_append,if_pos hm]
theorem zno (hl:Kl lit) (K:Maps.Keyed Tryz.prog k) {o:Oper} {a:Act} {Kk:Act -> World -> Prop} {Q:Exit -> Act -> World -> Prop} (m x v:Operand) (t:TypeId) (hop:o.op = Op.mapUpdate t m x v \/ o.op = Op.insert t m x v)
  (ht:Tryz.prog.underlying t = some (.map k 3)) (hm:a.eval m = .map (some b)) (h:NM k lit w b ks) (hn:ks.length <= 1000000) (s:α) (hs:s ∉ ks) (key:Value) (hx:a.eval x = key) (hkey:keyOf Tryz.prog k key = some (lit s))
  (hv:a.eval v = .int .i64 ((ks.length:Nat):Int))
  (hK:∀ w',NM k lit w' b (ks ++ [s]) -> w.grownBy w' (some b) -> Kk (a.put o.dst undef) w'):o.wp Tryz.prog a w Kk Q:=by
 obtain ⟨w',hrun,h2,h3⟩:=h.put hl K ht hn s hs key hkey
 unfold Oper.wp
 rcases hop with hop | hop
 all_goals
  simp [execOp,hop,hm,hx,hv,hrun,Result.andThen]
  exact hK w' h2 h3
theorem zaw (hl:Kl lit) (K:Maps.Keyed Tryz.prog k) {ops:Array Oper} {rest:List Oper} {o:Oper} {a:Act} {Q:Exit -> Act -> World -> Prop} (hg:o.guard = none) (m x v:Operand) (t:TypeId) (hop:o.op = Op.mapUpdate t m x v \/ o.op = Op.insert t m x v)
  (ht:Tryz.prog.underlying t = some (.map k 3)) (hm:a.eval m = .map (some b)) (h:NM k lit w b ks) (hn:ks.length <= 1000000) (s:α) (hs:s ∉ ks) (key:Value) (hx:a.eval x = key) (hkey:keyOf Tryz.prog k key = some (lit s))
  (hv:a.eval v = .int .i64 ((ks.length:Nat):Int))
  (hK:∀ w',NM k lit w' b (ks ++ [s]) -> w.grownBy w' (some b) -> wpList Tryz.prog ops Q rest (a.put o.dst undef) w'):wpList Tryz.prog ops Q (o :: rest) a w :=
 wpList_plain hg fun K' hK' => zno hl K m x v t hop ht hm h hn s hs key hx hkey hv fun w' h2 h3 => hK' _ _ (hK w' h2 h3)
theorem znp {o:Oper} {a:Act} {Kk:Act -> World -> Prop} {Q:Exit -> Act -> World -> Prop} (m:Operand) (t:TypeId) (hop:o.op = Op.call { callee:=Callee.builtin Builtin.len,args:=#[m],argTypes:=#[t] })
  (ht:Tryz.prog.underlying t = some (.map k 3)) (hm:a.eval m = .map (some b)) (h:NM k lit w b ks)
  (hK:Kk (a.put o.dst (.int .i64 ((ks.length:Nat):Int))) w):o.wp Tryz.prog a w Kk Q:=by
 obtain ⟨D,hD,_,hsz,_⟩:=h
 unfold Oper.wp
 simp [execOp,hop,resolve,invoke,builtin,hm,hD.len ht o.type,Result.andThen]
 rw [hsz]
 exact hK
theorem zh7 {ops:Array Oper} {rest:List Oper} {o:Oper} {a:Act} {Q:Exit -> Act -> World -> Prop} (hg:o.guard = none) (m:Operand) (t:TypeId) (hop:o.op = Op.call { callee:=Callee.builtin Builtin.len,args:=#[m],argTypes:=#[t] })
  (ht:Tryz.prog.underlying t = some (.map k 3)) (hm:a.eval m = .map (some b)) (h:NM k lit w b ks)
  (hK:wpList Tryz.prog ops Q rest (a.put o.dst (.int .i64 ((ks.length:Nat):Int))) w):wpList Tryz.prog ops Q (o :: rest) a w :=
 wpList_plain hg fun K' hK' => znp m t hop ht hm h (hK' _ _ hK)
end
def litI (s:Nat):Lit:=.int .i64 s
theorem kl_int:Kl litI:=⟨fun a b h => by simp only [litI,Lit.int.injEq,true_and] at h; omega,fun a => trivial⟩
theorem zc3:Maps.Keyed Tryz.prog 3:=Maps.int_keyed zbr
theorem zfe (s:Nat) (hs:s <= 1000000):keyOf Tryz.prog 3 (.int .i64 (s:Int)) = some (litI s):=Maps.keyOf_int_mk zbr (zhi s (by omega))
end Go.Proofs.YthdabkmkgkkmcaaGreatDoor
namespace Go.Proofs.YthdabkmkgkkmcaaGreatDoor
open Go.RowKit
structure Raw where
 vars:Int
 empty:Int
 next:List (List (List Int))
 fin:List Bool
def zbx {α:Type} (f:α -> Nat):List α -> Nat
 | [] => 0
 | a :: l => if f a = 0 then zbx f l else f a
theorem zbc {α:Type} {f:α -> Nat} {l:List α}:zbx f l = 0 ↔ ∀ a ∈ l,f a = 0:=by
 induction l with
 | nil => simp [zbx]
 | cons a l ih =>
  unfold zbx
  by_cases h:f a = 0
  ·rw [if_pos h,ih]; simp [h]
  ·rw [if_neg h]; simp [h]
theorem zc5 {α:Type} {f:α -> Nat} {l:List α} {k:Nat} {a:α} (h:zbx f (l.take k) = 0) (ha:l[k]? = some a) (hf:f a ≠ 0):zbx f l = f a:=by
 induction l generalizing k with
 | nil => simp at ha
 | cons b l ih =>
  cases k with
  | zero => simp at ha; subst ha; unfold zbx; rw [if_neg hf]
  | succ k =>
   rw [List.take_succ_cons,zbx] at h
   by_cases hb:f b = 0
   ·rw [if_pos hb] at h
    unfold zbx
    rw [if_pos hb]
    exact ih h (by simpa using ha)
   ·rw [if_neg hb] at h; exact absurd h hb
theorem zee {α:Type} {f:α -> Nat} {l:List α} {k:Nat} {a:α} (h:zbx f (l.take k) = 0) (ha:l[k]? = some a) (hf:f a = 0):zbx f (l.take (k + 1)) = 0:=by
 rw [zbc] at h ⊢
 intro b hb
 rw [List.take_add_one,ha] at hb
 rcases List.mem_append.1 hb with hb | hb
 ·exact h b hb
 ·simp at hb; subst hb; exact hf
def okS (n:Nat) (s:Int):Bool:=decide (0 <= s) && decide (s < n)
def zft (n:Nat) (s:Int):Nat:=if 0 <= s /\ s < (n:Int) then 0 else 8
def rowE (n L:Nat) (row:List Int):Nat:=if row.length = L then zbx (zft n) row else 2
def rowsE (n L:Nat) (rows:List (List Int)):Nat:=if rows.length = n then zbx (rowE n L) rows else 2
def Raw.check (d:Raw):Nat :=
 if d.vars < 0 \/ 3 < d.vars then 7 else if d.next.length = 0 then 3 else if 64 < d.next.length then 4 else if d.fin.length ≠ d.next.length then 2
 else if ¬ (0 <= d.empty /\ d.empty < (d.next.length:Int)) then 8 else zbx (rowsE d.next.length (2 ^ d.vars.toNat)) d.next
def nx3 (n L:Nat) (f:Nat -> Nat -> Nat -> Nat):List (List (List Int)):=(List.range n).map fun l => (List.range n).map fun r => (List.range L).map fun x => (f l r x:Int)
def Dta.raw (V:Nat) (D:Dta):Raw:=⟨V,D.e,nx3 D.n D.L D.nx,(List.range D.n).map D.fin⟩
def Raw.dta (d:Raw):Dta:=⟨d.next.length,d.empty.toNat,2 ^ d.vars.toNat,fun l r x => (((d.next.getD l []).getD r []).getD x 0).toNat,fun s => d.fin.getD s false⟩
structure Dta.Fit (V:Nat) (D:Dta):Prop where
 ok:D.OK
 n64:D.n <= 64
 v3:V <= 3
 L:D.L = 2 ^ V
theorem Dta.Fit.L8 {V:Nat} {D:Dta} (h:D.Fit V):1 <= D.L /\ D.L <= 8:=by
 rw [h.L]
 exact ⟨Nat.one_le_two_pow,Nat.pow_le_pow_right (by omega) h.v3⟩
theorem Dta.Fit.pos {V:Nat} {D:Dta} (h:D.Fit V):1 <= D.n:=by have:=h.ok.he; omega
theorem zd0 {α:Type} (l:List α) (d:α):l = (List.range l.length).map fun i => l.getD i d:=by
 apply List.ext_getElem?
 intro i
 by_cases h:i < l.length
 ·rw [List.getElem?_map,List.getElem?_range h,List.getElem?_eq_getElem h,Option.map_some,List.getD_eq_getElem?_getD,List.getElem?_eq_getElem h]; rfl
 ·rw [List.getElem?_eq_none (by omega),List.getElem?_eq_none (by simp; omega)]
theorem zdt {α:Type} {l:List α} {d:α} {i:Nat} (h:i < l.length):l.getD i d ∈ l:=by
 rw [List.getD_eq_getElem?_getD,List.getElem?_eq_getElem h]; exact List.getElem_mem h
theorem Raw.check_ok {d:Raw} (h:d.check = 0):∃ V:Nat,d.dta.Fit V /\ d = d.dta.raw V:=by
 unfold Raw.check at h
 by_cases h1:d.vars < 0 \/ 3 < d.vars
 ·rw [if_pos h1] at h; cases h
 by_cases h2:d.next.length = 0
 ·rw [if_neg h1,if_pos h2] at h; cases h
 by_cases h3:64 < d.next.length
 ·rw [if_neg h1,if_neg h2,if_pos h3] at h; cases h
 by_cases h4:d.fin.length ≠ d.next.length
 ·rw [if_neg h1,if_neg h2,if_neg h3,if_pos h4] at h; cases h
 by_cases h5:¬ (0 <= d.empty /\ d.empty < (d.next.length:Int))
 ·rw [if_neg h1,if_neg h2,if_neg h3,if_neg h4,if_pos h5] at h; cases h
 rw [if_neg h1,if_neg h2,if_neg h3,if_neg h4,if_neg h5,zbc] at h
 obtain ⟨vars,empty,next,fin⟩:=d
 simp only at h h1 h2 h3 h4 h5
 simp only [Decidable.not_not] at h4 h5
 have rows:∀ a ∈ next,a.length = next.length /\ ∀ b ∈ a,b.length = 2 ^ vars.toNat /\ ∀ s ∈ b,0 <= s /\ s < (next.length:Int):=by
  intro a ha
  have h6:=h a ha
  unfold rowsE at h6
  by_cases e:a.length = next.length
  ·rw [if_pos e,zbc] at h6
   refine ⟨e,fun b hb => ?_⟩
   have h7:=h6 b hb
   unfold rowE at h7
   by_cases e2:b.length = 2 ^ vars.toNat
   ·rw [if_pos e2,zbc] at h7
    refine ⟨e2,fun s hs => ?_⟩
    have h8:=h7 s hs
    unfold zft at h8
    by_cases e3:0 <= s /\ s < (next.length:Int)
    ·exact e3
    ·rw [if_neg e3] at h8; cases h8
   ·rw [if_neg e2] at h7; cases h7
  ·rw [if_neg e] at h6; cases h6
 have at3:∀ l r x,l < next.length -> r < next.length -> x < 2 ^ vars.toNat -> 0 <= ((next.getD l []).getD r []).getD x 0 /\ ((next.getD l []).getD r []).getD x 0 < (next.length:Int):=by
  intro l r x hl hr hx
  obtain ⟨e1,h6⟩:=rows (next.getD l []) (zdt (by omega))
  have hr':r < (next.getD l []).length:=by omega
  obtain ⟨e2,h7⟩:=h6 ((next.getD l []).getD r []) (zdt (by omega))
  have hx':x < ((next.getD l []).getD r []).length:=by omega
  exact h7 _ (zdt (by omega))
 refine ⟨vars.toNat,⟨⟨?_,?_⟩,?_,by omega,rfl⟩,?_⟩
 ·show empty.toNat < next.length; omega
 ·intro l r x hl hr hx
  have:=at3 l r x hl hr hx
  show (((next.getD l []).getD r []).getD x 0).toNat < next.length
  omega
 ·show next.length <= 64; omega
 ·unfold Dta.raw Raw.dta
  simp only [Raw.mk.injEq]
  refine ⟨by omega,by omega,?_,?_⟩
  ·unfold nx3
   conv => lhs; rw [zd0 next []]
   apply List.map_congr_left
   intro l hl
   have hl':=List.mem_range.1 hl
   obtain ⟨e1,h6⟩:=rows (next.getD l []) (zdt (by omega))
   conv => lhs; rw [zd0 (next.getD l []) [],e1]
   apply List.map_congr_left
   intro r hr
   have hr':=List.mem_range.1 hr
   have hr2:r < (next.getD l []).length:=by omega
   obtain ⟨e2,h7⟩:=h6 ((next.getD l []).getD r []) (zdt (by omega))
   conv => lhs; rw [zd0 ((next.getD l []).getD r []) 0,e2]
   apply List.map_congr_left
   intro x hx
   have:=at3 l r x hl' hr' (List.mem_range.1 hx)
   show _ = (((((next.getD l []).getD r []).getD x 0).toNat:Nat):Int)
   omega
  ·conv => lhs; rw [zd0 fin false,h4]
theorem zos {n L:Nat} {f:Nat -> Nat -> Nat -> Nat} {l r x:Nat} (hl:l < n) (hr:r < n) (hx:x < L):(nx3 n L f)[l]? = some ((List.range n).map fun r => (List.range L).map fun x => (f l r x:Int)) /\
  ((List.range n).map fun r => (List.range L).map fun x => (f l r x:Int))[r]? = some ((List.range L).map fun x => (f l r x:Int)) /\ ((List.range L).map fun x => (f l r x:Int))[x]? = some (f l r x:Int):=by
 unfold nx3
 refine ⟨?_,?_,?_⟩ <;> rw [List.getElem?_map,List.getElem?_range (by assumption)] <;> rfl
theorem Dta.raw_check {V:Nat} {D:Dta} (h:D.Fit V):(D.raw V).check = 0:=by
 have hp:=h.pos
 have h64:=h.n64
 have h3:=h.v3
 have he:=h.ok.he
 have hlen:(nx3 D.n D.L D.nx).length = D.n:=by simp [nx3]
 unfold Raw.check Dta.raw
 simp only [hlen]
 rw [if_neg (by omega),if_neg (by omega),if_neg (by omega),if_neg (by simp),if_neg (by omega),zbc]
 intro a ha
 unfold nx3 at ha
 obtain ⟨l,hl,rfl⟩:=List.mem_map.1 ha
 unfold rowsE
 rw [if_pos (by simp),zbc]
 intro b hb
 obtain ⟨r,hr,rfl⟩:=List.mem_map.1 hb
 unfold rowE
 rw [if_pos (by simp [h.L]),zbc]
 intro s hs
 obtain ⟨x,hx,rfl⟩:=List.mem_map.1 hs
 unfold zft
 have:=h.ok.hn l r x (List.mem_range.1 hl) (List.mem_range.1 hr) (List.mem_range.1 hx)
 rw [if_pos (by omega)]
theorem Dta.Same.raw {a b:Dta} (h:a.Same b) (ha:a.OK) (hL:a.L = b.L) (V:Nat):a.raw V = b.raw V:=by
 unfold Dta.raw nx3
 have hn:=h.n
 have hnx:=h.nx
 have hf:=h.fin
 have he:=h.e
 simp only [Raw.mk.injEq,true_and]
 refine ⟨by rw [he],?_,?_⟩
 ·rw [<- hn,<- hL]
  apply List.map_congr_left
  intro l hl
  apply List.map_congr_left
  intro r hr
  apply List.map_congr_left
  intro x hx
  rw [hnx l r x (List.mem_range.1 hl) (List.mem_range.1 hr) (List.mem_range.1 hx)]
 ·rw [<- hn]
  apply List.map_congr_left
  intro s hs
  exact hf s (List.mem_range.1 hs)
theorem eI:Elt 36 3 (.int .i64 0) 8:=⟨by kernel_rfl,by kernel_rfl,by omega,rfl⟩
theorem eII:Elt 37 36 (.slice none 0 0) 24:=⟨by kernel_rfl,by kernel_rfl,by omega,rfl⟩
theorem eIII:Elt 27 37 (.slice none 0 0) 24:=⟨by kernel_rfl,by kernel_rfl,by omega,rfl⟩
theorem eB:Elt 28 4 (.bool false) 1:=⟨by kernel_rfl,by kernel_rfl,by omega,rfl⟩
def iL (l:List Int):List Value:=l.map (Value.int .i64)
def bL (l:List Bool):List Value:=l.map Value.bool
theorem zpk (l:List Int):∀ u ∈ iL l,u.oneCell' = true:=fun u hu => by
 obtain ⟨b,_,rfl⟩:=List.mem_map.1 hu; rfl
theorem zqd (l:List Bool):∀ u ∈ bL l,u.oneCell' = true:=fun u hu => by
 obtain ⟨b,_,rfl⟩:=List.mem_map.1 hu; rfl
theorem zad (l:List Int):(iL l).length = l.length:=by simp [iL]
theorem zb1 (l:List Bool):(bL l).length = l.length:=by simp [bL]
theorem iL_at {l:List Int} {i:Nat} {x:Int} (h:l[i]? = some x):(iL l)[i]? = some (.int .i64 x):=by rw [iL,List.getElem?_map,h]; rfl
theorem bL_at {l:List Bool} {i:Nat} {x:Bool} (h:l[i]? = some x):(bL l)[i]? = some (.bool x):=by rw [bL,List.getElem?_map,h]; rfl
def N1 (w:World) (v:Value) (l:List Int):Prop:=VS w v (iL l)
def NB (w:World) (v:Value) (l:List Bool):Prop:=VS w v (bL l)
def N2 (w:World) (v:Value) (ll:List (List Int)):Prop:=∃ vs,VS w v vs /\ vs.length = ll.length /\ ∀ (i:Nat) u,vs[i]? = some u -> ∃ l,ll[i]? = some l /\ N1 w u l
def N3 (w:World) (v:Value) (lll:List (List (List Int))):Prop:=∃ vs,VS w v vs /\ vs.length = lll.length /\ ∀ (i:Nat) u,vs[i]? = some u -> ∃ l,lll[i]? = some l /\ N2 w u l
theorem N1.below {w w':World} {v:Value} {l:List Int} {B:Nat} (h:N1 w v l) (hb:Below B w w') (hB:w.heap.size <= B):N1 w' v l:=VS.below h hb hB
theorem NB.below {w w':World} {v:Value} {l:List Bool} {B:Nat} (h:NB w v l) (hb:Below B w w') (hB:w.heap.size <= B):NB w' v l:=VS.below h hb hB
theorem N2.below {w w':World} {v:Value} {ll:List (List Int)} {B:Nat} (h:N2 w v ll) (hb:Below B w w') (hB:w.heap.size <= B):N2 w' v ll:=by
 obtain ⟨vs,h1,h2,h3⟩:=h
 exact ⟨vs,h1.below hb hB,h2,fun i u hu => by obtain ⟨l,h4,h5⟩:=h3 i u hu; exact ⟨l,h4,h5.below hb hB⟩⟩
theorem N3.below {w w':World} {v:Value} {ll:List (List (List Int))} {B:Nat} (h:N3 w v ll) (hb:Below B w w') (hB:w.heap.size <= B):N3 w' v ll:=by
 obtain ⟨vs,h1,h2,h3⟩:=h
 exact ⟨vs,h1.below hb hB,h2,fun i u hu => by obtain ⟨l,h4,h5⟩:=h3 i u hu; exact ⟨l,h4,h5.below hb hB⟩⟩
theorem VS.open {w:World} {v:Value} {l:List Value} (h:VS w v l):∃ A c,v = .slice A l.length c /\ l.length <= c /\ c <= 9223372036854775807 /\ ∀ i,i < l.length -> ∃ b o,A = some ⟨b,o,none⟩ /\ b < w.heap.size /\ ∀ x,l[i]? = some x -> w.cell? ⟨b,o + i,none⟩ = some x:=by
 obtain ⟨A,c,rfl,h1,h2,h3⟩:=h
 refine ⟨A,c,rfl,h1,h2,fun i hi => ?_⟩
 obtain ⟨b,o,hA,hb,hc⟩:=h3 (by omega)
 exact ⟨b,o,hA,hb,fun x hx => hc i x hx⟩
theorem N1.open {w:World} {v:Value} {l:List Int} (h:N1 w v l):∃ A c,v = .slice A l.length c /\ l.length <= c /\ c <= 9223372036854775807 /\ ∀ i x,l[i]? = some x -> ∃ b o,A = some ⟨b,o,none⟩ /\ b < w.heap.size /\ w.cell? ⟨b,o + i,none⟩ = some (.int .i64 x):=by
 obtain ⟨A,c,rfl,h1,h2,h3⟩:=VS.open h
 rw [zad] at h1 h3 ⊢
 refine ⟨A,c,rfl,h1,h2,fun i x hx => ?_⟩
 obtain ⟨b,o,h4,h5,h6⟩:=h3 i (List.getElem?_eq_some_iff.1 hx).1
 exact ⟨b,o,h4,h5,h6 _ (iL_at hx)⟩
theorem NB.open {w:World} {v:Value} {l:List Bool} (h:NB w v l):∃ A c,v = .slice A l.length c /\ l.length <= c /\ c <= 9223372036854775807 /\ ∀ i x,l[i]? = some x -> ∃ b o,A = some ⟨b,o,none⟩ /\ b < w.heap.size /\ w.cell? ⟨b,o + i,none⟩ = some (.bool x):=by
 obtain ⟨A,c,rfl,h1,h2,h3⟩:=VS.open h
 rw [zb1] at h1 h3 ⊢
 refine ⟨A,c,rfl,h1,h2,fun i x hx => ?_⟩
 obtain ⟨b,o,h4,h5,h6⟩:=h3 i (List.getElem?_eq_some_iff.1 hx).1
 exact ⟨b,o,h4,h5,h6 _ (bL_at hx)⟩
theorem N2.open {w:World} {v:Value} {l:List (List Int)} (h:N2 w v l):∃ A c,v = .slice A l.length c /\ l.length <= c /\ c <= 9223372036854775807 /\ ∀ i x,l[i]? = some x -> ∃ b o u,A = some ⟨b,o,none⟩ /\ b < w.heap.size /\ w.cell? ⟨b,o + i,none⟩ = some u /\ N1 w u x:=by
 obtain ⟨vs,h0,hl,he⟩:=h
 obtain ⟨A,c,rfl,h1,h2,h3⟩:=h0.open
 rw [hl] at h1 h3 ⊢
 refine ⟨A,c,rfl,h1,h2,fun i x hx => ?_⟩
 have hi:=(List.getElem?_eq_some_iff.1 hx).1
 obtain ⟨b,o,h4,h5,h6⟩:=h3 i hi
 have hu:vs[i]? = some (vs[i]'(by omega)):=List.getElem?_eq_getElem _
 obtain ⟨l',h7,h8⟩:=he i _ hu
 rw [hx] at h7
 cases h7
 exact ⟨b,o,_,h4,h5,h6 _ hu,h8⟩
theorem N3.open {w:World} {v:Value} {l:List (List (List Int))} (h:N3 w v l):∃ A c,v = .slice A l.length c /\ l.length <= c /\ c <= 9223372036854775807 /\ ∀ i x,l[i]? = some x -> ∃ b o u,A = some ⟨b,o,none⟩ /\ b < w.heap.size /\ w.cell? ⟨b,o + i,none⟩ = some u /\ N2 w u x:=by
 obtain ⟨vs,h0,hl,he⟩:=h
 obtain ⟨A,c,rfl,h1,h2,h3⟩:=h0.open
 rw [hl] at h1 h3 ⊢
 refine ⟨A,c,rfl,h1,h2,fun i x hx => ?_⟩
 have hi:=(List.getElem?_eq_some_iff.1 hx).1
 obtain ⟨b,o,h4,h5,h6⟩:=h3 i hi
 have hu:vs[i]? = some (vs[i]'(by omega)):=List.getElem?_eq_getElem _
 obtain ⟨l',h7,h8⟩:=he i _ hu
 rw [hx] at h7
 cases h7
 exact ⟨b,o,_,h4,h5,h6 _ hu,h8⟩
def TD (w:World) (v:Value) (d:Raw):Prop:=∃ vn vf,v = .agg #[.int .i64 d.vars,.int .i64 d.empty,vn,vf] /\ N3 w vn d.next /\ NB w vf d.fin
theorem TD.below {w w':World} {v:Value} {d:Raw} {B:Nat} (h:TD w v d) (hb:Below B w w') (hB:w.heap.size <= B):TD w' v d:=by
 obtain ⟨vn,vf,h1,h2,h3⟩:=h
 exact ⟨vn,vf,h1,h2.below hb hB,h3.below hb hB⟩
def O1 (w:World) (B:Nat) (v:Value) (l:List Int):Prop:=VO 3 w B v (iL l)
def OB (w:World) (B:Nat) (v:Value) (l:List Bool):Prop:=VO 4 w B v (bL l)
def V1 (w:World) (B:Nat) (vs:List Value) (ll:List (List Int)):Prop:=vs.length = ll.length /\ ∀ (i:Nat) u,vs[i]? = some u -> ∃ l,ll[i]? = some l /\ O1 w B u l
def O2 (w:World) (B:Nat) (v:Value) (ll:List (List Int)):Prop:=∃ vs,VO 36 w B v vs /\ V1 w B vs ll
def V2 (w:World) (B:Nat) (vs:List Value) (ll:List (List (List Int))):Prop:=vs.length = ll.length /\ ∀ (i:Nat) u,vs[i]? = some u -> ∃ l,ll[i]? = some l /\ O2 w B u l
def O3 (w:World) (B:Nat) (v:Value) (ll:List (List (List Int))):Prop:=∃ vs,VO 37 w B v vs /\ V2 w B vs ll
def TDO (w:World) (B:Nat) (v:Value) (d:Raw):Prop:=∃ vn vf,v = .agg #[.int .i64 d.vars,.int .i64 d.empty,vn,vf] /\ O3 w B vn d.next /\ OB w B vf d.fin
theorem O1.n1 {w:World} {B:Nat} {v:Value} {l:List Int} (h:O1 w B v l):N1 w v l:=VO.vs h
theorem OB.nb {w:World} {B:Nat} {v:Value} {l:List Bool} (h:OB w B v l):NB w v l:=VO.vs h
theorem O2.n2 {w:World} {B:Nat} {v:Value} {l:List (List Int)} (h:O2 w B v l):N2 w v l:=by
 obtain ⟨vs,h1,h2,h3⟩:=h
 exact ⟨vs,h1.vs,h2,fun i u hu => by obtain ⟨l,h4,h5⟩:=h3 i u hu; exact ⟨l,h4,h5.n1⟩⟩
theorem O3.n3 {w:World} {B:Nat} {v:Value} {l:List (List (List Int))} (h:O3 w B v l):N3 w v l:=by
 obtain ⟨vs,h1,h2,h3⟩:=h
 exact ⟨vs,h1.vs,h2,fun i u hu => by obtain ⟨l,h4,h5⟩:=h3 i u hu; exact ⟨l,h4,h5.n2⟩⟩
theorem TDO.td {w:World} {B:Nat} {v:Value} {d:Raw} (h:TDO w B v d):TD w v d:=by
 obtain ⟨vn,vf,h1,h2,h3⟩:=h
 exact ⟨vn,vf,h1,h2.n3,h3.nb⟩
theorem O1.below {w w':World} {B B':Nat} {v:Value} {l:List Int} (h:O1 w B v l) (hb:Below B' w w') (hB:w.heap.size <= B'):O1 w' B v l:=VO.below h hb hB
theorem OB.below {w w':World} {B B':Nat} {v:Value} {l:List Bool} (h:OB w B v l) (hb:Below B' w w') (hB:w.heap.size <= B'):OB w' B v l:=VO.below h hb hB
theorem V1.below {w w':World} {B B':Nat} {v:List Value} {l:List (List Int)} (h:V1 w B v l) (hb:Below B' w w') (hB:w.heap.size <= B'):V1 w' B v l :=
 ⟨h.1,fun i u hu => by obtain ⟨l,h4,h5⟩:=h.2 i u hu; exact ⟨l,h4,h5.below hb hB⟩⟩
theorem O2.below {w w':World} {B B':Nat} {v:Value} {l:List (List Int)} (h:O2 w B v l) (hb:Below B' w w') (hB:w.heap.size <= B'):O2 w' B v l:=by
 obtain ⟨vs,h1,h2⟩:=h
 exact ⟨vs,h1.below hb hB,h2.below hb hB⟩
theorem V2.below {w w':World} {B B':Nat} {v:List Value} {l:List (List (List Int))} (h:V2 w B v l) (hb:Below B' w w') (hB:w.heap.size <= B'):V2 w' B v l :=
 ⟨h.1,fun i u hu => by obtain ⟨l,h4,h5⟩:=h.2 i u hu; exact ⟨l,h4,h5.below hb hB⟩⟩
theorem O3.below {w w':World} {B B':Nat} {v:Value} {l:List (List (List Int))} (h:O3 w B v l) (hb:Below B' w w') (hB:w.heap.size <= B'):O3 w' B v l:=by
 obtain ⟨vs,h1,h2⟩:=h
 exact ⟨vs,h1.below hb hB,h2.below hb hB⟩
theorem TDO.below {w w':World} {B B':Nat} {v:Value} {d:Raw} (h:TDO w B v d) (hb:Below B' w w') (hB:w.heap.size <= B'):TDO w' B v d:=by
 obtain ⟨vn,vf,h1,h2,h3⟩:=h
 exact ⟨vn,vf,h1,h2.below hb hB,h3.below hb hB⟩
theorem O1.mono {w:World} {B B':Nat} {v:Value} {l:List Int} (h:O1 w B v l) (hB:B' <= B):O1 w B' v l:=VO.mono h hB
theorem V1.mono {w:World} {B B':Nat} {v:List Value} {l:List (List Int)} (h:V1 w B v l) (hB:B' <= B):V1 w B' v l :=
 ⟨h.1,fun i u hu => by obtain ⟨l,h4,h5⟩:=h.2 i u hu; exact ⟨l,h4,h5.mono hB⟩⟩
theorem O2.mono {w:World} {B B':Nat} {v:Value} {l:List (List Int)} (h:O2 w B v l) (hB:B' <= B):O2 w B' v l:=by
 obtain ⟨vs,h1,h2⟩:=h
 exact ⟨vs,h1.mono hB,h2.mono hB⟩
theorem V2.mono {w:World} {B B':Nat} {v:List Value} {l:List (List (List Int))} (h:V2 w B v l) (hB:B' <= B):V2 w B' v l :=
 ⟨h.1,fun i u hu => by obtain ⟨l,h4,h5⟩:=h.2 i u hu; exact ⟨l,h4,h5.mono hB⟩⟩
theorem O3.mono {w:World} {B B':Nat} {v:Value} {l:List (List (List Int))} (h:O3 w B v l) (hB:B' <= B):O3 w B' v l:=by
 obtain ⟨vs,h1,h2⟩:=h
 exact ⟨vs,h1.mono hB,h2.mono hB⟩
theorem OB.mono {w:World} {B B':Nat} {v:Value} {l:List Bool} (h:OB w B v l) (hB:B' <= B):OB w B' v l:=VO.mono h hB
theorem TDO.mono {w:World} {B B':Nat} {v:Value} {d:Raw} (h:TDO w B v d) (hB:B' <= B):TDO w B' v d:=by
 obtain ⟨vn,vf,h1,h2,h3⟩:=h
 exact ⟨vn,vf,h1,h2.mono hB,h3.mono hB⟩
def Turns (w w':World) (g:Nat):Prop:=w.heap.size <= w'.heap.size /\ ∀ i,i < w.heap.size -> i ≠ g -> w'.heap[i]? = w.heap[i]?
theorem Turns.cell (w:World) (p:Addr) (u:Value):Turns w (w.setCell p u) p.block:=⟨by simp,fun i _ hi => Below.heap_setCell w p u i hi⟩
def NotT (w:World) (g:Nat) (E:TypeId):Prop:=∀ cs f,w.heap[g]? = some (.cells cs E f) -> False
theorem VO.turns {E:TypeId} {w w':World} {B g:Nat} {v:Value} {l:List Value} (h:VO E w B v l) (ht:Turns w w' g) (hn:NotT w g E \/ v.ownBlock ≠ some g):VO E w' B v l:=by
 obtain ⟨h0,h1,h⟩:=h
 refine ⟨h0,h1,?_⟩
 rcases h with h | ⟨g1,cap,cur,hv,hBg,hgg,r⟩
 ·exact .inl h
 ·refine .inr ⟨g1,cap,cur,hv,hBg,(ht.2 g1 (lt_of_block hgg) (fun e => ?_)).trans hgg,r⟩
  rcases hn with hn | hn
  ·subst e; exact hn _ _ hgg
  ·exact hn (by rw [hv,e]; rfl)
theorem O1.turns {w w':World} {B g:Nat} {v:Value} {l:List Int} (h:O1 w B v l) (ht:Turns w w' g) (hn:NotT w g 3):O1 w' B v l:=VO.turns h ht (.inl hn)
theorem V1.turns {w w':World} {B g:Nat} {v:List Value} {l:List (List Int)} (h:V1 w B v l) (ht:Turns w w' g) (hn:NotT w g 3):V1 w' B v l :=
 ⟨h.1,fun i u hu => by obtain ⟨l,h4,h5⟩:=h.2 i u hu; exact ⟨l,h4,h5.turns ht hn⟩⟩
theorem O2.turns {w w':World} {B g:Nat} {v:Value} {l:List (List Int)} (h:O2 w B v l) (ht:Turns w w' g) (hn:NotT w g 3) (hn2:NotT w g 36):O2 w' B v l:=by
 obtain ⟨vs,h1,h2⟩:=h
 exact ⟨vs,h1.turns ht (.inl hn2),h2.turns ht hn⟩
theorem V2.turns {w w':World} {B g:Nat} {v:List Value} {l:List (List (List Int))} (h:V2 w B v l) (ht:Turns w w' g) (hn:NotT w g 3) (hn2:NotT w g 36):V2 w' B v l :=
 ⟨h.1,fun i u hu => by obtain ⟨l,h4,h5⟩:=h.2 i u hu; exact ⟨l,h4,h5.turns ht hn hn2⟩⟩
theorem O3.turns {w w':World} {B g:Nat} {v:Value} {l:List (List (List Int))} (h:O3 w B v l) (ht:Turns w w' g) (hn:NotT w g 3) (hn2:NotT w g 36) (hn3:NotT w g 37):O3 w' B v l:=by
 obtain ⟨vs,h1,h2⟩:=h
 exact ⟨vs,h1.turns ht (.inl hn3),h2.turns ht hn hn2⟩
theorem Row.notT {w:World} {g:Nat} {E E':TypeId} {cs:Array Value} (h:Row w g E cs) (hne:E ≠ E'):NotT w g E':=fun ds f h2 => by
 unfold Row at h
 rw [h] at h2
 simp only [Option.some.injEq,Obj.cells.injEq] at h2
 exact hne h2.2.1
end Go.Proofs.YthdabkmkgkkmcaaGreatDoor
namespace Go.Proofs.YthdabkmkgkkmcaaGreatDoor
open Go.RowKit
theorem zez (n:Nat) (s:Int) (g:Nat) (w:World) (hr:Row w g 3 #[.int .i64 n]) :
  Calls Tryz.prog 77 #[.int .i64 s,.pointer (some ⟨g,0,none⟩)] w fun e w' => e = .returned (.bool (okS n s)) /\ w = w':=by
 have x0:=hr.cell
 clear hr
 by_cases h:0 <= s
 ·have hq:okS n s = decide (s < (n:Int)):=by simp [okS,h]
  rw [hq]
  clear hq
  go_enter Tryz.func77,Tryz.ntmps77
  go_wp2
  go_returns
  exact ⟨rfl,rfl⟩
 ·have hq:okS n s = false:=by simp [okS,h]
  rw [hq]
  clear hq
  have h':s < 0:=by omega
  go_enter Tryz.func77,Tryz.ntmps77
  go_wp2
  go_returns
  exact ⟨rfl,rfl⟩
theorem zdm (V:Nat) (hV:V <= 3):IntKind.i64.wrap (2 ^ V) = ((2 ^ V:Nat):Int):=by
 have:V = 0 \/ V = 1 \/ V = 2 \/ V = 3:=by omega
 rcases this with rfl | rfl | rfl | rfl <;> decide
theorem zc7 (d:Raw) (v:Value) (w:World) (hd:TD w v d) (hbig:d.next.length <= 1000000 /\ d.fin.length <= 1000000) :
  Calls Tryz.prog 36 #[v] w fun e w' => e = .returned (.int .i64 (d.check:Nat)) /\ Below w.heap.size w w':=by
 obtain ⟨vars,empty,next,fin⟩:=d
 obtain ⟨vn,vf,rfl,hn,hf⟩:=hd
 simp only at hn hf hbig ⊢
 obtain ⟨A,c,rfl,hA1,hA2,hA⟩:=hn.open
 obtain ⟨Af,cf,rfl,hf1,hf2,_⟩:=hf.open
 obtain ⟨R,hR⟩:=zx (Raw.check ⟨vars,empty,next,fin⟩)
 rw [<- hR]
 unfold Raw.check at hR
 simp only at hR
 obtain ⟨hb1,hb2⟩:=hbig
 obtain ⟨n,hnn⟩:=zx next.length
 obtain ⟨m,hm⟩:=zx fin.length
 rw [<- hnn] at hR hA1 hb1 ⊢
 rw [<- hm] at hR hf1 hb2 ⊢
 have HA:=zh hA; have HN:=zh hnn
 clear hn hf hA hnn hm
 have fin:∀ k:Nat,R = k -> Ending.returned (.int .i64 (k:Int)) = .returned (.int .i64 (R:Int)):=fun k h => by rw [h]
 have HFIN:=zh fin; clear fin
 by_cases h1:vars < 0
 ·rw [if_pos (.inl h1)] at hR
  have HR:=zh hR; clear hR
  go_enter Tryz.func36,Tryz.ntmps36
  go_wp2
  go_returns
  exact ⟨HFIN.out 7 HR.out,by go_grown⟩
 by_cases h2:3 < vars
 ·rw [if_pos (.inr h2)] at hR
  have HR:=zh hR; clear hR
  have h1':0 <= vars:=by omega
  go_enter Tryz.func36,Tryz.ntmps36
  go_wp2
  go_returns
  exact ⟨HFIN.out 7 HR.out,by go_grown⟩
 rw [if_neg (by omega)] at hR
 have h1':0 <= vars:=by omega
 have h2':vars <= 3:=by omega
 by_cases h3:n = 0
 ·rw [if_pos h3] at hR
  have HR:=zh hR; clear hR
  have h3':((n:Int) == 0) = true:=by rw [beq_iff_eq]; omega
  clear h3
  go_enter Tryz.func36,Tryz.ntmps36
  go_wp2
  go_returns
  exact ⟨HFIN.out 3 HR.out,by go_grown⟩
 rw [if_neg h3] at hR
 have h3':((n:Int) == 0) = false:=by rw [beq_eq_false_iff_ne]; omega
 by_cases h4:64 < n
 ·rw [if_pos h4] at hR
  have HR:=zh hR; clear hR
  have h4':(64:Int) < (n:Int):=by omega
  go_enter Tryz.func36,Tryz.ntmps36
  go_wp2
  go_returns
  exact ⟨HFIN.out 4 HR.out,by go_grown⟩
 rw [if_neg h4] at hR
 have h4':(n:Int) <= 64:=by omega
 by_cases h5:m ≠ n
 ·rw [if_pos h5] at hR
  have HR:=zh hR; clear hR
  have h5':((m:Int) != n) = true:=by rw [bne_iff_ne]; omega
  go_enter Tryz.func36,Tryz.ntmps36
  go_wp2
  go_returns
  exact ⟨HFIN.out 2 HR.out,by go_grown⟩
 rw [if_neg h5] at hR
 have h5':((m:Int) != n) = false:=by simp only [Decidable.not_not] at h5; rw [h5]; simp
 clear h5
 by_cases h6:¬ (0 <= empty /\ empty < (n:Int))
 ·rw [if_pos h6] at hR
  have HR:=zh hR; clear hR
  have h6':Hid (okS n empty = false):=by unfold Hid; simp only [okS,Bool.and_eq_false_iff,decide_eq_false_iff_not]; omega
  clear h6
  go_enter Tryz.func36,Tryz.ntmps36
  go_wp2_with (go_at_call 77; go_must (refine (zez n empty _ _ (Row.lit (by simp))).mono ?_; rintro e w2 ⟨rfl,rfl⟩; rw [h6'.out]))
  go_returns
  exact ⟨HFIN.out 8 HR.out,by go_grown⟩
 simp only [Decidable.not_not] at h6
 obtain ⟨h6a,h6b⟩:=h6
 rw [if_neg (by simp only [Decidable.not_not]; exact ⟨h6a,h6b⟩)] at hR
 have h6':Hid (okS n empty = true):=by unfold Hid; simp only [okS,Bool.and_eq_true,decide_eq_true_eq]; exact ⟨h6a,h6b⟩
 obtain ⟨V,rfl⟩:∃ V:Nat,vars = V:=⟨vars.toNat,by omega⟩
 rw [Int.toNat_natCast] at hR
 have hsh:=zdm V (by omega)
 obtain ⟨L,hL⟩:=zx (2 ^ V)
 rw [<- hL] at hsh hR
 have HR:=zh hR; clear hR hL h1 h2 h3 h4
 clear h6a h6b
 go_enter Tryz.func36,Tryz.ntmps36
 go_wp2_with (go_at_call 77; go_must (refine (zez n empty _ _ (Row.lit (by simp))).mono ?_; rintro e w2 ⟨rfl,rfl⟩; rw [h6'.out]))
 refine zaa (fun W => Below w.heap.size w W /\ Row W w.heap.size 30 #[.int .i64 (V:Int),.int .i64 empty,.slice A n c,.slice Af m cf] /\ Row W (w.heap.size + 1) 3 #[.int .i64 n]) ⟨by go_grown,(Row.new _ _ _).alloc _,Row.lit (by simp)⟩ ?_
 rintro W ⟨hb,hr1,hr2⟩
 have HB:=zh hb; have R1:=zh hr1; have R2:=zh hr2
 clear hb hr1 hr2
 go_loopg [45] n (fun gk q wr => ∃ l:Nat,l <= n /\ gk = n - l /\ q = .int .i64 l /\ wr = W /\ zbx (rowsE n L) (next.take l) = 0)
 case atStart => exact ⟨0,Nat.zero_le _,rfl,rfl,rfl,rfl⟩
 case round =>
  obtain ⟨l,hl,rfl,rfl,rfl,hz⟩:=hrel
  have HZ:=zh hz; clear hz
  by_cases hlt:l < n
  ·obtain ⟨LL,hx⟩:∃ x,next[l]? = some x:=⟨next[l]'(by rw [<- HN.out]; exact hlt),List.getElem?_eq_getElem _⟩
   obtain ⟨b,o,u,rfl,hb,c0,hN2⟩:=HA.out l LL hx
   rw [<- HB.out.cell (p:=⟨b,_,none⟩) hb] at c0
   obtain ⟨A2,c2,rfl,hB1,hB2,hA2'⟩:=hN2.open
   obtain ⟨n2,hn2⟩:=zx LL.length
   rw [<- hn2] at hB1 c0
   have HX:=zh hx; have HN2:=zh hn2; have HA2:=zh hA2'
   clear hx hn2 hA2' hN2
   have z1:=R1.out.cell; have z2:=R2.out.cell
   by_cases hne:n2 = n
   ·subst hne
    have h7:((n2:Int) != n2) = false:=by simp
    go_wp2
    go_loopg [55] n2 (fun gk q wr2 => ∃ r:Nat,r <= n2 /\ gk = n2 - r /\ q = .int .i64 r /\ wr2 = wr /\ zbx (rowE n2 L) (LL.take r) = 0)
    case atStart => exact ⟨0,Nat.zero_le _,rfl,rfl,rfl,rfl⟩
    case round =>
     obtain ⟨r,hr,rfl,rfl,rfl,hz⟩:=hrel
     have HZ2:=zh hz; clear hz
     by_cases hlt2:r < n2
     ·obtain ⟨l1,hx⟩:∃ x,LL[r]? = some x:=⟨LL[r]'(by rw [<- HN2.out]; exact hlt2),List.getElem?_eq_getElem _⟩
      obtain ⟨b2,o2,u,rfl,hb2',d0,hN1⟩:=HA2.out r l1 hx
      rw [<- HB.out.cell (p:=⟨b2,_,none⟩) hb2'] at d0
      obtain ⟨A1,c1,rfl,hC1,hC2,hA1'⟩:=hN1.open
      obtain ⟨n1,hn1⟩:=zx l1.length
      rw [<- hn1] at hC1 d0
      have HX2:=zh hx; have HN1:=zh hn1; have HA1:=zh hA1'
      clear hx hn1 hA1' hN1
      by_cases hne:n1 = L
      ·subst hne
       have h8:((n1:Int) != n1) = false:=by simp
       go_wp2
       go_loopg [67] n1 (fun gk q wr3 => ∃ x:Nat,x <= n1 /\ gk = n1 - x /\ q = .int .i64 x /\ wr3 = wr /\ zbx (zft n2) (l1.take x) = 0)
       case atStart => exact ⟨0,Nat.zero_le _,rfl,rfl,rfl,rfl⟩
       case round =>
        obtain ⟨x,hx1,rfl,rfl,rfl,hz⟩:=hrel
        have HZ3:=zh hz; clear hz
        by_cases hlt3:x < n1
        ·obtain ⟨s,hx⟩:∃ s,l1[x]? = some s:=⟨l1[x]'(by rw [<- HN1.out]; exact hlt3),List.getElem?_eq_getElem _⟩
         obtain ⟨b1,o1,rfl,hb1',e0⟩:=HA1.out x s hx
         rw [<- HB.out.cell (p:=⟨b1,_,none⟩) hb1'] at e0
         have HX3:=zh hx; clear hx
         by_cases hok:0 <= s /\ s < (n2:Int)
         ·have h9:Hid (okS n2 s = true):=by unfold Hid; simp only [okS,Bool.and_eq_true,decide_eq_true_eq]; exact hok
          have h10:Hid (zft n2 s = 0):=by unfold Hid zft; rw [if_pos hok]
          clear hok
          go_wp2_with (go_at_call 77; go_must (refine (zez n2 s _ _ R2.out).mono ?_; rintro e w2 ⟨rfl,rfl⟩; rw [h9.out]))
          go_roundg (n1 - (x + 1))
          case rel => exact ⟨x + 1,by omega,rfl,by go_num,rfl,zee HZ3.out HX3.out h10.out⟩
          case measure => omega
         ·have h9:Hid (okS n2 s = false):=by unfold Hid; simp only [okS,Bool.and_eq_false_iff,decide_eq_false_iff_not]; omega
          have h10:Hid (zft n2 s = 8):=by unfold Hid zft; rw [if_neg hok]
          clear hok
          have h11:Hid (R = 8):=by
           have e1:=zc5 HZ3.out HX3.out (by rw [h10.out]; omega)
           have e2:rowE n2 n1 l1 = 8:=by unfold rowE; rw [if_pos HN1.out.symm,e1,h10.out]
           have e3:=zc5 HZ2.out HX2.out (by rw [e2]; omega)
           have e4:rowsE n2 n1 LL = 8:=by unfold rowsE; rw [if_pos HN2.out.symm,e3,e2]
           have e5:=zc5 HZ.out HX.out (by rw [e4]; omega)
           unfold Hid; rw [HR.out,e5,e4]
          go_wp2_with (go_at_call 77; go_must (refine (zez n2 s _ _ R2.out).mono ?_; rintro e w2 ⟨rfl,rfl⟩; rw [h9.out]))
          go_returns
          exact ⟨HFIN.out 8 h11.out,HB.out⟩
        ·have hxn:x = n1:=by omega
         have h10:Hid (rowE n2 n1 l1 = 0):=by
          have e1:=HZ3.out
          rw [hxn,List.take_of_length_le (by rw [<- HN1.out]; exact zn)] at e1
          unfold Hid rowE; rw [if_pos HN1.out.symm,e1]
         clear hxn
         go_wp2
         go_roundg (n2 - (r + 1))
         case rel => exact ⟨r + 1,by omega,rfl,by go_num,rfl,zee HZ2.out HX2.out h10.out⟩
         case measure => omega
      ·have h8:((n1:Int) != L) = true:=by rw [bne_iff_ne]; omega
       have h11:Hid (R = 2):=by
        have e2:rowE n2 L l1 = 2:=by unfold rowE; rw [if_neg (by rw [<- HN1.out]; exact hne)]
        have e3:=zc5 HZ2.out HX2.out (by rw [e2]; omega)
        have e4:rowsE n2 L LL = 2:=by unfold rowsE; rw [if_pos HN2.out.symm,e3,e2]
        have e5:=zc5 HZ.out HX.out (by rw [e4]; omega)
        unfold Hid; rw [HR.out,e5,e4]
       clear hne
       go_wp2
       go_returns
       exact ⟨HFIN.out 2 h11.out,HB.out⟩
     ·have hxn:r = n2:=by omega
      have h10:Hid (rowsE n2 L LL = 0):=by
       have e1:=HZ2.out
       rw [hxn,List.take_of_length_le (by rw [<- HN2.out]; exact zn)] at e1
       unfold Hid rowsE; rw [if_pos HN2.out.symm,e1]
      clear hxn
      go_wp2
      go_roundg (n2 - (l + 1))
      case rel => exact ⟨l + 1,by omega,rfl,by go_num,rfl,zee HZ.out HX.out h10.out⟩
      case measure => omega
   ·have h7:((n2:Int) != n) = true:=by rw [bne_iff_ne]; omega
    have h11:Hid (R = 2):=by
     have e4:rowsE n L LL = 2:=by unfold rowsE; rw [if_neg (by rw [<- HN2.out]; exact hne)]
     have e5:=zc5 HZ.out HX.out (by rw [e4]; omega)
     unfold Hid; rw [HR.out,e5,e4]
    clear hne
    go_wp2
    go_returns
    exact ⟨HFIN.out 2 h11.out,HB.out⟩
  ·have hxn:l = n:=by omega
   have h10:Hid (R = 0):=by
    have e1:=HZ.out
    rw [hxn,List.take_of_length_le (by rw [<- HN.out]; exact zn)] at e1
    unfold Hid; rw [HR.out,e1]
   clear hxn
   go_wp2
   go_returns
   exact ⟨HFIN.out 0 h10.out,HB.out⟩
end Go.Proofs.YthdabkmkgkkmcaaGreatDoor
namespace Go.Proofs.YthdabkmkgkkmcaaGreatDoor
def sumA (l r:Nat):Nat:=if l ≠ 0 /\ r ≠ 0 then 3 else l + r
def relA (far:Bool) (fnd:Nat -> Nat -> Bool) (l r x y:Nat):Nat :=
 if x = 0 /\ y = 0 /\ (far = true \/ sumA l r ≠ 1) then sumA l r
 else if x = 0 /\ y = 1 /\ sumA l r = 0 then 1
 else if x = 1 /\ y = 0 /\ sumA l r = 1 /\ fnd l r = true then 2 else 3
def stepA (op:Int) (l r x y:Nat):Nat :=
 if op = 2 then (if 0 < l + r \/ y < x then 3 else 0)
 else if op = 3 then (if 0 < l + r + x then 3 else 0)
 else if op = 4 then min (sumA (sumA l r) x) 3
 else if op = 6 then relA true (fun _ _ => true) l r x y
 else if op = 7 then relA false (fun l _ => l == 1) l r x y
 else if op = 8 then relA false (fun _ r => r == 1) l r x y
 else 0
def finA (op:Int):Nat:=if op = 4 then 1 else if op = 6 \/ op = 7 \/ op = 8 then 2 else 0
theorem ze8 {l r:Nat} (hl:l < 4) (hr:r < 4):sumA l r < 4:=by unfold sumA; split <;> omega
theorem zkc {far:Bool} {fnd:Nat -> Nat -> Bool} {l r x y:Nat} (hl:l < 4) (hr:r < 4):relA far fnd l r x y < 4:=by
 have:=ze8 hl hr
 unfold relA
 repeat' split
 all_goals omega
theorem zqv (op:Int) {l r x y:Nat} (hl:l < 4) (hr:r < 4):stepA op l r x y < 4:=by
 have h1:=@zkc true (fun _ _ => true) l r x y hl hr
 have h2:=@zkc false (fun l _ => l == 1) l r x y hl hr
 have h3:=@zkc false (fun _ r => r == 1) l r x y hl hr
 unfold stepA
 repeat' split
 all_goals omega
theorem finA_lt (op:Int):finA op < 4:=by
 unfold finA
 repeat' split
 all_goals omega
def bitA (x:Nat) (v:Int):Nat:=x / 2 ^ v.toNat % 2
theorem zqc (x:Nat) (v:Int):bitA x v < 2:=Nat.mod_lt _ (by omega)
def atomA (op X Y:Int) (V:Nat):Dta:=⟨4,0,2 ^ V,fun l r x => if (l < 3 /\ r < 3) \/ op = 1 then stepA op l r (bitA x X) (bitA x Y) else 3,fun s => s == finA op⟩
theorem zcj (op X Y:Int) {V:Nat} (hV:V <= 3):(atomA op X Y V).Fit V:=by
 refine ⟨⟨by show 0 < 4; omega,fun l r x hl hr _ => ?_⟩,by show 4 <= 64; omega,hV,rfl⟩
 show (if _ then _ else _) < 4
 split
 ·exact zqv op hl hr
 ·omega
end Go.Proofs.YthdabkmkgkkmcaaGreatDoor
namespace Go.Proofs.YthdabkmkgkkmcaaGreatDoor
open Go.RowKit
theorem zja (l r:Nat) (hl:l < 4) (hr:r < 4) (w:World):Calls Tryz.prog 144 #[.int .i64 (l:Int),.int .i64 (r:Int)] w fun e w' => e = .returned (.int .i64 ((sumA l r:Nat):Int)) /\ w = w':=by
 have h1:l = 0 \/ l = 1 \/ l = 2 \/ l = 3:=by omega
 have h2:r = 0 \/ r = 1 \/ r = 2 \/ r = 3:=by omega
 clear hl hr
 rcases h1 with rfl | rfl | rfl | rfl <;> rcases h2 with rfl | rfl | rfl | rfl
 all_goals
  go_enter Tryz.func144,Tryz.ntmps144
  go_wp2
  go_returns
  exact ⟨rfl,rfl⟩
abbrev zbd (op:Int) (l r x y:Nat) (w:World) (e:Ending) (w':World):Prop:=e = .returned (.int .i64 ((stepA op l r x y:Nat):Int)) /\ w = w'
theorem zq1 (l r x y:Nat) (hl:l < 4) (hr:r < 4) (hx:x < 2) (hy:y < 2) (w:World):Calls Tryz.prog 141 #[.int .i64 (l:Int),.int .i64 (r:Int),.int .i64 (x:Int),.int .i64 (y:Int)] w (zbd 2 l r x y w):=by
 have hw:IntKind.i64.wrap ((l:Int) + (r:Int)) = (l:Int) + (r:Int):=IntWalk.i64_in _ ⟨by omega,by omega⟩
 have e0:stepA 2 l r x y = if 0 < l + r \/ y < x then 3 else 0:=rfl
 by_cases h:0 < l + r
 ·have h1:(0:Int) < (l:Int) + (r:Int):=by omega
  rw [if_pos (Or.inl h)] at e0
  have E0:=zh e0
  clear e0 h hl hr hx hy
  go_enter Tryz.func141,Tryz.ntmps141
  go_wp2
  go_returns
  exact ⟨by rw [E0.out]; rfl,rfl⟩
 ·have h1:¬ (0:Int) < (l:Int) + (r:Int):=by omega
  by_cases g:y < x
  ·have g1:(y:Int) < (x:Int):=by omega
   rw [if_pos (Or.inr g)] at e0
   have E0:=zh e0
   clear e0 h hl hr hx hy g
   go_enter Tryz.func141,Tryz.ntmps141
   go_wp2
   go_returns
   exact ⟨by rw [E0.out]; rfl,rfl⟩
  ·have g1:¬ (y:Int) < (x:Int):=by omega
   rw [if_neg (by omega)] at e0
   have E0:=zh e0
   clear e0 h hl hr hx hy g
   go_enter Tryz.func141,Tryz.ntmps141
   go_wp2
   go_returns
   exact ⟨by rw [E0.out]; rfl,rfl⟩
theorem zq0 (l r x y:Nat) (hl:l < 4) (hr:r < 4) (hx:x < 2) (hy:y < 2) (w:World):Calls Tryz.prog 142 #[.int .i64 (l:Int),.int .i64 (r:Int),.int .i64 (x:Int),.int .i64 (y:Int)] w (zbd 3 l r x y w):=by
 have hw:IntKind.i64.wrap ((l:Int) + (r:Int)) = (l:Int) + (r:Int):=IntWalk.i64_in _ ⟨by omega,by omega⟩
 have hw2:IntKind.i64.wrap ((l:Int) + (r:Int) + (x:Int)) = (l:Int) + (r:Int) + (x:Int):=IntWalk.i64_in _ ⟨by omega,by omega⟩
 have e0:stepA 3 l r x y = if 0 < l + r + x then 3 else 0:=rfl
 by_cases h:0 < l + r + x
 ·have h1:(0:Int) < (l:Int) + (r:Int) + (x:Int):=by omega
  rw [if_pos h] at e0
  have E0:=zh e0
  clear e0 h hl hr hx hy
  go_enter Tryz.func142,Tryz.ntmps142
  go_wp2
  go_returns
  exact ⟨by rw [E0.out]; rfl,rfl⟩
 ·have h1:¬ (0:Int) < (l:Int) + (r:Int) + (x:Int):=by omega
  rw [if_neg h] at e0
  have E0:=zh e0
  clear e0 h hl hr hx hy
  go_enter Tryz.func142,Tryz.ntmps142
  go_wp2
  go_returns
  exact ⟨by rw [E0.out]; rfl,rfl⟩
theorem zqz (l r x y:Nat) (hl:l < 4) (hr:r < 4) (hx:x < 2) (hy:y < 2) (w:World):Calls Tryz.prog 143 #[.int .i64 (l:Int),.int .i64 (r:Int),.int .i64 (x:Int),.int .i64 (y:Int)] w (zbd 4 l r x y w):=by
 have hb:=ze8 hl hr
 have H1:=zh (zja l r hl hr)
 obtain ⟨b,hbe⟩:=zx (sumA l r)
 rw [<- hbe] at hb H1
 have H2:=zh (zja b x hb (by omega))
 have e0:stepA 4 l r x y = min (sumA b x) 3:=by rw [hbe]; rfl
 have hc:=ze8 hb (show x < 4 by omega)
 obtain ⟨c,hce⟩:=zx (sumA b x)
 rw [<- hce] at hc H2 e0
 have hc4:c = 0 \/ c = 1 \/ c = 2 \/ c = 3:=by omega
 have E0:=zh e0
 clear e0 hbe hce hb hc hl hr hx hy
 rcases hc4 with rfl | rfl | rfl | rfl
 all_goals
  go_enter Tryz.func143,Tryz.ntmps143
  go_wp2_with (first
   | (go_at_call 144; (with_reducible refine (H1.out _).mono ?_); rintro e w1 ⟨rfl,rfl⟩)
   | (go_at_call 144; (with_reducible refine (H2.out _).mono ?_); rintro e w1 ⟨rfl,rfl⟩)
   | fail)
  go_returns
  exact ⟨by rw [E0.out]; rfl,rfl⟩
theorem zk8 (op:Int) (h2:op ≠ 2) (h3:op ≠ 3) (h4:op ≠ 4) (h6:op ≠ 6) (h7:op ≠ 7) (h8:op ≠ 8) (l r x y:Nat) (w:World):Calls Tryz.prog 149 #[.int .i64 (l:Int),.int .i64 (r:Int),.int .i64 (x:Int),.int .i64 (y:Int)] w (zbd op l r x y w):=by
 have e0:stepA op l r x y = 0:=by
  unfold stepA
  rw [if_neg h2,if_neg h3,if_neg h4,if_neg h6,if_neg h7,if_neg h8]
 have E0:=zh e0
 clear e0 h2 h3 h4 h6 h7 h8
 go_enter Tryz.func149,Tryz.ntmps149
 go_wp2
 go_returns
 exact ⟨by rw [E0.out]; rfl,rfl⟩
theorem fnd6_ok (l r:Nat) (hl:l < 4) (hr:r < 4) (w:World):Calls Tryz.prog 146 #[.int .i64 (l:Int),.int .i64 (r:Int)] w fun e w' => e = .returned (.bool ((fun _ _ => true:Nat -> Nat -> Bool) l r)) /\ w = w':=by
 have h1:l = 0 \/ l = 1 \/ l = 2 \/ l = 3:=by omega
 have h2:r = 0 \/ r = 1 \/ r = 2 \/ r = 3:=by omega
 clear hl hr
 rcases h1 with rfl | rfl | rfl | rfl <;> rcases h2 with rfl | rfl | rfl | rfl
 all_goals
  go_enter Tryz.func146,Tryz.ntmps146
  go_wp2
  go_returns
  exact ⟨rfl,rfl⟩
theorem zqy (l r x y:Nat) (hl:l < 4) (hr:r < 4) (hx:x < 2) (hy:y < 2) (w:World) (gF gG:Nat) (hF:Row w gF 4 #[.bool true]) (hG:Row w gG 47 #[.func (.func 146) #[] #[]]) :
  Calls Tryz.prog 167 #[.int .i64 (l:Int),.int .i64 (r:Int),.int .i64 (x:Int),.int .i64 (y:Int),.pointer (some ⟨gF,0,none⟩),.pointer (some ⟨gG,0,none⟩)] w (zbd 6 l r x y w):=by
 have hb:=ze8 hl hr
 have H1:=zh (zja l r hl hr)
 have H2:=zh (fnd6_ok l r hl hr)
 have y1:=hF.cell; have y2:=hG.cell
 have e0:stepA 6 l r x y = relA true (fun _ _ => true) l r x y:=rfl
 unfold relA at e0
 obtain ⟨b,hbe⟩:=zx (sumA l r)
 rw [<- hbe] at hb H1 e0
 obtain ⟨q,hq⟩:=zx ((fun _ _ => true:Nat -> Nat -> Bool) l r)
 rw [<- hq] at H2 e0
 have E0:=zh e0
 have hb4:b = 0 \/ b = 1 \/ b = 2 \/ b = 3:=by omega
 have hx2:x = 0 \/ x = 1:=by omega
 have hy2:y = 0 \/ y = 1:=by omega
 clear e0 hbe hq hb hl hr hx hy hF hG
 rcases hx2 with rfl | rfl <;> rcases hy2 with rfl | rfl <;> rcases hb4 with rfl | rfl | rfl | rfl <;> cases q
 all_goals
  go_enter Tryz.func167,Tryz.ntmps167
  go_wp2_with (first
   | (go_at_call 144; (with_reducible refine (H1.out _).mono ?_); rintro e w1 ⟨rfl,rfl⟩)
   | (go_at_call 146; (with_reducible refine (H2.out _).mono ?_); rintro e w1 ⟨rfl,rfl⟩)
   | fail)
  go_returns
  exact ⟨by rw [E0.out]; rfl,rfl⟩
theorem fnd7_ok (l r:Nat) (hl:l < 4) (hr:r < 4) (w:World):Calls Tryz.prog 147 #[.int .i64 (l:Int),.int .i64 (r:Int)] w fun e w' => e = .returned (.bool ((fun l _ => l == 1:Nat -> Nat -> Bool) l r)) /\ w = w':=by
 have h1:l = 0 \/ l = 1 \/ l = 2 \/ l = 3:=by omega
 have h2:r = 0 \/ r = 1 \/ r = 2 \/ r = 3:=by omega
 clear hl hr
 rcases h1 with rfl | rfl | rfl | rfl <;> rcases h2 with rfl | rfl | rfl | rfl
 all_goals
  go_enter Tryz.func147,Tryz.ntmps147
  go_wp2
  go_returns
  exact ⟨rfl,rfl⟩
theorem zqx (l r x y:Nat) (hl:l < 4) (hr:r < 4) (hx:x < 2) (hy:y < 2) (w:World) (gF gG:Nat) (hF:Row w gF 4 #[.bool false]) (hG:Row w gG 47 #[.func (.func 147) #[] #[]]) :
  Calls Tryz.prog 167 #[.int .i64 (l:Int),.int .i64 (r:Int),.int .i64 (x:Int),.int .i64 (y:Int),.pointer (some ⟨gF,0,none⟩),.pointer (some ⟨gG,0,none⟩)] w (zbd 7 l r x y w):=by
 have hb:=ze8 hl hr
 have H1:=zh (zja l r hl hr)
 have H2:=zh (fnd7_ok l r hl hr)
 have y1:=hF.cell; have y2:=hG.cell
 have e0:stepA 7 l r x y = relA false (fun l _ => l == 1) l r x y:=rfl
 unfold relA at e0
 obtain ⟨b,hbe⟩:=zx (sumA l r)
 rw [<- hbe] at hb H1 e0
 obtain ⟨q,hq⟩:=zx ((fun l _ => l == 1:Nat -> Nat -> Bool) l r)
 rw [<- hq] at H2 e0
 have E0:=zh e0
 have hb4:b = 0 \/ b = 1 \/ b = 2 \/ b = 3:=by omega
 have hx2:x = 0 \/ x = 1:=by omega
 have hy2:y = 0 \/ y = 1:=by omega
 clear e0 hbe hq hb hl hr hx hy hF hG
 rcases hx2 with rfl | rfl <;> rcases hy2 with rfl | rfl <;> rcases hb4 with rfl | rfl | rfl | rfl <;> cases q
 all_goals
  go_enter Tryz.func167,Tryz.ntmps167
  go_wp2_with (first
   | (go_at_call 144; (with_reducible refine (H1.out _).mono ?_); rintro e w1 ⟨rfl,rfl⟩)
   | (go_at_call 147; (with_reducible refine (H2.out _).mono ?_); rintro e w1 ⟨rfl,rfl⟩)
   | fail)
  go_returns
  exact ⟨by rw [E0.out]; rfl,rfl⟩
theorem fnd8_ok (l r:Nat) (hl:l < 4) (hr:r < 4) (w:World):Calls Tryz.prog 148 #[.int .i64 (l:Int),.int .i64 (r:Int)] w fun e w' => e = .returned (.bool ((fun _ r => r == 1:Nat -> Nat -> Bool) l r)) /\ w = w':=by
 have h1:l = 0 \/ l = 1 \/ l = 2 \/ l = 3:=by omega
 have h2:r = 0 \/ r = 1 \/ r = 2 \/ r = 3:=by omega
 clear hl hr
 rcases h1 with rfl | rfl | rfl | rfl <;> rcases h2 with rfl | rfl | rfl | rfl
 all_goals
  go_enter Tryz.func148,Tryz.ntmps148
  go_wp2
  go_returns
  exact ⟨rfl,rfl⟩
theorem zqw (l r x y:Nat) (hl:l < 4) (hr:r < 4) (hx:x < 2) (hy:y < 2) (w:World) (gF gG:Nat) (hF:Row w gF 4 #[.bool false]) (hG:Row w gG 47 #[.func (.func 148) #[] #[]]) :
  Calls Tryz.prog 167 #[.int .i64 (l:Int),.int .i64 (r:Int),.int .i64 (x:Int),.int .i64 (y:Int),.pointer (some ⟨gF,0,none⟩),.pointer (some ⟨gG,0,none⟩)] w (zbd 8 l r x y w):=by
 have hb:=ze8 hl hr
 have H1:=zh (zja l r hl hr)
 have H2:=zh (fnd8_ok l r hl hr)
 have y1:=hF.cell; have y2:=hG.cell
 have e0:stepA 8 l r x y = relA false (fun _ r => r == 1) l r x y:=rfl
 unfold relA at e0
 obtain ⟨b,hbe⟩:=zx (sumA l r)
 rw [<- hbe] at hb H1 e0
 obtain ⟨q,hq⟩:=zx ((fun _ r => r == 1:Nat -> Nat -> Bool) l r)
 rw [<- hq] at H2 e0
 have E0:=zh e0
 have hb4:b = 0 \/ b = 1 \/ b = 2 \/ b = 3:=by omega
 have hx2:x = 0 \/ x = 1:=by omega
 have hy2:y = 0 \/ y = 1:=by omega
 clear e0 hbe hq hb hl hr hx hy hF hG
 rcases hx2 with rfl | rfl <;> rcases hy2 with rfl | rfl <;> rcases hb4 with rfl | rfl | rfl | rfl <;> cases q
 all_goals
  go_enter Tryz.func167,Tryz.ntmps167
  go_wp2_with (first
   | (go_at_call 144; (with_reducible refine (H1.out _).mono ?_); rintro e w1 ⟨rfl,rfl⟩)
   | (go_at_call 148; (with_reducible refine (H2.out _).mono ?_); rintro e w1 ⟨rfl,rfl⟩)
   | fail)
  go_returns
  exact ⟨by rw [E0.out]; rfl,rfl⟩
end Go.Proofs.YthdabkmkgkkmcaaGreatDoor
