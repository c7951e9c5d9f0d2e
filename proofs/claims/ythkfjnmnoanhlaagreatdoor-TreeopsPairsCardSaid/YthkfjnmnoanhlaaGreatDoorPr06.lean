/- Part 6 of the proof; it says: lemmas and contracts. No conditions but those that each theorem states. -/
import Derived.Maps.OwnSet
import Derived.WideKeyPair
import Derived.Test.YthkfjnmnoanhlaaGreatDoorPr01
import Derived.Test.YthkfjnmnoanhlaaGreatDoorPr04
import Derived.Test.YthkfjnmnoanhlaaGreatDoorPr05
set_option linter.unusedSimpArgs false
set_option linter.unusedVariables false
set_option linter.unusedSectionVars false
set_option maxRecDepth 100000
set_option maxHeartbeats 32000000
namespace Go.Proofs.YthkfjnmnoanhlaaGreatDoor
open Go.RowKit
theorem zkr (w:World):(zeroValue 3).run Tryz.prog w = .ok (.int .i64 0) w:=by kernel_rfl
theorem zbh:Tryz.prog.underlying 3 = some (.int .i64):=by kernel_rfl
theorem zgy (s:Nat) (hs:s <= 1000000):(Lit.int .i64 (s:Int)).wf = true:=by
 have h1:IntKind.min .i64 = -9223372036854775808:=by decide
 have h2:IntKind.max .i64 = 9223372036854775807:=by decide
 simp only [Lit.wf,h1,h2,Bool.and_eq_true,decide_eq_true_eq]
 omega
structure Kl {α:Type} (lit:α -> Lit):Prop where
 inj:∀ a b,lit a = lit b -> a = b
 key:∀ a,WideAt.IsKeyLit (lit a)
section
variable {α:Type} [DecidableEq α]
def NM (k:TypeId) (lit:α -> Lit) (w:World) (b:Nat) (ks:List α):Prop :=
 ∃ D:DataW Nat,w.ownsMap Tryz.prog k (plainElem Tryz.prog 3) b ks.length D /\ Maps.Tidy D /\ Maps.size D = ks.length /\ (∀ s,Maps.has D (lit s) = decide (s ∈ ks)) /\
  ∀ s ∈ ks,∀ z,D.atKey (lit s) z = .lit (.int .i64 ((ks.idxOf s:Nat):Int))
variable {k:TypeId} {lit:α -> Lit} {w:World} {b:Nat} {ks:List α}
theorem NM.made (k:TypeId) (lit:α -> Lit) (w:World):NM k lit (w.alloc (.map #[] 0)) w.heap.size ([]:List α) :=
 ⟨.map [],World.ownsMap_made w _ _ _,Maps.tidy_empty,rfl,by intro s; simp [Maps.has_eq],by intro s hs; cases hs⟩
theorem NM.lt (h:NM k lit w b ks):b < w.heap.size:=by
 obtain ⟨D,hD,_⟩:=h; exact hD.lt
theorem NM.kept {w':World} {row:Option Nat} (h:NM k lit w b ks) (hg:w.grownBy w' row) (hne:some b ≠ row):NM k lit w' b ks:=by
 obtain ⟨D,hD,r⟩:=h; exact ⟨D,hD.kept hg hne,r⟩
theorem NM.alloc (h:NM k lit w b ks) (o:Obj):NM k lit (w.alloc o) b ks:=h.kept (World.grownBy_alloc w o none) (by simp)
theorem NM.drew (h:NM k lit w b ks):NM k lit w.drew b ks:=h
theorem NM.setCell (h:NM k lit w b ks) {a:Addr} (ha:b ≠ a.block) (u:Value):NM k lit (w.setCell a u) b ks:=by
 obtain ⟨D,hD,r⟩:=h; exact ⟨D,hD.setCell ha u,r⟩
theorem NM.heap {w':World} (h:NM k lit w b ks) (hh:w'.heap[b]? = w.heap[b]?):NM k lit w' b ks:=by
 obtain ⟨D,⟨es,clock,h1,h2⟩,r⟩:=h; exact ⟨D,⟨es,clock,hh.trans h1,h2⟩,r⟩
theorem NM.below {w':World} {B:Nat} (h:NM k lit w b ks) (hb:Below B w w') (hB:b < B):NM k lit w' b ks:=h.heap (hb.block b hB)
theorem NM.ne_row (h:NM k lit w b ks) {g:Nat} {E:TypeId} {cs:Array Value} (hr:Row w g E cs):b ≠ g:=fun e => by
 obtain ⟨D,⟨es,clock,h1,_⟩,_⟩:=h
 subst e
 unfold Row at hr
 rw [h1] at hr
 cases hr
theorem NM.ne_own (h:NM k lit w b ks) {E:TypeId} {B:Nat} {v:Value} {l:List Value} (hr:VO E w B v l):some b ≠ v.ownBlock:=fun e => by
 obtain ⟨D,⟨es,clock,h1,_⟩,_⟩:=h
 rcases hr.2.2 with ⟨hv,_⟩ | ⟨g2,cap2,cur2,hv,_,hg2,_⟩
 ·rw [hv] at e; cases e
 ·rw [hv] at e
  simp only [Value.ownBlock,Option.some.injEq] at e
  subst e
  rw [h1] at hg2
  cases hg2
theorem zp2 (K:Maps.Keyed Tryz.prog k) {o:Oper} {a:Act} {Kk:Act -> World -> Prop} {Q:Exit -> Act -> World -> Prop} (m x:Operand) (t:TypeId) (hop:o.op = Op.lookup t m x true)
  (ht:Tryz.prog.underlying t = some (.map k 3)) (hm:a.eval m = .map (some b)) (h:NM k lit w b ks) (s:α) (key:Value) (hx:a.eval x = key) (hkey:keyOf Tryz.prog k key = some (lit s))
  (hK:Kk (a.put o.dst (.tuple #[.int .i64 ((if s ∈ ks then ks.idxOf s else 0:Nat):Int),.bool (decide (s ∈ ks))])) w):o.wp Tryz.prog a w Kk Q:=by
 obtain ⟨D,hD,_,_,hhas,hat⟩:=h
 obtain ⟨v,ps,hrun,hv⟩:=hD.look_ok K ht (zkr w) (plainElem_int zbh (by decide)) hkey
 obtain ⟨c,rfl,hc,hwc⟩:=plainElem_int_inv zbh hv
 have hc1:=congrArg Prod.fst hc
 simp only at hc1
 unfold Oper.wp
 simp [execOp,hop,hm,hx,hrun,Result.andThen]
 rw [hhas]
 by_cases hs:s ∈ ks
 ·rw [hat s hs] at hc1
  cases hc1
  rw [if_pos hs] at hK
  exact hK
 ·rw [Maps.atKey_of_not_has (by rw [hhas,decide_eq_false hs])] at hc1
  cases hc1
  rw [if_neg hs] at hK
  exact hK
theorem ze5 (K:Maps.Keyed Tryz.prog k) {ops:Array Oper} {rest:List Oper} {o:Oper} {a:Act} {Q:Exit -> Act -> World -> Prop} (hg:o.guard = none) (m x:Operand) (t:TypeId) (hop:o.op = Op.lookup t m x true)
  (ht:Tryz.prog.underlying t = some (.map k 3)) (hm:a.eval m = .map (some b)) (h:NM k lit w b ks) (s:α) (key:Value) (hx:a.eval x = key) (hkey:keyOf Tryz.prog k key = some (lit s))
  (hK:wpList Tryz.prog ops Q rest (a.put o.dst (.tuple #[.int .i64 ((if s ∈ ks then ks.idxOf s else 0:Nat):Int),.bool (decide (s ∈ ks))])) w):wpList Tryz.prog ops Q (o :: rest) a w :=
 wpList_plain hg fun K' hK' => zp2 K m x t hop ht hm h s key hx hkey (hK' _ _ hK)
theorem zd3 (K:Maps.Keyed Tryz.prog k) {ops:Array Oper} {rest:List Oper} {o:Oper} {a:Act} {Q:Exit -> Act -> World -> Prop} (hg:o.guard = none) (m x:Operand) (t:TypeId) (hop:o.op = Op.lookup t m x true)
  (ht:Tryz.prog.underlying t = some (.map k 3)) (hm:a.eval m = .map (some b)) (h:NM k lit w b ks) (s:α) (hs:s ∈ ks) (key:Value) (hx:a.eval x = key) (hkey:keyOf Tryz.prog k key = some (lit s))
  (hK:wpList Tryz.prog ops Q rest (a.put o.dst (.tuple #[.int .i64 ((ks.idxOf s:Nat):Int),.bool true])) w):wpList Tryz.prog ops Q (o :: rest) a w:=by
 refine ze5 K hg m x t hop ht hm h s key hx hkey ?_
 rw [if_pos hs,decide_eq_true hs]; exact hK
theorem zbd (K:Maps.Keyed Tryz.prog k) {ops:Array Oper} {rest:List Oper} {o:Oper} {a:Act} {Q:Exit -> Act -> World -> Prop} (hg:o.guard = none) (m x:Operand) (t:TypeId) (hop:o.op = Op.lookup t m x true)
  (ht:Tryz.prog.underlying t = some (.map k 3)) (hm:a.eval m = .map (some b)) (h:NM k lit w b ks) (s:α) (hs:s ∉ ks) (key:Value) (hx:a.eval x = key) (hkey:keyOf Tryz.prog k key = some (lit s))
  (hK:wpList Tryz.prog ops Q rest (a.put o.dst (.tuple #[.int .i64 0,.bool false])) w):wpList Tryz.prog ops Q (o :: rest) a w:=by
 refine ze5 K hg m x t hop ht hm h s key hx hkey ?_
 rw [if_neg hs,decide_eq_false hs]; exact hK
theorem NM.look (h:NM k lit w b ks) (K:Maps.Keyed Tryz.prog k) {t:TypeId} (ht:Tryz.prog.underlying t = some (.map k 3)) (s:α) (hs:s ∈ ks) (key:Value) (hkey:keyOf Tryz.prog k key = some (lit s)) :
  (Instr.lookup t (.map (some b)) key false).run Tryz.prog w = .ok (.int .i64 ((ks.idxOf s:Nat):Int)) w:=by
 obtain ⟨D,hD,_,_,hhas,hat⟩:=h
 obtain ⟨v,ps,hrun,hv⟩:=hD.lookup K ht (zkr w) (plainElem_int zbh (by decide)) hkey
 obtain ⟨c,rfl,hc,hwc⟩:=plainElem_int_inv zbh hv
 have hc1:=congrArg Prod.fst hc
 simp only at hc1
 rw [hat s hs] at hc1
 cases hc1
 exact hrun
theorem NM.put (hl:Kl lit) (h:NM k lit w b ks) (K:Maps.Keyed Tryz.prog k) {t:TypeId} (ht:Tryz.prog.underlying t = some (.map k 3)) (hn:ks.length <= 1000000) (s:α) (hs:s ∉ ks) (key:Value) (hkey:keyOf Tryz.prog k key = some (lit s)) :
  ∃ w',(Instr.mapUpdate t (.map (some b)) key (.int .i64 ((ks.length:Nat):Int))).run Tryz.prog w = .ok () w' /\ NM k lit w' b (ks ++ [s]) /\ w.grownBy w' (some b):=by
 obtain ⟨D,hD,htd,hsz,hhas,hat⟩:=h
 have hwf:=zgy ks.length (by omega)
 obtain ⟨w',h1,h2,h3⟩:=hD.update K ht (by simp only [maxLen]; omega) hkey (plainElem_int zbh hwf)
 have hno:Maps.has D (lit s) = false:=by rw [hhas,decide_eq_false hs]
 refine ⟨w',h1,⟨_,by rw [List.length_append,List.length_singleton]; exact h2,htd.put (hl.key s) _,?_,?_,?_⟩,h3⟩
 ·rw [Maps.size_put htd,hno]; simp [hsz]
 ·intro u
  by_cases e:u = s
  ·subst e
   rw [Maps.has_put_same htd.isMap (hl.key u)]; simp
  ·rw [Maps.has_put_other (fun h => e (hl.inj _ _ h)),hhas]
   simp [e]
 ·intro u hu z
  by_cases e:u = s
  ·subst e
   rw [Maps.atKey_put_same htd.isMap (hl.key u),List.idxOf_append,if_neg hs]
   simp
  ·have hm:u ∈ ks:=by simpa [e] using hu
   rw [Maps.atKey_put_other (fun h => e (hl.inj _ _ h)),hat u hm,List.idxOf_append,if_pos hm]
theorem zm0 (hl:Kl lit) (K:Maps.Keyed Tryz.prog k) {o:Oper} {a:Act} {Kk:Act -> World -> Prop} {Q:Exit -> Act -> World -> Prop} (m x v:Operand) (t:TypeId) (hop:o.op = Op.mapUpdate t m x v \/ o.op = Op.insert t m x v)
  (ht:Tryz.prog.underlying t = some (.map k 3)) (hm:a.eval m = .map (some b)) (h:NM k lit w b ks) (hn:ks.length <= 1000000) (s:α) (hs:s ∉ ks) (key:Value) (hx:a.eval x = key) (hkey:keyOf Tryz.prog k key = some (lit s))
  (hv:a.eval v = .int .i64 ((ks.length:Nat):Int))
  (hK:∀ w',NM k lit w' b (ks ++ [s]) -> w.grownBy w' (some b) -> Kk (a.put o.dst undef) w'):o.wp Tryz.prog a w Kk Q:=by
 obtain ⟨w',hrun,h2,h3⟩:=h.put hl K ht hn s hs key hkey
 unfold Oper.wp
 rcases hop with hop | hop
 all_goals
  simp [execOp,hop,hm,hx,hv,hrun,Result.andThen]
  exact hK w' h2 h3
theorem zaw (hl:Kl lit) (K:Maps.Keyed Tryz.prog k) {ops:Array Oper} {rest:List Oper} {o:Oper} {a:Act} {Q:Exit -> Act -> World -> Prop} (hg:o.guard = none) (m x v:Operand) (t:TypeId) (hop:o.op = Op.mapUpdate t m x v \/ o.op = Op.insert t m x v)
  (ht:Tryz.prog.underlying t = some (.map k 3)) (hm:a.eval m = .map (some b)) (h:NM k lit w b ks) (hn:ks.length <= 1000000) (s:α) (hs:s ∉ ks) (key:Value) (hx:a.eval x = key) (hkey:keyOf Tryz.prog k key = some (lit s))
  (hv:a.eval v = .int .i64 ((ks.length:Nat):Int))
  (hK:∀ w',NM k lit w' b (ks ++ [s]) -> w.grownBy w' (some b) -> wpList Tryz.prog ops Q rest (a.put o.dst undef) w'):wpList Tryz.prog ops Q (o :: rest) a w :=
 wpList_plain hg fun K' hK' => zm0 hl K m x v t hop ht hm h hn s hs key hx hkey hv fun w' h2 h3 => hK' _ _ (hK w' h2 h3)
theorem zm1 {o:Oper} {a:Act} {Kk:Act -> World -> Prop} {Q:Exit -> Act -> World -> Prop} (m:Operand) (t:TypeId) (hop:o.op = Op.call { callee:=Callee.builtin Builtin.len,args:=#[m],argTypes:=#[t] })
  (ht:Tryz.prog.underlying t = some (.map k 3)) (hm:a.eval m = .map (some b)) (h:NM k lit w b ks)
  (hK:Kk (a.put o.dst (.int .i64 ((ks.length:Nat):Int))) w):o.wp Tryz.prog a w Kk Q:=by
 obtain ⟨D,hD,_,hsz,_⟩:=h
 unfold Oper.wp
 simp [execOp,hop,resolve,invoke,builtin,hm,hD.len ht o.type,Result.andThen]
 rw [hsz]
 exact hK
theorem zhj {ops:Array Oper} {rest:List Oper} {o:Oper} {a:Act} {Q:Exit -> Act -> World -> Prop} (hg:o.guard = none) (m:Operand) (t:TypeId) (hop:o.op = Op.call { callee:=Callee.builtin Builtin.len,args:=#[m],argTypes:=#[t] })
  (ht:Tryz.prog.underlying t = some (.map k 3)) (hm:a.eval m = .map (some b)) (h:NM k lit w b ks)
  (hK:wpList Tryz.prog ops Q rest (a.put o.dst (.int .i64 ((ks.length:Nat):Int))) w):wpList Tryz.prog ops Q (o :: rest) a w :=
 wpList_plain hg fun K' hK' => zm1 m t hop ht hm h (hK' _ _ hK)
end
def litI (s:Nat):Lit:=.int .i64 s
theorem kl_int:Kl litI:=⟨fun a b h => by simp only [litI,Lit.int.injEq,true_and] at h; omega,fun a => trivial⟩
theorem zco:Maps.Keyed Tryz.prog 3:=Maps.int_keyed zbh
theorem zev (s:Nat) (hs:s <= 1000000):keyOf Tryz.prog 3 (.int .i64 (s:Int)) = some (litI s):=Maps.keyOf_int_mk zbh (zgy s (by omega))
end Go.Proofs.YthkfjnmnoanhlaaGreatDoor
namespace Go.Proofs.YthkfjnmnoanhlaaGreatDoor
open Go.RowKit
structure Raw where
 vars:Int
 empty:Int
 next:List (List (List Int))
 fin:List Bool
def za5 {α:Type} (f:α -> Nat):List α -> Nat
 | [] => 0
 | a :: l => if f a = 0 then za5 f l else f a
theorem za4 {α:Type} {f:α -> Nat} {l:List α}:za5 f l = 0 ↔ ∀ a ∈ l,f a = 0:=by
 induction l with
 | nil => simp [za5]
 | cons a l ih =>
  unfold za5
  by_cases h:f a = 0
  ·rw [if_pos h,ih]; simp [h]
  ·rw [if_neg h]; simp [h]
theorem zay {α:Type} {f:α -> Nat} {l:List α} {k:Nat} {a:α} (h:za5 f (l.take k) = 0) (ha:l[k]? = some a) (hf:f a ≠ 0):za5 f l = f a:=by
 induction l generalizing k with
 | nil => simp at ha
 | cons b l ih =>
  cases k with
  | zero => simp at ha; subst ha; unfold za5; rw [if_neg hf]
  | succ k =>
   rw [List.take_succ_cons,za5] at h
   by_cases hb:f b = 0
   ·rw [if_pos hb] at h
    unfold za5
    rw [if_pos hb]
    exact ih h (by simpa using ha)
   ·rw [if_neg hb] at h; exact absurd h hb
theorem zbc {α:Type} {f:α -> Nat} {l:List α} {k:Nat} {a:α} (h:za5 f (l.take k) = 0) (ha:l[k]? = some a) (hf:f a = 0):za5 f (l.take (k + 1)) = 0:=by
 rw [za4] at h ⊢
 intro b hb
 rw [List.take_add_one,ha] at hb
 rcases List.mem_append.1 hb with hb | hb
 ·exact h b hb
 ·simp at hb; subst hb; exact hf
def okS (n:Nat) (s:Int):Bool:=decide (0 <= s) && decide (s < n)
def zcj (n:Nat) (s:Int):Nat:=if 0 <= s /\ s < (n:Int) then 0 else 8
def rowE (n L:Nat) (row:List Int):Nat:=if row.length = L then za5 (zcj n) row else 2
def rowsE (n L:Nat) (rows:List (List Int)):Nat:=if rows.length = n then za5 (rowE n L) rows else 2
def Raw.check (d:Raw):Nat :=
 if d.vars < 0 \/ 3 < d.vars then 7 else if d.next.length = 0 then 3 else if 64 < d.next.length then 4 else if d.fin.length ≠ d.next.length then 2
 else if ¬ (0 <= d.empty /\ d.empty < (d.next.length:Int)) then 8 else za5 (rowsE d.next.length (2 ^ d.vars.toNat)) d.next
def nx3 (n L:Nat) (f:Nat -> Nat -> Nat -> Nat):List (List (List Int)):=(List.range n).map fun l => (List.range n).map fun r => (List.range L).map fun x => (f l r x:Int)
def Dta.raw (V:Nat) (D:Dta):Raw:=⟨V,D.e,nx3 D.n D.L D.nx,(List.range D.n).map D.fin⟩
def Raw.dta (d:Raw):Dta:=⟨d.next.length,d.empty.toNat,2 ^ d.vars.toNat,fun l r x => (((d.next.getD l []).getD r []).getD x 0).toNat,fun s => d.fin.getD s false⟩
structure Dta.Fit (V:Nat) (D:Dta):Prop where
 ok:D.OK
 n64:D.n <= 64
 v3:V <= 3
 L:D.L = 2 ^ V
theorem Dta.Fit.L8 {V:Nat} {D:Dta} (h:D.Fit V):1 <= D.L /\ D.L <= 8:=by
 rw [h.L]
 exact ⟨Nat.one_le_two_pow,Nat.pow_le_pow_right (by omega) h.v3⟩
theorem Dta.Fit.pos {V:Nat} {D:Dta} (h:D.Fit V):1 <= D.n:=by have:=h.ok.he; omega
theorem zdn {α:Type} (l:List α) (d:α):l = (List.range l.length).map fun i => l.getD i d:=by
 apply List.ext_getElem?
 intro i
 by_cases h:i < l.length
 ·rw [List.getElem?_map,List.getElem?_range h,List.getElem?_eq_getElem h,Option.map_some,List.getD_eq_getElem?_getD,List.getElem?_eq_getElem h]; rfl
 ·rw [List.getElem?_eq_none (by omega),List.getElem?_eq_none (by simp; omega)]
theorem zdd {α:Type} {l:List α} {d:α} {i:Nat} (h:i < l.length):l.getD i d ∈ l:=by
 rw [List.getD_eq_getElem?_getD,List.getElem?_eq_getElem h]; exact List.getElem_mem h
theorem Raw.check_ok {d:Raw} (h:d.check = 0):∃ V:Nat,d.dta.Fit V /\ d = d.dta.raw V:=by
 unfold Raw.check at h
 by_cases h1:d.vars < 0 \/ 3 < d.vars
 ·rw [if_pos h1] at h; cases h
 by_cases h2:d.next.length = 0
 ·rw [if_neg h1,if_pos h2] at h; cases h
 by_cases h3:64 < d.next.length
 ·rw [if_neg h1,if_neg h2,if_pos h3] at h; cases h
 by_cases h4:d.fin.length ≠ d.next.length
 ·rw [if_neg h1,if_neg h2,if_neg h3,if_pos h4] at h; cases h
 by_cases h5:¬ (0 <= d.empty /\ d.empty < (d.next.length:Int))
 ·rw [if_neg h1,if_neg h2,if_neg h3,if_neg h4,if_pos h5] at h; cases h
 rw [if_neg h1,if_neg h2,if_neg h3,if_neg h4,if_neg h5,za4] at h
 obtain ⟨vars,empty,next,fin⟩:=d
 simp only at h h1 h2 h3 h4 h5
 simp only [Decidable.not_not] at h4 h5
 have rows:∀ a ∈ next,a.length = next.length /\ ∀ b ∈ a,b.length = 2 ^ vars.toNat /\ ∀ s ∈ b,0 <= s /\ s < (next.length:Int):=by
  intro a ha
  have h6:=h a ha
  unfold rowsE at h6
  by_cases e:a.length = next.length
  ·rw [if_pos e,za4] at h6
   refine ⟨e,fun b hb => ?_⟩
   have h7:=h6 b hb
   unfold rowE at h7
   by_cases e2:b.length = 2 ^ vars.toNat
   ·rw [if_pos e2,za4] at h7
    refine ⟨e2,fun s hs => ?_⟩
    have h8:=h7 s hs
    unfold zcj at h8
    by_cases e3:0 <= s /\ s < (next.length:Int)
    ·exact e3
    ·rw [if_neg e3] at h8; cases h8
   ·rw [if_neg e2] at h7; cases h7
  ·rw [if_neg e] at h6; cases h6
 have at3:∀ l r x,l < next.length -> r < next.length -> x < 2 ^ vars.toNat -> 0 <= ((next.getD l []).getD r []).getD x 0 /\ ((next.getD l []).getD r []).getD x 0 < (next.length:Int):=by
  intro l r x hl hr hx
  obtain ⟨e1,h6⟩:=rows (next.getD l []) (zdd (by omega))
  have hr':r < (next.getD l []).length:=by omega
  obtain ⟨e2,h7⟩:=h6 ((next.getD l []).getD r []) (zdd (by omega))
  have hx':x < ((next.getD l []).getD r []).length:=by omega
  exact h7 _ (zdd (by omega))
 refine ⟨vars.toNat,⟨⟨?_,?_⟩,?_,by omega,rfl⟩,?_⟩
 ·show empty.toNat < next.length; omega
 ·intro l r x hl hr hx
  have:=at3 l r x hl hr hx
  show (((next.getD l []).getD r []).getD x 0).toNat < next.length
  omega
 ·show next.length <= 64; omega
 ·unfold Dta.raw Raw.dta
  simp only [Raw.mk.injEq]
  refine ⟨by omega,by omega,?_,?_⟩
  ·unfold nx3
   conv => lhs; rw [zdn next []]
   apply List.map_congr_left
   intro l hl
   have hl':=List.mem_range.1 hl
   obtain ⟨e1,h6⟩:=rows (next.getD l []) (zdd (by omega))
   conv => lhs; rw [zdn (next.getD l []) [],e1]
   apply List.map_congr_left
   intro r hr
   have hr':=List.mem_range.1 hr
   have hr2:r < (next.getD l []).length:=by omega
   obtain ⟨e2,h7⟩:=h6 ((next.getD l []).getD r []) (zdd (by omega))
   conv => lhs; rw [zdn ((next.getD l []).getD r []) 0,e2]
   apply List.map_congr_left
   intro x hx
   have:=at3 l r x hl' hr' (List.mem_range.1 hx)
   show _ = (((((next.getD l []).getD r []).getD x 0).toNat:Nat):Int)
   omega
  ·conv => lhs; rw [zdn fin false,h4]
theorem zee {n L:Nat} {f:Nat -> Nat -> Nat -> Nat} {l r x:Nat} (hl:l < n) (hr:r < n) (hx:x < L):(nx3 n L f)[l]? = some ((List.range n).map fun r => (List.range L).map fun x => (f l r x:Int)) /\
  ((List.range n).map fun r => (List.range L).map fun x => (f l r x:Int))[r]? = some ((List.range L).map fun x => (f l r x:Int)) /\ ((List.range L).map fun x => (f l r x:Int))[x]? = some (f l r x:Int):=by
 unfold nx3
 refine ⟨?_,?_,?_⟩ <;> rw [List.getElem?_map,List.getElem?_range (by assumption)] <;> rfl
theorem Dta.raw_check {V:Nat} {D:Dta} (h:D.Fit V):(D.raw V).check = 0:=by
 have hp:=h.pos
 have h64:=h.n64
 have h3:=h.v3
 have he:=h.ok.he
 have hlen:(nx3 D.n D.L D.nx).length = D.n:=by simp [nx3]
 unfold Raw.check Dta.raw
 simp only [hlen]
 rw [if_neg (by omega),if_neg (by omega),if_neg (by omega),if_neg (by simp),if_neg (by omega),za4]
 intro a ha
 unfold nx3 at ha
 obtain ⟨l,hl,rfl⟩:=List.mem_map.1 ha
 unfold rowsE
 rw [if_pos (by simp),za4]
 intro b hb
 obtain ⟨r,hr,rfl⟩:=List.mem_map.1 hb
 unfold rowE
 rw [if_pos (by simp [h.L]),za4]
 intro s hs
 obtain ⟨x,hx,rfl⟩:=List.mem_map.1 hs
 unfold zcj
 have:=h.ok.hn l r x (List.mem_range.1 hl) (List.mem_range.1 hr) (List.mem_range.1 hx)
 rw [if_pos (by omega)]
theorem Dta.Same.raw {a b:Dta} (h:a.Same b) (ha:a.OK) (hL:a.L = b.L) (V:Nat):a.raw V = b.raw V:=by
 unfold Dta.raw nx3
 have hn:=h.n
 have hnx:=h.nx
 have hf:=h.fin
 have he:=h.e
 simp only [Raw.mk.injEq,true_and]
 refine ⟨by rw [he],?_,?_⟩
 ·rw [<- hn,<- hL]
  apply List.map_congr_left
  intro l hl
  apply List.map_congr_left
  intro r hr
  apply List.map_congr_left
  intro x hx
  rw [hnx l r x (List.mem_range.1 hl) (List.mem_range.1 hr) (List.mem_range.1 hx)]
 ·rw [<- hn]
  apply List.map_congr_left
  intro s hs
  exact hf s (List.mem_range.1 hs)
theorem eI:Elt 53 3 (.int .i64 0) 8:=⟨by kernel_rfl,by kernel_rfl,by omega,rfl⟩
theorem eII:Elt 54 53 (.slice none 0 0) 24:=⟨by kernel_rfl,by kernel_rfl,by omega,rfl⟩
theorem eIII:Elt 22 54 (.slice none 0 0) 24:=⟨by kernel_rfl,by kernel_rfl,by omega,rfl⟩
theorem eB:Elt 23 4 (.bool false) 1:=⟨by kernel_rfl,by kernel_rfl,by omega,rfl⟩
def iL (l:List Int):List Value:=l.map (Value.int .i64)
def bL (l:List Bool):List Value:=l.map Value.bool
theorem zc0 (l:List Int):∀ u ∈ iL l,u.oneCell' = true:=fun u hu => by
 obtain ⟨b,_,rfl⟩:=List.mem_map.1 hu; rfl
theorem zl0 (l:List Bool):∀ u ∈ bL l,u.oneCell' = true:=fun u hu => by
 obtain ⟨b,_,rfl⟩:=List.mem_map.1 hu; rfl
theorem zag (l:List Int):(iL l).length = l.length:=by simp [iL]
theorem zat (l:List Bool):(bL l).length = l.length:=by simp [bL]
theorem iL_at {l:List Int} {i:Nat} {x:Int} (h:l[i]? = some x):(iL l)[i]? = some (.int .i64 x):=by rw [iL,List.getElem?_map,h]; rfl
theorem bL_at {l:List Bool} {i:Nat} {x:Bool} (h:l[i]? = some x):(bL l)[i]? = some (.bool x):=by rw [bL,List.getElem?_map,h]; rfl
def N1 (w:World) (v:Value) (l:List Int):Prop:=VS w v (iL l)
def NB (w:World) (v:Value) (l:List Bool):Prop:=VS w v (bL l)
def N2 (w:World) (v:Value) (ll:List (List Int)):Prop:=∃ vs,VS w v vs /\ vs.length = ll.length /\ ∀ (i:Nat) u,vs[i]? = some u -> ∃ l,ll[i]? = some l /\ N1 w u l
def N3 (w:World) (v:Value) (lll:List (List (List Int))):Prop:=∃ vs,VS w v vs /\ vs.length = lll.length /\ ∀ (i:Nat) u,vs[i]? = some u -> ∃ l,lll[i]? = some l /\ N2 w u l
theorem N1.below {w w':World} {v:Value} {l:List Int} {B:Nat} (h:N1 w v l) (hb:Below B w w') (hB:w.heap.size <= B):N1 w' v l:=VS.below h hb hB
theorem NB.below {w w':World} {v:Value} {l:List Bool} {B:Nat} (h:NB w v l) (hb:Below B w w') (hB:w.heap.size <= B):NB w' v l:=VS.below h hb hB
theorem N2.below {w w':World} {v:Value} {ll:List (List Int)} {B:Nat} (h:N2 w v ll) (hb:Below B w w') (hB:w.heap.size <= B):N2 w' v ll:=by
 obtain ⟨vs,h1,h2,h3⟩:=h
 exact ⟨vs,h1.below hb hB,h2,fun i u hu => by obtain ⟨l,h4,h5⟩:=h3 i u hu; exact ⟨l,h4,h5.below hb hB⟩⟩
theorem N3.below {w w':World} {v:Value} {ll:List (List (List Int))} {B:Nat} (h:N3 w v ll) (hb:Below B w w') (hB:w.heap.size <= B):N3 w' v ll:=by
 obtain ⟨vs,h1,h2,h3⟩:=h
 exact ⟨vs,h1.below hb hB,h2,fun i u hu => by obtain ⟨l,h4,h5⟩:=h3 i u hu; exact ⟨l,h4,h5.below hb hB⟩⟩
theorem VS.open {w:World} {v:Value} {l:List Value} (h:VS w v l):∃ A c,v = .slice A l.length c /\ l.length <= c /\ c <= 9223372036854775807 /\ ∀ i,i < l.length -> ∃ b o,A = some ⟨b,o,none⟩ /\ b < w.heap.size /\ ∀ x,l[i]? = some x -> w.cell? ⟨b,o + i,none⟩ = some x:=by
 obtain ⟨A,c,rfl,h1,h2,h3⟩:=h
 refine ⟨A,c,rfl,h1,h2,fun i hi => ?_⟩
 obtain ⟨b,o,hA,hb,hc⟩:=h3 (by omega)
 exact ⟨b,o,hA,hb,fun x hx => hc i x hx⟩
theorem N1.open {w:World} {v:Value} {l:List Int} (h:N1 w v l):∃ A c,v = .slice A l.length c /\ l.length <= c /\ c <= 9223372036854775807 /\ ∀ i x,l[i]? = some x -> ∃ b o,A = some ⟨b,o,none⟩ /\ b < w.heap.size /\ w.cell? ⟨b,o + i,none⟩ = some (.int .i64 x):=by
 obtain ⟨A,c,rfl,h1,h2,h3⟩:=VS.open h
 rw [zag] at h1 h3 ⊢
 refine ⟨A,c,rfl,h1,h2,fun i x hx => ?_⟩
 obtain ⟨b,o,h4,h5,h6⟩:=h3 i (List.getElem?_eq_some_iff.1 hx).1
 exact ⟨b,o,h4,h5,h6 _ (iL_at hx)⟩
theorem NB.open {w:World} {v:Value} {l:List Bool} (h:NB w v l):∃ A c,v = .slice A l.length c /\ l.length <= c /\ c <= 9223372036854775807 /\ ∀ i x,l[i]? = some x -> ∃ b o,A = some ⟨b,o,none⟩ /\ b < w.heap.size /\ w.cell? ⟨b,o + i,none⟩ = some (.bool x):=by
 obtain ⟨A,c,rfl,h1,h2,h3⟩:=VS.open h
 rw [zat] at h1 h3 ⊢
 refine ⟨A,c,rfl,h1,h2,fun i x hx => ?_⟩
 obtain ⟨b,o,h4,h5,h6⟩:=h3 i (List.getElem?_eq_some_iff.1 hx).1
 exact ⟨b,o,h4,h5,h6 _ (bL_at hx)⟩
theorem N2.open {w:World} {v:Value} {l:List (List Int)} (h:N2 w v l):∃ A c,v = .slice A l.length c /\ l.length <= c /\ c <= 9223372036854775807 /\ ∀ i x,l[i]? = some x -> ∃ b o u,A = some ⟨b,o,none⟩ /\ b < w.heap.size /\ w.cell? ⟨b,o + i,none⟩ = some u /\ N1 w u x:=by
 obtain ⟨vs,h0,hl,he⟩:=h
 obtain ⟨A,c,rfl,h1,h2,h3⟩:=h0.open
 rw [hl] at h1 h3 ⊢
 refine ⟨A,c,rfl,h1,h2,fun i x hx => ?_⟩
 have hi:=(List.getElem?_eq_some_iff.1 hx).1
 obtain ⟨b,o,h4,h5,h6⟩:=h3 i hi
 have hu:vs[i]? = some (vs[i]'(by omega)):=List.getElem?_eq_getElem _
 obtain ⟨l',h7,h8⟩:=he i _ hu
 rw [hx] at h7
 cases h7
 exact ⟨b,o,_,h4,h5,h6 _ hu,h8⟩
theorem N3.open {w:World} {v:Value} {l:List (List (List Int))} (h:N3 w v l):∃ A c,v = .slice A l.length c /\ l.length <= c /\ c <= 9223372036854775807 /\ ∀ i x,l[i]? = some x -> ∃ b o u,A = some ⟨b,o,none⟩ /\ b < w.heap.size /\ w.cell? ⟨b,o + i,none⟩ = some u /\ N2 w u x:=by
 obtain ⟨vs,h0,hl,he⟩:=h
 obtain ⟨A,c,rfl,h1,h2,h3⟩:=h0.open
 rw [hl] at h1 h3 ⊢
 refine ⟨A,c,rfl,h1,h2,fun i x hx => ?_⟩
 have hi:=(List.getElem?_eq_some_iff.1 hx).1
 obtain ⟨b,o,h4,h5,h6⟩:=h3 i hi
 have hu:vs[i]? = some (vs[i]'(by omega)):=List.getElem?_eq_getElem _
 obtain ⟨l',h7,h8⟩:=he i _ hu
 rw [hx] at h7
 cases h7
 exact ⟨b,o,_,h4,h5,h6 _ hu,h8⟩
def TD (w:World) (v:Value) (d:Raw):Prop:=∃ vn vf,v = .agg #[.int .i64 d.vars,.int .i64 d.empty,vn,vf] /\ N3 w vn d.next /\ NB w vf d.fin
theorem TD.below {w w':World} {v:Value} {d:Raw} {B:Nat} (h:TD w v d) (hb:Below B w w') (hB:w.heap.size <= B):TD w' v d:=by
 obtain ⟨vn,vf,h1,h2,h3⟩:=h
 exact ⟨vn,vf,h1,h2.below hb hB,h3.below hb hB⟩
def O1 (w:World) (B:Nat) (v:Value) (l:List Int):Prop:=VO 3 w B v (iL l)
def OB (w:World) (B:Nat) (v:Value) (l:List Bool):Prop:=VO 4 w B v (bL l)
def V1 (w:World) (B:Nat) (vs:List Value) (ll:List (List Int)):Prop:=vs.length = ll.length /\ ∀ (i:Nat) u,vs[i]? = some u -> ∃ l,ll[i]? = some l /\ O1 w B u l
def O2 (w:World) (B:Nat) (v:Value) (ll:List (List Int)):Prop:=∃ vs,VO 53 w B v vs /\ V1 w B vs ll
def V2 (w:World) (B:Nat) (vs:List Value) (ll:List (List (List Int))):Prop:=vs.length = ll.length /\ ∀ (i:Nat) u,vs[i]? = some u -> ∃ l,ll[i]? = some l /\ O2 w B u l
def O3 (w:World) (B:Nat) (v:Value) (ll:List (List (List Int))):Prop:=∃ vs,VO 54 w B v vs /\ V2 w B vs ll
def TDO (w:World) (B:Nat) (v:Value) (d:Raw):Prop:=∃ vn vf,v = .agg #[.int .i64 d.vars,.int .i64 d.empty,vn,vf] /\ O3 w B vn d.next /\ OB w B vf d.fin
theorem O1.n1 {w:World} {B:Nat} {v:Value} {l:List Int} (h:O1 w B v l):N1 w v l:=VO.vs h
theorem OB.nb {w:World} {B:Nat} {v:Value} {l:List Bool} (h:OB w B v l):NB w v l:=VO.vs h
theorem O2.n2 {w:World} {B:Nat} {v:Value} {l:List (List Int)} (h:O2 w B v l):N2 w v l:=by
 obtain ⟨vs,h1,h2,h3⟩:=h
 exact ⟨vs,h1.vs,h2,fun i u hu => by obtain ⟨l,h4,h5⟩:=h3 i u hu; exact ⟨l,h4,h5.n1⟩⟩
theorem O3.n3 {w:World} {B:Nat} {v:Value} {l:List (List (List Int))} (h:O3 w B v l):N3 w v l:=by
 obtain ⟨vs,h1,h2,h3⟩:=h
 exact ⟨vs,h1.vs,h2,fun i u hu => by obtain ⟨l,h4,h5⟩:=h3 i u hu; exact ⟨l,h4,h5.n2⟩⟩
theorem TDO.td {w:World} {B:Nat} {v:Value} {d:Raw} (h:TDO w B v d):TD w v d:=by
 obtain ⟨vn,vf,h1,h2,h3⟩:=h
 exact ⟨vn,vf,h1,h2.n3,h3.nb⟩
theorem O1.below {w w':World} {B B':Nat} {v:Value} {l:List Int} (h:O1 w B v l) (hb:Below B' w w') (hB:w.heap.size <= B'):O1 w' B v l:=VO.below h hb hB
theorem OB.below {w w':World} {B B':Nat} {v:Value} {l:List Bool} (h:OB w B v l) (hb:Below B' w w') (hB:w.heap.size <= B'):OB w' B v l:=VO.below h hb hB
theorem V1.below {w w':World} {B B':Nat} {v:List Value} {l:List (List Int)} (h:V1 w B v l) (hb:Below B' w w') (hB:w.heap.size <= B'):V1 w' B v l :=
 ⟨h.1,fun i u hu => by obtain ⟨l,h4,h5⟩:=h.2 i u hu; exact ⟨l,h4,h5.below hb hB⟩⟩
theorem O2.below {w w':World} {B B':Nat} {v:Value} {l:List (List Int)} (h:O2 w B v l) (hb:Below B' w w') (hB:w.heap.size <= B'):O2 w' B v l:=by
 obtain ⟨vs,h1,h2⟩:=h
 exact ⟨vs,h1.below hb hB,h2.below hb hB⟩
theorem V2.below {w w':World} {B B':Nat} {v:List Value} {l:List (List (List Int))} (h:V2 w B v l) (hb:Below B' w w') (hB:w.heap.size <= B'):V2 w' B v l :=
 ⟨h.1,fun i u hu => by obtain ⟨l,h4,h5⟩:=h.2 i u hu; exact ⟨l,h4,h5.below hb hB⟩⟩
theorem O3.below {w w':World} {B B':Nat} {v:Value} {l:List (List (List Int))} (h:O3 w B v l) (hb:Below B' w w') (hB:w.heap.size <= B'):O3 w' B v l:=by
 obtain ⟨vs,h1,h2⟩:=h
 exact ⟨vs,h1.below hb hB,h2.below hb hB⟩
theorem TDO.below {w w':World} {B B':Nat} {v:Value} {d:Raw} (h:TDO w B v d) (hb:Below B' w w') (hB:w.heap.size <= B'):TDO w' B v d:=by
 obtain ⟨vn,vf,h1,h2,h3⟩:=h
 exact ⟨vn,vf,h1,h2.below hb hB,h3.below hb hB⟩
theorem O1.mono {w:World} {B B':Nat} {v:Value} {l:List Int} (h:O1 w B v l) (hB:B' <= B):O1 w B' v l:=VO.mono h hB
theorem V1.mono {w:World} {B B':Nat} {v:List Value} {l:List (List Int)} (h:V1 w B v l) (hB:B' <= B):V1 w B' v l :=
 ⟨h.1,fun i u hu => by obtain ⟨l,h4,h5⟩:=h.2 i u hu; exact ⟨l,h4,h5.mono hB⟩⟩
theorem O2.mono {w:World} {B B':Nat} {v:Value} {l:List (List Int)} (h:O2 w B v l) (hB:B' <= B):O2 w B' v l:=by
 obtain ⟨vs,h1,h2⟩:=h
 exact ⟨vs,h1.mono hB,h2.mono hB⟩
theorem V2.mono {w:World} {B B':Nat} {v:List Value} {l:List (List (List Int))} (h:V2 w B v l) (hB:B' <= B):V2 w B' v l :=
 ⟨h.1,fun i u hu => by obtain ⟨l,h4,h5⟩:=h.2 i u hu; exact ⟨l,h4,h5.mono hB⟩⟩
theorem O3.mono {w:World} {B B':Nat} {v:Value} {l:List (List (List Int))} (h:O3 w B v l) (hB:B' <= B):O3 w B' v l:=by
 obtain ⟨vs,h1,h2⟩:=h
 exact ⟨vs,h1.mono hB,h2.mono hB⟩
theorem OB.mono {w:World} {B B':Nat} {v:Value} {l:List Bool} (h:OB w B v l) (hB:B' <= B):OB w B' v l:=VO.mono h hB
theorem TDO.mono {w:World} {B B':Nat} {v:Value} {d:Raw} (h:TDO w B v d) (hB:B' <= B):TDO w B' v d:=by
 obtain ⟨vn,vf,h1,h2,h3⟩:=h
 exact ⟨vn,vf,h1,h2.mono hB,h3.mono hB⟩
def Turns (w w':World) (g:Nat):Prop:=w.heap.size <= w'.heap.size /\ ∀ i,i < w.heap.size -> i ≠ g -> w'.heap[i]? = w.heap[i]?
theorem Turns.cell (w:World) (p:Addr) (u:Value):Turns w (w.setCell p u) p.block:=⟨by simp,fun i _ hi => Below.heap_setCell w p u i hi⟩
def NotT (w:World) (g:Nat) (E:TypeId):Prop:=∀ cs f,w.heap[g]? = some (.cells cs E f) -> False
theorem VO.turns {E:TypeId} {w w':World} {B g:Nat} {v:Value} {l:List Value} (h:VO E w B v l) (ht:Turns w w' g) (hn:NotT w g E \/ v.ownBlock ≠ some g):VO E w' B v l:=by
 obtain ⟨h0,h1,h⟩:=h
 refine ⟨h0,h1,?_⟩
 rcases h with h | ⟨g1,cap,cur,hv,hBg,hgg,r⟩
 ·exact .inl h
 ·refine .inr ⟨g1,cap,cur,hv,hBg,(ht.2 g1 (lt_of_block hgg) (fun e => ?_)).trans hgg,r⟩
  rcases hn with hn | hn
  ·subst e; exact hn _ _ hgg
  ·exact hn (by rw [hv,e]; rfl)
theorem O1.turns {w w':World} {B g:Nat} {v:Value} {l:List Int} (h:O1 w B v l) (ht:Turns w w' g) (hn:NotT w g 3):O1 w' B v l:=VO.turns h ht (.inl hn)
theorem V1.turns {w w':World} {B g:Nat} {v:List Value} {l:List (List Int)} (h:V1 w B v l) (ht:Turns w w' g) (hn:NotT w g 3):V1 w' B v l :=
 ⟨h.1,fun i u hu => by obtain ⟨l,h4,h5⟩:=h.2 i u hu; exact ⟨l,h4,h5.turns ht hn⟩⟩
theorem O2.turns {w w':World} {B g:Nat} {v:Value} {l:List (List Int)} (h:O2 w B v l) (ht:Turns w w' g) (hn:NotT w g 3) (hn2:NotT w g 53):O2 w' B v l:=by
 obtain ⟨vs,h1,h2⟩:=h
 exact ⟨vs,h1.turns ht (.inl hn2),h2.turns ht hn⟩
theorem V2.turns {w w':World} {B g:Nat} {v:List Value} {l:List (List (List Int))} (h:V2 w B v l) (ht:Turns w w' g) (hn:NotT w g 3) (hn2:NotT w g 53):V2 w' B v l :=
 ⟨h.1,fun i u hu => by obtain ⟨l,h4,h5⟩:=h.2 i u hu; exact ⟨l,h4,h5.turns ht hn hn2⟩⟩
theorem O3.turns {w w':World} {B g:Nat} {v:Value} {l:List (List (List Int))} (h:O3 w B v l) (ht:Turns w w' g) (hn:NotT w g 3) (hn2:NotT w g 53) (hn3:NotT w g 54):O3 w' B v l:=by
 obtain ⟨vs,h1,h2⟩:=h
 exact ⟨vs,h1.turns ht (.inl hn3),h2.turns ht hn hn2⟩
theorem Row.notT {w:World} {g:Nat} {E E':TypeId} {cs:Array Value} (h:Row w g E cs) (hne:E ≠ E'):NotT w g E':=fun ds f h2 => by
 unfold Row at h
 rw [h] at h2
 simp only [Option.some.injEq,Obj.cells.injEq] at h2
 exact hne h2.2.1
end Go.Proofs.YthkfjnmnoanhlaaGreatDoor
namespace Go.Proofs.YthkfjnmnoanhlaaGreatDoor
open Go.RowKit
theorem zel (n:Nat) (s:Int) (g:Nat) (w:World) (hr:Row w g 3 #[.int .i64 n]) :
  Calls Tryz.prog 98 #[.int .i64 s,.pointer (some ⟨g,0,none⟩)] w fun e w' => e = .returned (.bool (okS n s)) /\ w = w':=by
 have x0:=hr.cell
 clear hr
 by_cases h:0 <= s
 ·have hq:okS n s = decide (s < (n:Int)):=by simp [okS,h]
  rw [hq]
  clear hq
  go_enter Tryz.func98,Tryz.ntmps98
  go_wp2
  go_returns
  exact ⟨rfl,rfl⟩
 ·have hq:okS n s = false:=by simp [okS,h]
  rw [hq]
  clear hq
  have h':s < 0:=by omega
  go_enter Tryz.func98,Tryz.ntmps98
  go_wp2
  go_returns
  exact ⟨rfl,rfl⟩
theorem za2 (V:Nat) (hV:V <= 3):IntKind.i64.wrap (2 ^ V) = ((2 ^ V:Nat):Int):=by
 have:V = 0 \/ V = 1 \/ V = 2 \/ V = 3:=by omega
 rcases this with rfl | rfl | rfl | rfl <;> decide
theorem zap (d:Raw) (v:Value) (w:World) (hd:TD w v d) (hbig:d.next.length <= 1000000 /\ d.fin.length <= 1000000) :
  Calls Tryz.prog 50 #[v] w fun e w' => e = .returned (.int .i64 (d.check:Nat)) /\ Below w.heap.size w w':=by
 obtain ⟨vars,empty,next,fin⟩:=d
 obtain ⟨vn,vf,rfl,hn,hf⟩:=hd
 simp only at hn hf hbig ⊢
 obtain ⟨A,c,rfl,hA1,hA2,hA⟩:=hn.open
 obtain ⟨Af,cf,rfl,hf1,hf2,_⟩:=hf.open
 obtain ⟨R,hR⟩:=zx (Raw.check ⟨vars,empty,next,fin⟩)
 rw [<- hR]
 unfold Raw.check at hR
 simp only at hR
 obtain ⟨hb1,hb2⟩:=hbig
 obtain ⟨n,hnn⟩:=zx next.length
 obtain ⟨m,hm⟩:=zx fin.length
 rw [<- hnn] at hR hA1 hb1 ⊢
 rw [<- hm] at hR hf1 hb2 ⊢
 have HA:=zh hA; have HN:=zh hnn
 clear hn hf hA hnn hm
 have fin:∀ k:Nat,R = k -> Ending.returned (.int .i64 (k:Int)) = .returned (.int .i64 (R:Int)):=fun k h => by rw [h]
 have HFIN:=zh fin; clear fin
 by_cases h1:vars < 0
 ·rw [if_pos (.inl h1)] at hR
  have HR:=zh hR; clear hR
  go_enter Tryz.func50,Tryz.ntmps50
  go_wp2
  go_returns
  exact ⟨HFIN.out 7 HR.out,by go_grown⟩
 by_cases h2:3 < vars
 ·rw [if_pos (.inr h2)] at hR
  have HR:=zh hR; clear hR
  have h1':0 <= vars:=by omega
  go_enter Tryz.func50,Tryz.ntmps50
  go_wp2
  go_returns
  exact ⟨HFIN.out 7 HR.out,by go_grown⟩
 rw [if_neg (by omega)] at hR
 have h1':0 <= vars:=by omega
 have h2':vars <= 3:=by omega
 by_cases h3:n = 0
 ·rw [if_pos h3] at hR
  have HR:=zh hR; clear hR
  have h3':((n:Int) == 0) = true:=by rw [beq_iff_eq]; omega
  clear h3
  go_enter Tryz.func50,Tryz.ntmps50
  go_wp2
  go_returns
  exact ⟨HFIN.out 3 HR.out,by go_grown⟩
 rw [if_neg h3] at hR
 have h3':((n:Int) == 0) = false:=by rw [beq_eq_false_iff_ne]; omega
 by_cases h4:64 < n
 ·rw [if_pos h4] at hR
  have HR:=zh hR; clear hR
  have h4':(64:Int) < (n:Int):=by omega
  go_enter Tryz.func50,Tryz.ntmps50
  go_wp2
  go_returns
  exact ⟨HFIN.out 4 HR.out,by go_grown⟩
 rw [if_neg h4] at hR
 have h4':(n:Int) <= 64:=by omega
 by_cases h5:m ≠ n
 ·rw [if_pos h5] at hR
  have HR:=zh hR; clear hR
  have h5':((m:Int) != n) = true:=by rw [bne_iff_ne]; omega
  go_enter Tryz.func50,Tryz.ntmps50
  go_wp2
  go_returns
  exact ⟨HFIN.out 2 HR.out,by go_grown⟩
 rw [if_neg h5] at hR
 have h5':((m:Int) != n) = false:=by simp only [Decidable.not_not] at h5; rw [h5]; simp
 clear h5
 by_cases h6:¬ (0 <= empty /\ empty < (n:Int))
 ·rw [if_pos h6] at hR
  have HR:=zh hR; clear hR
  have h6':Hid (okS n empty = false):=by unfold Hid; simp only [okS,Bool.and_eq_false_iff,decide_eq_false_iff_not]; omega
  clear h6
  go_enter Tryz.func50,Tryz.ntmps50
  go_wp2_with (go_at_call 98; go_must (refine (zel n empty _ _ (Row.lit (by simp))).mono ?_; rintro e w2 ⟨rfl,rfl⟩; rw [h6'.out]))
  go_returns
  exact ⟨HFIN.out 8 HR.out,by go_grown⟩
 simp only [Decidable.not_not] at h6
 obtain ⟨h6a,h6b⟩:=h6
 rw [if_neg (by simp only [Decidable.not_not]; exact ⟨h6a,h6b⟩)] at hR
 have h6':Hid (okS n empty = true):=by unfold Hid; simp only [okS,Bool.and_eq_true,decide_eq_true_eq]; exact ⟨h6a,h6b⟩
 obtain ⟨V,rfl⟩:∃ V:Nat,vars = V:=⟨vars.toNat,by omega⟩
 rw [Int.toNat_natCast] at hR
 have hsh:=za2 V (by omega)
 obtain ⟨L,hL⟩:=zx (2 ^ V)
 rw [<- hL] at hsh hR
 have HR:=zh hR; clear hR hL h1 h2 h3 h4
 clear h6a h6b
 go_enter Tryz.func50,Tryz.ntmps50
 go_wp2_with (go_at_call 98; go_must (refine (zel n empty _ _ (Row.lit (by simp))).mono ?_; rintro e w2 ⟨rfl,rfl⟩; rw [h6'.out]))
 refine zab (fun W => Below w.heap.size w W /\ Row W w.heap.size 25 #[.int .i64 (V:Int),.int .i64 empty,.slice A n c,.slice Af m cf] /\ Row W (w.heap.size + 1) 3 #[.int .i64 n]) ⟨by go_grown,(Row.new _ _ _).alloc _,Row.lit (by simp)⟩ ?_
 rintro W ⟨hb,hr1,hr2⟩
 have HB:=zh hb; have R1:=zh hr1; have R2:=zh hr2
 clear hb hr1 hr2
 go_loopg [45] n (fun gk q wr => ∃ l:Nat,l <= n /\ gk = n - l /\ q = .int .i64 l /\ wr = W /\ za5 (rowsE n L) (next.take l) = 0)
 case atStart => exact ⟨0,Nat.zero_le _,rfl,rfl,rfl,rfl⟩
 case round =>
  obtain ⟨l,hl,rfl,rfl,rfl,hz⟩:=hrel
  have HZ:=zh hz; clear hz
  by_cases hlt:l < n
  ·obtain ⟨LL,hx⟩:∃ x,next[l]? = some x:=⟨next[l]'(by rw [<- HN.out]; exact hlt),List.getElem?_eq_getElem _⟩
   obtain ⟨b,o,u,rfl,hb,c0,hN2⟩:=HA.out l LL hx
   rw [<- HB.out.cell (p:=⟨b,_,none⟩) hb] at c0
   obtain ⟨A2,c2,rfl,hB1,hB2,hA2'⟩:=hN2.open
   obtain ⟨n2,hn2⟩:=zx LL.length
   rw [<- hn2] at hB1 c0
   have HX:=zh hx; have HN2:=zh hn2; have HA2:=zh hA2'
   clear hx hn2 hA2' hN2
   have z1:=R1.out.cell; have z2:=R2.out.cell
   by_cases hne:n2 = n
   ·subst hne
    have h7:((n2:Int) != n2) = false:=by simp
    go_wp2
    go_loopg [55] n2 (fun gk q wr2 => ∃ r:Nat,r <= n2 /\ gk = n2 - r /\ q = .int .i64 r /\ wr2 = wr /\ za5 (rowE n2 L) (LL.take r) = 0)
    case atStart => exact ⟨0,Nat.zero_le _,rfl,rfl,rfl,rfl⟩
    case round =>
     obtain ⟨r,hr,rfl,rfl,rfl,hz⟩:=hrel
     have HZ2:=zh hz; clear hz
     by_cases hlt2:r < n2
     ·obtain ⟨l1,hx⟩:∃ x,LL[r]? = some x:=⟨LL[r]'(by rw [<- HN2.out]; exact hlt2),List.getElem?_eq_getElem _⟩
      obtain ⟨b2,o2,u,rfl,hb2',d0,hN1⟩:=HA2.out r l1 hx
      rw [<- HB.out.cell (p:=⟨b2,_,none⟩) hb2'] at d0
      obtain ⟨A1,c1,rfl,hC1,hC2,hA1'⟩:=hN1.open
      obtain ⟨n1,hn1⟩:=zx l1.length
      rw [<- hn1] at hC1 d0
      have HX2:=zh hx; have HN1:=zh hn1; have HA1:=zh hA1'
      clear hx hn1 hA1' hN1
      by_cases hne:n1 = L
      ·subst hne
       have h8:((n1:Int) != n1) = false:=by simp
       go_wp2
       go_loopg [67] n1 (fun gk q wr3 => ∃ x:Nat,x <= n1 /\ gk = n1 - x /\ q = .int .i64 x /\ wr3 = wr /\ za5 (zcj n2) (l1.take x) = 0)
       case atStart => exact ⟨0,Nat.zero_le _,rfl,rfl,rfl,rfl⟩
       case round =>
        obtain ⟨x,hx1,rfl,rfl,rfl,hz⟩:=hrel
        have HZ3:=zh hz; clear hz
        by_cases hlt3:x < n1
        ·obtain ⟨s,hx⟩:∃ s,l1[x]? = some s:=⟨l1[x]'(by rw [<- HN1.out]; exact hlt3),List.getElem?_eq_getElem _⟩
         obtain ⟨b1,o1,rfl,hb1',e0⟩:=HA1.out x s hx
         rw [<- HB.out.cell (p:=⟨b1,_,none⟩) hb1'] at e0
         have HX3:=zh hx; clear hx
         by_cases hok:0 <= s /\ s < (n2:Int)
         ·have h9:Hid (okS n2 s = true):=by unfold Hid; simp only [okS,Bool.and_eq_true,decide_eq_true_eq]; exact hok
          have h10:Hid (zcj n2 s = 0):=by unfold Hid zcj; rw [if_pos hok]
          clear hok
          go_wp2_with (go_at_call 98; go_must (refine (zel n2 s _ _ R2.out).mono ?_; rintro e w2 ⟨rfl,rfl⟩; rw [h9.out]))
          go_roundg (n1 - (x + 1))
          case rel => exact ⟨x + 1,by omega,rfl,by go_num,rfl,zbc HZ3.out HX3.out h10.out⟩
          case measure => omega
         ·have h9:Hid (okS n2 s = false):=by unfold Hid; simp only [okS,Bool.and_eq_false_iff,decide_eq_false_iff_not]; omega
          have h10:Hid (zcj n2 s = 8):=by unfold Hid zcj; rw [if_neg hok]
          clear hok
          have h11:Hid (R = 8):=by
           have e1:=zay HZ3.out HX3.out (by rw [h10.out]; omega)
           have e2:rowE n2 n1 l1 = 8:=by unfold rowE; rw [if_pos HN1.out.symm,e1,h10.out]
           have e3:=zay HZ2.out HX2.out (by rw [e2]; omega)
           have e4:rowsE n2 n1 LL = 8:=by unfold rowsE; rw [if_pos HN2.out.symm,e3,e2]
           have e5:=zay HZ.out HX.out (by rw [e4]; omega)
           unfold Hid; rw [HR.out,e5,e4]
          go_wp2_with (go_at_call 98; go_must (refine (zel n2 s _ _ R2.out).mono ?_; rintro e w2 ⟨rfl,rfl⟩; rw [h9.out]))
          go_returns
          exact ⟨HFIN.out 8 h11.out,HB.out⟩
        ·have hxn:x = n1:=by omega
         have h10:Hid (rowE n2 n1 l1 = 0):=by
          have e1:=HZ3.out
          rw [hxn,List.take_of_length_le (by rw [<- HN1.out]; exact zn)] at e1
          unfold Hid rowE; rw [if_pos HN1.out.symm,e1]
         clear hxn
         go_wp2
         go_roundg (n2 - (r + 1))
         case rel => exact ⟨r + 1,by omega,rfl,by go_num,rfl,zbc HZ2.out HX2.out h10.out⟩
         case measure => omega
      ·have h8:((n1:Int) != L) = true:=by rw [bne_iff_ne]; omega
       have h11:Hid (R = 2):=by
        have e2:rowE n2 L l1 = 2:=by unfold rowE; rw [if_neg (by rw [<- HN1.out]; exact hne)]
        have e3:=zay HZ2.out HX2.out (by rw [e2]; omega)
        have e4:rowsE n2 L LL = 2:=by unfold rowsE; rw [if_pos HN2.out.symm,e3,e2]
        have e5:=zay HZ.out HX.out (by rw [e4]; omega)
        unfold Hid; rw [HR.out,e5,e4]
       clear hne
       go_wp2
       go_returns
       exact ⟨HFIN.out 2 h11.out,HB.out⟩
     ·have hxn:r = n2:=by omega
      have h10:Hid (rowsE n2 L LL = 0):=by
       have e1:=HZ2.out
       rw [hxn,List.take_of_length_le (by rw [<- HN2.out]; exact zn)] at e1
       unfold Hid rowsE; rw [if_pos HN2.out.symm,e1]
      clear hxn
      go_wp2
      go_roundg (n2 - (l + 1))
      case rel => exact ⟨l + 1,by omega,rfl,by go_num,rfl,zbc HZ.out HX.out h10.out⟩
      case measure => omega
   ·have h7:((n2:Int) != n) = true:=by rw [bne_iff_ne]; omega
    have h11:Hid (R = 2):=by
     have e4:rowsE n L LL = 2:=by unfold rowsE; rw [if_neg (by rw [<- HN2.out]; exact hne)]
     have e5:=zay HZ.out HX.out (by rw [e4]; omega)
     unfold Hid; rw [HR.out,e5,e4]
    clear hne
    go_wp2
    go_returns
    exact ⟨HFIN.out 2 h11.out,HB.out⟩
  ·have hxn:l = n:=by omega
   have h10:Hid (R = 0):=by
    have e1:=HZ.out
    rw [hxn,List.take_of_length_le (by rw [<- HN.out]; exact zn)] at e1
    unfold Hid; rw [HR.out,e1]
   clear hxn
   go_wp2
   go_returns
   exact ⟨HFIN.out 0 h10.out,HB.out⟩
end Go.Proofs.YthkfjnmnoanhlaaGreatDoor
namespace Go.Proofs.YthkfjnmnoanhlaaGreatDoor
open Go.RowKit
end Go.Proofs.YthkfjnmnoanhlaaGreatDoor
