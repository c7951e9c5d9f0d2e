/- Part 15 of the proof; it says: lemmas and contracts. No conditions but those that each theorem states. -/
import Derived.Deep.DeepCutAuto
import Derived.Deep.QuietTactic
import Derived.BigQuiet
import Derived.Test.YthdabkmkgkkmcaaGreatDoorPb01
import Derived.Test.YthdabkmkgkkmcaaGreatDoorPb03
set_option linter.unusedSimpArgs false
set_option linter.unusedVariables false
set_option maxRecDepth 100000
set_option maxHeartbeats 32000000
namespace Go.Proofs.YthdabkmkgkkmcaaGreatDoor
open Go.RowKit
def Lf.cells (m:Lf):List Value:=[.int .u8 m.label,.int .i64 m.left,.int .i64 m.right]
def zbk (f:List Lf):List Value:=f.flatMap Lf.cells
def LbOk (f:List Lf):Prop:=∀ m ∈ f,0 <= m.label /\ m.label <= 255
theorem zc0 (f:List Lf):(zbk f).length = f.length * 3:=by
 induction f with
 | nil => rfl
 | cons m f ih => simp only [zbk,List.flatMap_cons,List.length_append,List.length_cons] at *; rw [ih]; simp [Lf.cells]; omega
theorem zb8 (f:List Lf) (i:Nat) (m:Lf) (h:f[i]? = some m) (j:Nat) (hj:j < 3):(zbk f)[i * 3 + j]? = m.cells[j]?:=by
 induction f generalizing i with
 | nil => simp at h
 | cons a f ih =>
  simp only [zbk,List.flatMap_cons]
  cases i with
  | zero =>
   simp only [List.getElem?_cons_zero,Option.some.injEq] at h
   subst h
   rw [List.getElem?_append_left (by simp [Lf.cells]; omega)]
   simp
  | succ i =>
   simp only [List.getElem?_cons_succ] at h
   rw [List.getElem?_append_right (by simp [Lf.cells]; omega)]
   have:=ih i h
   simp only [zbk] at this
   rw [<- this]
   congr 1
   simp [Lf.cells]; omega
theorem zis (f g:List Lf):zbk (f ++ g) = zbk f ++ zbk g:=by simp [zbk]
theorem zmr (f:List Lf):∀ u ∈ zbk f,u.oneCell' = true:=by
 intro u hu
 simp only [zbk,List.mem_flatMap,Lf.cells] at hu
 obtain ⟨m,_,hu⟩:=hu
 simp only [List.mem_cons,List.not_mem_nil,or_false] at hu
 rcases hu with rfl | rfl | rfl <;> rfl
def L3 (w:World) (b p:Nat) (m:Lf):Prop :=
 w.cell? ⟨b,p,none⟩ = some (.int .u8 m.label) /\ w.cell? ⟨b,p + 1,none⟩ = some (.int .i64 m.left) /\ w.cell? ⟨b,p + 2,none⟩ = some (.int .i64 m.right)
theorem L3.keep {w w':World} {b p:Nat} {m:Lf} (h:L3 w b p m) (hk:∀ o,w'.cell? ⟨b,o,none⟩ = w.cell? ⟨b,o,none⟩):L3 w' b p m:=by
 unfold L3 at *
 simpa only [hk] using h
def TS (w:World) (v:Value) (f:List Lf):Prop :=
 LbOk f /\ ∃ A c,v = .slice A f.length c /\ f.length <= c /\ c <= 9223372036854775807 /\
  (0 < f.length -> ∃ b o,A = some ⟨b,o,none⟩ /\ b < w.heap.size /\ ∀ i m,f[i]? = some m -> L3 w b (o + i * 3) m)
theorem TS.below {w w':World} {v:Value} {f:List Lf} {B:Nat} (h:TS w v f) (hb:Below B w w') (hB:w.heap.size <= B):TS w' v f:=by
 obtain ⟨h0,A,c,hv,h1,h2,h3⟩:=h
 refine ⟨h0,A,c,hv,h1,h2,fun hp => ?_⟩
 obtain ⟨b,o,hA,hlt,hm⟩:=h3 hp
 exact ⟨b,o,hA,Nat.lt_of_lt_of_le hlt hb.size,fun i m him => (hm i m him).keep fun q => hb.cell (p:=⟨b,q,none⟩) (by simpa using Nat.lt_of_lt_of_le hlt hB)⟩
theorem TS.nil (w:World):TS w (.slice none 0 0) []:=⟨by simp [LbOk],none,0,rfl,by simp,by omega,by simp⟩
def TO (w:World) (B:Nat) (v:Value) (f:List Lf):Prop:=LbOk f /\ w.ownsRow B 97 3 v f.length (zbk f)
theorem TO.nil (w:World) (B:Nat):TO w B (.slice none 0 0) []:=⟨by simp [LbOk],World.ownsRow_nil _ _ _ _⟩
theorem TO.ts {w:World} {B:Nat} {v:Value} {f:List Lf} (h:TO w B v f):TS w v f:=by
 obtain ⟨h0,h⟩:=h
 have hx:=h
 refine ⟨h0,?_⟩
 rcases h.2 with ⟨hv,hn⟩ | ⟨g,cap,cur,hv,hB,hg,hnc,hcm,hcs,ht⟩
 ·exact ⟨none,0,by rw [hv,hn],by omega,by omega,by omega⟩
 ·refine ⟨some ⟨g,0,none⟩,cap,hv,hnc,by simpa [maxLen] using hcm,fun _ => ⟨g,0,rfl,lt_of_block hg,fun i m hi => ?_⟩⟩
  have hi':i < f.length:=(List.getElem?_eq_some_iff.1 hi).1
  have key:∀ j,j < 3 -> w.cell? ⟨g,0 + i * 3 + j,none⟩ = m.cells[j]?:=fun j hj => by
   subst hv
   rw [Nat.zero_add,hx.cellAt _ (by omega),zb8 f i m hi j hj]
  exact ⟨key 0 (by omega),key 1 (by omega),key 2 (by omega)⟩
theorem TO.below {w w':World} {B B':Nat} {v:Value} {f:List Lf} (h:TO w B v f) (hb:Below B' w w') (hB:w.heap.size <= B'):TO w' B v f:=by
 obtain ⟨h0,h1,h⟩:=h
 refine ⟨h0,h1,?_⟩
 rcases h with h | ⟨g,cap,cur,hv,hBg,hg,r⟩
 ·exact .inl h
 ·exact .inr ⟨g,cap,cur,hv,hBg,(hb.block g (Nat.lt_of_lt_of_le (lt_of_block hg) hB)).trans hg,r⟩
theorem TO.mono {w:World} {B B':Nat} {v:Value} {f:List Lf} (h:TO w B v f) (hB:B' <= B):TO w B' v f:=by
 obtain ⟨h0,h1,h⟩:=h
 refine ⟨h0,h1,?_⟩
 rcases h with h | ⟨g,cap,cur,hv,hB,hg,r⟩
 ·exact .inl h
 ·exact .inr ⟨g,cap,cur,hv,by omega,hg,r⟩
theorem zjm:(Tryz.prog.info? 97).map (fun i => (i.zero,i.size,i.bytes)) = some (some (.agg #[.int .u8 0,.int .i64 0,.int .i64 0]),3,24):=by kernel_rfl
theorem zii (w:World) (B:Nat) (v:Value) (f:List Lf) (hown:TO w B v f) (x:Value) (g:List Lf) (hx:TS w x g) (ty:TypeId) (hl:f.length + g.length <= 1000000) (hB:B <= w.heap.size) :
  ∃ v' w',(Builtin.append_ #[44,44] ty #[v,x]).run Tryz.prog w = .ok v' w' /\ TO w' B v' (f ++ g) /\ w.grownBy w' v.ownBlock /\ (v'.ownBlock = v.ownBlock \/ v'.ownBlock = some w.heap.size):=by
 obtain ⟨i,hi,hz,h1,h2⟩:=info_parts zjm
 obtain ⟨h0,hown⟩:=hown
 obtain ⟨hg,A,c,rfl,hc,hc2,hcell⟩:=hx
 have hop:LbOk (f ++ g):=by
  intro m hm
  rcases List.mem_append.1 hm with h | h
  ·exact h0 m h
  ·exact hg m h
 have hlen:(f ++ g).length = f.length + g.length:=by simp
 by_cases hn:0 < g.length
 ·obtain ⟨b,o,rfl,hb,hm⟩:=hcell hn
  have hnews:∀ j u,(zbk g)[j]? = some u -> w.cell? ((⟨b,o,none⟩:Addr).add j) = some u:=by
   intro j u hu
   have hj:j < g.length * 3:=by rw [<- zc0]; exact (List.getElem?_eq_some_iff.1 hu).1
   have hi3:j / 3 < g.length:=by omega
   obtain ⟨m,hmm⟩:∃ m,g[j / 3]? = some m:=⟨g[j / 3],List.getElem?_eq_getElem hi3⟩
   have hsplit:j = j / 3 * 3 + j % 3:=by omega
   have hr3:j % 3 < 3:=by omega
   have e:=zb8 g (j / 3) m hmm (j % 3) hr3
   rw [<- hsplit,hu] at e
   have hm5:=hm (j / 3) m hmm
   have hadd:(⟨b,o,none⟩:Addr).add j = ⟨b,o + j / 3 * 3 + j % 3,none⟩:=by
    unfold Addr.add
    by_cases hj0:j = 0
    ·subst hj0; simp
    ·rw [if_neg hj0]; simp; omega
   rw [hadd]
   obtain ⟨c0,c1,c2⟩:=hm5
   have hcase:j % 3 = 0 \/ j % 3 = 1 \/ j % 3 = 2:=by omega
   rcases hcase with h | h | h <;> rw [h] at e ⊢ <;> simp [Lf.cells] at e <;> subst e <;> assumption
  obtain ⟨v',w',hrun,h3,h4,_,h6⟩:=run_append_own_at (P:=Tryz.prog) w B 44 ty 97 i _ 3 24 Tryz.underlying44 hi hz h1 h2 rfl (by omega) v f.length (zbk f) hown
   ⟨b,o,none⟩ g.length c (zbk g) (zc0 g) hnews (zmr g) (by simp only [maxLen]; omega) (by omega) hB
  exact ⟨v',w',hrun,⟨hop,by rw [hlen,zis]; exact h3⟩,h4,h6⟩
 ·have hg0:g = []:=List.eq_nil_of_length_eq_zero (by omega)
  subst hg0
  simp only [List.append_nil] at hop ⊢
  cases A with
  | none => exact ⟨v,w,zct w B _ ty _ i 3 Tryz.underlying44 hi v _ _ hown c,⟨hop,hown⟩,World.grownBy.refl w _,.inl rfl⟩
  | some ad =>
   obtain ⟨v',w',hrun,h3,h4,_,h6⟩:=run_append_own_at (P:=Tryz.prog) w B 44 ty 97 i _ 3 24 Tryz.underlying44 hi hz h1 h2 rfl (by omega) v f.length (zbk f) hown
    ad 0 c [] (by simp) (by simp) (by simp) (by simp only [maxLen]; omega) (by omega) hB
   exact ⟨v',w',hrun,⟨hop,by simpa using h3⟩,h4,h6⟩
theorem zi5 {o:Oper} {a:Act} {w:World} {K:Act -> World -> Prop} {Q:Exit -> Act -> World -> Prop} (s x:Operand)
  (ho:o.op = .call { callee:=.builtin .append,args:=#[s,x],argTypes:=#[44,44] })
  (B:Nat) (v:Value) (f:List Lf) (hs:a.eval s = v) (hown:TO w B v f) (y:Value) (g:List Lf) (hx:a.eval x = y) (hy:TS w y g) (hl:f.length + g.length <= 1000000) (hB:B <= w.heap.size)
  (h:∀ v' w',TO w' B v' (f ++ g) -> w.grownBy w' v.ownBlock -> (v'.ownBlock = v.ownBlock \/ v'.ownBlock = some w.heap.size) -> K (a.put o.dst v') w'):o.wp Tryz.prog a w K Q:=by
 obtain ⟨v',w',hrun,h2,h3,h4⟩:=zii w B v f hown y g hy o.type hl hB
 unfold Oper.wp execOp
 simp only [ho,resolve,invoke,builtin,Sem.run_bind,Sem.run_pure,Result.andThen_ok,List.map_toArray,List.map_cons,List.map_nil,hs,hx,hrun]
 exact h v' w' h2 h3 h4
theorem zbb {ops:Array Oper} {rest:List Oper} {o:Oper} {a:Act} {w:World} {Q:Exit -> Act -> World -> Prop} (hgd:o.guard = none) (s x:Operand)
  (ho:o.op = .call { callee:=.builtin .append,args:=#[s,x],argTypes:=#[44,44] })
  (B:Nat) (v:Value) (f:List Lf) (hs:a.eval s = v) (hown:TO w B v f) (y:Value) (g:List Lf) (hx:a.eval x = y) (hy:TS w y g) (hl:f.length + g.length <= 1000000) (hB:B <= w.heap.size)
  (h:∀ v' w',TO w' B v' (f ++ g) -> w.grownBy w' v.ownBlock -> (v'.ownBlock = v.ownBlock \/ v'.ownBlock = some w.heap.size) -> wpList Tryz.prog ops Q rest (a.put o.dst v') w'):wpList Tryz.prog ops Q (o :: rest) a w :=
 wpList_plain hgd fun _ hK => zi5 s x ho B v f hs hown y g hx hy hl hB fun v' w' h2 h3 h4 => hK _ _ (h v' w' h2 h3 h4)
def RetTO (w:World) (f:List Lf) (e:Ending) (w':World):Prop:=∃ v,e = .returned v /\ Below w.heap.size w w' /\ TO w' w.heap.size v f
theorem zde {w w1 w2:World} {B:Nat} {v v':Value} {f g:List Lf} (hb:Below B w w1) (ho:TO w1 B v f) (hg:w1.grownBy w2 v.ownBlock) (hB:B <= w1.heap.size):Below B w w2 :=
 hb.grown hg hB fun k hk => (ho.2.lt k hk).1
theorem TS.at3 {w:World} {b o n c:Nat} {f:List Lf} (h:TS w (.slice (some ⟨b,o,none⟩) n c) f) {i:Nat} {m:Lf} (hm:f[i]? = some m):L3 w b (o + i * 3) m:=by
 obtain ⟨_,A',c',hv,_,_,hc⟩:=h
 obtain ⟨b',o',hA,_,hcell⟩:=hc (by have:=(List.getElem?_eq_some_iff.1 hm).1; omega)
 simp only [Value.slice.injEq] at hv
 obtain ⟨h1,_⟩:=hv
 rw [hA] at h1
 cases h1
 exact hcell i m hm
theorem zlm (W:World) (a b:Value):(Instr.index 145 (.agg #[a,b]) (.int .i64 0)).run Tryz.prog W = .ok a W /\ (Instr.index 145 (.agg #[a,b]) (.int .i64 1)).run Tryz.prog W = .ok b W:=by
 refine ⟨?_,?_⟩ <;> kernel_rfl
theorem ret_i {R b:Int} (h:R = b):Ending.returned (.int .i64 b) = .returned (.int .i64 R):=by rw [h]
def optI:Option Nat -> Int
 | none => -1
 | some n => n
theorem zrj {len:Nat} {e:Nat -> Option Nat} {c:Int} {next:Nat} (h:c = -1):kid len e c next = some next:=by unfold kid; rw [if_pos h]
theorem zpd {len:Nat} {e:Nat -> Option Nat} {c:Int} {next:Nat} (h:c ≠ -1) (h2:c ≠ next \/ len <= next):kid len e c next = none:=by unfold kid; rw [if_neg h,if_pos h2]
theorem kid_go {len:Nat} {e:Nat -> Option Nat} {c:Int} {next:Nat} (h:c = next) (h2:next < len):kid len e c next = e next:=by unfold kid; rw [if_neg (by omega),if_neg (by omega)]
theorem zjk (t:List Lf) (c:Int) (next:Nat) (hn:next <= t.length) :
  (c = -1 /\ kid t.length (endS t) c next = some next) \/ ((c == -1) = false /\ ((c != next) = true) /\ kid t.length (endS t) c next = none) \/ ((c == -1) = false /\ c = next /\ t.length <= next /\ kid t.length (endS t) c next = none) \/
   (c = next /\ next < t.length /\ endS t next = none /\ kid t.length (endS t) c next = none) \/ (∃ m,c = next /\ next < t.length /\ endS t next = some m /\ next < m /\ m <= t.length /\ kid t.length (endS t) c next = some m):=by
 by_cases h1:c = -1
 ·exact .inl ⟨h1,zrj h1⟩
 ·have hb:(c == -1) = false:=by simp [h1]
  by_cases h2:c = next
  ·by_cases h3:next < t.length
   ·cases he:endS t next with
    | none => exact .inr (.inr (.inr (.inl ⟨h2,h3,rfl,by rw [kid_go h2 h3,he]⟩)))
    | some m => have:=zg6 he; exact .inr (.inr (.inr (.inr ⟨m,h2,h3,rfl,this.1,this.2,by rw [kid_go h2 h3,he]⟩)))
   ·exact .inr (.inr (.inl ⟨hb,h2,by omega,zpd h1 (.inr (by omega))⟩))
  ·exact .inr (.inl ⟨hb,by simp [h2],zpd h1 (.inl h2)⟩)
theorem end_any (t:List Lf) (v:Value) (hl:t.length <= 1000):∀ (d i:Nat) (w:World),t.length - i <= d -> i < t.length -> TS w v t ->
  Calls Tryz.prog 104 #[v,.int .i64 i] w fun e w' => e = .returned (.int .i64 (optI (endS t i))) /\ Below w.heap.size w w':=by
 intro d
 induction d with
 | zero => intro i w h1 h2; omega
 | succ d ih =>
  intro i w hd hi hv
  obtain ⟨x,hx⟩:∃ x,t[i]? = some x:=⟨t[i],List.getElem?_eq_getElem hi⟩
  have hend:=zkn t i x hx
  have HV:=zh hv
  obtain ⟨hop2,A,c,rfl,hc1,hc2,hcc⟩:=hv
  obtain ⟨b,o,rfl,hb,hcell⟩:=hcc (by omega)
  obtain ⟨c0,c1,c2⟩:=hcell i x hx
  clear hcc hcell hop2
  obtain ⟨n,hn⟩:=zx t.length
  have IH:=zh (fun (j:Nat) (W:World) (h1:i < j) (h2:j < n) (hW:TS W (.slice (some ⟨b,o,none⟩) n c) t) => (show Calls Tryz.prog 104 #[.slice (some ⟨b,o,none⟩) n c,.int .i64 j] W fun e w' => e = .returned (.int .i64 (optI (endS t j))) /\ Below W.heap.size W w' from by rw [hn] at hW ⊢; exact ih j W (by omega) (by omega) hW))
  have k1:=zjk t x.left (i + 1) (by omega)
  have K2:=zh (fun m (h:m <= n) => zjk t x.right m (by omega))
  rw [<- hn] at hl hi hc1 HV ⊢
  have HN:=zh hn
  obtain ⟨R,hR⟩:=zx (optI (endS t i))
  rw [<- hR]
  rw [hend] at hR
  have HR:=zh hR
  obtain ⟨lb,l,r⟩:=x
  simp only at c0 c1 c2 k1 K2 HR
  have hi1:((i + 1:Nat):Int) = (i:Int) + 1:=by omega
  have I1:Hid (∀ W,i + 1 < n -> TS W (.slice (some ⟨b,o,none⟩) n c) t -> Calls Tryz.prog 104 #[.slice (some ⟨b,o,none⟩) n c,.int .i64 ((i:Int) + 1)] W fun e w' => e = .returned (.int .i64 (optI (endS t (i + 1)))) /\ Below W.heap.size W w'):=fun W h hW => by
   have:=IH.out (i + 1) W (by omega) h hW
   rwa [hi1] at this
  clear hn hx hend hR ih hd
  have i0:=fun W a b => (zlm W a b).1
  have i1:=fun W a b => (zlm W a b).2
  rw [hi1] at k1
  have hd0:Hid (Below w.heap.size w w.drew):=(Below.refl _ _).drew
  rcases k1 with ⟨h1,h2⟩ | ⟨h1,h2,h3⟩ | ⟨h1,h2,h3,h4⟩ | ⟨h1,h2,h3,h4⟩ | ⟨m,h1,h2,h3,h4,h5,h6⟩
  ·have KEQ:=h2
   have hl1:=h1; clear h2
   go_enter Tryz.func104,Tryz.ntmps104
   go_wp2
   go_region
   go_wp2
   refine wp_loop_rounds 3 ?_
   rw [rounds_succ]
   go_wp2
   rw [rounds_succ]
   have HB:=hd0
   have k2:=K2.out (i + 1) (by have:=HN.out; omega)
   rw [hi1] at k2
   rcases k2 with ⟨g1,g2⟩ | ⟨g1,g2,g3⟩ | ⟨g1,g2,g3,g4⟩ | ⟨g1,g2,g3,g4⟩ | ⟨m2,g1,g2,g3,g4,g5,g6⟩
   ·have HRR:Hid (R = ((i:Int) + 1)):=by rw [HR.out,KEQ,Option.bind_some,g2]; exact hi1
    skip
    go_wp2
    rw [rounds_succ]
    go_wp2
    go_returns
    exact ⟨ret_i HRR.out,HB.out⟩
   ·have HRR:Hid (R = -1):=by rw [HR.out,KEQ,Option.bind_some,g3]; rfl
    go_wp2
    go_returns
    exact ⟨ret_i HRR.out,HB.out⟩
   ·have HRR:Hid (R = -1):=by rw [HR.out,KEQ,Option.bind_some,g4]; rfl
    have gn:n <= (i + 1):=by have:=HN.out; omega
    have gi:(n:Int) <= ((i:Int) + 1):=by omega
    go_wp2
    go_returns
    exact ⟨ret_i HRR.out,HB.out⟩
   ·have HRR:Hid (R = -1):=by rw [HR.out,KEQ,Option.bind_some,g4]; rfl
    have gl:(i + 1) < n:=by have:=HN.out; omega
    have gi:((i:Int) + 1) < (n:Int):=by omega
    have gm:(r == -1) = false:=by rw [beq_eq_false_iff_ne]; omega
    go_wp2_with (go_at_call 104; go_must ((with_reducible refine (I1.out _ (by have:=HN.out; omega) (HV.out.below HB.out zn)).mono ?_); rintro e w2 ⟨rfl,hb2⟩; rw [g3]; replace HB:=zh (HB.out.trans (hb2.mono HB.out.size)); clear hb2))
    go_returns
    exact ⟨ret_i HRR.out,HB.out⟩
   ·have HRR:Hid (R = (m2:Int)):=by rw [HR.out,KEQ,Option.bind_some,g6]; rfl
    have gl:(i + 1) < n:=by have:=HN.out; omega
    have gi:((i:Int) + 1) < (n:Int):=by omega
    have gm:(r == -1) = false:=by rw [beq_eq_false_iff_ne]; omega
    go_wp2_with (go_at_call 104; go_must ((with_reducible refine (I1.out _ (by have:=HN.out; omega) (HV.out.below HB.out zn)).mono ?_); rintro e w2 ⟨rfl,hb2⟩; rw [g3]; replace HB:=zh (HB.out.trans (hb2.mono HB.out.size)); clear hb2))
    rw [rounds_succ]
    go_wp2
    go_returns
    exact ⟨ret_i HRR.out,HB.out⟩
  ·have HRR:Hid (R = -1):=by rw [HR.out,h3]; rfl
   have HB:=hd0
   go_enter Tryz.func104,Tryz.ntmps104
   go_wp2
   go_region
   go_wp2
   refine wp_loop_rounds 3 ?_
   rw [rounds_succ]
   go_wp2
   go_returns
   exact ⟨ret_i HRR.out,HB.out⟩
  ·have HRR:Hid (R = -1):=by rw [HR.out,h4]; rfl
   have HB:=hd0
   have gi:(n:Int) <= (i:Int) + 1:=by have:=HN.out; omega
   go_enter Tryz.func104,Tryz.ntmps104
   go_wp2
   go_region
   go_wp2
   refine wp_loop_rounds 3 ?_
   rw [rounds_succ]
   go_wp2
   go_returns
   exact ⟨ret_i HRR.out,HB.out⟩
  ·have HRR:Hid (R = -1):=by rw [HR.out,h4]; rfl
   have HB:=hd0
   have gi:(i:Int) + 1 < (n:Int):=by have:=HN.out; omega
   have gm:(l == -1) = false:=by rw [beq_eq_false_iff_ne]; omega
   go_enter Tryz.func104,Tryz.ntmps104
   go_wp2
   go_region
   go_wp2
   refine wp_loop_rounds 3 ?_
   rw [rounds_succ]
   go_wp2_with (go_at_call 104; go_must ((with_reducible refine (I1.out _ (by have:=HN.out; omega) (HV.out.below HB.out zn)).mono ?_); rintro e w1 ⟨rfl,hb1⟩; rw [h3]; replace HB:=zh (HB.out.trans (hb1.mono HB.out.size)); clear hb1))
   go_returns
   exact ⟨ret_i HRR.out,HB.out⟩
  ·have KEQ:=h6
   have gi:(i:Int) + 1 < (n:Int):=by have:=HN.out; omega
   have gm:(l == -1) = false:=by rw [beq_eq_false_iff_ne]; omega
   have HB:=hd0
   go_enter Tryz.func104,Tryz.ntmps104
   go_wp2
   go_region
   go_wp2
   refine wp_loop_rounds 3 ?_
   rw [rounds_succ]
   go_wp2_with (go_at_call 104; go_must ((with_reducible refine (I1.out _ (by have:=HN.out; omega) (HV.out.below HB.out zn)).mono ?_); rintro e w1 ⟨rfl,hb1⟩; rw [h3]; try unfold optI; replace HB:=zh (HB.out.trans (hb1.mono HB.out.size)); clear hb1))
   have gmm:((m:Int) == -1) = false:=by rw [beq_eq_false_iff_ne]; omega
   rw [rounds_succ]
   have k2:=K2.out m (by have:=HN.out; omega)
   rcases k2 with ⟨g1,g2⟩ | ⟨g1,g2,g3⟩ | ⟨g1,g2,g3,g4⟩ | ⟨g1,g2,g3,g4⟩ | ⟨m2,g1,g2,g3,g4,g5,g6⟩
   ·have HRR:Hid (R = (m:Int)):=by rw [HR.out,KEQ,Option.bind_some,g2]; rfl
    skip
    go_wp2
    rw [rounds_succ]
    go_wp2
    go_returns
    exact ⟨ret_i HRR.out,HB.out⟩
   ·have HRR:Hid (R = -1):=by rw [HR.out,KEQ,Option.bind_some,g3]; rfl
    go_wp2
    go_returns
    exact ⟨ret_i HRR.out,HB.out⟩
   ·have HRR:Hid (R = -1):=by rw [HR.out,KEQ,Option.bind_some,g4]; rfl
    have gn:n <= m:=by have:=HN.out; omega
    have gi:(n:Int) <= (m:Int):=by omega
    go_wp2
    go_returns
    exact ⟨ret_i HRR.out,HB.out⟩
   ·have HRR:Hid (R = -1):=by rw [HR.out,KEQ,Option.bind_some,g4]; rfl
    have gl:m < n:=by have:=HN.out; omega
    have gi:(m:Int) < (n:Int):=by omega
    have gm:(r == -1) = false:=by rw [beq_eq_false_iff_ne]; omega
    go_wp2_with (go_at_call 104; go_must ((with_reducible refine (IH.out m _ (by omega) (by have:=HN.out; omega) (HV.out.below HB.out zn)).mono ?_); rintro e w2 ⟨rfl,hb2⟩; rw [g3]; replace HB:=zh (HB.out.trans (hb2.mono HB.out.size)); clear hb2))
    go_returns
    exact ⟨ret_i HRR.out,HB.out⟩
   ·have HRR:Hid (R = (m2:Int)):=by rw [HR.out,KEQ,Option.bind_some,g6]; rfl
    have gl:m < n:=by have:=HN.out; omega
    have gi:(m:Int) < (n:Int):=by omega
    have gm:(r == -1) = false:=by rw [beq_eq_false_iff_ne]; omega
    go_wp2_with (go_at_call 104; go_must ((with_reducible refine (IH.out m _ (by omega) (by have:=HN.out; omega) (HV.out.below HB.out zn)).mono ?_); rintro e w2 ⟨rfl,hb2⟩; rw [g3]; replace HB:=zh (HB.out.trans (hb2.mono HB.out.size)); clear hb2))
    rw [rounds_succ]
    go_wp2
    go_returns
    exact ⟨ret_i HRR.out,HB.out⟩
theorem zld {R b:Bool} (h:R = b):Ending.returned (.bool b) = .returned (.bool R):=by rw [h]
theorem zcg (t:List Lf) (v:Value) (w:World) (hv:TS w v t) :
  Calls Tryz.prog 61 #[v] w fun e w' => e = .returned (.bool (zae t)) /\ Below w.heap.size w w':=by
 have HV:=zh hv
 obtain ⟨_,A,c,rfl,hc1,hc2,_⟩:=hv
 have hend:=fun W (h:t.length <= 1000) (h2:0 < t.length) (hW:TS W (.slice A t.length c) t) => end_any t _ h _ 0 W zn h2 hW
 obtain ⟨n,hn⟩:=zx t.length
 rw [<- hn] at hc1 HV hend ⊢
 obtain ⟨R,hR⟩:=zx (zae t)
 rw [<- hR]
 unfold zae at hR
 rw [<- hn] at hR
 have hb:((optI (endS t 0) == (n:Int)) = true) ↔ endS t 0 = some n:=by
  rw [beq_iff_eq]
  cases endS t 0 with
  | none => simp [optI]
  | some m => simp only [optI,Option.some.injEq]; omega
 have HEND:=zh hend; have HR:=zh hR; have HBI:=zh hb
 clear hend hn hR hb
 by_cases h0:n = 0
 ·have hRR:R = true:=by rw [HR.out]; simp [h0]
  have HRR:=zh hRR
  have h0':((n:Int) == 0) = true:=by simp [h0]
  clear hRR h0
  go_enter Tryz.func61,Tryz.ntmps61
  go_wp2
  go_returns
  exact ⟨zld HRR.out,Below.refl _ _⟩
 have h0':((n:Int) == 0) = false:=by simp [h0]
 by_cases h31:n <= 31
 ·have hp:0 < n:=by omega
  have h1000:n <= 1000:=by omega
  obtain ⟨E,hE⟩:=zx (optI (endS t 0))
  rw [<- hE] at HBI
  have HR2:Hid (R = (E == (n:Int))):=by
   rw [Hid,HR.out,Bool.eq_iff_iff,HBI.out]
   simp [h0,h31]
  have HE:=zh hE; clear hE h0
  go_enter Tryz.func61,Tryz.ntmps61
  go_wp2_with (go_at_call 104; go_must (refine (HEND.out _ h1000 hp HV.out).mono ?_; rintro e w1 ⟨he,hb1⟩; obtain rfl:e = .returned (.int .i64 E):=he.trans (by rw [HE.out]); clear he; have HB:=zh hb1; clear hb1))
  go_returns
  exact ⟨zld HR2.out,HB.out⟩
 ·have hRR:R = false:=by rw [HR.out]; simp [h0,h31]
  have HRR:=zh hRR
  clear hRR h0
  go_enter Tryz.func61,Tryz.ntmps61
  go_wp2
  go_returns
  exact ⟨zld HRR.out,Below.refl _ _⟩
theorem zi3 {α:Type} {l:List α} {k:Nat} {x:α} (g:α -> Bool) (h:l[k]? = some x):(l.take (k + 1)).any g = ((l.take k).any g || g x):=by
 rw [List.take_add_one,h]; simp
theorem zqf {α:Type} {l:List α} {k:Nat} {x:α} (g:α -> Bool) (h:l[k]? = some x) (hg:g x = true):l.any g = true:=List.any_eq_true.2 ⟨x,List.mem_of_getElem? h,hg⟩
end Go.Proofs.YthdabkmkgkkmcaaGreatDoor
