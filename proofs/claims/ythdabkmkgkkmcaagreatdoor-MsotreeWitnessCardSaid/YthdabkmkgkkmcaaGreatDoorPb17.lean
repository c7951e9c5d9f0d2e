/- Part 17 of the proof; it says: lemmas and contracts. No conditions but those that each theorem states. -/
import Derived.Laws.EntriesVeiled
import Derived.Deep.RegionHeld3
import Derived.Deep.RegionLaw
import Derived.Test.YthdabkmkgkkmcaaGreatDoorShelf
import Derived.Test.YthdabkmkgkkmcaaGreatDoorPb01
import Derived.Test.YthdabkmkgkkmcaaGreatDoorPb16
set_option linter.unusedSimpArgs false
set_option linter.unusedVariables false
set_option maxRecDepth 100000
set_option maxHeartbeats 32000000
namespace Go.Proofs.YthdabkmkgkkmcaaGreatDoor
open Go.RowKit
def pad63 (acc:List Int):List Int:=acc ++ List.replicate (63 - acc.length) 0
def c63 (acc:List Int):Array Value:=((pad63 acc).map (Value.int .i64)).toArray
theorem zol {acc:List Int} (h:acc.length <= 63):(pad63 acc).length = 63:=by simp [pad63]; omega
theorem za2 {acc:List Int} (h:acc.length <= 63):(c63 acc).size = 63:=by simp [c63,zol h]
theorem zmn {acc:List Int} (h:acc.length < 63):pad63 (acc ++ [0]) = pad63 acc:=by
 unfold pad63
 rw [List.append_assoc,List.length_append,List.length_singleton,show 63 - acc.length = (63 - (acc.length + 1)) + 1 by omega,List.replicate_succ]
 rfl
theorem zok {acc:List Int} (h:acc.length < 63) (x:Int):(pad63 acc).set acc.length x = pad63 (acc ++ [x]):=by
 unfold pad63
 rw [List.set_append_right _ _ (by omega),Nat.sub_self,show 63 - acc.length = (63 - (acc.length + 1)) + 1 by omega,List.replicate_succ,List.set_cons_zero,List.append_assoc,List.length_append,List.length_singleton]
 rfl
theorem c63_set {acc:List Int} (h:acc.length < 63) (x:Int):(c63 acc).setIfInBounds acc.length (.int .i64 x) = c63 (acc ++ [x]):=by
 unfold c63
 rw [<- zok h x,List.map_set]
 simp
theorem zlz {acc:List Int} (h:acc.length < 63):c63 (acc ++ [0]) = c63 acc:=by unfold c63; rw [zmn h]
theorem c63_at {acc:List Int} {j:Nat} {x:Int} (h:acc[j]? = some x):(c63 acc)[j]? = some (.int .i64 x):=by
 have hj:=(List.getElem?_eq_some_iff.1 h).1
 unfold c63 pad63
 simp only [List.getElem?_toArray,List.getElem?_map]
 rw [List.getElem?_append_left hj,h]; rfl
theorem zfn (acc:List Int):(c63 acc).all (·.oneCell') = true:=by
 rw [Array.all_eq_true_iff_forall_mem]
 intro u hu
 simp only [c63,List.mem_toArray,List.mem_map] at hu
 obtain ⟨x,_,rfl⟩:=hu; rfl
abbrev cdF (B:Nat):Value:=.func (.func 105) #[] #[.pointer (some ⟨B + 2,0,none⟩),.pointer (some ⟨B,0,none⟩),.pointer (some ⟨B + 1,0,none⟩),.pointer (some ⟨B + 3,0,none⟩)]
structure CS (w0:World) (B:Nat) (v:Value) (acc:List Int) (W:World):Prop where
 below:Below B w0 W
 tr:Row W B 44 #[v]
 out:Row W (B + 1) 102 (c63 acc)
 num:Row W (B + 2) 3 #[.int .i64 acc.length]
 fn:Row W (B + 3) 127 #[cdF B]
theorem CS.drew {w0 W:World} {B:Nat} {v:Value} {acc:List Int} (h:CS w0 B v acc W):CS w0 B v acc W.drew:=⟨h.below.drew,h.tr,h.out,h.num,h.fn⟩
theorem CS.zero {w0 W:World} {B:Nat} {v:Value} {acc:List Int} (h:CS w0 B v acc W) (hl:acc.length < 63):CS w0 B v (acc ++ [0]) (W.setCell ⟨B + 2,0,none⟩ (.int .i64 ((acc.length:Int) + 1))):=by
 refine ⟨h.below.setCell (by show B <= B + 2; omega) _,h.tr.far (by show B ≠ B + 2; omega) _,?_,?_,h.fn.far (by show B + 3 ≠ B + 2; omega) _⟩
 ·rw [zlz hl]; exact h.out.far (by show B + 1 ≠ B + 2; omega) _
 ·have:=h.num.set 0 (.int .i64 ((acc.length:Int) + 1))
  simpa using this
theorem CS.put {w0 W:World} {B:Nat} {v:Value} {acc:List Int} (h:CS w0 B v acc W) (hl:acc.length < 63) (x:Int):CS w0 B v (acc ++ [x]) ((W.setCell ⟨B + 1,acc.length,none⟩ (.int .i64 x)).setCell ⟨B + 2,0,none⟩ (.int .i64 ((acc.length:Int) + 1))):=by
 refine ⟨(h.below.setCell (by show B <= B + 1; omega) _).setCell (by show B <= B + 2; omega) _,(h.tr.far (by show B ≠ B + 1; omega) _).far (by show B ≠ B + 2; omega) _,?_,?_,(h.fn.far (by show B + 3 ≠ B + 1; omega) _).far (by show B + 3 ≠ B + 2; omega) _⟩
 ·have:=(h.out.set acc.length (.int .i64 x)).far (p:=⟨B + 2,0,none⟩) (by show B + 1 ≠ B + 2; omega) (.int .i64 ((acc.length:Int) + 1))
  rwa [c63_set hl] at this
 ·have:=(h.num.far (p:=⟨B + 1,acc.length,none⟩) (by show B + 2 ≠ B + 1; omega) (.int .i64 x)).set 0 (.int .i64 ((acc.length:Int) + 1))
  simpa using this
def CSPost (w0:World) (B:Nat) (v:Value) (acc:List Int) (e:Ending) (W':World):Prop:=e = .returned (.tuple #[]) /\ CS w0 B v acc W'
theorem code_at (w0:World) (t:List Lf) (v:Value) (hv:TS w0 v t) (B:Nat) (hB0:w0.heap.size <= B) (hl:t.length <= 31):∀ (b:Bt) (p:Nat) (acc:List Int) (W:World),Seg t p b -> p + b.size <= t.length -> acc.length + b.code.length <= 63 ->
  CS w0 B v acc W -> Calls Tryz.prog 105 #[.int .i64 (b.at p),.pointer (some ⟨B + 2,0,none⟩),.pointer (some ⟨B,0,none⟩),.pointer (some ⟨B + 1,0,none⟩),.pointer (some ⟨B + 3,0,none⟩)] W (CSPost w0 B v (acc ++ b.code)):=by
 intro b
 induction b with
 | nil =>
  intro p acc W _ _ hlen hs
  have hlen1:acc.length + 1 <= 63:=by simpa [Bt.code] using hlen
  have HS:=zh hs
  have c1:_ = some _:=hs.num.cell 0
  have f1:=hs.num.free 0
  obtain ⟨m,hm⟩:=zx acc.length
  have HZ:=zh (hs.zero (by omega))
  rw [<- hm] at c1 hlen1 HZ
  clear hs hlen hm
  show Calls _ _ #[.int .i64 (-1),_,_,_,_] _ _
  go_enter Tryz.func105,Tryz.ntmps105
  go_wp2
  go_end0
  exact ⟨rfl,HZ.out⟩
 | node lab l r ihl ihr =>
  intro p acc W hseg hp hlen hs
  have hroot:=hseg.root
  have hat:(Bt.node lab l r).at p = (p:Int):=by unfold Bt.at; rw [if_neg (by simp only [Bt.size]; omega)]
  rw [hat]
  simp only [Bt.size] at hp
  have htl:(Bt.node lab l r).code.length = l.code.length + r.code.length + 1:=by simp [Bt.code]
  obtain ⟨F,hF⟩:=zx (acc ++ [1 + lab] ++ l.code ++ r.code)
  rw [show acc ++ (Bt.node lab l r).code = F by rw [hF]; simp [Bt.code]]
  rw [htl] at hlen
  have lbk:=hv.lb _ (List.mem_of_getElem? hroot)
  simp only at lbk
  have IHL:=zh (fun acc W (h1:acc.length + l.code.length <= 63) (h3:CS w0 B v acc W) => ihl (p + 1) acc W hseg.left (by omega) h1 h3)
  have IHR:=zh (fun acc W (h1:acc.length + r.code.length <= 63) (h3:CS w0 B v acc W) => ihr (p + 1 + l.size) acc W hseg.right (by omega) h1 h3)
  obtain ⟨cl,hcl⟩:=zx (l.at (p + 1))
  obtain ⟨cr,hcr⟩:=zx (r.at (p + 1 + l.size))
  rw [<- hcl] at IHL hroot
  rw [<- hcr] at IHR hroot
  obtain ⟨tl,htl2⟩:=zx l.code
  obtain ⟨tr,htr2⟩:=zx r.code
  rw [<- htl2] at IHL hlen hF
  rw [<- htr2] at IHR hlen hF
  obtain ⟨_,A,c,rfl,hc1,hc2,hcell⟩:=hv
  obtain ⟨bk,o,rfl,hbk,hcell⟩:=hcell (by omega)
  obtain ⟨c0,c1,c2⟩:=hcell p _ hroot
  simp only at c0 c1 c2
  obtain ⟨n,hn⟩:=zx t.length
  rw [<- hn] at hc1 hp hl IHL IHR hs ⊢
  have HCL:=zh (fun acc W (h:CS w0 B (.slice (some ⟨bk,o,none⟩) n c) acc W) => (show W.cell? ⟨B,0,none⟩ = some (.slice (some ⟨bk,o,none⟩) n c) /\ W.cell? ⟨B + 3,0,none⟩ = some (cdF B) /\ W.cell? ⟨bk,o + p * 3,none⟩ = some (.int .u8 lab) /\ W.cell? ⟨bk,o + p * 3 + 1,none⟩ = some (.int .i64 cl) /\ W.cell? ⟨bk,o + p * 3 + 2,none⟩ = some (.int .i64 cr) from
   ⟨h.tr.cell 0,h.fn.cell 0,(h.below.cell (p:=⟨bk,_,none⟩) (by show bk < B; omega)).trans c0,(h.below.cell (p:=⟨bk,_,none⟩) (by show bk < B; omega)).trans c1,(h.below.cell (p:=⟨bk,_,none⟩) (by show bk < B; omega)).trans c2⟩))
  obtain ⟨f1,f2,f3,f4,f5⟩:=HCL.out _ _ hs
  have g1:_ = some _:=hs.num.cell 0
  have g2:=hs.num.free 0
  have hlen1:acc.length < 63:=by omega
  obtain ⟨y,g3⟩:∃ y,W.cell? ⟨B + 1,acc.length,none⟩ = some y:=⟨(c63 acc)[acc.length]'(by rw [za2 (by omega)]; exact hlen1),by rw [hs.out.cell]; exact Array.getElem?_eq_getElem _⟩
  have g4:=hs.out.free acc.length
  have HP:=zh (hs.put hlen1 (1 + lab))
  obtain ⟨m,hm⟩:=zx acc.length
  have HM:=zh hm
  rw [<- hm] at g1 g3 g4 hlen1 hlen HP
  have HF:=zh hF
  clear hs hcell c0 c1 c2 hroot htl hat ihl ihr hseg hcl hcr htl2 htr2 hn hm hF
  have hpn:p < n:=by omega
  have hp1:((p:Int) == -1) = false:=by rw [beq_eq_false_iff_ne]; omega
  have hpi:(p:Int) < n:=by omega
  have hmi:(m:Int) < 63:=by omega
  have hpc:(p:Int) < c:=by omega
  go_enter Tryz.func105,Tryz.ntmps105
  go_wp2
  first | go_region | fail
  go_wp2
  refine zaa (CS w0 B (.slice (some ⟨bk,o,none⟩) n c) (acc ++ [1 + lab])) (by first | exact HP.out | exact HP.out.drew) ?_
  clear HP f1 f2 f3 f4 f5 g1 g2 g3 g4
  rintro W1 hs
  have HS1:=zh hs
  obtain ⟨f1,f2,f3,f4,f5⟩:=HCL.out _ _ hs
  clear hs
  have hlA:(acc ++ [1 + lab]).length + tl.length <= 63:=by rw [List.length_append,<- HM.out]; simp only [List.length_cons,List.length_nil]; omega
  have hlB:(acc ++ [1 + lab] ++ tl).length + tr.length <= 63:=by rw [List.length_append,List.length_append,<- HM.out]; simp only [List.length_cons,List.length_nil]; omega
  have HLA:=zh hlA; have HLB:=zh hlB
  clear hlA hlB
  first
  | go_region_held3 (fun W => W.cell? ⟨B + 3,0,none⟩ = some (cdF B) /\ W.cell? ⟨B,0,none⟩ = some (.slice (some ⟨bk,o,none⟩) n c) /\ W.cell? ⟨bk,o + p * 3 + 1,none⟩ = some (.int .i64 cl)) (first | exact ⟨f2,f1,f4⟩ | exact ⟨(HCL.out _ _ HS2.out).2.1,(HCL.out _ _ HS2.out).1,(HCL.out _ _ HS2.out).2.2.2.1⟩) (first | (go_at_call 105; (with_reducible refine (IHL.out _ _ HLA.out HS1.out.drew).mono ?_); rintro e W2 ⟨rfl,hs2⟩; have HS2:=zh hs2; clear hs2))
  | fail
  clear f1 f2 f3 f4 f5 HS1
  obtain ⟨f1,f2,f3,f4,f5⟩:=HCL.out _ _ HS2.out
  go_wp2_with fail
  first
  | go_region_held3 (fun W => W.cell? ⟨B + 3,0,none⟩ = some (cdF B) /\ W.cell? ⟨B,0,none⟩ = some (.slice (some ⟨bk,o,none⟩) n c) /\ W.cell? ⟨bk,o + p * 3 + 2,none⟩ = some (.int .i64 cr)) (first | exact ⟨f2,f1,f5⟩ | exact ⟨(HCL.out _ _ HS3.out).2.1,(HCL.out _ _ HS3.out).1,(HCL.out _ _ HS3.out).2.2.2.2⟩) (first | (go_at_call 105; (with_reducible refine (IHR.out _ _ HLB.out HS2.out.drew).mono ?_); rintro e W3 ⟨rfl,hs3⟩; have HS3:=zh hs3; clear hs3))
  | fail
  go_wp2_with fail
  go_end0
  exact ⟨rfl,by rw [HF.out]; exact HS3.out⟩
theorem zcs:(Tryz.prog.info? 102).map (·.size) = some 63:=by kernel_rfl
theorem zen {P:Program} {ops:Array Oper} {o:Oper} {a:Act} {w:World} {K:Act -> World -> Prop} {Q:Exit -> Act -> World -> Prop} {X:Prop} (hgd:o.guard = none) (ty:TypeId) (x:Operand) (ho:o.op = .load ty x)
  (g:Nat) (hx:a.eval x = .pointer (some ⟨g,0,none⟩)) (t:TypeId) (cs:Array Value) (fr:Nat × Nat) (d:TypeDesc) (hg:w.heap[g]? = some (.cells cs t fr))
  (hu:P.underlying ty = some d) (hd:(match d with | .struct _ | .array _ _ => true | _ => false) = true) (hi:(P.info? ty).map (·.size) = some cs.size)
  (h:K (a.put o.dst (.agg cs)) w):if Region.wanted o (yielded ops a.tmps) = true then Oper.wp P o a w K Q else X:=by
 have hw:Region.wanted o (yielded ops a.tmps) = true:=by simp [Region.wanted,hgd]
 rw [if_pos hw]
 exact wp_load_row ty x ho g hx t cs fr d hg hu hd hi h
theorem zhd {P:Program} {ops:Array Oper} {o:Oper} {a:Act} {w:World} {K:Act -> World -> Prop} {Q:Exit -> Act -> World -> Prop} {X:Prop} (hgd:o.guard = none) (ty:TypeId) (x y:Operand) (ho:o.op = .store ty x y)
  (g:Nat) (cells:Array Value) (hx:a.eval x = .pointer (some ⟨g,0,none⟩)) (hy:a.eval y = .agg cells)
  (t:TypeId) (old:Array Value) (hg:w.heap[g]? = some (.cells old t (0,0))) (hi:(P.info? ty).map (·.size) = some cells.size)
  (hold:old.size = cells.size) (h1:cells.all (·.oneCell') = true)
  (h:K (a.put o.dst undef) (w.setRow g cells)):if Region.wanted o (yielded ops a.tmps) = true then Oper.wp P o a w K Q else X:=by
 have hw:Region.wanted o (yielded ops a.tmps) = true:=by simp [Region.wanted,hgd]
 rw [if_pos hw]
 exact wp_store_row ty x y ho g cells hx hy t old hg hi hold h1 h
theorem zgm {w:World} {g:Nat} {cs:Array Value} {t:TypeId} (h:w.heap[g]? = some (.cells cs t (0,0))):w.setRow g cs = w:=by
 have hlt:g < w.heap.size:=(Array.getElem?_eq_some_iff.1 h).1
 have hv:w.heap[g] = .cells cs t (0,0):=(Array.getElem?_eq_some_iff.1 h).2
 unfold World.setRow
 cases w with
 | mk heap tape drawn os output =>
  congr 1
  apply Array.ext
  ·simp
  ·intro k h1 h2
   simp only [Array.getElem_modify]
   split
   ·rename_i hk; subst hk; simp at hv; simp [hv]
   ·rfl
theorem zcc {P:Program} {ops:Array Oper} {o:Oper} {a:Act} {w:World} {K:Act -> World -> Prop} {Q:Exit -> Act -> World -> Prop} {X:Prop} (hgd:o.guard = none) (ty:TypeId) (x y:Operand) (ho:o.op = .store ty x y)
  (g:Nat) (cells:Array Value) (hx:a.eval x = .pointer (some ⟨g,0,none⟩)) (hy:a.eval y = .agg cells)
  (t:TypeId) (hg:w.heap[g]? = some (.cells cells t (0,0))) (hi:(P.info? ty).map (·.size) = some cells.size) (h1:cells.all (·.oneCell') = true)
  (h:K (a.put o.dst undef) w):if Region.wanted o (yielded ops a.tmps) = true then Oper.wp P o a w K Q else X :=
 zhd hgd ty x y ho g cells hx hy t cells hg hi rfl h1 (by rw [zgm hg]; exact h)
theorem ze7 {P:Program} {ops:Array Oper} {rest:List Oper} {o:Oper} {a:Act} {w:World} {Q:Exit -> Act -> World -> Prop} (hgd:o.guard = none) (ty:TypeId) (x y:Operand) (ho:o.op = .store ty x y)
  (g:Nat) (cells:Array Value) (hx:a.eval x = .pointer (some ⟨g,0,none⟩)) (hy:a.eval y = .agg cells)
  (t:TypeId) (hg:w.heap[g]? = some (.cells cells t (0,0))) (hi:(P.info? ty).map (·.size) = some cells.size) (h1:cells.all (·.oneCell') = true)
  (h:wpList P ops Q rest (a.put o.dst undef) w):wpList P ops Q (o :: rest) a w :=
 wpList_store_row hgd ty x y ho g cells hx hy t cells hg hi rfl h1 (by rw [zgm hg]; exact h)
theorem zls (w:World) (v:Value) (Z:Array Value) (hZ:Z = c63 []):CS w w.heap.size v [] ((((w.alloc (.cells #[v] 44)).alloc (.cells Z 102)).alloc (.cells #[.int .i64 0] 3)).alloc (.cells #[cdF w.heap.size] 127)):=by
 subst hZ
 have r1:=Row.new w 44 #[v]
 have r2:=Row.new (w.alloc (.cells #[v] 44)) 102 (c63 [])
 have r3:=Row.new ((w.alloc (.cells #[v] 44)).alloc (.cells (c63 []) 102)) 3 #[.int .i64 0]
 have r4:=Row.new (((w.alloc (.cells #[v] 44)).alloc (.cells (c63 []) 102)).alloc (.cells #[.int .i64 0] 3)) 127 #[cdF w.heap.size]
 simp only [World.size_alloc] at r2 r3 r4
 refine ⟨((((Below.refl _ _).alloc zn _).alloc ?_ _).alloc ?_ _).alloc ?_ _,((r1.alloc _).alloc _).alloc _,(r2.alloc _).alloc _,r3.alloc _,r4⟩ <;> simp only [World.size_alloc] <;> omega
theorem zcn (tmps:Array Value) (w:World) (B n:Nat) (cs:Array Value) (h2:tmps.getD 2 undef = .pointer (some ⟨B + 1,0,none⟩)) (h3:tmps.getD 3 undef = .pointer (some ⟨B + 2,0,none⟩)) (hr:Row w (B + 1) 102 cs) (hs:cs.size = 63) (hn:w.cell? ⟨B + 2,0,none⟩ = some (.int .i64 n)) :
  (results Tryz.f62 tmps).run Tryz.prog w = .ok (.tuple #[.agg cs,.int .i64 n]) w:=by
 have h2':tmps[2]?.getD undef = .pointer (some ⟨B + 1,0,none⟩):=by simpa using h2
 have h3':tmps[3]?.getD undef = .pointer (some ⟨B + 2,0,none⟩):=by simpa using h3
 have hl:=run_loadVar_row (P:=Tryz.prog) w (B + 1) 102 102 cs (0,0) _ hr Tryz.underlying102 rfl (by rw [zcs,hs])
 have hl3:(loadVar 3 ⟨B + 2,0,none⟩).run Tryz.prog w = .ok (.int .i64 n) w:=by simp [go_sem,hn]
 simp [results,Tryz.results62,asAddr,h2',h3',hl,hl3]
theorem zlx (t:List Lf) (v:Value) (w:World) (hv:TS w v t) (hf:zae t = true) :
  Calls Tryz.prog 62 #[v] w fun e w' => e = .returned (.tuple #[.agg (c63 (btOf t).code),.int .i64 ((btOf t).code.length:Nat)]) /\ Below w.heap.size w w':=by
 obtain ⟨h31,hbs,hseg,_⟩:=zdh hf
 have HV:=zh hv
 obtain ⟨A,c,rfl⟩:=hv.form
 have u63:=Tryz.underlying102
 by_cases h0:t.length = 0
 ·have e1:(btOf t).code = [0]:=by rw [Bt.nil_of_size (b:=btOf t) (by omega)]; rfl
  have e2:c63 [0] = c63 []:=zlz (acc:=[]) (by simp)
  rw [e1,e2]
  rw [h0] at HV ⊢
  clear e1 e2 hbs hseg h31 hf hv h0
  go_enter Tryz.func62,Tryz.ntmps62
  go_upto_region 4 with (fail)
  refine zaa (CS w w.heap.size (.slice A 0 c) []) (zls w _ _ rfl) ?_
  rintro W1 hs
  have HS:=zh hs
  have g2:W1.cell? ⟨w.heap.size + 1 + 1,0,none⟩ = some (.int .i64 0):=hs.num.cell 0
  have g3:W1.frozen? ⟨w.heap.size + 1 + 1,0,none⟩ = false:=hs.num.free 0
  have G1:=zh (show W1.heap[w.heap.size + 1]? = some (.cells (c63 []) 102 (0,0)) from hs.out)
  clear hs
  go_wp2_with (first
   | (refine wpList_load_row rfl 102 (.tmp 2) rfl (w.heap.size + 1) rfl 102 (c63 []) (0,0) _ G1.out u63 rfl (by rw [zcs,za2 (by simp)]) ?_)
   | (refine ze7 rfl 102 (.tmp 2) (.tmp 9) rfl (w.heap.size + 1) (c63 []) rfl rfl 102 G1.out (by rw [zcs,za2 (by simp)]) (zfn []) ?_))
  exact bodyPost_ret (zcn _ _ w.heap.size 1 (c63 []) rfl rfl (HS.out.out.far (p:=⟨w.heap.size + 2,0,none⟩) (by show w.heap.size + 1 ≠ w.heap.size + 2; omega) _) (za2 (by simp)) ((HS.out.num.set 0 _).cell 0)) rfl ⟨rfl,HS.out.below.setCell (by show w.heap.size <= w.heap.size + 1 + 1; omega) _⟩
 ·have hat:(btOf t).at 0 = 0:=by unfold Bt.at; rw [if_neg (by omega)]; rfl
  have hlen:(btOf t).code.length <= 63:=by rw [Bt.code_len]; omega
  have hcd:=fun W (h:CS w w.heap.size (.slice A t.length c) [] W) => code_at w t _ hv w.heap.size zn h31 (btOf t) 0 [] W hseg (by omega) (by simpa using hlen) h
  rw [hat,List.nil_append] at hcd
  obtain ⟨tx,htx⟩:=zx ((btOf t).code)
  rw [<- htx] at hcd hlen ⊢
  obtain ⟨n,hn⟩:=zx t.length
  rw [<- hn] at hcd hv HV h0 h31 ⊢
  have HCD:=zh hcd
  have hn0:((n:Int) == 0) = false:=by rw [beq_eq_false_iff_ne]; omega
  clear hcd hat htx hn hbs hseg hf h0
  go_enter Tryz.func62,Tryz.ntmps62
  go_wp2_with fail
  (refine (HCD.out _ (zls w _ _ rfl)).mono ?_)
  rintro e W1 ⟨rfl,hs⟩
  have HS:=zh hs
  have g1:W1.heap[w.heap.size + 1]? = some (.cells (c63 tx) 102 (0,0)):=hs.out
  have g2:W1.cell? ⟨w.heap.size + 1 + 1,0,none⟩ = some (.int .i64 tx.length):=hs.num.cell 0
  have g3:W1.frozen? ⟨w.heap.size + 1 + 1,0,none⟩ = false:=hs.num.free 0
  have G1:=zh g1
  clear hs g1
  go_wp2_with fail
  refine wp_region_any (by kernel_rfl) ?_
  refine wpAny_ready (rs:=[0,1]) (by kernel_rfl) (by simp) ?_
  refine AllReady.cons rfl (fun K hK => ?_) (AllReady.cons rfl (fun K hK => ?_) AllReady.nil)
  ·refine zen rfl 102 (.tmp 2) rfl (w.heap.size + 1) rfl 102 (c63 tx) (0,0) _ G1.out u63 rfl (by rw [zcs,za2 hlen]) ?_
   refine hK _ _ ?_
   clear hK K
   refine wpAny_ready (rs:=[1,2]) (by kernel_rfl) (by simp) ?_
   refine AllReady.cons rfl (fun K hK => ?_) (AllReady.cons rfl (fun K hK => ?_) AllReady.nil)
   ·go_simp
    refine hK _ _ ?_
    clear hK K
    refine wpAny_ready (rs:=[2]) (by kernel_rfl) (by simp) ?_
    refine AllReady.cons rfl (fun K hK => ?_) AllReady.nil
    refine zcc rfl 102 (.tmp 2) (.tmp 12) rfl (w.heap.size + 1) (c63 tx) rfl rfl 102 G1.out (by rw [zcs,za2 hlen]) (zfn tx) ?_
    refine hK _ _ ?_
    clear hK K
    refine wpAny_ready (rs:=[3]) (by kernel_rfl) (by simp) ?_
    refine AllReady.cons rfl (fun K hK => ?_) AllReady.nil
    go_simp
    refine hK _ _ ?_
    clear hK K
    refine wpAny_done (by kernel_rfl) ?_ _
    go_wp2_with fail
    exact bodyPost_ret (zcn _ _ w.heap.size tx.length (c63 tx) rfl rfl (HS.out.out.far (p:=⟨w.heap.size + 2,0,none⟩) (by show w.heap.size + 1 ≠ w.heap.size + 2; omega) _) (za2 hlen) ((HS.out.num.set 0 _).cell 0)) rfl ⟨rfl,(HS.out.below.setCell (by show w.heap.size <= w.heap.size + 1 + 1; omega) _).drew⟩
   ·refine zcc rfl 102 (.tmp 2) (.tmp 12) rfl (w.heap.size + 1) (c63 tx) rfl rfl 102 G1.out (by rw [zcs,za2 hlen]) (zfn tx) ?_
    refine hK _ _ ?_
    clear hK K
    refine wpAny_ready (rs:=[1]) (by kernel_rfl) (by simp) ?_
    refine AllReady.cons rfl (fun K hK => ?_) AllReady.nil
    go_simp
    refine hK _ _ ?_
    clear hK K
    refine wpAny_ready (rs:=[3]) (by kernel_rfl) (by simp) ?_
    refine AllReady.cons rfl (fun K hK => ?_) AllReady.nil
    go_simp
    refine hK _ _ ?_
    clear hK K
    refine wpAny_done (by kernel_rfl) ?_ _
    go_wp2_with fail
    exact bodyPost_ret (zcn _ _ w.heap.size tx.length (c63 tx) rfl rfl (HS.out.out.far (p:=⟨w.heap.size + 2,0,none⟩) (by show w.heap.size + 1 ≠ w.heap.size + 2; omega) _) (za2 hlen) ((HS.out.num.set 0 _).cell 0)) rfl ⟨rfl,(HS.out.below.setCell (by show w.heap.size <= w.heap.size + 1 + 1; omega) _).drew⟩
  ·go_simp
   refine hK _ _ ?_
   clear hK K
   refine wpAny_ready (rs:=[0]) (by kernel_rfl) (by simp) ?_
   refine AllReady.cons rfl (fun K hK => ?_) AllReady.nil
   refine zen rfl 102 (.tmp 2) rfl (w.heap.size + 1) rfl 102 (c63 tx) (0,0) _ G1.out u63 rfl (by rw [zcs,za2 hlen]) ?_
   refine hK _ _ ?_
   clear hK K
   refine wpAny_ready (rs:=[2]) (by kernel_rfl) (by simp) ?_
   refine AllReady.cons rfl (fun K hK => ?_) AllReady.nil
   refine zcc rfl 102 (.tmp 2) (.tmp 12) rfl (w.heap.size + 1) (c63 tx) rfl rfl 102 G1.out (by rw [zcs,za2 hlen]) (zfn tx) ?_
   refine hK _ _ ?_
   clear hK K
   refine wpAny_ready (rs:=[3]) (by kernel_rfl) (by simp) ?_
   refine AllReady.cons rfl (fun K hK => ?_) AllReady.nil
   go_simp
   refine hK _ _ ?_
   clear hK K
   refine wpAny_done (by kernel_rfl) ?_ _
   go_wp2_with fail
   exact bodyPost_ret (zcn _ _ w.heap.size tx.length (c63 tx) rfl rfl (HS.out.out.far (p:=⟨w.heap.size + 2,0,none⟩) (by show w.heap.size + 1 ≠ w.heap.size + 2; omega) _) (za2 hlen) ((HS.out.num.set 0 _).cell 0)) rfl ⟨rfl,(HS.out.below.setCell (by show w.heap.size <= w.heap.size + 1 + 1; omega) _).drew⟩
theorem zi1 (x y:Int):Lib.compareInt x y = cmpI x y:=by
 unfold Lib.compareInt cmpI
 repeat' split
 all_goals omega
theorem zpz (x y:Int) (w:World):Calls Tryz.prog 64 #[.int .i64 x,.int .i64 y] w fun e w' => e = .returned (.int .i64 (cmpI x y)) /\ w = w' :=
 (Tryz.cmp_Compare_int x y w).mono fun e w' ⟨he,hw⟩ => ⟨by rw [he,zi1],hw.symm⟩
theorem zi0 {f:List Int} {k:Nat} {x:Int} (h:f[k]? = some x):f.drop k = x :: f.drop (k + 1):=by
 have hk:=(List.getElem?_eq_some_iff.1 h).1
 rw [List.drop_eq_getElem_cons hk,(List.getElem?_eq_some_iff.1 h).2]
theorem zjv (f g:List Int) (v u:Value) (w:World) (hv:IS w v f) (hu:IS w u g) :
  Calls Tryz.prog 65 #[v,u] w fun e w' => e = .returned (.int .i64 (cmpL f g)) /\ w = w':=by
 obtain ⟨A,c,rfl,hc1,hc2,hcell⟩:=hv
 obtain ⟨A2,d,rfl,hd1,hd2,hdell⟩:=hu
 obtain ⟨R,hR⟩:=zx (cmpL f g)
 rw [<- hR]
 obtain ⟨n,hn⟩:=zx f.length
 obtain ⟨m,hm⟩:=zx g.length
 rw [<- hn] at hc1 hcell ⊢
 rw [<- hm] at hd1 hdell ⊢
 have HN:=zh hn; have HM:=zh hm; have HR:=zh hR; have HC:=zh hcell; have HD:=zh hdell
 clear hn hm hR hcell hdell
 go_enter Tryz.func65,Tryz.ntmps65
 go_wp2
 go_loopg [11] n (fun gk q wr => ∃ k:Nat,k <= n /\ k <= m /\ gk = n - k /\ q = .int .i64 k /\ w = wr /\ cmpL (f.drop k) (g.drop k) = R)
 case atStart => exact ⟨0,Nat.zero_le _,Nat.zero_le _,rfl,rfl,rfl,HR.out.symm⟩
 case round =>
  obtain ⟨k,hk,hkm,rfl,rfl,rfl,hacc⟩:=hrel
  have HA:=zh hacc; clear hacc
  by_cases hlt:k < n
  ·obtain ⟨x,hx⟩:∃ x,f[k]? = some x:=⟨f[k]'(by rw [<- HN.out]; exact hlt),List.getElem?_eq_getElem _⟩
   obtain ⟨b,o,rfl,hb,hcell⟩:=HC.out (by omega)
   have c0:=hcell k x hx
   have HX:=zh hx
   clear hcell hx
   by_cases hlm:k < m
   ·obtain ⟨y,hy⟩:∃ y,g[k]? = some y:=⟨g[k]'(by rw [<- HM.out]; exact hlm),List.getElem?_eq_getElem _⟩
    obtain ⟨b2,o2,rfl,hb2,hdell⟩:=HD.out (by omega)
    have c1:=hdell k y hy
    have HY:=zh hy
    clear hdell hy
    have HCM:=zh (fun W => zpz x y W)
    have hst:R = if cmpI x y = 0 then cmpL (f.drop (k + 1)) (g.drop (k + 1)) else cmpI x y:=by
     rw [<- HA.out,zi0 HX.out,zi0 HY.out]; rfl
    have HST:=zh hst
    obtain ⟨z,hz⟩:=zx (cmpI x y)
    rw [<- hz] at HCM HST
    clear hst hz HA
    by_cases hz0:z = 0
    ·subst hz0
     rw [if_pos rfl] at HST
     go_wp2_with (go_at_call 64; go_must (refine (HCM.out _).mono ?_; rintro e w2 ⟨rfl,rfl⟩))
     go_roundg (n - (k + 1))
     case rel => exact ⟨k + 1,by omega,by omega,rfl,by go_num,rfl,HST.out.symm⟩
     case measure => omega
    ·rw [if_neg hz0] at HST
     have hzb:(z != 0) = true:=by simp [hz0]
     have HST2:=zh HST.out
     clear HST hz0
     go_wp2_with (go_at_call 64; go_must (refine (HCM.out _).mono ?_; rintro e w2 ⟨rfl,rfl⟩))
     go_returns
     exact ⟨ret_i HST2.out,rfl⟩
   ·have hst:R = 1:=by
     have e:g.drop k = []:=List.drop_eq_nil_of_le (by rw [<- HM.out]; omega)
     rw [<- HA.out,zi0 HX.out,e]; rfl
    have HST:=zh hst
    have hmk:(m:Int) <= (k:Int):=by omega
    clear hst HA
    go_wp2
    go_returns
    exact ⟨ret_i HST.out,rfl⟩
  ·have hkn:k = n:=by omega
   have hst:R = if n < m then -1 else 0:=by
    have e:f.drop k = []:=List.drop_eq_nil_of_le (by rw [<- HN.out]; omega)
    rw [<- HA.out,e]
    by_cases h:n < m
    ·rw [if_pos h]
     obtain ⟨y,hy⟩:∃ y,g[k]? = some y:=⟨g[k]'(by rw [<- HM.out]; omega),List.getElem?_eq_getElem _⟩
     rw [zi0 hy]; rfl
    ·have e2:g.drop k = []:=List.drop_eq_nil_of_le (by rw [<- HM.out]; omega)
     rw [if_neg h,e2]; rfl
   have HST:=zh hst
   clear hst HA hkn
   by_cases h:n < m
   ·rw [if_pos h] at HST
    have hi:(n:Int) < m:=by omega
    go_wp2
    go_returns
    exact ⟨ret_i HST.out,rfl⟩
   ·rw [if_neg h] at HST
    have hi:(m:Int) <= n:=by omega
    go_wp2
    go_returns
    exact ⟨ret_i HST.out,rfl⟩
theorem or_two (x y:Int) (gs:Nat) (w:World) (h:Row w gs 3 #[.int .i64 x,.int .i64 y]) :
  Calls Tryz.prog 63 #[.slice (some ⟨gs,0,none⟩) 2 2] w fun e w' => e = .returned (.int .i64 (if x = 0 then y else x)) /\ w = w':=by
 have c0:_ = some _:=h.cell 0
 have c1:_ = some _:=h.cell 1
 obtain ⟨R,hR⟩:=zx (if x = 0 then y else x)
 rw [<- hR]
 clear h
 by_cases hx:x = 0
 ·rw [if_pos hx] at hR
  subst hx
  by_cases hy:y = 0
  ·subst hy
   subst hR
   go_enter Tryz.func63,Tryz.ntmps63
   go_wp2
   refine wp_loop_rounds 3 ?_
   rw [rounds_succ]
   go_wp2
   rw [rounds_succ]
   go_wp2
   rw [rounds_succ]
   go_wp2
   go_returns
   exact ⟨rfl,rfl⟩
  ·have hyb:(y != 0) = true:=by simp [hy]
   have HR:=zh hR; clear hR hy
   go_enter Tryz.func63,Tryz.ntmps63
   go_wp2
   refine wp_loop_rounds 3 ?_
   rw [rounds_succ]
   go_wp2
   rw [rounds_succ]
   go_wp2
   go_returns
   exact ⟨ret_i HR.out,rfl⟩
 ·rw [if_neg hx] at hR
  have hxb:(x != 0) = true:=by simp [hx]
  have HR:=zh hR; clear hR hx
  go_enter Tryz.func63,Tryz.ntmps63
  go_wp2
  refine wp_loop_rounds 3 ?_
  rw [rounds_succ]
  go_wp2
  go_returns
  exact ⟨ret_i HR.out,rfl⟩
theorem zpg {W:World} {g:Nat} {x:List Int} (h:Row W g 102 (c63 x)) (hl:x.length <= 63):IS W (.slice (some ⟨g,0,none⟩) x.length 63) x :=
 ⟨some ⟨g,0,none⟩,63,rfl,hl,by omega,fun _ => ⟨g,0,rfl,h.lt,fun i y hi => by rw [h.cell,Nat.zero_add]; exact c63_at hi⟩⟩
theorem zng {P:Program} {f:FuncId} {args:Array Value} {w:World} {R:Ending -> World -> Prop} (F:World -> Prop) (hF:F w) (hk:∀ W,F W -> Calls P f args W R):Calls P f args w R:=hk w hF
theorem zdx {B:Nat} {a w:World} {g:Nat} {cs:Array Value} (h:Below B a w) (hg:B <= g):Below B a (w.setRow g cs) :=
 ⟨h.os,h.tape,h.output,by rw [size_setRow]; exact h.size,fun k hk => (setRow_other w g k cs (by omega)).trans (h.block k hk)⟩
theorem zgp (w:World) (Z cs:Array Value) (t:TypeId):Row ((w.alloc (.cells Z t)).setRow w.heap.size cs) w.heap.size t cs:=setRow_heap _ _ Z _ _ _ (heap_alloc_new w _)
theorem zlw (b:Bt):0 < b.code.length:=by rw [Bt.code_len]; omega
theorem zk1 (s t:List Lf) (v u:Value) (w:World) (hv:TS w v s) (hu:TS w u t) :
  Calls Tryz.prog 27 #[v,u] w fun e w' => e = .returned (.int .i64 (ze0 s t)) /\ Below w.heap.size w w':=by
 have HV:=zh hv
 have HU:=zh hu
 have HFS:=zh (fun W (hW:TS W v s) => zcg s v W hW)
 have HFT:=zh (fun W (hW:TS W u t) => zcg t u W hW)
 obtain ⟨A,c,rfl⟩:=hv.form
 obtain ⟨A2,d,rfl⟩:=hu.form
 obtain ⟨R,hR⟩:=zx (ze0 s t)
 rw [<- hR]
 unfold ze0 at hR
 have u63:=Tryz.underlying102
 have hnil:zae [] = true:=rfl
 obtain ⟨sv,hsv⟩:=zx (if zae s = true then Value.slice A s.length c else .slice none 0 0)
 obtain ⟨tv,htv⟩:=zx (if zae t = true then Value.slice A2 t.length d else .slice none 0 0)
 have fs:zae (nf s) = true:=by unfold nf; split <;> simp_all
 have ft:zae (nf t) = true:=by unfold nf; split <;> simp_all
 have hs31:=(zdh fs).1
 have ht31:=(zdh ft).1
 have lx:(btOf (nf s)).code.length <= 63:=by rw [Bt.code_len,(zdh fs).2.1]; omega
 have ly:(btOf (nf t)).code.length <= 63:=by rw [Bt.code_len,(zdh ft).2.1]; omega
 have HSV:Hid (∀ W,TS W (.slice A s.length c) s -> TS W sv (nf s)):=fun W h => by
  rw [hsv]; unfold nf
  by_cases hf:zae s = true
  ·rw [if_pos hf,if_neg (by simp [hf])]; exact h
  ·rw [if_neg hf,if_pos (by simpa using hf)]; exact TS.nil _
 have HTV:Hid (∀ W,TS W (.slice A2 t.length d) t -> TS W tv (nf t)):=fun W h => by
  rw [htv]; unfold nf
  by_cases hf:zae t = true
  ·rw [if_pos hf,if_neg (by simp [hf])]; exact h
  ·rw [if_neg hf,if_pos (by simpa using hf)]; exact TS.nil _
 have HCS:=zh (fun W (h:TS W sv (nf s)) => zlx (nf s) sv W h fs)
 have HCT:=zh (fun W (h:TS W tv (nf t)) => zlx (nf t) tv W h ft)
 obtain ⟨x,hx⟩:=zx ((btOf (nf s)).code)
 obtain ⟨y,hy⟩:=zx ((btOf (nf t)).code)
 have px:0 < x.length:=by rw [hx]; exact zlw _
 have py:0 < y.length:=by rw [hy]; exact zlw _
 obtain ⟨ns,hns⟩:=zx ((nf s).length)
 obtain ⟨nt,hnt⟩:=zx ((nf t).length)
 rw [<- hx] at hR HCS lx
 rw [<- hy] at hR HCT ly
 rw [<- hns] at hR hs31
 rw [<- hnt] at hR ht31
 have HR:=zh hR
 have HF1:Hid (sv = Value.slice (if zae s = true then A else none) ns (if zae s = true then c else 0)):=by
  rw [Hid,hsv,hns]; unfold nf
  by_cases hf:zae s = true
  ·rw [if_pos hf,if_pos hf,if_pos hf,if_neg (by simp [hf])]
  ·rw [if_neg hf,if_neg hf,if_neg hf,if_pos (by simpa using hf)]; rfl
 have HF2:Hid (tv = Value.slice (if zae t = true then A2 else none) nt (if zae t = true then d else 0)):=by
  rw [Hid,htv,hnt]; unfold nf
  by_cases hf:zae t = true
  ·rw [if_pos hf,if_pos hf,if_pos hf,if_neg (by simp [hf])]
  ·rw [if_neg hf,if_neg hf,if_neg hf,if_pos (by simpa using hf)]; rfl
 obtain ⟨m,hm⟩:=zx x.length
 obtain ⟨k,hk⟩:=zx y.length
 have HM:=zh hm; have HK:=zh hk
 rw [<- hm] at lx px
 rw [<- hk] at ly py
 have hmi:(m:Int) <= 63:=by omega
 have hki:(k:Int) <= 63:=by omega
 have HCMP:=zh (fun W => zpz (ns:Int) (nt:Int) W)
 have HSL:=zh (fun W v u (h1:IS W v x) (h2:IS W u y) => zjv x y v u W h1 h2)
 obtain ⟨z1,hz1⟩:=zx (cmpI (ns:Int) (nt:Int))
 obtain ⟨z2,hz2⟩:=zx (cmpL x y)
 rw [<- hz1] at HCMP HR
 rw [<- hz2] at HSL HR
 have HOR:=zh (fun gs W h => or_two z1 z2 gs W h)
 rw [<- HR.out] at HOR
 have HCX:=zh (za2 (acc:=x) (by rw [<- hm]; exact lx))
 have HCY:=zh (za2 (acc:=y) (by rw [<- hk]; exact ly))
 rw [<- hm] at HCS
 rw [<- hk] at HCT
 have e1:zae s = false -> ns = 0:=fun h => by rw [hns]; unfold nf; rw [if_pos h]; rfl
 have e2:zae t = false -> nt = 0:=fun h => by rw [hnt]; unfold nf; rw [if_pos h]; rfl
 have e3:zae s = true -> s.length = ns:=fun h => by rw [hns]; unfold nf; rw [if_neg (by simp [h])]
 have e4:zae t = true -> t.length = nt:=fun h => by rw [hnt]; unfold nf; rw [if_neg (by simp [h])]
 clear hR fs ft hx hy hns hnt hz1 hz2 hm hk hnil
 cases hf1:zae s <;> cases hf2:zae t
 all_goals
  rw [hf1] at HFS HF1
  rw [hf2] at HFT HF2
  simp only [if_true,if_false,Bool.false_eq_true,if_pos,if_neg] at HF1 HF2
  have hse:=HF1.out
  have hte:=HF2.out
  rw [hse] at HCS HSV
  rw [hte] at HCT HTV
  clear hse hte HF1 HF2 hsv htv sv tv hv hu
  first
  | (have q:=e1 hf1; subst q; have q:w = w:=rfl)
  | (have q:=e3 hf1; rw [q] at HV HFS HSV ⊢)
  clear q
  first
  | (have q:=e2 hf2; subst q; have q:w = w:=rfl)
  | (have q:=e4 hf2; rw [q] at HU HFT HTV ⊢)
  clear q e1 e2 e3 e4 hf1 hf2
  go_enter Tryz.func27,Tryz.ntmps27
  go_wp2_with (first
   | (go_at_call 61; (with_reducible refine (HFS.out _ HV.out).mono ?_); rintro e w1 ⟨rfl,hb1⟩; have HB:=zh hb1; clear hb1)
   | (go_at_call 61; (with_reducible refine (HFT.out _ (HU.out.below HB.out zn)).mono ?_); rintro e w2 ⟨rfl,hb1⟩; replace HB:=zh (HB.out.trans (hb1.mono HB.out.size)); clear hb1))
  (with_reducible refine (HCS.out _ (HSV.out _ (HV.out.below HB.out zn))).mono ?_)
  rintro e w3 ⟨rfl,hb3⟩
  replace HB:=zh (HB.out.trans (hb3.mono HB.out.size))
  clear hb3
  have hz3:=HB.out.size
  go_wp2_with (refine wpList_store_row rfl 102 (.tmp 5) (.tmp 18) rfl w3.heap.size (c63 x) rfl rfl 102 _ (heap_alloc_new w3 _) (by rw [zcs,HCX.out]) (by rw [HCX.out]; rfl) (zfn x) ?_)
  have hbA:Below w.heap.size w ((w3.alloc (.cells (c63 []) 102)).setRow w3.heap.size (c63 x)):=zdx (HB.out.alloc hz3 _) hz3
  have hrA:Row ((w3.alloc (.cells (c63 []) 102)).setRow w3.heap.size (c63 x)) w3.heap.size 102 (c63 x):=zgp _ _ _ _
  refine zng (fun W => Row W w3.heap.size 102 (c63 x) /\ Below w.heap.size w W) ⟨hrA,hbA⟩ ?_
  clear hbA hrA HB
  rintro W4 ⟨hr4,hb4⟩
  have HR4:=zh hr4; have HB:=zh hb4
  clear hr4 hb4
  (with_reducible refine (HCT.out _ (HTV.out _ (HU.out.below HB.out zn))).mono ?_)
  rintro e w5 ⟨rfl,hb5⟩
  replace HB:=zh (HB.out.trans (hb5.mono HB.out.size))
  replace HR4:=zh (HR4.out.below hb5 HR4.out.lt)
  have hz5:=HB.out.size
  clear hb5
  go_wp2_with (refine wpList_store_row rfl 102 (.tmp 7) (.tmp 23) rfl w5.heap.size (c63 y) rfl rfl 102 _ (heap_alloc_new w5 _) (by rw [zcs,HCY.out]) (by rw [HCY.out]; rfl) (zfn y) ?_)
  have hbB:Below w.heap.size w ((w5.alloc (.cells (c63 []) 102)).setRow w5.heap.size (c63 y)):=zdx (HB.out.alloc hz5 _) hz5
  have hrB:Row ((w5.alloc (.cells (c63 []) 102)).setRow w5.heap.size (c63 y)) w5.heap.size 102 (c63 y):=zgp _ _ _ _
  have hrC:Row ((w5.alloc (.cells (c63 []) 102)).setRow w5.heap.size (c63 y)) w3.heap.size 102 (c63 x):=HR4.out.below (B:=w5.heap.size) (zdx ((Below.refl _ _).alloc zn _) zn) HR4.out.lt
  refine zaa (fun W => Row W w3.heap.size 102 (c63 x) /\ Row W w5.heap.size 102 (c63 y) /\ Below w.heap.size w W) ⟨hrC,hrB,hbB⟩ ?_
  clear hbB hrB hrC HB HR4
  rintro W6 ⟨hr1,hr2,hb6⟩
  have HI1:Hid (IS W6.drew (.slice (some ⟨w3.heap.size,0,none⟩) m 63) x):=by
   have q:=zpg (W:=W6.drew) (x:=x) (show Row W6.drew w3.heap.size 102 (c63 x) from hr1) (by rw [<- HM.out]; exact lx)
   rw [<- HM.out] at q; exact q
  have HI2:Hid (IS W6.drew (.slice (some ⟨w5.heap.size,0,none⟩) k 63) y):=by
   have q:=zpg (W:=W6.drew) (x:=y) (show Row W6.drew w5.heap.size 102 (c63 y) from hr2) (by rw [<- HK.out]; exact ly)
   rw [<- HK.out] at q; exact q
  have HB6:=zh hb6
  have hz6:=hb6.size
  try rw [show ((0:Nat):Int) = 0 from rfl] at HCMP
  clear hr1 hr2 hb6
  first
  | go_region_law (first
    | (go_simp; go_at_call 64; refine (HCMP.out _).mono ?_; rintro e wq ⟨rfl,rfl⟩; try go_simp)
    | (go_simp; go_at_call 65; refine (HSL.out _ _ _ HI1.out HI2.out).mono ?_; rintro e wq ⟨rfl,rfl⟩; try go_simp)
    | (go_simp; go_at_call 63; refine (HOR.out _ _ (by first | exact Row.new _ _ _ | exact Row.litd rfl)).mono ?_; rintro e wq ⟨rfl,rfl⟩; try go_simp))
  | fail
  all_goals
   go_wp2_with fail
   go_returns
   exact ⟨rfl,by have h1:=HB6.out; go_grown⟩
end Go.Proofs.YthdabkmkgkkmcaaGreatDoor
