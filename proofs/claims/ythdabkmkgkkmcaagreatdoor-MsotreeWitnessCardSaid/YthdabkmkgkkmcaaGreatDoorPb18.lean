/- Part 18 of the proof; it says: lemmas and contracts. No conditions but those that each theorem states. -/
import Derived.Test.YthdabkmkgkkmcaaGreatDoorPb01
import Derived.Test.YthdabkmkgkkmcaaGreatDoorPb05
import Derived.Test.YthdabkmkgkkmcaaGreatDoorPb11
import Derived.Test.YthdabkmkgkkmcaaGreatDoorPb15
import Derived.Test.YthdabkmkgkkmcaaGreatDoorPb16
import Derived.Test.YthdabkmkgkkmcaaGreatDoorPb17
set_option linter.unusedSimpArgs false
set_option linter.unusedVariables false
set_option linter.unusedSectionVars false
set_option maxRecDepth 100000
set_option maxHeartbeats 32000000
namespace Go.Proofs.YthdabkmkgkkmcaaGreatDoor
open Go.RowKit
theorem eF:EltK 158 161 2 32:=EltK.mk' (by kernel_rfl) (.agg #[.slice none 0 0,.bool false]) (by kernel_rfl) rfl (by omega) (by omega)
theorem eFF:Elt 157 158 (.slice none 0 0) 24:=⟨by kernel_rfl,by kernel_rfl,by omega,rfl⟩
theorem zlr {k:Nat}:∀ {ls:List (List Value)},(∀ l ∈ ls,l.length = k) -> ∀ {i j:Nat} {l:List Value} (u:Value),ls[i]? = some l -> j < k -> ls.flatten.set (i * k + j) u = (ls.set i (l.set j u)).flatten
 | [],_,i,j,l,u,h,_ => by simp at h
 | a :: ls,hk,i,j,l,u,h,hj => by
  have ha:=hk a (by simp)
  cases i with
  | zero =>
   simp only [List.getElem?_cons_zero,Option.some.injEq] at h
   subst h
   rw [List.flatten_cons,Nat.zero_mul,Nat.zero_add,List.set_append_left _ _ (by omega)]
   rfl
  | succ i =>
   rw [List.flatten_cons,List.set_append_right _ _ (by rw [ha,Nat.succ_mul]; omega),ha]
   have e:(i + 1) * k + j - k = i * k + j:=by rw [Nat.succ_mul]; omega
   rw [e,zlr (fun x hx => hk x (by simp [hx])) u (by simpa using h) hj]
   rfl
theorem KO.store {E:TypeId} {k:Nat} {w:World} {B g n cap:Nat} {ls:List (List Value)} (h:KO E k w B (.slice (some ⟨g,0,none⟩) n cap) ls) (hn:ls.length = n) {i j:Nat} {l:List Value} (hl:ls[i]? = some l) (hj:j < k) (u:Value) (hu:u.oneCell' = true) :
  KO E k (w.setCell ⟨g,i * k + j,none⟩ u) B (.slice (some ⟨g,0,none⟩) n cap) (ls.set i (l.set j u)):=by
 obtain ⟨h0,h1⟩:=h
 subst hn
 have hs:=(h1.stored (i * k + j) u).1
 refine ⟨fun a ha => ?_,?_⟩
 ·rcases List.mem_or_eq_of_mem_set ha with h | h
  ·exact h0 a h
  ·rw [h]
   refine ⟨by rw [List.length_set]; exact (h0 l (List.mem_of_getElem? hl)).1,fun x hx => ?_⟩
   rcases List.mem_or_eq_of_mem_set hx with h | h
   ·exact (h0 l (List.mem_of_getElem? hl)).2 x h
   ·rw [h]; exact hu
 ·rw [List.length_set,<- zlr (fun x hx => (h0 x hx).1) u hl hj]
  exact hs
theorem TO.keepRow {w w':World} {B g:Nat} {E:TypeId} {cs:Array Value} {v:Value} {f:List Lf} (h:TO w B v f) (hr:Row w g E cs) (hE:E ≠ 97) (hk:∀ b,b < w.heap.size -> b ≠ g -> w'.heap[b]? = w.heap[b]?):TO w' B v f:=by
 obtain ⟨h0,h1,h⟩:=h
 refine ⟨h0,h1,?_⟩
 rcases h with h | ⟨g1,cap,cur,hv,hBg,hgg,r⟩
 ·exact .inl h
 ·refine .inr ⟨g1,cap,cur,hv,hBg,(hk g1 (lt_of_block hgg) (fun e => ?_)).trans hgg,r⟩
  subst e
  unfold Row at hr
  rw [hr] at hgg
  simp only [Option.some.injEq,Obj.cells.injEq] at hgg
  exact hE hgg.2.1
theorem TO.setRow {w:World} {B g:Nat} {E:TypeId} {cs:Array Value} {v:Value} {f:List Lf} (h:TO w B v f) (hr:Row w g E cs) (hE:E ≠ 97) (i:Nat) (u:Value):TO (w.setCell ⟨g,i,none⟩ u) B v f :=
 h.keepRow hr hE fun b _ hb => Below.heap_setCell w ⟨g,i,none⟩ u b hb
def FV (w:World) (B:Nat) (l:List Value):Option Bt -> Prop
 | none => l = [.slice none 0 0,.bool false]
 | some b => ∃ u,l = [u,.bool true] /\ TO w B u (b.enc 0)
theorem FV.below {w w':World} {B B':Nat} {l:List Value} {o:Option Bt} (h:FV w B l o) (hb:Below B' w w') (hB:w.heap.size <= B'):FV w' B l o:=by
 cases o with
 | none => exact h
 | some b => obtain ⟨u,h1,h2⟩:=h; exact ⟨u,h1,h2.below hb hB⟩
theorem FV.mono {w:World} {B B':Nat} {l:List Value} {o:Option Bt} (h:FV w B l o) (hB:B' <= B):FV w B' l o:=by
 cases o with
 | none => exact h
 | some b => obtain ⟨u,h1,h2⟩:=h; exact ⟨u,h1,h2.mono hB⟩
theorem FV.form {w:World} {B:Nat} {l:List Value} {o:Option Bt} (h:FV w B l o):∃ A n c,l = [.slice A n c,.bool o.isSome]:=by
 cases o with
 | none => exact ⟨none,0,0,h⟩
 | some b => obtain ⟨u,h1,h2⟩:=h; obtain ⟨_,A,c,h3,_⟩:=h2.ts; exact ⟨A,_,c,by rw [h1,h3]; rfl⟩
def FR (w:World) (B:Nat) (v:Value) (os:List (Option Bt)):Prop:=∃ ls,KO 161 2 w B v ls /\ ls.length = os.length /\ ∀ (s:Nat) l o,ls[s]? = some l -> os[s]? = some o -> FV w B l o
theorem FR.below {w w':World} {B B':Nat} {v:Value} {os:List (Option Bt)} (h:FR w B v os) (hb:Below B' w w') (hB:w.heap.size <= B'):FR w' B v os:=by
 obtain ⟨ls,h1,h2,h3⟩:=h
 exact ⟨ls,h1.below hb hB,h2,fun s l o hl ho => (h3 s l o hl ho).below hb hB⟩
theorem FR.mono {w:World} {B B':Nat} {v:Value} {os:List (Option Bt)} (h:FR w B v os) (hB:B' <= B):FR w B' v os:=by
 obtain ⟨ls,h1,h2,h3⟩:=h
 exact ⟨ls,h1.mono hB,h2,fun s l o hl ho => (h3 s l o hl ho).mono hB⟩
theorem FR.open {w:World} {B:Nat} {v:Value} {os:List (Option Bt)} (h:FR w B v os) (hp:0 < os.length):∃ g cap cs,v = .slice (some ⟨g,0,none⟩) os.length cap /\ B <= g /\ Row w g 161 cs /\ os.length <= cap /\ cap <= 9223372036854775807 /\
  ∀ s o,os[s]? = some o -> ∃ x,FV w B [x,.bool o.isSome] o /\ w.cell? ⟨g,s * 2,none⟩ = some x /\ w.cell? ⟨g,s * 2 + 1,none⟩ = some (.bool o.isSome):=by
 obtain ⟨ls,h1,h2,h3⟩:=h
 obtain ⟨g,cap,cs,rfl,hg,hr,hc1,hc2,hcell⟩:=h1.row (by omega)
 rw [h2] at hc1 ⊢
 refine ⟨g,cap,cs,rfl,hg,hr,hc1,hc2,fun s o ho => ?_⟩
 have hl:ls[s]? = some (ls[s]'(by rw [h2]; exact (List.getElem?_eq_some_iff.1 ho).1)):=List.getElem?_eq_getElem _
 have hf:=h3 s _ o hl ho
 obtain ⟨A,n,c,e⟩:=hf.form
 rw [e] at hf hl
 have c0:=hcell s _ hl 0 (by omega); have c1:=hcell s _ hl 1 (by omega)
 exact ⟨_,hf,by simpa using c0,by simpa using c1⟩
theorem FR.put {w:World} {B g n cap:Nat} {os:List (Option Bt)} (h:FR w B (.slice (some ⟨g,0,none⟩) n cap) os) (hn:os.length = n) {s:Nat} (hs:s < n) {u:Value} {b:Bt} (hu:TO w B u (b.enc 0)) :
  FR ((w.setCell ⟨g,s * 2,none⟩ u).setCell ⟨g,s * 2 + 1,none⟩ (.bool true)) B (.slice (some ⟨g,0,none⟩) n cap) (os.set s (some b)):=by
 obtain ⟨g',cap',cs,he,_,hrow,_,_,_⟩:=h.open (by omega)
 simp only [Value.slice.injEq,Option.some.injEq,Addr.mk.injEq,and_true] at he
 obtain ⟨rfl,_,_⟩:=he
 obtain ⟨ls,h1,h2,h3⟩:=h
 obtain ⟨l,hl⟩:∃ l,ls[s]? = some l:=⟨ls[s]'(by omega),List.getElem?_eq_getElem _⟩
 have hll:=(h1.1 l (List.mem_of_getElem? hl)).1
 obtain ⟨x,y,rfl⟩:∃ x y,l = [x,y]:=by
  match l,hll with
  | [x,y],_ => exact ⟨x,y,rfl⟩
 have hone:u.oneCell' = true:=by
  obtain ⟨_,A,c,e,_⟩:=hu.ts; rw [e]; rfl
 have k1:=h1.store (by omega) hl (show 0 < 2 by omega) u hone
 have k2:=k1.store (by rw [List.length_set]; omega) (i:=s) (l:=[u,y]) (by rw [List.getElem?_set,if_pos rfl,if_pos (by omega)]; rfl) (show 1 < 2 by omega) (.bool true) rfl
 rw [List.set_set] at k2
 refine ⟨_,k2,by simp [h2],fun q l' o hl' ho' => ?_⟩
 have hk2:∀ q b,TO w B q b -> TO ((w.setCell ⟨g,s * 2,none⟩ u).setCell ⟨g,s * 2 + 1,none⟩ (.bool true)) B q b:=fun q b hq => (hq.setRow hrow (by decide) _ _).setRow (hrow.set _ _) (by decide) _ _
 rw [List.getElem?_set] at hl' ho'
 by_cases e:s = q
 ·subst e
  rw [if_pos rfl,if_pos (by omega)] at hl' ho'
  cases hl'; cases ho'
  exact ⟨u,rfl,hk2 _ _ hu⟩
 ·rw [if_neg e] at hl' ho'
  have:=h3 q l' o hl' ho'
  cases o with
  | none => exact this
  | some b => obtain ⟨u',h5,h6⟩:=this; exact ⟨u',h5,hk2 _ _ h6⟩
theorem made2 (a b:Value) (n:Nat):(madeCells #[a,b] (n * 2)).toList = (List.replicate n [a,b]).flatten:=by
 apply List.ext_getElem?
 intro j
 by_cases hj:j < n * 2
 ·have h2:j % 2 < 2:=Nat.mod_lt _ (by omega)
  have e:=zkj (k:=2) (ls:=List.replicate n [a,b]) (fun l hl => by rw [List.eq_of_mem_replicate hl]; rfl) (i:=j / 2) (j:=j % 2) (l:=[a,b]) (by rw [List.getElem?_replicate,if_pos (by omega)]) h2
  rw [show j / 2 * 2 + j % 2 = j by omega] at e
  rw [e]
  have h01:j % 2 = 0 \/ j % 2 = 1:=by omega
  rcases h01 with h | h <;> simp [madeCells,hj,h]
 ·rw [List.getElem?_eq_none (by simp [madeCells]; omega),List.getElem?_eq_none (by rw [ziw (k:=2) (fun l hl => by rw [List.eq_of_mem_replicate hl]; rfl)]; simp; omega)]
theorem FR.make (w:World) (B n:Nat) (hB:B <= w.heap.size) (hn:n <= 1000):FR (w.alloc (.cells (madeCells #[.slice none 0 0,.bool false] (n * 2)) 161)) B (.slice (some ⟨w.heap.size,0,none⟩) n n) (List.replicate n none):=by
 refine ⟨List.replicate n [.slice none 0 0,.bool false],⟨fun l hl => ?_,?_⟩,by simp,fun s l o hl ho => ?_⟩
 ·rw [List.eq_of_mem_replicate hl]
  exact ⟨rfl,fun u hu => by simp at hu; rcases hu with rfl | rfl <;> rfl⟩
 ·rw [<- made2,List.length_replicate]
  exact World.ownsRow_lit w _ n hB (by simp only [maxLen]; omega) (size_madeCells _ _)
 ·rw [List.eq_of_mem_replicate (List.mem_of_getElem? hl),List.eq_of_mem_replicate (List.mem_of_getElem? ho)]
  rfl
theorem zhn (n:Nat) (hn:n <= 1000) (w:World) :
  (Instr.makeSlice 158 (.int .i64 (n:Int)) (.int .i64 (n:Int))).run Tryz.prog w = .ok (.slice (some ⟨w.heap.size,0,none⟩) n n) (w.alloc (.cells (madeCells #[.slice none 0 0,.bool false] (n * 2)) 161)):=by
 obtain ⟨i,hi,hz,h1,h2⟩:=info_parts (show (Tryz.prog.info? 161).map (fun i => (i.zero,i.size,i.bytes)) = some (some (.agg #[.slice none 0 0,.bool false]),2,32) by kernel_rfl)
 have:=zdb (P:=Tryz.prog) 158 161 i _ eF.under hi hz .i64 .i64 n n zn (by rw [h2]; omega) (by omega) w
 rw [h1] at this
 exact this
theorem znd {a b:Bt} (ha:a.size <= 31) (hb:b.size <= 31) (hs:a.size = b.size):ze0 (a.enc 0) (b.enc 0) = cmpL a.code b.code:=by
 unfold ze0
 rw [nf_of (zex a ha),nf_of (zex b hb),Bt.enc_len,Bt.enc_len,zl0,zl0,hs]
 rw [if_pos (zc8.2 rfl)]
def BetP (w:World) (g p:Nat) (u:Value) (yes:Bool) (e:Ending) (w':World):Prop:=e = .returned (.tuple #[]) /\ ∃ W1,Below w.heap.size w W1 /\ w' = if yes then (W1.setCell ⟨g,p,none⟩ u).setCell ⟨g,p + 1,none⟩ (.bool true) else W1
theorem zkx (w:World) (g p:Nat) (u x:Value) (hu:∃ A n c,u = .slice A n c) (h0:w.cell? ⟨g,p,none⟩ = some x) (h1:w.cell? ⟨g,p + 1,none⟩ = some (.bool false)) (hf:∀ i,w.frozen? ⟨g,i,none⟩ = false) :
  Calls Tryz.prog 102 #[.pointer (some ⟨g,p,none⟩),u] w (BetP w g p u true):=by
 obtain ⟨A,n,c,rfl⟩:=hu
 go_enter Tryz.func102,Tryz.ntmps102
 go_wp2
 refine bodyPost_end (results_none rfl _ _ _) rfl ?_
 exact ⟨rfl,w,Below.refl _ _,by simp⟩
theorem zkw (w:World) (g p:Nat) (u x:Value) (t b:Bt) (hg:g < w.heap.size) (hu:TS w u (t.enc 0)) (hx:TS w x (b.enc 0)) (ht:t.size <= 31) (hb:b.size = t.size) (h0:w.cell? ⟨g,p,none⟩ = some x) (h1:w.cell? ⟨g,p + 1,none⟩ = some (.bool true)) (hf:∀ W,Below w.heap.size w W -> ∀ i,W.frozen? ⟨g,i,none⟩ = false) :
  Calls Tryz.prog 102 #[.pointer (some ⟨g,p,none⟩),u] w (BetP w g p u (decide (cmpL t.code b.code < 0))):=by
 have hcmp:=zk1 (t.enc 0) (b.enc 0) u x w hu hx
 rw [znd ht (by omega) hb.symm] at hcmp
 obtain ⟨_,A,c,rfl,_⟩:=hu
 obtain ⟨_,A2,c2,rfl,_⟩:=hx
 obtain ⟨n,hn⟩:=zx ((t.enc 0).length)
 obtain ⟨m,hm⟩:=zx ((b.enc 0).length)
 rw [<- hn,<- hm] at hcmp
 rw [<- hm] at h0
 rw [<- hn]
 obtain ⟨k,hk⟩:=zx (cmpL t.code b.code)
 rw [<- hk] at hcmp ⊢
 have HC:=zh hcmp; have HF:=zh hf; have H0:=zh h0; have H1:=zh h1
 clear hcmp hn hm hk ht hb hf
 by_cases hlt:k < 0
 ·rw [decide_eq_true hlt]
  go_enter Tryz.func102,Tryz.ntmps102
  go_wp2_with (go_at_call 27; refine HC.out.mono ?_; rintro e w2 ⟨rfl,hb2⟩; have HB2:=zh hb2; have hf2:=HF.out w2 hb2; have g0:=(hb2.cell (p:=⟨g,_,none⟩) hg).trans H0.out; have g1:=(hb2.cell (p:=⟨g,_,none⟩) hg).trans H1.out; clear hb2 h0 h1)
  refine bodyPost_end (results_none rfl _ _ _) rfl ?_
  exact ⟨rfl,w2,HB2.out,by simp⟩
 ·rw [decide_eq_false hlt]
  go_enter Tryz.func102,Tryz.ntmps102
  go_wp2_with (go_at_call 27; refine HC.out.mono ?_; rintro e w2 ⟨rfl,hb2⟩; have HB2:=zh hb2; clear hb2)
  refine bodyPost_end (results_none rfl _ _ _) rfl ?_
  exact ⟨rfl,w2,HB2.out,by simp⟩
end Go.Proofs.YthdabkmkgkkmcaaGreatDoor
namespace Go.Proofs.YthdabkmkgkkmcaaGreatDoor
open Go.RowKit
section
variable (d:Dta) (sm:Nat -> Nat -> Option Bt) (k:Nat)
def kX (i l r x:Nat):List (Nat × Bt):=match sm i l,sm (k - i) r with
 | some a,some b => [(d.nx l r x,Bt.node (x:Int) a b)]
 | _,_ => []
def kR (i l r:Nat):List (Nat × Bt):=(List.range d.L).flatMap (kX d sm k i l r)
def kL (i l:Nat):List (Nat × Bt):=(List.range d.n).flatMap (kR d sm k i l)
def kI (i:Nat):List (Nat × Bt):=(List.range d.n).flatMap (kL d sm k i)
theorem zrz:d.cands sm k = (List.range (k + 1)).flatMap (kI d sm k):=rfl
def preK (i l r x:Nat):List (Nat × Bt):=(List.range i).flatMap (kI d sm k) ++ ((List.range l).flatMap (kL d sm k i) ++ ((List.range r).flatMap (kR d sm k i l) ++ (List.range x).flatMap (kX d sm k i l r)))
theorem zoi (i l r x:Nat):preK d sm k i l r (x + 1) = preK d sm k i l r x ++ kX d sm k i l r x:=by
 unfold preK; rw [List.range_succ,List.flatMap_append]; simp [List.append_assoc]
theorem preK_r (i l r:Nat):preK d sm k i l r d.L = preK d sm k i l (r + 1) 0:=by
 unfold preK; rw [List.range_succ (n:=r),List.flatMap_append]; simp [kR]
theorem preK_l (i l:Nat):preK d sm k i l d.n 0 = preK d sm k i (l + 1) 0 0:=by
 unfold preK; rw [List.range_succ (n:=l),List.flatMap_append]; simp [kL]
theorem preK_i (i:Nat):preK d sm k i d.n 0 0 = preK d sm k (i + 1) 0 0 0:=by
 unfold preK; rw [List.range_succ (n:=i),List.flatMap_append]; simp [kI]
theorem preK_0:preK d sm k 0 0 0 0 = []:=by simp [preK]
theorem zq8:preK d sm k (k + 1) 0 0 0 = d.cands sm k:=by rw [zrz]; simp [preK]
end
def osP (n:Nat) (P:List (Nat × Bt)):List (Option Bt):=(List.range n).map fun s => minB none (Dta.ofS P s)
theorem zfc (n:Nat) (P:List (Nat × Bt)):(osP n P).length = n:=by simp [osP]
theorem osP_nil (n:Nat):osP n [] = List.replicate n none:=by
 apply List.ext_getElem?
 intro i
 unfold osP
 by_cases hi:i < n <;> simp [hi,Dta.ofS,minB]
theorem zop {n s:Nat} (P:List (Nat × Bt)) (h:s < n):(osP n P)[s]? = some (minB none (Dta.ofS P s)):=by unfold osP; rw [List.getElem?_map,List.getElem?_range h]; rfl
theorem zra {n s:Nat} (P:List (Nat × Bt)) (t:Bt) (h:s < n):osP n (P ++ [(s,t)]) = (osP n P).set s (zci (minB none (Dta.ofS P s)) t):=by
 apply List.ext_getElem?
 intro i
 rw [List.getElem?_set]
 by_cases hi:i < n
 ·rw [zop _ hi,zfc]
  by_cases e:s = i
  ·subst e
   rw [if_pos rfl,if_pos hi]
   unfold Dta.ofS minB
   rw [List.filter_append,List.map_append,List.foldl_append]
   simp
  ·rw [if_neg e,zop _ hi]
   unfold Dta.ofS
   rw [List.filter_append]
   simp [e]
 ·rw [List.getElem?_eq_none (by rw [zfc]; omega)]
  rw [if_neg (by omega),List.getElem?_eq_none (by rw [zfc]; omega)]
structure Tn (g:Nat) (w w':World):Prop where
 os:w'.os = w.os
 tape:w'.tape = w.tape
 output:w'.output = w.output
 size:w.heap.size <= w'.heap.size
 block:∀ b,b < w.heap.size -> b ≠ g -> w'.heap[b]? = w.heap[b]?
theorem Tn.below {g B:Nat} {a w w':World} (h:Tn g w w') (hb:Below B a w) (hg:B <= g) (hB:B <= w.heap.size):Below B a w' :=
 ⟨h.os.trans hb.os,h.tape.trans hb.tape,h.output.trans hb.output,Nat.le_trans hb.size h.size,fun k hk => (h.block k (by omega) (by omega)).trans (hb.block k hk)⟩
theorem Tn.row {g b:Nat} {w w':World} {E:TypeId} {cs:Array Value} (h:Tn g w w') (hr:Row w b E cs) (hne:b ≠ g):Row w' b E cs:=(h.block b hr.lt hne).trans hr
theorem zh3 {W:World} {B g n cap:Nat} {os:List (Option Bt)} {s:Nat} {t:Bt} {u:Value} {o:Option Bt} (hR:FR W B (.slice (some ⟨g,0,none⟩) n cap) os) (hn:os.length = n) (hs:s < n) (hu:TO W B u (t.enc 0)) (ht:t.size <= 31) (ho:os[s]? = some o) (hz:∀ b,o = some b -> b.size = t.size) :
  Calls Tryz.prog 102 #[.pointer (some ⟨g,s * 2,none⟩),u] W fun e W' => e = .returned (.tuple #[]) /\ FR W' B (.slice (some ⟨g,0,none⟩) n cap) (os.set s (zci o t)) /\ Tn g W W':=by
 obtain ⟨g',cap',cs,he,hBg,hrow,_,_,hcell⟩:=hR.open (by omega)
 simp only [Value.slice.injEq,Option.some.injEq,Addr.mk.injEq,and_true] at he
 obtain ⟨rfl,_,_⟩:=he
 obtain ⟨x,hfv,c0,c1⟩:=hcell s o ho
 have tn:∀ W1,Below W.heap.size W W1 -> Tn g W ((W1.setCell ⟨g,s * 2,none⟩ u).setCell ⟨g,s * 2 + 1,none⟩ (.bool true)):=fun W1 h =>
  ⟨h.os,h.tape,h.output,by simp; exact h.size,fun b hb hne => ((Below.heap_setCell _ ⟨g,s * 2 + 1,none⟩ _ b hne).trans (Below.heap_setCell _ ⟨g,s * 2,none⟩ _ b hne)).trans (h.block b hb)⟩
 have tn0:∀ W1,Below W.heap.size W W1 -> Tn g W W1:=fun W1 h => ⟨h.os,h.tape,h.output,h.size,fun b hb _ => h.block b hb⟩
 cases o with
 | none =>
  obtain ⟨_,A,c,hform,_⟩:=hu.ts
  refine (zkx W g (s * 2) u x ⟨A,_,c,hform⟩ c0 c1 (fun i => hrow.free i)).mono ?_
  rintro e W' ⟨rfl,W1,hb,rfl⟩
  rw [if_pos rfl]
  exact ⟨rfl,(hR.below hb zn).put hn hs (hu.below hb zn),tn W1 hb⟩
 | some b =>
  obtain ⟨x',hx,hxo⟩:=hfv
  simp only [List.cons.injEq,and_true] at hx
  obtain ⟨rfl,_⟩:=hx
  refine (zkw W g (s * 2) u x t b hrow.lt hu.ts hxo.ts ht (hz b rfl) c0 c1 (fun W1 h i => (hrow.below h hrow.lt).free i)).mono ?_
  rintro e W' ⟨rfl,W1,hb,rfl⟩
  by_cases hlt:cmpL t.code b.code < 0
  ·rw [decide_eq_true hlt,if_pos rfl]
   simp only [zci,if_pos hlt]
   exact ⟨trivial,(hR.below hb zn).put hn hs (hu.below hb zn),tn W1 hb⟩
  ·rw [decide_eq_false hlt]
   simp only [zci,if_neg hlt,Bool.false_eq_true,if_false]
   refine ⟨trivial,?_,tn0 W1 hb⟩
   have e:os.set s (some b) = os:=by
    apply List.ext_getElem?
    intro i
    rw [List.getElem?_set]
    by_cases e:s = i
    ·subst e; rw [if_pos rfl,if_pos (by omega),ho]
    ·rw [if_neg e]
   rw [e]
   exact hR.below hb zn
def SmS (w:World) (v:Value) (rows:List (List (Option Bt))):Prop:=∃ vs,VS w v vs /\ vs.length = rows.length /\ ∀ (i:Nat) u,vs[i]? = some u -> ∃ os,rows[i]? = some os /\ FR w 0 u os
theorem SmS.at {w:World} {A:Option Addr} {n c:Nat} {rows:List (List (Option Bt))} (h:SmS w (.slice A n c) rows) (hn:rows.length = n) {i:Nat} {os:List (Option Bt)} (hi:rows[i]? = some os):∃ b o u,A = some ⟨b,o,none⟩ /\ b < w.heap.size /\ w.cell? ⟨b,o + i,none⟩ = some u /\ FR w 0 u os:=by
 obtain ⟨vs,h1,h2,h3⟩:=h
 obtain ⟨A',c',he,_,_,h4⟩:=h1.open
 simp only [Value.slice.injEq] at he
 obtain ⟨rfl,_,rfl⟩:=he
 have hil:i < vs.length:=by rw [h2]; exact (List.getElem?_eq_some_iff.1 hi).1
 obtain ⟨b,o,h5,h6,h7⟩:=h4 i hil
 have hu:vs[i]? = some (vs[i]'hil):=List.getElem?_eq_getElem _
 obtain ⟨os',h8,h9⟩:=h3 i _ hu
 rw [hi] at h8; cases h8
 exact ⟨b,o,_,h5,h6,h7 _ hu,h9⟩
end Go.Proofs.YthdabkmkgkkmcaaGreatDoor
