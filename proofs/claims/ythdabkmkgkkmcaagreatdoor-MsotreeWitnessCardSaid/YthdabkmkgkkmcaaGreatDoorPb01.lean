/- Part 1 of the proof; it says: lemmas and contracts. No conditions but those that each theorem states. -/
import Derived.Lib.Hide
import Derived.Calls
set_option linter.unusedSimpArgs false
set_option linter.unusedVariables false
set_option maxRecDepth 100000
set_option maxHeartbeats 32000000
namespace Go.Proofs.YthdabkmkgkkmcaaGreatDoor
open Go.RowKit
theorem zh {p:Prop} (h:p):Hid p:=h
theorem zx {α:Sort _} (e:α):∃ x,x = e:=⟨e,rfl⟩
theorem zn {n:Nat}:n ≤ n:=Nat.le_refl n
theorem zp:(∀ (a:Act) (d:Nat) (v:Value),a.put (some d) v = { a with tmps:=a.tmps.setIfInBounds d v }) ∧ (∀ (a:Act) (v:Value),a.put none v = a) ∧ (∀ (l:List Value) (i:Nat) (x:Value),l.toArray.setIfInBounds i x = (l.set i x).toArray) ∧ (∀ (a:Value) (l:List Value) (x:Value),(a :: l).set 0 x = x :: l) ∧ (∀ (a:Value) (l:List Value) (n:Nat) (x:Value),(a :: l).set (n + 1) x = a :: l.set n x) :=
 ⟨fun _ _ _ => rfl,fun _ _ => rfl,fun l i x => List.setIfInBounds_toArray ..,fun _ _ _ => rfl,fun _ _ _ _ => rfl⟩
theorem zg:(∀ (l:List Value) (i:Nat),l.toArray[i]? = l[i]?) ∧ (∀ (a:Value) (l:List Value),(a :: l)[0]? = some a) ∧ (∀ (a:Value) (l:List Value) (i:Nat),(a :: l)[i + 1]? = l[i]?) :=
 ⟨fun l i => List.getElem?_toArray ..,fun _ _ => rfl,fun _ _ _ => rfl⟩
structure Mk where
 op:Int
 x:Int
 y:Int
 a:Int
 b:Int
deriving DecidableEq
def nm (op:Int):List UInt8 :=
 if op = 1 then [116,114,117,101] else if op = 2 then [115,117,98] else if op = 3 then [101,109,112,116,121]
 else if op = 4 then [115,105,110,103,108,101] else if op = 5 then [110,101,120,116] else if op = 6 then [108,101,115,115]
 else if op = 7 then [108,101,102,116] else if op = 8 then [114,105,103,104,116] else if op = 9 then [110,111,116]
 else if op = 10 then [97,110,100] else if op = 11 then [111,114] else if op = 12 then [101,120,105,115,116,115]
 else if op = 13 then [102,111,114,97,108,108] else if op = 14 then [115,111,109,101] else if op = 15 then [101,97,99,104] else []
def nv (op:Int):Int :=
 if op = 3 \/ op = 4 \/ (12 <= op /\ op <= 15) then 1 else if op = 2 \/ (5 <= op /\ op <= 8) then 2 else 0
def nc (op:Int):Int :=
 if op = 10 \/ op = 11 then 2 else if op = 9 \/ (12 <= op /\ op <= 15) then 1 else 0
theorem zdz (op:Int):nc op = 0 \/ nc op = 1 \/ nc op = 2:=by
 unfold nc
 repeat' split
 all_goals simp
theorem zip (op:Int):nv op = 0 \/ nv op = 1 \/ nv op = 2:=by
 unfold nv
 repeat' split
 all_goals simp
def blk (acc:List Nat) (m:Mk):Nat :=
 let i:=acc.length
 if nc m.op = 0 then (if m.a = 0 /\ m.b = 0 then 1 else 0)
 else if i = 0 then 0
 else
  let s1:=acc.getD (i - 1) 0
  if s1 = 0 then 0
  else if nc m.op = 1 then (if m.a = i - 1 /\ m.b = 0 then 1 + s1 else 0)
  else if i - s1 = 0 then 0
  else
   let s2:=acc.getD (i - s1 - 1) 0
   if s2 = 0 then 0 else if m.b = i - 1 /\ m.a = ((i - s1 - 1:Nat):Int) then 1 + s1 + s2 else 0
def szs (f:List Mk):List Nat:=f.foldl (fun acc m => acc ++ [blk acc m]) []
theorem zda (f:List Mk):(szs f).length = f.length:=by
 have h:∀ (f:List Mk) (acc:List Nat),(f.foldl (fun acc m => acc ++ [blk acc m]) acc).length = acc.length + f.length:=by
  intro f
  induction f with
  | nil => intro acc; simp
  | cons m f ih => intro acc; simp only [List.foldl_cons,ih,List.length_append,List.length_cons,List.length_nil]; omega
 simpa [szs] using h f []
theorem zib (f:List Mk) (k:Nat) (m:Mk) (h:f[k]? = some m):szs (f.take (k + 1)) = szs (f.take k) ++ [blk (szs (f.take k)) m]:=by
 have hk:k < f.length:=(List.getElem?_eq_some_iff.1 h).1
 have hm:f[k] = m:=(List.getElem?_eq_some_iff.1 h).2
 rw [List.take_succ_eq_append_getElem hk,hm]
 simp [szs]
theorem zk7 (f:List Mk) (j:Nat):(szs f).getD j 0 <= j + 1:=by
 have h:∀ (n:Nat) (f:List Mk),f.length = n -> ∀ j,(szs f).getD j 0 <= j + 1:=by
  intro n
  induction n with
  | zero => intro f hf j; have:f = []:=List.length_eq_zero_iff.1 hf; subst this; simp [szs]
  | succ n ih =>
   intro f hf j
   obtain ⟨m,hm⟩:∃ m,f[n]? = some m:=⟨f[n]'(by omega),List.getElem?_eq_getElem _⟩
   have e:=zib f n m hm
   rw [List.take_of_length_le (by omega)] at e
   have ihn:=ih (f.take n) (by simp; omega)
   have hl:(szs (f.take n)).length = n:=by rw [zda]; simp; omega
   rw [e]
   rcases Nat.lt_trichotomy j n with h | h | h
   ·rw [List.getD_eq_getElem?_getD,List.getElem?_append_left (by omega),<- List.getD_eq_getElem?_getD]; exact ihn j
   ·subst h
    rw [List.getD_eq_getElem?_getD,List.getElem?_append_right (by omega),hl]
    simp only [Nat.sub_self,List.getElem?_cons_zero,Option.getD_some,blk,hl]
    have i1:=ihn (j - 1)
    have i2:=ihn (j - (szs (f.take j)).getD (j - 1) 0 - 1)
    generalize (szs (f.take j)).getD (j - 1) 0 = s1 at *
    generalize (szs (f.take j)).getD (j - s1 - 1) 0 = s2 at *
    repeat' split
    all_goals omega
   ·rw [List.getD_eq_getElem?_getD,List.getElem?_append_right (by omega),<- List.getD_eq_getElem?_getD]
    have:1 <= j - (szs (f.take n)).length:=by omega
    rw [List.getD_eq_getElem?_getD,List.getElem?_eq_none (by simpa using this)]
    simp
 exact h _ f rfl j
def zak (m:Mk) (vars:Int):Bool :=
 (decide (nv m.op < 1) || (decide (0 <= m.x) && decide (m.x < vars))) && (decide (nv m.op < 2) || (decide (0 <= m.y) && decide (m.y < vars)))
def spare (m:Mk):Bool:=(decide (0 < nv m.op) || decide (m.x = 0)) && (decide (1 < nv m.op) || decide (m.y = 0))
def zam (vars:Int) (known:Int -> Bool) (m:Mk) (s:Nat):Int :=
 if nm m.op = [] then 6 else if known m.op = false then 6 else if zak m vars = false then 7 else if spare m = false then 2 else if s = 0 then 2 else 0
def zav (vars:Int) (known:Int -> Bool):List Mk -> List Nat -> Int
 | m :: f,s :: ss => if zam vars known m s = 0 then zav vars known f ss else zam vars known m s
 | _,_ => 0
def chk (f:List Mk) (vars:Int) (known:Int -> Bool):Int :=
 if f.length = 0 then 3 else if 64 < f.length then 4
 else if zav vars known f (szs f) = 0 then (if (szs f).getD (f.length - 1) 0 = f.length then 0 else 2) else zav vars known f (szs f)
def knows (trees:Bool) (op:Int):Bool:=if trees then decide (op ≠ 5) else decide (op ≠ 7) && decide (op ≠ 8)
def zai (f:List Mk) (vars:Int) (trees:Bool):Int :=
 if vars < 0 \/ (if trees then 3 else 6) < vars then 7 else chk f vars (knows trees)
def za4 (f:List Mk):Bool:=decide (chk f 6 (fun _ => true) = 0)
inductive Tr where
 | leaf (op x y:Int)
 | un (op x:Int) (a:Tr)
 | bin (op:Int) (a b:Tr)
def Tr.size:Tr -> Nat
 | .leaf _ _ _ => 1
 | .un _ _ a => a.size + 1
 | .bin _ a b => a.size + b.size + 1
theorem Tr.size_pos (t:Tr):1 <= t.size:=by cases t <;> simp [Tr.size]
def Tr.enc:Nat -> Tr -> List Mk
 | _,.leaf op x y => [⟨op,x,y,0,0⟩]
 | p,.un op x a => a.enc p ++ [⟨op,x,0,((p + a.size - 1:Nat):Int),0⟩]
 | p,.bin op a b => a.enc p ++ (b.enc (p + a.size) ++ [⟨op,0,0,((p + a.size - 1:Nat):Int),((p + a.size + b.size - 1:Nat):Int)⟩])
theorem Tr.enc_len (t:Tr):∀ p,(t.enc p).length = t.size:=by
 induction t with
 | leaf op x y => intro p; rfl
 | un op x a ih => intro p; simp [Tr.enc,Tr.size,ih]
 | bin op a b iha ihb => intro p; simp [Tr.enc,Tr.size,iha,ihb]; omega
def zes (op x y:Int):Prop:=nm op ≠ [] /\ nc op = 0 /\ zak ⟨op,x,y,0,0⟩ 6 = true /\ spare ⟨op,x,y,0,0⟩ = true
def okUn (op x:Int):Prop:=nm op ≠ [] /\ nc op = 1 /\ zak ⟨op,x,0,0,0⟩ 6 = true /\ spare ⟨op,x,0,0,0⟩ = true
def Tr.ok:Tr -> Prop
 | .leaf op x y => zes op x y
 | .un op x a => okUn op x /\ a.ok
 | .bin op a b => nc op = 2 /\ a.ok /\ b.ok
theorem zjo (g:List Mk):∀ acc:List Nat,(g.foldl (fun acc m => acc ++ [blk acc m]) acc).take acc.length = acc:=by
 induction g with
 | nil => intro acc; simp
 | cons m g ih =>
  intro acc
  have h:=ih (acc ++ [blk acc m])
  simp only [List.foldl_cons]
  have h2:=congrArg (List.take acc.length) h
  rw [List.take_take] at h2
  simpa [Nat.min_eq_left] using h2
theorem zge (f:List Mk) (k:Nat) (hk:k <= f.length):szs (f.take k) = (szs f).take k:=by
 have h:=zjo (f.drop k) (szs (f.take k))
 have e:(f.drop k).foldl (fun acc m => acc ++ [blk acc m]) (szs (f.take k)) = szs f:=by
  unfold szs
  rw [<- List.foldl_append,List.take_append_drop]
 rw [e,zda,List.length_take,Nat.min_eq_left hk] at h
 exact h.symm
theorem szs_get (f:List Mk) (i:Nat) (m:Mk) (h:f[i]? = some m):(szs f).getD i 0 = blk ((szs f).take i) m:=by
 have hi:i < f.length:=(List.getElem?_eq_some_iff.1 h).1
 have e:=zib f i m h
 rw [zge f (i + 1) hi,zge f i (by omega)] at e
 have h2:=congrArg (fun l:List Nat => l[i]?) e
 have hl:((szs f).take i).length = i:=by rw [List.length_take,zda]; omega
 simp only [List.getElem?_take] at h2
 rw [if_pos (by omega),List.getElem?_append_right (by omega),hl] at h2
 simp at h2
 rw [List.getD_eq_getElem?_getD,h2]; rfl
theorem zi9 (l:List Nat) (i j:Nat) (h:j < i):(l.take i).getD j 0 = l.getD j 0:=by
 rw [List.getD_eq_getElem?_getD,List.getElem?_take,if_pos h,<- List.getD_eq_getElem?_getD]
theorem zeh (vars:Int) (known:Int -> Bool):∀ (f:List Mk) (ss:List Nat),f.length = ss.length -> zav vars known f ss = 0 -> ∀ i m,f[i]? = some m -> zam vars known m (ss.getD i 0) = 0
 | [],_,_,_,i,m,h => by simp at h
 | a :: f,[],hl,_,_,_,_ => by simp at hl
 | a :: f,s :: ss,hl,h,i,m,hm => by
  rw [zav] at h
  by_cases h0:zam vars known a s = 0
  ·rw [if_pos h0] at h
   cases i with
   | zero => simp at hm; subst hm; simpa using h0
   | succ i => exact zeh vars known f ss (by simpa using hl) h i m (by simpa using hm)
  ·rw [if_neg h0] at h; exact absurd h h0
theorem zbi {vars:Int} {known:Int -> Bool} {m:Mk} {s:Nat} (h:zam vars known m s = 0):nm m.op ≠ [] /\ known m.op = true /\ zak m vars = true /\ spare m = true /\ s ≠ 0:=by
 unfold zam at h
 by_cases h1:nm m.op = []
 ·rw [if_pos h1] at h; omega
 by_cases h2:known m.op = false
 ·rw [if_neg h1,if_pos h2] at h; omega
 by_cases h3:zak m vars = false
 ·rw [if_neg h1,if_neg h2,if_pos h3] at h; omega
 by_cases h4:spare m = false
 ·rw [if_neg h1,if_neg h2,if_neg h3,if_pos h4] at h; omega
 by_cases h5:s = 0
 ·rw [if_neg h1,if_neg h2,if_neg h3,if_neg h4,if_pos h5] at h; omega
 exact ⟨h1,by simpa using h2,by simpa using h3,by simpa using h4,h5⟩
theorem zjg (op:Int) (h:nc op = 1):nv op < 2:=by
 unfold nc at h
 unfold nv
 repeat' split at h
 all_goals first | omega | (repeat' split) <;> omega
theorem zgs (op:Int) (h:nc op = 2):nv op = 0 /\ nm op ≠ []:=by
 unfold nc at h
 by_cases h1:op = 10 \/ op = 11
 ·rcases h1 with rfl | rfl <;> decide
 ·rw [if_neg h1] at h
  split at h <;> omega
theorem zc9 (f:List Mk) (p s:Nat) (m:Mk) (h:f[p + s]? = some m):(f.drop p).take (s + 1) = (f.drop p).take s ++ [m]:=by
 rw [List.take_add_one,List.getElem?_drop,h]; rfl
theorem tree_at (f:List Mk) (hn:∀ i m,f[i]? = some m -> nm m.op ≠ [] /\ zak m 6 = true /\ spare m = true /\ (szs f).getD i 0 ≠ 0) :
  ∀ i,i < f.length -> (szs f).getD i 0 <= i + 1 /\ ∃ t:Tr,t.ok /\ t.size = (szs f).getD i 0 /\ (f.drop (i + 1 - (szs f).getD i 0)).take ((szs f).getD i 0) = t.enc (i + 1 - (szs f).getD i 0):=by
 intro i
 induction i using Nat.strongRecOn with
 | _ i ih =>
  intro hi
  have hle:=zk7 f i
  refine ⟨hle,?_⟩
  obtain ⟨m,hm⟩:∃ m,f[i]? = some m:=⟨f[i],List.getElem?_eq_getElem hi⟩
  obtain ⟨n1,n2,n3,n4⟩:=hn i m hm
  have hg:=szs_get f i m hm
  have hlen:((szs f).take i).length = i:=by rw [List.length_take,zda]; omega
  rw [hg] at n4 ⊢
  unfold blk at n4 ⊢
  simp only [hlen] at n4 ⊢
  by_cases c0:nc m.op = 0
  ·simp only [if_pos c0] at n4 ⊢
   by_cases hab:m.a = 0 /\ m.b = 0
   ·rw [if_pos hab]
    refine ⟨.leaf m.op m.x m.y,⟨n1,c0,?_,?_⟩,rfl,?_⟩
    ·simpa [zak] using n2
    ·simpa [spare] using n3
    ·have:=zc9 f i 0 m (by simpa using hm)
     simp only [Nat.add_sub_cancel]
     rw [show (1:Nat) = 0 + 1 from rfl,this]
     obtain ⟨op,x,y,a,b⟩:=m
     simp only at hab
     simp [Tr.enc,hab.1,hab.2]
   ·rw [if_neg hab] at n4; exact absurd rfl n4
  ·simp only [if_neg c0] at n4 ⊢
   by_cases i0:i = 0
   ·simp only [if_pos i0] at n4; exact absurd rfl n4
   simp only [if_neg i0] at n4 ⊢
   rw [zi9 _ _ _ (by omega)] at n4 ⊢
   by_cases s0:(szs f).getD (i - 1) 0 = 0
   ·simp only [if_pos s0] at n4; exact absurd rfl n4
   simp only [if_neg s0] at n4 ⊢
   obtain ⟨l1,ta,oka,sa,ea⟩:=ih (i - 1) (by omega) (by omega)
   generalize hs1:(szs f).getD (i - 1) 0 = s1 at *
   have ep:i - 1 + 1 - s1 = i - s1:=by omega
   rw [ep] at ea
   by_cases c1:nc m.op = 1
   ·simp only [if_pos c1] at n4 ⊢
    by_cases hab:m.a = (i:Int) - 1 /\ m.b = 0
    ·simp only [if_pos hab]
     have hy:m.y = 0:=by
      have:=zjg m.op c1
      simp only [spare,Bool.and_eq_true,Bool.or_eq_true,decide_eq_true_eq] at n3
      omega
     have e1:i + 1 - (1 + s1) = i - s1:=by omega
     rw [e1,Nat.add_comm 1 s1]
     refine ⟨.un m.op m.x ta,⟨⟨n1,c1,?_,?_⟩,oka⟩,by simp [Tr.size,sa],?_⟩
     ·simpa [zak,hy] using n2
     ·simpa [spare,hy] using n3
     ·rw [zc9 f (i - s1) s1 m (by rw [show i - s1 + s1 = i by omega]; exact hm),ea]
      simp only [Tr.enc,sa]
      congr 1
      obtain ⟨op,x,y,a,b⟩:=m
      simp only at hab hy
      rw [show i - s1 + s1 - 1 = i - 1 by omega]
      simp only [List.cons.injEq,Mk.mk.injEq,and_true,true_and]
      refine ⟨hy,by omega,hab.2⟩
    ·simp only [if_neg hab] at n4; exact absurd rfl n4
   ·simp only [if_neg c1] at n4 ⊢
    have c2:nc m.op = 2:=by rcases zdz m.op with h | h | h <;> simp_all
    by_cases d0:i - s1 = 0
    ·simp only [if_pos d0] at n4; exact absurd rfl n4
    simp only [if_neg d0] at n4 ⊢
    rw [zi9 _ _ _ (by omega)] at n4 ⊢
    by_cases s20:(szs f).getD (i - s1 - 1) 0 = 0
    ·simp only [if_pos s20] at n4; exact absurd rfl n4
    simp only [if_neg s20] at n4 ⊢
    obtain ⟨l2,tb,okb,sb,eb⟩:=ih (i - s1 - 1) (by omega) (by omega)
    generalize hs2:(szs f).getD (i - s1 - 1) 0 = s2 at *
    have eq:i - s1 - 1 + 1 - s2 = i - s1 - s2:=by omega
    rw [eq] at eb
    by_cases hab:m.b = (i:Int) - 1 /\ m.a = ((i - s1 - 1:Nat):Int)
    ·simp only [if_pos hab]
     obtain ⟨hv,_⟩:=zgs m.op c2
     have hxy:m.x = 0 /\ m.y = 0:=by
      simp only [spare,Bool.and_eq_true,Bool.or_eq_true,decide_eq_true_eq,hv] at n3
      omega
     have e1:i + 1 - (1 + s1 + s2) = i - s1 - s2:=by omega
     rw [e1,show 1 + s1 + s2 = s2 + s1 + 1 by omega]
     refine ⟨.bin m.op tb ta,⟨c2,okb,oka⟩,by simp [Tr.size,sa,sb],?_⟩
     rw [zc9 f (i - s1 - s2) (s2 + s1) m (by rw [show i - s1 - s2 + (s2 + s1) = i by omega]; exact hm)]
     rw [List.take_add,eb,List.drop_drop,show i - s1 - s2 + s2 = i - s1 by omega,ea]
     simp only [Tr.enc,sa,sb,List.append_assoc]
     rw [show i - s1 - s2 + s2 = i - s1 by omega]
     congr 2
     obtain ⟨op,x,y,a,b⟩:=m
     simp only at hab hxy
     rw [show i - s1 + s1 - 1 = i - 1 by omega]
     simp only [List.cons.injEq,Mk.mk.injEq,and_true,true_and]
     refine ⟨hxy.1,hxy.2,hab.2,by omega⟩
    ·simp only [if_neg hab] at n4; exact absurd rfl n4
theorem zff (f:List Mk) (h:za4 f = true):1 <= f.length /\ f.length <= 64:=by
 have h:chk f 6 (fun _ => true) = 0:=of_decide_eq_true h
 unfold chk at h
 by_cases h1:f.length = 0
 ·rw [if_pos h1] at h; omega
 ·by_cases h2:64 < f.length
  ·rw [if_neg h1,if_pos h2] at h; omega
  ·omega
theorem zg1 (f:List Mk) (h:za4 f = true):f.length <= 64 /\ ∃ t:Tr,t.ok /\ t.size = f.length /\ f = t.enc 0:=by
 have h:chk f 6 (fun _ => true) = 0:=of_decide_eq_true h
 unfold chk at h
 by_cases h1:f.length = 0
 ·rw [if_pos h1] at h; omega
 by_cases h2:64 < f.length
 ·rw [if_neg h1,if_pos h2] at h; omega
 rw [if_neg h1,if_neg h2] at h
 by_cases h3:zav 6 (fun _ => true) f (szs f) = 0
 ·rw [if_pos h3] at h
  by_cases h4:(szs f).getD (f.length - 1) 0 = f.length
  ·refine ⟨by omega,?_⟩
   obtain ⟨_,t,ok,hs,he⟩:=tree_at f (fun i m hm => by
    obtain ⟨a,_,b,c,d⟩:=zbi (zeh 6 _ f (szs f) (zda f).symm h3 i m hm)
    exact ⟨a,b,c,d⟩) (f.length - 1) (by omega)
   rw [h4] at hs he
   rw [show f.length - 1 + 1 - f.length = 0 by omega,List.drop_zero,List.take_length] at he
   exact ⟨t,ok,hs,he⟩
  ·rw [if_neg h4] at h; omega
 ·rw [if_neg h3] at h; exact absurd h h3
structure Lf where
 label:Int
 left:Int
 right:Int
deriving DecidableEq
def kid (len:Nat) (e:Nat -> Option Nat) (c:Int) (next:Nat):Option Nat :=
 if c = -1 then some next else if c ≠ next \/ len <= next then none else e next
def endF (t:List Lf):Nat -> Nat -> Option Nat
 | 0,_ => none
 | k + 1,i => match t[i]? with
  | none => none
  | some x => (kid t.length (endF t k) x.left (i + 1)).bind fun n => kid t.length (endF t k) x.right n
def endS (t:List Lf) (i:Nat):Option Nat:=endF t (t.length - i) i
theorem zhu {len:Nat} {e:Nat -> Option Nat} {c:Int} {next n:Nat} (h:kid len e c next = some n) (he:∀ m,e next = some m -> next < m /\ m <= len) (hn:next <= len):next <= n /\ n <= len:=by
 unfold kid at h
 by_cases h1:c = -1
 ·rw [if_pos h1] at h; cases h; omega
 ·rw [if_neg h1] at h
  split at h
  ·cases h
  ·have:=he n h; omega
theorem zko (t:List Lf):∀ k i n,endF t k i = some n -> i < n /\ n <= t.length:=by
 intro k
 induction k with
 | zero => intro i n h; simp [endF] at h
 | succ k ih =>
  intro i n h
  rw [endF] at h
  cases hx:t[i]? with
  | none => simp only [hx] at h; cases h
  | some x =>
   have hi:i < t.length:=(List.getElem?_eq_some_iff.1 hx).1
   simp only [hx] at h
   cases h1:kid t.length (endF t k) x.left (i + 1) with
   | none => rw [h1] at h; cases h
   | some m =>
    rw [h1] at h
    have k1:=zhu h1 (fun q hq => ih _ _ hq) hi
    have k2:=zhu (show kid t.length (endF t k) x.right m = some n from h) (fun q hq => ih _ _ hq) k1.2
    omega
theorem zpv (t:List Lf):∀ k i,t.length - i <= k -> endF t k i = endF t (t.length - i) i:=by
 have main:∀ k i j,t.length - i <= k -> t.length - i <= j -> endF t k i = endF t j i:=by
  intro k
  induction k with
  | zero =>
   intro i j h _
   cases j with
   | zero => rfl
   | succ j =>
    have:t[i]? = none:=List.getElem?_eq_none (by omega)
    simp [endF,this]
  | succ k ih =>
   intro i j h hj
   cases j with
   | zero =>
    have:t[i]? = none:=List.getElem?_eq_none (by omega)
    simp [endF,this]
   | succ j =>
    rw [endF,endF]
    cases hx:t[i]? with
    | none => rfl
    | some x =>
     have hi:i < t.length:=(List.getElem?_eq_some_iff.1 hx).1
     simp only
     have kk:∀ c next,i < next -> kid t.length (endF t k) c next = kid t.length (endF t j) c next:=fun c next hn => by
      unfold kid
      rw [ih next j (by omega) (by omega)]
     rw [kk _ _ (by omega)]
     cases h1:kid t.length (endF t j) x.left (i + 1) with
     | none => rfl
     | some m =>
      have:=zhu h1 (fun q hq => zko t _ _ _ hq) hi
      exact kk _ _ (by omega)
 intro k i h
 exact main k i _ h zn
theorem zkn (t:List Lf) (i:Nat) (x:Lf) (hx:t[i]? = some x):endS t i = (kid t.length (endS t) x.left (i + 1)).bind fun n => kid t.length (endS t) x.right n:=by
 have hi:i < t.length:=(List.getElem?_eq_some_iff.1 hx).1
 have e:t.length - i = (t.length - i - 1) + 1:=by omega
 have kk:∀ c next,i < next -> kid t.length (endF t (t.length - i - 1)) c next = kid t.length (endS t) c next:=fun c next hn => by
  unfold kid endS
  rw [zpv t _ next (by omega)]
 rw [endS,e,endF]
 simp only [hx]
 rw [kk _ _ (by omega)]
 cases h1:kid t.length (endS t) x.left (i + 1) with
 | none => rfl
 | some m =>
  have:=zhu h1 (fun q hq => zko t _ _ _ hq) hi
  exact kk _ _ (by omega)
theorem zg6 {t:List Lf} {i n:Nat} (h:endS t i = some n):i < n /\ n <= t.length:=zko t _ _ _ h
def zae (t:List Lf):Bool:=decide (t.length = 0) || (decide (t.length <= 31) && decide (endS t 0 = some t.length))
inductive Bt where
 | nil
 | node (label:Int) (l r:Bt)
def Bt.size:Bt -> Nat
 | .nil => 0
 | .node _ l r => l.size + r.size + 1
def Bt.at (p:Nat) (b:Bt):Int:=if b.size = 0 then -1 else p
def Bt.enc:Nat -> Bt -> List Lf
 | _,.nil => []
 | p,.node lab l r => ⟨lab,l.at (p + 1),r.at (p + 1 + l.size)⟩ :: (l.enc (p + 1) ++ r.enc (p + 1 + l.size))
theorem Bt.enc_len (b:Bt):∀ p,(b.enc p).length = b.size:=by
 induction b with
 | nil => intro p; rfl
 | node lab l r ihl ihr => intro p; simp [Bt.enc,Bt.size,ihl,ihr]
theorem Bt.nil_of_size {b:Bt} (h:b.size = 0):b = .nil:=by
 cases b with
 | nil => rfl
 | node => simp [Bt.size] at h
def Seg (t:List Lf) (p:Nat) (b:Bt):Prop:=∀ j,j < b.size -> t[p + j]? = (b.enc p)[j]?
theorem Seg.root {t:List Lf} {p:Nat} {lab:Int} {l r:Bt} (h:Seg t p (.node lab l r)):t[p]? = some ⟨lab,l.at (p + 1),r.at (p + 1 + l.size)⟩:=by
 have:=h 0 (by simp [Bt.size])
 simpa [Bt.enc] using this
theorem Seg.left {t:List Lf} {p:Nat} {lab:Int} {l r:Bt} (h:Seg t p (.node lab l r)):Seg t (p + 1) l:=fun j hj => by
 have:=h (j + 1) (by simp [Bt.size]; omega)
 rw [Bt.enc,List.getElem?_cons_succ,List.getElem?_append_left (by rw [Bt.enc_len]; exact hj)] at this
 rw [<- this]; congr 1; omega
theorem Seg.right {t:List Lf} {p:Nat} {lab:Int} {l r:Bt} (h:Seg t p (.node lab l r)):Seg t (p + 1 + l.size) r:=fun j hj => by
 have:=h (l.size + j + 1) (by simp [Bt.size]; omega)
 rw [Bt.enc,List.getElem?_cons_succ,List.getElem?_append_right (by rw [Bt.enc_len]; omega),Bt.enc_len] at this
 rw [show l.size + j - l.size = j by omega] at this
 rw [<- this]; congr 1; omega
theorem Seg.node {t:List Lf} {p:Nat} {lab:Int} {l r:Bt} (h0:t[p]? = some ⟨lab,l.at (p + 1),r.at (p + 1 + l.size)⟩) (hl:Seg t (p + 1) l) (hr:Seg t (p + 1 + l.size) r):Seg t p (.node lab l r):=fun j hj => by
 cases j with
 | zero => rw [Nat.add_zero,h0]; simp [Bt.enc]
 | succ j =>
  rw [Bt.enc,List.getElem?_cons_succ]
  simp only [Bt.size] at hj
  by_cases hjl:j < l.size
  ·rw [List.getElem?_append_left (by rw [Bt.enc_len]; exact hjl),<- hl j hjl]; congr 1; omega
  ·rw [List.getElem?_append_right (by rw [Bt.enc_len]; omega),Bt.enc_len,<- hr (j - l.size) (by omega)]; congr 1; omega
theorem bt_at (t:List Lf):∀ d i n,n - i <= d -> endS t i = some n -> ∃ b:Bt,0 < b.size /\ i + b.size = n /\ Seg t i b:=by
 intro d
 induction d with
 | zero => intro i n h he; have:=zg6 he; omega
 | succ d ih =>
  intro i n h he
  have hin:=zg6 he
  obtain ⟨x,hx⟩:∃ x,t[i]? = some x:=⟨t[i]'(by omega),List.getElem?_eq_getElem _⟩
  rw [zkn t i x hx] at he
  have kk:∀ c next m,i < next -> next <= t.length -> m <= n -> kid t.length (endS t) c next = some m -> ∃ b:Bt,next + b.size = m /\ Seg t next b /\ c = b.at next:=by
   intro c next m hn hl hm hk
   unfold kid at hk
   by_cases h1:c = -1
   ·rw [if_pos h1] at hk; cases hk
    exact ⟨.nil,rfl,fun j hj => by simp [Bt.size] at hj,by simp [Bt.at,Bt.size,h1]⟩
   ·rw [if_neg h1] at hk
    by_cases h2:c ≠ next \/ t.length <= next
    ·rw [if_pos h2] at hk; cases hk
    ·rw [if_neg h2] at hk
     obtain ⟨b,b1,b2,b3⟩:=ih next m (by omega) hk
     exact ⟨b,b2,b3,by unfold Bt.at; rw [if_neg (by omega)]; omega⟩
  cases h1:kid t.length (endS t) x.left (i + 1) with
  | none => rw [h1] at he; cases he
  | some m =>
   rw [h1] at he
   have he:kid t.length (endS t) x.right m = some n:=he
   have g1:=zhu h1 (fun q hq => zg6 hq) (by omega)
   have g2:=zhu he (fun q hq => zg6 hq) g1.2
   obtain ⟨l,l1,l2,l3⟩:=kk _ _ _ (by omega) (by omega) g2.1 h1
   obtain ⟨r,r1,r2,r3⟩:=kk _ _ _ (by omega) g1.2 zn he
   refine ⟨.node x.label l r,by simp [Bt.size],by simp only [Bt.size]; omega,Seg.node ?_ l2 (by rw [l1]; exact r2)⟩
   rw [hx,<- l3,l1,<- r3]
theorem end_at (t:List Lf):∀ (b:Bt) (p:Nat),0 < b.size -> p + b.size <= t.length -> Seg t p b -> endS t p = some (p + b.size):=by
 intro b
 induction b with
 | nil => intro p h; simp [Bt.size] at h
 | node lab l r ihl ihr =>
  intro p _ hlen hs
  simp only [Bt.size] at hlen ⊢
  rw [zkn t p _ hs.root]
  have kk:∀ (c:Bt) next,(0 < c.size -> endS t next = some (next + c.size)) -> next + c.size <= t.length -> kid t.length (endS t) (c.at next) next = some (next + c.size):=by
   intro c next h1 h2
   unfold kid Bt.at
   by_cases h0:c.size = 0
   ·simp [h0]
   ·rw [if_neg h0,if_neg (by omega),if_neg (by omega),h1 (by omega)]
  simp only
  rw [kk l (p + 1) (fun h => ihl (p + 1) h (by omega) hs.left) (by omega)]
  simp only [Option.bind_some]
  rw [kk r (p + 1 + l.size) (fun h => ihr _ h (by omega) hs.right) (by omega)]
  congr 1; omega
theorem zfg {t:List Lf} (h:zae t = true):t.length <= 31 /\ ∃ b:Bt,b.size = t.length /\ Seg t 0 b:=by
 unfold zae at h
 simp only [Bool.or_eq_true,Bool.and_eq_true,decide_eq_true_eq] at h
 rcases h with h | ⟨h1,h2⟩
 ·exact ⟨by omega,.nil,by simp [Bt.size,h],fun j hj => by simp [Bt.size] at hj⟩
 ·obtain ⟨b,_,b2,b3⟩:=bt_at t _ 0 _ zn h2
  exact ⟨h1,b,by omega,b3⟩
theorem zm3 {t:List Lf} {b:Bt} (h31:t.length <= 31) (hb:b.size = t.length) (hs:Seg t 0 b):zae t = true:=by
 unfold zae
 by_cases h0:t.length = 0
 ·simp [h0]
 ·have:=end_at t b 0 (by omega) (by omega) hs
  rw [Nat.zero_add,hb] at this
  simp [this,h31]
theorem Seg.eq {t:List Lf} {b:Bt} (hb:b.size = t.length) (hs:Seg t 0 b):t = b.enc 0:=by
 apply List.ext_getElem?
 intro j
 by_cases hj:j < b.size
 ·rw [<- hs j hj,Nat.zero_add]
 ·rw [List.getElem?_eq_none (by omega),List.getElem?_eq_none (by rw [Bt.enc_len]; omega)]
theorem Seg.self (b:Bt):Seg (b.enc 0) 0 b:=fun j hj => by rw [Nat.zero_add]
theorem zq5 (t:List Lf):∀ (b:Bt) (p:Nat),Seg t p b -> ∀ i,i < b.size -> ∃ x,t[p + i]? = some x /\ (x.left = -1 \/ (((p + i:Nat):Int) < x.left /\ x.left < ((p + b.size:Nat):Int))) /\ (x.right = -1 \/ (((p + i:Nat):Int) < x.right /\ x.right < ((p + b.size:Nat):Int))):=by
 intro b
 induction b with
 | nil => intro p _ i hi; simp [Bt.size] at hi
 | node lab l r ihl ihr =>
  intro p hs i hi
  simp only [Bt.size] at hi ⊢
  by_cases h0:i = 0
  ·subst h0
   refine ⟨_,hs.root,?_,?_⟩
   ·simp only [Bt.at]; split <;> omega
   ·simp only [Bt.at]; split <;> omega
  ·by_cases hl:i - 1 < l.size
   ·obtain ⟨x,h1,h2,h3⟩:=ihl (p + 1) hs.left (i - 1) hl
    refine ⟨x,?_,?_,?_⟩
    ·rw [<- h1]; congr 1; omega
    ·omega
    ·omega
   ·obtain ⟨x,h1,h2,h3⟩:=ihr (p + 1 + l.size) hs.right (i - 1 - l.size) (by omega)
    refine ⟨x,?_,?_,?_⟩
    ·rw [<- h1]; congr 1; omega
    ·omega
    ·omega
def KidsOk (t:List Lf):Prop:=∀ (i:Nat) (x:Lf),t[i]? = some x -> (x.left = -1 \/ ((i:Int) < x.left /\ x.left < (t.length:Int))) /\ (x.right = -1 \/ ((i:Int) < x.right /\ x.right < (t.length:Int)))
theorem kids_ok {t:List Lf} (h:zae t = true):KidsOk t:=by
 obtain ⟨_,b,hb,hs⟩:=zfg h
 intro i x hx
 have hi:i < t.length:=(List.getElem?_eq_some_iff.1 hx).1
 obtain ⟨y,h1,h2,h3⟩:=zq5 t b 0 hs i (by omega)
 rw [Nat.zero_add,hx] at h1
 cases h1
 omega
def g1 (b:Nat):Nat:=((b / 2) &&& 85) + (b &&& 85)
def g2 (b:Nat):Nat:=((b / 4) &&& 51) + (b &&& 51)
def g3 (b:Nat):Nat:=((b / 16) + b) &&& 15
def f1 (x M:Nat):Nat:=((x / 2) &&& M) + (x &&& M)
def f2 (x M:Nat):Nat:=((x / 4) &&& M) + (x &&& M)
def f3 (x M:Nat):Nat:=((x / 16) + x) &&& M
def mvd (c d:Int):Int:=if c = -1 then -1 else c + d
def shL (d:Int) (x:Lf):Lf:=⟨x.label,mvd x.left d,mvd x.right d⟩
def zcx (d:Int) (t:List Lf):List Lf:=t.map (shL d)
theorem zhm (d:Int) (t:List Lf):(zcx d t).length = t.length:=by simp [zcx]
theorem at_mv (b:Bt) (p q:Nat) (d:Int) (h:(q:Int) = p + d):mvd (b.at p) d = b.at q:=by
 unfold mvd Bt.at
 by_cases h0:b.size = 0
 ·simp [h0]
 ·rw [if_neg h0,if_neg h0,if_neg (by omega)]; omega
theorem zjb (b:Bt):∀ (p q:Nat) (d:Int),(q:Int) = p + d -> zcx d (b.enc p) = b.enc q:=by
 induction b with
 | nil => intros; rfl
 | node lab l r ihl ihr =>
  intro p q d h
  have h1:=ihl (p + 1) (q + 1) d (by omega)
  have h2:=ihr (p + 1 + l.size) (q + 1 + l.size) d (by omega)
  unfold zcx at h1 h2 ⊢
  simp only [Bt.enc,List.map_cons,List.map_append,h1,h2,shL]
  rw [at_mv l (p + 1) (q + 1) d (by omega),at_mv r (p + 1 + l.size) (q + 1 + l.size) d (by omega)]
def joinT (lab:Int) (l r:List Lf):List Lf:=⟨lab,if l.length = 0 then -1 else 1,if r.length = 0 then -1 else 1 + (l.length:Int)⟩ :: (zcx 1 l ++ zcx (1 + (l.length:Int)) r)
theorem zpf (lab:Int) (l r:Bt):joinT lab (l.enc 0) (r.enc 0) = (Bt.node lab l r).enc 0:=by
 unfold joinT
 rw [zjb l 0 1 1 (by omega),zjb r 0 (1 + l.size) _ (by rw [Bt.enc_len]; omega),Bt.enc_len,Bt.enc_len]
 simp only [Bt.enc,Bt.at,Nat.zero_add]
 have e:(if r.size = 0 then (-1:Int) else 1 + (l.size:Int)) = if r.size = 0 then -1 else ((1 + l.size:Nat):Int):=by
  by_cases h:r.size = 0
  ·rw [if_pos h,if_pos h]
  ·rw [if_neg h,if_neg h]; omega
 rw [e]
 rfl
def btAt (t:List Lf):Nat -> Nat -> Bt
 | 0,_ => .nil
 | k + 1,i => match t[i]? with
  | none => .nil
  | some x => .node x.label (if x.left = -1 then .nil else btAt t k x.left.toNat) (if x.right = -1 then .nil else btAt t k x.right.toNat)
def btOf (t:List Lf):Bt:=btAt t t.length 0
theorem zp5 (t:List Lf):∀ (b:Bt) (p k:Nat),0 < b.size -> Seg t p b -> b.size <= k -> btAt t k p = b:=by
 intro b
 induction b with
 | nil => intro p k h; simp [Bt.size] at h
 | node lab l r ihl ihr =>
  intro p k _ hs hk
  obtain ⟨k,rfl⟩:∃ j,k = j + 1:=⟨k - 1,by simp [Bt.size] at hk; omega⟩
  simp only [Bt.size] at hk
  have kk:∀ (c:Bt) (next:Nat),(0 < c.size -> btAt t k next = c) -> (if c.at next = -1 then Bt.nil else btAt t k (c.at next).toNat) = c:=fun c next h => by
   unfold Bt.at
   by_cases h0:c.size = 0
   ·rw [if_pos h0,if_pos rfl,Bt.nil_of_size h0]
   ·rw [if_neg h0,if_neg (by omega),Int.toNat_natCast,h (by omega)]
  simp only [btAt,hs.root]
  rw [kk l (p + 1) (fun h => ihl _ k h hs.left (by omega)),kk r (p + 1 + l.size) (fun h => ihr _ k h hs.right (by omega))]
theorem zdh {t:List Lf} (h:zae t = true):t.length <= 31 /\ (btOf t).size = t.length /\ Seg t 0 (btOf t) /\ t = (btOf t).enc 0:=by
 obtain ⟨h31,b,hb,hs⟩:=zfg h
 have e:btOf t = b:=by
  by_cases h0:b.size = 0
  ·have:t = []:=List.eq_nil_of_length_eq_zero (by omega)
   subst this
   rw [Bt.nil_of_size h0]; rfl
  ·exact zp5 t b 0 t.length (by omega) hs (by omega)
 rw [e]
 exact ⟨h31,hb,hs,Seg.eq hb hs⟩
theorem zex (b:Bt) (h:b.size <= 31):zae (b.enc 0) = true:=zm3 (by rw [Bt.enc_len]; exact h) (by rw [Bt.enc_len]) (Seg.self b)
theorem zl0 (b:Bt):btOf (b.enc 0) = b:=by
 by_cases h0:b.size = 0
 ·rw [Bt.nil_of_size h0]; rfl
 ·exact zp5 _ b 0 _ (by omega) (Seg.self b) (by rw [Bt.enc_len]; exact zn)
def Bt.mir:Bt -> Bt
 | .nil => .nil
 | .node lab l r => .node lab r.mir l.mir
def Bt.code:Bt -> List Int
 | .nil => [0]
 | .node lab l r => (1 + lab) :: (l.code ++ r.code)
theorem Bt.code_len (b:Bt):b.code.length = 2 * b.size + 1:=by
 induction b with
 | nil => rfl
 | node lab l r ihl ihr => simp only [Bt.code,Bt.size,List.length_cons,List.length_append,ihl,ihr]; omega
def Bt.pos:Bt -> Prop
 | .nil => True
 | .node lab l r => 0 <= lab /\ l.pos /\ r.pos
theorem zrw (a:Bt):∀ (b:Bt) (x y:List Int),a.pos -> b.pos -> a.code ++ x = b.code ++ y -> a = b /\ x = y:=by
 induction a with
 | nil =>
  intro b x y _ hb h
  cases b with
  | nil => exact ⟨rfl,by simpa [Bt.code] using h⟩
  | node lab l r =>
   simp only [Bt.code,List.cons_append,List.nil_append,List.cons.injEq] at h
   have:=hb.1
   omega
 | node lab l r ihl ihr =>
  intro b x y ha hb h
  cases b with
  | nil =>
   simp only [Bt.code,List.cons_append,List.nil_append,List.cons.injEq] at h
   have:=ha.1
   omega
  | node lab2 l2 r2 =>
   simp only [Bt.code,List.cons_append,List.append_assoc,List.cons.injEq] at h
   obtain ⟨h1,h2⟩:=h
   obtain ⟨rfl,h3⟩:=ihl _ _ _ ha.2.1 hb.2.1 h2
   obtain ⟨rfl,h4⟩:=ihr _ _ _ ha.2.2 hb.2.2 h3
   exact ⟨by rw [show lab = lab2 by omega],h4⟩
theorem pos_enc (b:Bt):∀ p,(∀ m ∈ b.enc p,0 <= m.label) -> b.pos:=by
 induction b with
 | nil => intro p _; trivial
 | node lab l r ihl ihr =>
  intro p h
  simp only [Bt.enc,List.mem_cons,List.mem_append] at h
  exact ⟨h _ (.inl rfl),ihl _ fun m hm => h m (.inr (.inl hm)),ihr _ fun m hm => h m (.inr (.inr hm))⟩
def cmpI (a b:Int):Int:=if a < b then -1 else if b < a then 1 else 0
def cmpL:List Int -> List Int -> Int
 | [],[] => 0
 | [],_ :: _ => -1
 | _ :: _,[] => 1
 | a :: x,b :: y => if cmpI a b = 0 then cmpL x y else cmpI a b
theorem zp1 (a b:Int):cmpI a b = -cmpI b a:=by unfold cmpI; (repeat' split); all_goals omega
theorem zc8 {a b:Int}:cmpI a b = 0 ↔ a = b:=by unfold cmpI; (repeat' split); all_goals omega
theorem zi2 {a b:Int}:cmpI a b < 0 ↔ a < b:=by unfold cmpI; (repeat' split); all_goals omega
theorem zkq {a b:Int}:cmpI a b <= 0 ↔ a <= b:=by unfold cmpI; (repeat' split); all_goals omega
theorem zg8:∀ x y,cmpL x y = -cmpL y x
 | [],[] => rfl
 | [],_ :: _ => rfl
 | _ :: _,[] => rfl
 | a :: x,b :: y => by
  have h1:=zp1 a b
  have h2:=zg8 x y
  simp only [cmpL]
  by_cases h:cmpI a b = 0
  ·rw [if_pos h,if_pos (by omega),h2]
  ·rw [if_neg h,if_neg (by omega),h1]
theorem ze2:∀ x y,cmpL x y = 0 ↔ x = y
 | [],[] => by simp [cmpL]
 | [],_ :: _ => by simp [cmpL]
 | _ :: _,[] => by simp [cmpL]
 | a :: x,b :: y => by
  have h1:=@zc8 a b
  have h2:=ze2 x y
  simp only [cmpL,List.cons.injEq]
  by_cases h:cmpI a b = 0
  ·rw [if_pos h,h2]; simp [h1.1 h]
  ·rw [if_neg h]
   constructor
   ·intro h0; exact absurd h0 h
   ·intro h0; exact absurd (h1.2 h0.1) h
theorem zhy:∀ x y z,cmpL x y <= 0 -> cmpL y z <= 0 -> cmpL x z <= 0 /\ (cmpL x y < 0 -> cmpL x z < 0) /\ (cmpL y z < 0 -> cmpL x z < 0)
 | [],y,[] => by
  intro h1 h2
  cases y with
  | nil => simp [cmpL]
  | cons b y => simp [cmpL] at h2
 | [],y,c :: z => by intro _ _; simp [cmpL]
 | a :: x,[],z => by intro h; simp [cmpL] at h
 | a :: x,b :: y,[] => by intro _ h; simp [cmpL] at h
 | a :: x,b :: y,c :: z => by
  have ih:=zhy x y z
  have n1:=@zi2 a b; have n2:=@zi2 b c; have n3:=@zi2 a c
  have l1:=@zkq a b; have l2:=@zkq b c; have l3:=@zkq a c
  have z1:=@zc8 a b; have z2:=@zc8 b c; have z3:=@zc8 a c
  simp only [cmpL]
  intro h1 h2
  by_cases e1:cmpI a b = 0
  ·rw [if_pos e1] at h1 ⊢
   have ea:=z1.1 e1
   subst ea
   by_cases e2:cmpI a c = 0
   ·simp only [if_pos e2] at h2 ⊢
    exact ih h1 h2
   ·simp only [if_neg e2] at h2 ⊢
    exact ⟨h2,fun _ => by omega,fun h => h⟩
  ·rw [if_neg e1] at h1 ⊢
   have hab:a < b:=by omega
   have hbc:b <= c:=by
    by_cases e2:cmpI b c = 0
    ·exact Int.le_of_eq (z2.1 e2)
    ·rw [if_neg e2] at h2; exact l2.1 h2
   have e3:¬ cmpI a c = 0:=by omega
   have e4:cmpI a c < 0:=n3.2 (by omega)
   rw [if_neg e3]
   exact ⟨by omega,fun _ => e4,fun _ => e4⟩
def nf (t:List Lf):List Lf:=if zae t = false then [] else t
def ze0 (a b:List Lf):Int:=if cmpI (nf a).length (nf b).length = 0 then cmpL (btOf (nf a)).code (btOf (nf b)).code else cmpI (nf a).length (nf b).length
theorem nf_of {t:List Lf} (h:zae t = true):nf t = t:=by unfold nf; rw [if_neg (by rw [h]; simp)]
def cntF (K:Nat):Nat -> Nat -> Nat -> Nat
 | 0,_,_ => 1
 | f + 1,o,l => if o = 0 then 1 else (if 1 < o \/ l = 0 then cntF K f (o - 1) l else 0) + (if 0 < l then K * cntF K f (o + 1) (l - 1) else 0)
def Bt.lt (K:Nat):Bt -> Prop
 | .nil => True
 | .node lab l r => 0 <= lab /\ lab < K /\ l.lt K /\ r.lt K
theorem Bt.lt.pos {K:Nat}:∀ {b:Bt},b.lt K -> b.pos
 | .nil,_ => trivial
 | .node _ _ _,h => ⟨h.1,Bt.lt.pos h.2.2.1,Bt.lt.pos h.2.2.2⟩
theorem zp0 (c:Int) (x y:List Int):cmpL (c :: x) (c :: y) = cmpL x y:=by
 simp only [cmpL]
 rw [if_pos (zc8.2 rfl)]
def cn (K o l:Nat):Nat:=cntF K (2 * l + o) o l
def digB (x:Int):UInt8:=UInt8.ofNat (48 + x.toNat)
def Bt.text:Bt -> List UInt8
 | .nil => [45]
 | .node lab l r => 40 :: digB lab :: 32 :: (l.text ++ 32 :: (r.text ++ [41]))
def Bt.low:Bt -> Prop
 | .nil => True
 | .node lab l r => 0 <= lab /\ lab <= 7 /\ l.low /\ r.low
theorem Bt.text_len (b:Bt):b.text.length = 6 * b.size + 1:=by
 induction b with
 | nil => rfl
 | node lab l r ihl ihr => simp only [Bt.text,Bt.size,List.length_cons,List.length_append,List.length_nil,ihl,ihr]; omega
theorem low_enc (b:Bt):∀ p,(∀ m ∈ b.enc p,0 <= m.label /\ m.label <= 7) ↔ b.low:=by
 induction b with
 | nil => intro p; simp [Bt.enc,Bt.low]
 | node lab l r ihl ihr =>
  intro p
  have h1:=ihl (p + 1); have h2:=ihr (p + 1 + l.size)
  simp only [Bt.enc,List.mem_cons,List.mem_append,Bt.low]
  constructor
  ·intro h
   have h0:=h _ (.inl rfl)
   exact ⟨h0.1,h0.2,h1.1 fun m hm => h m (.inr (.inl hm)),h2.1 fun m hm => h m (.inr (.inr hm))⟩
  ·rintro ⟨a,b,c,d⟩ m (rfl | hm | hm)
   ·exact ⟨a,b⟩
   ·exact h1.2 c m hm
   ·exact h2.2 d m hm
def zch (t:List Lf):List UInt8 × Int:=if zae t = false then ([],2) else if t.any (fun m => decide (7 < m.label)) then ([],1) else ((btOf t).text,0)
end Go.Proofs.YthdabkmkgkkmcaaGreatDoor
