/- Part 27 of the proof; it says: lemmas and contracts. No conditions but those that each theorem states. -/
import Derived.Deep.DeepCutAuto
import Derived.Test.YthdabkmkgkkmcaaGreatDoorPb01
import Derived.Test.YthdabkmkgkkmcaaGreatDoorPb26
set_option linter.unusedSimpArgs false
set_option linter.unusedVariables false
set_option maxRecDepth 100000
set_option maxHeartbeats 32000000
namespace Go.Proofs.YthdabkmkgkkmcaaGreatDoor
open Go.RowKit
theorem zid {w:World} {B g n cap:Nat} {f:List Mk} {m m':Mk} {j:Nat} (h:MO w B (.slice (some ⟨g,0,none⟩) n cap) f) (hn:f.length = n) (hj:f[j]? = some m) (q:Nat) (u:Value)
  (hm:0 <= m'.op /\ m'.op <= 255) (hc:m'.cells = m.cells.set q u) (hq:q < 5) :
  MO (w.setCell ⟨g,j * 5 + q,none⟩ u) B (.slice (some ⟨g,0,none⟩) n cap) (f.set j m'):=by
 obtain ⟨h0,h1⟩:=h
 subst hn
 have hs:=(h1.stored (j * 5 + q) u).1
 have hl:(f.set j m').length = f.length:=by simp
 have hjl:j < f.length:=(List.getElem?_eq_some_iff.1 hj).1
 refine ⟨fun a ha => ?_,?_⟩
 ·rcases List.mem_or_eq_of_mem_set ha with h | h
  ·exact h0 a h
  ·rw [h]; exact hm
 ·rw [hl]
  have e:zbl (f.set j m') = (zbl f).set (j * 5 + q) u:=by
   apply List.ext_getElem?
   intro i
   have hi:i = i / 5 * 5 + i % 5:=by omega
   by_cases hil:i < f.length * 5
   ·have h5:i / 5 < f.length:=by omega
    by_cases hij:i / 5 = j
    ·have e1:(f.set j m')[i / 5]? = some m':=by rw [hij,List.getElem?_set_self hjl]
     have e2:=zb9 (f.set j m') (i / 5) m' e1 (i % 5) (by omega)
     rw [<- hi] at e2
     rw [e2,hc,List.getElem?_set,List.getElem?_set]
     have hml:m.cells.length = 5:=rfl
     have hfl:=zc6 f
     by_cases hqq:q = i % 5
     ·rw [if_pos hqq,if_pos (by omega),if_pos (by omega),if_pos (by omega)]
     ·rw [if_neg hqq,if_neg (by omega)]
      have e3:=zb9 f (i / 5) m (by rw [hij]; exact hj) (i % 5) (by omega)
      rw [<- hi] at e3
      exact e3.symm
    ·obtain ⟨a,ha⟩:∃ a,f[i / 5]? = some a:=⟨f[i / 5],List.getElem?_eq_getElem h5⟩
     have e1:(f.set j m')[i / 5]? = some a:=by rw [List.getElem?_set_ne (by omega)]; exact ha
     have e2:=zb9 (f.set j m') (i / 5) a e1 (i % 5) (by omega)
     have e3:=zb9 f (i / 5) a ha (i % 5) (by omega)
     rw [<- hi] at e2 e3
     rw [e2,List.getElem?_set_ne (by omega),e3]
   ·rw [List.getElem?_eq_none (by rw [zc6,hl]; omega),List.getElem?_eq_none (by rw [List.length_set,zc6]; omega)]
  rw [e]; exact hs
theorem MO.far {w:World} {B:Nat} {v:Value} {f:List Mk} (h:MO w B v f) {p:Addr} (hp:v.ownBlock ≠ some p.block) (u:Value):MO (w.setCell p u) B v f:=⟨h.1,ownsRow_setCell_other h.2 hp u⟩
theorem MS.at5 {w:World} {b o n c:Nat} {f:List Mk} {j:Nat} {m:Mk} (h:MS w (.slice (some ⟨b,o,none⟩) n c) f) (hj:f[j]? = some m):M5 w b (o + j * 5) m:=by
 obtain ⟨_,A,c',hv,_,_,hc⟩:=h
 obtain ⟨b',o',hA,_,hm⟩:=hc (by have:=(List.getElem?_eq_some_iff.1 hj).1; omega)
 rw [hA] at hv
 simp only [Value.slice.injEq,Option.some.injEq,Addr.mk.injEq,and_true] at hv
 obtain ⟨⟨rfl,rfl⟩,_,_⟩:=hv
 exact hm j m hj
theorem zf3 {w:World} {B g n cap:Nat} {f:List Mk} (h:MO w B (.slice (some ⟨g,0,none⟩) n cap) f):∀ i,w.frozen? ⟨g,i,none⟩ = false:=by
 intro i
 rcases h.2.2 with ⟨h',_⟩ | ⟨g',cap',cur,h',_,hg,_⟩
 ·simp at h'
 ·simp only [Value.slice.injEq,Option.some.injEq,Addr.mk.injEq,and_true,true_and] at h'
  obtain ⟨rfl,_,_⟩:=h'
  exact frozen_of_row w g i cur _ hg
theorem znz {f:List Mk} {j:Nat} {m:Mk} (h:f[j]? = some m):f.set j m = f:=by
 apply List.ext_getElem?
 intro i
 by_cases hij:j = i
 ·subst hij; rw [List.getElem?_set_self (List.getElem?_eq_some_iff.1 h).1,h]
 ·rw [List.getElem?_set_ne hij]
theorem MO.shape {w:World} {B n:Nat} {v:Value} {f:List Mk} (h:MO w B v f) (hn:n = f.length) (hp:0 < n):∃ g cap,v = .slice (some ⟨g,0,none⟩) n cap /\ B <= g /\ g < w.heap.size:=by
 subst hn
 rcases h.2.2 with ⟨_,h0⟩ | ⟨g,cap,cur,hv,hB,hg,_⟩
 ·omega
 ·exact ⟨g,cap,hv,hB,lt_of_block hg⟩
theorem MS.cut {w:World} {A:Option Addr} {n c:Nat} {f:List Mk} (h:MS w (.slice A n c) f) (k:Nat) (hk:k <= n) (A':Option Addr) (hA':0 < k -> A' = A):MS w (.slice A' k c) (f.take k):=by
 obtain ⟨h0,A1,c1,hv,h1,h2,h3⟩:=h
 simp only [Value.slice.injEq] at hv
 obtain ⟨rfl,rfl,rfl⟩:=hv
 have hl:(f.take k).length = k:=by rw [List.length_take]; omega
 refine ⟨fun m hm => h0 m (List.mem_of_mem_take hm),A',c,by rw [hl],by omega,h2,fun hp => ?_⟩
 rw [hl] at hp
 obtain ⟨b,o,hA,hb,hm⟩:=h3 (by omega)
 refine ⟨b,o,(hA' hp).trans hA,hb,fun i m hi => hm i m ?_⟩
 rw [List.getElem?_take] at hi
 by_cases hik:i < k
 ·rwa [if_pos hik] at hi
 ·rw [if_neg hik] at hi; cases hi
end Go.Proofs.YthdabkmkgkkmcaaGreatDoor
