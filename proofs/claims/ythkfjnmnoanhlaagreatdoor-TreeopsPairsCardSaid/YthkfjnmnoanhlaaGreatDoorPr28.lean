/- Part 28 of the proof; it says: lemmas and contracts. No conditions but those that each theorem states. -/
import Derived.StillTailTactics
import Derived.Test.YthkfjnmnoanhlaaGreatDoorPr01
import Derived.Test.YthkfjnmnoanhlaaGreatDoorPr05
import Derived.Test.YthkfjnmnoanhlaaGreatDoorPr09
import Derived.Test.YthkfjnmnoanhlaaGreatDoorPr15
import Derived.Test.YthkfjnmnoanhlaaGreatDoorPr22
set_option linter.unusedSimpArgs false
set_option linter.unusedVariables false
set_option linter.unusedSectionVars false
set_option maxRecDepth 100000
set_option maxHeartbeats 32000000
namespace Go.Proofs.YthkfjnmnoanhlaaGreatDoor
open Go.RowKit
theorem zb1 {α:Type} {f g:List α} {k:Nat} {x y:α} (hx:f[k]? = some x) (hy:g[k]? = some y) (h:f.take k = g.take k):(f = g -> x = y) /\ (x = y -> f.take (k + 1) = g.take (k + 1)):=by
 refine ⟨fun e => ?_,fun e => ?_⟩
 ·subst e; rw [hx] at hy; exact Option.some.inj hy
 ·rw [List.take_add_one,List.take_add_one,hx,hy,h,e]
theorem zgg (f g:List (Int)) (v u:Value) (w:World) (hv:N1 w v f) (hu:N1 w u g) (hl:f.length <= 1000000) :
  Calls Tryz.prog 106 #[v,u] w fun e w' => e = .returned (.bool (decide (f = g))) /\ Below w.heap.size w w':=by
 obtain ⟨A,c,rfl,hc1,hc2,hcell⟩:=hv.open
 obtain ⟨A2,c2,rfl,hd1,hd2,hdell⟩:=hu.open
 obtain ⟨n,hn⟩:=zx f.length
 obtain ⟨k2,hk2⟩:=zx g.length
 rw [<- hn] at hc1 hl ⊢
 rw [<- hk2] at hd1 ⊢
 have HN:=zh hn; have HK:=zh hk2
 have HC:=zh hcell; have HDC:=zh hdell; clear hcell hdell hv hu
 by_cases hne:n = k2
 ·subst hne
  clear hn hk2
  have hnn:((n:Int) != n) = false:=by simp
  obtain ⟨t,ht⟩:=zx (decide (f = g))
  rw [<- ht]
  have HT:=zh ht; clear ht
  go_enter Tryz.func106,Tryz.ntmps106
  go_wp2
  go_loopg [5] n (fun gk q wr => ∃ k:Nat,k <= n /\ gk = n - k /\ q = .int .i64 k /\ Below w.heap.size w wr /\ f.take k = g.take k)
  case atStart => exact ⟨0,Nat.zero_le _,rfl,rfl,Below.refl _ _,by simp⟩
  case round =>
   obtain ⟨k,hk,rfl,rfl,hb,heq⟩:=hrel
   have HB:=zh hb; clear hb
   have HE:=zh heq; clear heq
   by_cases hlt:k < n
   ·obtain ⟨x,hx⟩:∃ x,f[k]? = some x:=⟨f[k]'(by rw [<- HN.out]; exact hlt),List.getElem?_eq_getElem _⟩
    obtain ⟨y,hy⟩:∃ y,g[k]? = some y:=⟨g[k]'(by rw [<- HK.out]; exact hlt),List.getElem?_eq_getElem _⟩
    obtain ⟨b,o,rfl,hb,hc⟩:=HC.out k x hx
    obtain ⟨b2,o2,rfl,hb2,hc'⟩:=HDC.out k y hy
    have c0:=(HB.out.cell (p:=⟨b,_,none⟩) hb).trans hc
    have d0:=(HB.out.cell (p:=⟨b2,_,none⟩) hb2).trans hc'
    clear hc hc'
    have hiff:=zb1 hx hy HE.out
    have HI:=zh hiff; clear hiff
    have HX:=zh hx; have HY:=zh hy
    clear hx hy
    by_cases hxy:x = y
    ·subst hxy
     have HFF:=zh (HI.out.2 rfl)
     go_wp2
     first | go_region | fail
     go_wp2
     go_roundg (n - (k + 1))
     case rel => exact ⟨k + 1,by omega,rfl,by go_num,HB.out.drew,HFF.out⟩
     case measure => omega
    ·have hfg:f ≠ g:=fun h => hxy (HI.out.1 h)
     have hff:t = false:=by rw [HT.out]; simp [hfg]
     have HFF:=zh hff
     have hxy':((x:Int) != y) = true:=by rw [bne_iff_ne]; exact hxy
     clear hxy hfg hff
     go_wp2
     first | go_region | fail
     go_wp2
     go_returns
     exact ⟨by rw [HFF.out]; rfl,HB.out.drew⟩
   ·go_wp2
    go_returns
    refine ⟨?_,HB.out⟩
    have hkn:k = n:=by omega
    have h:=HE.out
    rw [hkn] at h
    rw [List.take_of_length_le (by rw [<- HN.out]; exact zn),List.take_of_length_le (by rw [<- HK.out]; exact zn)] at h
    rw [HT.out]; simp [h]
 ·have hnn:((n:Int) != k2) = true:=by rw [bne_iff_ne]; omega
  have e:decide (f = g) = false:=by
   rw [decide_eq_false_iff_not]; intro h; subst h; omega
  rw [e]
  clear hn hk2 e hne
  go_enter Tryz.func106,Tryz.ntmps106
  go_wp2
  go_returns
  exact ⟨rfl,Below.refl _ _⟩
theorem zmp (f g:List (Bool)) (v u:Value) (w:World) (hv:NB w v f) (hu:NB w u g) (hl:f.length <= 1000000) :
  Calls Tryz.prog 64 #[v,u] w fun e w' => e = .returned (.bool (decide (f = g))) /\ Below w.heap.size w w':=by
 obtain ⟨A,c,rfl,hc1,hc2,hcell⟩:=hv.open
 obtain ⟨A2,c2,rfl,hd1,hd2,hdell⟩:=hu.open
 obtain ⟨n,hn⟩:=zx f.length
 obtain ⟨k2,hk2⟩:=zx g.length
 rw [<- hn] at hc1 hl ⊢
 rw [<- hk2] at hd1 ⊢
 have HN:=zh hn; have HK:=zh hk2
 have HC:=zh hcell; have HDC:=zh hdell; clear hcell hdell hv hu
 by_cases hne:n = k2
 ·subst hne
  clear hn hk2
  have hnn:((n:Int) != n) = false:=by simp
  obtain ⟨t,ht⟩:=zx (decide (f = g))
  rw [<- ht]
  have HT:=zh ht; clear ht
  go_enter Tryz.func64,Tryz.ntmps64
  go_wp2
  go_loopg [5] n (fun gk q wr => ∃ k:Nat,k <= n /\ gk = n - k /\ q = .int .i64 k /\ Below w.heap.size w wr /\ f.take k = g.take k)
  case atStart => exact ⟨0,Nat.zero_le _,rfl,rfl,Below.refl _ _,by simp⟩
  case round =>
   obtain ⟨k,hk,rfl,rfl,hb,heq⟩:=hrel
   have HB:=zh hb; clear hb
   have HE:=zh heq; clear heq
   by_cases hlt:k < n
   ·obtain ⟨x,hx⟩:∃ x,f[k]? = some x:=⟨f[k]'(by rw [<- HN.out]; exact hlt),List.getElem?_eq_getElem _⟩
    obtain ⟨y,hy⟩:∃ y,g[k]? = some y:=⟨g[k]'(by rw [<- HK.out]; exact hlt),List.getElem?_eq_getElem _⟩
    obtain ⟨b,o,rfl,hb,hc⟩:=HC.out k x hx
    obtain ⟨b2,o2,rfl,hb2,hc'⟩:=HDC.out k y hy
    have c0:=(HB.out.cell (p:=⟨b,_,none⟩) hb).trans hc
    have d0:=(HB.out.cell (p:=⟨b2,_,none⟩) hb2).trans hc'
    clear hc hc'
    have hiff:=zb1 hx hy HE.out
    have HI:=zh hiff; clear hiff
    have HX:=zh hx; have HY:=zh hy
    clear hx hy
    by_cases hxy:x = y
    ·subst hxy
     have HFF:=zh (HI.out.2 rfl)
     go_wp2
     first | go_region | fail
     go_wp2
     go_roundg (n - (k + 1))
     case rel => exact ⟨k + 1,by omega,rfl,by go_num,HB.out.drew,HFF.out⟩
     case measure => omega
    ·have hfg:f ≠ g:=fun h => hxy (HI.out.1 h)
     have hff:t = false:=by rw [HT.out]; simp [hfg]
     have HFF:=zh hff
     have hxy':(x == y) = false:=beq_eq_false_iff_ne.2 hxy
     clear hxy hfg hff
     go_wp2
     first | go_region | fail
     go_wp2
     go_returns
     exact ⟨by rw [HFF.out]; rfl,HB.out.drew⟩
   ·go_wp2
    go_returns
    refine ⟨?_,HB.out⟩
    have hkn:k = n:=by omega
    have h:=HE.out
    rw [hkn] at h
    rw [List.take_of_length_le (by rw [<- HN.out]; exact zn),List.take_of_length_le (by rw [<- HK.out]; exact zn)] at h
    rw [HT.out]; simp [h]
 ·have hnn:((n:Int) != k2) = true:=by rw [bne_iff_ne]; omega
  have e:decide (f = g) = false:=by
   rw [decide_eq_false_iff_not]; intro h; subst h; omega
  rw [e]
  clear hn hk2 e hne
  go_enter Tryz.func64,Tryz.ntmps64
  go_wp2
  go_returns
  exact ⟨rfl,Below.refl _ _⟩
theorem zpb (f g:List (List Int)) (v u:Value) (w:World) (hv:N2 w v f) (hu:N2 w u g) (hl:f.length <= 1000000) (hl2:∀ x ∈ f,x.length <= 1000000) :
  Calls Tryz.prog 107 #[v,u] w fun e w' => e = .returned (.bool (decide (f = g))) /\ Below w.heap.size w w':=by
 obtain ⟨A,c,rfl,hc1,hc2,hcell⟩:=hv.open
 obtain ⟨A2,c2,rfl,hd1,hd2,hdell⟩:=hu.open
 obtain ⟨n,hn⟩:=zx f.length
 obtain ⟨k2,hk2⟩:=zx g.length
 rw [<- hn] at hc1 hl ⊢
 rw [<- hk2] at hd1 ⊢
 have HN:=zh hn; have HK:=zh hk2
 have HC:=zh hcell; have HDC:=zh hdell; clear hcell hdell hv hu
 by_cases hne:n = k2
 ·subst hne
  clear hn hk2
  have hnn:((n:Int) != n) = false:=by simp
  obtain ⟨t,ht⟩:=zx (decide (f = g))
  rw [<- ht]
  have HT:=zh ht; clear ht
  go_enter Tryz.func107,Tryz.ntmps107
  go_wp2
  go_loopg [5] n (fun gk q wr => ∃ k:Nat,k <= n /\ gk = n - k /\ q = .int .i64 k /\ Below w.heap.size w wr /\ f.take k = g.take k)
  case atStart => exact ⟨0,Nat.zero_le _,rfl,rfl,Below.refl _ _,by simp⟩
  case round =>
   obtain ⟨k,hk,rfl,rfl,hb,heq⟩:=hrel
   have HB:=zh hb; clear hb
   have HE:=zh heq; clear heq
   by_cases hlt:k < n
   ·obtain ⟨x,hx⟩:∃ x,f[k]? = some x:=⟨f[k]'(by rw [<- HN.out]; exact hlt),List.getElem?_eq_getElem _⟩
    obtain ⟨y,hy⟩:∃ y,g[k]? = some y:=⟨g[k]'(by rw [<- HK.out]; exact hlt),List.getElem?_eq_getElem _⟩
    obtain ⟨b,o,p,rfl,hb,hc,hnx⟩:=HC.out k x hx
    obtain ⟨b2,o2,q,rfl,hb2,hc',hny⟩:=HDC.out k y hy
    have c0:=(HB.out.cell (p:=⟨b,_,none⟩) hb).trans hc
    have d0:=(HB.out.cell (p:=⟨b2,_,none⟩) hb2).trans hc'
    have hcall:=zgg x y p q wr.drew (hnx.below HB.out.drew zn) (hny.below HB.out.drew zn) (hl2 x (List.mem_of_getElem? hx))
    obtain ⟨Ap,cp,rfl,_⟩:=hnx.open
    obtain ⟨Aq,cq,rfl,_⟩:=hny.open
    clear hc hc' hnx hny
    have hiff:=zb1 hx hy HE.out
    have HI:=zh hiff; clear hiff
    have HX:=zh hx; have HY:=zh hy
    clear hx hy
    by_cases hxy:x = y
    ·subst hxy
     have HFF:=zh (HI.out.2 rfl)
     simp only [decide_true] at hcall
     have HCALL:=zh hcall
     clear hcall
     go_upto_region 6 with fail
     go_still_tail 8,(by kernel_rfl)
     change wpList _ _ _ _ _ wr.drew
     go_wp2_with (go_at_call 106; refine HCALL.out.mono ?_; rintro e w3 ⟨rfl,hb3⟩; have HB3:=zh (HB.out.drew.trans (hb3.mono HB.out.size)); clear hb3)
     go_roundg (n - (k + 1))
     case rel => exact ⟨k + 1,by omega,rfl,by go_num,HB3.out,HFF.out⟩
     case measure => omega
    ·have hfg:f ≠ g:=fun h => hxy (HI.out.1 h)
     have hff:t = false:=by rw [HT.out]; simp [hfg]
     have HFF:=zh hff
     have hdx:decide (x = y) = false:=by rw [decide_eq_false_iff_not]; exact hxy
     rw [hdx] at hcall
     clear hdx hxy hfg hff
     have HCALL:=zh hcall
     clear hcall
     go_upto_region 6 with fail
     go_still_tail 8,(by kernel_rfl)
     change wpList _ _ _ _ _ wr.drew
     go_wp2_with (go_at_call 106; refine HCALL.out.mono ?_; rintro e w3 ⟨rfl,hb3⟩; have HB3:=zh (HB.out.drew.trans (hb3.mono HB.out.size)); clear hb3)
     go_returns
     exact ⟨by rw [HFF.out]; rfl,HB3.out⟩
   ·go_wp2
    go_returns
    refine ⟨?_,HB.out⟩
    have hkn:k = n:=by omega
    have h:=HE.out
    rw [hkn] at h
    rw [List.take_of_length_le (by rw [<- HN.out]; exact zn),List.take_of_length_le (by rw [<- HK.out]; exact zn)] at h
    rw [HT.out]; simp [h]
 ·have hnn:((n:Int) != k2) = true:=by rw [bne_iff_ne]; omega
  have e:decide (f = g) = false:=by
   rw [decide_eq_false_iff_not]; intro h; subst h; omega
  rw [e]
  clear hn hk2 e hne
  go_enter Tryz.func107,Tryz.ntmps107
  go_wp2
  go_returns
  exact ⟨rfl,Below.refl _ _⟩
theorem zj9 (f g:List (List (List Int))) (v u:Value) (w:World) (hv:N3 w v f) (hu:N3 w u g) (hl:f.length <= 1000000) (hl2:∀ x ∈ f,x.length <= 1000000) (hl3:∀ x ∈ f,∀ y ∈ x,y.length <= 1000000) :
  Calls Tryz.prog 63 #[v,u] w fun e w' => e = .returned (.bool (decide (f = g))) /\ Below w.heap.size w w':=by
 obtain ⟨A,c,rfl,hc1,hc2,hcell⟩:=hv.open
 obtain ⟨A2,c2,rfl,hd1,hd2,hdell⟩:=hu.open
 obtain ⟨n,hn⟩:=zx f.length
 obtain ⟨k2,hk2⟩:=zx g.length
 rw [<- hn] at hc1 hl ⊢
 rw [<- hk2] at hd1 ⊢
 have HN:=zh hn; have HK:=zh hk2
 have HC:=zh hcell; have HDC:=zh hdell; clear hcell hdell hv hu
 by_cases hne:n = k2
 ·subst hne
  clear hn hk2
  have hnn:((n:Int) != n) = false:=by simp
  obtain ⟨t,ht⟩:=zx (decide (f = g))
  rw [<- ht]
  have HT:=zh ht; clear ht
  go_enter Tryz.func63,Tryz.ntmps63
  go_wp2
  go_loopg [5] n (fun gk q wr => ∃ k:Nat,k <= n /\ gk = n - k /\ q = .int .i64 k /\ Below w.heap.size w wr /\ f.take k = g.take k)
  case atStart => exact ⟨0,Nat.zero_le _,rfl,rfl,Below.refl _ _,by simp⟩
  case round =>
   obtain ⟨k,hk,rfl,rfl,hb,heq⟩:=hrel
   have HB:=zh hb; clear hb
   have HE:=zh heq; clear heq
   by_cases hlt:k < n
   ·obtain ⟨x,hx⟩:∃ x,f[k]? = some x:=⟨f[k]'(by rw [<- HN.out]; exact hlt),List.getElem?_eq_getElem _⟩
    obtain ⟨y,hy⟩:∃ y,g[k]? = some y:=⟨g[k]'(by rw [<- HK.out]; exact hlt),List.getElem?_eq_getElem _⟩
    obtain ⟨b,o,p,rfl,hb,hc,hnx⟩:=HC.out k x hx
    obtain ⟨b2,o2,q,rfl,hb2,hc',hny⟩:=HDC.out k y hy
    have c0:=(HB.out.cell (p:=⟨b,_,none⟩) hb).trans hc
    have d0:=(HB.out.cell (p:=⟨b2,_,none⟩) hb2).trans hc'
    have hcall:=zpb x y p q wr.drew (hnx.below HB.out.drew zn) (hny.below HB.out.drew zn) (hl2 x (List.mem_of_getElem? hx)) (hl3 x (List.mem_of_getElem? hx))
    obtain ⟨Ap,cp,rfl,_⟩:=hnx.open
    obtain ⟨Aq,cq,rfl,_⟩:=hny.open
    clear hc hc' hnx hny
    have hiff:=zb1 hx hy HE.out
    have HI:=zh hiff; clear hiff
    have HX:=zh hx; have HY:=zh hy
    clear hx hy
    by_cases hxy:x = y
    ·subst hxy
     have HFF:=zh (HI.out.2 rfl)
     simp only [decide_true] at hcall
     have HCALL:=zh hcall
     clear hcall
     go_upto_region 6 with fail
     go_still_tail 8,(by kernel_rfl)
     change wpList _ _ _ _ _ wr.drew
     go_wp2_with (go_at_call 107; refine HCALL.out.mono ?_; rintro e w3 ⟨rfl,hb3⟩; have HB3:=zh (HB.out.drew.trans (hb3.mono HB.out.size)); clear hb3)
     go_roundg (n - (k + 1))
     case rel => exact ⟨k + 1,by omega,rfl,by go_num,HB3.out,HFF.out⟩
     case measure => omega
    ·have hfg:f ≠ g:=fun h => hxy (HI.out.1 h)
     have hff:t = false:=by rw [HT.out]; simp [hfg]
     have HFF:=zh hff
     have hdx:decide (x = y) = false:=by rw [decide_eq_false_iff_not]; exact hxy
     rw [hdx] at hcall
     clear hdx hxy hfg hff
     have HCALL:=zh hcall
     clear hcall
     go_upto_region 6 with fail
     go_still_tail 8,(by kernel_rfl)
     change wpList _ _ _ _ _ wr.drew
     go_wp2_with (go_at_call 107; refine HCALL.out.mono ?_; rintro e w3 ⟨rfl,hb3⟩; have HB3:=zh (HB.out.drew.trans (hb3.mono HB.out.size)); clear hb3)
     go_returns
     exact ⟨by rw [HFF.out]; rfl,HB3.out⟩
   ·go_wp2
    go_returns
    refine ⟨?_,HB.out⟩
    have hkn:k = n:=by omega
    have h:=HE.out
    rw [hkn] at h
    rw [List.take_of_length_le (by rw [<- HN.out]; exact zn),List.take_of_length_le (by rw [<- HK.out]; exact zn)] at h
    rw [HT.out]; simp [h]
 ·have hnn:((n:Int) != k2) = true:=by rw [bne_iff_ne]; omega
  have e:decide (f = g) = false:=by
   rw [decide_eq_false_iff_not]; intro h; subst h; omega
  rw [e]
  clear hn hk2 e hne
  go_enter Tryz.func63,Tryz.ntmps63
  go_wp2
  go_returns
  exact ⟨rfl,Below.refl _ _⟩
structure Raw.Low (r:Raw):Prop where
 n:r.next.length <= 1000000
 n2:∀ x ∈ r.next,x.length <= 1000000
 n3:∀ x ∈ r.next,∀ y ∈ x,y.length <= 1000000
 f:r.fin.length <= 1000000
theorem Dta.Fit.low {d:Dta} {V:Nat} (h:d.Fit V):(d.raw V).Low:=by
 have h1:=h.n64; have h2:=h.L8.2
 refine ⟨by rw [(d.raw_len V).1]; omega,fun x hx => ?_,fun x hx y hy => ?_,by rw [(d.raw_len V).2]; omega⟩
 ·obtain ⟨l,_,rfl⟩:=List.mem_map.1 hx; simp; omega
 ·obtain ⟨l,_,rfl⟩:=List.mem_map.1 hx
  obtain ⟨q,_,rfl⟩:=List.mem_map.1 hy
  simp; omega
def eqR (r s:Raw):Bool:=decide (r.vars = s.vars) && (decide (r.empty = s.empty) && (decide (r.next = s.next) && decide (r.fin = s.fin)))
theorem eqR_iff (r s:Raw):eqR r s = true ↔ r = s:=by
 obtain ⟨a,b,c,d⟩:=r
 obtain ⟨a',b',c',d'⟩:=s
 simp only [eqR,Bool.and_eq_true,decide_eq_true_eq,Raw.mk.injEq]
theorem zlr (r:Raw):eqR r r = true:=(eqR_iff r r).2 rfl
theorem zpa (r s:Raw) (v u:Value) (w:World) (hv:TD w v r) (hu:TD w u s) (hl:r.Low) :
  Calls Tryz.prog 18 #[v,u] w fun e w' => e = .returned (.bool (eqR r s)) /\ Below w.heap.size w w':=by
 obtain ⟨vn,vf,rfl,hn,hf⟩:=hv
 obtain ⟨un,uf,rfl,hm,hg⟩:=hu
 have hbl:=fun W (h:Below w.heap.size w W) => zj9 r.next s.next vn un W (hn.below h zn) (hm.below h zn) hl.n hl.n2 hl.n3
 have hbo:=fun W (h:Below w.heap.size w W) => zmp r.fin s.fin vf uf W (hf.below h zn) (hg.below h zn) hl.f
 obtain ⟨A1,c1,rfl,_⟩:=hn.open
 obtain ⟨A2,c2,rfl,_⟩:=hf.open
 obtain ⟨A3,c3,rfl,_⟩:=hm.open
 obtain ⟨A4,c4,rfl,_⟩:=hg.open
 obtain ⟨t3,h3⟩:=zx (decide (r.next = s.next))
 obtain ⟨t4,h4⟩:=zx (decide (r.fin = s.fin))
 have HE:=zh (show eqR r s = (decide (r.vars = s.vars) && (decide (r.empty = s.empty) && (t3 && t4))) by rw [h3,h4]; rfl)
 rw [<- h3] at hbl
 rw [<- h4] at hbo
 obtain ⟨n1,g1⟩:=zx r.next.length
 obtain ⟨n2,g2⟩:=zx r.fin.length
 obtain ⟨n3,g3⟩:=zx s.next.length
 obtain ⟨n4,g4⟩:=zx s.fin.length
 rw [<- g1,<- g3] at hbl
 rw [<- g2,<- g4] at hbo
 rw [<- g1,<- g2,<- g3,<- g4]
 have HBL:=zh hbl; have HBO:=zh hbo
 obtain ⟨V1,k1⟩:=zx r.vars
 obtain ⟨E1,k2⟩:=zx r.empty
 obtain ⟨V2,k3⟩:=zx s.vars
 obtain ⟨E2,k4⟩:=zx s.empty
 rw [<- k1,<- k2,<- k3,<- k4] at HE ⊢
 obtain ⟨Q,hQ⟩:=zx (eqR r s)
 rw [<- hQ] at HE ⊢
 clear hbl hbo hn hf hm hg h3 h4 g1 g2 g3 g4 k1 k2 k3 k4 hQ hl
 have hbx:Below w.heap.size w ((w.alloc (.cells #[.int .i64 V1,.int .i64 E1,.slice A1 n1 c1,.slice A2 n2 c2] 25)).alloc (.cells #[.int .i64 V2,.int .i64 E2,.slice A3 n3 c3,.slice A4 n4 c4] 25)):=by go_grown
 have HBX:=zh hbx
 clear hbx
 by_cases e1:V1 = V2
 ·subst e1
  by_cases e2:E1 = E2
  ·subst e2
   cases t3
   all_goals cases t4
   all_goals
    go_enter Tryz.func18,Tryz.ntmps18
    go_upto_region 1 with fail
    refine zab (fun W => Below w.heap.size w W /\ Row W w.heap.size 25 #[.int .i64 V1,.int .i64 E1,.slice A1 n1 c1,.slice A2 n2 c2] /\ Row W (w.heap.size + 1) 25 #[.int .i64 V1,.int .i64 E1,.slice A3 n3 c3,.slice A4 n4 c4]) ⟨HBX.out,(Row.new _ _ _).alloc _,Row.lit (by simp)⟩ ?_
    rintro W ⟨hb,r1,r2⟩
    have y1:=r1.cell; have y2:=r2.cell
    have HB:=zh hb; have R1:=zh r1; have R2:=zh r2
    clear hb r1 r2
    go_wp2_with (first
     | (go_at_call 63; refine (HBL.out _ HB.out).mono ?_; rintro e w3 ⟨rfl,hb3⟩; have HB3:=zh (HB.out.trans (hb3.mono HB.out.size)); have z1:=(R1.out.below hb3 R1.out.lt).cell; have z2:=(R2.out.below hb3 R2.out.lt).cell; clear hb3 y1 y2)
     | (go_at_call 64; refine (HBO.out _ HB3.out).mono ?_; rintro e w4 ⟨rfl,hb4⟩; have HB4:=zh (HB3.out.trans (hb4.mono HB3.out.size)); clear hb4))
    go_returns
    first | exact ⟨by rw [HE.out]; simp,HB4.out⟩ | exact ⟨by rw [HE.out]; simp,HB3.out⟩
  ·have e2':(E1 == E2) = false:=beq_eq_false_iff_ne.2 e2
   have HN:=zh e2
   clear e2
   go_enter Tryz.func18,Tryz.ntmps18
   go_upto_region 1 with fail
   refine zab (fun W => Below w.heap.size w W /\ Row W w.heap.size 25 #[.int .i64 V1,.int .i64 E1,.slice A1 n1 c1,.slice A2 n2 c2] /\ Row W (w.heap.size + 1) 25 #[.int .i64 V1,.int .i64 E2,.slice A3 n3 c3,.slice A4 n4 c4]) ⟨HBX.out,(Row.new _ _ _).alloc _,Row.lit (by simp)⟩ ?_
   rintro W ⟨hb,r1,r2⟩
   have y1:=r1.cell; have y2:=r2.cell
   have HB:=zh hb
   clear hb r1 r2
   go_wp2
   go_returns
   exact ⟨by rw [HE.out,decide_eq_false HN.out]; simp,HB.out⟩
 ·have e1':(V1 == V2) = false:=beq_eq_false_iff_ne.2 e1
  have HN:=zh e1
  clear e1
  go_enter Tryz.func18,Tryz.ntmps18
  go_upto_region 1 with fail
  refine zab (fun W => Below w.heap.size w W /\ Row W w.heap.size 25 #[.int .i64 V1,.int .i64 E1,.slice A1 n1 c1,.slice A2 n2 c2] /\ Row W (w.heap.size + 1) 25 #[.int .i64 V2,.int .i64 E2,.slice A3 n3 c3,.slice A4 n4 c4]) ⟨HBX.out,(Row.new _ _ _).alloc _,Row.lit (by simp)⟩ ?_
  rintro W ⟨hb,r1,r2⟩
  have y1:=r1.cell; have y2:=r2.cell
  have HB:=zh hb
  clear hb r1 r2
  go_wp2
  go_returns
  exact ⟨by rw [HE.out,decide_eq_false HN.out]; simp,HB.out⟩
end Go.Proofs.YthkfjnmnoanhlaaGreatDoor
namespace Go.Proofs.YthkfjnmnoanhlaaGreatDoor
open Go.RowKit
def zda (ll:List (List Int)) (l:List Int):Int:=match ll.findIdx? (fun x => decide (x = l)) with | some i => (i:Int) | none => -1
theorem zix {ll:List (List Int)} {l:List Int} {i:Nat} (h:ll[i]? = some l) (hb:∀ j,j < i -> ∀ x,ll[j]? = some x -> x ≠ l):zda ll l = (i:Int):=by
 obtain ⟨hi,hx⟩:=List.getElem?_eq_some_iff.1 h
 have:ll.findIdx? (fun x => decide (x = l)) = some i:=by
  rw [List.findIdx?_eq_some_iff_getElem]
  refine ⟨hi,by simp [hx],fun j hj => ?_⟩
  have:=hb j hj _ (List.getElem?_eq_getElem (by omega))
  simp [this]
 unfold zda
 rw [this]
theorem ziw {ll:List (List Int)} {l:List Int} (hb:∀ j,j < ll.length -> ∀ x,ll[j]? = some x -> x ≠ l):zda ll l = -1:=by
 have:ll.findIdx? (fun x => decide (x = l)) = none:=by
  rw [List.findIdx?_eq_none_iff]
  intro x hx
  obtain ⟨j,hj⟩:=List.getElem?_of_mem hx
  have:=hb j (List.getElem?_eq_some_iff.1 hj).1 x hj
  simp [this]
 unfold zda
 rw [this]
theorem zoy (ll:List (List Int)) (l:List Int) (v u:Value) (w:World) (hv:N2 w v ll) (hu:N1 w u l) (hl:ll.length <= 1000000) (hl2:∀ x ∈ ll,x.length <= 1000000) :
  Calls Tryz.prog 62 #[v,u] w fun e w' => e = .returned (.int .i64 (zda ll l)) /\ Below w.heap.size w w':=by
 have HU:=zh hu
 obtain ⟨A,c,rfl,hc1,hc2,hcell⟩:=hv.open
 obtain ⟨A2,c2,rfl,_⟩:=hu.open
 obtain ⟨n,hn⟩:=zx ll.length
 obtain ⟨k2,hk2⟩:=zx l.length
 obtain ⟨Z,hZ⟩:=zx (zda ll l)
 rw [<- hn] at hc1 hl ⊢
 rw [<- hk2] at HU ⊢
 rw [<- hZ]
 have HN:=zh hn; have HC:=zh hcell; have HZ:=zh hZ
 clear hn hk2 hcell hv hu hZ
 go_enter Tryz.func62,Tryz.ntmps62
 go_wp2
 go_loopg [5] n (fun gk q X => ∃ k:Nat,k <= n /\ gk = n - k /\ q = .int .i64 k /\ Below w.heap.size w X /\ ∀ j,j < k -> ∀ x,ll[j]? = some x -> x ≠ l)
 case atStart => exact ⟨0,Nat.zero_le _,rfl,rfl,Below.refl _ _,fun j h => by omega⟩
 case round =>
  obtain ⟨k,hk,rfl,rfl,hb,hno⟩:=hrel
  have HB:=zh hb; have HNO:=zh hno
  clear hb hno
  by_cases hlt:k < n
  ·have hlti:(k:Int) < (n:Int):=by omega
   obtain ⟨x,hx⟩:∃ x,ll[k]? = some x:=⟨ll[k]'(by rw [<- HN.out]; exact hlt),List.getElem?_eq_getElem _⟩
   obtain ⟨b,o,p,rfl,hb,hc,hnx⟩:=HC.out k x hx
   have c0:=(HB.out.cell (p:=⟨b,_,none⟩) hb).trans hc
   have hcall:=zgg x l p (.slice A2 k2 c2) wr (hnx.below HB.out zn) (HU.out.below HB.out zn) (hl2 x (List.mem_of_getElem? hx))
   obtain ⟨Ap,cp,rfl,_⟩:=hnx.open
   by_cases hxy:x = l
   ·have hz:Hid (Z = (k:Int)):=by unfold Hid; rw [HZ.out]; exact zix (by rw [<- hxy]; exact hx) HNO.out
    have hdx:decide (x = l) = true:=by rw [decide_eq_true_iff]; exact hxy
    rw [hdx] at hcall
    have HCALL:=zh hcall
    clear hc hnx hdx hcall hxy hx
    go_wp2_with (go_at_call 106; refine HCALL.out.mono ?_; rintro e w3 ⟨rfl,hb3⟩; have HB3:=zh (HB.out.trans (hb3.mono HB.out.size)); clear hb3)
    go_returns
    exact ⟨by rw [hz.out]; rfl,HB3.out⟩
   ·have hno2:Hid (∀ j,j < k + 1 -> ∀ x,ll[j]? = some x -> x ≠ l):=by
     intro j hj y hy
     by_cases e:j = k
     ·subst e; rw [hx] at hy; rw [<- Option.some.inj hy]; exact hxy
     ·exact HNO.out j (by omega) y hy
    have hdx:decide (x = l) = false:=by rw [decide_eq_false_iff_not]; exact hxy
    rw [hdx] at hcall
    have HCALL:=zh hcall
    clear hc hnx hdx hcall hxy hx
    go_wp2_with (go_at_call 106; refine HCALL.out.mono ?_; rintro e w3 ⟨rfl,hb3⟩; have HB3:=zh (HB.out.trans (hb3.mono HB.out.size)); clear hb3)
    go_roundg (n - (k + 1))
    case rel => exact ⟨k + 1,by omega,rfl,by go_num,HB3.out,hno2.out⟩
    case measure => omega
  ·obtain rfl:n = k:=by omega
   have hlti:¬ ((n:Nat):Int) < (n:Int):=by omega
   have hz:Hid (Z = -1):=by unfold Hid; rw [HZ.out]; exact ziw (by rw [<- HN.out]; exact HNO.out)
   go_wp2
   go_returns
   exact ⟨by rw [hz.out]; rfl,HB.out⟩
end Go.Proofs.YthkfjnmnoanhlaaGreatDoor
namespace Go.Proofs.YthkfjnmnoanhlaaGreatDoor
open Go.RowKit
theorem zql {α:Type} [DecidableEq α] {o o':List α} (h:o <+: o') {i:Nat} {a:α} (hi:i < o.length) (ha:o'[i]? = some a):o[i]? = some a:=by
 have h1:=zar h (List.getElem?_eq_getElem hi)
 rw [h1] at ha
 rw [List.getElem?_eq_getElem hi]; exact ha
section
variable {α:Type} [DecidableEq α] {f:α -> α -> Nat -> α} {L:Nat} {k0:α} {P:α -> Prop}
def ClE (f:α -> α -> Nat -> α) (L:Nat) (o:List α) (k:Nat):Prop:=∀ i i' x a b,i < k -> i' < k -> x < L -> o[i]? = some a -> o[i']? = some b -> f a b x ∈ o
structure XpR (f:α -> α -> Nat -> α) (L:Nat) (k0:α) (P:α -> Prop) (o:List α) (k j x:Nat):Prop where
 ks:KsI f L k0 P o
 lt:k < o.length
 cl:ClE f L o k
 clj:∀ j' y a b,j' < j -> y < L -> o[j']? = some a -> o[k]? = some b -> f a b y ∈ o /\ f b a y ∈ o
 clx:∀ y a b,y < x -> o[j]? = some a -> o[k]? = some b -> f a b y ∈ o /\ f b a y ∈ o
theorem XpR.start {o:List α} {k:Nat} (h:KsI f L k0 P o) (hc:ClE f L o k) (hk:k < o.length):XpR f L k0 P o k 0 0 :=
 ⟨h,hk,hc,fun j' _ _ _ h => by omega,fun y _ _ h => by omega⟩
theorem XpR.step {o:List α} {k j x:Nat} (h:XpR f L k0 P o k j x) (hok:∀ a b x,P a -> P b -> x < L -> P (f a b x)) (hj:j <= k) (hx:x < L) {a b:α} (ha:o[j]? = some a) (hb:o[k]? = some b) :
  XpR f L k0 P (addS (addS o (f a b x)) (f b a x)) k j (x + 1):=by
 have hp1:o <+: addS o (f a b x):=zbg _ _
 have hp:o <+: addS (addS o (f a b x)) (f b a x):=hp1.trans (zbg _ _)
 have ma:=List.mem_of_getElem? ha; have mb:=List.mem_of_getElem? hb
 have hk:=h.lt
 have hb':=fun {i:Nat} {c:α} (hi:i <= k) (e:(addS (addS o (f a b x)) (f b a x))[i]? = some c) => zql hp (show i < o.length by omega) e
 refine ⟨(h.ks.add hok ma mb hx).add hok (hp1.subset mb) (hp1.subset ma) hx,Nat.lt_of_lt_of_le hk hp.length_le,?_,?_,?_⟩
 ·intro i i' y c e hi hi' hy hc he
  exact hp.subset (h.cl i i' y c e hi hi' hy (hb' (by omega) hc) (hb' (by omega) he))
 ·intro j' y c e hj' hy hc he
  obtain ⟨h1,h2⟩:=h.clj j' y c e hj' hy (hb' (by omega) hc) (hb' zn he)
  exact ⟨hp.subset h1,hp.subset h2⟩
 ·intro y c e hy hc he
  replace hc:=hb' hj hc; replace he:=hb' zn he
  by_cases hyx:y < x
  ·obtain ⟨h1,h2⟩:=h.clx y c e hyx hc he
   exact ⟨hp.subset h1,hp.subset h2⟩
  ·obtain rfl:x = y:=by omega
   rw [ha] at hc; rw [hb] at he
   cases hc; cases he
   exact ⟨(zbg _ _).subset (zfh _ _),zfh _ _⟩
theorem XpR.nextj {o:List α} {k j:Nat} (h:XpR f L k0 P o k j L):XpR f L k0 P o k (j + 1) 0 :=
 ⟨h.ks,h.lt,h.cl,fun j' y a b h1 h2 h3 h4 => by
  by_cases hj:j' < j
  ·exact h.clj j' y a b hj h2 h3 h4
  ·obtain rfl:j' = j:=by omega
   exact h.clx y a b h2 h3 h4,fun y _ _ h => by omega⟩
theorem XpR.nextk {o:List α} {k:Nat} (h:XpR f L k0 P o k (k + 1) 0):ClE f L o (k + 1):=by
 intro i i' y a b hi hi' hy ha hb
 by_cases h1:i < k /\ i' < k
 ·exact h.cl i i' y a b h1.1 h1.2 hy ha hb
 ·by_cases h2:i' = k
  ·subst h2; exact (h.clj i y a b hi hy ha hb).1
  ·obtain rfl:i = k:=by omega
   exact (h.clj i' y b a hi' hy hb ha).2
theorem ClE.expl {o:List α} (h:ClE f L o o.length) (hk:KsI f L k0 P o):Expl f L k0 o :=
 ⟨hk.nodup,hk.zero,hk.acc,fun a b x ha hb hx => by
  obtain ⟨i,hi⟩:=List.getElem?_of_mem ha
  obtain ⟨i',hi'⟩:=List.getElem?_of_mem hb
  exact h i i' x a b (List.getElem?_eq_some_iff.1 hi).1 (List.getElem?_eq_some_iff.1 hi').1 hx hi hi'⟩
theorem ClE.zero (o:List α):ClE f L o 0:=fun i _ _ _ _ h => by omega
theorem zg4 {enc:α -> List Int} (hinj:∀ a b,P a -> P b -> enc a = enc b -> a = b) {o:List α} (ho:∀ a ∈ o,P a) {s:α} (hs:P s) (hm:s ∈ o):zda (o.map enc) (enc s) = ((o.idxOf s:Nat):Int):=by
 have h1:=List.idxOf_lt_length_of_mem hm
 refine zix (by rw [List.getElem?_map,zh6 hm]; rfl) fun j hj y hy => ?_
 rw [List.getElem?_map,List.getElem?_eq_getElem (by omega)] at hy
 intro e
 have hy:=Option.some.inj hy
 have hne:=List.not_of_lt_findIdx (p:=(· == s)) (xs:=o) hj
 simp only [beq_eq_false_iff_ne,ne_eq] at hne
 exact hne (hinj _ _ (ho _ (List.getElem_mem _)) hs (hy.trans e))
theorem znv {enc:α -> List Int} (hinj:∀ a b,P a -> P b -> enc a = enc b -> a = b) {o:List α} (ho:∀ a ∈ o,P a) {s:α} (hs:P s) (hm:s ∉ o):zda (o.map enc) (enc s) = -1:=by
 refine ziw fun j hj y hy => ?_
 rw [List.length_map] at hj
 rw [List.getElem?_map,List.getElem?_eq_getElem hj] at hy
 intro e
 have hy:=Option.some.inj hy
 have:=hinj _ _ (ho _ (List.getElem_mem hj)) hs (hy.trans e)
 exact hm (this ▸ List.getElem_mem hj)
end
def pE (p:Nat × Nat):List Int:=[(p.1:Int),(p.2:Int)]
theorem zn0 (P:Nat × Nat -> Prop):∀ a b,P a -> P b -> pE a = pE b -> a = b:=by
 rintro ⟨a,b⟩ ⟨c,d⟩ _ _ h
 simp only [pE,List.cons.injEq,and_true] at h
 simp only [Prod.mk.injEq]
 omega
end Go.Proofs.YthkfjnmnoanhlaaGreatDoor
namespace Go.Proofs.YthkfjnmnoanhlaaGreatDoor
open Go.RowKit
theorem eU:Elt 72 39 (.int .u64 0) 8:=⟨by kernel_rfl,by kernel_rfl,by omega,rfl⟩
theorem eUU:Elt 97 72 (.slice none 0 0) 24:=⟨by kernel_rfl,by kernel_rfl,by omega,rfl⟩
def uL (l:List Nat):List Value:=l.map fun (x:Nat) => Value.int .u64 (x:Int)
theorem zfn (l:List Nat):(uL l).length = l.length:=by simp [uL]
theorem uL_at {l:List Nat} {i x:Nat} (h:l[i]? = some x):(uL l)[i]? = some (.int .u64 (x:Int)):=by rw [uL,List.getElem?_map,h]; rfl
theorem uL_set (l:List Nat) (i x:Nat):(uL l).set i (.int .u64 (x:Int)) = uL (l.set i x):=by simp [uL]
theorem zjq (x:Int) (n:Nat) (h:x = (n:Int)):IntKind.u64.wrap x = ((n % M64:Nat):Int):=by
 rw [h,IntKind.wrap_u64]
 show _ = ((n % 18446744073709551616:Nat):Int)
 omega
def CO (d:Dta) (w:World) (B:Nat) (v:Value) (k:Nat):Prop:=∃ vs,VO 72 w B v vs /\ vs.length = k /\ ∀ (i:Nat) u,vs[i]? = some u -> VO 39 w B u (uL (cntR d i))
theorem CO.below {d:Dta} {w w':World} {B B':Nat} {v:Value} {k:Nat} (h:CO d w B v k) (hb:Below B' w w') (hB:w.heap.size <= B'):CO d w' B v k:=by
 obtain ⟨vs,h1,h2,h3⟩:=h
 exact ⟨vs,h1.below hb hB,h2,fun i u hu => (h3 i u hu).below hb hB⟩
theorem CO.nil (d:Dta) (w:World) (B:Nat):CO d w B (.slice none 0 0) 0:=⟨[],VO.nil _ _ _,rfl,fun i u h => by simp at h⟩
theorem CO.at {d:Dta} {w:World} {B n k c:Nat} {A:Option Addr} (h:CO d w B (.slice A k c) k) (hn:n = d.n) (hn0:0 < n) {i:Nat} (hi:i < k):∃ g gi ci,A = some ⟨g,0,none⟩ /\ g < w.heap.size /\ w.cell? ⟨g,i,none⟩ = some (.slice (some ⟨gi,0,none⟩) n ci) /\ n <= ci /\ gi < w.heap.size /\ ∀ l,l < n -> w.cell? ⟨gi,l,none⟩ = some (.int .u64 ((d.cnt i l % M64:Nat):Int)):=by
 obtain ⟨vs,h1,h2,h3⟩:=h
 obtain ⟨g,cap,cs,he,hg,hr,hc,_,hcell⟩:=h1.row (by omega)
 simp only [Value.slice.injEq] at he
 have hA:=he.1
 obtain ⟨u,hu⟩:∃ u,vs[i]? = some u:=⟨vs[i]'(by omega),List.getElem?_eq_getElem _⟩
 obtain ⟨gi,ci,cs2,he2,_,hr2,hc2,_,hcell2⟩:=(h3 i u hu).row (by rw [zfn,zib,<- hn]; exact hn0)
 rw [zfn,zib,<- hn] at he2 hc2
 subst he2
 exact ⟨g,gi,ci,hA,hr.lt,hcell i _ hu,hc2,hr2.lt,fun l hl => hcell2 l _ (uL_at (zpj (by rw [<- hn]; exact hl)))⟩
structure CnS (d:Dta) (w:World) (n V E:Nat) (vn vf v7:Value) (k:Nat) (W:World):Prop where
 below:Below w.heap.size w W
 rd:Row W w.heap.size 25 #[.int .i64 (V:Int),.int .i64 (E:Int),vn,vf]
 co:CO d W w.heap.size v7 k
theorem CnS.to {d:Dta} {w W W':World} {n V E:Nat} {vn vf v7:Value} {k:Nat} (h:CnS d w n V E vn vf v7 k W) (hb:Below W.heap.size W W'):CnS d w n V E vn vf v7 k W' :=
 ⟨h.below.trans (hb.mono h.below.size),h.rd.below hb h.rd.lt,h.co.below hb zn⟩
theorem CnS.snoc {d:Dta} {w W w':World} {n V E k c:Nat} {A:Option Addr} {vn vf v' u:Value} {X:Obj} {vs:List Value} (h:CnS d w n V E vn vf (.slice A k c) k W) (h1:VO 72 W w.heap.size (.slice A k c) vs) (h2:vs.length = k) (h3:∀ (i:Nat) q,vs[i]? = some q -> VO 39 W w.heap.size q (uL (cntR d i)))
  (hu:VO 39 W w.heap.size u (uL (cntR d k))) (hg:(W.alloc X).grownBy w' (Value.slice A k c).ownBlock) (ho:VO 72 w' w.heap.size v' (vs ++ [u])):CnS d w n V E vn vf v' (k + 1) w':=by
 have hfr:∀ {q l},VO 39 W w.heap.size q l -> VO 39 w' w.heap.size q l:=fun h => VO.far (VO.allocd h X) (by decide) (VO.allocd h1 X).2 hg
 refine ⟨zae (w:=w) (Below.alloc h.below h.below.size X) (VO.allocd h1 X) hg (by simp only [World.size_alloc]; have:=h.below.size; omega),(h.rd.alloc X).far_own (by decide) (VO.allocd h1 X).2 hg,_,ho,by simp [h2],fun i q hq => ?_⟩
 by_cases hi:i < vs.length
 ·rw [List.getElem?_append_left hi] at hq
  exact hfr (h3 i q hq)
 ·have hlen:=(List.getElem?_eq_some_iff.1 hq).1
  simp at hlen
  have:i = vs.length:=by omega
  subst this
  simp at hq
  subst hq
  rw [h2]
  exact hfr hu
theorem zra (d:Dta) (V:Nat) (hd:d.Fit V) (va:Value) (n:Nat) (hn:n <= 31) (w:World) (hva:TD w va (d.raw V)) :
  Calls Tryz.prog 23 #[va,.int .i64 (n:Int)] w fun e w' => e = .returned (.tuple #[.int .u64 ((accN d n % M64:Nat):Int),.int .i64 0]) /\ Below w.heap.size w w':=by
 have hck:=fun W (h:Below w.heap.size w W) => zap (d.raw V) va W (hva.below h zn) (by have:=hd.n64; rw [(d.raw_len V).1,(d.raw_len V).2]; omega)
 rw [d.raw_check hd] at hck
 obtain ⟨vn,vf,rfl,hnn,hff⟩:=hva
 have hvars:(d.raw V).vars = (V:Int):=rfl
 have hemp:(d.raw V).empty = (d.e:Int):=rfl
 rw [hvars,hemp] at hck ⊢
 obtain ⟨b3,o3,c3,hN⟩:=(show N3 w vn (nx3 d.n d.L d.nx) from hnn).nx hd.pos hd.L8.1
 obtain rfl:=hN.form
 obtain ⟨bk,ok,ck,rfl,hk1,hbk,hk2⟩:=(show NB w vf ((List.range d.n).map d.fin) from hff).at hd.pos
 have hacc:=acc_sum hd.ok n
 have HAC:=zh (show accK d n d.n = accN d n from hacc)
 have hL8:=hd.L8.2
 have hn64:=hd.n64
 have hpos:=hd.pos
 have hmk:=za3 eU d.n (by omega)
 have he:=hd.ok.he
 have HCK:=zh hck
 have HD:=zh hd.ok; have HN3:=zh (fun l r hl hr => hN.row hd.L8.1 (l:=l) (r:=r) hl hr); have HK2:=zh hk2
 clear hnn hff hvars hemp hN hd hk2 hck hacc
 obtain ⟨N,hNN⟩:=zx d.n
 obtain ⟨L,hLL⟩:=zx d.L
 obtain ⟨E,hE⟩:=zx d.e
 rw [<- hNN,<- hLL] at HN3
 rw [<- hNN] at hn64 hpos hmk he HK2 hk1 HCK HAC
 rw [<- hLL] at hL8
 rw [<- hE] at he HCK
 rw [<- hNN,<- hE]
 have HNE:=zh hNN; have HLE:=zh hLL; have HEE:=zh hE
 clear hNN hE hLL
 have hm1:¬ ((n:Int) < 0):=by omega
 have hm2:¬ ((31:Int) < (n:Int)):=by omega
 go_enter Tryz.func23,Tryz.ntmps23
 go_upto_region 1 with fail
 refine zab (fun W => Below w.heap.size w W /\ Row W w.heap.size 25 #[.int .i64 (V:Int),.int .i64 (E:Int),.slice (some ⟨b3,o3,none⟩) N c3,.slice (some ⟨bk,ok,none⟩) N ck]) ⟨by go_grown,Row.new _ _ _⟩ ?_
 rintro W ⟨hb,hr⟩
 have y0:=hr.cell
 have HB:=zh hb; have RD:=zh hr
 clear hb hr
 go_upto_region 6 with (go_at_call 50; refine (HCK.out _ HB.out).mono ?_; rintro e w2 ⟨rfl,hb2⟩; have HS:=zh (show CnS d w N V E (.slice (some ⟨b3,o3,none⟩) N c3) (.slice (some ⟨bk,ok,none⟩) N ck) (.slice none 0 0) 0 w2 from ⟨HB.out.trans (hb2.mono HB.out.size),RD.out.below hb2 RD.out.lt,CO.nil _ _ _⟩); clear hb2)
 clear y0 HB RD HCK hm1 hm2
 go_wp2
 go_loopg [7,33] (n + 1) (fun gk q7 q33 wr => ∃ k:Nat,k <= n + 1 /\ gk = n + 1 - k /\ q33 = .int .i64 k /\ CnS d w N V E (.slice (some ⟨b3,o3,none⟩) N c3) (.slice (some ⟨bk,ok,none⟩) N ck) q7 k wr)
 case atStart => exact ⟨0,by omega,by omega,rfl,HS.out⟩
 case round =>
  clear HS
  obtain ⟨k,hk,rfl,rfl,hs⟩:=hrel
  obtain ⟨wl,hwl⟩:=zx wr
  subst hwl
  obtain ⟨vs0,hvs1,hvs2,_⟩:=id hs.co
  obtain ⟨A7,c7,rfl⟩:=VO.formN (n:=k) hvs1 hvs2
  clear hvs1 hvs2
  have HS:=zh hs
  have y0:=hs.rd.cell
  clear hs
  by_cases hlt:k < n + 1
  ·have hkz:(k:Int) < (n:Int) + 1:=by omega
   go_upto_region 11 with fail
   refine zab (fun X => ∃ gr,gr = wl.heap.size /\ Below wl.heap.size wl X /\ VO 39 X w.heap.size (.slice (some ⟨gr,0,none⟩) N N) (uL (List.replicate N 0)))
    ⟨_,rfl,by go_grown,by
     have h:=VO.lit (E:=39) (w:=wl) (n:=N) (List.replicate N (.int .u64 0)) (by simp) (by omega) (by intro u hu; rw [List.eq_of_mem_replicate hu]; rfl)
     have e:uL (List.replicate N 0) = List.replicate N (.int .u64 0):=by simp [uL]
     rw [e]
     rw [List.toArray_replicate] at h
     exact h.mono HS.out.below.size⟩ ?_
   rintro X ⟨gr,hgr,hbx,hvo⟩
   rw [<- hgr]
   have hgrw:wl.heap.size <= gr:=by omega
   have hgrw2:w.heap.size <= gr:=by have:=HS.out.below.size; omega
   have HBX:=zh hbx; have HVO:=zh hvo
   clear hbx hvo hgr
   by_cases hk0:k = 0
   ·subst hk0
    obtain ⟨⟨u0,hu0⟩,hf0,_,hg0⟩:=HVO.out.spot (j:=E) (by rw [zfn]; simp) he
    have y1:=(HS.out.rd.below HBX.out HS.out.rd.lt).cell
    have hEz:(E:Int) < (N:Int):=by omega
    clear y0
    go_upto_region 13 with fail
    refine zab (fun Y => Below wl.heap.size wl Y /\ VO 39 Y w.heap.size (.slice (some ⟨gr,0,none⟩) N N) (uL (cntR d 0)))
     ⟨HBX.out.setCell (p:=⟨gr,E,none⟩) hgrw _,by
      rw [zpi d (by rw [<- HEE.out,<- HNE.out]; exact he),<- HNE.out,<- HEE.out,<- uL_set]
      exact zcr HVO.out (by rw [zfn]; simp) E _ rfl⟩ ?_
    clear HBX HVO hu0 hf0 hg0 y1
    rintro Y ⟨hby,hvo⟩
    have HSY:=zh (HS.out.to hby); have HVO:=zh hvo
    clear hby hvo HS
    go_wp2
    go_loopg [47] 1 (fun gk q wr => gk = 1 /\ q = .int .i64 0 /\ wr = Y)
    case atStart => exact ⟨rfl,rfl,rfl⟩
    case round =>
     obtain ⟨rfl,rfl,rfl⟩:=hrel
     obtain ⟨vs,hv1,hv2,hv3⟩:=HSY.out.co
     have HV1:=zh hv1; have HV2:=zh hv2; have HV3:=zh hv3
     clear hv1 hv2 hv3
     go_wp2_with (at_builtin; refine zaa eUU rfl (.tmp 99) (.tmp 101) rfl w.heap.size _ _ rfl (VO.allocd HV1.out _) _ [.slice (some ⟨gr,0,none⟩) N N] rfl (VS.one (Row.new _ _ _)) (by intro u hu; simp at hu; subst hu; rfl) (by rw [HV2.out]; simp) (by simp only [World.size_alloc]; have:=HSY.out.below.size; omega) ?_; intro v8 w8 ho8 hg8 _; have HS8:=zh (HSY.out.snoc HV1.out HV2.out HV3.out HVO.out hg8 ho8); clear ho8 hg8)
     go_roundg (n + 1 - 1)
     case rel => exact ⟨1,by omega,by omega,by go_num,HS8.out⟩
     case measure => omega
   ·obtain ⟨j,rfl⟩:∃ j,k = j + 1:=⟨k - 1,by omega⟩
    have hkb:(((j + 1:Nat):Int) == 0) = false:=by rw [beq_eq_false_iff_ne]; omega
    have HSl:=zh (show CnS d w N V E (.slice (some ⟨b3,o3,none⟩) N c3) (.slice (some ⟨bk,ok,none⟩) N ck) (.slice A7 (j + 1) c7) (j + 1) wl from HS.out)
    have HSX:=zh (HS.out.to HBX.out)
    have hcast:((j + 1:Nat):Int) = (j:Int) + 1:=by omega
    clear y0 HS hk0
    go_wp2
    go_loopg [47] (j + 1) (fun gk q wr => ∃ i:Nat,i <= j + 1 /\ gk = j + 1 - i /\ q = .int .i64 i /\ Below wl.heap.size wl wr /\ VO 39 wr w.heap.size (.slice (some ⟨gr,0,none⟩) N N) (uL (cRow N (preT d j i 0 0 0))))
    case atStart => exact ⟨0,by omega,by omega,rfl,HBX.out,by rw [preT_0,zri]; exact HVO.out⟩
    case round =>
     clear HBX HVO HSX
     obtain ⟨i,hi,rfl,rfl,hbx,hvo⟩:=hrel
     have HBX:=zh hbx; have HVO:=zh hvo
     have HSX:=zh (HSl.out.to hbx)
     clear hbx hvo
     by_cases hlti:i < j + 1
     ·have hiz:(i:Int) < (j:Int) + 1:=by omega
      have hij:i <= j:=by omega
      obtain ⟨g7,gI,cI,rfl,hg7,hcI,hcI2,hgI,HCI⟩:=HSl.out.co.at HNE.out hpos hlti
      rw [<- HBX.out.cell (p:=⟨g7,_,none⟩) hg7] at hcI
      have HCI:=zh HCI
      obtain ⟨jj,hjj⟩:=zx (j - i)
      have HJJ:=zh hjj
      have hkj:(j:Int) - (i:Int) = (jj:Int):=by omega
      obtain ⟨g7',gJ,cJ,he7,_,hcJ,hcJ2,hgJ,HCJ⟩:=HSl.out.co.at HNE.out hpos (show jj < j + 1 by omega)
      simp only [Option.some.injEq,Addr.mk.injEq,and_true] at he7
      subst he7
      have HCJ:=zh HCJ; have HcJ:=zh hcJ
      have hjjz:(jj:Int) < (j:Int) + 1:=by omega
      clear hjj hcJ
      go_wp2
      clear hcI
      go_loopg [55] N (fun gk q wr => ∃ l:Nat,l <= N /\ gk = N - l /\ q = .int .i64 l /\ Below wl.heap.size wl wr /\ VO 39 wr w.heap.size (.slice (some ⟨gr,0,none⟩) N N) (uL (cRow N (preT d j i l 0 0))))
      case atStart => exact ⟨0,by omega,rfl,rfl,HBX.out,HVO.out⟩
      case round =>
       clear HBX HVO HSX
       obtain ⟨l,hl,rfl,rfl,hbx,hvo⟩:=hrel
       have HBX:=zh hbx; have HVO:=zh hvo
       clear hbx hvo
       by_cases hltl:l < N
       ·have c0:=HCI.out l hltl
        rw [<- HBX.out.cell (p:=⟨gI,_,none⟩) hgI] at c0
        have cj:=HcJ.out
        rw [<- HBX.out.cell (p:=⟨g7,_,none⟩) hg7] at cj
        obtain ⟨P,hP⟩:=zx (d.cnt i l % M64)
        have HP:=zh hP
        rw [<- hP] at c0
        clear hP
        go_wp2
        clear c0 cj
        go_loopg [68] N (fun gk q wr => ∃ r:Nat,r <= N /\ gk = N - r /\ q = .int .i64 r /\ Below wl.heap.size wl wr /\ VO 39 wr w.heap.size (.slice (some ⟨gr,0,none⟩) N N) (uL (cRow N (preT d j i l r 0))))
        case atStart => exact ⟨0,by omega,rfl,rfl,HBX.out,HVO.out⟩
        case round =>
         clear HBX HVO
         obtain ⟨r,hr,rfl,rfl,hbx,hvo⟩:=hrel
         have HBX:=zh hbx; have HVO:=zh hvo
         clear hbx hvo
         by_cases hltr:r < N
         ·have c0:=HCJ.out r hltr
          rw [<- HBX.out.cell (p:=⟨gJ,_,none⟩) hgJ] at c0
          obtain ⟨Q,hQ⟩:=zx (d.cnt jj r % M64)
          have HQ:=zh hQ
          rw [<- hQ] at c0
          clear hQ
          have hbw:Below w.heap.size w wr:=(HSl.out.to HBX.out).below
          have y1:=(HSl.out.to HBX.out).rd.cell
          obtain ⟨e2,f2,k2,e1,f1,k1,h1,h2,h3,h4,h5,h6,h7,h8⟩:=HN3.out l r hltl hltr
          rw [<- hbw.cell (p:=⟨b3,_,none⟩) h1] at h2
          rw [<- hbw.cell (p:=⟨e2,_,none⟩) h4] at h5
          have H8:=zh h8
          clear h8 hbw
          go_wp2
          clear c0 y1 h2 h5
          go_loopg [82] L (fun gk q wr => ∃ x:Nat,x <= L /\ gk = L - x /\ q = .int .i64 x /\ Below wl.heap.size wl wr /\ VO 39 wr w.heap.size (.slice (some ⟨gr,0,none⟩) N N) (uL (cRow N (preT d j i l r x))))
          case atStart => exact ⟨0,by omega,rfl,rfl,HBX.out,HVO.out⟩
          case round =>
           clear HBX HVO
           obtain ⟨x,hx,rfl,rfl,hbx,hvo⟩:=hrel
           have HBX:=zh hbx; have HVO:=zh hvo
           clear hbx hvo
           by_cases hltx:x < L
           ·have hcx:=H8.out x hltx
            rw [<- (HSl.out.to HBX.out).below.cell (p:=⟨e1,_,none⟩) h7] at hcx
            have hsl:d.nx l r x < N:=by rw [HNE.out]; exact HD.out.hn l r x (by rw [<- HNE.out]; exact hltl) (by rw [<- HNE.out]; exact hltr) (by rw [<- HLE.out]; exact hltx)
            obtain ⟨s,hs⟩:=zx (d.nx l r x)
            rw [<- hs] at hcx hsl
            have HSS:=zh hs
            have hsz:(s:Int) < (N:Int):=by omega
            obtain ⟨⟨u0,hu0⟩,hf0,_,hg0⟩:=HVO.out.spot (j:=s) (by rw [zfn,zdu]) hsl
            obtain ⟨a,ha⟩:=zx (rowC (preT d j i l r x) s % M64)
            have hca:wr.cell? ⟨gr,s,none⟩ = some (.int .u64 (a:Int)):=by
             obtain ⟨g,cap,cs,he,_,_,_,_,hcell⟩:=HVO.out.row (by rw [zfn,zdu]; exact hpos)
             simp only [Value.slice.injEq,Option.some.injEq,Addr.mk.injEq,and_true] at he
             have he1:=he.1
             subst he1
             rw [ha]
             exact hcell s _ (uL_at (zki _ hsl))
            have HA:=zh ha
            have e1':=zjq ((P:Int) * (Q:Int)) (P * Q) (by simp)
            obtain ⟨pq,hpq⟩:=zx (P * Q % M64)
            rw [<- hpq] at e1'
            have e2':=zjq ((a:Int) + (pq:Int)) (a + pq) (by simp)
            obtain ⟨t,ht⟩:=zx ((a + pq) % M64)
            rw [<- ht] at e2'
            have HT:Hid (t = (rowC (preT d j i l r x) s + d.cnt i l * d.cnt (j - i) r) % M64):=by
             unfold Hid
             rw [ht,hpq,HA.out,HP.out,HQ.out,<- HJJ.out,zkm]
            clear hs ha hu0 hpq ht
            go_wp2
            go_roundg (L - (x + 1))
            case rel =>
             refine ⟨x + 1,by omega,rfl,by go_num,HBX.out.setCell (p:=⟨gr,s,none⟩) hgrw _,?_⟩
             rw [preT_x]
             unfold tX
             rw [<- HSS.out,zpt _ _ hsl,<- HT.out,<- uL_set]
             exact zcr HVO.out (by rw [zfn,zdu]) s _ rfl
            case measure => omega
           ·have hxe:x = L:=by omega
            go_wp2
            go_roundg (N - (r + 1))
            case rel => exact ⟨r + 1,by omega,rfl,by go_num,HBX.out,by rw [<- preT_r,<- HLE.out]; have h:=HVO.out; rw [hxe] at h; exact h⟩
            case measure => omega
         ·have hre:r = N:=by omega
          go_wp2
          go_roundg (N - (l + 1))
          case rel => exact ⟨l + 1,by omega,rfl,by go_num,HBX.out,by
           have hP:preT d j i l N 0 = preT d j i (l + 1) 0 0:=by rw [HNE.out]; exact preT_l d j i l
           rw [<- hP]; have h:=HVO.out; rw [hre] at h; exact h⟩
          case measure => omega
       ·have hle:l = N:=by omega
        go_wp2
        go_roundg (j + 1 - (i + 1))
        case rel => exact ⟨i + 1,by omega,rfl,by go_num,HBX.out,by
         have hP:preT d j i N 0 0 = preT d j (i + 1) 0 0 0:=by rw [HNE.out]; exact preT_i d j i
         rw [<- hP]; have h:=HVO.out; rw [hle] at h; exact h⟩
        case measure => omega
     ·have hie:i = j + 1:=by omega
      have hvo:=HVO.out
      have hfull:cRow N (preT d j (j + 1) 0 0 0) = cntR d (j + 1):=by rw [HNE.out]; exact zpu HD.out j
      rw [hie,hfull] at hvo
      have HVF:=zh hvo
      obtain ⟨vs,hv1,hv2,hv3⟩:=HSX.out.co
      have HV1:=zh hv1; have HV2:=zh hv2; have HV3:=zh hv3
      clear hv1 hv2 hv3 hvo hfull
      go_wp2_with (at_builtin; refine zaa eUU rfl (.tmp 99) (.tmp 101) rfl w.heap.size _ _ rfl (VO.allocd HV1.out _) _ [.slice (some ⟨gr,0,none⟩) N N] rfl (VS.one (Row.new _ _ _)) (by intro u hu; simp at hu; subst hu; rfl) (by rw [HV2.out]; simp; omega) (by simp only [World.size_alloc]; have:=HSX.out.below.size; omega) ?_; intro v8 w8 ho8 hg8 _; have HS8:=zh (HSX.out.snoc HV1.out HV2.out HV3.out HVF.out hg8 ho8); clear ho8 hg8)
      go_roundg (n + 1 - (j + 1 + 1))
      case rel => exact ⟨j + 1 + 1,by omega,by omega,by go_num,HS8.out⟩
      case measure => omega
  ·have hke:k = n + 1:=by omega
   have HS2:=zh (show CnS d w N V E (.slice (some ⟨b3,o3,none⟩) N c3) (.slice (some ⟨bk,ok,none⟩) N ck) (.slice A7 k c7) k wl from HS.out)
   go_wp2
   clear y0
   go_loopg [17,107] N (fun gk q17 q107 wr => ∃ s:Nat,s <= N /\ gk = N - s /\ q107 = .int .i64 s /\ q17 = .int .u64 ((accK d n s % M64:Nat):Int) /\ wr = wl)
   case atStart => exact ⟨0,by omega,rfl,rfl,rfl,rfl⟩
   case round =>
    obtain ⟨s,hs,rfl,rfl,rfl,rfl⟩:=hrel
    by_cases hlts:s < N
    ·have cf:=HK2.out s hlts
     rw [<- HS2.out.below.cell (p:=⟨bk,_,none⟩) hbk] at cf
     have y1:=HS2.out.rd.cell
     obtain ⟨g7,gI,cI,rfl,hg7,hcI,hcI2,hgI,hCI⟩:=HS2.out.co.at HNE.out hpos (show n < k by omega)
     have c0:=hCI s hlts
     obtain ⟨P,hP⟩:=zx (d.cnt n s % M64)
     have HP:=zh hP
     rw [<- hP] at c0
     obtain ⟨A,hA⟩:=zx (accK d n s % M64)
     have HA:=zh hA
     rw [<- hA]
     obtain ⟨q,hq⟩:=zx (d.fin s)
     have HQ:=zh hq
     rw [<- hq] at cf
     have hnk:n < k:=by omega
     have hnk2:(n:Int) < (k:Int):=by omega
     have e1':=zjq ((A:Int) + (P:Int)) (A + P) (by simp)
     obtain ⟨t,ht⟩:=zx ((A + P) % M64)
     rw [<- ht] at e1'
     have HT:Hid (t = (accK d n s + d.cnt n s) % M64):=by unfold Hid; rw [ht,HA.out,HP.out,<- Nat.add_mod]
     clear hP hA hq hCI ht
     cases q with
     | true =>
      go_wp2
      go_roundg (N - (s + 1))
      case rel => exact ⟨s + 1,by omega,rfl,by go_num,by rw [zjg,<- HQ.out,if_pos rfl,<- HT.out],rfl⟩
      case measure => omega
     | false =>
      go_wp2
      go_roundg (N - (s + 1))
      case rel => exact ⟨s + 1,by omega,rfl,by go_num,by rw [zjg,<- HQ.out,if_neg (by simp),Nat.add_zero,<- HA.out],rfl⟩
      case measure => omega
    ·have hse:s = N:=by omega
     have hR:Hid (accK d n s % M64 = accN d n % M64):=by
      unfold Hid
      rw [hse,HAC.out]
     go_wp2
     go_returns
     exact ⟨by rw [<- hR.out]; rfl,HS2.out.below⟩
end Go.Proofs.YthkfjnmnoanhlaaGreatDoor
