/- Part 40 of the proof; it says: lemmas and contracts. No conditions but those that each theorem states. -/
import Derived.StillTailTactics
import Derived.Test.YthdabkmkgkkmcaaGreatDoorPb01
import Derived.Test.YthdabkmkgkkmcaaGreatDoorPb20
set_option linter.unusedSimpArgs false
set_option linter.unusedVariables false
set_option maxRecDepth 100000
set_option maxHeartbeats 32000000
namespace Go.Proofs.YthdabkmkgkkmcaaGreatDoor
open Go.RowKit
theorem zcm {α:Type} {f g:List α} {k:Nat} {x y:α} (hx:f[k]? = some x) (hy:g[k]? = some y) (h:f.take k = g.take k):(f = g -> x = y) /\ (x = y -> f.take (k + 1) = g.take (k + 1)):=by
 refine ⟨fun e => ?_,fun e => ?_⟩
 ·subst e; rw [hx] at hy; exact Option.some.inj hy
 ·rw [List.take_add_one,List.take_add_one,hx,hy,h,e]
theorem zpu (f g:List (Int)) (v u:Value) (w:World) (hv:N1 w v f) (hu:N1 w u g) (hl:f.length <= 1000000) :
  Calls Tryz.prog 128 #[v,u] w fun e w' => e = .returned (.bool (decide (f = g))) /\ Below w.heap.size w w':=by
 obtain ⟨A,c,rfl,hc1,hc2,hcell⟩:=hv.open
 obtain ⟨A2,c2,rfl,hd1,hd2,hdell⟩:=hu.open
 obtain ⟨n,hn⟩:=zx f.length
 obtain ⟨k2,hk2⟩:=zx g.length
 rw [<- hn] at hc1 hl ⊢
 rw [<- hk2] at hd1 ⊢
 have HN:=zh hn; have HK:=zh hk2
 have HC:=zh hcell; have HDC:=zh hdell; clear hcell hdell hv hu
 by_cases hne:n = k2
 ·subst hne
  clear hn hk2
  have hnn:((n:Int) != n) = false:=by simp
  obtain ⟨t,ht⟩:=zx (decide (f = g))
  rw [<- ht]
  have HT:=zh ht; clear ht
  go_enter Tryz.func128,Tryz.ntmps128
  go_wp2
  go_loopg [5] n (fun gk q wr => ∃ k:Nat,k <= n /\ gk = n - k /\ q = .int .i64 k /\ Below w.heap.size w wr /\ f.take k = g.take k)
  case atStart => exact ⟨0,Nat.zero_le _,rfl,rfl,Below.refl _ _,by simp⟩
  case round =>
   obtain ⟨k,hk,rfl,rfl,hb,heq⟩:=hrel
   have HB:=zh hb; clear hb
   have HE:=zh heq; clear heq
   by_cases hlt:k < n
   ·obtain ⟨x,hx⟩:∃ x,f[k]? = some x:=⟨f[k]'(by rw [<- HN.out]; exact hlt),List.getElem?_eq_getElem _⟩
    obtain ⟨y,hy⟩:∃ y,g[k]? = some y:=⟨g[k]'(by rw [<- HK.out]; exact hlt),List.getElem?_eq_getElem _⟩
    obtain ⟨b,o,rfl,hb,hc⟩:=HC.out k x hx
    obtain ⟨b2,o2,rfl,hb2,hc'⟩:=HDC.out k y hy
    have c0:=(HB.out.cell (p:=⟨b,_,none⟩) hb).trans hc
    have d0:=(HB.out.cell (p:=⟨b2,_,none⟩) hb2).trans hc'
    clear hc hc'
    have hiff:=zcm hx hy HE.out
    have HI:=zh hiff; clear hiff
    have HX:=zh hx; have HY:=zh hy
    clear hx hy
    by_cases hxy:x = y
    ·subst hxy
     have HFF:=zh (HI.out.2 rfl)
     go_wp2
     first | go_region | fail
     go_wp2
     go_roundg (n - (k + 1))
     case rel => exact ⟨k + 1,by omega,rfl,by go_num,HB.out.drew,HFF.out⟩
     case measure => omega
    ·have hfg:f ≠ g:=fun h => hxy (HI.out.1 h)
     have hff:t = false:=by rw [HT.out]; simp [hfg]
     have HFF:=zh hff
     have hxy':((x:Int) != y) = true:=by rw [bne_iff_ne]; exact hxy
     clear hxy hfg hff
     go_wp2
     first | go_region | fail
     go_wp2
     go_returns
     exact ⟨by rw [HFF.out]; rfl,HB.out.drew⟩
   ·go_wp2
    go_returns
    refine ⟨?_,HB.out⟩
    have hkn:k = n:=by omega
    have h:=HE.out
    rw [hkn] at h
    rw [List.take_of_length_le (by rw [<- HN.out]; exact zn),List.take_of_length_le (by rw [<- HK.out]; exact zn)] at h
    rw [HT.out]; simp [h]
 ·have hnn:((n:Int) != k2) = true:=by rw [bne_iff_ne]; omega
  have e:decide (f = g) = false:=by
   rw [decide_eq_false_iff_not]; intro h; subst h; omega
  rw [e]
  clear hn hk2 e hne
  go_enter Tryz.func128,Tryz.ntmps128
  go_wp2
  go_returns
  exact ⟨rfl,Below.refl _ _⟩
theorem zna (f g:List (Bool)) (v u:Value) (w:World) (hv:NB w v f) (hu:NB w u g) (hl:f.length <= 1000000) :
  Calls Tryz.prog 43 #[v,u] w fun e w' => e = .returned (.bool (decide (f = g))) /\ Below w.heap.size w w':=by
 obtain ⟨A,c,rfl,hc1,hc2,hcell⟩:=hv.open
 obtain ⟨A2,c2,rfl,hd1,hd2,hdell⟩:=hu.open
 obtain ⟨n,hn⟩:=zx f.length
 obtain ⟨k2,hk2⟩:=zx g.length
 rw [<- hn] at hc1 hl ⊢
 rw [<- hk2] at hd1 ⊢
 have HN:=zh hn; have HK:=zh hk2
 have HC:=zh hcell; have HDC:=zh hdell; clear hcell hdell hv hu
 by_cases hne:n = k2
 ·subst hne
  clear hn hk2
  have hnn:((n:Int) != n) = false:=by simp
  obtain ⟨t,ht⟩:=zx (decide (f = g))
  rw [<- ht]
  have HT:=zh ht; clear ht
  go_enter Tryz.func43,Tryz.ntmps43
  go_wp2
  go_loopg [5] n (fun gk q wr => ∃ k:Nat,k <= n /\ gk = n - k /\ q = .int .i64 k /\ Below w.heap.size w wr /\ f.take k = g.take k)
  case atStart => exact ⟨0,Nat.zero_le _,rfl,rfl,Below.refl _ _,by simp⟩
  case round =>
   obtain ⟨k,hk,rfl,rfl,hb,heq⟩:=hrel
   have HB:=zh hb; clear hb
   have HE:=zh heq; clear heq
   by_cases hlt:k < n
   ·obtain ⟨x,hx⟩:∃ x,f[k]? = some x:=⟨f[k]'(by rw [<- HN.out]; exact hlt),List.getElem?_eq_getElem _⟩
    obtain ⟨y,hy⟩:∃ y,g[k]? = some y:=⟨g[k]'(by rw [<- HK.out]; exact hlt),List.getElem?_eq_getElem _⟩
    obtain ⟨b,o,rfl,hb,hc⟩:=HC.out k x hx
    obtain ⟨b2,o2,rfl,hb2,hc'⟩:=HDC.out k y hy
    have c0:=(HB.out.cell (p:=⟨b,_,none⟩) hb).trans hc
    have d0:=(HB.out.cell (p:=⟨b2,_,none⟩) hb2).trans hc'
    clear hc hc'
    have hiff:=zcm hx hy HE.out
    have HI:=zh hiff; clear hiff
    have HX:=zh hx; have HY:=zh hy
    clear hx hy
    by_cases hxy:x = y
    ·subst hxy
     have HFF:=zh (HI.out.2 rfl)
     go_wp2
     first | go_region | fail
     go_wp2
     go_roundg (n - (k + 1))
     case rel => exact ⟨k + 1,by omega,rfl,by go_num,HB.out.drew,HFF.out⟩
     case measure => omega
    ·have hfg:f ≠ g:=fun h => hxy (HI.out.1 h)
     have hff:t = false:=by rw [HT.out]; simp [hfg]
     have HFF:=zh hff
     have hxy':(x == y) = false:=beq_eq_false_iff_ne.2 hxy
     clear hxy hfg hff
     go_wp2
     first | go_region | fail
     go_wp2
     go_returns
     exact ⟨by rw [HFF.out]; rfl,HB.out.drew⟩
   ·go_wp2
    go_returns
    refine ⟨?_,HB.out⟩
    have hkn:k = n:=by omega
    have h:=HE.out
    rw [hkn] at h
    rw [List.take_of_length_le (by rw [<- HN.out]; exact zn),List.take_of_length_le (by rw [<- HK.out]; exact zn)] at h
    rw [HT.out]; simp [h]
 ·have hnn:((n:Int) != k2) = true:=by rw [bne_iff_ne]; omega
  have e:decide (f = g) = false:=by
   rw [decide_eq_false_iff_not]; intro h; subst h; omega
  rw [e]
  clear hn hk2 e hne
  go_enter Tryz.func43,Tryz.ntmps43
  go_wp2
  go_returns
  exact ⟨rfl,Below.refl _ _⟩
theorem zpt (f g:List (List Int)) (v u:Value) (w:World) (hv:N2 w v f) (hu:N2 w u g) (hl:f.length <= 1000000) (hl2:∀ x ∈ f,x.length <= 1000000) :
  Calls Tryz.prog 84 #[v,u] w fun e w' => e = .returned (.bool (decide (f = g))) /\ Below w.heap.size w w':=by
 obtain ⟨A,c,rfl,hc1,hc2,hcell⟩:=hv.open
 obtain ⟨A2,c2,rfl,hd1,hd2,hdell⟩:=hu.open
 obtain ⟨n,hn⟩:=zx f.length
 obtain ⟨k2,hk2⟩:=zx g.length
 rw [<- hn] at hc1 hl ⊢
 rw [<- hk2] at hd1 ⊢
 have HN:=zh hn; have HK:=zh hk2
 have HC:=zh hcell; have HDC:=zh hdell; clear hcell hdell hv hu
 by_cases hne:n = k2
 ·subst hne
  clear hn hk2
  have hnn:((n:Int) != n) = false:=by simp
  obtain ⟨t,ht⟩:=zx (decide (f = g))
  rw [<- ht]
  have HT:=zh ht; clear ht
  go_enter Tryz.func84,Tryz.ntmps84
  go_wp2
  go_loopg [5] n (fun gk q wr => ∃ k:Nat,k <= n /\ gk = n - k /\ q = .int .i64 k /\ Below w.heap.size w wr /\ f.take k = g.take k)
  case atStart => exact ⟨0,Nat.zero_le _,rfl,rfl,Below.refl _ _,by simp⟩
  case round =>
   obtain ⟨k,hk,rfl,rfl,hb,heq⟩:=hrel
   have HB:=zh hb; clear hb
   have HE:=zh heq; clear heq
   by_cases hlt:k < n
   ·obtain ⟨x,hx⟩:∃ x,f[k]? = some x:=⟨f[k]'(by rw [<- HN.out]; exact hlt),List.getElem?_eq_getElem _⟩
    obtain ⟨y,hy⟩:∃ y,g[k]? = some y:=⟨g[k]'(by rw [<- HK.out]; exact hlt),List.getElem?_eq_getElem _⟩
    obtain ⟨b,o,p,rfl,hb,hc,hnx⟩:=HC.out k x hx
    obtain ⟨b2,o2,q,rfl,hb2,hc',hny⟩:=HDC.out k y hy
    have c0:=(HB.out.cell (p:=⟨b,_,none⟩) hb).trans hc
    have d0:=(HB.out.cell (p:=⟨b2,_,none⟩) hb2).trans hc'
    have hcall:=zpu x y p q wr.drew (hnx.below HB.out.drew zn) (hny.below HB.out.drew zn) (hl2 x (List.mem_of_getElem? hx))
    obtain ⟨Ap,cp,rfl,_⟩:=hnx.open
    obtain ⟨Aq,cq,rfl,_⟩:=hny.open
    clear hc hc' hnx hny
    have hiff:=zcm hx hy HE.out
    have HI:=zh hiff; clear hiff
    have HX:=zh hx; have HY:=zh hy
    clear hx hy
    by_cases hxy:x = y
    ·subst hxy
     have HFF:=zh (HI.out.2 rfl)
     simp only [decide_true] at hcall
     have HCALL:=zh hcall
     clear hcall
     go_upto_region 6 with fail
     go_still_tail 8,(by kernel_rfl)
     change wpList _ _ _ _ _ wr.drew
     go_wp2_with (go_at_call 128; refine HCALL.out.mono ?_; rintro e w3 ⟨rfl,hb3⟩; have HB3:=zh (HB.out.drew.trans (hb3.mono HB.out.size)); clear hb3)
     go_roundg (n - (k + 1))
     case rel => exact ⟨k + 1,by omega,rfl,by go_num,HB3.out,HFF.out⟩
     case measure => omega
    ·have hfg:f ≠ g:=fun h => hxy (HI.out.1 h)
     have hff:t = false:=by rw [HT.out]; simp [hfg]
     have HFF:=zh hff
     have hdx:decide (x = y) = false:=by rw [decide_eq_false_iff_not]; exact hxy
     rw [hdx] at hcall
     clear hdx hxy hfg hff
     have HCALL:=zh hcall
     clear hcall
     go_upto_region 6 with fail
     go_still_tail 8,(by kernel_rfl)
     change wpList _ _ _ _ _ wr.drew
     go_wp2_with (go_at_call 128; refine HCALL.out.mono ?_; rintro e w3 ⟨rfl,hb3⟩; have HB3:=zh (HB.out.drew.trans (hb3.mono HB.out.size)); clear hb3)
     go_returns
     exact ⟨by rw [HFF.out]; rfl,HB3.out⟩
   ·go_wp2
    go_returns
    refine ⟨?_,HB.out⟩
    have hkn:k = n:=by omega
    have h:=HE.out
    rw [hkn] at h
    rw [List.take_of_length_le (by rw [<- HN.out]; exact zn),List.take_of_length_le (by rw [<- HK.out]; exact zn)] at h
    rw [HT.out]; simp [h]
 ·have hnn:((n:Int) != k2) = true:=by rw [bne_iff_ne]; omega
  have e:decide (f = g) = false:=by
   rw [decide_eq_false_iff_not]; intro h; subst h; omega
  rw [e]
  clear hn hk2 e hne
  go_enter Tryz.func84,Tryz.ntmps84
  go_wp2
  go_returns
  exact ⟨rfl,Below.refl _ _⟩
theorem zkm (f g:List (List (List Int))) (v u:Value) (w:World) (hv:N3 w v f) (hu:N3 w u g) (hl:f.length <= 1000000) (hl2:∀ x ∈ f,x.length <= 1000000) (hl3:∀ x ∈ f,∀ y ∈ x,y.length <= 1000000) :
  Calls Tryz.prog 42 #[v,u] w fun e w' => e = .returned (.bool (decide (f = g))) /\ Below w.heap.size w w':=by
 obtain ⟨A,c,rfl,hc1,hc2,hcell⟩:=hv.open
 obtain ⟨A2,c2,rfl,hd1,hd2,hdell⟩:=hu.open
 obtain ⟨n,hn⟩:=zx f.length
 obtain ⟨k2,hk2⟩:=zx g.length
 rw [<- hn] at hc1 hl ⊢
 rw [<- hk2] at hd1 ⊢
 have HN:=zh hn; have HK:=zh hk2
 have HC:=zh hcell; have HDC:=zh hdell; clear hcell hdell hv hu
 by_cases hne:n = k2
 ·subst hne
  clear hn hk2
  have hnn:((n:Int) != n) = false:=by simp
  obtain ⟨t,ht⟩:=zx (decide (f = g))
  rw [<- ht]
  have HT:=zh ht; clear ht
  go_enter Tryz.func42,Tryz.ntmps42
  go_wp2
  go_loopg [5] n (fun gk q wr => ∃ k:Nat,k <= n /\ gk = n - k /\ q = .int .i64 k /\ Below w.heap.size w wr /\ f.take k = g.take k)
  case atStart => exact ⟨0,Nat.zero_le _,rfl,rfl,Below.refl _ _,by simp⟩
  case round =>
   obtain ⟨k,hk,rfl,rfl,hb,heq⟩:=hrel
   have HB:=zh hb; clear hb
   have HE:=zh heq; clear heq
   by_cases hlt:k < n
   ·obtain ⟨x,hx⟩:∃ x,f[k]? = some x:=⟨f[k]'(by rw [<- HN.out]; exact hlt),List.getElem?_eq_getElem _⟩
    obtain ⟨y,hy⟩:∃ y,g[k]? = some y:=⟨g[k]'(by rw [<- HK.out]; exact hlt),List.getElem?_eq_getElem _⟩
    obtain ⟨b,o,p,rfl,hb,hc,hnx⟩:=HC.out k x hx
    obtain ⟨b2,o2,q,rfl,hb2,hc',hny⟩:=HDC.out k y hy
    have c0:=(HB.out.cell (p:=⟨b,_,none⟩) hb).trans hc
    have d0:=(HB.out.cell (p:=⟨b2,_,none⟩) hb2).trans hc'
    have hcall:=zpt x y p q wr.drew (hnx.below HB.out.drew zn) (hny.below HB.out.drew zn) (hl2 x (List.mem_of_getElem? hx)) (hl3 x (List.mem_of_getElem? hx))
    obtain ⟨Ap,cp,rfl,_⟩:=hnx.open
    obtain ⟨Aq,cq,rfl,_⟩:=hny.open
    clear hc hc' hnx hny
    have hiff:=zcm hx hy HE.out
    have HI:=zh hiff; clear hiff
    have HX:=zh hx; have HY:=zh hy
    clear hx hy
    by_cases hxy:x = y
    ·subst hxy
     have HFF:=zh (HI.out.2 rfl)
     simp only [decide_true] at hcall
     have HCALL:=zh hcall
     clear hcall
     go_upto_region 6 with fail
     go_still_tail 8,(by kernel_rfl)
     change wpList _ _ _ _ _ wr.drew
     go_wp2_with (go_at_call 84; refine HCALL.out.mono ?_; rintro e w3 ⟨rfl,hb3⟩; have HB3:=zh (HB.out.drew.trans (hb3.mono HB.out.size)); clear hb3)
     go_roundg (n - (k + 1))
     case rel => exact ⟨k + 1,by omega,rfl,by go_num,HB3.out,HFF.out⟩
     case measure => omega
    ·have hfg:f ≠ g:=fun h => hxy (HI.out.1 h)
     have hff:t = false:=by rw [HT.out]; simp [hfg]
     have HFF:=zh hff
     have hdx:decide (x = y) = false:=by rw [decide_eq_false_iff_not]; exact hxy
     rw [hdx] at hcall
     clear hdx hxy hfg hff
     have HCALL:=zh hcall
     clear hcall
     go_upto_region 6 with fail
     go_still_tail 8,(by kernel_rfl)
     change wpList _ _ _ _ _ wr.drew
     go_wp2_with (go_at_call 84; refine HCALL.out.mono ?_; rintro e w3 ⟨rfl,hb3⟩; have HB3:=zh (HB.out.drew.trans (hb3.mono HB.out.size)); clear hb3)
     go_returns
     exact ⟨by rw [HFF.out]; rfl,HB3.out⟩
   ·go_wp2
    go_returns
    refine ⟨?_,HB.out⟩
    have hkn:k = n:=by omega
    have h:=HE.out
    rw [hkn] at h
    rw [List.take_of_length_le (by rw [<- HN.out]; exact zn),List.take_of_length_le (by rw [<- HK.out]; exact zn)] at h
    rw [HT.out]; simp [h]
 ·have hnn:((n:Int) != k2) = true:=by rw [bne_iff_ne]; omega
  have e:decide (f = g) = false:=by
   rw [decide_eq_false_iff_not]; intro h; subst h; omega
  rw [e]
  clear hn hk2 e hne
  go_enter Tryz.func42,Tryz.ntmps42
  go_wp2
  go_returns
  exact ⟨rfl,Below.refl _ _⟩
structure Raw.Low (r:Raw):Prop where
 n:r.next.length <= 1000000
 n2:∀ x ∈ r.next,x.length <= 1000000
 n3:∀ x ∈ r.next,∀ y ∈ x,y.length <= 1000000
 f:r.fin.length <= 1000000
theorem Dta.Fit.low {d:Dta} {V:Nat} (h:d.Fit V):(d.raw V).Low:=by
 have h1:=h.n64; have h2:=h.L8.2
 refine ⟨by rw [(d.raw_len V).1]; omega,fun x hx => ?_,fun x hx y hy => ?_,by rw [(d.raw_len V).2]; omega⟩
 ·obtain ⟨l,_,rfl⟩:=List.mem_map.1 hx; simp; omega
 ·obtain ⟨l,_,rfl⟩:=List.mem_map.1 hx
  obtain ⟨q,_,rfl⟩:=List.mem_map.1 hy
  simp; omega
def eqR (r s:Raw):Bool:=decide (r.vars = s.vars) && (decide (r.empty = s.empty) && (decide (r.next = s.next) && decide (r.fin = s.fin)))
theorem eqR_iff (r s:Raw):eqR r s = true ↔ r = s:=by
 obtain ⟨a,b,c,d⟩:=r
 obtain ⟨a',b',c',d'⟩:=s
 simp only [eqR,Bool.and_eq_true,decide_eq_true_eq,Raw.mk.injEq]
theorem zf7 (r:Raw):eqR r r = true:=(eqR_iff r r).2 rfl
theorem ziz (r s:Raw) (v u:Value) (w:World) (hv:TD w v r) (hu:TD w u s) (hl:r.Low) :
  Calls Tryz.prog 15 #[v,u] w fun e w' => e = .returned (.bool (eqR r s)) /\ Below w.heap.size w w':=by
 obtain ⟨vn,vf,rfl,hn,hf⟩:=hv
 obtain ⟨un,uf,rfl,hm,hg⟩:=hu
 have hbl:=fun W (h:Below w.heap.size w W) => zkm r.next s.next vn un W (hn.below h zn) (hm.below h zn) hl.n hl.n2 hl.n3
 have hbo:=fun W (h:Below w.heap.size w W) => zna r.fin s.fin vf uf W (hf.below h zn) (hg.below h zn) hl.f
 obtain ⟨A1,c1,rfl,_⟩:=hn.open
 obtain ⟨A2,c2,rfl,_⟩:=hf.open
 obtain ⟨A3,c3,rfl,_⟩:=hm.open
 obtain ⟨A4,c4,rfl,_⟩:=hg.open
 obtain ⟨t3,h3⟩:=zx (decide (r.next = s.next))
 obtain ⟨t4,h4⟩:=zx (decide (r.fin = s.fin))
 have HE:=zh (show eqR r s = (decide (r.vars = s.vars) && (decide (r.empty = s.empty) && (t3 && t4))) by rw [h3,h4]; rfl)
 rw [<- h3] at hbl
 rw [<- h4] at hbo
 obtain ⟨n1,g1⟩:=zx r.next.length
 obtain ⟨n2,g2⟩:=zx r.fin.length
 obtain ⟨n3,g3⟩:=zx s.next.length
 obtain ⟨n4,g4⟩:=zx s.fin.length
 rw [<- g1,<- g3] at hbl
 rw [<- g2,<- g4] at hbo
 rw [<- g1,<- g2,<- g3,<- g4]
 have HBL:=zh hbl; have HBO:=zh hbo
 obtain ⟨V1,k1⟩:=zx r.vars
 obtain ⟨E1,k2⟩:=zx r.empty
 obtain ⟨V2,k3⟩:=zx s.vars
 obtain ⟨E2,k4⟩:=zx s.empty
 rw [<- k1,<- k2,<- k3,<- k4] at HE ⊢
 obtain ⟨Q,hQ⟩:=zx (eqR r s)
 rw [<- hQ] at HE ⊢
 clear hbl hbo hn hf hm hg h3 h4 g1 g2 g3 g4 k1 k2 k3 k4 hQ hl
 have hbx:Below w.heap.size w ((w.alloc (.cells #[.int .i64 V1,.int .i64 E1,.slice A1 n1 c1,.slice A2 n2 c2] 30)).alloc (.cells #[.int .i64 V2,.int .i64 E2,.slice A3 n3 c3,.slice A4 n4 c4] 30)):=by go_grown
 have HBX:=zh hbx
 clear hbx
 by_cases e1:V1 = V2
 ·subst e1
  by_cases e2:E1 = E2
  ·subst e2
   cases t3
   all_goals cases t4
   all_goals
    go_enter Tryz.func15,Tryz.ntmps15
    go_upto_region 1 with fail
    refine zaa (fun W => Below w.heap.size w W /\ Row W w.heap.size 30 #[.int .i64 V1,.int .i64 E1,.slice A1 n1 c1,.slice A2 n2 c2] /\ Row W (w.heap.size + 1) 30 #[.int .i64 V1,.int .i64 E1,.slice A3 n3 c3,.slice A4 n4 c4]) ⟨HBX.out,(Row.new _ _ _).alloc _,Row.lit (by simp)⟩ ?_
    rintro W ⟨hb,r1,r2⟩
    have y1:=r1.cell; have y2:=r2.cell
    have HB:=zh hb; have R1:=zh r1; have R2:=zh r2
    clear hb r1 r2
    go_wp2_with (first
     | (go_at_call 42; refine (HBL.out _ HB.out).mono ?_; rintro e w3 ⟨rfl,hb3⟩; have HB3:=zh (HB.out.trans (hb3.mono HB.out.size)); have z1:=(R1.out.below hb3 R1.out.lt).cell; have z2:=(R2.out.below hb3 R2.out.lt).cell; clear hb3 y1 y2)
     | (go_at_call 43; refine (HBO.out _ HB3.out).mono ?_; rintro e w4 ⟨rfl,hb4⟩; have HB4:=zh (HB3.out.trans (hb4.mono HB3.out.size)); clear hb4))
    go_returns
    first | exact ⟨by rw [HE.out]; simp,HB4.out⟩ | exact ⟨by rw [HE.out]; simp,HB3.out⟩
  ·have e2':(E1 == E2) = false:=beq_eq_false_iff_ne.2 e2
   have HN:=zh e2
   clear e2
   go_enter Tryz.func15,Tryz.ntmps15
   go_upto_region 1 with fail
   refine zaa (fun W => Below w.heap.size w W /\ Row W w.heap.size 30 #[.int .i64 V1,.int .i64 E1,.slice A1 n1 c1,.slice A2 n2 c2] /\ Row W (w.heap.size + 1) 30 #[.int .i64 V1,.int .i64 E2,.slice A3 n3 c3,.slice A4 n4 c4]) ⟨HBX.out,(Row.new _ _ _).alloc _,Row.lit (by simp)⟩ ?_
   rintro W ⟨hb,r1,r2⟩
   have y1:=r1.cell; have y2:=r2.cell
   have HB:=zh hb
   clear hb r1 r2
   go_wp2
   go_returns
   exact ⟨by rw [HE.out,decide_eq_false HN.out]; simp,HB.out⟩
 ·have e1':(V1 == V2) = false:=beq_eq_false_iff_ne.2 e1
  have HN:=zh e1
  clear e1
  go_enter Tryz.func15,Tryz.ntmps15
  go_upto_region 1 with fail
  refine zaa (fun W => Below w.heap.size w W /\ Row W w.heap.size 30 #[.int .i64 V1,.int .i64 E1,.slice A1 n1 c1,.slice A2 n2 c2] /\ Row W (w.heap.size + 1) 30 #[.int .i64 V2,.int .i64 E2,.slice A3 n3 c3,.slice A4 n4 c4]) ⟨HBX.out,(Row.new _ _ _).alloc _,Row.lit (by simp)⟩ ?_
  rintro W ⟨hb,r1,r2⟩
  have y1:=r1.cell; have y2:=r2.cell
  have HB:=zh hb
  clear hb r1 r2
  go_wp2
  go_returns
  exact ⟨by rw [HE.out,decide_eq_false HN.out]; simp,HB.out⟩
end Go.Proofs.YthdabkmkgkkmcaaGreatDoor
