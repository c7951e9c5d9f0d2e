/- Part 3 of the proof; it says: lemmas and contracts. No conditions but those that each theorem states. -/
import Derived.Deep.DeepCutAuto
import Derived.Test.YthdabkmkgkkmcaaGreatDoorPb15
import Derived.Test.YthdabkmkgkkmcaaGreatDoorPb01
import Derived.Test.YthdabkmkgkkmcaaGreatDoorPb03
import Derived.Test.YthdabkmkgkkmcaaGreatDoorPb02
import Derived.Deep.QuietTactic
import Derived.BigQuiet
import Derived.Test.YthdabkmkgkkmcaaGreatDoorQa01
set_option linter.unusedSimpArgs false
set_option linter.unusedVariables false
set_option maxRecDepth 100000
set_option maxHeartbeats 32000000
namespace Go.Proofs.YthdabkmkgkkmcaaGreatDoor
open Go.RowKit
theorem zwd (f:List Lf) (v:Value) (w:World) (hv:TS w v f) (hl:f.length <= 1000000):Calls Tryz.prog 24 #[v] w (RetTO w f):=by
 have HV:=zh hv; clear hv
 go_enter Tryz.func24,Tryz.ntmps24
 go_wp2_with (at_builtin; go_must (refine zbb rfl (.const (.slice none 0 0)) (.tmp 3) rfl w.heap.size (.slice none 0 0) [] rfl (TO.nil _ _) v f rfl HV.out (by simpa using hl) zn ?_; intro v1 w1 ho1 hg1 _))
 go_returns
 exact ⟨v1,rfl,zde (v':=v1) (g:=f) (Below.refl _ _) (TO.nil _ _) hg1 zn,ho1⟩
theorem TS.cut {w:World} {A:Option Addr} {n c:Nat} {f:List Lf} (h:TS w (.slice A n c) f) (k:Nat) (hk:k <= n) (A':Option Addr) (hA':0 < k -> A' = A):TS w (.slice A' k c) (f.take k):=by
 obtain ⟨h0,A1,c1,hv,h1,h2,h3⟩:=h
 simp only [Value.slice.injEq] at hv
 obtain ⟨rfl,rfl,rfl⟩:=hv
 have hl:(f.take k).length = k:=by rw [List.length_take]; omega
 refine ⟨fun m hm => h0 m (List.mem_of_mem_take hm),A',c,by rw [hl],by omega,h2,fun hp => ?_⟩
 rw [hl] at hp
 obtain ⟨b,o,hA,hb,hm⟩:=h3 (by omega)
 refine ⟨b,o,(hA' hp).trans hA,hb,fun i m hi => hm i m ?_⟩
 rw [List.getElem?_take] at hi
 by_cases hik:i < k
 ·rwa [if_pos hik] at hi
 ·rw [if_neg hik] at hi; cases hi
theorem zur (V:Nat) (x:Lf):zse (V:Int) x = (x.label / 2 ^ V != 0):=by
 rw [Bool.eq_iff_iff]; simp [zse]
theorem zs4 (t:List Lf) (v:Value) (vars:Int) (w:World) (hv:TS w v t) :
  Calls Tryz.prog 58 #[v,.int .i64 vars] w fun e w' => e = .returned (.int .i64 (zsf t vars)) /\ Below w.heap.size w w':=by
 have HV:=zh hv
 obtain ⟨hop,A,c,rfl,hc1,hc2,hcell⟩:=hv
 obtain ⟨n,hn⟩:=zx t.length
 rw [<- hn] at hc1 HV hcell ⊢
 obtain ⟨R,hR⟩:=zx (zsf t vars)
 rw [<- hR]
 unfold zsf at hR
 rw [<- hn] at hR
 have HR:=zh hR; have HN:=zh hn; have HC:=zh hcell; have HOP:=zh hop
 clear hR hn hcell hop
 by_cases hv1:vars < 0
 ·have HRR:Hid (R = 7):=by rw [Hid,HR.out,if_pos (.inl hv1)]
  go_enter Tryz.func58,Tryz.ntmps58
  go_wp2
  go_returns
  exact ⟨ret_i HRR.out,Below.refl _ _⟩
 by_cases hv2:3 < vars
 ·have HRR:Hid (R = 7):=by rw [Hid,HR.out,if_pos (.inr hv2)]
  go_enter Tryz.func58,Tryz.ntmps58
  go_wp2
  go_returns
  exact ⟨ret_i HRR.out,Below.refl _ _⟩
 by_cases h31:31 < n
 ·have HRR:Hid (R = 4):=by rw [Hid,HR.out,if_neg (by omega),if_pos h31]
  go_enter Tryz.func58,Tryz.ntmps58
  go_wp2
  go_returns
  exact ⟨ret_i HRR.out,Below.refl _ _⟩
 have HR3:Hid (R = if t.any (zse vars) then 1 else if zae t then 0 else 2):=by rw [Hid,HR.out,if_neg (by omega),if_neg h31]
 obtain ⟨V,rfl⟩:∃ V:Nat,vars = V:=⟨vars.toNat,by omega⟩
 have hV3:V <= 3:=by omega
 go_enter Tryz.func58,Tryz.ntmps58
 go_wp2
 go_loopg [20] n (fun gk v wr => ∃ k:Nat,k <= n /\ gk = n - k /\ v = .int .i64 k /\ Below w.heap.size w wr /\ (t.take k).any (zse V) = false)
 case atStart => exact ⟨0,Nat.zero_le _,rfl,rfl,Below.refl _ _,by simp⟩
 case round =>
  obtain ⟨k,hk,rfl,rfl,hbe,hacc⟩:=hrel
  have HB:=zh hbe; have HA:=zh hacc; clear hbe hacc
  by_cases hlt:k < n
  ·obtain ⟨x,hx⟩:∃ x,t[k]? = some x:=⟨t[k]'(by rw [<- HN.out]; exact hlt),List.getElem?_eq_getElem _⟩
   obtain ⟨b,o,rfl,hb,hcell⟩:=HC.out (by omega)
   obtain ⟨c0,c1,c2⟩:=hcell k x hx
   rw [<- HB.out.cell (p:=⟨b,_,none⟩) hb] at c0 c1 c2
   obtain ⟨l1,l2⟩:=HOP.out x (List.mem_of_getElem? hx)
   have hb':b < wr.heap.size:=by have:=HB.out.size; omega
   have hbl:=zur V x
   have hsn:=zi3 (zse V) hx
   have hat:=zqf (zse V) hx
   rw [hbl] at hsn hat
   have HS:=zh hsn; have HAT:=zh hat
   clear hcell hx hbl hsn hat
   obtain ⟨lb,l,r⟩:=x
   simp only at c0 c1 c2 HS HAT l1 l2
   cases hbb:(lb / 2 ^ V != 0)
   ·go_wp2
    go_roundg (n - (k + 1))
    case rel => exact ⟨k + 1,by omega,rfl,by go_num,by have:=HB.out; have:=HB.out.size; go_grown,by rw [HS.out,HA.out,hbb]; rfl⟩
    case measure => omega
   ·have HRR:Hid (R = 1):=by rw [Hid,HR3.out,if_pos (HAT.out hbb)]
    go_wp2
    go_returns
    exact ⟨ret_i HRR.out,by have:=HB.out; have:=HB.out.size; go_grown⟩
  ·have hkn:k = n:=by omega
   have hall:t.any (zse V) = false:=by
    have:=HA.out
    rw [hkn,List.take_of_length_le (by rw [<- HN.out]; exact zn)] at this
    exact this
   have HRR:Hid (R = if zae t then 0 else 2):=by rw [Hid,HR3.out,hall]; rfl
   clear hkn hall
   cases hf:zae t
   all_goals
    have HF:=zh hf; clear hf
    go_wp2_with (go_at_call 61; go_must (refine (zcg t _ _ (HV.out.below HB.out zn)).mono ?_; rintro e w1 ⟨rfl,hb1⟩; rw [HF.out]; replace HB:=zh (HB.out.trans (hb1.mono HB.out.size)); clear hb1))
    go_returns
    exact ⟨ret_i (by rw [HRR.out,HF.out]; rfl),HB.out⟩
end Go.Proofs.YthdabkmkgkkmcaaGreatDoor
