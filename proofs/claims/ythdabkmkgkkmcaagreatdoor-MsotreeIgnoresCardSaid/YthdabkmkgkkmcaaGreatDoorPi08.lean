/- Part 8 of the proof; it says: lemmas and contracts. No conditions but those that each theorem states. -/
import Derived.BigQuiet
import Derived.Test.YthdabkmkgkkmcaaGreatDoorPb01
import Derived.Test.YthdabkmkgkkmcaaGreatDoorPb03
import Derived.Test.YthdabkmkgkkmcaaGreatDoorPb04
import Derived.Test.YthdabkmkgkkmcaaGreatDoorPb05
import Derived.Test.YthdabkmkgkkmcaaGreatDoorPb06
import Derived.Test.YthdabkmkgkkmcaaGreatDoorPb07
import Derived.Test.YthdabkmkgkkmcaaGreatDoorPb08
import Derived.Test.YthdabkmkgkkmcaaGreatDoorPb09
import Derived.Test.YthdabkmkgkkmcaaGreatDoorPb10
import Derived.Test.YthdabkmkgkkmcaaGreatDoorPb11
import Derived.Test.YthdabkmkgkkmcaaGreatDoorPb12
import Derived.Test.YthdabkmkgkkmcaaGreatDoorPb13
import Derived.Test.YthdabkmkgkkmcaaGreatDoorPb14
import Derived.Test.YthdabkmkgkkmcaaGreatDoorPb15
import Derived.Test.YthdabkmkgkkmcaaGreatDoorPb16
import Derived.Test.YthdabkmkgkkmcaaGreatDoorPb17
import Derived.Test.YthdabkmkgkkmcaaGreatDoorPb18
import Derived.Test.YthdabkmkgkkmcaaGreatDoorPb19
import Derived.Test.YthdabkmkgkkmcaaGreatDoorPb20
import Derived.Test.YthdabkmkgkkmcaaGreatDoorPb21
import Derived.Test.YthdabkmkgkkmcaaGreatDoorPb22
import Derived.Test.YthdabkmkgkkmcaaGreatDoorPb23
import Derived.Test.YthdabkmkgkkmcaaGreatDoorPb24
import Derived.Test.YthdabkmkgkkmcaaGreatDoorPb25
import Derived.Test.YthdabkmkgkkmcaaGreatDoorPb26
import Derived.Test.YthdabkmkgkkmcaaGreatDoorPb27
import Derived.Test.YthdabkmkgkkmcaaGreatDoorPb28
import Derived.Test.YthdabkmkgkkmcaaGreatDoorPb29
import Derived.Test.YthdabkmkgkkmcaaGreatDoorPb30
import Derived.Test.YthdabkmkgkkmcaaGreatDoorPb31
import Derived.Test.YthdabkmkgkkmcaaGreatDoorPb32
import Derived.Test.YthdabkmkgkkmcaaGreatDoorPb33
import Derived.Test.YthdabkmkgkkmcaaGreatDoorPb34
import Derived.Test.YthdabkmkgkkmcaaGreatDoorPb35
import Derived.Test.YthdabkmkgkkmcaaGreatDoorPb36
import Derived.Test.YthdabkmkgkkmcaaGreatDoorPb37
import Derived.Test.YthdabkmkgkkmcaaGreatDoorPb38
import Derived.Test.YthdabkmkgkkmcaaGreatDoorPb39
import Derived.Test.YthdabkmkgkkmcaaGreatDoorPb40
import Derived.Test.YthdabkmkgkkmcaaGreatDoorPb41
import Derived.Test.YthdabkmkgkkmcaaGreatDoorPb02
import Derived.Test.YthdabkmkgkkmcaaGreatDoorPi01
import Derived.Test.YthdabkmkgkkmcaaGreatDoorPi02
import Derived.Test.YthdabkmkgkkmcaaGreatDoorPi03
import Derived.Test.YthdabkmkgkkmcaaGreatDoorPi04
import Derived.Test.YthdabkmkgkkmcaaGreatDoorPi05
import Derived.Test.YthdabkmkgkkmcaaGreatDoorPi06
import Derived.Test.YthdabkmkgkkmcaaGreatDoorPi07
set_option linter.unusedSimpArgs false
set_option linter.unusedVariables false
set_option maxRecDepth 100000
set_option maxHeartbeats 32000000
namespace Go.Proofs.YthdabkmkgkkmcaaGreatDoor
open Go.RowKit
theorem few21 (f:List Mk) (v:Value) (w:World) (hv:MS w v f):Calls Tryz.prog 9 #[v] w (RetMO w (f.take 12)):=by
 have HV:=zh hv
 obtain ⟨_,A,c,rfl,hc1,hc2,_⟩:=hv
 obtain ⟨n,hn⟩:=zx f.length
 rw [<- hn] at hc1 HV ⊢
 have hcp:=fun W (hW:MS W (.slice A n c) f) => zlu (f.take (min (n:Int) 12).toNat) _ W (hW.cut (min (n:Int) 12).toNat (by omega) A (fun _ => rfl)) (by rw [List.length_take]; omega)
 rw [show (12:Int) = ((12:Nat):Int) from rfl] at hcp
 rw [zi8 f n 12 hn] at hcp
 have HCP:=zh hcp; clear hcp hn
 go_enter Tryz.func9,Tryz.ntmps9
 go_wp2_with (go_at_call 10; go_must (refine (HCP.out _ HV.out).mono ?_; rintro e w1 ⟨v1,rfl,hb1,ho1⟩))
 go_returns
 exact ⟨v1,rfl,hb1,ho1⟩
theorem zs7 {f:List Mk} {V M:Int} (h:(compS f V M).2 ≠ 0):(compS f V M).1 = zeroR:=by
 unfold compS at h ⊢
 split
 ·rfl
 ·rename_i h1
  rw [if_neg h1] at h
  split
  ·rfl
  ·rename_i h2
   rw [if_neg h2] at h
   split
   ·rename_i h3
    rw [h3] at h
    exact absurd rfl h
   ·rfl
theorem WS.one {w:World} {B s:Nat} {v:Value} (h:WS w B v (setOf s)):(s = 0 -> ∃ A c,v = .slice A 0 c) /\ (s ≠ 0 -> ∃ g c,v = .slice (some ⟨g,0,none⟩) 1 c /\ 1 <= c /\ g < w.heap.size /\ w.cell? ⟨g,0,none⟩ = some (.int .u64 (s:Int))):=by
 unfold WS setOf at h
 refine ⟨fun h0 => ?_,fun h0 => ?_⟩
 ·rw [if_pos h0] at h
  rcases h.2 with ⟨hv,_⟩ | ⟨g,cap,cur,hv,_⟩
  ·exact ⟨_,_,hv⟩
  ·exact ⟨_,_,hv⟩
 ·rw [if_neg h0] at h
  rcases h.2 with ⟨hv,hn⟩ | ⟨g,cap,cur,hv,hB,hg,hnc,hcm,hcs,ht⟩
  ·cases hn
  ·refine ⟨g,cap,hv,hnc,lt_of_block hg,?_⟩
   rw [cell_of_row w g 0 cur _ (0,0) hg]
   have e:(cur.toList.take 1)[0]? = some (Value.int .u64 (s:Int)):=by
    have:=congrArg (fun l => l[0]?) ht
    simpa using this
   rw [List.getElem?_take,if_pos (by omega)] at e
   simpa using e
theorem xor_lt (y k:Nat) (hy:y < 8) (hk:k < 3):y ^^^ 2 ^ k < 8:=by
 have h:∀ (y:Fin 8) (k:Fin 3),(y:Nat) ^^^ 2 ^ (k:Nat) < 8:=by decide +kernel
 exact h ⟨y,hy⟩ ⟨k,hk⟩
theorem xor_v (y k:Nat) (hy:y < 8) (hk:k < 3):bits BinOp.xor IntKind.i64 (y:Int) ((2 ^ k:Nat):Int) = ((y ^^^ 2 ^ k:Nat):Int):=by
 have h:∀ (y:Fin 8) (k:Fin 3),bits BinOp.xor IntKind.i64 ((y:Nat):Int) ((2 ^ (k:Nat):Nat):Int) = (((y:Nat) ^^^ 2 ^ (k:Nat):Nat):Int):=by decide +kernel
 exact h ⟨y,hy⟩ ⟨k,hk⟩
theorem bit_s (s k:Nat) (hs:s < 64) (hk:k < 3):bits BinOp.and IntKind.u64 ((s:Int) / 2 ^ k) 1 = if s.testBit k then 1 else 0:=by
 have h:∀ (s:Fin 64) (k:Fin 3),bits BinOp.and IntKind.u64 (((s:Nat):Int) / 2 ^ (k:Nat)) 1 = if (s:Nat).testBit (k:Nat) then 1 else 0:=by decide +kernel
 exact h ⟨s,hs⟩ ⟨k,hk⟩
theorem zs5 (f:List Mk) (v:Value) (w:World) (hv:MS w v f) :
  Calls Tryz.prog 5 #[v] w fun e w' => e = .returned (.bool true) /\ Below w.heap.size w w':=by
 have hfw:=few21 f v w hv
 obtain ⟨x,hx⟩:=zx (f.take 12)
 rw [<- hx] at hfw
 have HFW:=zh hfw
 clear hfw hx hv
 by_cases hok:(compS x 3 64).2 = 0
 ·obtain ⟨_,_,t,ck,d,hd,ec,cc⟩:=zlv (V:=3) (M:=64) hok
  have hfit:=zd4 (by omega) (by omega) t ck.v d hd
  have hign:=fun (v:Nat) (hv:v < 3) (hf:frTQ (v:Int) t = false) (l r y:Nat) (hl:l < d.n) (hr:r < d.n) (hy:y < 8) => zs0 (V:=3) (M:=64) (by omega) (by omega) ck.ok ck.v hd hv hf hl hr (x:=y) hy
  have hfb:=zst t ck.ok
  have hcm:=fun v W (h:MS W v x) => zax x v 3 64 W h
  rw [show compS x 3 64 = _ from ec] at hcm
  have hs64:=zs9 ck.ok
  rw [<- ck.enc] at hs64
  have hfr:=fun v W (h:MS W v x) => ztb x t v W h (zdw cc) ck.enc ck.ok ck.size
  rw [<- ck.enc] at hfb
  obtain ⟨s,hs⟩:=zx (freeS x t)
  rw [<- hs] at hfb hfr hs64
  have HCM:=zh hcm; have HFR:=zh hfr; have HIG:=zh hign; have HFB:=zh hfb; have HFI:=zh hfit
  clear hcm hfr hign hfb hs ec cc hok
  go_enter Tryz.func5,Tryz.ntmps5
  go_upto_region 6 with (first
   | (go_at_call 9; go_must (refine HFW.out.mono ?_; rintro e w1 ⟨v1,rfl,hb,ho⟩; have HB:=zh (show Below w.heap.size w w1 from hb); have HX:=zh ho.ms; clear hb ho))
   | (go_at_call 11; go_must (refine (HCM.out _ _ HX.out).mono ?_; rintro e w2 ⟨A1,n1,c1,A2,n2,c2,rfl,hb,ht⟩; have HB:=zh (zhz HB.out (Below.refl _ _) hb); have HX:=zh (HX.out.on hb); have HT:=zh ht.td; clear hb ht))
   | (go_at_call 18; go_must (refine (HFR.out _ _ (HX.out.on (by go_grown))).mono ?_; rintro e w3 ⟨v3,rfl,hb,ho⟩; have HB:=zh (zhz HB.out (by go_grown) hb); have HBX:=zh (Bx.below (W:=w2.alloc (.cells #[.int .i64 (d.raw 3).vars,.int .i64 (d.raw 3).empty,.slice A1 n1 c1,.slice A2 n2 c2] 30)) ⟨Row.new _ _ _,HT.out.below (Below.alloc (Below.refl _ _) zn _) zn⟩ hb); have HW:=zh ho; clear hb ho)))
  have hL:d.L = 8:=hfit.L
  obtain ⟨vn,vf,ex,hn3,hnf⟩:=HBX.out.td
  simp only [Value.agg.injEq,Array.mk.injEq,List.cons.injEq,true_and,and_true] at ex
  obtain ⟨rfl,rfl⟩:=ex
  obtain ⟨b3,o3,c3,hN⟩:=(show N3 w3 _ (nx3 d.n d.L d.nx) from hn3).nx hfit.pos hfit.L8.1
  rw [hL] at hN
  have hfm:=hN.form
  simp only [Value.slice.injEq] at hfm
  obtain ⟨rfl,rfl,rfl⟩:=hfm
  obtain ⟨N,hNN⟩:=zx d.n
  obtain ⟨F,hFF⟩:=zx d.nx
  have hig:∀ (v:Nat),v < 3 -> s.testBit v = false -> ∀ (l r y:Nat),l < N -> r < N -> y < 8 -> F l r y = F l r (y ^^^ 2 ^ v):=fun v hv hs l r y hl hr hy => by
   rw [hFF]; exact HIG.out v hv (by rw [<- HFB.out]; exact hs) l r y (by rw [<- hNN]; exact hl) (by rw [<- hNN]; exact hr) hy
  have hN64:N <= 64:=by rw [hNN]; exact hfit.n64
  rw [<- hNN,<- hFF] at hN
  have hrow:=HBX.out.row
  rw [<- hNN] at hrow ⊢
  obtain ⟨V1,hV1⟩:=zx ((d.raw 3).vars)
  obtain ⟨E1,hE1⟩:=zx ((d.raw 3).empty)
  rw [<- hV1,<- hE1] at hrow ⊢
  have HN:=zh hN; have HROW:=zh hrow; have HIGN:=zh hig
  obtain ⟨b4,hb4⟩:=zx w2.heap.size
  rw [<- hb4] at HROW ⊢
  have hws:=HW.out
  clear hN hrow hig HIG HFB HFI hfit hd hnf hn3 HBX HT HX HCM HFR HFW ck hNN hFF hV1 hE1 hb4 HW
  have hfr:=WS.one hws
  clear hws
  go_upto_region 7 with fail
  by_cases hs0:s = 0
  ·obtain ⟨Af,cf,rfl⟩:=hfr.1 hs0
   clear hfr
   go_loopg [7] 3 (fun gk q wr => ∃ k:Nat,k <= 3 /\ gk = 3 - k /\ q = .int .i64 k /\ Below w3.heap.size w3 wr)
   case atStart => exact ⟨0,by omega,rfl,rfl,Below.refl _ _⟩
   case round =>
    obtain ⟨k,hk,rfl,rfl,hb⟩:=hrel
    have HBK:=zh hb
    have z0:=(HROW.out.below hb HROW.out.lt).cell
    have z2:=(HROW.out.below hb HROW.out.lt).lt
    clear hb
    by_cases hlt:k < 3
    ·have hlti:(k:Int) < 3:=by omega
     have HBIT:=zh (show s.testBit k = false by rw [hs0]; exact Nat.zero_testBit k)
     go_wp2
     go_loopg [8] N (fun gk q wr => ∃ l:Nat,l <= N /\ gk = N - l /\ q = .int .i64 l /\ Below w3.heap.size w3 wr)
     case atStart => exact ⟨0,by omega,rfl,rfl,HBK.out⟩
     case round =>
      clear HBK z0 z2
      obtain ⟨l,hl,rfl,rfl,hb⟩:=hrel
      have HBK:=zh hb
      have z0:=(HROW.out.below hb HROW.out.lt).cell
      have z2:=(HROW.out.below hb HROW.out.lt).lt
      clear hb
      by_cases hlN:l < N
      ·have hlNi:(l:Int) < (N:Int):=by omega
       go_wp2
       go_loopg [9] N (fun gk q wr => ∃ r:Nat,r <= N /\ gk = N - r /\ q = .int .i64 r /\ Below w3.heap.size w3 wr)
       case atStart => exact ⟨0,by omega,rfl,rfl,HBK.out⟩
       case round =>
        clear HBK z0 z2
        obtain ⟨r,hr,rfl,rfl,hb⟩:=hrel
        have HBK:=zh hb
        have z0:=(HROW.out.below hb HROW.out.lt).cell
        have z2:=(HROW.out.below hb HROW.out.lt).lt
        clear hb
        by_cases hrN:r < N
        ·have hrNi:(r:Int) < (N:Int):=by omega
         go_wp2
         go_loopg [10] 8 (fun gk q wr => ∃ y:Nat,y <= 8 /\ gk = 8 - y /\ q = .int .i64 y /\ Below w3.heap.size w3 wr)
         case atStart => exact ⟨0,by omega,rfl,rfl,HBK.out⟩
         case round =>
          clear HBK z0 z2
          obtain ⟨y,hy,rfl,rfl,hb⟩:=hrel
          have HBK:=zh hb
          have z0:=(HROW.out.below hb HROW.out.lt).cell
          have z2:=(HROW.out.below hb HROW.out.lt).lt
          clear hb
          by_cases hy8:y < 8
          ·have hy8i:(y:Int) < 8:=by omega
           have hx8:=xor_lt y k hy8 hlt
           obtain ⟨b2,o2,d2,b1,o1,d1,e1,e2,e3,e4,e5,e6,e7,e8,e9⟩:=HN.out.two hlN hrN hy8 hx8
           rw [<- HIGN.out k hlt HBIT.out l r y hlN hrN hy8] at e9
           have q2:=(HBK.out.cell (p:=⟨b3,_,none⟩) e1).trans e2
           have q5:=(HBK.out.cell (p:=⟨b2,_,none⟩) e4).trans e5
           have q8:=(HBK.out.cell (p:=⟨b1,_,none⟩) e7).trans e8
           have q9:=(HBK.out.cell (p:=⟨b1,_,none⟩) e7).trans e9
           have hcap:=HN.out.cap.1
           obtain ⟨T,hT⟩:=zx (F l r y)
           rw [<- hT] at q8 q9
           have hTT:((T:Int) != (T:Int)) = false:=by simp
           have hxv:=xor_v y k hy8 hlt
           obtain ⟨yx,hyx⟩:=zx (y ^^^ 2 ^ k)
           rw [<- hyx] at hx8 hxv q9
           have hx8i:(yx:Int) < 8:=by omega
           clear e1 e2 e4 e5 e7 e8 e9 hT hyx
           go_upto_region 19 with fail
           have hks:k = 0 \/ k = 1 \/ k = 2:=by omega
           rcases hks with rfl | rfl | rfl
           all_goals
            first | replace hxv:bits BinOp.xor IntKind.i64 (y:Int) 1 = (yx:Int):=hxv | replace hxv:bits BinOp.xor IntKind.i64 (y:Int) 2 = (yx:Int):=hxv | replace hxv:bits BinOp.xor IntKind.i64 (y:Int) 4 = (yx:Int):=hxv
            go_quiet (fail)
            go_wp2
            go_roundg (8 - (y + 1))
            case rel => exact ⟨y + 1,by omega,rfl,by go_num,HBK.out.trans ((zkp _ _).mono HBK.out.size)⟩
            case measure => omega
          ·go_wp2
           go_roundg (N - (r + 1))
           case rel => exact ⟨r + 1,by omega,rfl,by go_num,HBK.out⟩
           case measure => omega
        ·go_wp2
         go_roundg (N - (l + 1))
         case rel => exact ⟨l + 1,by omega,rfl,by go_num,HBK.out⟩
         case measure => omega
      ·go_wp2
       go_roundg (3 - (k + 1))
       case rel => exact ⟨k + 1,by omega,rfl,by go_num,HBK.out⟩
       case measure => omega
    ·have hk3:k = 3:=by omega
     subst hk3
     go_wp2_with (go_at_call 12; refine (zky _).mono ?_; rintro e wf ⟨rfl,hb⟩; have HE:=zh (zhz HB.out HBK.out hb); clear hb)
     go_returns
     exact ⟨rfl,HE.out⟩
  ·obtain ⟨g,cf,rfl,hc1,hgl,hgc⟩:=hfr.2 hs0
   clear hfr
   go_loopg [7] 3 (fun gk q wr => ∃ k:Nat,k <= 3 /\ gk = 3 - k /\ q = .int .i64 k /\ Below w3.heap.size w3 wr)
   case atStart => exact ⟨0,by omega,rfl,rfl,Below.refl _ _⟩
   case round =>
    obtain ⟨k,hk,rfl,rfl,hb⟩:=hrel
    have HBK:=zh hb
    have z0:=(HROW.out.below hb HROW.out.lt).cell
    have z2:=(HROW.out.below hb HROW.out.lt).lt
    clear hb
    by_cases hlt:k < 3
    ·have hlti:(k:Int) < 3:=by omega
     have g0:=(HBK.out.cell (p:=⟨g,0,none⟩) hgl).trans hgc
     have hbit:=bit_s s k hs64 hlt
     by_cases hsk:s.testBit k = true
     ·rw [if_pos hsk] at hbit
      clear hsk
      go_wp2
      go_roundg (3 - (k + 1))
      case rel => exact ⟨k + 1,by omega,rfl,by go_num,HBK.out⟩
      case measure => omega
     ·rw [if_neg hsk] at hbit
      have HBIT:=zh (show s.testBit k = false by simpa using hsk)
      clear hsk
      go_wp2
      clear hbit g0
      go_loopg [8] N (fun gk q wr => ∃ l:Nat,l <= N /\ gk = N - l /\ q = .int .i64 l /\ Below w3.heap.size w3 wr)
      case atStart => exact ⟨0,by omega,rfl,rfl,HBK.out⟩
      case round =>
       clear HBK z0 z2
       obtain ⟨l,hl,rfl,rfl,hb⟩:=hrel
       have HBK:=zh hb
       have z0:=(HROW.out.below hb HROW.out.lt).cell
       have z2:=(HROW.out.below hb HROW.out.lt).lt
       clear hb
       by_cases hlN:l < N
       ·have hlNi:(l:Int) < (N:Int):=by omega
        go_wp2
        go_loopg [9] N (fun gk q wr => ∃ r:Nat,r <= N /\ gk = N - r /\ q = .int .i64 r /\ Below w3.heap.size w3 wr)
        case atStart => exact ⟨0,by omega,rfl,rfl,HBK.out⟩
        case round =>
         clear HBK z0 z2
         obtain ⟨r,hr,rfl,rfl,hb⟩:=hrel
         have HBK:=zh hb
         have z0:=(HROW.out.below hb HROW.out.lt).cell
         have z2:=(HROW.out.below hb HROW.out.lt).lt
         clear hb
         by_cases hrN:r < N
         ·have hrNi:(r:Int) < (N:Int):=by omega
          go_wp2
          go_loopg [10] 8 (fun gk q wr => ∃ y:Nat,y <= 8 /\ gk = 8 - y /\ q = .int .i64 y /\ Below w3.heap.size w3 wr)
          case atStart => exact ⟨0,by omega,rfl,rfl,HBK.out⟩
          case round =>
           clear HBK z0 z2
           obtain ⟨y,hy,rfl,rfl,hb⟩:=hrel
           have HBK:=zh hb
           have z0:=(HROW.out.below hb HROW.out.lt).cell
           have z2:=(HROW.out.below hb HROW.out.lt).lt
           clear hb
           by_cases hy8:y < 8
           ·have hy8i:(y:Int) < 8:=by omega
            have hx8:=xor_lt y k hy8 hlt
            obtain ⟨b2,o2,d2,b1,o1,d1,e1,e2,e3,e4,e5,e6,e7,e8,e9⟩:=HN.out.two hlN hrN hy8 hx8
            rw [<- HIGN.out k hlt HBIT.out l r y hlN hrN hy8] at e9
            have q2:=(HBK.out.cell (p:=⟨b3,_,none⟩) e1).trans e2
            have q5:=(HBK.out.cell (p:=⟨b2,_,none⟩) e4).trans e5
            have q8:=(HBK.out.cell (p:=⟨b1,_,none⟩) e7).trans e8
            have q9:=(HBK.out.cell (p:=⟨b1,_,none⟩) e7).trans e9
            have hcap:=HN.out.cap.1
            obtain ⟨T,hT⟩:=zx (F l r y)
            rw [<- hT] at q8 q9
            have hTT:((T:Int) != (T:Int)) = false:=by simp
            have hxv:=xor_v y k hy8 hlt
            obtain ⟨yx,hyx⟩:=zx (y ^^^ 2 ^ k)
            rw [<- hyx] at hx8 hxv q9
            have hx8i:(yx:Int) < 8:=by omega
            clear e1 e2 e4 e5 e7 e8 e9 hT hyx
            go_upto_region 19 with fail
            have hks:k = 0 \/ k = 1 \/ k = 2:=by omega
            rcases hks with rfl | rfl | rfl
            all_goals
             first | replace hxv:bits BinOp.xor IntKind.i64 (y:Int) 1 = (yx:Int):=hxv | replace hxv:bits BinOp.xor IntKind.i64 (y:Int) 2 = (yx:Int):=hxv | replace hxv:bits BinOp.xor IntKind.i64 (y:Int) 4 = (yx:Int):=hxv
             go_quiet (fail)
             go_wp2
             go_roundg (8 - (y + 1))
             case rel => exact ⟨y + 1,by omega,rfl,by go_num,HBK.out.trans ((zkp _ _).mono HBK.out.size)⟩
             case measure => omega
           ·go_wp2
            go_roundg (N - (r + 1))
            case rel => exact ⟨r + 1,by omega,rfl,by go_num,HBK.out⟩
            case measure => omega
         ·go_wp2
          go_roundg (N - (l + 1))
          case rel => exact ⟨l + 1,by omega,rfl,by go_num,HBK.out⟩
          case measure => omega
       ·go_wp2
        go_roundg (3 - (k + 1))
        case rel => exact ⟨k + 1,by omega,rfl,by go_num,HBK.out⟩
        case measure => omega
    ·have hk3:k = 3:=by omega
     subst hk3
     go_wp2_with (go_at_call 12; refine (zky _).mono ?_; rintro e wf ⟨rfl,hb⟩; have HE:=zh (zhz HB.out HBK.out hb); clear hb)
     go_returns
     exact ⟨rfl,HE.out⟩
 ·obtain ⟨P,hP⟩:=zx (compS x 3 64)
  have hz:=zs7 hok
  have hcm:=fun v W (h:MS W v x) => zax x v 3 64 W h
  rw [<- hP] at hcm hok hz
  have HCM:=zh hcm
  clear hcm hP
  obtain ⟨R,e⟩:=P
  simp only at hz hok
  subst hz
  go_enter Tryz.func5,Tryz.ntmps5
  go_wp2_with (first
   | (go_at_call 9; go_must (refine HFW.out.mono ?_; rintro e w1 ⟨v1,rfl,hb,ho⟩; have HB:=zh (show Below w.heap.size w w1 from hb); have HX:=zh ho.ms; clear hb ho))
   | (go_at_call 11; go_must (refine (HCM.out _ _ HX.out).mono ?_; intro e w2 hr; obtain ⟨i,j,A1,c1,A2,n2,c2,rfl,hb⟩:=hr.n (n:=0) rfl; have HB:=zh (zhz HB.out (Below.refl _ _) hb); clear hb hr))
   | (go_at_call 12; refine (zky _).mono ?_; rintro e wf ⟨rfl,hb⟩; have HB:=zh (zhz HB.out (by go_grown) hb); clear hb))
  go_returns
  exact ⟨rfl,HB.out⟩
end Go.Proofs.YthdabkmkgkkmcaaGreatDoor
