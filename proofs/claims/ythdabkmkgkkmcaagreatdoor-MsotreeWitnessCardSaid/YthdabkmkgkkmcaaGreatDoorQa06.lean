/- Part 6 of the proof; it says: lemmas and contracts. No conditions but those that each theorem states. -/
import Derived.Laws.Bits64b
import Derived.Shelf.Spec.TrailingZeros
import Derived.Laws.BitsAllLaws
import Derived.Deep.RegionWith
import Derived.Deep.QuietTactic
import Derived.BigQuiet
import Derived.Deep.DeepCutAuto
import Derived.Deep.RegionLaw
import Derived.Deep.RegionHeld3
import Derived.Test.YthdabkmkgkkmcaaGreatDoorPb01
import Derived.Test.YthdabkmkgkkmcaaGreatDoorPb03
import Derived.Test.YthdabkmkgkkmcaaGreatDoorPb15
import Derived.Test.YthdabkmkgkkmcaaGreatDoorPb02
import Derived.Test.YthdabkmkgkkmcaaGreatDoorShelf
import Derived.Test.YthdabkmkgkkmcaaGreatDoorPb04
import Derived.Test.YthdabkmkgkkmcaaGreatDoorPb23
import Derived.Test.YthdabkmkgkkmcaaGreatDoorPb25
import Derived.Test.YthdabkmkgkkmcaaGreatDoorPb26
import Derived.Test.YthdabkmkgkkmcaaGreatDoorPb27
import Derived.Test.YthdabkmkgkkmcaaGreatDoorPb28
import Derived.Test.YthdabkmkgkkmcaaGreatDoorPb36
import Derived.Test.YthdabkmkgkkmcaaGreatDoorPb37
import Derived.Test.YthdabkmkgkkmcaaGreatDoorQa01
import Derived.Test.YthdabkmkgkkmcaaGreatDoorQa03
set_option linter.unusedSimpArgs false
set_option linter.unusedVariables false
set_option maxRecDepth 100000
set_option maxHeartbeats 32000000
namespace Go.Proofs.YthdabkmkgkkmcaaGreatDoor
open Go.RowKit
theorem ztl (n:Nat) (h:n < 18446744073709551616):IntKind.u64.wrap (n:Int) = n:=by rw [IntKind.wrap_u64]; omega
theorem zu7 (x:Nat) (hx:x < 18446744073709551616) (w:World):Calls Tryz.prog 176 #[.int .u64 x] w fun e w' => e = .returned (.int .i64 (pop x)) /\ w = w':=by
 obtain ⟨A,hA⟩:=zx (f1 x 6148914691236517205)
 obtain ⟨B,hB⟩:=zx (f2 A 3689348814741910323)
 obtain ⟨C,hC⟩:=zx (B / 16 + B)
 obtain ⟨D,hD⟩:=zx (C &&& 1085102592571150095)
 obtain ⟨Y,hY⟩:=zx (D + D / 256)
 obtain ⟨Z,hZ⟩:=zx (Y + Y / 65536)
 obtain ⟨U,hU⟩:=zx (Z + Z / 4294967296)
 obtain ⟨s1,s2,s3,s4⟩:=zw1 x D Y Z hx (by rw [hD,hC,hB,hA]; rfl) hY hZ
 rw [<- hU] at s1 s2
 have a1:(x / 2) &&& 6148914691236517205 <= 6148914691236517205:=Nat.and_le_right
 have a2:x &&& 6148914691236517205 <= 6148914691236517205:=Nat.and_le_right
 have b1:(A / 4) &&& 3689348814741910323 <= 3689348814741910323:=Nat.and_le_right
 have b2:A &&& 3689348814741910323 <= 3689348814741910323:=Nat.and_le_right
 have d1:D <= 1085102592571150095:=by rw [hD]; exact Nat.and_le_right
 have A1:A < 18446744073709551616:=by rw [hA,f1]; omega
 have B1:B < 7400000000000000000:=by rw [hB,f2]; omega
 have e1:IntKind.u64.wrap (bits BinOp.and IntKind.u64 ((x:Int) / 2) 6148914691236517205 + bits BinOp.and IntKind.u64 (x:Int) 6148914691236517205) = (A:Int):=by
  have h1:=bits_and_u64_nat (x / 2) 6148914691236517205 (by omega) (by omega)
  have h2:=bits_and_u64_nat x 6148914691236517205 (by omega) (by omega)
  simp only [Int.natCast_ediv,Int.cast_ofNat_Int] at h1 h2
  rw [h1,h2,<- Int.natCast_add,ztl _ (by omega),hA]; rfl
 have e2:IntKind.u64.wrap (bits BinOp.and IntKind.u64 ((A:Int) / 4) 3689348814741910323 + bits BinOp.and IntKind.u64 (A:Int) 3689348814741910323) = (B:Int):=by
  have h1:=bits_and_u64_nat (A / 4) 3689348814741910323 (by omega) (by omega)
  have h2:=bits_and_u64_nat A 3689348814741910323 (by omega) (by omega)
  simp only [Int.natCast_ediv,Int.cast_ofNat_Int] at h1 h2
  rw [h1,h2,<- Int.natCast_add,ztl _ (by omega),hB]; rfl
 have e3:IntKind.u64.wrap ((B:Int) / 16 + (B:Int)) = (C:Int):=by
  rw [show (B:Int) / 16 + (B:Int) = ((B / 16 + B:Nat):Int) by omega,ztl _ (by omega),hC]
 have e4:bits BinOp.and IntKind.u64 (C:Int) 1085102592571150095 = (D:Int):=by
  rw [hD]; exact bits_and_u64_nat C 1085102592571150095 (by omega) (by omega)
 have e5:IntKind.u64.wrap ((D:Int) + (D:Int) / 256) = (Y:Int):=by
  rw [show (D:Int) + (D:Int) / 256 = ((D + D / 256:Nat):Int) by omega,ztl _ (by omega),hY]
 have e6:IntKind.u64.wrap ((Y:Int) + (Y:Int) / 65536) = (Z:Int):=by
  rw [show (Y:Int) + (Y:Int) / 65536 = ((Y + Y / 65536:Nat):Int) by omega,ztl _ (by omega),hZ]
 have e7:IntKind.u64.wrap ((Z:Int) + (Z:Int) / 4294967296) = (U:Int):=by
  rw [show (Z:Int) + (Z:Int) / 4294967296 = ((Z + Z / 4294967296:Nat):Int) by omega,ztl _ (by omega),hU]
 have HS:=zh s1
 clear hA hB hC hD hY hZ hU a1 a2 b1 b2 s1
 go_enter Tryz.func176,Tryz.ntmps176
 have e8:bits BinOp.and IntKind.i64 (U:Int) 127 = (pop x:Int):=by
  have h1:(BitVec.ofInt 64 (U:Int)).toNat = U:=by
   rw [BitVec.ofInt_natCast,BitVec.toNat_ofNat]; exact Nat.mod_eq_of_lt (by omega)
  have h2:(BitVec.ofInt 64 (127:Int)).toNat = 127:=rfl
  show IntKind.i64.wrap ((BitVec.ofInt 64 (U:Int) &&& BitVec.ofInt 64 (127:Int)).toNat:Int) = _
  have h3:U &&& 127 = U % 128:=Nat.and_two_pow_sub_one_eq_mod U 7
  rw [BitVec.toNat_and,h1,h2,h3,HS.out]
  have:pop x < 128:=by rw [<- HS.out]; omega
  exact IntWalk.i64_in _ ⟨by omega,by omega⟩
 go_wp2
 go_returns
 exact ⟨rfl,rfl⟩
def DB (w:World):Prop:=TabAt 0 Lib.deBruijn64tab w
theorem DB.lt {w:World} (h:DB w):0 < w.heap.size:=World.block_lt_of_cell? _ _ (h 0 (by decide))
theorem DB.below {w w':World} (h:DB w) {B:Nat} (hb:Below B w w') (hB:w.heap.size <= B):DB w':=fun j hj => (hb.cell (p:=⟨_,j,none⟩) (Nat.lt_of_lt_of_le h.lt hB)).trans (h j hj)
theorem zvj (w:World):Calls Tryz.prog 175 #[.int .u64 0] w fun e w' => e = .returned (.int .i64 64) /\ w = w':=by
 go_enter Tryz.func175,Tryz.ntmps175
 go_wp2
 go_returns
 exact ⟨rfl,rfl⟩
theorem zvk (x k idx:Nat) (w:World) (hx0:((x:Int) == 0) = false)
  (key:IntKind.u64.wrap (bits BinOp.and IntKind.u64 (x:Int) (IntKind.u64.wrap (-(x:Int))) * 285870213051353865) / 288230376151711744 = (idx:Int))
  (hi:idx < 64) (hk:k < 64) (hcell:w.cell? ⟨0,idx,none⟩ = some (.int .u8 k)) :
  Calls Tryz.prog 175 #[.int .u64 x] w fun e w' => e = .returned (.int .i64 k) /\ w = w':=by
 go_enter Tryz.func175,Tryz.ntmps175
 go_wp2_with (simp only [key])
 go_returns
 exact ⟨rfl,rfl⟩
theorem zwp (x:Nat) (hx:x < 18446744073709551616) (w:World) (hT:DB w):Calls Tryz.prog 175 #[.int .u64 x] w fun e w' => e = .returned (.int .i64 (Lib.ctz 64 x)) /\ w = w':=by
 by_cases hx0:x = 0
 ·subst hx0
  exact zvj w
 ·obtain ⟨hlow,hk⟩:=Lib.lowest_bit 64 x hx0 hx
  obtain ⟨hi,htab⟩:=Lib.deBruijn64_at _ hk
  have hcell:=hT _ hi
  rw [htab] at hcell
  exact zvk x _ _ w (by simp; omega) (tz64_key x _ hx hx0 hlow) hi hk hcell
theorem ctz_pow:∀ k,k < 64 -> Lib.ctz 64 (2 ^ k) = k:=by decide +kernel
theorem zwa {x:Nat} (hx:x < 18446744073709551616) (h:isOne x = true):Lib.ctz 64 x = Nat.log2 x:=by
 have e:x = 2 ^ Nat.log2 x:=of_decide_eq_true h
 have:=ctz_pow (Nat.log2 x) (zv4 hx h)
 rw [<- e] at this
 exact this
theorem zr9 (x:Nat) (hx:x < 18446744073709551616) (w:World) (hT:DB w) :
  Calls Tryz.prog 157 #[.int .u64 x] w fun e w' => e = .returned (.tuple #[.int .i64 (Lib.ctz 64 x),.bool (isOne x)]) /\ w = w':=by
 have hb:((pop x:Int) == 1) = isOne x:=by
  rw [Bool.eq_iff_iff,<- pop_one x hx]; simp; omega
 have HT:=zh hT; clear hT
 go_enter Tryz.func157,Tryz.ntmps157
 go_wp2_with (first
  | (go_at_call 175; go_must (refine (zwp x hx _ HT.out).mono ?_; rintro e w1 ⟨rfl,rfl⟩))
  | (go_at_call 176; go_must (refine (zu7 x hx _).mono ?_; rintro e w1 ⟨rfl,rfl⟩)))
 go_returns
 exact ⟨rfl,rfl⟩
theorem zsg (A:Option Addr) (n c:Nat) (w:World):Calls Tryz.prog 218 #[.slice A n c] w fun e w' => e = .returned (.int .i64 n) /\ w = w':=by
 go_enter Tryz.func218,Tryz.ntmps218
 go_wp2
 go_returns
 exact ⟨rfl,rfl⟩
theorem idx2 (W:World) (a b:Value):(Instr.index 145 (.agg #[a,b]) (.int .i64 0)).run Tryz.prog W = .ok a W /\ (Instr.index 145 (.agg #[a,b]) (.int .i64 1)).run Tryz.prog W = .ok b W:=by
 refine ⟨?_,?_⟩ <;> kernel_rfl
theorem zw3 {t:List Lf} {p:Nat} {x:Lf} (h:t[p]? = some x):leftS t p = x.left:=by unfold leftS; rw [h]
theorem zvt {t:List Lf} {p:Nat} {x:Lf} (h:t[p]? = some x):zst t p = x.right:=by unfold zst; rw [h]
theorem zth (t:List Lf) (v:Value) (op:Int) (p q:Nat) (w:World) (hop:op = 7 \/ op = 8) (hv:TS w v t) (hp:p < t.length) :
  Calls Tryz.prog 217 #[v,.int .u8 op,.int .i64 p,.int .i64 q] w fun e w' => e = .returned (.bool (zsn t op p q)) /\ Below w.heap.size w w':=by
 obtain ⟨x,hx⟩:∃ x,t[p]? = some x:=⟨t[p],List.getElem?_eq_getElem hp⟩
 have e1:=zw3 hx
 have e2:=zvt hx
 obtain ⟨hop2,A,c,rfl,hc1,hc2,hcell⟩:=hv
 obtain ⟨b,o,rfl,hb,hcell⟩:=hcell (by omega)
 obtain ⟨c0,c1,c2⟩:=hcell p x hx
 have hh:zsn t op p q = if op = 7 then decide (x.left = q) else decide (x.right = q):=by
  unfold zsn
  rcases hop with rfl | rfl
  ·simp [e1]
  ·simp [e2]
 rw [hh]
 have HH:=zh hh
 obtain ⟨n,hn⟩:=zx t.length
 rw [<- hn] at hp ⊢
 have hn2:n <= 9223372036854775807:=by omega
 clear hcell hx e1 e2 hh hn hop2 hc1
 rcases hop with rfl | rfl
 all_goals
  go_enter Tryz.func217,Tryz.ntmps217
  go_wp2
  go_returns
  exact ⟨zdc (by simp),Below.refl _ _⟩
theorem zuv (t:List Lf) (c:Int) (q:Nat):c = q \/ (c ≠ q /\ 0 < c /\ ancS t c.toNat q = true) \/ (c ≠ q /\ 0 < c /\ ancS t c.toNat q = false) \/ (c ≠ q /\ ¬ 0 < c):=by
 by_cases h1:c = q
 ·exact .inl h1
 ·by_cases h2:0 < c
  ·cases h:ancS t c.toNat q
   ·exact .inr (.inr (.inl ⟨h1,h2,rfl⟩))
   ·exact .inr (.inl ⟨h1,h2,rfl⟩)
  ·exact .inr (.inr (.inr ⟨h1,h2⟩))
theorem zva (t:List Lf) (v:Value) (op:Int) (h7:op ≠ 7) (h8:op ≠ 8) (hk:KidsOk t) (hl:t.length <= 31):∀ (d p q:Nat) (w:World),t.length - p <= d -> p < t.length -> q < 100 -> TS w v t ->
  Calls Tryz.prog 217 #[v,.int .u8 op,.int .i64 p,.int .i64 q] w fun e w' => e = .returned (.bool (ancS t p q)) /\ Below w.heap.size w w':=by
 have h7':(op == 7) = false:=by simp [h7]
 have h8':(op == 8) = false:=by simp [h8]
 clear h7 h8
 intro d
 induction d with
 | zero => intro p q w h1 h2; omega
 | succ d ih =>
  intro p q w hd hp hq hv
  obtain ⟨x,hx⟩:∃ x,t[p]? = some x:=⟨t[p],List.getElem?_eq_getElem hp⟩
  have hanc:=zwj hk p q x hx
  obtain ⟨k1,k2⟩:=hk p x hx
  have HV:=zh hv
  obtain ⟨hop2,A,c,rfl,hc1,hc2,hcc⟩:=hv
  obtain ⟨b,o,rfl,hb,hcell⟩:=hcc (by omega)
  obtain ⟨c0,c1,c2⟩:=hcell p x hx
  clear hcc hcell
  have ihl:0 < x.left -> ∀ W,TS W (.slice (some ⟨b,o,none⟩) t.length c) t -> Calls Tryz.prog 217 #[.slice (some ⟨b,o,none⟩) t.length c,.int .u8 op,.int .i64 x.left,.int .i64 q] W fun e w' => e = .returned (.bool (ancS t x.left.toNat q)) /\ Below W.heap.size W w':=fun h0 W hW => by
   have:=ih x.left.toNat q W (by omega) (by omega) hq hW
   rwa [Int.toNat_of_nonneg (by omega)] at this
  have ihr:0 < x.right -> ∀ W,TS W (.slice (some ⟨b,o,none⟩) t.length c) t -> Calls Tryz.prog 217 #[.slice (some ⟨b,o,none⟩) t.length c,.int .u8 op,.int .i64 x.right,.int .i64 q] W fun e w' => e = .returned (.bool (ancS t x.right.toNat q)) /\ Below W.heap.size W w':=fun h0 W hW => by
   have:=ih x.right.toNat q W (by omega) (by omega) hq hW
   rwa [Int.toNat_of_nonneg (by omega)] at this
  have wl:=zuv t x.left q
  have wr:=zuv t x.right q
  generalize ancS t x.left.toNat q = rl at *
  generalize ancS t x.right.toNat q = rr at *
  generalize ancS t p q = R at *
  have HK:=zh (And.intro k1 k2)
  obtain ⟨n,hn⟩:=zx t.length
  rw [<- hn] at hp hc1 hl ihl ihr HV ⊢
  have HL:=zh ihl; have HR:=zh ihr
  have HA:=zh hanc
  obtain ⟨op2,l,r⟩:=x
  simp only at c0 c1 c2 wl wr HA HL HR
  clear hop2 ih hk hx hn hanc ihl ihr k1 k2 hd
  have i0:=fun W a b => (idx2 W a b).1
  have i1:=fun W a b => (idx2 W a b).2
  by_cases hqp:q <= p
  ·have hR:R = false:=by rw [HA.out,if_pos hqp]
   rw [hR]
   clear hR
   go_enter Tryz.func217,Tryz.ntmps217
   go_wp2
   go_returns
   exact ⟨rfl,Below.refl _ _⟩
  ·have hR:R = ((decide (l = q) || (decide (0 < l) && rl)) || (decide (r = q) || (decide (0 < r) && rr))):=by rw [HA.out,if_neg hqp]
   have HRR:=zh hR; clear hR
   rcases wl with hw | ⟨hw,hw2,rfl⟩ | ⟨hw,hw2,rfl⟩ | ⟨hw,hw2⟩
   ·have hR:R = true:=by rw [HRR.out]; simp [hw]
    rw [hR]; clear hR wr
    go_enter Tryz.func217,Tryz.ntmps217
    go_wp2
    go_region
    go_wp2
    go_rounds 1
    go_returns
    exact ⟨rfl,by go_grown⟩
   ·have hR:R = true:=by rw [HRR.out]; simp [hw2]
    rw [hR]; clear hR wr
    have hwb:(l == q) = false:=by simp [hw]
    clear hw
    go_enter Tryz.func217,Tryz.ntmps217
    go_wp2
    go_region
    go_wp2
    refine wp_loop_rounds 1 ?_
    rw [rounds_succ]
    go_wp2_with (go_at_call 217; go_must (refine (HL.out hw2 _ (HV.out.below (B:=w.heap.size) (by go_grown) zn)).mono ?_; rintro e w1 ⟨rfl,hb1⟩; have HB1:Hid (Below w.heap.size w w1):=Below.trans (by go_grown) (hb1.mono (by simp only [World.size_drew]; omega)); clear hb1))
    go_returns
    exact ⟨rfl,HB1.out⟩
   ·have hwb:(l == q) = false:=by simp [hw]
    rcases wr with hv | ⟨hv,hv2,rfl⟩ | ⟨hv,hv2,rfl⟩ | ⟨hv,hv2⟩
    ·have hR:R = true:=by rw [HRR.out]; simp [hv]
     rw [hR]; clear hR hw
     go_enter Tryz.func217,Tryz.ntmps217
     go_wp2
     go_region
     go_wp2
     refine wp_loop_rounds 3 ?_
     rw [rounds_succ]
     go_wp2_with (go_at_call 217; go_must (refine (HL.out hw2 _ (HV.out.below (B:=w.heap.size) (by go_grown) zn)).mono ?_; rintro e w1 ⟨rfl,hb1⟩; have HB1:Hid (Below w.heap.size w w1):=Below.trans (by go_grown) (hb1.mono (by simp only [World.size_drew]; omega)); clear hb1))
     rw [rounds_succ]
     go_wp2
     go_returns
     exact ⟨rfl,HB1.out⟩
    ·have hR:R = true:=by rw [HRR.out]; simp [hv2]
     have hvb:(r == q) = false:=by simp [hv]
     rw [hR]; clear hR hw hv
     go_enter Tryz.func217,Tryz.ntmps217
     go_wp2
     go_region
     go_wp2
     refine wp_loop_rounds 3 ?_
     rw [rounds_succ]
     go_wp2_with (go_at_call 217; go_must (refine (HL.out hw2 _ (HV.out.below (B:=w.heap.size) (by go_grown) zn)).mono ?_; rintro e w1 ⟨rfl,hb1⟩; have HB1:Hid (Below w.heap.size w w1):=Below.trans (by go_grown) (hb1.mono (by simp only [World.size_drew]; omega)); clear hb1))
     rw [rounds_succ]
     go_wp2_with (go_at_call 217; go_must (refine (HR.out hv2 _ (HV.out.below HB1.out zn)).mono ?_; rintro e w2 ⟨rfl,hb2⟩; replace HB1:=zh (HB1.out.trans (hb2.mono HB1.out.size)); clear hb2))
     go_returns
     exact ⟨rfl,HB1.out⟩
    ·have hR:R = false:=by rw [HRR.out]; simp [hw,hv]
     have hvb:(r == q) = false:=by simp [hv]
     rw [hR]; clear hR hw hv
     go_enter Tryz.func217,Tryz.ntmps217
     go_wp2
     go_region
     go_wp2
     refine wp_loop_rounds 3 ?_
     rw [rounds_succ]
     go_wp2_with (go_at_call 217; go_must (refine (HL.out hw2 _ (HV.out.below (B:=w.heap.size) (by go_grown) zn)).mono ?_; rintro e w1 ⟨rfl,hb1⟩; have HB1:Hid (Below w.heap.size w w1):=Below.trans (by go_grown) (hb1.mono (by simp only [World.size_drew]; omega)); clear hb1))
     rw [rounds_succ]
     go_wp2_with (go_at_call 217; go_must (refine (HR.out hv2 _ (HV.out.below HB1.out zn)).mono ?_; rintro e w2 ⟨rfl,hb2⟩; replace HB1:=zh (HB1.out.trans (hb2.mono HB1.out.size)); clear hb2))
     rw [rounds_succ]
     go_wp2
     go_returns
     exact ⟨rfl,HB1.out⟩
    ·have hR:R = false:=by rw [HRR.out]; simp [hw,hv,hv2]
     have hvb:(r == q) = false:=by simp [hv]
     rw [hR]; clear hR hw hv
     go_enter Tryz.func217,Tryz.ntmps217
     go_wp2
     go_region
     go_wp2
     refine wp_loop_rounds 3 ?_
     rw [rounds_succ]
     go_wp2_with (go_at_call 217; go_must (refine (HL.out hw2 _ (HV.out.below (B:=w.heap.size) (by go_grown) zn)).mono ?_; rintro e w1 ⟨rfl,hb1⟩; have HB1:Hid (Below w.heap.size w w1):=Below.trans (by go_grown) (hb1.mono (by simp only [World.size_drew]; omega)); clear hb1))
     rw [rounds_succ]
     go_wp2
     rw [rounds_succ]
     go_wp2
     go_returns
     exact ⟨rfl,HB1.out⟩
   ·have hwb:(l == q) = false:=by simp [hw]
    rcases wr with hv | ⟨hv,hv2,rfl⟩ | ⟨hv,hv2,rfl⟩ | ⟨hv,hv2⟩
    ·have hR:R = true:=by rw [HRR.out]; simp [hv]
     rw [hR]; clear hR hw
     go_enter Tryz.func217,Tryz.ntmps217
     go_wp2
     go_region
     go_wp2
     go_rounds 2
     go_returns
     exact ⟨rfl,by go_grown⟩
    ·have hR:R = true:=by rw [HRR.out]; simp [hv2]
     have hvb:(r == q) = false:=by simp [hv]
     rw [hR]; clear hR hw hv
     go_enter Tryz.func217,Tryz.ntmps217
     go_wp2
     go_region
     go_wp2
     refine wp_loop_rounds 3 ?_
     rw [rounds_succ]
     go_wp2
     rw [rounds_succ]
     go_wp2_with (go_at_call 217; go_must (refine (HR.out hv2 _ (HV.out.below (B:=w.heap.size) (by go_grown) zn)).mono ?_; rintro e w1 ⟨rfl,hb1⟩; have HB1:Hid (Below w.heap.size w w1):=Below.trans (by go_grown) (hb1.mono (by simp only [World.size_drew]; omega)); clear hb1))
     go_returns
     exact ⟨rfl,HB1.out⟩
    ·have hR:R = false:=by rw [HRR.out]; simp [hw,hv,hw2]
     have hvb:(r == q) = false:=by simp [hv]
     rw [hR]; clear hR hw hv
     go_enter Tryz.func217,Tryz.ntmps217
     go_wp2
     go_region
     go_wp2
     refine wp_loop_rounds 3 ?_
     rw [rounds_succ]
     go_wp2
     rw [rounds_succ]
     go_wp2_with (go_at_call 217; go_must (refine (HR.out hv2 _ (HV.out.below (B:=w.heap.size) (by go_grown) zn)).mono ?_; rintro e w1 ⟨rfl,hb1⟩; have HB1:Hid (Below w.heap.size w w1):=Below.trans (by go_grown) (hb1.mono (by simp only [World.size_drew]; omega)); clear hb1))
     rw [rounds_succ]
     go_wp2
     go_returns
     exact ⟨rfl,HB1.out⟩
    ·have hR:R = false:=by rw [HRR.out]; simp [hw,hv,hv2,hw2]
     have hvb:(r == q) = false:=by simp [hv]
     rw [hR]; clear hR hw hv
     go_enter Tryz.func217,Tryz.ntmps217
     go_wp2
     go_region
     go_wp2
     go_rounds 3
     go_returns
     exact ⟨rfl,by go_grown⟩
theorem zu9 (t:List Lf) (v:Value) (op:Int) (hk:KidsOk t) (hl:t.length <= 31) (p q:Nat) (w:World) (hp:p < t.length) (hq:q < 100) (hv:TS w v t) :
  Calls Tryz.prog 217 #[v,.int .u8 op,.int .i64 p,.int .i64 q] w fun e w' => e = .returned (.bool (zsn t op p q)) /\ Below w.heap.size w w':=by
 by_cases h7:op = 7
 ·exact zth t v op p q w (.inl h7) hv hp
 ·by_cases h8:op = 8
  ·exact zth t v op p q w (.inr h8) hv hp
  ·have:zsn t op p q = ancS t p q:=by unfold zsn; rw [if_neg h7,if_neg h8]
   rw [this]
   exact zva t v op h7 h8 hk hl _ p q w zn hp hq hv
theorem zud (a b:Nat) (ha:a < 18446744073709551616) (hb:b < 18446744073709551616):(bits BinOp.andNot IntKind.u64 (a:Int) (b:Int) == 0) = decide (a &&& b = a):=by
 have h:=u64_andNot_nat a b ha hb
 rw [h,Bool.eq_iff_iff]
 simp only [beq_iff_eq,decide_eq_true_eq]
 rw [show (((a &&& (18446744073709551615 - b):Nat):Int) = 0) = ((a &&& (18446744073709551615 - b)) = 0) by rw [<- Int.natCast_zero,Int.ofNat_inj]]
 have key:∀ i,(18446744073709551615 - b).testBit i = (decide (i < 64) && !b.testBit i):=fun i => by
  have:=Nat.testBit_two_pow_sub_succ (x:=b) (n:=64) (by omega) i
  rw [<- this]; congr 1; omega
 have ha2:∀ i,64 <= i -> a.testBit i = false:=fun i hi => Nat.testBit_lt_two_pow (Nat.lt_of_lt_of_le ha (show 2 ^ 64 <= 2 ^ i from Nat.pow_le_pow_right (by omega) hi))
 constructor
 ·intro h0
  apply Nat.eq_of_testBit_eq
  intro i
  have h1:=congrArg (fun z => Nat.testBit z i) h0
  simp only [Nat.testBit_and,key,Nat.zero_testBit] at h1
  rw [Nat.testBit_and]
  by_cases hi:i < 64
  ·simp [hi] at h1
   cases h2:a.testBit i
   ·rfl
   ·simp [h1 h2]
  ·rw [ha2 i (by omega)]; rfl
 ·intro h0
  apply Nat.eq_of_testBit_eq
  intro i
  have h1:=congrArg (fun z => Nat.testBit z i) h0
  simp only [Nat.testBit_and] at h1
  simp only [Nat.testBit_and,key,Nat.zero_testBit]
  cases h2:a.testBit i
  ·rfl
  ·rw [h2] at h1; simp at h1; simp [h1]
theorem zv2 (k:Nat) (A:Option Addr) (n c:Nat) (w:World):(nilAhead (k + 1) 99 (.slice A n c) "sentinel/model.related").run Tryz.prog w = .ok (some false) w:=by kernel_rfl
theorem zvb (k:Nat) (A:Option Addr) (n c:Nat) (w:World):(method (k + 1) 99 (.slice A n c) "sentinel/model.related").run Tryz.prog w = .ok (217,.slice A n c) w:=by kernel_rfl
theorem ztn (k:Nat) (A:Option Addr) (n c:Nat) (w:World):(nilAhead (k + 1) 99 (.slice A n c) "sentinel/model.size").run Tryz.prog w = .ok (some false) w:=by kernel_rfl
theorem zti (k:Nat) (A:Option Addr) (n c:Nat) (w:World):(method (k + 1) 99 (.slice A n c) "sentinel/model.size").run Tryz.prog w = .ok (218,.slice A n c) w:=by kernel_rfl
theorem log_lt {x n:Nat} (h:isOne x = true) (hx:x < 2 ^ n):Nat.log2 x < n:=by
 have e:x = 2 ^ Nat.log2 x:=of_decide_eq_true h
 rw [e] at hx
 exact (Nat.pow_lt_pow_iff_right (by omega)).1 hx
theorem six_at (b0 b1 b2 b3 b4 b5 x:Nat) (hx:x < 6):(#[Value.int .u64 b0,.int .u64 b1,.int .u64 b2,.int .u64 b3,.int .u64 b4,.int .u64 b5]:Array Value)[x]? = some (.int .u64 ([b0,b1,b2,b3,b4,b5].getD x 0:Nat)):=by
 have:x = 0 \/ x = 1 \/ x = 2 \/ x = 3 \/ x = 4 \/ x = 5:=by omega
 rcases this with rfl | rfl | rfl | rfl | rfl | rfl <;> rfl
theorem zvn (b0 b1 b2 b3 b4 b5 x:Nat) (hx:x < 6):[b0,b1,b2,b3,b4,b5].getD x 0 ∈ [b0,b1,b2,b3,b4,b5]:=by
 rw [List.getD_eq_getElem?_getD,List.getElem?_eq_getElem (by simpa using hx)]
 exact List.getElem_mem _
theorem atom_T (t:List Lf) (A:Option Addr) (n c:Nat) (hn:n = t.length) (hk:KidsOk t) (hl:n <= 31) (op:Int) (x y:Nat) (hx:x < 6) (hy:y < 6) (b0 b1 b2 b3 b4 b5:Nat) (hb:∀ v ∈ [b0,b1,b2,b3,b4,b5],v < 2 ^ n) (w:World) (hT:DB w) (hv:TS w (.slice A n c) t) :
  Calls Tryz.prog 136 #[.iface 99 (.slice A n c),.agg #[.int .u8 op,.int .i64 x,.int .i64 y,.int .i64 0,.int .i64 0],.agg #[.int .u64 b0,.int .u64 b1,.int .u64 b2,.int .u64 b3,.int .u64 b4,.int .u64 b5]] w fun e w' => e = .returned (.bool (atomS (zc1 t) op ([b0,b1,b2,b3,b4,b5].getD x 0) ([b0,b1,b2,b3,b4,b5].getD y 0))) /\ Below w.heap.size w w':=by
 have hx6:=six_at b0 b1 b2 b3 b4 b5 x hx
 have hy6:=six_at b0 b1 b2 b3 b4 b5 y hy
 have HX6:=zh hx6; have HY6:=zh hy6
 have hX:=hb _ (zvn b0 b1 b2 b3 b4 b5 x hx)
 have hY:=hb _ (zvn b0 b1 b2 b3 b4 b5 y hy)
 clear hx6 hy6
 generalize [b0,b1,b2,b3,b4,b5].getD x 0 = X at *
 generalize [b0,b1,b2,b3,b4,b5].getD y 0 = Y at *
 have h64:2 ^ n <= 2 ^ 64:=Nat.pow_le_pow_right (by omega) (by omega)
 have HX:Hid (X < 18446744073709551616):=Nat.lt_of_lt_of_le hX h64
 have HY:Hid (Y < 18446744073709551616):=Nat.lt_of_lt_of_le hY h64
 have hand:=zud X Y HX.out HY.out
 have hz:((X:Int) == 0) = decide (X = 0):=by rw [Bool.eq_iff_iff]; simp
 have HT:=zh hT; clear hT
 have HV:=zh hv; clear hv
 have HN:=zh hn; clear hn
 have L1:=zh hX; have L2:=zh hY; clear hX hY h64 hb
 have cx:Hid (isOne X = true -> (Lib.ctz 64 X:Nat) = Nat.log2 X /\ Nat.log2 X < n):=fun h => ⟨zwa HX.out h,log_lt h L1.out⟩
 have cy:Hid (isOne Y = true -> (Lib.ctz 64 Y:Nat) = Nat.log2 Y /\ Nat.log2 Y < n):=fun h => ⟨zwa HY.out h,log_lt h L2.out⟩
 have n1:=zv2; have n2:=zvb
 have HA:=zh (show atomS (zc1 t) op X Y = atomS (zc1 t) op X Y from rfl)
 obtain ⟨R,hR⟩:=zx (atomS (zc1 t) op X Y)
 rw [<- hR]
 have HR:=zh hR; clear hR HA
 by_cases h1:op = 1
 ·have hR:R = true:=by rw [HR.out,atomS,if_pos h1]
  rw [hR]; clear hR; subst h1
  go_enter Tryz.func136,Tryz.ntmps136
  go_upto_region 1 with (fail)
  refine zaa (fun W => (∀ j,W.cell? ⟨w.heap.size,j,none⟩ = #[Value.int .u8 1,.int .i64 x,.int .i64 y,.int .i64 0,.int .i64 0][j]?) /\ W.cell? ⟨w.heap.size + 1,x,none⟩ = some (.int .u64 X) /\ W.cell? ⟨w.heap.size + 1,y,none⟩ = some (.int .u64 Y) /\ w.heap.size + 1 < W.heap.size /\ Hid (Below w.heap.size w W)) ?_ ?_
  ·exact ⟨((Row.new w 26 _).alloc _).cell,(Row.lit (by simp only [World.size_alloc])).cell x |>.trans HX6.out,(Row.lit (by simp only [World.size_alloc])).cell y |>.trans HY6.out,by simp only [World.size_alloc]; omega,by unfold Hid; go_grown⟩
  rintro W ⟨m0,mx,my,mz,HB⟩
  have mz0:w.heap.size < W.heap.size:=by omega
  go_wp2_with (first
   | (go_at_call 157; (with_reducible refine (zr9 X HX.out _ (DB.below HT.out HB.out zn)).mono ?_); rintro e w1 ⟨rfl,rfl⟩)
   | (go_at_call 157; (with_reducible refine (zr9 Y HY.out _ (DB.below HT.out HB.out zn)).mono ?_); rintro e w2 ⟨rfl,rfl⟩))
  go_returns
  exact ⟨rfl,by have:=HB.out; go_grown⟩
 by_cases h2:op = 2
 ·have hR:R = decide (X &&& Y = X):=by rw [HR.out,atomS,if_neg h1,if_pos h2]
  rw [hR]; clear hR h1; subst h2
  go_enter Tryz.func136,Tryz.ntmps136
  go_upto_region 1 with (fail)
  refine zaa (fun W => (∀ j,W.cell? ⟨w.heap.size,j,none⟩ = #[Value.int .u8 2,.int .i64 x,.int .i64 y,.int .i64 0,.int .i64 0][j]?) /\ W.cell? ⟨w.heap.size + 1,x,none⟩ = some (.int .u64 X) /\ W.cell? ⟨w.heap.size + 1,y,none⟩ = some (.int .u64 Y) /\ w.heap.size + 1 < W.heap.size /\ Hid (Below w.heap.size w W)) ?_ ?_
  ·exact ⟨((Row.new w 26 _).alloc _).cell,(Row.lit (by simp only [World.size_alloc])).cell x |>.trans HX6.out,(Row.lit (by simp only [World.size_alloc])).cell y |>.trans HY6.out,by simp only [World.size_alloc]; omega,by unfold Hid; go_grown⟩
  rintro W ⟨m0,mx,my,mz,HB⟩
  have mz0:w.heap.size < W.heap.size:=by omega
  go_wp2_with (first
   | (go_at_call 157; (with_reducible refine (zr9 X HX.out _ (DB.below HT.out HB.out zn)).mono ?_); rintro e w1 ⟨rfl,rfl⟩)
   | (go_at_call 157; (with_reducible refine (zr9 Y HY.out _ (DB.below HT.out HB.out zn)).mono ?_); rintro e w2 ⟨rfl,rfl⟩))
  go_region
  go_wp2
  go_returns
  exact ⟨rfl,by have:=HB.out; go_grown⟩
 by_cases h3:op = 3
 ·have hR:R = decide (X = 0):=by rw [HR.out,atomS,if_neg h1,if_neg h2,if_pos h3]
  rw [hR]; clear hR h1 h2; subst h3
  go_enter Tryz.func136,Tryz.ntmps136
  go_upto_region 1 with (fail)
  refine zaa (fun W => (∀ j,W.cell? ⟨w.heap.size,j,none⟩ = #[Value.int .u8 3,.int .i64 x,.int .i64 y,.int .i64 0,.int .i64 0][j]?) /\ W.cell? ⟨w.heap.size + 1,x,none⟩ = some (.int .u64 X) /\ W.cell? ⟨w.heap.size + 1,y,none⟩ = some (.int .u64 Y) /\ w.heap.size + 1 < W.heap.size /\ Hid (Below w.heap.size w W)) ?_ ?_
  ·exact ⟨((Row.new w 26 _).alloc _).cell,(Row.lit (by simp only [World.size_alloc])).cell x |>.trans HX6.out,(Row.lit (by simp only [World.size_alloc])).cell y |>.trans HY6.out,by simp only [World.size_alloc]; omega,by unfold Hid; go_grown⟩
  rintro W ⟨m0,mx,my,mz,HB⟩
  have mz0:w.heap.size < W.heap.size:=by omega
  go_wp2_with (first
   | (go_at_call 157; (with_reducible refine (zr9 X HX.out _ (DB.below HT.out HB.out zn)).mono ?_); rintro e w1 ⟨rfl,rfl⟩)
   | (go_at_call 157; (with_reducible refine (zr9 Y HY.out _ (DB.below HT.out HB.out zn)).mono ?_); rintro e w2 ⟨rfl,rfl⟩))
  go_returns
  exact ⟨rfl,by have:=HB.out; go_grown⟩
 by_cases h4:op = 4
 ·have hR:R = isOne X:=by rw [HR.out,atomS,if_neg h1,if_neg h2,if_neg h3,if_pos h4]
  rw [hR]; clear hR h1 h2 h3; subst h4
  go_enter Tryz.func136,Tryz.ntmps136
  go_upto_region 1 with (fail)
  refine zaa (fun W => (∀ j,W.cell? ⟨w.heap.size,j,none⟩ = #[Value.int .u8 4,.int .i64 x,.int .i64 y,.int .i64 0,.int .i64 0][j]?) /\ W.cell? ⟨w.heap.size + 1,x,none⟩ = some (.int .u64 X) /\ W.cell? ⟨w.heap.size + 1,y,none⟩ = some (.int .u64 Y) /\ w.heap.size + 1 < W.heap.size /\ Hid (Below w.heap.size w W)) ?_ ?_
  ·exact ⟨((Row.new w 26 _).alloc _).cell,(Row.lit (by simp only [World.size_alloc])).cell x |>.trans HX6.out,(Row.lit (by simp only [World.size_alloc])).cell y |>.trans HY6.out,by simp only [World.size_alloc]; omega,by unfold Hid; go_grown⟩
  rintro W ⟨m0,mx,my,mz,HB⟩
  have mz0:w.heap.size < W.heap.size:=by omega
  go_wp2_with (first
   | (go_at_call 157; (with_reducible refine (zr9 X HX.out _ (DB.below HT.out HB.out zn)).mono ?_); rintro e w1 ⟨rfl,rfl⟩)
   | (go_at_call 157; (with_reducible refine (zr9 Y HY.out _ (DB.below HT.out HB.out zn)).mono ?_); rintro e w2 ⟨rfl,rfl⟩))
  go_returns
  exact ⟨rfl,by have:=HB.out; go_grown⟩
 have hR:R = (isOne X && isOne Y && Stc.rel (zc1 t) op (Nat.log2 X) (Nat.log2 Y)):=by rw [HR.out,atomS,if_neg h1,if_neg h2,if_neg h3,if_neg h4]
 have q1:(op == 1) = false:=by simp [h1]
 have q2:(op == 2) = false:=by simp [h2]
 have q3:(op == 3) = false:=by simp [h3]
 have q4:(op == 4) = false:=by simp [h4]
 replace HR:=zh hR
 clear hR h1 h2 h3 h4 hand hz
 cases hox:isOne X
 ·have hR:R = false:=by rw [HR.out,hox]; rfl
  rw [hR]; clear hR
  have HOX:=zh hox; clear hox
  go_enter Tryz.func136,Tryz.ntmps136
  go_upto_region 1 with (fail)
  refine zaa (fun W => (∀ j,W.cell? ⟨w.heap.size,j,none⟩ = #[Value.int .u8 op,.int .i64 x,.int .i64 y,.int .i64 0,.int .i64 0][j]?) /\ W.cell? ⟨w.heap.size + 1,x,none⟩ = some (.int .u64 X) /\ W.cell? ⟨w.heap.size + 1,y,none⟩ = some (.int .u64 Y) /\ w.heap.size + 1 < W.heap.size /\ Hid (Below w.heap.size w W)) ?_ ?_
  ·exact ⟨((Row.new w 26 _).alloc _).cell,(Row.lit (by simp only [World.size_alloc])).cell x |>.trans HX6.out,(Row.lit (by simp only [World.size_alloc])).cell y |>.trans HY6.out,by simp only [World.size_alloc]; omega,by unfold Hid; go_grown⟩
  rintro W ⟨m0,mx,my,mz,HB⟩
  have mz0:w.heap.size < W.heap.size:=by omega
  go_wp2_with (first
   | (go_at_call 157; (with_reducible refine (zr9 X HX.out _ (DB.below HT.out HB.out zn)).mono ?_); rintro e w1 ⟨rfl,rfl⟩; rw [HOX.out])
   | (go_at_call 157; (with_reducible refine (zr9 Y HY.out _ (DB.below HT.out HB.out zn)).mono ?_); rintro e w2 ⟨rfl,rfl⟩; (first | rw [HOY.out] | skip)))
  go_returns
  exact ⟨rfl,by have:=HB.out; go_grown⟩
 cases hoy:isOne Y
 ·have hR:R = false:=by rw [HR.out,hox,hoy]; rfl
  rw [hR]; clear hR
  have HOX:=zh hox; clear hox
  have HOY:=zh hoy; clear hoy
  go_enter Tryz.func136,Tryz.ntmps136
  go_upto_region 1 with (fail)
  refine zaa (fun W => (∀ j,W.cell? ⟨w.heap.size,j,none⟩ = #[Value.int .u8 op,.int .i64 x,.int .i64 y,.int .i64 0,.int .i64 0][j]?) /\ W.cell? ⟨w.heap.size + 1,x,none⟩ = some (.int .u64 X) /\ W.cell? ⟨w.heap.size + 1,y,none⟩ = some (.int .u64 Y) /\ w.heap.size + 1 < W.heap.size /\ Hid (Below w.heap.size w W)) ?_ ?_
  ·exact ⟨((Row.new w 26 _).alloc _).cell,(Row.lit (by simp only [World.size_alloc])).cell x |>.trans HX6.out,(Row.lit (by simp only [World.size_alloc])).cell y |>.trans HY6.out,by simp only [World.size_alloc]; omega,by unfold Hid; go_grown⟩
  rintro W ⟨m0,mx,my,mz,HB⟩
  have mz0:w.heap.size < W.heap.size:=by omega
  go_wp2_with (first
   | (go_at_call 157; (with_reducible refine (zr9 X HX.out _ (DB.below HT.out HB.out zn)).mono ?_); rintro e w1 ⟨rfl,rfl⟩; rw [HOX.out])
   | (go_at_call 157; (with_reducible refine (zr9 Y HY.out _ (DB.below HT.out HB.out zn)).mono ?_); rintro e w2 ⟨rfl,rfl⟩; (first | rw [HOY.out] | skip)))
  go_returns
  exact ⟨rfl,by have:=HB.out; go_grown⟩
 have hR:R = Stc.rel (zc1 t) op (Nat.log2 X) (Nat.log2 Y):=by rw [HR.out,hox,hoy]; rfl
 rw [hR]
 obtain ⟨ex,lx⟩:=cx.out hox
 obtain ⟨ey,ly⟩:=cy.out hoy
 generalize Nat.log2 X = p at *
 generalize Nat.log2 Y = q at *
 have LX:=zh lx; have LY:=zh ly; have EX:=zh ex; have EY:=zh ey
 have HOX:=zh hox; have HOY:=zh hoy
 clear hR hox hoy lx ly ex ey
 go_enter Tryz.func136,Tryz.ntmps136
 go_upto_region 1 with (fail)
 refine zaa (fun W => (∀ j,W.cell? ⟨w.heap.size,j,none⟩ = #[Value.int .u8 op,.int .i64 x,.int .i64 y,.int .i64 0,.int .i64 0][j]?) /\ W.cell? ⟨w.heap.size + 1,x,none⟩ = some (.int .u64 X) /\ W.cell? ⟨w.heap.size + 1,y,none⟩ = some (.int .u64 Y) /\ w.heap.size + 1 < W.heap.size /\ Hid (Below w.heap.size w W)) ?_ ?_
 ·exact ⟨((Row.new w 26 _).alloc _).cell,(Row.lit (by simp only [World.size_alloc])).cell x |>.trans HX6.out,(Row.lit (by simp only [World.size_alloc])).cell y |>.trans HY6.out,by simp only [World.size_alloc]; omega,by unfold Hid; go_grown⟩
 rintro W ⟨m0,mx,my,mz,HB⟩
 have mz0:w.heap.size < W.heap.size:=by omega
 go_wp2_with (first
  | (go_at_call 157; (with_reducible refine (zr9 X HX.out _ (DB.below HT.out HB.out zn)).mono ?_); rintro e w1 ⟨rfl,rfl⟩; rw [HOX.out,EX.out])
  | (go_at_call 157; (with_reducible refine (zr9 Y HY.out _ (DB.below HT.out HB.out zn)).mono ?_); rintro e w2 ⟨rfl,rfl⟩; rw [HOY.out,EY.out])
  | (go_at_call 217; go_must ((with_reducible refine (zu9 t _ op hk (by have:=HN.out; omega) p q _ (by have:=LX.out; have:=HN.out; omega) (by have:=LY.out; omega) (HV.out.below HB.out zn)).mono ?_); rintro e w3 ⟨rfl,hb3⟩; have HB3:Hid (Below w.heap.size w w3):=HB.out.trans (hb3.mono HB.out.size); clear hb3)))
 go_returns
 exact ⟨rfl,HB3.out⟩
theorem set6 (c0 c1 c2 c3 c4 c5 d0 d1 d2 d3 d4 d5 X s:Nat) (hX:X < 6) (h:setV [c0,c1,c2,c3,c4,c5] (X:Int) s = [d0,d1,d2,d3,d4,d5]) :
  (#[Value.int .u64 c0,.int .u64 c1,.int .u64 c2,.int .u64 c3,.int .u64 c4,.int .u64 c5]:Array Value).setIfInBounds X (.int .u64 s) = #[Value.int .u64 d0,.int .u64 d1,.int .u64 d2,.int .u64 d3,.int .u64 d4,.int .u64 d5]:=by
 have:X = 0 \/ X = 1 \/ X = 2 \/ X = 3 \/ X = 4 \/ X = 5:=by omega
 unfold setV at h
 rcases this with rfl | rfl | rfl | rfl | rfl | rfl <;> simp at h <;> obtain ⟨rfl,rfl,rfl,rfl,rfl,rfl⟩:=h <;> rfl
theorem ztt (c0 c1 c2 c3 c4 c5 s:Nat) (x:Int):∃ d0 d1 d2 d3 d4 d5,setV [c0,c1,c2,c3,c4,c5] x s = [d0,d1,d2,d3,d4,d5]:=by
 have h:(setV [c0,c1,c2,c3,c4,c5] x s).length = 6:=by rw [zwu]; rfl
 match hl:setV [c0,c1,c2,c3,c4,c5] x s,h with
 | [d0,d1,d2,d3,d4,d5],_ => exact ⟨d0,d1,d2,d3,d4,d5,rfl⟩
theorem zsx (a:List Nat) (x:Int) (s u:Nat):setV (setV a x s) x u = setV a x u:=by simp [setV]
theorem ztb {a:List Nat} {x:Int} {s v N:Nat} (hv:v ∈ setV a x s) (ha:∀ u ∈ a,u < N) (hs:s < N):v < N:=by
 rcases List.mem_or_eq_of_mem_set hv with h | h
 ·exact ha v h
 ·omega
theorem ret_b {R b:Bool} (h:R = b):Ending.returned (.bool b) = .returned (.bool R):=by rw [h]
theorem zvq (n:Nat):setN n <= 2 ^ n:=Nat.mod_le _ _
theorem zu1 (g:Nat -> Bool) (k:Nat):(List.range (k + 1)).any g = ((List.range k).any g || g k):=by simp [List.range_succ]
theorem zu2 (g:Nat -> Bool) (k:Nat):(List.range (k + 1)).all g = ((List.range k).all g && g k):=by simp [List.range_succ]
theorem zwi {g:Nat -> Bool} {k n:Nat} (hk:k < n) (h:g k = true):(List.range n).any g = true:=List.any_eq_true.2 ⟨k,List.mem_range.2 hk,h⟩
theorem zu3 {g:Nat -> Bool} {k n:Nat} (hk:k < n) (h:g k = false):(List.range n).all g = false:=by
 rw [List.all_eq_false]; exact ⟨k,List.mem_range.2 hk,by simp [h]⟩
theorem zv5 {op x y:Int} (h:zes op x y):(∃ X:Nat,x = X /\ X < 6) /\ (∃ Y:Nat,y = Y /\ Y < 6):=by
 obtain ⟨_,_,h1,h2⟩:=h
 unfold zak at h1; unfold spare at h2
 simp only [Bool.and_eq_true,Bool.or_eq_true,decide_eq_true_eq] at h1 h2
 exact ⟨⟨x.toNat,by omega,by omega⟩,⟨y.toNat,by omega,by omega⟩⟩
theorem zvo (n N:Nat) (h:N = setN n) (hn:n <= 64):IntKind.u64.wrap (2 ^ n) = (N:Int):=by
 rw [h,IntKind.wrap_u64]
 unfold setN
 rw [Int.natCast_emod]
 simp [Int.natCast_pow]
theorem zvp (k u:Nat) (h:u = 2 ^ k) (hk:k < 64):IntKind.u64.wrap (2 ^ k) = (u:Int):=by
 have:u < 18446744073709551616:=by rw [h]; exact Nat.lt_of_lt_of_le (Nat.pow_lt_pow_right (by omega) hk) (by omega)
 rw [IntKind.wrap_u64]
 have e:(2:Int) ^ k = (u:Int):=by rw [h]; simp [Int.natCast_pow]
 rw [e]; omega
theorem un_var {op x:Int} (h:okUn op x):∃ X:Nat,x = X /\ X < 6:=by
 obtain ⟨_,_,h1,h2⟩:=h
 unfold zak at h1; unfold spare at h2
 simp only [Bool.and_eq_true,Bool.or_eq_true,decide_eq_true_eq] at h1 h2
 exact ⟨x.toNat,by omega,by omega⟩
theorem holds_T (t:List Lf) (A:Option Addr) (n c:Nat) (hn:n = t.length) (hk:KidsOk t) (hl:n <= 31) (f:List Mk) (v:Value) (hf64:f.length <= 64):∀ (tr:Tr) (p i:Nat) (b0 b1 b2 b3 b4 b5:Nat) (w:World),tr.ok -> Sg f p tr -> i + 1 = p + tr.size -> MS w v f -> DB w -> (∀ u ∈ [b0,b1,b2,b3,b4,b5],u < 2 ^ n) -> TS w (.slice A n c) t ->
  Calls Tryz.prog 99 #[.iface 99 (.slice A n c),v,.int .i64 i,.agg #[.int .u64 b0,.int .u64 b1,.int .u64 b2,.int .u64 b3,.int .u64 b4,.int .u64 b5]] w fun e w' => e = .returned (.bool (zb7 (zc1 t) tr [b0,b1,b2,b3,b4,b5])) /\ Below w.heap.size w w':=by
 have HN:=zh hn; clear hn
 have s1:=ztn; have s2:=zti
 intro tr
 induction tr with
 | leaf op x y =>
  intro p i b0 b1 b2 b3 b4 b5 w hok hsg hi hv hdb hbd htv
  have hip:i = p:=by simp [Tr.size] at hi; omega
  subst hip
  obtain ⟨⟨X,rfl,hX⟩,⟨Y,rfl,hY⟩⟩:=zv5 hok
  have hm:=hsg.leaf
  clear hsg hi
  have HV:=zh hv
  obtain ⟨hop,A1,cc,rfl,hc,hc2,hcell⟩:=hv
  have hil:i < f.length:=(List.getElem?_eq_some_iff.1 hm).1
  obtain ⟨b,o,rfl,hb,hcell2⟩:=hcell (by omega)
  obtain ⟨c0,c1,c2,c3,c4⟩:=hcell2 i _ hm
  simp only at c0 c1 c2 c3 c4
  clear hcell hcell2 hop
  obtain ⟨q1,q2,q3,q4,q5,q6,q7⟩:=nc0_op hok.2.1
  have HDB:=zh hdb; have HBD:=zh hbd; clear hdb hbd; have HTV:=zh htv; clear htv
  obtain ⟨R,hR⟩:=zx (zb7 (zc1 t) (.leaf op X Y) [b0,b1,b2,b3,b4,b5])
  rw [<- hR]
  have HR:=zh hR
  clear hR hok hm
  go_enter Tryz.func99,Tryz.ntmps99
  go_upto_region 2 with (fail)
  refine zaa (fun W => Row W w.heap.size 154 #[Value.int .u64 b0,.int .u64 b1,.int .u64 b2,.int .u64 b3,.int .u64 b4,.int .u64 b5] /\ Row W (w.heap.size + 1) 26 #[Value.int .u8 op,.int .i64 X,.int .i64 Y,.int .i64 0,.int .i64 0] /\ Below w.heap.size w W) ?_ ?_
  ·exact ⟨(Row.new w _ _).alloc _,Row.lit (by simp only [World.size_alloc]),by go_grown⟩
  rintro W ⟨ra,rx,hb⟩
  have RA:=zh ra; have RX:=zh rx; have HB:=zh hb
  have a0:=ra.cell; have x0:=rx.cell; have x1:=rx.lt; have a1:=ra.lt; have a2:=ra.free
  clear ra rx hb c0 c1 c2 c3 c4
  go_wp2_with (go_at_call 136; go_must ((with_reducible refine (atom_T t A n c HN.out hk hl op X Y hX hY b0 b1 b2 b3 b4 b5 HBD.out _ (HDB.out.below HB.out zn) (HTV.out.below HB.out zn)).mono ?_); rintro e w1 ⟨he,hb1⟩; obtain rfl:e = .returned (.bool R):=he.trans (by rw [HR.out]; rfl); replace HB:=zh (HB.out.trans (hb1.mono HB.out.size)); clear hb1 he))
  go_returns
  exact ⟨rfl,HB.out⟩
 | un op x a ih =>
  intro p i b0 b1 b2 b3 b4 b5 w hok hsg hi hv hdb hbd htv
  have hpos:=a.size_pos
  have hip:i = p + a.size:=by simp [Tr.size] at hi; omega
  obtain ⟨X,rfl,hX⟩:=un_var hok.1
  have hm:f[i]? = some ⟨op,X,0,((p + a.size - 1:Nat):Int),0⟩:=by rw [hip]; exact hsg.un
  have hsa:=hsg.un1
  have hops:=nc1_op hok.1.2.1
  have HOK:=zh hok.2
  have hj1:p + a.size - 1 + 1 = p + a.size:=by omega
  have HJ1:=zh hj1; clear hj1
  have HSA:=zh hsa; clear hsa
  have HIH:=zh ih; clear ih hsg hi hok
  have HV:=zh hv
  obtain ⟨hop,A1,cc,rfl,hc,hc2,hcell⟩:=hv
  have hil:i < f.length:=(List.getElem?_eq_some_iff.1 hm).1
  obtain ⟨b,o,rfl,hb,hcell2⟩:=hcell (by omega)
  obtain ⟨c0,c1,c2,c3,c4⟩:=hcell2 i _ hm
  simp only at c0 c1 c2 c3 c4
  clear hcell hcell2 hop hm
  have HIP:=zh hip; clear hip
  generalize hJ:p + a.size - 1 = J at *
  have HJ:=zh hJ; clear hJ
  have HDB:=zh hdb; have HBD:=zh hbd; clear hdb hbd; have HTV:=zh htv; clear htv
  obtain ⟨R,hR⟩:=zx (zb7 (zc1 t) (.un op X a) [b0,b1,b2,b3,b4,b5])
  rw [<- hR]
  have HR:=zh hR
  clear hR
  rcases hops with rfl | rfl | rfl | rfl | rfl
  ·have hr:R = !zb7 (zc1 t) a [b0,b1,b2,b3,b4,b5]:=by rw [HR.out]; simp [zb7]
   rw [hr]; clear hr
   go_enter Tryz.func99,Tryz.ntmps99
   go_upto_region 2 with (fail)
   refine zaa (fun W => Row W w.heap.size 154 #[Value.int .u64 b0,.int .u64 b1,.int .u64 b2,.int .u64 b3,.int .u64 b4,.int .u64 b5] /\ Row W (w.heap.size + 1) 26 #[Value.int .u8 9,.int .i64 X,.int .i64 0,.int .i64 J,.int .i64 0] /\ Below w.heap.size w W) ?_ ?_
   ·exact ⟨(Row.new w _ _).alloc _,Row.lit (by simp only [World.size_alloc]),by go_grown⟩
   rintro W ⟨ra,rx,hb⟩
   have RA:=zh ra; have RX:=zh rx; have HB:=zh hb
   have a0:=ra.cell; have x0:=rx.cell; have x1:=rx.lt; have a1:=ra.lt; have a2:=ra.free
   clear ra rx hb c0 c1 c2 c3 c4
   go_wp2_with (go_at_call 99; go_must ((with_reducible refine (HIH.out p J b0 b1 b2 b3 b4 b5 _ HOK.out HSA.out HJ1.out (HV.out.below HB.out zn) (HDB.out.below HB.out zn) HBD.out (HTV.out.below HB.out zn)).mono ?_); rintro e w1 ⟨rfl,hb1⟩; replace HB:=zh (HB.out.trans (hb1.mono HB.out.size)); clear hb1))
   go_returns
   exact ⟨rfl,HB.out⟩
  ·have hr:R = (List.range (setN n)).any (fun s => zb7 (zc1 t) a (setV [b0,b1,b2,b3,b4,b5] X s)):=by have e:=HN.out; subst e; rw [HR.out]; rfl
   have HRR:=zh hr; clear hr HR
   obtain ⟨N,hN⟩:=zx (setN n)
   have hN2:N < 18446744073709551616:=by rw [hN]; exact Nat.mod_lt _ (by omega)
   have hN3:N <= 2 ^ n:=by rw [hN]; exact zvq n
   have HB3:=zh (fun (s:Nat) (h:s < N) => (show s < 2 ^ n by omega)); clear hN3
   rw [<- hN] at HRR
   have HNE:=zh hN; clear hN
   have hsh:=zvo n N HNE.out (by omega)
   go_enter Tryz.func99,Tryz.ntmps99
   go_upto_region 2 with (fail)
   refine zaa (fun W => Row W w.heap.size 154 #[Value.int .u64 b0,.int .u64 b1,.int .u64 b2,.int .u64 b3,.int .u64 b4,.int .u64 b5] /\ Row W (w.heap.size + 1) 26 #[Value.int .u8 12,.int .i64 X,.int .i64 0,.int .i64 J,.int .i64 0] /\ Below w.heap.size w W) ?_ ?_
   ·exact ⟨(Row.new w _ _).alloc _,Row.lit (by simp only [World.size_alloc]),by go_grown⟩
   rintro W ⟨ra,rx,hb⟩
   have RA:=zh ra; have RX:=zh rx; have HB:=zh hb
   have a0:=ra.cell; have x0:=rx.cell; have x1:=rx.lt; have a1:=ra.lt; have a2:=ra.free
   clear ra rx hb c0 c1 c2 c3 c4
   go_wp2_with (go_at_call 218; go_must (refine (zsg A n c _).mono ?_; rintro e w1 ⟨rfl,rfl⟩))
   go_loopg [65] N (fun gk v wr => ∃ (k c0 c1 c2 c3 c4 c5:Nat),k <= N /\ gk = N - k /\ v = .int .u64 k /\ Row wr w.heap.size 154 #[Value.int .u64 c0,.int .u64 c1,.int .u64 c2,.int .u64 c3,.int .u64 c4,.int .u64 c5] /\ (∀ s,setV [c0,c1,c2,c3,c4,c5] (X:Int) s = setV [b0,b1,b2,b3,b4,b5] (X:Int) s) /\ Row wr (w.heap.size + 1) 26 #[Value.int .u8 12,.int .i64 X,.int .i64 0,.int .i64 J,.int .i64 0] /\ Below w.heap.size w wr /\ (List.range k).any (fun s => zb7 (zc1 t) a (setV [b0,b1,b2,b3,b4,b5] X s)) = false)
   case atStart => exact ⟨0,b0,b1,b2,b3,b4,b5,Nat.zero_le _,rfl,rfl,RA.out,fun _ => rfl,RX.out,HB.out,rfl⟩
   case round =>
    obtain ⟨k,c0,c1,c2,c3,c4,c5,hk,rfl,rfl,ra,hset,rx,hb,hacc⟩:=hrel
    clear a0 a1 a2 x0 x1 RA RX HB
    have RA:=zh ra; have RX:=zh rx; have HB:=zh hb; have HS:=zh hset; have HC:=zh hacc
    clear hb hset hacc
    by_cases hlt:k < N
    ·obtain ⟨d0,d1,d2,d3,d4,d5,hd⟩:=ztt b0 b1 b2 b3 b4 b5 k X
     have hd2:=set6 c0 c1 c2 c3 c4 c5 d0 d1 d2 d3 d4 d5 X _ hX ((HS.out _).trans hd)
     have HD:=zh hd; have HD2:=zh hd2; clear hd hd2
     have a0:=ra.cell; have x0:=rx.cell; have x1:=rx.lt; have a1:=ra.lt; have a2:=ra.free
     clear ra rx
     go_upto_region 15 with (fail)
     refine zaa (fun W => Row W w.heap.size 154 #[Value.int .u64 d0,.int .u64 d1,.int .u64 d2,.int .u64 d3,.int .u64 d4,.int .u64 d5] /\ Row W (w.heap.size + 1) 26 #[Value.int .u8 12,.int .i64 X,.int .i64 0,.int .i64 J,.int .i64 0] /\ Below w.heap.size w W) ?_ ?_
     ·have hh:=HB.out
      exact ⟨by rw [<- HD2.out]; exact RA.out.set X _,RX.out.far (by simp) _,by go_grown⟩
     clear a0 a1 a2 x0 x1 RA RX HB
     rintro W ⟨ra,rx,hb⟩
     have HB:=zh hb; have RA:=zh ra; have RX:=zh rx
     have a0:=ra.cell; have x0:=rx.cell
     have bd:Hid (∀ y ∈ [d0,d1,d2,d3,d4,d5],y < 2 ^ n):=fun y hy => ztb (HD.out ▸ hy) HBD.out (HB3.out k hlt)
     obtain ⟨r,hr⟩:∃ r:Bool,r = (fun s => zb7 (zc1 t) a (setV [b0,b1,b2,b3,b4,b5] X s)) k:=⟨_,rfl⟩
     have hg:Hid (zb7 (zc1 t) a [d0,d1,d2,d3,d4,d5] = r):=by rw [Hid,hr,<- HD.out]
     have HRk:=zh hr; clear hr
     clear ra rx hb
     have ac0:=a0 0; have ac1:=a0 1; have ac2:=a0 2; have ac3:=a0 3; have ac4:=a0 4; have ac5:=a0 5
     have xc0:=x0 0; have xc3:=x0 3
     simp only [List.getElem?_toArray,List.getElem?_cons_zero,List.getElem?_cons_succ] at ac0 ac1 ac2 ac3 ac4 ac5 xc0 xc3
     clear a0 x0
     go_region_held3 (fun W => W.cell? ⟨w.heap.size + 1,3,none⟩ = some (.int .i64 J) /\ W.cell? ⟨w.heap.size + 1,0,none⟩ = some (.int .u8 12) /\ W.cell? ⟨w.heap.size,0,none⟩ = some (.int .u64 d0) /\ W.cell? ⟨w.heap.size,1,none⟩ = some (.int .u64 d1) /\ W.cell? ⟨w.heap.size,2,none⟩ = some (.int .u64 d2) /\ W.cell? ⟨w.heap.size,3,none⟩ = some (.int .u64 d3) /\ W.cell? ⟨w.heap.size,4,none⟩ = some (.int .u64 d4) /\ W.cell? ⟨w.heap.size,5,none⟩ = some (.int .u64 d5)) (first | exact ⟨yc3,yc0,bc0,bc1,bc2,bc3,bc4,bc5⟩ | exact ⟨xc3,xc0,ac0,ac1,ac2,ac3,ac4,ac5⟩) (first | (go_at_call 99; (with_reducible refine (HIH.out p J d0 d1 d2 d3 d4 d5 _ HOK.out HSA.out HJ1.out (HV.out.below HB.out.drew zn) (HDB.out.below HB.out.drew zn) bd.out (HTV.out.below HB.out.drew zn)).mono ?_); rintro e w1 ⟨rfl,hb1⟩; rw [hg.out]; have HBb:Hid (Below W.heap.size W w1):=(⟨hb1.os,hb1.tape,hb1.output,hb1.size,hb1.block⟩:Below W.heap.size W w1); have RA1:=zh (RA.out.below HBb.out RA.out.lt); have RX1:=zh (RX.out.below HBb.out RX.out.lt); have HB1:=zh (HB.out.trans (HBb.out.mono HB.out.size)); clear hb1; have y0:=RX1.out.cell; have b0':=RA1.out.cell; have yc0:=y0 0; have yc3:=y0 3; have bc0:=b0' 0; have bc1:=b0' 1; have bc2:=b0' 2; have bc3:=b0' 3; have bc4:=b0' 4; have bc5:=b0' 5; simp only [List.getElem?_toArray,List.getElem?_cons_zero,List.getElem?_cons_succ] at yc0 yc3 bc0 bc1 bc2 bc3 bc4 bc5; clear y0 b0'))
     cases r
     ·have x1:=RX1.out.lt
      go_wp2
      go_roundg (N - (k + 1))
      case rel => exact ⟨k + 1,d0,d1,d2,d3,d4,d5,by omega,rfl,by go_num,RA1.out,fun s => by rw [<- HD.out,zsx],RX1.out,by have:=HB1.out; go_grown,by rw [zu1,HC.out,<- HRk.out]; rfl⟩
      case measure => omega
     ·have hR:R = true:=by rw [HRR.out]; exact zwi hlt HRk.out.symm
      have HR0:=zh hR; clear hR
      have x0:=RX1.out.cell; have x1:=RX1.out.lt
      go_wp2
      go_returns
      exact ⟨ret_b HR0.out,by have:=HB1.out; go_grown⟩
    ·have hkN:k = N:=by omega
     have hR:R = false:=by rw [HRR.out]; have hh:=HC.out; rw [hkN] at hh; exact hh
     have HR0:=zh hR; clear hR hkN
     have x0:=rx.cell; have x1:=rx.lt
     clear ra rx
     go_wp2
     go_returns
     exact ⟨ret_b HR0.out,HB.out⟩
  ·have hr:R = (List.range (setN n)).all (fun s => zb7 (zc1 t) a (setV [b0,b1,b2,b3,b4,b5] X s)):=by have e:=HN.out; subst e; rw [HR.out]; rfl
   have HRR:=zh hr; clear hr HR
   obtain ⟨N,hN⟩:=zx (setN n)
   have hN2:N < 18446744073709551616:=by rw [hN]; exact Nat.mod_lt _ (by omega)
   have hN3:N <= 2 ^ n:=by rw [hN]; exact zvq n
   have HB3:=zh (fun (s:Nat) (h:s < N) => (show s < 2 ^ n by omega)); clear hN3
   rw [<- hN] at HRR
   have HNE:=zh hN; clear hN
   have hsh:=zvo n N HNE.out (by omega)
   go_enter Tryz.func99,Tryz.ntmps99
   go_upto_region 2 with (fail)
   refine zaa (fun W => Row W w.heap.size 154 #[Value.int .u64 b0,.int .u64 b1,.int .u64 b2,.int .u64 b3,.int .u64 b4,.int .u64 b5] /\ Row W (w.heap.size + 1) 26 #[Value.int .u8 13,.int .i64 X,.int .i64 0,.int .i64 J,.int .i64 0] /\ Below w.heap.size w W) ?_ ?_
   ·exact ⟨(Row.new w _ _).alloc _,Row.lit (by simp only [World.size_alloc]),by go_grown⟩
   rintro W ⟨ra,rx,hb⟩
   have RA:=zh ra; have RX:=zh rx; have HB:=zh hb
   have a0:=ra.cell; have x0:=rx.cell; have x1:=rx.lt; have a1:=ra.lt; have a2:=ra.free
   clear ra rx hb c0 c1 c2 c3 c4
   go_wp2_with (go_at_call 218; go_must (refine (zsg A n c _).mono ?_; rintro e w1 ⟨rfl,rfl⟩))
   go_loopg [65] N (fun gk v wr => ∃ (k c0 c1 c2 c3 c4 c5:Nat),k <= N /\ gk = N - k /\ v = .int .u64 k /\ Row wr w.heap.size 154 #[Value.int .u64 c0,.int .u64 c1,.int .u64 c2,.int .u64 c3,.int .u64 c4,.int .u64 c5] /\ (∀ s,setV [c0,c1,c2,c3,c4,c5] (X:Int) s = setV [b0,b1,b2,b3,b4,b5] (X:Int) s) /\ Row wr (w.heap.size + 1) 26 #[Value.int .u8 13,.int .i64 X,.int .i64 0,.int .i64 J,.int .i64 0] /\ Below w.heap.size w wr /\ (List.range k).all (fun s => zb7 (zc1 t) a (setV [b0,b1,b2,b3,b4,b5] X s)) = true)
   case atStart => exact ⟨0,b0,b1,b2,b3,b4,b5,Nat.zero_le _,rfl,rfl,RA.out,fun _ => rfl,RX.out,HB.out,rfl⟩
   case round =>
    obtain ⟨k,c0,c1,c2,c3,c4,c5,hk,rfl,rfl,ra,hset,rx,hb,hacc⟩:=hrel
    clear a0 a1 a2 x0 x1 RA RX HB
    have RA:=zh ra; have RX:=zh rx; have HB:=zh hb; have HS:=zh hset; have HC:=zh hacc
    clear hb hset hacc
    by_cases hlt:k < N
    ·obtain ⟨d0,d1,d2,d3,d4,d5,hd⟩:=ztt b0 b1 b2 b3 b4 b5 k X
     have hd2:=set6 c0 c1 c2 c3 c4 c5 d0 d1 d2 d3 d4 d5 X _ hX ((HS.out _).trans hd)
     have HD:=zh hd; have HD2:=zh hd2; clear hd hd2
     have a0:=ra.cell; have x0:=rx.cell; have x1:=rx.lt; have a1:=ra.lt; have a2:=ra.free
     clear ra rx
     go_upto_region 15 with (fail)
     refine zaa (fun W => Row W w.heap.size 154 #[Value.int .u64 d0,.int .u64 d1,.int .u64 d2,.int .u64 d3,.int .u64 d4,.int .u64 d5] /\ Row W (w.heap.size + 1) 26 #[Value.int .u8 13,.int .i64 X,.int .i64 0,.int .i64 J,.int .i64 0] /\ Below w.heap.size w W) ?_ ?_
     ·have hh:=HB.out
      exact ⟨by rw [<- HD2.out]; exact RA.out.set X _,RX.out.far (by simp) _,by go_grown⟩
     clear a0 a1 a2 x0 x1 RA RX HB
     rintro W ⟨ra,rx,hb⟩
     have HB:=zh hb; have RA:=zh ra; have RX:=zh rx
     have a0:=ra.cell; have x0:=rx.cell
     have bd:Hid (∀ y ∈ [d0,d1,d2,d3,d4,d5],y < 2 ^ n):=fun y hy => ztb (HD.out ▸ hy) HBD.out (HB3.out k hlt)
     obtain ⟨r,hr⟩:∃ r:Bool,r = (fun s => zb7 (zc1 t) a (setV [b0,b1,b2,b3,b4,b5] X s)) k:=⟨_,rfl⟩
     have hg:Hid (zb7 (zc1 t) a [d0,d1,d2,d3,d4,d5] = r):=by rw [Hid,hr,<- HD.out]
     have HRk:=zh hr; clear hr
     clear ra rx hb
     have ac0:=a0 0; have ac1:=a0 1; have ac2:=a0 2; have ac3:=a0 3; have ac4:=a0 4; have ac5:=a0 5
     have xc0:=x0 0; have xc3:=x0 3
     simp only [List.getElem?_toArray,List.getElem?_cons_zero,List.getElem?_cons_succ] at ac0 ac1 ac2 ac3 ac4 ac5 xc0 xc3
     clear a0 x0
     go_region_held3 (fun W => W.cell? ⟨w.heap.size + 1,3,none⟩ = some (.int .i64 J) /\ W.cell? ⟨w.heap.size + 1,0,none⟩ = some (.int .u8 13) /\ W.cell? ⟨w.heap.size,0,none⟩ = some (.int .u64 d0) /\ W.cell? ⟨w.heap.size,1,none⟩ = some (.int .u64 d1) /\ W.cell? ⟨w.heap.size,2,none⟩ = some (.int .u64 d2) /\ W.cell? ⟨w.heap.size,3,none⟩ = some (.int .u64 d3) /\ W.cell? ⟨w.heap.size,4,none⟩ = some (.int .u64 d4) /\ W.cell? ⟨w.heap.size,5,none⟩ = some (.int .u64 d5)) (first | exact ⟨yc3,yc0,bc0,bc1,bc2,bc3,bc4,bc5⟩ | exact ⟨xc3,xc0,ac0,ac1,ac2,ac3,ac4,ac5⟩) (first | (go_at_call 99; (with_reducible refine (HIH.out p J d0 d1 d2 d3 d4 d5 _ HOK.out HSA.out HJ1.out (HV.out.below HB.out.drew zn) (HDB.out.below HB.out.drew zn) bd.out (HTV.out.below HB.out.drew zn)).mono ?_); rintro e w1 ⟨rfl,hb1⟩; rw [hg.out]; have HBb:Hid (Below W.heap.size W w1):=(⟨hb1.os,hb1.tape,hb1.output,hb1.size,hb1.block⟩:Below W.heap.size W w1); have RA1:=zh (RA.out.below HBb.out RA.out.lt); have RX1:=zh (RX.out.below HBb.out RX.out.lt); have HB1:=zh (HB.out.trans (HBb.out.mono HB.out.size)); clear hb1; have y0:=RX1.out.cell; have b0':=RA1.out.cell; have yc0:=y0 0; have yc3:=y0 3; have bc0:=b0' 0; have bc1:=b0' 1; have bc2:=b0' 2; have bc3:=b0' 3; have bc4:=b0' 4; have bc5:=b0' 5; simp only [List.getElem?_toArray,List.getElem?_cons_zero,List.getElem?_cons_succ] at yc0 yc3 bc0 bc1 bc2 bc3 bc4 bc5; clear y0 b0'))
     cases r
     ·have hR:R = false:=by rw [HRR.out]; exact zu3 hlt HRk.out.symm
      have HR0:=zh hR; clear hR
      have x0:=RX1.out.cell; have x1:=RX1.out.lt
      go_wp2
      go_returns
      exact ⟨ret_b HR0.out,by have:=HB1.out; go_grown⟩
     ·have x1:=RX1.out.lt
      go_wp2
      go_roundg (N - (k + 1))
      case rel => exact ⟨k + 1,d0,d1,d2,d3,d4,d5,by omega,rfl,by go_num,RA1.out,fun s => by rw [<- HD.out,zsx],RX1.out,by have:=HB1.out; go_grown,by rw [zu2,HC.out,<- HRk.out]; rfl⟩
      case measure => omega
    ·have hkN:k = N:=by omega
     have hR:R = true:=by rw [HRR.out]; have hh:=HC.out; rw [hkN] at hh; exact hh
     have HR0:=zh hR; clear hR hkN
     have x0:=rx.cell; have x1:=rx.lt
     clear ra rx
     go_wp2
     go_returns
     exact ⟨ret_b HR0.out,HB.out⟩
  ·have hr:R = (List.range (n)).any (fun s => zb7 (zc1 t) a (setV [b0,b1,b2,b3,b4,b5] X (2 ^ s))):=by have e:=HN.out; subst e; rw [HR.out]; rfl
   have HRR:=zh hr; clear hr HR
   have hN2:n <= 64:=by omega
   have HB3:=zh (fun (s:Nat) (h:s < n) => (show 2 ^ s < 2 ^ n from Nat.pow_lt_pow_right (by omega) (by omega)))
   go_enter Tryz.func99,Tryz.ntmps99
   go_upto_region 2 with (fail)
   refine zaa (fun W => Row W w.heap.size 154 #[Value.int .u64 b0,.int .u64 b1,.int .u64 b2,.int .u64 b3,.int .u64 b4,.int .u64 b5] /\ Row W (w.heap.size + 1) 26 #[Value.int .u8 14,.int .i64 X,.int .i64 0,.int .i64 J,.int .i64 0] /\ Below w.heap.size w W) ?_ ?_
   ·exact ⟨(Row.new w _ _).alloc _,Row.lit (by simp only [World.size_alloc]),by go_grown⟩
   rintro W ⟨ra,rx,hb⟩
   have RA:=zh ra; have RX:=zh rx; have HB:=zh hb
   have a0:=ra.cell; have x0:=rx.cell; have x1:=rx.lt; have a1:=ra.lt; have a2:=ra.free
   clear ra rx hb c0 c1 c2 c3 c4
   go_wp2_with (go_at_call 218; go_must (refine (zsg A n c _).mono ?_; rintro e w1 ⟨rfl,rfl⟩))
   go_loopg [94] n (fun gk v wr => ∃ (k c0 c1 c2 c3 c4 c5:Nat),k <= n /\ gk = n - k /\ v = .int .i64 k /\ Row wr w.heap.size 154 #[Value.int .u64 c0,.int .u64 c1,.int .u64 c2,.int .u64 c3,.int .u64 c4,.int .u64 c5] /\ (∀ s,setV [c0,c1,c2,c3,c4,c5] (X:Int) s = setV [b0,b1,b2,b3,b4,b5] (X:Int) s) /\ Row wr (w.heap.size + 1) 26 #[Value.int .u8 14,.int .i64 X,.int .i64 0,.int .i64 J,.int .i64 0] /\ Below w.heap.size w wr /\ (List.range k).any (fun s => zb7 (zc1 t) a (setV [b0,b1,b2,b3,b4,b5] X (2 ^ s))) = false)
   case atStart => exact ⟨0,b0,b1,b2,b3,b4,b5,Nat.zero_le _,rfl,rfl,RA.out,fun _ => rfl,RX.out,HB.out,rfl⟩
   case round =>
    obtain ⟨k,c0,c1,c2,c3,c4,c5,hk,rfl,rfl,ra,hset,rx,hb,hacc⟩:=hrel
    clear a0 a1 a2 x0 x1 RA RX HB
    have RA:=zh ra; have RX:=zh rx; have HB:=zh hb; have HS:=zh hset; have HC:=zh hacc
    clear hb hset hacc
    by_cases hlt:k < n
    ·obtain ⟨d0,d1,d2,d3,d4,d5,hd⟩:=ztt b0 b1 b2 b3 b4 b5 (2 ^ k) X
     have hd2:=set6 c0 c1 c2 c3 c4 c5 d0 d1 d2 d3 d4 d5 X _ hX ((HS.out _).trans hd)
     have HD:=zh hd; have HD2:=zh hd2; clear hd hd2
     have a0:=ra.cell; have x0:=rx.cell; have x1:=rx.lt; have a1:=ra.lt; have a2:=ra.free
     clear ra rx
     obtain ⟨u,hu⟩:∃ u:Nat,u = 2 ^ k:=⟨_,rfl⟩
     have hsh:=zvp k u hu (by omega)
     rw [<- hu] at HD2 HD
     have HU:=zh hu; clear hu
     go_upto_region 24 with (fail)
     first | go_region | fail
     go_upto_region 25 with (fail)
     refine zaa (fun W => Row W w.heap.size 154 #[Value.int .u64 d0,.int .u64 d1,.int .u64 d2,.int .u64 d3,.int .u64 d4,.int .u64 d5] /\ Row W (w.heap.size + 1) 26 #[Value.int .u8 14,.int .i64 X,.int .i64 0,.int .i64 J,.int .i64 0] /\ Below w.heap.size w W) ?_ ?_
     ·have hh:=HB.out
      exact ⟨by rw [<- HD2.out]; exact RA.out.set X _,RX.out.far (by simp) _,by go_grown⟩
     clear a0 a1 a2 x0 x1 RA RX HB
     rintro W ⟨ra,rx,hb⟩
     have HB:=zh hb; have RA:=zh ra; have RX:=zh rx
     have a0:=ra.cell; have x0:=rx.cell
     have bd:Hid (∀ y ∈ [d0,d1,d2,d3,d4,d5],y < 2 ^ n):=fun y hy => ztb (HD.out ▸ hy) HBD.out (by have:=HB3.out k hlt; rw [HU.out]; exact this)
     obtain ⟨r,hr⟩:∃ r:Bool,r = (fun s => zb7 (zc1 t) a (setV [b0,b1,b2,b3,b4,b5] X (2 ^ s))) k:=⟨_,rfl⟩
     have hg:Hid (zb7 (zc1 t) a [d0,d1,d2,d3,d4,d5] = r):=by rw [Hid,hr,<- HD.out,HU.out]
     have HRk:=zh hr; clear hr
     clear ra rx hb
     have ac0:=a0 0; have ac1:=a0 1; have ac2:=a0 2; have ac3:=a0 3; have ac4:=a0 4; have ac5:=a0 5
     have xc0:=x0 0; have xc3:=x0 3
     simp only [List.getElem?_toArray,List.getElem?_cons_zero,List.getElem?_cons_succ] at ac0 ac1 ac2 ac3 ac4 ac5 xc0 xc3
     clear a0 x0
     go_region_held3 (fun W => W.cell? ⟨w.heap.size + 1,3,none⟩ = some (.int .i64 J) /\ W.cell? ⟨w.heap.size + 1,0,none⟩ = some (.int .u8 14) /\ W.cell? ⟨w.heap.size,0,none⟩ = some (.int .u64 d0) /\ W.cell? ⟨w.heap.size,1,none⟩ = some (.int .u64 d1) /\ W.cell? ⟨w.heap.size,2,none⟩ = some (.int .u64 d2) /\ W.cell? ⟨w.heap.size,3,none⟩ = some (.int .u64 d3) /\ W.cell? ⟨w.heap.size,4,none⟩ = some (.int .u64 d4) /\ W.cell? ⟨w.heap.size,5,none⟩ = some (.int .u64 d5)) (first | exact ⟨yc3,yc0,bc0,bc1,bc2,bc3,bc4,bc5⟩ | exact ⟨xc3,xc0,ac0,ac1,ac2,ac3,ac4,ac5⟩) (first | (go_at_call 99; (with_reducible refine (HIH.out p J d0 d1 d2 d3 d4 d5 _ HOK.out HSA.out HJ1.out (HV.out.below HB.out.drew zn) (HDB.out.below HB.out.drew zn) bd.out (HTV.out.below HB.out.drew zn)).mono ?_); rintro e w1 ⟨rfl,hb1⟩; rw [hg.out]; have HBb:Hid (Below W.heap.size W w1):=(⟨hb1.os,hb1.tape,hb1.output,hb1.size,hb1.block⟩:Below W.heap.size W w1); have RA1:=zh (RA.out.below HBb.out RA.out.lt); have RX1:=zh (RX.out.below HBb.out RX.out.lt); have HB1:=zh (HB.out.trans (HBb.out.mono HB.out.size)); clear hb1; have y0:=RX1.out.cell; have b0':=RA1.out.cell; have yc0:=y0 0; have yc3:=y0 3; have bc0:=b0' 0; have bc1:=b0' 1; have bc2:=b0' 2; have bc3:=b0' 3; have bc4:=b0' 4; have bc5:=b0' 5; simp only [List.getElem?_toArray,List.getElem?_cons_zero,List.getElem?_cons_succ] at yc0 yc3 bc0 bc1 bc2 bc3 bc4 bc5; clear y0 b0'))
     cases r
     ·have x1:=RX1.out.lt
      go_wp2
      go_roundg (n - (k + 1))
      case rel => exact ⟨k + 1,d0,d1,d2,d3,d4,d5,by omega,rfl,by go_num,RA1.out,fun s => by rw [<- HD.out,zsx],RX1.out,by have:=HB1.out; go_grown,by rw [zu1,HC.out,<- HRk.out]; rfl⟩
      case measure => omega
     ·have hR:R = true:=by rw [HRR.out]; exact zwi hlt HRk.out.symm
      have HR0:=zh hR; clear hR
      have x0:=RX1.out.cell; have x1:=RX1.out.lt
      go_wp2
      go_returns
      exact ⟨ret_b HR0.out,by have:=HB1.out; go_grown⟩
    ·have hkN:k = n:=by omega
     have hR:R = false:=by rw [HRR.out]; have hh:=HC.out; rw [hkN] at hh; exact hh
     have HR0:=zh hR; clear hR hkN
     have x0:=rx.cell; have x1:=rx.lt
     clear ra rx
     go_wp2
     go_returns
     exact ⟨ret_b HR0.out,HB.out⟩
  ·have hr:R = (List.range (n)).all (fun s => zb7 (zc1 t) a (setV [b0,b1,b2,b3,b4,b5] X (2 ^ s))):=by have e:=HN.out; subst e; rw [HR.out]; rfl
   have HRR:=zh hr; clear hr HR
   have hN2:n <= 64:=by omega
   have HB3:=zh (fun (s:Nat) (h:s < n) => (show 2 ^ s < 2 ^ n from Nat.pow_lt_pow_right (by omega) (by omega)))
   go_enter Tryz.func99,Tryz.ntmps99
   go_upto_region 2 with (fail)
   refine zaa (fun W => Row W w.heap.size 154 #[Value.int .u64 b0,.int .u64 b1,.int .u64 b2,.int .u64 b3,.int .u64 b4,.int .u64 b5] /\ Row W (w.heap.size + 1) 26 #[Value.int .u8 15,.int .i64 X,.int .i64 0,.int .i64 J,.int .i64 0] /\ Below w.heap.size w W) ?_ ?_
   ·exact ⟨(Row.new w _ _).alloc _,Row.lit (by simp only [World.size_alloc]),by go_grown⟩
   rintro W ⟨ra,rx,hb⟩
   have RA:=zh ra; have RX:=zh rx; have HB:=zh hb
   have a0:=ra.cell; have x0:=rx.cell; have x1:=rx.lt; have a1:=ra.lt; have a2:=ra.free
   clear ra rx hb c0 c1 c2 c3 c4
   go_wp2_with (go_at_call 218; go_must (refine (zsg A n c _).mono ?_; rintro e w1 ⟨rfl,rfl⟩))
   go_loopg [94] n (fun gk v wr => ∃ (k c0 c1 c2 c3 c4 c5:Nat),k <= n /\ gk = n - k /\ v = .int .i64 k /\ Row wr w.heap.size 154 #[Value.int .u64 c0,.int .u64 c1,.int .u64 c2,.int .u64 c3,.int .u64 c4,.int .u64 c5] /\ (∀ s,setV [c0,c1,c2,c3,c4,c5] (X:Int) s = setV [b0,b1,b2,b3,b4,b5] (X:Int) s) /\ Row wr (w.heap.size + 1) 26 #[Value.int .u8 15,.int .i64 X,.int .i64 0,.int .i64 J,.int .i64 0] /\ Below w.heap.size w wr /\ (List.range k).all (fun s => zb7 (zc1 t) a (setV [b0,b1,b2,b3,b4,b5] X (2 ^ s))) = true)
   case atStart => exact ⟨0,b0,b1,b2,b3,b4,b5,Nat.zero_le _,rfl,rfl,RA.out,fun _ => rfl,RX.out,HB.out,rfl⟩
   case round =>
    obtain ⟨k,c0,c1,c2,c3,c4,c5,hk,rfl,rfl,ra,hset,rx,hb,hacc⟩:=hrel
    clear a0 a1 a2 x0 x1 RA RX HB
    have RA:=zh ra; have RX:=zh rx; have HB:=zh hb; have HS:=zh hset; have HC:=zh hacc
    clear hb hset hacc
    by_cases hlt:k < n
    ·obtain ⟨d0,d1,d2,d3,d4,d5,hd⟩:=ztt b0 b1 b2 b3 b4 b5 (2 ^ k) X
     have hd2:=set6 c0 c1 c2 c3 c4 c5 d0 d1 d2 d3 d4 d5 X _ hX ((HS.out _).trans hd)
     have HD:=zh hd; have HD2:=zh hd2; clear hd hd2
     have a0:=ra.cell; have x0:=rx.cell; have x1:=rx.lt; have a1:=ra.lt; have a2:=ra.free
     clear ra rx
     obtain ⟨u,hu⟩:∃ u:Nat,u = 2 ^ k:=⟨_,rfl⟩
     have hsh:=zvp k u hu (by omega)
     rw [<- hu] at HD2 HD
     have HU:=zh hu; clear hu
     go_upto_region 24 with (fail)
     first | go_region | fail
     go_upto_region 25 with (fail)
     refine zaa (fun W => Row W w.heap.size 154 #[Value.int .u64 d0,.int .u64 d1,.int .u64 d2,.int .u64 d3,.int .u64 d4,.int .u64 d5] /\ Row W (w.heap.size + 1) 26 #[Value.int .u8 15,.int .i64 X,.int .i64 0,.int .i64 J,.int .i64 0] /\ Below w.heap.size w W) ?_ ?_
     ·have hh:=HB.out
      exact ⟨by rw [<- HD2.out]; exact RA.out.set X _,RX.out.far (by simp) _,by go_grown⟩
     clear a0 a1 a2 x0 x1 RA RX HB
     rintro W ⟨ra,rx,hb⟩
     have HB:=zh hb; have RA:=zh ra; have RX:=zh rx
     have a0:=ra.cell; have x0:=rx.cell
     have bd:Hid (∀ y ∈ [d0,d1,d2,d3,d4,d5],y < 2 ^ n):=fun y hy => ztb (HD.out ▸ hy) HBD.out (by have:=HB3.out k hlt; rw [HU.out]; exact this)
     obtain ⟨r,hr⟩:∃ r:Bool,r = (fun s => zb7 (zc1 t) a (setV [b0,b1,b2,b3,b4,b5] X (2 ^ s))) k:=⟨_,rfl⟩
     have hg:Hid (zb7 (zc1 t) a [d0,d1,d2,d3,d4,d5] = r):=by rw [Hid,hr,<- HD.out,HU.out]
     have HRk:=zh hr; clear hr
     clear ra rx hb
     have ac0:=a0 0; have ac1:=a0 1; have ac2:=a0 2; have ac3:=a0 3; have ac4:=a0 4; have ac5:=a0 5
     have xc0:=x0 0; have xc3:=x0 3
     simp only [List.getElem?_toArray,List.getElem?_cons_zero,List.getElem?_cons_succ] at ac0 ac1 ac2 ac3 ac4 ac5 xc0 xc3
     clear a0 x0
     go_region_held3 (fun W => W.cell? ⟨w.heap.size + 1,3,none⟩ = some (.int .i64 J) /\ W.cell? ⟨w.heap.size + 1,0,none⟩ = some (.int .u8 15) /\ W.cell? ⟨w.heap.size,0,none⟩ = some (.int .u64 d0) /\ W.cell? ⟨w.heap.size,1,none⟩ = some (.int .u64 d1) /\ W.cell? ⟨w.heap.size,2,none⟩ = some (.int .u64 d2) /\ W.cell? ⟨w.heap.size,3,none⟩ = some (.int .u64 d3) /\ W.cell? ⟨w.heap.size,4,none⟩ = some (.int .u64 d4) /\ W.cell? ⟨w.heap.size,5,none⟩ = some (.int .u64 d5)) (first | exact ⟨yc3,yc0,bc0,bc1,bc2,bc3,bc4,bc5⟩ | exact ⟨xc3,xc0,ac0,ac1,ac2,ac3,ac4,ac5⟩) (first | (go_at_call 99; (with_reducible refine (HIH.out p J d0 d1 d2 d3 d4 d5 _ HOK.out HSA.out HJ1.out (HV.out.below HB.out.drew zn) (HDB.out.below HB.out.drew zn) bd.out (HTV.out.below HB.out.drew zn)).mono ?_); rintro e w1 ⟨rfl,hb1⟩; rw [hg.out]; have HBb:Hid (Below W.heap.size W w1):=(⟨hb1.os,hb1.tape,hb1.output,hb1.size,hb1.block⟩:Below W.heap.size W w1); have RA1:=zh (RA.out.below HBb.out RA.out.lt); have RX1:=zh (RX.out.below HBb.out RX.out.lt); have HB1:=zh (HB.out.trans (HBb.out.mono HB.out.size)); clear hb1; have y0:=RX1.out.cell; have b0':=RA1.out.cell; have yc0:=y0 0; have yc3:=y0 3; have bc0:=b0' 0; have bc1:=b0' 1; have bc2:=b0' 2; have bc3:=b0' 3; have bc4:=b0' 4; have bc5:=b0' 5; simp only [List.getElem?_toArray,List.getElem?_cons_zero,List.getElem?_cons_succ] at yc0 yc3 bc0 bc1 bc2 bc3 bc4 bc5; clear y0 b0'))
     cases r
     ·have hR:R = false:=by rw [HRR.out]; exact zu3 hlt HRk.out.symm
      have HR0:=zh hR; clear hR
      have x0:=RX1.out.cell; have x1:=RX1.out.lt
      go_wp2
      go_returns
      exact ⟨ret_b HR0.out,by have:=HB1.out; go_grown⟩
     ·have x1:=RX1.out.lt
      go_wp2
      go_roundg (n - (k + 1))
      case rel => exact ⟨k + 1,d0,d1,d2,d3,d4,d5,by omega,rfl,by go_num,RA1.out,fun s => by rw [<- HD.out,zsx],RX1.out,by have:=HB1.out; go_grown,by rw [zu2,HC.out,<- HRk.out]; rfl⟩
      case measure => omega
    ·have hkN:k = n:=by omega
     have hR:R = true:=by rw [HRR.out]; have hh:=HC.out; rw [hkN] at hh; exact hh
     have HR0:=zh hR; clear hR hkN
     have x0:=rx.cell; have x1:=rx.lt
     clear ra rx
     go_wp2
     go_returns
     exact ⟨ret_b HR0.out,HB.out⟩
 | bin op a b iha ihb =>
  intro p i b0 b1 b2 b3 b4 b5 w hok hsg hi hv hdb hbd htv
  have hposa:=a.size_pos
  have hposb:=b.size_pos
  have hip:i = p + a.size + b.size:=by simp [Tr.size] at hi; omega
  have hm:f[i]? = some ⟨op,0,0,((p + a.size - 1:Nat):Int),((p + a.size + b.size - 1:Nat):Int)⟩:=by rw [hip]; exact hsg.bin
  have HSA:=zh hsg.bin1
  have HSB:=zh hsg.bin2
  have hops:=nc2_op hok.1
  have HOA:=zh hok.2.1
  have HOB:=zh hok.2.2
  have hj1:p + a.size - 1 + 1 = p + a.size:=by omega
  have hj2:p + a.size + b.size - 1 + 1 = p + a.size + b.size:=by omega
  have HJ1:=zh hj1; have HJ2:=zh hj2; clear hj1 hj2
  have HIA:=zh iha; have HIB:=zh ihb; clear iha ihb hsg hi hok
  have HV:=zh hv
  obtain ⟨hop,A1,cc,rfl,hc,hc2,hcell⟩:=hv
  have hil:i < f.length:=(List.getElem?_eq_some_iff.1 hm).1
  obtain ⟨bb,o,rfl,hb,hcell2⟩:=hcell (by omega)
  obtain ⟨c0,c1,c2,c3,c4⟩:=hcell2 i _ hm
  simp only at c0 c1 c2 c3 c4
  clear hcell hcell2 hop hm
  have HIP:=zh hip; clear hip
  generalize hK:p + a.size + b.size - 1 = K at *
  generalize hJ:p + a.size - 1 = J at *
  have HJ:=zh hJ; have HK:=zh hK; clear hJ hK
  have HDB:=zh hdb; have HBD:=zh hbd; clear hdb hbd; have HTV:=zh htv; clear htv
  obtain ⟨R,hR⟩:=zx (zb7 (zc1 t) (.bin op a b) [b0,b1,b2,b3,b4,b5])
  rw [<- hR]
  have HR:=zh hR
  clear hR
  obtain ⟨ra,hra⟩:=zx (zb7 (zc1 t) a [b0,b1,b2,b3,b4,b5])
  obtain ⟨rb,hrb⟩:=zx (zb7 (zc1 t) b [b0,b1,b2,b3,b4,b5])
  have HRA:=zh hra; have HRB:=zh hrb; clear hra hrb
  rcases hops with rfl | rfl
  ·have hR:R = (ra && rb):=by rw [HR.out,HRA.out,HRB.out]; simp [zb7]
   rw [hR]; clear hR
   cases ra
   all_goals
    go_enter Tryz.func99,Tryz.ntmps99
    go_upto_region 2 with (fail)
    refine zaa (fun W => Row W w.heap.size 154 #[Value.int .u64 b0,.int .u64 b1,.int .u64 b2,.int .u64 b3,.int .u64 b4,.int .u64 b5] /\ Row W (w.heap.size + 1) 26 #[Value.int .u8 10,.int .i64 0,.int .i64 0,.int .i64 J,.int .i64 K] /\ Below w.heap.size w W) ?_ ?_
    ·exact ⟨(Row.new w _ _).alloc _,Row.lit (by simp only [World.size_alloc]),by go_grown⟩
    rintro W ⟨ra,rx,hb⟩
    have RA:=zh ra; have RX:=zh rx; have HB:=zh hb
    have a0:=ra.cell; have x0:=rx.cell; have x1:=rx.lt; have a1:=ra.lt; have a2:=ra.free
    clear ra rx hb c0 c1 c2 c3 c4
    go_wp2_with (first
     | (go_at_call 99; (with_reducible refine (HIA.out p J b0 b1 b2 b3 b4 b5 _ HOA.out HSA.out HJ1.out (HV.out.below HB.out zn) (HDB.out.below HB.out zn) HBD.out (HTV.out.below HB.out zn)).mono ?_); rintro e w1 ⟨rfl,hb1⟩; rw [<- HRA.out]; have RX1:=zh (RX.out.below hb1 RX.out.lt); have RA1:=zh (RA.out.below hb1 RA.out.lt); replace HB:=zh (HB.out.trans (hb1.mono HB.out.size)); clear hb1 a0 a1 a2 x0 x1; have a0:=RA1.out.cell; have x0:=RX1.out.cell; have x1:=RX1.out.lt; have a1:=RA1.out.lt)
     | (go_at_call 99; (with_reducible refine (HIB.out (p + a.size) K b0 b1 b2 b3 b4 b5 _ HOB.out HSB.out HJ2.out (HV.out.below HB.out zn) (HDB.out.below HB.out zn) HBD.out (HTV.out.below HB.out zn)).mono ?_); rintro e w2 ⟨rfl,hb2⟩; rw [<- HRB.out]; replace HB:=zh (HB.out.trans (hb2.mono HB.out.size)); clear hb2))
    go_returns
    exact ⟨rfl,HB.out⟩
  ·have hR:R = (ra || rb):=by rw [HR.out,HRA.out,HRB.out]; simp [zb7]
   rw [hR]; clear hR
   cases ra
   all_goals
    go_enter Tryz.func99,Tryz.ntmps99
    go_upto_region 2 with (fail)
    refine zaa (fun W => Row W w.heap.size 154 #[Value.int .u64 b0,.int .u64 b1,.int .u64 b2,.int .u64 b3,.int .u64 b4,.int .u64 b5] /\ Row W (w.heap.size + 1) 26 #[Value.int .u8 11,.int .i64 0,.int .i64 0,.int .i64 J,.int .i64 K] /\ Below w.heap.size w W) ?_ ?_
    ·exact ⟨(Row.new w _ _).alloc _,Row.lit (by simp only [World.size_alloc]),by go_grown⟩
    rintro W ⟨ra,rx,hb⟩
    have RA:=zh ra; have RX:=zh rx; have HB:=zh hb
    have a0:=ra.cell; have x0:=rx.cell; have x1:=rx.lt; have a1:=ra.lt; have a2:=ra.free
    clear ra rx hb c0 c1 c2 c3 c4
    go_wp2_with (first
     | (go_at_call 99; (with_reducible refine (HIA.out p J b0 b1 b2 b3 b4 b5 _ HOA.out HSA.out HJ1.out (HV.out.below HB.out zn) (HDB.out.below HB.out zn) HBD.out (HTV.out.below HB.out zn)).mono ?_); rintro e w1 ⟨rfl,hb1⟩; rw [<- HRA.out]; have RX1:=zh (RX.out.below hb1 RX.out.lt); have RA1:=zh (RA.out.below hb1 RA.out.lt); replace HB:=zh (HB.out.trans (hb1.mono HB.out.size)); clear hb1 a0 a1 a2 x0 x1; have a0:=RA1.out.cell; have x0:=RX1.out.cell; have x1:=RX1.out.lt; have a1:=RA1.out.lt)
     | (go_at_call 99; (with_reducible refine (HIB.out (p + a.size) K b0 b1 b2 b3 b4 b5 _ HOB.out HSB.out HJ2.out (HV.out.below HB.out zn) (HDB.out.below HB.out zn) HBD.out (HTV.out.below HB.out zn)).mono ?_); rintro e w2 ⟨rfl,hb2⟩; rw [<- HRB.out]; replace HB:=zh (HB.out.trans (hb2.mono HB.out.size)); clear hb2))
    go_returns
    exact ⟨rfl,HB.out⟩
def Kids (f:List Mk):Prop:=∀ (i:Nat) (m:Mk),f[i]? = some m -> (nc m.op ≠ 0 -> 0 <= m.a /\ m.a < i) /\ (nc m.op = 2 -> 0 <= m.b /\ m.b < i)
theorem kids_of {f:List Mk} (h:za4 f = true):Kids f:=by
 obtain ⟨_,t,ok,hs,he⟩:=zg1 f h
 have key:∀ (t:Tr) (p:Nat),t.ok -> Sg f p t -> ∀ j,j < t.size -> ∀ m,f[p + j]? = some m -> (nc m.op ≠ 0 -> 0 <= m.a /\ m.a < ((p + j:Nat):Int)) /\ (nc m.op = 2 -> 0 <= m.b /\ m.b < ((p + j:Nat):Int)):=by
  intro t
  induction t with
  | leaf op x y =>
   intro p hok hsg j hj m hm
   simp only [Tr.size] at hj
   have hj0:j = 0:=by omega
   subst hj0
   rw [Nat.add_zero,hsg.leaf] at hm
   cases hm
   have:=hok.2.1
   simp [this]
  | un op x a ih =>
   intro p hok hsg j hj m hm
   simp only [Tr.size] at hj
   have hp:=a.size_pos
   by_cases hja:j < a.size
   ·exact ih p hok.2 hsg.un1 j hja m hm
   ·have:j = a.size:=by omega
    subst this
    rw [hsg.un] at hm
    cases hm
    have:=hok.1.2.1
    simp only [this]
    omega
  | bin op a b iha ihb =>
   intro p hok hsg j hj m hm
   simp only [Tr.size] at hj
   have hp:=a.size_pos
   have hq:=b.size_pos
   by_cases hja:j < a.size
   ·exact iha p hok.2.1 hsg.bin1 j hja m hm
   ·by_cases hjb:j < a.size + b.size
    ·have:=ihb (p + a.size) hok.2.2 hsg.bin2 (j - a.size) (by omega) m (by rw [<- hm]; congr 1; omega)
     omega
    ·have:j = a.size + b.size:=by omega
     subst this
     rw [<- Nat.add_assoc,hsg.bin] at hm
     cases hm
     simp only
     omega
 intro i m hm
 have hi:i < f.length:=(List.getElem?_eq_some_iff.1 hm).1
 have:=key t 0 ok (fun j hj => by rw [Nat.zero_add,<- he]) i (by omega) m (by rw [Nat.zero_add]; exact hm)
 rw [Nat.zero_add] at this
 exact this
theorem len30 (w:World):Calls Tryz.prog 135 #[.int .u64 1073741824] w fun e w' => e = .returned (.int .i64 31) /\ w = w' :=
 (Tryz.bits_Len 1073741824 w (by omega) (by omega)).mono fun e w' ⟨he,hw⟩ => ⟨he.trans (by rw [show Lib.bitLen (1073741824:Int).toNat = 31 by decide +kernel]; rfl),hw.symm⟩
theorem zuu {n:Nat} (h:n < 31):1 <= 2 ^ n /\ 2 ^ n <= 1073741824:=⟨Nat.pos_of_ne_zero (by simp),Nat.pow_le_pow_right (n:=2) (by omega) (show n <= 30 by omega)⟩
theorem cap_mul {P q a:Nat} (hP:1 <= P) (hq:P * q = 1073741824):min (1 + min a (q + 1) * P) 1073741824 = min (1 + P * a) 1073741824:=by
 by_cases h:a <= q + 1
 ·rw [Nat.min_eq_left h,Nat.mul_comm]
 ·rw [Nat.min_eq_right (by omega:q + 1 <= a)]
  have h1:P * (q + 1) <= P * a:=Nat.mul_le_mul_left P (by omega)
  have h2:(q + 1) * P = P * q + P:=by rw [Nat.mul_comm,Nat.mul_add,Nat.mul_one]
  have h3:P * (q + 1) = P * q + P:=by rw [Nat.mul_add,Nat.mul_one]
  omega
theorem zt8 {n:Nat} (h:n < 31):2 ^ n * (1073741824 / 2 ^ n) = 1073741824:=by
 have e:(1073741824:Nat) = 2 ^ n * 2 ^ (30 - n):=by rw [<- Nat.pow_add,show n + (30 - n) = 30 by omega]
 rw [e,Nat.mul_div_cancel_left _ (Nat.pos_of_ne_zero (by simp))]
theorem zuf (x:Nat) (h:x < 9223372036854775808):wrap64 (x:Int) = (x:Int):=IntWalk.wrap64_in _ ⟨by omega,by omega⟩
theorem zwt (n av:Nat) (h:n < 31) (ha:av <= 1073741824):wrap64 (1 + wrap64 (min (av:Int) (wrap64 (1073741824 / 2 ^ n + 1)) * 2 ^ n)) = ((1 + min av (1073741824 / 2 ^ n + 1) * 2 ^ n:Nat):Int) /\ 1 + min av (1073741824 / 2 ^ n + 1) * 2 ^ n <= 3000000000:=by
 obtain ⟨p1,p2⟩:=zuu h
 have p3:=zt8 h
 have e1:(1073741824 / 2 ^ n + 1:Int) = ((1073741824 / 2 ^ n + 1:Nat):Int):=by simp [Int.natCast_ediv,Int.natCast_pow]
 have q1:1073741824 / 2 ^ n <= 1073741824:=Nat.div_le_self _ _
 rw [e1,zuf _ (by omega)]
 have e2:min (av:Int) ((1073741824 / 2 ^ n + 1:Nat):Int) = ((min av (1073741824 / 2 ^ n + 1):Nat):Int):=by omega
 rw [e2]
 have b1:min av (1073741824 / 2 ^ n + 1) * 2 ^ n <= 2147483648:=by
  have h1:min av (1073741824 / 2 ^ n + 1) * 2 ^ n <= (1073741824 / 2 ^ n + 1) * 2 ^ n:=Nat.mul_le_mul_right _ (Nat.min_le_right _ _)
  have h2:(1073741824 / 2 ^ n + 1) * 2 ^ n = 2 ^ n * (1073741824 / 2 ^ n) + 2 ^ n:=by rw [Nat.mul_comm,Nat.mul_add,Nat.mul_one]
  omega
 have e3:((min av (1073741824 / 2 ^ n + 1):Nat):Int) * 2 ^ n = ((min av (1073741824 / 2 ^ n + 1) * 2 ^ n:Nat):Int):=by simp [Int.natCast_pow]
 rw [e3,zuf _ (by omega)]
 have e4:(1:Int) + ((min av (1073741824 / 2 ^ n + 1) * 2 ^ n:Nat):Int) = ((1 + min av (1073741824 / 2 ^ n + 1) * 2 ^ n:Nat):Int):=by omega
 rw [e4,zuf _ (by omega)]
 exact ⟨rfl,by omega⟩
theorem zwc (f:List Mk) (v:Value) (n:Nat) (hn:n <= 64) (w:World) (hv:MS w v f) (hl:f.length <= 64) (hkids:Kids f) :
  Calls Tryz.prog 98 #[v,.int .i64 n] w fun e w' => e = .returned (.slice (some ⟨w.heap.size,0,none⟩) f.length f.length) /\ Below w.heap.size w w' /\ Row w' w.heap.size 3 (outc f.length (csts n f)):=by
 have HV:=zh hv
 obtain ⟨hop,A,c,rfl,hc,hc2,hcell⟩:=hv
 obtain ⟨N,hN⟩:=zx f.length
 rw [<- hN] at hl hc hcell HV ⊢
 have H1:=zh hN; clear hN
 have H2:=zh hcell; clear hcell
 have H3:=zh hop; clear hop
 have HK:=zh hkids; clear hkids
 have hmk:=fun W => zif N (by omega) W
 go_enter Tryz.func98,Tryz.ntmps98
 go_wp2
 go_loopg [14] N (fun gk v wr => ∃ k:Nat,k <= N /\ gk = N - k /\ v = .int .i64 k /\ Below w.heap.size w wr /\ Row wr w.heap.size 3 (outc N (csts n (f.take k))))
 case atStart =>
  exact ⟨0,Nat.zero_le _,rfl,rfl,by go_grown,by rw [zoo]; exact Row.new w _ _⟩
 case round =>
  obtain ⟨k,hk,rfl,rfl,hbe,hout⟩:=hrel
  by_cases hlt:k < N
  ·obtain ⟨m,hm⟩:∃ m,f[k]? = some m:=⟨f[k]'(by rw [<- H1.out]; exact hlt),List.getElem?_eq_getElem _⟩
   obtain ⟨b,o,rfl,hb,hcell⟩:=H2.out (by omega)
   obtain ⟨c0,c1,c2,c3,c4⟩:=hcell k m hm
   clear hcell
   obtain ⟨m1,m2⟩:=H3.out m (List.mem_of_getElem? hm)
   rw [<- hbe.cell (p:=⟨b,_,none⟩) hb] at c0 c1 c2 c3 c4
   have hz:w.heap.size < wr.heap.size:=hout.lt
   have hb':b < wr.heap.size:=by omega
   have hsl:(csts n (f.take k)).length = k:=by rw [ztc,List.length_take,<- H1.out]; omega
   have hst:=zua n f k m hm
   have hbd:∀ j,j < k -> 1 <= (csts n (f.take k)).getD j 0 /\ (csts n (f.take k)).getD j 0 <= 1073741824:=fun j hj => csts_bd n (f.take k) j (by rw [List.length_take,<- H1.out]; omega)
   obtain ⟨ka,kb⟩:=HK.out k m hm
   have hcn:zsc n (csts n (f.take k)) m = min (zsj n m.op ((csts n (f.take k)).getD m.a.toNat 0) ((csts n (f.take k)).getD m.b.toNat 0)) 1073741824:=rfl
   have o0:∀ j,j < N -> wr.cell? ⟨w.heap.size,j,none⟩ = some (.int .i64 ((csts n (f.take k)).getD j 0:Nat)):=fun j hj => (hout.cell j).trans (zf4 _ _ _ hj (by rw [hsl]; omega))
   have o1:=hout.free
   have DV:Hid (∀ (W:World) (u:Int),Row W w.heap.size 3 (outc N (csts n (f.take k))) -> u = (zsc n (csts n (f.take k)) m:Nat) -> Row (W.setCell ⟨w.heap.size,k,none⟩ (.int .i64 u)) w.heap.size 3 (outc N (csts n (f.take (k + 1))))):=by
    rintro W V hr rfl
    have h:=hr.set k (.int .i64 (zsc n (csts n (f.take k)) m:Nat))
    have e:=zq9 N (csts n (f.take k)) (zsc n (csts n (f.take k)) m) (by rw [hsl]; exact hlt)
    rw [hsl] at e
    rw [e] at h
    rw [hst]; exact h
   generalize csts n (f.take k) = L at *
   have ok:=o0 k hlt
   have HB:=zh hbe; clear hbe
   have HO:=zh hout; clear hout
   have HM:=zh hm; clear hm hst hsl
   generalize zsc n L m = V at *
   have HCN:=zh hcn; clear hcn
   have HBD:=zh hbd; clear hbd
   have HO0:=zh o0; clear o0
   obtain ⟨op,x,y,ma,mb⟩:=m
   simp only at c0 c1 c2 c3 c4 m1 m2 ka kb HCN
   have RND:Hid (∀ (W:World) (u:Int),Below w.heap.size w W -> Row W w.heap.size 3 (outc N L) -> u = (V:Nat) -> (Below w.heap.size w (W.setCell ⟨w.heap.size,k,none⟩ (.int .i64 u)) /\ Row (W.setCell ⟨w.heap.size,k,none⟩ (.int .i64 u)) w.heap.size 3 (outc N (csts n (f.take (k + 1)))))):=fun W u hb hr hu => ⟨hb.setCell (by simp) _,DV.out W u hr hu⟩
   by_cases h0:nc op = 0
   ·obtain ⟨q1,q2,q3,q4,q5,q6,q7⟩:=nc0_op h0
    have hV:(min 1 1073741824:Int) = (V:Nat):=by
     rw [HCN.out]
     simp only [beq_eq_false_iff_ne] at q1 q2 q3 q4 q5 q6 q7
     rw [zsj,if_neg q1,if_neg (by omega),if_neg (by omega),if_neg (by omega)]; rfl
    have HU:=zh hV; clear hV h0 ka kb
    go_wp2
    go_roundg (N - (k + 1))
    case rel =>
     have hh:=HB.out
     obtain ⟨r1,r2⟩:=RND.out wr _ hh HO.out HU.out
     have rs:=r1.size
     exact ⟨k + 1,by omega,rfl,by go_num,by go_grown,by first | exact r2.alloc _ | exact (r2.alloc _).drew⟩
    case measure => omega
   ·obtain ⟨ka1,ka2⟩:=ka h0
    obtain ⟨a,rfl⟩:=Int.eq_ofNat_of_zero_le ka1
    have hak:a < k:=by omega
    have oa:=HO0.out a (by omega)
    obtain ⟨av1,av2⟩:=HBD.out a hak
    simp only [Int.toNat_natCast] at HCN
    generalize L.getD a 0 = av at *
    clear ka ka1 ka2
    by_cases h2:op = 10 \/ op = 11
    ·obtain ⟨kb1,kb2⟩:=kb (by unfold nc; rw [if_pos h2])
     obtain ⟨b2,rfl⟩:=Int.eq_ofNat_of_zero_le kb1
     have hbk:b2 < k:=by omega
     have ob:=HO0.out b2 (by omega)
     obtain ⟨bv1,bv2⟩:=HBD.out b2 hbk
     simp only [Int.toNat_natCast] at HCN
     generalize L.getD b2 0 = bv at *
     clear kb kb1 kb2 h0
     have hV:min (1 + ((av:Int) + bv)) 1073741824 = ((V:Nat):Int):=by
      rw [HCN.out,zsj,if_neg (by omega),if_pos h2]; omega
     have HU:=zh hV; clear hV
     rcases h2 with rfl | rfl
     all_goals
      go_wp2
      first | go_region | fail
      go_wp2
      go_roundg (N - (k + 1))
      case rel =>
       have hh:=HB.out
       obtain ⟨r1,r2⟩:=RND.out wr _ hh HO.out HU.out
       have rs:=r1.size
       exact ⟨k + 1,by omega,rfl,by go_num,by go_grown,by first | exact r2.alloc _ | exact (r2.alloc _).drew⟩
      case measure => omega
    ·have h1:op = 9 \/ op = 12 \/ op = 13 \/ op = 14 \/ op = 15:=by
      have:nc op = 1:=by rcases zdz op with h | h | h; exact absurd h h0; exact h; exact absurd (nc2_op h) h2
      exact nc1_op this
     clear h0 h2 kb
     have h5:op = 9 \/ (op = 12 \/ op = 13) \/ (op = 14 \/ op = 15):=by omega
     clear h1
     rcases h5 with rfl | h1 | h1
     ·have hV:min (1 + (av:Int)) 1073741824 = ((V:Nat):Int):=by
       rw [HCN.out,zsj,if_pos rfl]; omega
      have HU:=zh hV; clear hV
      go_wp2
      go_roundg (N - (k + 1))
      case rel =>
       have hh:=HB.out
       obtain ⟨r1,r2⟩:=RND.out wr _ hh HO.out HU.out
       have rs:=r1.size
       exact ⟨k + 1,by omega,rfl,by go_num,by go_grown,by first | exact r2.alloc _ | exact (r2.alloc _).drew⟩
      case measure => omega
     ·by_cases h31:n < 31
      ·obtain ⟨E1,E2⟩:=zwt n av h31 av2
       have hV:min ((1 + min av (1073741824 / 2 ^ n + 1) * 2 ^ n:Nat):Int) 1073741824 = ((V:Nat):Int):=by
        have:=cap_mul (a:=av) (zuu h31).1 (zt8 h31)
        rw [HCN.out,zsj,if_neg (by omega),if_neg (by omega),if_pos h1]; omega
       obtain ⟨S,hS⟩:=zx (1 + min av (1073741824 / 2 ^ n + 1) * 2 ^ n)
       rw [<- hS] at E1 E2 hV
       have HE:=zh E1; have HU:=zh hV; clear hV E1 hS
       rcases h1 with rfl | rfl
       all_goals
        go_wp2_with (go_at_call 135; go_must (refine (len30 _).mono ?_; rintro e w' ⟨rfl,rfl⟩))
        first | go_region | fail
        rw [HE.out]
        go_wp2
        go_roundg (N - (k + 1))
        case rel =>
         have hh:=HB.out
         obtain ⟨r1,r2⟩:=RND.out wr _ hh HO.out HU.out
         have rs:=r1.size
         exact ⟨k + 1,by omega,rfl,by go_num,by go_grown,by first | exact r2.alloc _ | exact (r2.alloc _).drew⟩
        case measure => omega
      ·have hV:(min 1073741824 1073741824:Int) = ((V:Nat):Int):=by
        have h3:2 ^ 31 <= 2 ^ n:=Nat.pow_le_pow_right (by omega) (by omega)
        have h4:2 ^ n * 1 <= 2 ^ n * av:=Nat.mul_le_mul_left _ av1
        rw [HCN.out,zsj,if_neg (by omega),if_neg (by omega),if_pos h1]; omega
       have HU:=zh hV; clear hV
       have h31':(31:Int) <= n:=by omega
       rcases h1 with rfl | rfl
       all_goals
        go_wp2_with (go_at_call 135; go_must (refine (len30 _).mono ?_; rintro e w' ⟨rfl,rfl⟩))
        go_roundg (N - (k + 1))
        case rel =>
         have hh:=HB.out
         obtain ⟨r1,r2⟩:=RND.out wr _ hh HO.out HU.out
         have rs:=r1.size
         exact ⟨k + 1,by omega,rfl,by go_num,by go_grown,by first | exact r2.alloc _ | exact (r2.alloc _).drew⟩
        case measure => omega
     ·obtain ⟨q,hq⟩:=zx (n * av)
      have hq2:q <= 64 * 1073741824:=by rw [hq]; exact Nat.mul_le_mul hn av2
      have hq3:(n:Int) * (av:Int) = (q:Int):=by rw [hq]; simp
      have hV:min (1 + (q:Int)) 1073741824 = ((V:Nat):Int):=by
       rw [HCN.out,zsj,if_neg (by omega),if_neg (by omega),if_neg (by omega),if_pos h1,<- hq]; omega
      have HU:=zh hV; clear hV hq
      rcases h1 with rfl | rfl
      all_goals
       go_wp2
       go_roundg (N - (k + 1))
       case rel =>
        have hh:=HB.out
        obtain ⟨r1,r2⟩:=RND.out wr _ hh HO.out HU.out
        have rs:=r1.size
        exact ⟨k + 1,by omega,rfl,by go_num,by go_grown,by first | exact r2.alloc _ | exact (r2.alloc _).drew⟩
       case measure => omega
  ·go_wp2
   go_returns
   have:k = N:=by omega
   subst this
   rw [List.take_of_length_le (by rw [<- H1.out]; exact zn)] at hout
   exact ⟨rfl,hbe,hout⟩
def byV (x:Nat):Value:=.int .u8 x
def YS (w:World) (v:Value) (l:List Nat):Prop :=
 ∃ A c,v = .slice A l.length c /\ l.length <= c /\ c <= 9223372036854775807 /\
  (0 < l.length -> ∃ b o,A = some ⟨b,o,none⟩ /\ b < w.heap.size /\ ∀ i x,l[i]? = some x -> w.cell? ⟨b,o + i,none⟩ = some (byV x))
theorem zv8:(Tryz.prog.info? 5).map (fun i => (i.zero,i.size,i.bytes)) = some (some (.int .u8 0),1,1):=by kernel_rfl
def zsi (l:List Nat):List Value:=l.map (byV)
def YO (w:World) (B:Nat) (v:Value) (l:List Nat):Prop:=w.ownsRow B 5 1 v l.length (zsi l)
theorem YO.nil (w:World) (B:Nat):YO w B (.slice none 0 0) []:=World.ownsRow_nil _ _ _ _
theorem YO.ys {w:World} {B:Nat} {v:Value} {l:List Nat} (h:YO w B v l):YS w v l:=by
 have hx:=h
 rcases h.2 with ⟨hv,hn⟩ | ⟨g,cap,cur,hv,hB,hg,hnc,hcm,hcs,ht⟩
 ·exact ⟨none,0,by rw [hv,hn],by omega,by omega,by omega⟩
 ·refine ⟨some ⟨g,0,none⟩,cap,hv,hnc,by simpa [maxLen] using hcm,fun _ => ⟨g,0,rfl,lt_of_block hg,fun i x hi => ?_⟩⟩
  have hi':i < l.length:=(List.getElem?_eq_some_iff.1 hi).1
  unfold YO at hx
  rw [hv] at hx
  rw [Nat.zero_add,hx.cellAt _ (by omega)]
  simp [zsi,hi]
theorem YO.below {w w':World} {B B':Nat} {v:Value} {l:List Nat} (h:YO w B v l) (hb:Below B' w w') (hB:w.heap.size <= B'):YO w' B v l:=by
 obtain ⟨h1,h⟩:=h
 refine ⟨h1,?_⟩
 rcases h with h | ⟨g,cap,cur,hv,hBg,hg,r⟩
 ·exact .inl h
 ·exact .inr ⟨g,cap,cur,hv,hBg,(hb.block g (Nat.lt_of_lt_of_le (lt_of_block hg) hB)).trans hg,r⟩
theorem ztu (w:World) (B:Nat) (v:Value) (f:List Nat) (hown:YO w B v f) (x:Value) (g:List Nat) (hx:YS w x g) (ty:TypeId) (hl:f.length + g.length <= 1000000) (hB:B <= w.heap.size) :
  ∃ v' w',(Builtin.append_ #[95,95] ty #[v,x]).run Tryz.prog w = .ok v' w' /\ YO w' B v' (f ++ g) /\ w.grownBy w' v.ownBlock /\ (v'.ownBlock = v.ownBlock \/ v'.ownBlock = some w.heap.size):=by
 obtain ⟨i,hi,hz,h1,h2⟩:=info_parts zv8
 obtain ⟨A,c,rfl,hc,hc2,hcell⟩:=hx
 have hlen:(f ++ g).length = f.length + g.length:=by simp
 have h1c:∀ u ∈ zsi g,u.oneCell' = true:=by
  intro u hu
  simp only [zsi,List.mem_map] at hu
  obtain ⟨_,_,rfl⟩:=hu
  rfl
 by_cases hn:0 < g.length
 ·obtain ⟨b,o,rfl,hb,hm⟩:=hcell hn
  have hnews:∀ j u,(zsi g)[j]? = some u -> w.cell? ((⟨b,o,none⟩:Addr).add j) = some u:=by
   intro j u hu
   simp only [zsi,List.getElem?_map,Option.map_eq_some_iff] at hu
   obtain ⟨x,hx,rfl⟩:=hu
   have hadd:(⟨b,o,none⟩:Addr).add j = ⟨b,o + j,none⟩:=by
    unfold Addr.add
    by_cases hj0:j = 0
    ·subst hj0; simp
    ·rw [if_neg hj0]
   rw [hadd]; exact hm j x hx
  obtain ⟨v',w',hrun,h3,h4,_,h6⟩:=run_append_own_at (P:=Tryz.prog) w B 95 ty 5 i _ 1 1 Tryz.underlying95 hi hz h1 h2 rfl (by omega) v f.length (zsi f) hown
   ⟨b,o,none⟩ g.length c (zsi g) (by simp [zsi]) hnews h1c (by simp only [maxLen]; omega) (by omega) hB
  exact ⟨v',w',hrun,by unfold YO; rw [hlen,show zsi (f ++ g) = zsi f ++ zsi g by simp [zsi]]; exact h3,h4,h6⟩
 ·have hg0:g = []:=List.eq_nil_of_length_eq_zero (by omega)
  subst hg0
  simp only [List.append_nil]
  cases A with
  | none => exact ⟨v,w,zct w B _ ty _ i 1 Tryz.underlying95 hi v _ _ hown c,hown,World.grownBy.refl w _,.inl rfl⟩
  | some ad =>
   obtain ⟨v',w',hrun,h3,h4,_,h6⟩:=run_append_own_at (P:=Tryz.prog) w B 95 ty 5 i _ 1 1 Tryz.underlying95 hi hz h1 h2 rfl (by omega) v f.length (zsi f) hown
    ad 0 c [] (by simp) (by simp) (by simp) (by simp only [maxLen]; omega) (by omega) hB
   exact ⟨v',w',hrun,by unfold YO; simpa using h3,h4,h6⟩
theorem zt4 {o:Oper} {a:Act} {w:World} {K:Act -> World -> Prop} {Q:Exit -> Act -> World -> Prop} (s x:Operand)
  (ho:o.op = .call { callee:=.builtin .append,args:=#[s,x],argTypes:=#[95,95] })
  (B:Nat) (v:Value) (f:List Nat) (hs:a.eval s = v) (hown:YO w B v f) (y:Value) (g:List Nat) (hx:a.eval x = y) (hy:YS w y g) (hl:f.length + g.length <= 1000000) (hB:B <= w.heap.size)
  (h:∀ v' w',YO w' B v' (f ++ g) -> w.grownBy w' v.ownBlock -> (v'.ownBlock = v.ownBlock \/ v'.ownBlock = some w.heap.size) -> K (a.put o.dst v') w'):o.wp Tryz.prog a w K Q:=by
 obtain ⟨v',w',hrun,h2,h3,h4⟩:=ztu w B v f hown y g hy o.type hl hB
 unfold Oper.wp execOp
 simp only [ho,resolve,invoke,builtin,Sem.run_bind,Sem.run_pure,Result.andThen_ok,List.map_toArray,List.map_cons,List.map_nil,hs,hx,hrun]
 exact h v' w' h2 h3 h4
theorem zta {ops:Array Oper} {rest:List Oper} {o:Oper} {a:Act} {w:World} {Q:Exit -> Act -> World -> Prop} (hgd:o.guard = none) (s x:Operand)
  (ho:o.op = .call { callee:=.builtin .append,args:=#[s,x],argTypes:=#[95,95] })
  (B:Nat) (v:Value) (f:List Nat) (hs:a.eval s = v) (hown:YO w B v f) (y:Value) (g:List Nat) (hx:a.eval x = y) (hy:YS w y g) (hl:f.length + g.length <= 1000000) (hB:B <= w.heap.size)
  (h:∀ v' w',YO w' B v' (f ++ g) -> w.grownBy w' v.ownBlock -> (v'.ownBlock = v.ownBlock \/ v'.ownBlock = some w.heap.size) -> wpList Tryz.prog ops Q rest (a.put o.dst v') w'):wpList Tryz.prog ops Q (o :: rest) a w :=
 wpList_plain hgd fun _ hK => zt4 s x ho B v f hs hown y g hx hy hl hB fun v' w' h2 h3 h4 => hK _ _ (h v' w' h2 h3 h4)
theorem zui {w w1 w2:World} {B:Nat} {v:Value} {f:List Nat} (hb:Below B w w1) (ho:YO w1 B v f) (hg:w1.grownBy w2 v.ownBlock) (hB:B <= w1.heap.size):Below B w w2 :=
 hb.grown hg hB fun k hk => (World.ownsRow.lt ho k hk).1
theorem YS.lit {w:World} {g:Nat} {l:List Nat} (n c:Nat) (cs:Array Value) (h:Row w g 5 cs) (hn:n = l.length) (hc:n <= c) (hc2:c <= 9223372036854775807) (hcs:∀ (i:Nat) (x:Nat),l[i]? = some x -> cs[i]? = some (byV x)):YS w (.slice (some ⟨g,0,none⟩) n c) l:=by
 subst hn
 exact ⟨some ⟨g,0,none⟩,c,rfl,hc,hc2,fun _ => ⟨g,0,rfl,h.lt,fun i x hi => by rw [h.cell,Nat.zero_add]; exact hcs i x hi⟩⟩
def rowf (g:Nat -> Nat):Array Value:=#[.int .u64 (g 0),.int .u64 (g 1),.int .u64 (g 2),.int .u64 (g 3),.int .u64 (g 4),.int .u64 (g 5)]
theorem zwy (g:Nat -> Nat) (j:Nat) (hj:j < 6):(rowf g)[j]? = some (.int .u64 (g j)):=by
 have:j = 0 \/ j = 1 \/ j = 2 \/ j = 3 \/ j = 4 \/ j = 5:=by omega
 rcases this with rfl | rfl | rfl | rfl | rfl | rfl <;> rfl
theorem zwx (g:Nat -> Nat) (j s:Nat) (hj:j < 6):(rowf g).setIfInBounds j (.int .u64 s) = rowf (fun v => if v = j then s else g v):=by
 have:j = 0 \/ j = 1 \/ j = 2 \/ j = 3 \/ j = 4 \/ j = 5:=by omega
 rcases this with rfl | rfl | rfl | rfl | rfl | rfl <;> rfl
theorem ztm {g h:Nat -> Nat} (e:∀ v,v < 6 -> g v = h v):rowf g = rowf h:=by
 unfold rowf
 rw [e 0 (by omega),e 1 (by omega),e 2 (by omega),e 3 (by omega),e 4 (by omega),e 5 (by omega)]
theorem u8_bit (x j:Nat) (hx:x < 256):bits BinOp.and IntKind.u8 ((x:Int) / 2 ^ j) 1 = ((x / 2 ^ j % 2:Nat):Int):=by
 have h1:x / 2 ^ j < 256:=Nat.lt_of_le_of_lt (Nat.div_le_self _ _) hx
 have h:=u8_and_nat (x / 2 ^ j) 1 h1 (by omega)
 have e:((x / 2 ^ j:Nat):Int) = (x:Int) / 2 ^ j:=by simp [Int.natCast_ediv,Int.natCast_pow]
 rw [e] at h
 refine h.trans ?_
 rw [Nat.and_one_is_mod]
theorem shl_bit (b p:Nat) (hb:b <= 1) (hp:p < 64):IntKind.u64.wrap ((b:Int) * 2 ^ p) = ((b * 2 ^ p:Nat):Int):=by
 have h1:2 ^ p < 18446744073709551616:=Nat.lt_of_lt_of_le (Nat.pow_lt_pow_right (by omega) hp) (by omega)
 have h2:b * 2 ^ p <= 1 * 2 ^ p:=Nat.mul_le_mul_right _ hb
 have e:(b:Int) * 2 ^ p = ((b * 2 ^ p:Nat):Int):=by simp [Int.natCast_pow]
 rw [e,IntKind.wrap_u64]; omega
theorem zxb {l:List Nat} (hl:∀ x ∈ l,x < 256) {k x:Nat} (h:l[k]? = some x):x < 256:=hl x (List.mem_of_getElem? h)
theorem zut {R:Bool × Int} {b:Bool} {k:Int} (h:R = (b,k)):Ending.returned (.tuple #[.bool b,.int .i64 k]) = Ending.returned (.tuple #[.bool R.1,.int .i64 R.2]):=by rw [h]
theorem zve (t:List Lf) (A:Option Addr) (n c:Nat) (hn:n = t.length) (hk:KidsOk t) (hl:n <= 31) (f:List Mk) (v u:Value) (l:List Nat) (w:World) (hv:MS w v f) (hf:za4 f = true) (hu:YS w u l) (h256:∀ x ∈ l,x < 256) (hln:l.length = n) (hdb:DB w) (htv:TS w (.slice A n c) t) :
  Calls Tryz.prog 59 #[.iface 99 (.slice A n c),v,u] w fun e w' => e = .returned (.tuple #[.bool (evalS (zc1 t) f l).1,.int .i64 (evalS (zc1 t) f l).2]) /\ Below w.heap.size w w':=by
 obtain ⟨h64,ok,hs,he⟩:=zt5 hf
 have hkids:=kids_of hf
 have hp1:=(zff f hf).1
 have hce:=zxa hf n
 unfold costS at hce
 have hsg:Sg f 0 (zso f):=fun j hj => by rw [Nat.zero_add,<- he]
 have HV:=zh hv; have HU:=zh hu; have HDB:=zh hdb; have HTV:=zh htv; clear htv
 obtain ⟨_,Af,cf,rfl,hcf,hcf2,_⟩:=hv
 obtain ⟨Au,cu,rfl,hcu,hcu2,hcell⟩:=hu
 rw [hln] at HU hcu hcell ⊢
 obtain ⟨T,hT⟩:=zx (zso f)
 have hco:=zw9 n T
 obtain ⟨C,hC⟩:=zx (costT n T)
 obtain ⟨R,hR⟩:=zx (evalS (zc1 t) f l)
 rw [<- hR]
 rw [<- hC] at hco
 have hR2:R = if 65536 < C then (false,10) else (zb7 (zc1 t) T (zsu l),0):=by rw [hR,evalS,<- hT]; have e0:(zc1 t).n = n:=hn.symm; rw [e0]; rw [hC]; try rfl
 rw [<- hT] at ok hs hsg hce
 rw [<- hC] at hce
 obtain ⟨N,hN⟩:=zx f.length
 have HCO:=zh (fun W (hW:MS W (.slice Af f.length cf) f) => zwc f _ n (by omega) W hW h64 hkids)
 have hoc:=zf4 f.length (csts n f) (f.length - 1) (by omega) (by rw [ztc]; exact zn)
 rw [hce] at hoc
 have HHO:=zh (holds_T t A n c hn hk hl f (.slice Af f.length cf) h64 T 0 (f.length - 1))
 rw [<- hN] at HV hcf HCO hoc HHO hp1 h64 hs ⊢
 have HN:=zh hN; have HR:=zh hR2; have HOK:=zh ok; have HSG:=zh hsg; have HSZ:=zh hs; have HOC:=zh hoc; have HL:=zh hln; have HC2:=zh hcell; have H256:=zh h256
 have hc64:n <= 64:=by omega
 have hlast:((N:Int) - 1).toNat = N - 1:=by omega
 have hlc:((N - 1:Nat):Int) = (N:Int) - 1:=by omega
 clear hN hR hR2 ok hs hsg he hf hkids hce hoc hT hC hcell hln h256 hdb
 have HNT:=zh hn; clear hn
 have s1:=ztn; have s2:=zti
 rw [hlc] at HHO
 by_cases hbud:65536 < C
 ·have HRR:Hid (R = (false,10)):=by rw [Hid,HR.out,if_pos hbud]
  go_enter Tryz.func59,Tryz.ntmps59
  go_wp2_with (first
   | (go_at_call 218; go_must (refine (zsg A n c _).mono ?_; rintro e w1 ⟨rfl,rfl⟩))
   | (go_at_call 98; go_must ((with_reducible refine (HCO.out _ HV.out).mono ?_); rintro e w1 ⟨rfl,hb1,hr1⟩; have HB1:=zh hb1; have r1:=hr1.cell (N - 1); rw [HOC.out] at r1; have HR1:=zh hr1; clear hb1 hr1)))
  go_returns
  exact ⟨zut HRR.out,HB1.out⟩
 ·have HRR:Hid (R = (zb7 (zc1 t) T (zsu l),0)):=by rw [Hid,HR.out,if_neg hbud]
  have hbud':(C:Int) <= 65536:=by omega
  go_enter Tryz.func59,Tryz.ntmps59
  go_wp2_with (first
   | (go_at_call 218; go_must (refine (zsg A n c _).mono ?_; rintro e w1 ⟨rfl,rfl⟩))
   | (go_at_call 98; go_must ((with_reducible refine (HCO.out _ HV.out).mono ?_); rintro e w1 ⟨rfl,hb1,hr1⟩; have HB1:=zh hb1; have r1:=hr1.cell (N - 1); rw [HOC.out] at r1; have HR1:=zh hr1; clear hb1 hr1)))
  go_loopg [26] n (fun gk v wr => ∃ k:Nat,k <= n /\ gk = n - k /\ v = .int .i64 k /\ Row wr w1.heap.size 154 (rowf (zlt (l.take k))) /\ Below w.heap.size w wr)
  case atStart => exact ⟨0,Nat.zero_le _,rfl,rfl,by rw [List.take_zero,ztm (h:=fun _ => 0) (fun v _ => by simp [zlt])]; exact Row.new _ _ _,by have h1:=HB1.out; have h2:=h1.size; go_grown⟩
  case round =>
   obtain ⟨k,hk,rfl,rfl,hra,hbe⟩:=hrel
   clear r1 HR1
   have RA:=zh hra; have HB:=zh hbe; clear hra hbe
   by_cases hlt:k < n
   ·obtain ⟨x,hx⟩:∃ x,l[k]? = some x:=⟨l[k]'(by have:=HL.out; omega),List.getElem?_eq_getElem _⟩
    have hx256:=zxb H256.out hx
    obtain ⟨bu,ou,rfl,hbu,hcu3⟩:=HC2.out (by have:=HL.out; omega)
    have c0:wr.cell? ⟨bu,ou + k,none⟩ = some (.int .u8 x):=(HB.out.cell (p:=⟨bu,_,none⟩) hbu).trans (hcu3 k x hx)
    have hsn:∀ v,zlt (l.take (k + 1)) v = zlt (l.take k) v + x / 2 ^ v % 2 * 2 ^ k:=fun v => by
     rw [List.take_add_one,hx,Option.toList_some,zsw,List.length_take,HL.out,Nat.min_eq_left (by omega)]
    have hgl:∀ v,zlt (l.take k) v < 2 ^ k:=fun v => by
     have:=zs1 (l.take k) v
     rwa [List.length_take,HL.out,Nat.min_eq_left (by omega)] at this
    have HS:=zh hsn; have HG:=zh hgl
    clear hcu3 hx hsn hgl
    obtain ⟨wo,rfl⟩:∃ wo:World,wo = wr:=⟨_,rfl⟩
    go_wp2
    go_loopg [31] 6 (fun gk v wr => ∃ (j:Nat) (g:Nat -> Nat),j <= 6 /\ gk = 6 - j /\ v = .int .i64 j /\ (∀ v,v < 6 -> g v = if v < j then zlt (l.take (k + 1)) v else zlt (l.take k) v) /\ Row wr w1.heap.size 154 (rowf g) /\ Below w.heap.size w wr)
    case atStart => exact ⟨0,zlt (l.take k),by omega,rfl,rfl,fun v _ => by simp,RA.out,HB.out⟩
    case round =>
     obtain ⟨j,g,hj,rfl,rfl,hg,hra,hbe⟩:=hrel
     have HGG:=zh hg; clear hg
     have RA2:=zh hra; have HB2:=zh hbe
     clear hbe c0
     by_cases hlt2:j < 6
     ·have a0:=(hra.cell j).trans (zwy g j hlt2)
      have a1:=hra.lt; have a2:=hra.free
      have hgj:g j = zlt (l.take k) j:=by have:=HGG.out j hlt2; rwa [if_neg (by omega)] at this
      have hgj2:g j < 2 ^ k:=by rw [hgj]; exact HG.out j
      obtain ⟨bt,hbt⟩:=zx (x / 2 ^ j % 2)
      have hbt1:bt <= 1:=by omega
      have e1:=u8_bit x j hx256
      rw [<- hbt] at e1
      have e2:=shl_bit bt k hbt1 (by omega)
      have hk64:2 ^ k < 18446744073709551616:=Nat.lt_of_lt_of_le (Nat.pow_lt_pow_right (by omega) (show k < 64 by omega)) (by omega)
      have hbm:bt * 2 ^ k <= 1 * 2 ^ k:=Nat.mul_le_mul_right _ hbt1
      have e3:=bits_or_u64_nat (g j) (bt * 2 ^ k) (by omega) (by omega)
      rw [or_bit _ _ _ hgj2] at e3
      have HV2:Hid (g j + bt * 2 ^ k = zlt (l.take (k + 1)) j):=by rw [Hid,HS.out,hgj,hbt]
      obtain ⟨s,hs⟩:=zx (bt * 2 ^ k)
      rw [<- hs] at e2 e3 HV2
      have HBT:=zh hbt
      clear hbt hs hgj hgj2 hk64 hbm hra
      go_wp2
      first | go_region | fail
      go_wp2
      go_roundg (6 - (j + 1))
      case rel =>
       have h1:=HB2.out
       have h2:=HB1.out.size
       refine ⟨j + 1,fun v => if v = j then g j + s else g v,by omega,rfl,by go_num,fun v hv => ?_,?_,by go_grown⟩
       ·show (if v = j then g j + s else g v) = _
        by_cases hvj:v = j
        ·rw [if_pos hvj,if_pos (by omega),HV2.out,hvj]
        ·rw [if_neg hvj,HGG.out v hv]
         by_cases hv2:v < j
         ·rw [if_pos hv2,if_pos (by omega)]
         ·rw [if_neg hv2,if_neg (by omega)]
       ·rw [<- zwx g j _ hlt2]
        first | exact RA2.out.set j _ | exact (RA2.out.set j _).drew
      case measure => omega
     ·have hj6:j = 6:=by omega
      have hfin:rowf g = rowf (zlt (l.take (k + 1))):=ztm fun v hv => by rw [HGG.out v hv,if_pos (by omega)]
      rw [hfin] at hra
      replace RA2:=zh hra
      clear hfin hra
      go_wp2
      go_roundg (n - (k + 1))
      case rel => exact ⟨k + 1,by omega,rfl,by go_num,RA2.out,HB2.out⟩
      case measure => omega
   ·have hkn:l.take k = l:=by rw [List.take_of_length_le]; have:=HL.out; omega
    have hra:=RA.out
    rw [hkn] at hra
    have a0:=hra.cell
    have ac0:=a0 0; have ac1:=a0 1; have ac2:=a0 2; have ac3:=a0 3; have ac4:=a0 4; have ac5:=a0 5
    simp only [rowf,List.getElem?_toArray,List.getElem?_cons_zero,List.getElem?_cons_succ] at ac0 ac1 ac2 ac3 ac4 ac5
    have hbd:Hid (∀ u ∈ [zlt l 0,zlt l 1,zlt l 2,zlt l 3,zlt l 4,zlt l 5],u < 2 ^ n):=fun u hu => by
     have h:=fun v => zs1 l v
     rw [HL.out] at h
     simp only [List.mem_cons,List.not_mem_nil,or_false] at hu
     rcases hu with rfl | rfl | rfl | rfl | rfl | rfl <;> exact h _
    have HRG:Hid (R = (zb7 (zc1 t) T [zlt l 0,zlt l 1,zlt l 2,zlt l 3,zlt l 4,zlt l 5],0)):=HRR.out
    clear a0 hra hkn
    generalize zlt l 0 = g0 at *
    generalize zlt l 1 = g1 at *
    generalize zlt l 2 = g2 at *
    generalize zlt l 3 = g3 at *
    generalize zlt l 4 = g4 at *
    generalize zlt l 5 = g5 at *
    go_wp2_with (go_at_call 99; go_must ((with_reducible refine (HHO.out g0 g1 g2 g3 g4 g5 _ HOK.out HSG.out (by have:=HSZ.out; omega) (HV.out.below HB.out zn) (HDB.out.below HB.out zn) hbd.out (HTV.out.below HB.out zn)).mono ?_); rintro e w2 ⟨rfl,hb2⟩; replace HB:=zh (HB.out.trans (hb2.mono HB.out.size)); clear hb2))
    go_returns
    exact ⟨zut HRG.out,HB.out⟩
def failsP (s:List UInt8) (p k:Int):Prop:=(zcy s).1 = [] /\ ((zcy s).2.1:Int) = p /\ (zcy s).2.2 = k
instance (s:List UInt8) (p k:Int):Decidable (failsP s p k):=by unfold failsP; exact inferInstance
theorem zvu {R:Bool × Int} {b:Bool} {k:Int} (h:R = (b,k)):Ending.returned (.tuple #[.bool b,.int .i64 k]) = Ending.returned (.tuple #[.bool R.1,.int .i64 R.2]):=by rw [h]
theorem zwm (f:List Mk) (v u:Value) (vars:Int) (t:List Lf) (w:World) (hv:MS w v f) (hu:TS w u t) (hdb:DB w) :
  Calls Tryz.prog 25 #[v,.int .i64 vars,u] w fun e w' => e = .returned (.tuple #[.bool (zc2 f vars t).1,.int .i64 (zc2 f vars t).2]) /\ Below w.heap.size w w':=by
 have HV:=zh hv; have HU:=zh hu; have HDB:=zh hdb
 obtain ⟨_,Af,cf,rfl,hcf,hcf2,_⟩:=hv
 obtain ⟨hop,Au,cu,rfl,hcu,hcu2,hcell⟩:=hu
 obtain ⟨R,hR⟩:=zx (zc2 f vars t)
 rw [<- hR]
 unfold zc2 at hR
 obtain ⟨K,hK⟩:=zx (zai f vars true)
 obtain ⟨J,hJ⟩:=zx (zsf t vars)
 have hCK:=fun W (hW:MS W (.slice Af f.length cf) f) => zj3 f _ vars true W hW
 have hCT:=fun W (hW:TS W (.slice Au t.length cu) t) => zs4 t _ vars W hW
 rw [<- hK,<- hJ] at hR
 rw [<- hK] at hCK
 rw [<- hJ] at hCT
 have hform:K = 0 -> za4 f = true:=fun h => by rw [hK] at h; exact zdw h
 have htree:J = 0 -> t.length <= 31 /\ KidsOk t /\ (∀ x ∈ t,x.label < 256):=fun h => by
  rw [hJ] at h
  unfold zsf at h
  by_cases a1:vars < 0 \/ 3 < vars
  ·rw [if_pos a1] at h; omega
  ·by_cases a2:31 < t.length
   ·rw [if_neg a1,if_pos a2] at h; omega
   ·by_cases a3:t.any (zse vars) = true
    ·rw [if_neg a1,if_neg a2,if_pos a3] at h; omega
    ·by_cases a4:zae t = true
     ·exact ⟨by omega,kids_ok a4,fun x hx => by have:=(hop x hx).2; omega⟩
     ·rw [if_neg a1,if_neg a2,if_neg a3,if_neg a4] at h; omega
 obtain ⟨n,hn⟩:=zx t.length
 rw [<- hn] at hcu hcell HU htree hCT ⊢
 have HCK:=zh hCK; have HCT:=zh hCT; have HF:=zh hform; have HTR:=zh htree; have HN:=zh hn; have HR:=zh hR; have HC2:=zh hcell; have HOP:=zh hop
 clear hR hK hJ hCK hCT hform htree hn hcell hop hdb
 by_cases hk0:K = 0
 ·subst hk0
  have HFO:=zh (HF.out rfl)
  by_cases hj0:J = 0
  ·subst hj0
   obtain ⟨h31,hkids,hlab⟩:=HTR.out rfl
   have HRR:Hid (R = evalS (zc1 t) f (zsb t)):=by rw [Hid,HR.out]; rfl
   have HK:=zh hkids; have HLB:=zh hlab; clear hkids hlab
   go_enter Tryz.func25,Tryz.ntmps25
   go_wp2_with (first
    | (go_at_call 29; go_must ((with_reducible refine (HCK.out _ HV.out).mono ?_); rintro e w1 ⟨rfl,hb1⟩; have HB:=zh hb1; clear hb1))
    | (go_at_call 58; go_must ((with_reducible refine (HCT.out _ (HU.out.below HB.out zn)).mono ?_); rintro e w1 ⟨rfl,hb1⟩; replace HB:=zh (HB.out.trans (hb1.mono HB.out.size)); clear hb1)))
   go_loopg [10,27] n (fun gk q v wr => ∃ k:Nat,k <= n /\ gk = n - k /\ v = .int .i64 k /\ Below w.heap.size w wr /\ YO wr w.heap.size q (zsb (t.take k)))
   case atStart => exact ⟨0,Nat.zero_le _,rfl,rfl,HB.out,YO.nil _ _⟩
   case round =>
    obtain ⟨k,hk,rfl,rfl,hbe,hown⟩:=hrel
    replace HB:=zh hbe; have HO:=zh hown; clear hbe hown
    by_cases hlt:k < n
    ·obtain ⟨x,hx⟩:∃ x,t[k]? = some x:=⟨t[k]'(by rw [<- HN.out]; exact hlt),List.getElem?_eq_getElem _⟩
     obtain ⟨b,o,rfl,hb,hcell⟩:=HC2.out (by omega)
     obtain ⟨c0,c1,c2⟩:=hcell k x hx
     rw [<- HB.out.cell (p:=⟨b,_,none⟩) hb] at c0 c1 c2
     have hlx:=HOP.out x (List.mem_of_getElem? hx)
     have hb':b < wr.heap.size:=by have:=HB.out.size; omega
     have htk:Hid (zsb (t.take (k + 1)) = zsb (t.take k) ++ [x.label.toNat]):=by
      rw [Hid,List.take_add_one,hx]; simp [zsb]
     obtain ⟨lb,l,r⟩:=x
     simp only at c0 c1 c2 htk hlx
     obtain ⟨m,rfl⟩:∃ m:Nat,lb = m:=⟨lb.toNat,by omega⟩
     simp only [Int.toNat_natCast] at htk
     have hll:(zsb (t.take k)).length <= 100:=by simp [zsb]; omega
     clear hcell hx
     go_wp2_with (at_builtin; go_must (refine zta rfl (.tmp 31) (.tmp 34) rfl w.heap.size u10 (zsb (t.take k)) rfl (HO.out.below (B':=wr.heap.size) (by go_grown) zn) _ [m] rfl (YS.lit 1 1 #[.int .u8 m] (by first | exact Row.new _ _ _ | exact Row.lit (by simp only [World.size_alloc])) rfl (by omega) (by omega) (by intro i y hy; cases i with | zero => (simp at hy; subst hy; rfl) | succ i => simp at hy)) (by simp only [List.length_cons,List.length_nil]; omega) (by have:=HB.out.size; simp only [World.size_alloc]; omega) ?_; intro v3 w3 ho3 hg3 _))
     have HB3:=zh (zui (w:=w) (by have h1:=HB.out; have h2:=h1.size; go_grown) (HO.out.below (B':=wr.heap.size) (by go_grown) zn) hg3 (by have:=HB.out.size; simp only [World.size_alloc]; omega))
     rw [<- htk.out] at ho3
     have HO3:=zh ho3; clear ho3 hg3
     go_wp2
     go_roundg (n - (k + 1))
     case rel => exact ⟨k + 1,by omega,rfl,by go_num,HB3.out,HO3.out⟩
     case measure => omega
    ·have hkn:k = n:=by omega
     have ho:=HO.out
     rw [hkn,List.take_of_length_le (by rw [<- HN.out]; exact zn)] at ho
     have HY:=zh ho.ys
     have hl256:Hid (∀ x ∈ zsb t,x < 256):=fun x hx => by
      simp only [zsb,List.mem_map] at hx
      obtain ⟨y,hy,rfl⟩:=hx
      have h1:=(HOP.out y hy); omega
     have hlen:Hid ((zsb t).length = n):=by rw [Hid,HN.out]; simp [zsb]
     clear ho hkn
     go_wp2_with (go_at_call 59; go_must ((with_reducible refine (zve t Au n cu HN.out HK.out (by omega) f _ _ (zsb t) _ (HV.out.below HB.out zn) HFO.out HY.out hl256.out hlen.out (HDB.out.below HB.out zn) (HU.out.below HB.out zn)).mono ?_); rintro e w2 ⟨he,hb2⟩; obtain rfl:e = .returned (.tuple #[.bool R.1,.int .i64 R.2]):=he.trans (by rw [HRR.out]); replace HB:=zh (HB.out.trans (hb2.mono HB.out.size)); clear hb2 he))
     go_returns
     exact ⟨rfl,HB.out⟩
  ·have HRR:Hid (R = (false,J)):=by rw [Hid,HR.out]; simp [hj0]
   have hj0':(J != 0) = true:=by simp [hj0]
   go_enter Tryz.func25,Tryz.ntmps25
   go_wp2_with (first
    | (go_at_call 29; go_must ((with_reducible refine (HCK.out _ HV.out).mono ?_); rintro e w1 ⟨rfl,hb1⟩; have HB:=zh hb1; clear hb1))
    | (go_at_call 58; go_must ((with_reducible refine (HCT.out _ (HU.out.below HB.out zn)).mono ?_); rintro e w1 ⟨rfl,hb1⟩; replace HB:=zh (HB.out.trans (hb1.mono HB.out.size)); clear hb1)))
   go_returns
   exact ⟨zvu HRR.out,HB.out⟩
 ·have HRR:Hid (R = (false,K)):=by rw [Hid,HR.out,if_pos hk0]
  have hk0':(K != 0) = true:=by simp [hk0]
  go_enter Tryz.func25,Tryz.ntmps25
  go_wp2_with (go_at_call 29; go_must ((with_reducible refine (HCK.out _ HV.out).mono ?_); rintro e w1 ⟨rfl,hb1⟩; have HB:=zh hb1; clear hb1))
  go_returns
  exact ⟨zvu HRR.out,HB.out⟩
theorem zwn {w W:World} (h:Below w.drew.heap.size w.drew W):Below w.heap.size w W:=⟨h.os,h.tape,h.output,h.size,h.block⟩
theorem drewW {w:World}:Hid (Below w.heap.size w w.drew):=(⟨rfl,rfl,rfl,zn,fun _ _ => rfl⟩:Below w.heap.size w w.drew)
theorem zt7 {α:Type} (f:List α) (n k:Nat) (hn:n = f.length):f.take (min (n:Int) (k:Int)).toNat = f.take k:=by
 by_cases h:n <= k
 ·rw [List.take_of_length_le (by omega),List.take_of_length_le (by omega)]
 ·rw [show (min (n:Int) (k:Int)).toNat = k by omega]
theorem zuz {w a b c:World} (h:Below w.heap.size w a) (h1:Below a.heap.size a b) (h2:Below b.heap.size b c):Below w.heap.size w c:=h.trans ((h1.trans (h2.mono h1.size)).mono h.size)
theorem few21W (f:List Mk) (v:Value) (w:World) (hv:MS w v f):Calls Tryz.prog 9 #[v] w (RetMO w (f.take 12)):=by
 have HV:=zh hv
 obtain ⟨_,A,c,rfl,hc1,hc2,_⟩:=hv
 obtain ⟨n,hn⟩:=zx f.length
 rw [<- hn] at hc1 HV ⊢
 have hcp:=fun W (hW:MS W (.slice A n c) f) => zlu (f.take (min (n:Int) 12).toNat) _ W (hW.cut (min (n:Int) 12).toNat (by omega) A (fun _ => rfl)) (by rw [List.length_take]; omega)
 rw [show (12:Int) = ((12:Nat):Int) from rfl] at hcp
 rw [zt7 f n 12 hn] at hcp
 have HCP:=zh hcp; clear hcp hn
 go_enter Tryz.func9,Tryz.ntmps9
 go_wp2_with (go_at_call 10; go_must (refine (HCP.out _ HV.out).mono ?_; rintro e w1 ⟨v1,rfl,hb1,ho1⟩))
 go_returns
 exact ⟨v1,rfl,hb1,ho1⟩
end Go.Proofs.YthdabkmkgkkmcaaGreatDoor
