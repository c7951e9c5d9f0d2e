/- Part 34 of the proof; it says: lemmas and contracts. No conditions but those that each theorem states. -/
import Derived.Deep.RegionWith
import Derived.Test.YthdabkmkgkkmcaaGreatDoorPb01
import Derived.Test.YthdabkmkgkkmcaaGreatDoorPb20
import Derived.Test.YthdabkmkgkkmcaaGreatDoorPb25
import Derived.Test.YthdabkmkgkkmcaaGreatDoorPb31
import Derived.Test.YthdabkmkgkkmcaaGreatDoorPb33
set_option linter.unusedSimpArgs false
set_option linter.unusedVariables false
set_option maxRecDepth 100000
set_option maxHeartbeats 32000000
namespace Go.Proofs.YthdabkmkgkkmcaaGreatDoor
open Go.RowKit
theorem zcv (S:Option (List Dta)) (F G:Dta -> Option Dta):topC (topC S F) G = topC S fun d => (F d).bind G:=by
 cases S with
 | none => rfl
 | some s =>
  cases s with
  | nil => rfl
  | cons d r =>
   show topC ((F d).map (· :: r)) G = ((F d).bind G).map (· :: r)
   cases F d <;> rfl
theorem OkS.top {V k:Nat} {S:Option (List Dta)} (h:OkS V k S) {F:Dta -> Option Dta} (hF:∀ d e,d.Fit V -> F d = some e -> e.Fit V):OkS V k (topC S F):=by
 cases S with
 | none => exact ⟨fun s e => (by cases e),fun s e => (by cases e)⟩
 | some s =>
  have hl:=h.len s rfl
  have hf:=h.fit s rfl
  cases s with
  | nil => exact ⟨fun s e => (by cases e),fun s e => (by cases e)⟩
  | cons d r =>
   have e:topC (some (d :: r)) F = (F d).map (· :: r):=rfl
   rw [e]
   cases hd:F d with
   | none => exact ⟨fun s e => (by cases e),fun s e => (by cases e)⟩
   | some d' =>
    refine ⟨fun s e => ?_,fun s e => ?_⟩
    ·cases e; simpa using hl
    ·cases e
     intro x hx
     rcases List.mem_cons.1 hx with rfl | hx
     ·exact hF d x (hf d (by simp)) hd
     ·exact hf x (by simp [hx])
def bindC (V M:Nat) (x:Int) (neg sg:Bool) (d:Dta):Option Dta :=
 ((if sg then opC (fun p q => p && q) (if neg then d.notM else d) (singC x V) else some (if neg then d.notM else d)).bind (exC x.toNat M)).map fun e => if neg then e.notM else e
theorem zfz (V M:Nat) (op x:Int) (h:12 <= op /\ op <= 15):unC V M op x = bindC V M x (decide (op = 13 \/ op = 15)) (decide (14 <= op)):=by
 funext d
 obtain ⟨h1,h2⟩:=h
 have:op = 12 \/ op = 13 \/ op = 14 \/ op = 15:=by omega
 rcases this with rfl | rfl | rfl | rfl
 ·simp [unC,bindC]
 ·simp [unC,bindC]
 ·simp [unC,bindC]
 ·simp [unC,bindC]
theorem OkS.push {V k:Nat} {S:Option (List Dta)} (h:OkS V k S) (hl:∀ s,S = some s -> s.length <= 899) {c:Dta} (hc:c.Fit V):OkS V (k + 1) (S.bind fun s => (some c).map (· :: s)):=by
 cases S with
 | none => exact ⟨fun s e => (by cases e),fun s e => (by cases e)⟩
 | some s =>
  refine ⟨fun s' e => ?_,fun s' e => ?_⟩
  ·cases e; have:=h.len s rfl; have:=hl s rfl; simp; omega
  ·cases e
   intro x hx
   rcases List.mem_cons.1 hx with rfl | hx
   ·exact hc
   ·exact h.fit s rfl x hx
theorem zme (S:Option (List Dta)) (c:Dta) (F:Dta -> Dta -> Option Dta) (h:∀ s,S = some s -> 1 <= s.length):topC2 (S.bind fun s => (some c).map (· :: s)) F = topC S fun a => F a c:=by
 cases S with
 | none => rfl
 | some s =>
  cases s with
  | nil => have:=h _ rfl; simp at this
  | cons a r => rfl
theorem topC_len {S:Option (List Dta)} {F:Dta -> Option Dta} {n:Nat} (h:∀ s,S = some s -> s.length <= n):∀ s,topC S F = some s -> s.length <= n:=by
 intro s e
 cases S with
 | none => cases e
 | some t =>
  cases t with
  | nil => cases e
  | cons d r =>
   have e2:(F d).map (· :: r) = some s:=e
   obtain ⟨x,_,rfl⟩:=Option.map_eq_some_iff.1 e2
   exact h (d :: r) rfl
theorem zl5 (V M x:Nat) (S:Option (List Dta)):topC S (bindC V M x false false) = topC S (exC x M):=by
 refine congrArg (topC S) (funext fun d => ?_)
 simp only [bindC,Bool.false_eq_true,if_false,Option.bind_some,Int.toNat_natCast]
 cases exC x M d <;> rfl
theorem zl4 (V M x:Nat) (S:Option (List Dta)):topC S (bindC V M x false true) = topC (topC S fun a => opC (fun p q => p && q) a (singC x V)) (exC x M):=by
 rw [zcv]
 refine congrArg (topC S) (funext fun d => ?_)
 simp only [bindC,Bool.false_eq_true,if_false,if_true,Int.toNat_natCast]
 generalize opC (fun p q => p && q) d (singC x V) = o
 cases o with
 | none => rfl
 | some a => simp only [Option.bind_some]; cases exC x M a <;> rfl
theorem zl3 (V M x:Nat) (S:Option (List Dta)):topC S (bindC V M x true false) = topC (topC (topC S fun d => some d.notM) (exC x M)) fun d => some d.notM:=by
 rw [zcv,zcv]
 refine congrArg (topC S) (funext fun d => ?_)
 simp only [bindC,Bool.false_eq_true,if_false,if_true,Int.toNat_natCast,Option.bind_some]
 cases exC x M d.notM <;> rfl
theorem zl2 (V M x:Nat) (S:Option (List Dta)):topC S (bindC V M x true true) = topC (topC (topC (topC S fun d => some d.notM) fun a => opC (fun p q => p && q) a (singC x V)) (exC x M)) fun d => some d.notM:=by
 rw [zcv,zcv,zcv]
 refine congrArg (topC S) (funext fun d => ?_)
 simp only [bindC,Bool.false_eq_true,if_false,if_true,Int.toNat_natCast,Option.bind_some]
 generalize opC (fun p q => p && q) d.notM (singC x V) = o
 cases o with
 | none => rfl
 | some a => simp only [Option.bind_some]; cases exC x M a <;> rfl
structure BdI (B gc V M:Nat) (w:World) (neg sg:Bool) (k:Nat) (S:Option (List Dta)) (W:World):Prop where
 c:CpT B gc V M V S W
 f:CpF B gc w W
 q:Row W w.heap.size 169 #[.bool neg,.bool sg]
 o:OkS V k S
 l:∀ s,S = some s -> s.length <= 898 + k
 n:w.heap.size ≠ gc
theorem BdI.below {B gc V M k:Nat} {w:World} {neg sg:Bool} {S:Option (List Dta)} {W W':World} (h:BdI B gc V M w neg sg k S W) (hb:Below W.heap.size W W'):BdI B gc V M w neg sg k S W' :=
 ⟨h.c.below hb,h.f.trans (CpF.of hb h.c.le),h.q.below hb h.q.lt,h.o,h.l,h.n⟩
theorem BdI.via {B gc V M k:Nat} {w:World} {neg sg:Bool} {S:Option (List Dta)} {W W' W2:World} (h:BdI B gc V M w neg sg k S W) (hb:Below W.heap.size W W') (hb2:Below W'.heap.size W' W2):BdI B gc V M w neg sg k S W2 /\ B <= W'.heap.size :=
 ⟨(h.below hb).below hb2,(h.below hb).c.le⟩
theorem BdI.next {B gc V M k k':Nat} {w:World} {neg sg:Bool} {S S':Option (List Dta)} {W W':World} (h:BdI B gc V M w neg sg k S W) (hf:CpF B gc W W') (hc:CpT B gc V M V S' W') (ho:OkS V k' S') (hl:∀ s,S' = some s -> s.length <= 898 + k'):BdI B gc V M w neg sg k' S' W' :=
 ⟨hc,h.f.trans hf,hf.rows _ _ _ (by decide) h.n h.q,ho,hl,h.n⟩
theorem BdI.not {B gc V M:Nat} {w:World} {neg sg:Bool} {S:Option (List Dta)} {W W':World} (h:BdI B gc V M w neg sg 1 S W) (hb:Below W.heap.size W W') :
  Calls Tryz.prog 115 #[.pointer (some ⟨gc,0,none⟩)] W' fun q w' => q = .returned (.tuple #[]) /\ BdI B gc V M w neg sg 1 (topC S fun d => some d.notM) w':=by
 have h2:=h.below hb
 refine (zou B gc V V M S h.o W' h2.c).mono ?_
 rintro q w' ⟨rfl,hf,hc⟩
 exact ⟨rfl,h2.next hf hc (h.o.top fun d e hd h => by cases h; exact zbt hd) (topC_len h.l)⟩
theorem BdI.keepS {B gc V M:Nat} {w:World} {neg sg:Bool} {S:Option (List Dta)} {W W':World} (h:BdI B gc V M w neg sg 1 S W) (hb:Below W.heap.size W W') {c:Dta} (hcf:c.Fit V) {i j:Int} {A1 A2:Option Addr} {n1 c1 n2 c2:Nat} (hr:TDO W B (.agg #[.int .i64 i,.int .i64 j,.slice A1 n1 c1,.slice A2 n2 c2]) (c.raw V)) :
  Calls Tryz.prog 71 #[.pointer (some ⟨gc,0,none⟩),.agg #[.int .i64 i,.int .i64 j,.slice A1 n1 c1,.slice A2 n2 c2],.int .i64 0] W' fun q w' => q = .returned (.tuple #[]) /\ BdI B gc V M w neg sg 2 (S.bind fun s => (some c).map (· :: s)) w':=by
 have h2:=h.below hb
 refine (zdf B gc V V M S (fun s e => by have:=h.l s e; omega) W' h2.c (some c) i j A1 A2 n1 c1 n2 c2 (hr.below hb zn) 0 rfl).mono ?_
 rintro q w' ⟨rfl,hf,hc⟩
 refine ⟨rfl,h2.next hf hc (h.o.push (fun s e => by have:=h.l s e; omega) hcf) fun s e => ?_⟩
 cases S with
 | none => cases e
 | some t => cases e; have:=h.l t rfl; simp; omega
theorem BdI.both {B gc V M:Nat} {w:World} {neg sg:Bool} {S:Option (List Dta)} {W W':World} {c:Dta} (h:BdI B gc V M w neg sg 2 (S.bind fun s => (some c).map (· :: s)) W) (hcf:c.Fit V) (h0:OkS V 1 S) (h1:∀ s,S = some s -> s.length <= 899) (hb:Below W.heap.size W W') :
  Calls Tryz.prog 75 #[.pointer (some ⟨gc,0,none⟩),.func (.func 22) #[] #[]] W' fun q w' => q = .returned (.tuple #[]) /\ BdI B gc V M w neg sg 1 (topC S fun a => opC (fun p q => p && q) a c) w':=by
 have h2:=h.below hb
 refine (zl1 B gc V V M _ h.o W' h2.c).mono ?_
 rintro q w' ⟨rfl,hf,hc⟩
 rw [zme S c _ fun s e => (h0.len s e).1] at hc
 exact ⟨rfl,h2.next hf hc (h0.top fun d e hd h => zbz hd hcf h) (topC_len h1)⟩
theorem BdI.pop {B gc V M:Nat} {w:World} {neg sg:Bool} {S:Option (List Dta)} {W W':World} (h:BdI B gc V M w neg sg 1 S W) (hb:Below W.heap.size W W') :
  Calls Tryz.prog 31 #[.pointer (some ⟨gc,0,none⟩)] W' fun q w' => ∃ i j A1 n1 c1 A2 n2 c2,q = .returned (.agg #[.int .i64 i,.int .i64 j,.slice A1 n1 c1,.slice A2 n2 c2]) /\ (∀ d s,S = some (d :: s) -> TDO w' B (.agg #[.int .i64 i,.int .i64 j,.slice A1 n1 c1,.slice A2 n2 c2]) (d.raw V)) /\ BdI B gc V M w neg sg 0 (S.map List.tail) w':=by
 have h2:=h.below hb
 refine (zcr B gc V V M S h.o.len W' h2.c).mono ?_
 rintro q w' ⟨i,j,A1,n1,c1,A2,n2,c2,rfl,ht,hf,hc⟩
 refine ⟨i,j,A1,n1,c1,A2,n2,c2,rfl,ht,h2.next hf.cpf hc ⟨fun s e => ?_,fun s e => ?_⟩ fun s e => ?_⟩
 all_goals
  obtain ⟨t,ht,rfl⟩:=Option.map_eq_some_iff.1 e
  have hl:=h.o.len t ht
 ·simp; omega
 ·exact fun d hd => h.o.fit t ht d (List.mem_of_mem_tail hd)
 ·have:=h.l t ht; simp; omega
theorem BdI.keepX {B gc V M:Nat} {w:World} {neg sg:Bool} {d:Dta} {s:List Dta} {W W':World} (h:BdI B gc V M w neg sg 0 ((some (d :: s)).map List.tail) W) (hd:d.Fit V) (hl:s.length <= 898) (hfs:∀ d ∈ s,d.Fit V) {x:Nat} (hx:x < V) (hM:M <= 64) (hb:Below W.heap.size W W') {i j:Int} {A1 A2:Option Addr} {n1 c1 n2 c2:Nat} (hr:TDO W B (.agg #[.int .i64 i,.int .i64 j,.slice A1 n1 c1,.slice A2 n2 c2]) (Res V (exC x M d)).1) :
  Calls Tryz.prog 71 #[.pointer (some ⟨gc,0,none⟩),.agg #[.int .i64 i,.int .i64 j,.slice A1 n1 c1,.slice A2 n2 c2],.int .i64 ((Res V (exC x M d)).2:Int)] W' fun q w' => q = .returned (.tuple #[]) /\ BdI B gc V M w neg sg 1 (topC (some (d :: s)) (exC x M)) w':=by
 have h2:=h.below hb
 refine (zdf B gc V V M (some s) (fun s' e => by cases e; omega) W' h2.c (exC x M d) i j A1 A2 n1 c1 n2 c2 (hr.below hb zn) _ rfl).mono ?_
 rintro q w' ⟨rfl,hf,hc⟩
 have ho:OkS V 1 (some (d :: s)):=⟨fun t e => (by cases e; simp; omega),fun t e => (by cases e; intro y hy; rcases List.mem_cons.1 hy with rfl | hy; exact hd; exact hfs y hy)⟩
 exact ⟨rfl,h2.next hf hc (ho.top fun d e hd h => zef hd hx hM h) (topC_len fun t e => by cases e; simp; omega)⟩
theorem zr3 (B gc V M:Nat) (hV:V <= 3) (hM1:1 <= M) (hM:M <= 64) (S0:Option (List Dta)) (hS:OkS V 1 S0) (hS9:∀ s,S0 = some s -> s.length <= 899) (w:World) (hc:CpT B gc V M V S0 w) (x:Nat) (hx:x < V) (neg sg:Bool) :
  Calls Tryz.prog 113 #[.pointer (some ⟨gc,0,none⟩),.int .i64 (x:Int),.agg #[.bool neg,.bool sg]] w fun q w' => q = .returned (.tuple #[]) /\ CpF B gc w w' /\ CpT B gc V M V (topC S0 (bindC V M x neg sg)) w':=by
 have hs:=zgl x hV
 have hgn:w.heap.size ≠ gc:=by obtain ⟨_,hr⟩:=hc.row; have:=hr.lt; omega
 have hat:∀ W,Calls Tryz.prog 72 #[.agg #[.int .u8 4,.int .i64 (x:Int),.int .i64 0,.int .i64 0,.int .i64 0],.int .i64 (V:Int)] W (RetD W ((singC x V).raw V)):=fun W => zqe 4 x 0 0 0 V hV (by omega) (by omega) (by omega) (by omega) W
 have hK:BdI B gc V M w neg sg 1 S0 (w.alloc (.cells #[.bool neg,.bool sg] 169)):=⟨hc.below (Below.alloc (Below.refl _ _) zn _),CpF.of (Below.alloc (Below.refl _ _) zn _) hc.le,Row.lit rfl,hS,hS9,hgn⟩
 have HS:=zh hs; have HAT:=zh hat; have HO0:=zh hS; have HL0:=zh hS9
 have hn1:OkS V 1 (topC S0 fun d => some d.notM):=hS.top fun d e hd h => by cases h; exact zbt hd
 have HO1:=zh hn1; have HL1:=zh (topC_len hS9:∀ s,topC S0 (fun d => some d.notM) = some s -> s.length <= 899)
 clear hs hat hS hS9 hc hn1
 cases neg <;> cases sg
 all_goals
  go_enter Tryz.func113,Tryz.ntmps113
  go_upto_region 2 with (fail)
  refine zaa (fun W => BdI B gc V M w _ _ 1 S0 W) hK ?_
  clear hK
  rintro W0 h0
  obtain ⟨stk,hr⟩:=h0.c.row; have y0:=hr.cell; have y2:=hr.lt; have q0:=h0.q.cell; have q2:=h0.q.lt; have HK:=zh h0; clear hr h0
  go_upto_region 7 with (first
   | (go_at_call 115; go_must (refine (HK.out.not (by go_grown)).mono ?_; rintro e w1 ⟨rfl,h1⟩; obtain ⟨stk1,hr⟩:=h1.c.row; have y0:=hr.cell; have y2:=hr.lt; have q0:=h1.q.cell; have q2:=h1.q.lt; have HK:=zh h1; clear hr h1))
   | (go_at_call 72; go_must (refine (HAT.out _).mono ?_; rintro e w2 ⟨A1,n1,c1,A2,n2,c2,rfl,hb,ht⟩; obtain ⟨h1,hle⟩:=HK.out.via (by go_grown) hb; have HT2:=zh (ht.mono hle); obtain ⟨stk2,hr⟩:=h1.c.row; have y0:=hr.cell; have y2:=hr.lt; have q0:=h1.q.cell; have q2:=h1.q.lt; have HK:=zh h1; clear hr h1 hb ht hle))
   | (go_at_call 71; go_must (refine (HK.out.keepS (by go_grown) HS.out HT2.out).mono ?_; rintro e w3 ⟨rfl,h1⟩; obtain ⟨stk3,hr⟩:=h1.c.row; have y0:=hr.cell; have y2:=hr.lt; have q0:=h1.q.cell; have q2:=h1.q.lt; have HK:=zh h1; clear hr h1))
   | (go_at_call 75; go_must (refine (HK.out.both HS.out (by first | exact HO0.out | exact HO1.out) (by first | exact HL0.out | exact HL1.out) (by go_grown)).mono ?_; rintro e w4 ⟨rfl,h1⟩; obtain ⟨stk4,hr⟩:=h1.c.row; have y0:=hr.cell; have y2:=hr.lt; have q0:=h1.q.cell; have q2:=h1.q.lt; have HK:=zh h1; clear hr h1)))
  obtain ⟨S',h1,he⟩:∃ S',BdI B gc V M w _ _ 1 S' _ /\ S' = _:=⟨_,HK.out,rfl⟩
  have HE:=zh he
  clear he HK
  have HK:=zh h1
  clear h1
  rcases S' with _ | _ | ⟨d,s⟩
  ·go_wp2_with (first
    | (go_at_call 31; go_must (refine (HK.out.pop (by go_grown)).mono ?_; rintro e w5 ⟨i,j,A1,n1,c1,A2,n2,c2,rfl,_,h1⟩; obtain ⟨stk5,hr⟩:=h1.c.row; have y0:=hr.cell; have y2:=hr.lt; have q0:=h1.q.cell; have q2:=h1.q.lt; have HK:=zh (show BdI B gc V M w _ _ 1 none w5 from ⟨h1.c,h1.f,h1.q,⟨fun s e => (by cases e),fun s e => (by cases e)⟩,fun s e => (by cases e),h1.n⟩); clear hr h1))
    | (go_at_call 115; go_must (refine (HK.out.not (by go_grown)).mono ?_; rintro e w7 ⟨rfl,h1⟩; obtain ⟨stk7,hr⟩:=h1.c.row; have y0:=hr.cell; have y2:=hr.lt; have q0:=h1.q.cell; have q2:=h1.q.lt; have HK:=zh h1; clear hr h1)))
   all_goals
    go_returns
    first | rw [zl2,<- HE.out] | rw [zl3,<- HE.out] | rw [zl4,<- HE.out] | rw [zl5,<- HE.out]
    refine ⟨rfl,?_,?_⟩
    ·exact (HK.out.below (by go_grown)).f
    ·exact (HK.out.below (by go_grown)).c
  ·exact absurd (HK.out.o.len [] rfl).1 (by simp)
  ·have hd:=HK.out.o.fit _ rfl d (by simp)
   have hfs:∀ d ∈ s,d.Fit V:=fun e he => HK.out.o.fit _ rfl e (by simp [he])
   have hls:=HK.out.l _ rfl
   have HD:=zh hd; have HFS:=zh hfs; have HLS:=zh (show s.length <= 898 by simp at hls; omega)
   clear hd hfs hls
   go_upto_region 9 with (go_at_call 31; go_must (refine (HK.out.pop (by go_grown)).mono ?_; rintro e w5 ⟨i,j,A1,n1,c1,A2,n2,c2,rfl,ht,h1⟩; obtain ⟨stk5,hr⟩:=h1.c.row; have y0:=hr.cell; have y2:=hr.lt; have q0:=h1.q.cell; have q2:=h1.q.lt; have HT:=zh (ht d s rfl).td; have HK:=zh h1; clear hr h1 ht))
   refine zaa (fun W => Row W w5.heap.size 30 #[.int .i64 i,.int .i64 j,.slice A1 n1 c1,.slice A2 n2 c2] /\ TD W (.agg #[.int .i64 i,.int .i64 j,.slice A1 n1 c1,.slice A2 n2 c2]) (d.raw V) /\ BdI B gc V M w _ _ 0 ((some (d :: s)).map List.tail) W) ⟨Row.lit rfl,HT.out.below (by go_grown) zn,HK.out.below (by go_grown)⟩ ?_
   clear HT HK y0 y2 q0 q2
   rintro W6 ⟨hr6,ht6,h1⟩
   have b0:=hr6.cell; obtain ⟨stk6,hr⟩:=h1.c.row; have y0:=hr.cell; have y2:=hr.lt; have q0:=h1.q.cell; have q2:=h1.q.lt; have HT:=zh ht6; have HK:=zh h1
   clear hr6 ht6 h1 hr
   have b1:W6.cell? ⟨gc,1,none⟩ = some (.int .i64 (M:Int)):=y0 1
   go_region_with (first
    | (go_at_call 140; refine (zpq d V x M HD.out hx hM1 hM _ _ (HT.out.below (by go_grown) zn)).mono ?_; intro e w6 hx6; rw [exR_res] at hx6; obtain ⟨v6,rfl,hb,ho⟩:=hx6; obtain ⟨B1,d1,B2,d2,rfl⟩:=ho.form; obtain ⟨h1,hle⟩:=HK.out.via (by go_grown) hb; have HT2:=zh (ho.mono hle); have b2:w6.cell? ⟨gc,1,none⟩ = some (.int .i64 (M:Int)):=(by obtain ⟨_,hr⟩:=h1.c.row; exact hr.cell 1); have HK:=zh h1; clear h1 hb ho hle)
    | (go_at_call 71; refine (HK.out.keepX HD.out HLS.out HFS.out hx hM (by go_grown) HT2.out).mono ?_; rintro e w7 ⟨rfl,h1⟩; obtain ⟨stk7,hr⟩:=h1.c.row; have y0:=hr.cell; have y2:=hr.lt; have q0:=h1.q.cell; have q2:=h1.q.lt; have b3:w7.cell? ⟨gc,1,none⟩ = some (.int .i64 (M:Int)):=y0 1; have HK:=zh h1; clear hr h1))
   all_goals
    go_wp2_with (go_at_call 115; go_must (refine (HK.out.not (by go_grown)).mono ?_; rintro e w8 ⟨rfl,h1⟩; obtain ⟨stk8,hr⟩:=h1.c.row; have y0:=hr.cell; have y2:=hr.lt; have q0:=h1.q.cell; have q2:=h1.q.lt; have HK:=zh h1; clear hr h1))
    go_returns
    first | rw [zl2,<- HE.out] | rw [zl3,<- HE.out] | rw [zl4,<- HE.out] | rw [zl5,<- HE.out]
    refine ⟨rfl,?_,?_⟩
    ·exact (HK.out.below (by go_grown)).f
    ·exact (HK.out.below (by go_grown)).c
abbrev pB (b:Nat):Value:=.pointer (some ⟨b,0,none⟩)
abbrev mV (m:Mk):Value:=.agg #[.int .u8 m.op,.int .i64 m.x,.int .i64 m.y,.int .i64 m.a,.int .i64 m.b]
theorem zf1 (b:Nat) (op:Int) (x y:Bool) (w:World) :
  Calls Tryz.prog 111 #[.int .u8 op,.agg #[.bool x,.bool y],pB b] w fun q w' => ∃ k,q = .returned (.agg #[.int .u8 op,.func (.func 112) #[] #[pB b,pB k]]) /\ Below w.heap.size w w' /\ w.heap.size <= k /\ Row w' k 169 #[.bool x,.bool y]:=by
 go_enter Tryz.func111,Tryz.ntmps111
 go_wp2
 go_returns
 exact ⟨w.heap.size,rfl,by go_grown,zn,(Row.new _ _ _).alloc _⟩
structure OpsI (gc:Nat) (w:World) (g b q1 q2 q3 q4:Nat) (W:World):Prop where
 below:Below w.heap.size w W
 rb:Row W b 64 #[pB gc]
 r1:Row W q1 169 #[.bool false,.bool false]
 r2:Row W q2 169 #[.bool true,.bool false]
 r3:Row W q3 169 #[.bool false,.bool true]
 r4:Row W q4 169 #[.bool true,.bool true]
 rg:Row W g 115 #[.int .u8 9,.func (.func 114) #[] #[pB b],.int .u8 10,.func (.func 116) #[] #[pB b],.int .u8 11,.func (.func 117) #[] #[pB b],
  .int .u8 12,.func (.func 112) #[] #[pB b,pB q1],.int .u8 13,.func (.func 112) #[] #[pB b,pB q2],.int .u8 14,.func (.func 112) #[] #[pB b,pB q3],.int .u8 15,.func (.func 112) #[] #[pB b,pB q4]]
theorem OpsI.next {gc:Nat} {w:World} {g b q1 q2 q3 q4:Nat} {W W':World} (h:OpsI gc w g b q1 q2 q3 q4 W) (hb:Below W.heap.size W W'):OpsI gc w g b q1 q2 q3 q4 W' :=
 ⟨h.below.trans (hb.mono h.below.size),h.rb.below hb h.rb.lt,h.r1.below hb h.r1.lt,h.r2.below hb h.r2.lt,h.r3.below hb h.r3.lt,h.r4.below hb h.r4.lt,h.rg.below hb h.rg.lt⟩
theorem zjf (gc:Nat) (w:World) :
  Calls Tryz.prog 70 #[pB gc] w fun q w' => ∃ g b q1 q2 q3 q4,q = .returned (.slice (some ⟨g,0,none⟩) 7 7) /\ OpsI gc w g b q1 q2 q3 q4 w':=by
 go_enter Tryz.func70,Tryz.ntmps70
 go_upto_region 2 with (fail)
 refine zaa (fun W => Below w.heap.size w W /\ Row W w.heap.size 64 #[pB gc]) ⟨by go_grown,Row.lit rfl⟩ ?_
 rintro W ⟨hb,hr⟩
 have HB:=zh hb; have HR:=zh hr
 clear hb hr
 go_wp2_with (first
  | (go_at_call 111; (with_reducible refine (zf1 _ 12 false false _).mono ?_); rintro e w1 ⟨k1,rfl,hb,hk,hr⟩; have HB1:=zh hb; have R1:=zh hr; clear hb hk hr)
  | (go_at_call 111; (with_reducible refine (zf1 _ 13 true false _).mono ?_); rintro e w2 ⟨k2,rfl,hb,hk,hr⟩; have HB2:=zh hb; have R2:=zh hr; clear hb hk hr)
  | (go_at_call 111; (with_reducible refine (zf1 _ 14 false true _).mono ?_); rintro e w3 ⟨k3,rfl,hb,hk,hr⟩; have HB3:=zh hb; have R3:=zh hr; clear hb hk hr)
  | (go_at_call 111; (with_reducible refine (zf1 _ 15 true true _).mono ?_); rintro e w4 ⟨k4,rfl,hb,hk,hr⟩; have HB4:=zh hb; have R4:=zh hr; clear hb hk hr))
 go_returns
 have b1:=HB1.out; have b2:=HB2.out; have b3:=HB3.out; have b4:=HB4.out
 have s1:=b1.size; have s2:=b2.size; have s3:=b3.size; have s4:=b4.size
 have l0:=HR.out.lt; have l1:=R1.out.lt; have l2:=R2.out.lt; have l3:=R3.out.lt
 have r0:=(((HR.out.below b1 l0).below b2 (by omega)).below b3 (by omega)).below b4 (by omega)
 have r1:=((R1.out.below b2 l1).below b3 (by omega)).below b4 (by omega)
 have r2:=(R2.out.below b3 l2).below b4 (by omega)
 have r3:=R3.out.below b4 l3
 have s0:=HB.out.size
 have bb:Below w.heap.size w w4:=(((HB.out.trans (b1.mono s0)).trans (b2.mono (by omega))).trans (b3.mono (by omega))).trans (b4.mono (by omega))
 exact ⟨_,_,_,_,_,_,rfl,bb.alloc (by have:=bb.size; omega) _,r0.alloc _,r1.alloc _,r2.alloc _,r3.alloc _,R4.out.alloc _,Row.new _ _ _⟩
theorem cl_not (B gc V:Nat) (v0 m0:Int) (S:Option (List Dta)) (hS:OkS V 1 S) (m:Mk) (b:Nat) (w:World) (hc:CpT B gc v0 m0 V S w) (hb:Row w b 64 #[pB gc]) :
  Calls Tryz.prog 114 #[mV m,pB b] w fun q w' => q = .returned (.tuple #[]) /\ CpF B gc w w' /\ CpT B gc v0 m0 V (topC S fun d => some d.notM) w':=by
 have y0:=hb.cell; have y2:=hb.lt
 have HC:=zh hc
 clear hc hb
 go_enter Tryz.func114,Tryz.ntmps114
 go_wp2_with (go_at_call 115; go_must (refine (zou B gc V v0 m0 S hS _ (HC.out.below (by go_grown))).mono ?_; rintro e w1 ⟨rfl,hf,h1⟩; have HF:=zh ((CpF.of (by go_grown) HC.out.le:CpF B gc w _).trans hf); have H1:=zh h1; clear hf h1))
 go_returns
 exact ⟨rfl,HF.out,H1.out⟩
theorem cl_and (B gc V:Nat) (v0 m0:Int) (S:Option (List Dta)) (hS:OkS V 2 S) (m:Mk) (b:Nat) (w:World) (hc:CpT B gc v0 m0 V S w) (hb:Row w b 64 #[pB gc]) :
  Calls Tryz.prog 116 #[mV m,pB b] w fun q w' => q = .returned (.tuple #[]) /\ CpF B gc w w' /\ CpT B gc v0 m0 V (topC2 S (opC fun p q => p && q)) w':=by
 have y0:=hb.cell; have y2:=hb.lt
 have HC:=zh hc
 clear hc hb
 go_enter Tryz.func116,Tryz.ntmps116
 go_wp2_with (go_at_call 75; go_must (refine (zl1 B gc V v0 m0 S hS _ (HC.out.below (by go_grown))).mono ?_; rintro e w1 ⟨rfl,hf,h1⟩; have HF:=zh ((CpF.of (by go_grown) HC.out.le:CpF B gc w _).trans hf); have H1:=zh h1; clear hf h1))
 go_returns
 exact ⟨rfl,HF.out,H1.out⟩
theorem cl_or (B gc V:Nat) (v0 m0:Int) (S:Option (List Dta)) (hS:OkS V 2 S) (m:Mk) (b:Nat) (w:World) (hc:CpT B gc v0 m0 V S w) (hb:Row w b 64 #[pB gc]) :
  Calls Tryz.prog 117 #[mV m,pB b] w fun q w' => q = .returned (.tuple #[]) /\ CpF B gc w w' /\ CpT B gc v0 m0 V (topC2 S (opC fun p q => p || q)) w':=by
 have y0:=hb.cell; have y2:=hb.lt
 have HC:=zh hc
 clear hc hb
 go_enter Tryz.func117,Tryz.ntmps117
 go_wp2_with (go_at_call 75; go_must (refine (zp9 B gc V v0 m0 S hS _ (HC.out.below (by go_grown))).mono ?_; rintro e w1 ⟨rfl,hf,h1⟩; have HF:=zh ((CpF.of (by go_grown) HC.out.le:CpF B gc w _).trans hf); have H1:=zh h1; clear hf h1))
 go_returns
 exact ⟨rfl,HF.out,H1.out⟩
theorem cl_q (B gc V M:Nat) (hV:V <= 3) (hM1:1 <= M) (hM:M <= 64) (S:Option (List Dta)) (hS:OkS V 1 S) (hS9:∀ s,S = some s -> s.length <= 899) (op y a1 b1:Int) (x:Nat) (hx:x < V) (b k:Nat) (neg sg:Bool) (w:World) (hc:CpT B gc V M V S w) (hb:Row w b 64 #[pB gc]) (hk:Row w k 169 #[.bool neg,.bool sg]) :
  Calls Tryz.prog 112 #[.agg #[.int .u8 op,.int .i64 (x:Int),.int .i64 y,.int .i64 a1,.int .i64 b1],pB b,pB k] w fun q w' => q = .returned (.tuple #[]) /\ CpF B gc w w' /\ CpT B gc V M V (topC S (bindC V M x neg sg)) w':=by
 have y0:=hb.cell; have y2:=hb.lt
 have z0:=hk.cell; have z2:=hk.lt
 have HC:=zh hc
 clear hc hb hk
 go_enter Tryz.func112,Tryz.ntmps112
 go_wp2_with (go_at_call 113; go_must (refine (zr3 B gc V M hV hM1 hM S hS hS9 _ (HC.out.below (by go_grown)) x hx neg sg).mono ?_; rintro e w1 ⟨rfl,hf,h1⟩; have HF:=zh ((CpF.of (by go_grown) HC.out.le:CpF B gc w _).trans hf); have H1:=zh h1; clear hf h1))
 go_returns
 exact ⟨rfl,HF.out,H1.out⟩
def MkT (V:Nat) (m:Mk):Prop:=(0 <= m.op /\ m.op <= 255 /\ (m.op < 9 \/ 15 < m.op) /\ 0 <= m.x /\ m.x < 8 /\ 0 <= m.y /\ m.y < 8) \/ m.op = 9 \/ m.op = 10 \/ m.op = 11 \/ (12 <= m.op /\ m.op <= 15 /\ 0 <= m.x /\ m.x < V)
theorem zhk (V M:Nat) (S:Option (List Dta)) (m:Mk) (h:m.op < 9 \/ 15 < m.op):stepC V M S m = S.bind fun s => (some (atomA m.op m.x m.y V).mini).map (· :: s):=by
 have hn:nc m.op = 0:=by unfold nc; rw [if_neg (by omega),if_neg (by omega)]
 unfold stepC
 rw [hn]
 rfl
theorem zdy (V M:Nat) (S:Option (List Dta)) (m:Mk) (h:m.op = 9 \/ (12 <= m.op /\ m.op <= 15)):stepC V M S m = topC S (unC V M m.op m.x):=by
 have hn:nc m.op = 1:=by
  unfold nc
  rw [if_neg (by omega),if_pos (by omega)]
 unfold stepC topC
 rw [hn]
 cases S with
 | none => rfl
 | some s => cases s <;> rfl
theorem zgh (V M:Nat) (S:Option (List Dta)) (m:Mk) (h:m.op = 10 \/ m.op = 11):stepC V M S m = topC2 S (opC (binG m.op)):=by
 have hn:nc m.op = 2:=by unfold nc; rw [if_pos h]
 unfold stepC topC2
 rw [hn]
 cases S with
 | none => rfl
 | some s =>
  match s with
  | [] => rfl
  | [a] => rfl
  | b :: a :: r => rfl
theorem MkT.fit {V M:Nat} {m:Mk} (h:MkT V m) (hV:V <= 3) (hM:M <= 64) {S:Option (List Dta)} (hS:∀ s,S = some s -> ∀ d ∈ s,d.Fit V):∀ s,stepC V M S m = some s -> ∀ d ∈ s,d.Fit V:=by
 intro s e
 cases S with
 | none => cases e
 | some t =>
  have ht:=hS t rfl
  rcases h with h | h
  ·rw [zhk V M _ m (by omega)] at e
   cases e
   intro d hd
   rcases List.mem_cons.1 hd with rfl | hd
   ·exact zet (zcj _ _ _ hV)
   ·exact ht d hd
  ·by_cases hb:m.op = 10 \/ m.op = 11
   ·rw [zgh V M _ m hb] at e
    match t,ht,e with
    | [],_,e => cases e
    | [a],_,e => cases e
    | b :: a :: r,ht,e =>
     obtain ⟨x,hx,rfl⟩:=Option.map_eq_some_iff.1 (show (opC (binG m.op) a b).map (· :: r) = some s from e)
     intro d hd
     rcases List.mem_cons.1 hd with rfl | hd
     ·exact zbz (ht a (by simp)) (ht b (by simp)) hx
     ·exact ht d (by simp [hd])
   ·rw [zdy V M _ m (by omega)] at e
    match t,ht,e with
    | [],_,e => cases e
    | a :: r,ht,e =>
     obtain ⟨x,hx,rfl⟩:=Option.map_eq_some_iff.1 (show (unC V M m.op m.x a).map (· :: r) = some s from e)
     intro d hd
     rcases List.mem_cons.1 hd with rfl | hd
     ·exact zns (ht a (by simp)) (by omega) hM hx
     ·exact ht d (by simp [hd])
theorem unC_9' (V M:Nat) (x:Int):unC V M 9 x = fun d => some d.notM:=by funext d; unfold unC; rw [if_pos rfl]
structure NdI (B gc V M:Nat) (S:Option (List Dta)) (w w0:World) (g b q1 q2 q3 q4:Nat) (op x y a1 b1:Int) (W:World):Prop where
 o:OpsI gc w0 g b q1 q2 q3 q4 W
 c:CpT B gc V M V S W
 f:CpF B gc w W
 m:Row W w.heap.size 26 #[.int .u8 op,.int .i64 x,.int .i64 y,.int .i64 a1,.int .i64 b1]
theorem NdI.next {B gc V M:Nat} {S:Option (List Dta)} {w w0:World} {g b q1 q2 q3 q4:Nat} {op x y a1 b1:Int} {W W':World} (h:NdI B gc V M S w w0 g b q1 q2 q3 q4 op x y a1 b1 W) (hb:Below W.heap.size W W'):NdI B gc V M S w w0 g b q1 q2 q3 q4 op x y a1 b1 W' :=
 ⟨h.o.next hb,h.c.below hb,h.f.trans (CpF.of hb h.c.le),h.m.below hb h.m.lt⟩
theorem NdI.via {B gc V M:Nat} {S:Option (List Dta)} {w w0:World} {g b q1 q2 q3 q4:Nat} {op x y a1 b1:Int} {W W' W2:World} (h:NdI B gc V M S w w0 g b q1 q2 q3 q4 op x y a1 b1 W) (hb:Below W.heap.size W W') (hb2:Below W'.heap.size W' W2):NdI B gc V M S w w0 g b q1 q2 q3 q4 op x y a1 b1 W2 /\ B <= W'.heap.size :=
 ⟨(h.next hb).next hb2,(h.next hb).c.le⟩
theorem NdI.cells' {B gc V M:Nat} {S:Option (List Dta)} {w:World} {op x y a1 b1:Int} {W:World} (hm:Row W w.heap.size 26 #[.int .u8 op,.int .i64 x,.int .i64 y,.int .i64 a1,.int .i64 b1]) (hc:CpT B gc V M V S W):W.cell? ⟨w.heap.size,0,none⟩ = some (.int .u8 op) /\ W.cell? ⟨w.heap.size,1,none⟩ = some (.int .i64 x) /\ W.cell? ⟨w.heap.size,2,none⟩ = some (.int .i64 y) /\ W.cell? ⟨w.heap.size,3,none⟩ = some (.int .i64 a1) /\ W.cell? ⟨w.heap.size,4,none⟩ = some (.int .i64 b1) /\ W.cell? ⟨gc,0,none⟩ = some (.int .i64 (V:Int)):=by
 obtain ⟨stk,hr⟩:=hc.row
 exact ⟨hm.cell 0,hm.cell 1,hm.cell 2,hm.cell 3,hm.cell 4,hr.cell 0⟩
theorem NdI.ne {B gc V M:Nat} {S:Option (List Dta)} {w w0:World} {g b q1 q2 q3 q4:Nat} {op x y a1 b1:Int} {W:World} (h:NdI B gc V M S w w0 g b q1 q2 q3 q4 op x y a1 b1 W):w.heap.size ≠ gc:=by
 obtain ⟨stk,hr⟩:=h.c.row
 exact h.m.ne hr (by decide)
theorem zrc (B gc V M:Nat) (hV:V <= 3) (hM1:1 <= M) (hM:M <= 64) (S:Option (List Dta)) (m:Mk) (hm:MkT V m) (hS:OkS V (nc m.op).toNat S) (hS9:∀ s,S = some s -> s.length <= 899) (w:World) (hc:CpT B gc V M V S w) :
  Calls Tryz.prog 30 #[.pointer (some ⟨gc,0,none⟩),.agg #[.int .u8 m.op,.int .i64 m.x,.int .i64 m.y,.int .i64 m.a,.int .i64 m.b]] w fun q w' => q = .returned (.tuple #[]) /\ CpF B gc w w' /\ CpT B gc V M V (stepC V M S m) w':=by
 obtain ⟨op,x,y,a1,b1⟩:=m
 have HC:=zh hc; have HM:=zh hm; have HS:=zh hS; have HS9:=zh hS9
 clear hc hm hS hS9
 go_enter Tryz.func30,Tryz.ntmps30
 go_upto_region 2 with (go_at_call 70; go_must (refine (zjf gc _).mono ?_; rintro e w1 ⟨g,b,q1,q2,q3,q4,rfl,ho⟩; have HO:=zh ho; clear ho))
 obtain ⟨w0,hw0⟩:=zx (w.alloc (.cells #[.int .u8 op,.int .i64 x,.int .i64 y,.int .i64 a1,.int .i64 b1] 26))
 have hb0:Below w.heap.size w w0:=by rw [hw0]; exact Below.alloc (Below.refl _ _) zn _
 have hb1:Below w0.heap.size w0 w1:=by rw [hw0]; exact HO.out.below
 have hI:NdI B gc V M S w w0 g b q1 q2 q3 q4 op x y a1 b1 w1:=⟨by rw [hw0]; exact HO.out,(HC.out.below hb0).below hb1,CpF.of (hb0.trans (hb1.mono hb0.size)) HC.out.le,(show Row w0 w.heap.size 26 #[.int .u8 op,.int .i64 x,.int .i64 y,.int .i64 a1,.int .i64 b1] by rw [hw0]; exact Row.new _ _ _).below hb1 (by rw [hw0]; simp)⟩
 have HI:=zh hI
 clear HC HO hw0 hb0 hb1 hI
 go_loopg [9] 7 (fun gk q wr => ∃ k:Nat,k <= 7 /\ gk = 7 - k /\ q = .int .i64 k /\ NdI B gc V M S w w0 g b q1 q2 q3 q4 op x y a1 b1 wr /\ ∀ j:Nat,j < k -> op ≠ 9 + j)
 case atStart => exact ⟨0,by omega,rfl,rfl,HI.out,by intro j hj; omega⟩
 case round =>
  clear HI
  obtain ⟨k,hk,rfl,rfl,hi,hne⟩:=hrel
  have hg:=hi.o.rg.cell; have hgl:=hi.o.rg.lt; have hm0:=hi.m.cell; have hml:=hi.m.lt
  have HI:=zh hi; have HN:=zh hne
  clear hi hne
  by_cases hlt:k < 7
  ·have h7:k = 0 \/ k = 1 \/ k = 2 \/ k = 3 \/ k = 4 \/ k = 5 \/ k = 6:=by omega
   clear hk hlt
   rcases h7 with rfl | rfl | rfl | rfl | rfl | rfl | rfl
   ·by_cases h:op = 9
    ·subst h
     go_wp2_with (go_at_call 114; go_must (refine (cl_not B gc V V M S (by have:=HS.out; exact this) ⟨9,x,y,a1,b1⟩ b _ (HI.out.next (by go_grown)).c (HI.out.next (by go_grown)).o.rb).mono ?_; rintro e w2 ⟨rfl,hf,hc⟩; have HF:=zh ((HI.out.next (by go_grown)).f.trans hf); have HC:=zh hc; clear hf hc))
     go_returns
     rw [zdy V M S _ (.inl rfl),unC_9']
     exact ⟨rfl,HF.out,HC.out⟩
    ·go_wp2
     go_roundg 6
     case rel => exact ⟨1,by omega,rfl,rfl,HI.out.next (by go_grown),fun j hj => by have:=HN.out; rcases Nat.lt_or_ge j 0 with h1 | h1; exact this j h1; omega⟩
     case measure => omega
   ·by_cases h:op = 10
    ·subst h
     go_wp2_with (go_at_call 116; go_must (refine (cl_and B gc V V M S (by have:=HS.out; exact this) ⟨10,x,y,a1,b1⟩ b _ (HI.out.next (by go_grown)).c (HI.out.next (by go_grown)).o.rb).mono ?_; rintro e w2 ⟨rfl,hf,hc⟩; have HF:=zh ((HI.out.next (by go_grown)).f.trans hf); have HC:=zh hc; clear hf hc))
     go_returns
     rw [zgh V M S _ (.inl rfl),show (⟨10,x,y,a1,b1⟩:Mk).op = 10 from rfl,zr4]
     exact ⟨rfl,HF.out,HC.out⟩
    ·go_wp2
     go_roundg 5
     case rel => exact ⟨2,by omega,rfl,rfl,HI.out.next (by go_grown),fun j hj => by have:=HN.out; rcases Nat.lt_or_ge j 1 with h1 | h1; exact this j h1; omega⟩
     case measure => omega
   ·by_cases h:op = 11
    ·subst h
     go_wp2_with (go_at_call 117; go_must (refine (cl_or B gc V V M S (by have:=HS.out; exact this) ⟨11,x,y,a1,b1⟩ b _ (HI.out.next (by go_grown)).c (HI.out.next (by go_grown)).o.rb).mono ?_; rintro e w2 ⟨rfl,hf,hc⟩; have HF:=zh ((HI.out.next (by go_grown)).f.trans hf); have HC:=zh hc; clear hf hc))
     go_returns
     rw [zgh V M S _ (.inr rfl),show (⟨11,x,y,a1,b1⟩:Mk).op = 11 from rfl,binG_or]
     exact ⟨rfl,HF.out,HC.out⟩
    ·go_wp2
     go_roundg 4
     case rel => exact ⟨3,by omega,rfl,rfl,HI.out.next (by go_grown),fun j hj => by have:=HN.out; rcases Nat.lt_or_ge j 2 with h1 | h1; exact this j h1; omega⟩
     case measure => omega
   ·by_cases h:op = 12
    ·subst h
     obtain ⟨x',rfl⟩:∃ x':Nat,x = x':=Int.eq_ofNat_of_zero_le (by have h:=HM.out; unfold MkT at h; simp only at h; omega)
     have hx:x' < V:=by have h:=HM.out; unfold MkT at h; simp only at h; omega
     go_wp2_with (go_at_call 112; go_must (refine (cl_q B gc V M hV hM1 hM S (by have:=HS.out; exact this) HS9.out 12 y a1 b1 x' hx b q1 false false _ (HI.out.next (by go_grown)).c (HI.out.next (by go_grown)).o.rb (HI.out.next (by go_grown)).o.r1).mono ?_; rintro e w2 ⟨rfl,hf,hc⟩; have HF:=zh ((HI.out.next (by go_grown)).f.trans hf); have HC:=zh hc; clear hf hc))
     go_returns
     rw [zdy V M S _ (.inr (by simp)),show unC V M (⟨12,(x':Int),y,a1,b1⟩:Mk).op _ = _ from zfz V M 12 _ (by omega)]
     exact ⟨rfl,HF.out,HC.out⟩
    ·go_wp2
     go_roundg 3
     case rel => exact ⟨4,by omega,rfl,rfl,HI.out.next (by go_grown),fun j hj => by have:=HN.out; rcases Nat.lt_or_ge j 3 with h1 | h1; exact this j h1; omega⟩
     case measure => omega
   ·by_cases h:op = 13
    ·subst h
     obtain ⟨x',rfl⟩:∃ x':Nat,x = x':=Int.eq_ofNat_of_zero_le (by have h:=HM.out; unfold MkT at h; simp only at h; omega)
     have hx:x' < V:=by have h:=HM.out; unfold MkT at h; simp only at h; omega
     go_wp2_with (go_at_call 112; go_must (refine (cl_q B gc V M hV hM1 hM S (by have:=HS.out; exact this) HS9.out 13 y a1 b1 x' hx b q2 true false _ (HI.out.next (by go_grown)).c (HI.out.next (by go_grown)).o.rb (HI.out.next (by go_grown)).o.r2).mono ?_; rintro e w2 ⟨rfl,hf,hc⟩; have HF:=zh ((HI.out.next (by go_grown)).f.trans hf); have HC:=zh hc; clear hf hc))
     go_returns
     rw [zdy V M S _ (.inr (by simp)),show unC V M (⟨13,(x':Int),y,a1,b1⟩:Mk).op _ = _ from zfz V M 13 _ (by omega)]
     exact ⟨rfl,HF.out,HC.out⟩
    ·go_wp2
     go_roundg 2
     case rel => exact ⟨5,by omega,rfl,rfl,HI.out.next (by go_grown),fun j hj => by have:=HN.out; rcases Nat.lt_or_ge j 4 with h1 | h1; exact this j h1; omega⟩
     case measure => omega
   ·by_cases h:op = 14
    ·subst h
     obtain ⟨x',rfl⟩:∃ x':Nat,x = x':=Int.eq_ofNat_of_zero_le (by have h:=HM.out; unfold MkT at h; simp only at h; omega)
     have hx:x' < V:=by have h:=HM.out; unfold MkT at h; simp only at h; omega
     go_wp2_with (go_at_call 112; go_must (refine (cl_q B gc V M hV hM1 hM S (by have:=HS.out; exact this) HS9.out 14 y a1 b1 x' hx b q3 false true _ (HI.out.next (by go_grown)).c (HI.out.next (by go_grown)).o.rb (HI.out.next (by go_grown)).o.r3).mono ?_; rintro e w2 ⟨rfl,hf,hc⟩; have HF:=zh ((HI.out.next (by go_grown)).f.trans hf); have HC:=zh hc; clear hf hc))
     go_returns
     rw [zdy V M S _ (.inr (by simp)),show unC V M (⟨14,(x':Int),y,a1,b1⟩:Mk).op _ = _ from zfz V M 14 _ (by omega)]
     exact ⟨rfl,HF.out,HC.out⟩
    ·go_wp2
     go_roundg 1
     case rel => exact ⟨6,by omega,rfl,rfl,HI.out.next (by go_grown),fun j hj => by have:=HN.out; rcases Nat.lt_or_ge j 5 with h1 | h1; exact this j h1; omega⟩
     case measure => omega
   ·by_cases h:op = 15
    ·subst h
     obtain ⟨x',rfl⟩:∃ x':Nat,x = x':=Int.eq_ofNat_of_zero_le (by have h:=HM.out; unfold MkT at h; simp only at h; omega)
     have hx:x' < V:=by have h:=HM.out; unfold MkT at h; simp only at h; omega
     go_wp2_with (go_at_call 112; go_must (refine (cl_q B gc V M hV hM1 hM S (by have:=HS.out; exact this) HS9.out 15 y a1 b1 x' hx b q4 true true _ (HI.out.next (by go_grown)).c (HI.out.next (by go_grown)).o.rb (HI.out.next (by go_grown)).o.r4).mono ?_; rintro e w2 ⟨rfl,hf,hc⟩; have HF:=zh ((HI.out.next (by go_grown)).f.trans hf); have HC:=zh hc; clear hf hc))
     go_returns
     rw [zdy V M S _ (.inr (by simp)),show unC V M (⟨15,(x':Int),y,a1,b1⟩:Mk).op _ = _ from zfz V M 15 _ (by omega)]
     exact ⟨rfl,HF.out,HC.out⟩
    ·go_wp2
     go_roundg 0
     case rel => exact ⟨7,by omega,rfl,rfl,HI.out.next (by go_grown),fun j hj => by have:=HN.out; rcases Nat.lt_or_ge j 6 with h1 | h1; exact this j h1; omega⟩
     case measure => omega
  ·have hk7:k = 7:=by omega
   subst hk7
   have hlf:0 <= op /\ op <= 255 /\ (op < 9 \/ 15 < op) /\ 0 <= x /\ x < 8 /\ 0 <= y /\ y < 8:=by
    have h:=HM.out
    unfold MkT at h
    simp only at h
    have e:=HN.out
    have e0:=e 0 (by omega); have e1:=e 1 (by omega); have e2:=e 2 (by omega); have e3:=e 3 (by omega); have e4:=e 4 (by omega); have e5:=e 5 (by omega); have e6:=e 6 (by omega)
    omega
   have hat:=fun W => zqe op x y a1 b1 V hV hlf.1 hlf.2.1 ⟨hlf.2.2.2.1,hlf.2.2.2.2.1⟩ hlf.2.2.2.2.2 W
   obtain ⟨stk,hr⟩:=HI.out.c.row
   have y0:=hr.cell; have y2:=hr.lt
   have p1:wr.cell? ⟨w.heap.size,0,none⟩ = some (.int .u8 op) /\ wr.cell? ⟨w.heap.size,1,none⟩ = some (.int .i64 x) /\ wr.cell? ⟨w.heap.size,2,none⟩ = some (.int .i64 y) /\ wr.cell? ⟨w.heap.size,3,none⟩ = some (.int .i64 a1) /\ wr.cell? ⟨w.heap.size,4,none⟩ = some (.int .i64 b1) /\ wr.cell? ⟨gc,0,none⟩ = some (.int .i64 (V:Int)):=⟨hm0 0,hm0 1,hm0 2,hm0 3,hm0 4,y0 0⟩
   have HAT:=zh hat
   clear hr hat hg hgl
   go_upto_region 7 with (fail)
   go_region_held3 (fun W => W.cell? ⟨w.heap.size,0,none⟩ = some (.int .u8 op) /\ W.cell? ⟨w.heap.size,1,none⟩ = some (.int .i64 x) /\ W.cell? ⟨w.heap.size,2,none⟩ = some (.int .i64 y) /\ W.cell? ⟨w.heap.size,3,none⟩ = some (.int .i64 a1) /\ W.cell? ⟨w.heap.size,4,none⟩ = some (.int .i64 b1) /\ W.cell? ⟨gc,0,none⟩ = some (.int .i64 (V:Int))) (first | exact p1 | exact p2 | exact p3) (first
    | (go_at_call 72; refine (HAT.out _).mono ?_; rintro e w2 ⟨A1,n1,c1,A2,n2,c2,rfl,hb,ht⟩; obtain ⟨h1,hle⟩:=HI.out.via (by go_grown) hb; have HT2:=zh (ht.mono hle); have p2:=NdI.cells' h1.m h1.c; have H2:=zh h1; clear h1 hb ht hle)
    | (go_at_call 71; refine (zdf B gc V V M S (fun s e => by have:=HS9.out s e; omega) _ (H2.out.c.below (by go_grown)) (some (atomA op x y V).mini) _ _ _ _ _ _ _ _ (HT2.out.below (by go_grown) zn) 0 rfl).mono ?_; rintro e w3 ⟨rfl,hf,hc⟩; have p3:=NdI.cells' (hf.rows _ _ _ (by decide) H2.out.ne (H2.out.next (by go_grown)).m) hc; have HF:=zh ((H2.out.next (by go_grown)).f.trans hf); have HC:=zh hc; clear hf hc))
   all_goals
    go_wp2
    go_returns
    rw [zhk V M S _ hlf.2.2.1]
    exact ⟨rfl,HF.out,HC.out⟩
theorem mkT_of {f:List Mk} {V:Nat} (hV:V <= 3) (h:zai f V true = 0) (hop:OpOk f) {m:Mk} (hm:m ∈ f):MkT V m:=by
 unfold zai at h
 by_cases hr:(V:Int) < 0 \/ (if true = true then (3:Int) else 6) < V
 ·rw [if_pos hr] at h; omega
 ·rw [if_neg hr] at h
  obtain ⟨_,_,_,h4⟩:=ze3 h
  obtain ⟨i,hi⟩:=List.getElem?_of_mem hm
  obtain ⟨_,_,hw,hsp,_⟩:=zbi (h4 i m hi)
  obtain ⟨o1,o2⟩:=hop m hm
  simp only [zak,spare,Bool.and_eq_true,Bool.or_eq_true,decide_eq_true_eq] at hw hsp
  by_cases h1:m.op < 9 \/ 15 < m.op
  ·exact .inl ⟨o1,o2,h1,by omega,by omega,by omega,by omega⟩
  ·by_cases h2:12 <= m.op
   ·have hv:nv m.op = 1:=by unfold nv; rw [if_pos (by omega)]
    rw [hv] at hw
    exact .inr (.inr (.inr (.inr ⟨h2,by omega,by omega,by omega⟩)))
   ·have:m.op = 9 \/ m.op = 10 \/ m.op = 11:=by omega
    rcases this with h | h | h
    ·exact .inr (.inl h)
    ·exact .inr (.inr (.inl h))
    ·exact .inr (.inr (.inr (.inl h)))
theorem znv {V M:Nat} {s s':List Dta} {m:Mk} (h:stepC V M (some s) m = some s') (hn:(nc m.op).toNat <= s.length):s'.length = s.length - (nc m.op).toNat + 1:=by
 unfold stepC at h
 rcases zdz m.op with e | e | e <;> rw [e] at h hn ⊢
 ·cases h; simp
 ·match s,hn with
  | d :: r,_ =>
   obtain ⟨x,_,rfl⟩:=Option.map_eq_some_iff.1 (show (unC V M m.op m.x d).map (· :: r) = some s' from h)
   simp
 ·match s,hn with
  | b :: a :: r,_ =>
   obtain ⟨x,_,rfl⟩:=Option.map_eq_some_iff.1 (show (opC (binG m.op) a b).map (· :: r) = some s' from h)
   simp
def foldK (V M:Nat) (f:List Mk) (k:Nat):Option (List Dta):=(f.take k).foldl (stepC V M) (some [])
theorem zhw {V M:Nat} {f:List Mk} {k:Nat} {m:Mk} (h:f[k]? = some m):foldK V M f (k + 1) = stepC V M (foldK V M f k) m:=by
 unfold foldK
 rw [List.take_add_one,h]
 simp
theorem zf6 {f:List Mk} {V M:Nat} (hV:V <= 3) (hM:M <= 64) (hm:∀ m ∈ f,MkT V m) (hn:NeedC f 0):∀ k,k <= f.length -> ∀ s,foldK V M f k = some s -> NeedC (f.drop k) s.length /\ s.length <= k /\ ∀ d ∈ s,d.Fit V:=by
 intro k
 induction k with
 | zero => intro _ s h; cases h; exact ⟨by simpa using hn,by simp,by simp⟩
 | succ k ih =>
  intro hk s h
  obtain ⟨m,hmk⟩:∃ m,f[k]? = some m:=⟨_,List.getElem?_eq_getElem (by omega)⟩
  rw [zhw hmk] at h
  cases h0:foldK V M f k with
  | none => rw [h0] at h; cases h
  | some t =>
   rw [h0] at h
   obtain ⟨h1,h2,h3⟩:=ih (by omega) t h0
   have hd:f.drop k = m :: f.drop (k + 1):=by
    rw [List.drop_eq_getElem_cons (by omega)]
    congr 1
    have:=List.getElem?_eq_some_iff.1 hmk
    exact this.2
   rw [hd] at h1
   have hl:=znv h h1.1
   refine ⟨by rw [hl]; exact h1.2,?_,(hm m (List.mem_of_getElem? hmk)).fit hV hM (fun s e => by cases e; exact h3) s h⟩
   have:=h1.1
   rw [hl]
   rcases zdz m.op with e | e | e <;> rw [e] at this ⊢ <;> simp at this ⊢ <;> omega
theorem zm5 {f:List Mk} {V M:Nat} (hl:f.length <= 64) (hV:V <= 3) (hM:M <= 64) (hm:∀ m ∈ f,MkT V m) (hn:NeedC f 0) {k:Nat} {m:Mk} (hk:f[k]? = some m):OkS V (nc m.op).toNat (foldK V M f k) /\ ∀ s,foldK V M f k = some s -> s.length <= k:=by
 have hlt:k < f.length:=(List.getElem?_eq_some_iff.1 hk).1
 have hd:f.drop k = m :: f.drop (k + 1):=by
  rw [List.drop_eq_getElem_cons hlt]
  congr 1
  exact (List.getElem?_eq_some_iff.1 hk).2
 refine ⟨⟨fun s e => ?_,fun s e => (zf6 hV hM hm hn k (by omega) s e).2.2⟩,fun s e => (zf6 hV hM hm hn k (by omega) s e).2.1⟩
 obtain ⟨h1,h2,_⟩:=zf6 hV hM hm hn k (by omega) s e
 rw [hd] at h1
 exact ⟨h1.1,by omega⟩
def RetC (w:World) (R:Raw × Int) (e:Ending) (w':World):Prop:=∃ A n c A' n' c',e = .returned (.tuple #[.agg #[.int .i64 R.1.vars,.int .i64 R.1.empty,.slice A n c,.slice A' n' c'],.int .i64 R.2]) /\ Below w.heap.size w w' /\ TDO w' w.heap.size (.agg #[.int .i64 R.1.vars,.int .i64 R.1.empty,.slice A n c,.slice A' n' c']) R.1
theorem zba (w:World) (B:Nat):TDO w B (.agg #[.int .i64 0,.int .i64 0,.slice none 0 0,.slice none 0 0]) zeroR:=zdj w B
theorem zk0 (f:List Mk) (v:Value) (vars M:Int) (w:World) (hv:MS w v f) (h:zai f vars true ≠ 0 \/ M < 1 \/ 64 < M) :
  Calls Tryz.prog 11 #[v,.int .i64 vars,.int .i64 M] w (RetC w (compS f vars M)):=by
 have hck:=fun W (h:Below w.heap.size w W) => zj3 f v vars true W (hv.below h zn)
 obtain ⟨_,A,c,rfl,_⟩:=id hv
 have hR:compS f vars M = (zeroR,if zai f vars true ≠ 0 then zai f vars true else 1):=by
  unfold compS
  by_cases h0:zai f vars true ≠ 0
  ·rw [if_pos h0,if_pos h0]
  ·rw [if_neg h0,if_neg h0,if_pos (by omega)]
 rw [hR]
 obtain ⟨E,hE⟩:=zx (zai f vars true)
 rw [<- hE] at hck h ⊢
 have HCK:=zh hck
 clear hck hv hR hE
 go_enter Tryz.func11,Tryz.ntmps11
 go_upto_region 1 with fail
 refine zaa (fun W => Below w.heap.size w W /\ Row W w.heap.size 30 #[.int .i64 0,.int .i64 0,.slice none 0 0,.slice none 0 0]) ⟨by go_grown,Row.lit rfl⟩ ?_
 rintro W ⟨hb,hr⟩
 have HBW:=zh hb; have HRW:=zh hr
 clear hb hr
 by_cases h0:E = 0
 ·subst h0
  have hM:M < 1 \/ 64 < M:=by omega
  clear h
  rcases Int.lt_or_le M 1 with h1 | h1
  ·clear hM
   go_wp2_with (go_at_call 29; go_must (refine (HCK.out _ HBW.out).mono ?_; rintro e w1 ⟨rfl,hb⟩; have HB:=zh (HBW.out.trans (hb.mono HBW.out.size)); have R6:=zh (HRW.out.below hb HRW.out.lt); have b0:=R6.out.cell; have b1:=R6.out.free; clear hb))
   refine zah (fun X => Row X w.heap.size 30 #[.int .i64 0,.int .i64 0,.slice none 0 0,.slice none 0 0] /\ Below w.heap.size w X) ⟨(zaz R6.out (zba _ w.heap.size) HB.out zn).1,(zaz R6.out (zba _ w.heap.size) HB.out zn).2.2⟩ ?_
   rintro X ⟨r0,hb⟩
   have b0:=r0.cell
   have q0:=b0 0; have q1:=b0 1; have q2:=b0 2; have q3:=b0 3
   simp only [zg] at q0 q1 q2 q3
   exact bodyPost_ret (v:=.tuple #[.agg #[.int .i64 0,.int .i64 0,.slice none 0 0,.slice none 0 0],.int .i64 1]) (by simp [results,Tryz.results11,go_sem,q0,q1,q2,q3]) rfl ⟨_,_,_,_,_,_,rfl,hb,zba _ _⟩
  ·have h2:64 < M:=by omega
   clear hM
   go_wp2_with (go_at_call 29; go_must (refine (HCK.out _ HBW.out).mono ?_; rintro e w1 ⟨rfl,hb⟩; have HB:=zh (HBW.out.trans (hb.mono HBW.out.size)); have R6:=zh (HRW.out.below hb HRW.out.lt); have b0:=R6.out.cell; have b1:=R6.out.free; clear hb))
   refine zah (fun X => Row X w.heap.size 30 #[.int .i64 0,.int .i64 0,.slice none 0 0,.slice none 0 0] /\ Below w.heap.size w X) ⟨(zaz R6.out (zba _ w.heap.size) HB.out zn).1,(zaz R6.out (zba _ w.heap.size) HB.out zn).2.2⟩ ?_
   rintro X ⟨r0,hb⟩
   have b0:=r0.cell
   have q0:=b0 0; have q1:=b0 1; have q2:=b0 2; have q3:=b0 3
   simp only [zg] at q0 q1 q2 q3
   exact bodyPost_ret (v:=.tuple #[.agg #[.int .i64 0,.int .i64 0,.slice none 0 0,.slice none 0 0],.int .i64 1]) (by simp [results,Tryz.results11,go_sem,q0,q1,q2,q3]) rfl ⟨_,_,_,_,_,_,rfl,hb,zba _ _⟩
 ·clear h
  rw [if_pos h0]
  go_wp2_with (go_at_call 29; go_must (refine (HCK.out _ HBW.out).mono ?_; rintro e w1 ⟨rfl,hb⟩; have HB:=zh (HBW.out.trans (hb.mono HBW.out.size)); have R6:=zh (HRW.out.below hb HRW.out.lt); have b0:=R6.out.cell; have b1:=R6.out.free; clear hb))
  refine zah (fun X => Row X w.heap.size 30 #[.int .i64 0,.int .i64 0,.slice none 0 0,.slice none 0 0] /\ Below w.heap.size w X) ⟨(zaz R6.out (zba _ w.heap.size) HB.out zn).1,(zaz R6.out (zba _ w.heap.size) HB.out zn).2.2⟩ ?_
  rintro X ⟨r0,hb⟩
  have b0:=r0.cell
  have q0:=b0 0; have q1:=b0 1; have q2:=b0 2; have q3:=b0 3
  simp only [zg] at q0 q1 q2 q3
  exact bodyPost_ret (v:=.tuple #[.agg #[.int .i64 0,.int .i64 0,.slice none 0 0,.slice none 0 0],.int .i64 E]) (by simp [results,Tryz.results11,go_sem,q0,q1,q2,q3]) rfl ⟨_,_,_,_,_,_,rfl,hb,zba _ _⟩
def comL (V:Nat):Option (List Dta) -> Raw × Int
 | some (d :: _) => (d.raw V,0)
 | _ => (zeroR,10)
structure CoI (B V M:Nat) (S:Option (List Dta)) (w1:World) (W:World):Prop where
 c:CpT B B V M V S W
 b:Below B w1 W
theorem CoI.next {B V M:Nat} {S S':Option (List Dta)} {w1 W W' W2:World} (h:CoI B V M S w1 W) (hb:Below W.heap.size W W') (hf:CpF B B W' W2) (hc:CpT B B V M V S' W2):CoI B V M S' w1 W2 :=
 ⟨hc,(h.b.trans (hb.mono h.c.le)).trans hf.below⟩
theorem zj2 (f:List Mk) (v:Value) (V M:Nat) (w:World) (hv:MS w v f) (h:zai f V true = 0) (h1:1 <= M) (hM:M <= 64) :
  Calls Tryz.prog 11 #[v,.int .i64 (V:Int),.int .i64 (M:Int)] w (RetC w (compS f V M)):=by
 have hck:=fun W (h:Below w.heap.size w W) => zj3 f v (V:Int) true W (hv.below h zn)
 rw [h] at hck
 obtain ⟨V',t,hVe,ck⟩:=zd5 h
 have hVV:V' = V:=by omega
 subst hVV
 have hMi1:(1:Int) <= (M:Int):=by omega
 have hMi2:(M:Int) <= 64:=by omega
 have hV:=ck.v3
 have hln:=ck.len
 have hop:=hv.1
 have hmk:∀ m ∈ f,MkT V' m:=fun m hm => mkT_of hV h hop hm
 have hnd:NeedC f 0:=by rw [ck.enc,<- List.append_nil (t.enc 0)]; exact zre t ck.ok 0 0 [] rfl
 have hcs:compS f V' M = comL V' (foldK V' M f f.length):=by
  unfold compS
  rw [if_neg (by omega),if_neg (by omega),Int.toNat_natCast,Int.toNat_natCast]
  unfold foldK
  rw [List.take_length]
  rfl
 have hfin:=zf6 (M:=M) hV hM hmk hnd f.length zn
 rw [List.drop_length] at hfin
 rw [hcs]
 clear hVe hcs
 obtain ⟨_,A,c,rfl,hc1,hc2,hcell⟩:=id hv
 obtain ⟨n,hn⟩:=zx f.length
 rw [<- hn] at hck hc1 hcell hfin hln ⊢
 have HV:=zh hv; have HN:=zh hn; have HMK:=zh hmk; have HND:=zh hnd; have HFI:=zh hfin; have HCK:=zh hck; have HCELL:=zh hcell
 clear hv hn hmk hnd hfin hck hop h ck hcell
 go_enter Tryz.func11,Tryz.ntmps11
 go_upto_region 1 with fail
 refine zaa (fun W => Below w.heap.size w W /\ Row W w.heap.size 30 #[.int .i64 0,.int .i64 0,.slice none 0 0,.slice none 0 0]) ⟨by go_grown,Row.lit rfl⟩ ?_
 rintro W ⟨hb,hr⟩
 have HBW:=zh hb; have HRW:=zh hr
 clear hb hr
 go_upto_region 8 with (go_at_call 29; go_must (refine (HCK.out _ HBW.out).mono ?_; rintro e w1 ⟨rfl,hb⟩; have HB:=zh (HBW.out.trans (hb.mono HBW.out.size)); have R6:=zh (HRW.out.below hb HRW.out.lt); clear hb))
 have hI:CoI w1.heap.size V' M (foldK V' M f 0) w1 (w1.alloc (.cells #[.int .i64 (V':Int),.int .i64 (M:Int),.slice none 0 0,.int .i64 0] 67)) :=
  ⟨⟨none,0,0,Row.new _ _ _,StkR.nil _ _,by simp,zn⟩,Below.alloc (Below.refl _ _) zn _⟩
 go_loopg [32] n (fun gk q wr => ∃ k:Nat,k <= n /\ gk = n - k /\ q = .int .i64 k /\ CoI w1.heap.size V' M (foldK V' M f k) w1 wr)
 case atStart => exact ⟨0,Nat.zero_le _,rfl,rfl,hI⟩
 case round =>
  clear hI
  obtain ⟨k,hk,rfl,rfl,hi⟩:=hrel
  have HI:=zh hi
  have hb2:Below w.heap.size w wr:=HB.out.trans (hi.b.mono HB.out.size)
  have HB2:=zh hb2
  clear hi
  by_cases hlt:k < n
  ·obtain ⟨m,hm⟩:∃ m,f[k]? = some m:=⟨f[k]'(by rw [<- HN.out]; exact hlt),List.getElem?_eq_getElem _⟩
   obtain ⟨b,o,rfl,hbl,hcl⟩:=HCELL.out (by omega)
   obtain ⟨c0,c1,c2,c3,c4⟩:=hcl k m hm
   have d0:=(hb2.cell (p:=⟨b,_,none⟩) hbl).trans c0
   have d1:=(hb2.cell (p:=⟨b,_,none⟩) hbl).trans c1
   have d2:=(hb2.cell (p:=⟨b,_,none⟩) hbl).trans c2
   have d3:=(hb2.cell (p:=⟨b,_,none⟩) hbl).trans c3
   have d4:=(hb2.cell (p:=⟨b,_,none⟩) hbl).trans c4
   have hbw:=Nat.lt_of_lt_of_le hbl hb2.size
   obtain ⟨hok,hlk⟩:=zm5 (M:=M) (by rw [<- HN.out]; exact hln) hV hM HMK.out HND.out hm
   have HOK:=zh hok; have HLK:=zh hlk; have HMM:=zh (HMK.out m (List.mem_of_getElem? hm)); have HFK:=zh (zhw (V:=V') (M:=M) hm)
   clear c0 c1 c2 c3 c4 hcl hok hlk hb2 hm
   obtain ⟨op,x,y,a1,b1⟩:=m
   simp only at d0 d1 d2 d3 d4
   go_wp2_with (go_at_call 30; go_must (refine (zrc w1.heap.size w1.heap.size V' M hV h1 hM (foldK V' M f k) ⟨op,x,y,a1,b1⟩ HMM.out HOK.out (fun s e => by have:=HLK.out s e; omega) _ (HI.out.c.below (by go_grown))).mono ?_; rintro e w2 ⟨rfl,hf,hc⟩; have H2:=zh (HI.out.next (by go_grown) hf hc); clear hf hc))
   go_roundg (n - (k + 1))
   case rel => exact ⟨k + 1,by omega,rfl,by go_num,by rw [HFK.out]; exact H2.out⟩
   case measure => omega
  ·have hkn:k = n:=by omega
   subst hkn
   obtain ⟨S,hS⟩:=zx (foldK V' M f k)
   have hfi:=HFI.out
   rw [<- hS] at hfi HI ⊢
   have r6:=R6.out.below HI.out.b R6.out.lt
   have z0:=r6.cell; have z1:=r6.free; have z2:=r6.lt
   have HR6:=zh r6
   obtain ⟨stk,hr⟩:=HI.out.c.row
   have y0:=hr.cell; have y2:=hr.lt
   have HS:=zh hS
   clear hr r6 hS hb2
   have hne1:w.heap.size ≠ w1.heap.size:=Nat.ne_of_lt R6.out.lt
   have hne2:w1.heap.size ≠ w.heap.size:=fun e => hne1 e.symm
   rcases S with _ | _ | ⟨d,_ | ⟨d',s⟩⟩
   ·clear hfi
    go_upto_region 13 with fail
    go_big_region
    go_wp2
    rw [<- HS.out]
    refine zah (fun X => Row X w.heap.size 30 #[.int .i64 0,.int .i64 0,.slice none 0 0,.slice none 0 0] /\ Below w.heap.size w X) ⟨(zaz HR6.out (zba _ w.heap.size) HB2.out zn).1.drew,(zaz HR6.out (zba _ w.heap.size) HB2.out zn).2.2.drew⟩ ?_
    rintro X ⟨r0,hb⟩
    have b0:=r0.cell
    have q0:=b0 0; have q1:=b0 1; have q2:=b0 2; have q3:=b0 3
    simp only [zg] at q0 q1 q2 q3
    exact bodyPost_ret (v:=.tuple #[.agg #[.int .i64 0,.int .i64 0,.slice none 0 0,.slice none 0 0],.int .i64 10]) (by simp [results,Tryz.results11,go_sem,q0,q1,q2,q3]) rfl ⟨_,_,_,_,_,_,rfl,hb,zba _ _⟩
   ·have:=(hfi _ rfl).1; cases this
   ·go_wp2_with (go_at_call 31; go_must (refine (zcr w1.heap.size w1.heap.size V' V' M (some [d]) (fun s e => by cases e; simp) _ (HI.out.c.below (by go_grown))).mono ?_; rintro e w2 ⟨i,j,A1,n1,c1,A2,n2,c2,rfl,ht,hf,_⟩; have HT:=zh (ht d [] rfl); have R7:=zh (hf.rows _ _ _ hne1 HR6.out); have b0:=R7.out.cell; have b1:=R7.out.free; have HF:=zh ((HI.out.b.trans ((by go_grown:Below wr.heap.size wr _).mono HI.out.c.le)).trans hf.below); clear hf ht z0 z1 z2 y0 y2))
    rw [<- HS.out]
    obtain ⟨vn,vf,ex,_⟩:=id HT.out
    simp only [Value.agg.injEq,Array.mk.injEq,List.cons.injEq,Value.int.injEq,true_and,and_true] at ex
    obtain ⟨rfl,rfl,_⟩:=ex
    refine zah (fun X => Row X w.heap.size 30 #[.int .i64 (d.raw V').vars,.int .i64 (d.raw V').empty,.slice A1 n1 c1,.slice A2 n2 c2] /\ TDO X w1.heap.size (.agg #[.int .i64 (d.raw V').vars,.int .i64 (d.raw V').empty,.slice A1 n1 c1,.slice A2 n2 c2]) (d.raw V') /\ Below w.heap.size w X) (zaz R7.out HT.out (HB.out.trans (HF.out.mono HB.out.size)) zn) ?_
    rintro X ⟨r0,ht,hb⟩
    have b0:=r0.cell
    have q0:=b0 0; have q1:=b0 1; have q2:=b0 2; have q3:=b0 3
    simp only [zg] at q0 q1 q2 q3
    exact bodyPost_ret (v:=.tuple #[.agg #[.int .i64 (d.raw V').vars,.int .i64 (d.raw V').empty,.slice A1 n1 c1,.slice A2 n2 c2],.int .i64 0]) (by simp [results,Tryz.results11,go_sem,q0,q1,q2,q3]) rfl ⟨_,_,_,_,_,_,rfl,hb,ht.mono HB.out.size⟩
   ·have:=(hfi _ rfl).1
    simp [NeedC] at this
theorem zax (f:List Mk) (v:Value) (vars M:Int) (w:World) (hv:MS w v f) :
  Calls Tryz.prog 11 #[v,.int .i64 vars,.int .i64 M] w (RetC w (compS f vars M)):=by
 by_cases h:zai f vars true ≠ 0 \/ M < 1 \/ 64 < M
 ·exact zk0 f v vars M w hv h
 ·have h0:zai f vars true = 0:=by omega
  obtain ⟨V,t,rfl,_⟩:=zd5 h0
  obtain ⟨M',rfl⟩:∃ M':Nat,M = M':=Int.eq_ofNat_of_zero_le (by omega)
  exact zj2 f v V M' w hv h0 (by omega) (by omega)
end Go.Proofs.YthdabkmkgkkmcaaGreatDoor
