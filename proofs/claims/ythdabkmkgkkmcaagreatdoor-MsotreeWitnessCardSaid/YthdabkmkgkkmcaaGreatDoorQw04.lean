/- Part 4 of the proof; it says: the law returns true for every input. No conditions but those that each theorem states. -/
import Derived.Deep.RegionHeld3
import Derived.Test.YthdabkmkgkkmcaaGreatDoorPb01
import Derived.Test.YthdabkmkgkkmcaaGreatDoorPb03
import Derived.Test.YthdabkmkgkkmcaaGreatDoorPb04
import Derived.Test.YthdabkmkgkkmcaaGreatDoorQa01
import Derived.Test.YthdabkmkgkkmcaaGreatDoorPb05
import Derived.Test.YthdabkmkgkkmcaaGreatDoorPb06
import Derived.Test.YthdabkmkgkkmcaaGreatDoorPb07
import Derived.Test.YthdabkmkgkkmcaaGreatDoorPb08
import Derived.Test.YthdabkmkgkkmcaaGreatDoorPb09
import Derived.Test.YthdabkmkgkkmcaaGreatDoorPb10
import Derived.Test.YthdabkmkgkkmcaaGreatDoorPb11
import Derived.Test.YthdabkmkgkkmcaaGreatDoorPb12
import Derived.Test.YthdabkmkgkkmcaaGreatDoorPb13
import Derived.Test.YthdabkmkgkkmcaaGreatDoorPb14
import Derived.Test.YthdabkmkgkkmcaaGreatDoorQa02
import Derived.Test.YthdabkmkgkkmcaaGreatDoorPb15
import Derived.Test.YthdabkmkgkkmcaaGreatDoorQa03
import Derived.Test.YthdabkmkgkkmcaaGreatDoorPb16
import Derived.Test.YthdabkmkgkkmcaaGreatDoorPb17
import Derived.Test.YthdabkmkgkkmcaaGreatDoorPb18
import Derived.Test.YthdabkmkgkkmcaaGreatDoorPb19
import Derived.Test.YthdabkmkgkkmcaaGreatDoorPb20
import Derived.Test.YthdabkmkgkkmcaaGreatDoorPb21
import Derived.Test.YthdabkmkgkkmcaaGreatDoorPb22
import Derived.Test.YthdabkmkgkkmcaaGreatDoorPb23
import Derived.Test.YthdabkmkgkkmcaaGreatDoorPb24
import Derived.Test.YthdabkmkgkkmcaaGreatDoorPb25
import Derived.Test.YthdabkmkgkkmcaaGreatDoorPb26
import Derived.Test.YthdabkmkgkkmcaaGreatDoorPb27
import Derived.Test.YthdabkmkgkkmcaaGreatDoorPb28
import Derived.Test.YthdabkmkgkkmcaaGreatDoorPb29
import Derived.Test.YthdabkmkgkkmcaaGreatDoorPb30
import Derived.Test.YthdabkmkgkkmcaaGreatDoorPb31
import Derived.Test.YthdabkmkgkkmcaaGreatDoorPb32
import Derived.Test.YthdabkmkgkkmcaaGreatDoorPb33
import Derived.Test.YthdabkmkgkkmcaaGreatDoorPb34
import Derived.Test.YthdabkmkgkkmcaaGreatDoorPb35
import Derived.Test.YthdabkmkgkkmcaaGreatDoorPb36
import Derived.Test.YthdabkmkgkkmcaaGreatDoorPb37
import Derived.Test.YthdabkmkgkkmcaaGreatDoorPb38
import Derived.Test.YthdabkmkgkkmcaaGreatDoorPb39
import Derived.Test.YthdabkmkgkkmcaaGreatDoorQa04
import Derived.Test.YthdabkmkgkkmcaaGreatDoorQa05
import Derived.Test.YthdabkmkgkkmcaaGreatDoorQa06
import Derived.Test.YthdabkmkgkkmcaaGreatDoorPb02
import Derived.Test.YthdabkmkgkkmcaaGreatDoorPb42
import Derived.Test.YthdabkmkgkkmcaaGreatDoorQa08
import Derived.Test.YthdabkmkgkkmcaaGreatDoorQw01
import Derived.Test.YthdabkmkgkkmcaaGreatDoorQw02
import Derived.Test.YthdabkmkgkkmcaaGreatDoorQw03
set_option linter.unusedSimpArgs false
set_option linter.unusedVariables false
set_option maxRecDepth 100000
set_option maxHeartbeats 32000000
namespace Go.Proofs.YthdabkmkgkkmcaaGreatDoor
open Go.RowKit
structure WiI (w:World) (x:List Mk) (y LA LB:List Lf) (v5 v6 vA vB:Value) (W:World):Prop where
 b:Below w.heap.size w W
 x:MS W v5 x
 y:TS W v6 y
 A:TS W vA LA
 B:TS W vB LB
 db:DB W
theorem WiI.next {w:World} {x:List Mk} {y LA LB:List Lf} {v5 v6 vA vB:Value} {W W':World} (h:WiI w x y LA LB v5 v6 vA vB W) (hb:Below W.heap.size W W'):WiI w x y LA LB v5 v6 vA vB W' :=
 ⟨h.b.trans (hb.mono h.b.size),h.x.below hb zn,h.y.below hb zn,h.A.below hb zn,h.B.below hb zn,h.db.below hb zn⟩
inductive WiA (e:Int) (s want:Bool) (gA:Int) (bA:Bool) (cmp:Int) (g:Int) (b:Bool) (none':Bool):Prop where
 | err (h:e ≠ 0) (hs:s = false)
 | no (h:e = 0) (hs:s = (!want)) (hn:g = 0 -> b = none')
 | yes (h:e = 0) (hs:s = want) (hm:gA = 0 -> bA = !none') (hc:g = 0 -> b = (!none') -> 0 <= cmp)
theorem zxg (f:List Mk) (tl:List Lf) (v u:Value) (w:World) (hv:MS w v f) (hu:TS w u tl) (hdb:DB w) :
  Calls Tryz.prog 7 #[v,u] w fun e w' => e = .returned (.bool true) /\ Below w.heap.size w w':=by
 have HV:=zh hv; have HU:=zh hu; have HDB:=zh hdb
 obtain ⟨x,hx⟩:=zx (f.take 12)
 obtain ⟨y,hy⟩:=zx (tl.take 7)
 have hfw:=fun W (h:MS W v f) => few21W f v W h
 rw [<- hx] at hfw
 have hlb:∀ m ∈ y,0 <= m.label:=fun m hm => by rw [hy] at hm; exact (hu.1 m (List.mem_of_mem_take hm)).1
 have h15:y.length <= 15:=by rw [hy,List.length_take]; omega
 obtain ⟨LA,LB,sA,sB,eA,eB,hR⟩:=wit_ok x y hlb h15
 obtain ⟨_,A,c,rfl,hc1,hc2,_⟩:=hu
 obtain ⟨n,hn⟩:=zx tl.length
 rw [<- hn] at hc1 HU ⊢
 have hct:=fun W (hW:TS W (.slice A n c) tl) => zwd (tl.take (min (n:Int) 7).toNat) _ W (hW.cut (min (n:Int) 7).toNat (by omega) A (fun _ => rfl)) (by rw [List.length_take]; omega)
 rw [show (7:Int) = ((7:Nat):Int) from rfl,zt7 tl n 7 hn,<- hy] at hct
 have HFW:=zh hfw; have HCT:=zh hct; have HR:=zh hR
 have j1:(0:Int) <= min (n:Int) 7:=by omega
 have j2:min (n:Int) 7 <= (c:Int):=by omega
 have j5:(min (n:Int) 7).toNat <= c:=by omega
 clear hfw hct hlb h15 hv hdb hn hx hy hR
 go_enter Tryz.func7,Tryz.ntmps7
 go_upto_region 1 with fail
 go_cut [5,6] from 19 to 26 (fun u1 u2 wx => MS wx u1 x /\ TS wx u2 y /\ Below w.heap.size w wx)
 case first =>
  first
  | go_region_held3 (fun W => True) (trivial) (first
   | (go_at_call 9; refine (HFW.out _ (HV.out.below drewW.out zn)).mono ?_; rintro e w2 ⟨v2,rfl,hb,ho⟩; have HB2:=zh (zwn hb); have H7:=zh ho.ms; clear hb ho)
   | (go_at_call 24; refine (HCT.out _ (HU.out.below HB2.out zn)).mono ?_; rintro e w3 ⟨v3,rfl,hb,ho⟩; have HB3:=zh (HB2.out.trans (hb.mono HB2.out.size)); have H8:=zh ho.ts; replace H7:=zh (H7.out.below hb zn); clear hb ho))
  | fail
  all_goals
   go_wp2_with fail
   go_meet
   exact ⟨H7.out,H8.out,HB3.out⟩
 case rest =>
  obtain ⟨h7,h8,hb⟩:=hcut
  rename_i wc
  have HX:=zh h7; have HY:=zh h8; have HB:=zh hb
  clear h7 h8 hb HFW HCT j1 j2 j5 HV HU
  have HDB2:=zh (HDB.out.below HB.out zn)
  obtain ⟨M,hM⟩:=zx (zc2 x 3 y)
  obtain ⟨MA,hMA⟩:=zx (zc2 x 3 LA)
  obtain ⟨MB,hMB⟩:=zx (zc2 x 3 LB)
  obtain ⟨cA,hcA⟩:=zx (ze0 y LA)
  obtain ⟨cB,hcB⟩:=zx (ze0 y LB)
  have hmt:=fun v u W (h:MS W v x) (h2:TS W u y) (h3:DB W) => zwm x v u 3 y W h h2 h3
  have hmA:=fun v u W (h:MS W v x) (h2:TS W u LA) (h3:DB W) => zwm x v u 3 LA W h h2 h3
  have hmB:=fun v u W (h:MS W v x) (h2:TS W u LB) (h3:DB W) => zwm x v u 3 LB W h h2 h3
  have hpA:=fun v u W (h:TS W v y) (h2:TS W u LA) => zk1 y LA v u W h h2
  have hpB:=fun v u W (h:TS W v y) (h2:TS W u LB) => zk1 y LB v u W h h2
  have hA:WiA eA sA true MA.2 MA.1 cA M.2 M.1 false:=by
   by_cases h:eA = 0
   ·cases hs:sA with
    | true => exact .yes h rfl (fun hg => by rw [hMA] at hg ⊢; exact HR.out.f1 h hs hg) (fun hg hb => by rw [hM] at hg hb; rw [hcA]; exact HR.out.f2 h hs hg hb)
    | false => exact .no h rfl (fun hg => by rw [hM] at hg ⊢; exact HR.out.f3 h hs hg)
   ·exact .err h (HR.out.f4 h)
  have hB:WiA eB sB false MB.2 MB.1 cB M.2 M.1 true:=by
   by_cases h:eB = 0
   ·cases hs:sB with
    | false => exact .yes h rfl (fun hg => by rw [hMB] at hg ⊢; exact HR.out.g1 h hs hg) (fun hg hb => by rw [hM] at hg hb; rw [hcB]; exact HR.out.g2 h hs hg hb)
    | true => exact .no h rfl (fun hg => by rw [hM] at hg ⊢; exact HR.out.g3 h hs hg)
   ·exact .err h (HR.out.g4 h)
  rw [<- hM] at hmt
  rw [<- hMA] at hmA
  rw [<- hMB] at hmB
  rw [<- hcA] at hpA
  rw [<- hcB] at hpB
  have HMT:=zh hmt; have HMA:=zh hmA; have HMB:=zh hmB; have HPA:=zh hpA; have HPB:=zh hpB
  have HSA:=zh HR.out.sat; have HSB:=zh HR.out.val
  clear hmt hmA hmB hpA hpB hM hMA hMB hcA hcB HR
  obtain ⟨b,g⟩:=M
  obtain ⟨bA,gA⟩:=MA
  obtain ⟨bB,gB⟩:=MB
  simp only at hA hB HMT HMA HMB
  go_upto_region 5 with (first
   | (go_at_call 25; go_must (refine (HMT.out _ _ _ HX.out HY.out HDB2.out).mono ?_; rintro e w4 ⟨rfl,hb⟩; have HN:=zh hb; clear hb))
   | (go_at_call 26; go_must (refine (HSA.out _ _ (HX.out.below HN.out zn)).mono ?_; rintro e w5 ⟨vA,rfl,hb,ho⟩; have HN5:=zh (HN.out.trans (hb.mono HN.out.size)); have HLA:=zh ho.ts; clear hb ho))
   | (go_at_call 17; go_must (refine (HSB.out _ _ (HX.out.below HN5.out zn)).mono ?_; rintro e w6 ⟨vB,rfl,hb,ho⟩; have HN6:=zh (HN5.out.trans (hb.mono HN5.out.size)); have HLB:=zh ho.ts; replace HLA:=zh (HLA.out.below hb zn); clear hb ho)))
  have HI:Hid (WiI w x y LA LB u5 u6 vA vB w6):=⟨HB.out.trans (HN6.out.mono HB.out.size),HX.out.below HN6.out zn,HY.out.below HN6.out zn,HLA.out,HLB.out,HDB2.out.below HN6.out zn⟩
  clear HX HY HB HN HN5 HN6 HLA HLB HDB2 HMT HSA HSB
  have hg:g ≠ 0 \/ (g = 0 /\ b = true) \/ (g = 0 /\ b = false):=by
   by_cases h:g = 0
   ·cases b
    ·exact .inr (.inr ⟨h,rfl⟩)
    ·exact .inr (.inl ⟨h,rfl⟩)
   ·exact .inl h
  have ha:(eA ≠ 0 /\ sA = false) \/ (eA = 0 /\ sA = false /\ (g = 0 -> b = false)) \/ (eA = 0 /\ sA = true /\ gA ≠ 0 /\ (g = 0 -> b = true -> 0 <= cA)) \/ (eA = 0 /\ sA = true /\ gA = 0 /\ bA = true /\ (g = 0 -> b = true -> 0 <= cA)):=by
   rcases hA with ⟨h,hs⟩ | ⟨h,hs,hn⟩ | ⟨h,hs,hm,hc⟩
   ·exact .inl ⟨h,hs⟩
   ·exact .inr (.inl ⟨h,hs,hn⟩)
   ·by_cases h2:gA = 0
    ·exact .inr (.inr (.inr ⟨h,hs,h2,hm h2,hc⟩))
    ·exact .inr (.inr (.inl ⟨h,hs,h2,hc⟩))
  have hb:(eB ≠ 0 /\ sB = false) \/ (eB = 0 /\ sB = true /\ (g = 0 -> b = true)) \/ (eB = 0 /\ sB = false /\ gB ≠ 0 /\ (g = 0 -> b = false -> 0 <= cB)) \/ (eB = 0 /\ sB = false /\ gB = 0 /\ bB = false /\ (g = 0 -> b = false -> 0 <= cB)):=by
   rcases hB with ⟨h,hs⟩ | ⟨h,hs,hn⟩ | ⟨h,hs,hm,hc⟩
   ·exact .inl ⟨h,hs⟩
   ·exact .inr (.inl ⟨h,hs,hn⟩)
   ·by_cases h2:gB = 0
    ·exact .inr (.inr (.inr ⟨h,hs,h2,hm h2,hc⟩))
    ·exact .inr (.inr (.inl ⟨h,hs,h2,hc⟩))
  clear hA hB
  rcases hg with hg | ⟨rfl,rfl⟩ | ⟨rfl,rfl⟩ <;> rcases ha with ⟨ha,rfl⟩ | ⟨rfl,rfl,ha⟩ | ⟨rfl,rfl,ha2,ha⟩ | ⟨rfl,rfl,rfl,rfl,ha⟩ <;> rcases hb with ⟨hb,rfl⟩ | ⟨rfl,rfl,hb⟩ | ⟨rfl,rfl,hb2,hb⟩ | ⟨rfl,rfl,rfl,rfl,hb⟩
  all_goals
   first
   | exact absurd (ha rfl) (by decide)
   | exact absurd (hb rfl) (by decide)
   | skip
  all_goals (try replace ha:=ha rfl rfl)
  all_goals (try replace hb:=hb rfl rfl)
  all_goals
   go_wp2_with (first
    | (go_at_call 25; (with_reducible refine (HMA.out _ _ _ HI.out.x HI.out.A HI.out.db).mono ?_); rintro e w7 ⟨rfl,hb⟩; replace HI:=zh (HI.out.next hb); clear hb)
    | (go_at_call 25; (with_reducible refine (HMB.out _ _ _ HI.out.x HI.out.B HI.out.db).mono ?_); rintro e w8 ⟨rfl,hb⟩; replace HI:=zh (HI.out.next hb); clear hb)
    | (go_at_call 27; (with_reducible refine (HPA.out _ _ _ HI.out.y HI.out.A).mono ?_); rintro e w9 ⟨rfl,hb⟩; replace HI:=zh (HI.out.next hb); clear hb)
    | (go_at_call 27; (with_reducible refine (HPB.out _ _ _ HI.out.y HI.out.B).mono ?_); rintro e w10 ⟨rfl,hb⟩; replace HI:=zh (HI.out.next hb); clear hb)
    | (go_at_call 12; refine (zky _).mono ?_; rintro e w11 ⟨rfl,hb⟩; replace HI:=zh (HI.out.next hb); clear hb))
   go_returns
   exact ⟨rfl,HI.out.b⟩
end Go.Proofs.YthdabkmkgkkmcaaGreatDoor
namespace Go.Proofs.YthdabkmkgkkmcaaGreatDoor.msotreeWitness
open Go.ChangeShapes Go.WideShapes Go.ChangeAt Go.RowKit
open Go.ChangeMaps (open_string)
theorem rows : ∀ t ∈ Tryz.f7.params.toList, Tryz.prog.readableRec t = true /\ t < Tryz.prog.types.size := by
 rw [Tryz.params7]
 intro t ht
 simp only [List.mem_cons, List.mem_nil_iff, or_false] at ht
 rcases ht with rfl | rfl <;> exact ⟨by kernel_rfl, of_decide_eq_true (by kernel_rfl)⟩
theorem contract (H : Type) (enc : TypeId × Value -> H) (W : World) (base : Nat) (args : Array Value) (ds gs : List (DataW H)) (before : List MemPlace)
  (hval : ∀ (j : Nat) t v, Tryz.f7.params[j]? = some t -> args[j]? = some v -> Value.okWide Tryz.prog W .any base t v)
  (hdb : DB W) (hW : DataW.Whole enc Tryz.prog Tryz.f7.params.toList Rows.msotreeWitnessSpec.vars false W args.toList ds gs before) :
  Calls Tryz.prog 7 args W fun e W' => ∃ v, e = .returned v /\ Rows.msotreeWitnessSpec.post enc Tryz.prog Tryz.f7 false true false false W args v W' := by
 have hW' := hW
 obtain ⟨p, q, hA0, hV, rfl, hfz, hnd⟩ := hW
 have hA : DataW.TrodAll enc Tryz.prog W 0 (fun _ => true) true Tryz.f7.params.toList args.toList ds p := hA0
 rw [Tryz.params7] at hA hval
 obtain ⟨v0, vs0, d0, ds0, p0, q0, hargs, rfl, rfl, h0, r0⟩ := trodAll_cons hA
 obtain ⟨v1, vs1, d1, ds1, p1, q1, rfl, rfl, rfl, h1, r1⟩ := trodAll_cons r0
 obtain ⟨rfl, rfl, rfl⟩ := trodAll_nil r1
 obtain rfl : args = #[v0, v1] := by cases args; simp_all
 obtain ⟨rfl, rfl⟩ := trodVars_none hV
 obtain ⟨f0, hf0⟩ := zfu h0 (hval 0 23 v0 rfl rfl)
 obtain ⟨t1, ht1⟩ := zvx h1 (hval 1 44 v1 rfl rfl)
 refine (zxg f0 t1 v0 v1 W hf0 ht1 hdb).mono fun e W' ⟨he, hb⟩ => ?_
 exact ⟨_, he, zrh rfl rfl rfl hW' hb rows ⟨rfl, rfl, rfl⟩⟩
theorem laid_met (os : Os) : laidMet Tryz.prog Rows.msotreeWitnessRow.laid ((laidWorld os).forCall (fun _ _ => 0) ⟨#[], #[.slice none 0 0, .slice none 0 0], []⟩).memory := laidMet_of_run' 400 (by kernel_rfl) (by kernel_rfl)
theorem witness_reads (os : Os) {H : Type} (enc : TypeId × Value -> H) : ∃ places, DataW.whole enc Tryz.prog ((laidWorld os).forCall (fun _ _ => 0) ⟨#[], #[.slice none 0 0, .slice none 0 0], []⟩).memory Tryz.f7.params.toList Rows.msotreeWitnessSpec.vars false (#[.slice none 0 0, .slice none 0 0] : Array Value).toList 8 = some ([.nil, .nil], [], places) := ⟨[], by kernel_rfl⟩
theorem lifted (os : Os) (started : os.Started) (H : Type) (enc : TypeId × Value -> H) (F : Stop.Interp) :
  ReturnsInHanded {} Tryz.checked os 7 .any ((OpenSpec.ofChange Rows.msotreeWitnessSpec).preRow enc Tryz.prog Tryz.f7 Rows.msotreeWitnessRow.domain false Rows.msotreeWitnessRow.laid) (((OpenSpec.ofChange Rows.msotreeWitnessSpec).at F).post enc Tryz.prog Tryz.f7 false true false false) := by
 obtain ⟨places, hx⟩ := witness_reads os enc
 refine returnsInHanded_of_row (C := Tryz.checked) (s := OpenSpec.ofChange Rows.msotreeWitnessSpec) rowOwn started (by kernel_rfl) Tryz.func7
  (witness_row_at (enc := enc) (C := Tryz.checked) false (laidWorld os) #[.slice none 0 0, .slice none 0 0] rfl (by kernel_rfl) (by kernel_rfl) (by kernel_rfl)
   (OpenSpec.preRow_of_cond 8 hx (by kernel_rfl) (fun k hk => by cases hk) (by kernel_rfl) (laid_met os))) ?_
 intro W base args ds gs before hval hW _ _ _ hL _ _
 exact contract H enc W base args ds gs before hval (zun hL) hW
theorem said : Rows.MsotreeWitnessSaid :=
 OpenClaim.holds_of_cond 7 Tryz.f7 rfl rfl rfl rfl rfl rfl rfl ⟨rfl, rfl, rfl, rfl, rfl⟩ rfl rfl rfl rfl rfl (by kernel_rfl) Tryz.func7 (by kernel_rfl)
  (of_decide_eq_true (by kernel_rfl)) (by unfold Func.isWrapper; first | (rw [if_pos (by decide +kernel)]; kernel_rfl) | (rw [if_neg (by decide +kernel)]; exact ⟨rfl, rfl⟩))
  (fun os started H enc _ F => by rw [OpenClaim.pre_eq_preRow]; exact lifted os started H enc F)
theorem plain (f : FuncId) (fn : Func) (hf : Tryz.pinned.checked.prog.funcNamed "sentinel/sentinellaw21.MsotreeWitness" = some f) (hfn : Tryz.pinned.checked.prog.funcs[f]? = some fn) :
  true = Tryz.pinned.checked.prog.looks [] /\ ∀ (j : Nat) t, fn.params[j]? = some t -> Tryz.pinned.checked.prog.wantsStandIn t = false := by
 obtain rfl : f = 7 := Option.some.inj ((show Tryz.prog.funcNamed "sentinel/sentinellaw21.MsotreeWitness" = some 7 by kernel_rfl).symm.trans hf) |>.symm
 obtain rfl : fn = Tryz.f7 := (Option.some.inj (Tryz.func7.symm.trans hfn)).symm
 refine ⟨by kernel_rfl, fun j t ht => ?_⟩
 rw [Tryz.params7] at ht
 have hm := Array.mem_of_getElem? ht
 simp only [List.mem_toArray, List.mem_cons, List.mem_nil_iff, or_false] at hm
 rcases hm with rfl | rfl
 ·exact (show Tryz.prog.wantsStandIn 23 = false by kernel_rfl)
 ·exact (show Tryz.prog.wantsStandIn 44 = false by kernel_rfl)
theorem card_holds : Rows.MsotreeWitnessCardSaid :=
 Claim7.holds_tied_plain_at .later [] _ _ _ _ said (fun _ h => by cases h) (by kernel_rfl) (fun _ h => by cases h) msotreeWitness_row_tie rfl ⟨rfl, rfl⟩ (by kernel_rfl) rfl plain (by kernel_rfl)
end Go.Proofs.YthdabkmkgkkmcaaGreatDoor.msotreeWitness
