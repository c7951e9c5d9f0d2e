/- ModelTrees: for every formula, number of variables and tree the law returns true. -/
import Derived.Test.YtgeklibilgfjbaaDoorMdlF
import Derived.Test.YtgeklibilgfjbaaDoorRfD
import Derived.Test.YtgeklibilgfjbaaDoorEqA
set_option linter.unusedSimpArgs false
set_option linter.unusedVariables false
namespace Go.Proofs.YtgeklibilgfjbaaDoor
open Go.RowKit

set_option maxRecDepth 100000 in
set_option maxHeartbeats 4000000 in
theorem trees_walk (f : List Mk) (z : Int) (l : List Lf) (v u : Value) (w : World) (hv : MS w v f) (hu : TS w u l) (hdb : DB w) :
    Calls Tryd.prog 24 #[v, .int .i64 z, u] w fun e w' => e = .returned (.bool true) ∧ Below w.heap.size w w' := by
  have HV := Lib.hid hv; have HU := Lib.hid hu; have HDB := Lib.hid hdb
  obtain ⟨_, A2, d, rfl, hd1, hd2, -⟩ := hu
  obtain ⟨n, hn⟩ : ∃ n, n = l.length := ⟨_, rfl⟩
  rw [← hn] at hd1 HU ⊢
  have hcut := fun W (hW : TS W (.slice A2 n d) l) => hW.cut (min (n : Int) 40).toNat (by omega) A2 (fun _ => rfl)
  have hcb := fun W (hW : TS W (.slice A2 n d) l) => copy_tree (l.take (min (n : Int) 40).toNat) _ W (hcut W hW) (by rw [List.length_take]; omega)
  rw [show (40 : Int) = ((40 : Nat) : Int) from rfl, take_min l n 40 hn, show ((40 : Nat) : Int) = 40 from rfl] at hcb hcut
  obtain ⟨a, ha⟩ : ∃ a, a = f.take 70 := ⟨_, rfl⟩
  have hal : a.length ≤ 1000000 := by rw [ha, List.length_take]; omega
  obtain ⟨b, hb⟩ : ∃ b, b = l.take 40 := ⟨_, rfl⟩
  have hbl : b.length ≤ 40 := by rw [hb, List.length_take]; omega
  have hfw := fun W (hW : MS W v f) => few16_any f v W hW
  rw [← ha] at hfw
  rw [← hb] at hcb hcut
  have HFW := Lib.hid hfw; have HCB := Lib.hid hcb; have HCUT := Lib.hid hcut
  have HW1 := Lib.hid (fun W x q (h : MS W x a) (h2 : TS W q b) (h3 : DB W) => MTree_any a x q z b W h h2 h3)
  have HW2 := Lib.hid (fun W x q (h : MS W x a) (h2 : TS W q b) => RTree_any a x q z b W h h2)
  have heqm := fun W x y (h : MS W x a) (h2 : MS W y a) => equalMSO a a x y W h h2 hal
  rw [show decide (a = a) = true by simp] at heqm
  have heqb := fun W x y (h : TS W x b) (h2 : TS W y b) => equalTree b b x y W h h2 (by omega)
  rw [show decide (b = b) = true by simp] at heqb
  have HEM := Lib.hid heqm; have HEB := Lib.hid heqb
  have j1 : (0 : Int) ≤ min (n : Int) 40 := by omega
  have j2 : min (n : Int) 40 ≤ (d : Int) := by omega
  have HB : Hid (Below w.heap.size w w) := Below.refl _ _
  generalize hR1 : modelTreeS a z b = R1 at *
  clear hfw hcb hcut ha hb hdb heqm heqb hn hR1 hv hal hbl
  obtain ⟨r1, e1⟩ := R1
  go_enter Tryd.func24, Tryd.ntmps24
  go_upto_region 1 with (fail)
  first
  | go_region_held3 (fun W => True) (trivial) (first
    | (go_at_call 78; (with_reducible refine (HFW.out _ (HV.out.below HB.out.drew (Nat.le_refl _))).mono ?_); rintro e w1 ⟨v1, rfl, hb1, ho1⟩; have H1 := Lib.hid ho1.ms; (first | (replace H2 := Lib.hid (H2.out.below (undrawn_h hb1) (Nat.le_refl _))) | skip); replace HB := Lib.hid (HB.out.drew.trans (hb1.mono HB.out.drew.size)); clear hb1 ho1)
    | (go_at_call 84; (with_reducible refine (HCB.out _ (HU.out.below HB.out.drew (Nat.le_refl _))).mono ?_); rintro e w2 ⟨v2, rfl, hb2, ho2⟩; have H2 := Lib.hid ho2.ts; (first | (replace H1 := Lib.hid (H1.out.below (undrawn_h hb2) (Nat.le_refl _))) | skip); replace HB := Lib.hid (HB.out.drew.trans (hb2.mono HB.out.drew.size)); clear hb2 ho2)
    | (go_at_call 78; (with_reducible refine (HFW.out _ (HV.out.below HB.out (Nat.le_refl _))).mono ?_); rintro e w1 ⟨v1, rfl, hb1, ho1⟩; have H1 := Lib.hid ho1.ms; (first | (replace H2 := Lib.hid (H2.out.below hb1 (Nat.le_refl _))) | skip); replace HB := Lib.hid (HB.out.trans (hb1.mono HB.out.size)); clear hb1 ho1)
    | (go_at_call 84; (with_reducible refine (HCB.out _ (HU.out.below HB.out (Nat.le_refl _))).mono ?_); rintro e w2 ⟨v2, rfl, hb2, ho2⟩; have H2 := Lib.hid ho2.ts; (first | (replace H1 := Lib.hid (H1.out.below hb2 (Nat.le_refl _))) | skip); replace HB := Lib.hid (HB.out.trans (hb2.mono HB.out.size)); clear hb2 ho2))
  | fail
  all_goals
    go_wp2_with (first
    | (go_at_call 85; ((with_reducible refine (HW1.out _ _ _ H1.out H2.out (HDB.out.below HB.out (Nat.le_refl _))).mono ?_); rintro e w3 ⟨rfl, hb2⟩; replace H1 := Lib.hid (H1.out.below hb2 (Nat.le_refl _)); replace H2 := Lib.hid (H2.out.below hb2 (Nat.le_refl _)); replace HB := Lib.hid (HB.out.trans (hb2.mono HB.out.size)); clear hb2))
    | (go_at_call 86; ((with_reducible refine (HW2.out _ _ _ H1.out H2.out).mono ?_); rintro e w3 ⟨rfl, hb2⟩; replace H1 := Lib.hid (H1.out.below hb2 (Nat.le_refl _)); replace H2 := Lib.hid (H2.out.below hb2 (Nat.le_refl _)); replace HB := Lib.hid (HB.out.trans (hb2.mono HB.out.size)); clear hb2))
    | (go_at_call 78; ((with_reducible refine (HFW.out _ (HV.out.below HB.out (Nat.le_refl _))).mono ?_); rintro e w3 ⟨v3, rfl, hb2, ho3⟩; replace H1 := Lib.hid (H1.out.below hb2 (Nat.le_refl _)); replace H2 := Lib.hid (H2.out.below hb2 (Nat.le_refl _)); have H3 := Lib.hid ho3.ms; clear ho3; replace HB := Lib.hid (HB.out.trans (hb2.mono HB.out.size)); clear hb2))
    | (go_at_call 65; ((with_reducible refine (HEM.out _ _ _ H1.out H3.out).mono ?_); rintro e w3 ⟨rfl, hb2⟩; replace H1 := Lib.hid (H1.out.below hb2 (Nat.le_refl _)); replace H2 := Lib.hid (H2.out.below hb2 (Nat.le_refl _)); replace HB := Lib.hid (HB.out.trans (hb2.mono HB.out.size)); clear hb2))
    | (go_at_call 37; ((with_reducible refine (HEB.out _ _ _ H2.out (HCUT.out _ (HU.out.below HB.out (Nat.le_refl _)))).mono ?_); rintro e w3 ⟨rfl, hb2⟩; replace H1 := Lib.hid (H1.out.below hb2 (Nat.le_refl _)); replace H2 := Lib.hid (H2.out.below hb2 (Nat.le_refl _)); replace HB := Lib.hid (HB.out.trans (hb2.mono HB.out.size)); clear hb2))
    | (go_at_call 25; ((with_reducible refine (awake16 _ (HDB.out.below HB.out (Nat.le_refl _))).mono ?_); rintro e w3 ⟨rfl, hb2⟩; replace HB := Lib.hid (HB.out.trans (hb2.mono HB.out.size)); clear hb2)))
    go_returns
    exact ⟨rfl, HB.out⟩
end Go.Proofs.YtgeklibilgfjbaaDoor
