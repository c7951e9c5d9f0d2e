/- TreeMatches: for every tree and all numbers the law returns true. -/
import Derived.Test.YtahimlnddelnbaaDoorRTb
import Derived.Test.YtahimlnddelnbaaDoorOvT
import Derived.Test.YtahimlnddelnbaaDoorTdB
set_option linter.unusedSimpArgs false
set_option linter.unusedVariables false
namespace Go.Proofs.YtahimlnddelnbaaDoor
open Go.RowKit

abbrev CFewT (l a : List Lf) : Prop := ∀ W v, TS W v l → Calls Tryd.prog 22 #[v] W (RetTO W a)
abbrev CEqT (a : List Lf) : Prop := ∀ W v u, TS W v a → TS W u a → Calls Tryd.prog 33 #[v, u] W fun e w' => e = .returned (.bool true) ∧ Below W.heap.size W w'
abbrev CAwk : Prop := ∀ W, Calls Tryd.prog 35 #[] W fun e w' => e = .returned (.bool true) ∧ Below W.heap.size W w'
abbrev COver : Prop := ∀ (f : List Lf) (v : Value) (B : Nat) (w : World), TO w B v f → Calls Tryd.prog 34 #[v] w fun e w' => e = .returned (.tuple #[]) ∧ w.grownBy w' v.ownBlock
theorem eqT_yes (t : List Lf) (hl : t.length ≤ 1000000) : CEqT t := fun W v u h1 h2 => by
  have q := equalTree t t v u W h1 h2 hl
  rw [show decide (t = t) = true by simp] at q
  exact q

theorem sub_len {t : List Lf} (i : Int) (ht : t.length ≤ 40) : (subE t i).1.length ≤ 1000000 := by
  unfold subE
  split
  · simp
  · split
    · simp
    · rename_i h1 h2
      have hf : formedT t = true := by simpa using h1
      have := (block_len (c := i) hf (.inr ⟨by omega, by omega⟩)).1
      simp only; omega
theorem mir_len {t : List Lf} (ht : t.length ≤ 40) : (mirrorE t).1.length ≤ 1000000 := by
  unfold mirrorE
  split
  · simp
  · rename_i h1
    have hf : formedT t = true := by simpa using h1
    simp only; rw [mirrorS_len hf]; omega

set_option maxRecDepth 100000 in
set_option maxHeartbeats 8000000 in
theorem tmatch_walk (haw : CAwk) (l a x m : List Lf) (vars i ck ex em : Int) (d s : Nat) (v : Value) (w : World) (hv : TS w v l)
    (HFL : Hid (CFewT l a)) (HCK : Hid (∀ W v, TS W v a → Calls Tryd.prog 23 #[v, .int .i64 vars] W fun e w' => e = .returned (.int .i64 ck) ∧ Below W.heap.size W w')) (HRC : Hid (∀ W v, TS W v a → Calls Tryd.prog 24 #[v, .int .i64 vars] W fun e w' => e = .returned (.int .i64 ck) ∧ Below W.heap.size W w'))
    (HD : Hid (∀ W v, TS W v a → Calls Tryd.prog 25 #[v] W fun e w' => e = .returned (.int .i64 (d : Nat)) ∧ Below W.heap.size W w')) (HRD : Hid (∀ W v, TS W v a → Calls Tryd.prog 26 #[v] W fun e w' => e = .returned (.int .i64 (d : Nat)) ∧ Below W.heap.size W w'))
    (HZ : Hid (∀ W v, TS W v a → Calls Tryd.prog 27 #[v] W fun e w' => e = .returned (.int .i64 (s : Nat)) ∧ Below W.heap.size W w')) (HRZ : Hid (∀ W v, TS W v a → Calls Tryd.prog 28 #[v] W fun e w' => e = .returned (.int .i64 (s : Nat)) ∧ Below W.heap.size W w'))
    (HSB : Hid (∀ W v, TS W v a → Calls Tryd.prog 29 #[v, .int .i64 i] W (RetTT W x ex))) (HRS : Hid (∀ W v, TS W v a → Calls Tryd.prog 30 #[v, .int .i64 i] W (RetTT W x ex)))
    (HMI : Hid (∀ W v, TS W v a → Calls Tryd.prog 31 #[v] W (RetTT W m em))) (HRM : Hid (∀ W v, TS W v a → Calls Tryd.prog 32 #[v] W (RetTT W m em)))
    (HEX : Hid (CEqT x)) (HEM : Hid (CEqT m)) (HEA : Hid (CEqT a)) (HOV : Hid COver) :
    Calls Tryd.prog 4 #[v, .int .i64 vars, .int .i64 i] w fun e w' => e = .returned (.bool true) ∧ Below w.heap.size w w' := by
  have HV := Lib.hid hv; have HAW := Lib.hid haw
  clear hv haw
  go_enter Tryd.func4, Tryd.ntmps4
  go_wp2_with (first
    | (go_at_call 22; (with_reducible refine (HFL.out _ _ HV.out).mono ?_); rintro e wx ⟨va, rfl, hb, hq⟩; have HA := Lib.hid hq.ts; replace HV := Lib.hid (HV.out.to hb); have HB := Lib.hid hb; clear hb hq)
    | (go_at_call 23; (with_reducible refine (HCK.out _ _ HA.out).mono ?_); rintro e wx ⟨rfl, hb⟩; (first | (replace HB := Lib.hid (HB.out.trans (hb.mono HB.out.size))) | skip); (first | (replace HV := Lib.hid (HV.out.below hb (Nat.le_refl _))) | skip); (first | (replace HA := Lib.hid (HA.out.below hb (Nat.le_refl _))) | skip); clear hb)
    | (go_at_call 24; (with_reducible refine (HRC.out _ _ HA.out).mono ?_); rintro e wx ⟨rfl, hb⟩; (first | (replace HB := Lib.hid (HB.out.trans (hb.mono HB.out.size))) | skip); (first | (replace HV := Lib.hid (HV.out.below hb (Nat.le_refl _))) | skip); (first | (replace HA := Lib.hid (HA.out.below hb (Nat.le_refl _))) | skip); clear hb)
    | (go_at_call 25; (with_reducible refine (HD.out _ _ HA.out).mono ?_); rintro e wx ⟨rfl, hb⟩; (first | (replace HB := Lib.hid (HB.out.trans (hb.mono HB.out.size))) | skip); (first | (replace HV := Lib.hid (HV.out.below hb (Nat.le_refl _))) | skip); (first | (replace HA := Lib.hid (HA.out.below hb (Nat.le_refl _))) | skip); clear hb)
    | (go_at_call 26; (with_reducible refine (HRD.out _ _ HA.out).mono ?_); rintro e wx ⟨rfl, hb⟩; (first | (replace HB := Lib.hid (HB.out.trans (hb.mono HB.out.size))) | skip); (first | (replace HV := Lib.hid (HV.out.below hb (Nat.le_refl _))) | skip); (first | (replace HA := Lib.hid (HA.out.below hb (Nat.le_refl _))) | skip); clear hb)
    | (go_at_call 27; (with_reducible refine (HZ.out _ _ HA.out).mono ?_); rintro e wx ⟨rfl, hb⟩; (first | (replace HB := Lib.hid (HB.out.trans (hb.mono HB.out.size))) | skip); (first | (replace HV := Lib.hid (HV.out.below hb (Nat.le_refl _))) | skip); (first | (replace HA := Lib.hid (HA.out.below hb (Nat.le_refl _))) | skip); clear hb)
    | (go_at_call 28; (with_reducible refine (HRZ.out _ _ HA.out).mono ?_); rintro e wx ⟨rfl, hb⟩; (first | (replace HB := Lib.hid (HB.out.trans (hb.mono HB.out.size))) | skip); (first | (replace HV := Lib.hid (HV.out.below hb (Nat.le_refl _))) | skip); (first | (replace HA := Lib.hid (HA.out.below hb (Nat.le_refl _))) | skip); clear hb))
  clear HCK HRC HD HRD HZ HRZ
  obtain ⟨wc, hwc⟩ : ∃ x, x = wx := ⟨_, rfl⟩
  subst hwc
  go_loopg [8] 2 (fun gk q wr => ∃ k : Nat, k ≤ 2 ∧ gk = 2 - k ∧ q = .int .i64 k ∧ Below wc.heap.size wc wr)
  case atStart => exact ⟨0, by omega, rfl, rfl, Below.refl _ _⟩
  case round =>
    obtain ⟨k, hk, rfl, rfl, hbe⟩ := hrel
    have HBC := Lib.hid hbe
    replace HA := Lib.hid (HA.out.to hbe)
    replace HV := Lib.hid (HV.out.to hbe)
    clear hbe
    by_cases hlt : k < 2
    · have hki : (k : Int) < 2 := by omega
      have HA0 := HA; have HV0 := HV
      have HBW := Lib.hid (Below.refl wr.heap.size wr)
      go_wp2_with (first
    | (go_at_call 29; (with_reducible refine (HSB.out _ _ HA.out).mono ?_); rintro e wx ⟨vx, rfl, hb, hq⟩; (first | (replace HBW := Lib.hid (HBW.out.trans (hb.mono HBW.out.size))) | skip); (first | (replace HV := Lib.hid (HV.out.below hb (Nat.le_refl _))) | skip); (first | (replace HA := Lib.hid (HA.out.below hb (Nat.le_refl _))) | skip); (first | (replace HX := Lib.hid (HX.out.below hb (Nat.le_refl _))) | skip); (first | (replace HXR := Lib.hid (HXR.out.below hb (Nat.le_refl _))) | skip); (first | (replace HM := Lib.hid (HM.out.below hb (Nat.le_refl _))) | skip); (first | (replace HMR := Lib.hid (HMR.out.below hb (Nat.le_refl _))) | skip); (first | (replace HF := Lib.hid (HF.out.below hb (Nat.le_refl _))) | skip); have HX := Lib.hid hq; clear hq; clear hb)
    | (go_at_call 30; (with_reducible refine (HRS.out _ _ HA.out).mono ?_); rintro e wx ⟨vxr, rfl, hb, hq⟩; (first | (replace HBW := Lib.hid (HBW.out.trans (hb.mono HBW.out.size))) | skip); (first | (replace HV := Lib.hid (HV.out.below hb (Nat.le_refl _))) | skip); (first | (replace HA := Lib.hid (HA.out.below hb (Nat.le_refl _))) | skip); (first | (replace HX := Lib.hid (HX.out.below hb (Nat.le_refl _))) | skip); (first | (replace HXR := Lib.hid (HXR.out.below hb (Nat.le_refl _))) | skip); (first | (replace HM := Lib.hid (HM.out.below hb (Nat.le_refl _))) | skip); (first | (replace HMR := Lib.hid (HMR.out.below hb (Nat.le_refl _))) | skip); (first | (replace HF := Lib.hid (HF.out.below hb (Nat.le_refl _))) | skip); have HXR := Lib.hid hq; clear hq; clear hb)
    | (go_at_call 31; (with_reducible refine (HMI.out _ _ HA.out).mono ?_); rintro e wx ⟨vm, rfl, hb, hq⟩; have HBZ := Lib.hid HBW.out.size; have HAP := Lib.hid (TO.apartO HX.out hq (Nat.le_refl _)); (first | (replace HBW := Lib.hid (HBW.out.trans (hb.mono HBW.out.size))) | skip); (first | (replace HV := Lib.hid (HV.out.below hb (Nat.le_refl _))) | skip); (first | (replace HA := Lib.hid (HA.out.below hb (Nat.le_refl _))) | skip); (first | (replace HX := Lib.hid (HX.out.below hb (Nat.le_refl _))) | skip); (first | (replace HXR := Lib.hid (HXR.out.below hb (Nat.le_refl _))) | skip); (first | (replace HM := Lib.hid (HM.out.below hb (Nat.le_refl _))) | skip); (first | (replace HMR := Lib.hid (HMR.out.below hb (Nat.le_refl _))) | skip); (first | (replace HF := Lib.hid (HF.out.below hb (Nat.le_refl _))) | skip); have HM := Lib.hid (hq.mono (B' := wr.heap.size) HBZ.out); clear hq; clear hb)
    | (go_at_call 32; (with_reducible refine (HRM.out _ _ HA.out).mono ?_); rintro e wx ⟨vmr, rfl, hb, hq⟩; (first | (replace HBW := Lib.hid (HBW.out.trans (hb.mono HBW.out.size))) | skip); (first | (replace HV := Lib.hid (HV.out.below hb (Nat.le_refl _))) | skip); (first | (replace HA := Lib.hid (HA.out.below hb (Nat.le_refl _))) | skip); (first | (replace HX := Lib.hid (HX.out.below hb (Nat.le_refl _))) | skip); (first | (replace HXR := Lib.hid (HXR.out.below hb (Nat.le_refl _))) | skip); (first | (replace HM := Lib.hid (HM.out.below hb (Nat.le_refl _))) | skip); (first | (replace HMR := Lib.hid (HMR.out.below hb (Nat.le_refl _))) | skip); (first | (replace HF := Lib.hid (HF.out.below hb (Nat.le_refl _))) | skip); have HMR := Lib.hid hq; clear hq; clear hb)
    | (go_at_call 33; (with_reducible refine (HEX.out _ _ _ HX.out.ts HXR.out.ts).mono ?_); rintro e wx ⟨rfl, hb⟩; (first | (replace HBW := Lib.hid (HBW.out.trans (hb.mono HBW.out.size))) | skip); (first | (replace HV := Lib.hid (HV.out.below hb (Nat.le_refl _))) | skip); (first | (replace HA := Lib.hid (HA.out.below hb (Nat.le_refl _))) | skip); (first | (replace HX := Lib.hid (HX.out.below hb (Nat.le_refl _))) | skip); (first | (replace HXR := Lib.hid (HXR.out.below hb (Nat.le_refl _))) | skip); (first | (replace HM := Lib.hid (HM.out.below hb (Nat.le_refl _))) | skip); (first | (replace HMR := Lib.hid (HMR.out.below hb (Nat.le_refl _))) | skip); (first | (replace HF := Lib.hid (HF.out.below hb (Nat.le_refl _))) | skip); clear hb)
    | (go_at_call 33; (with_reducible refine (HEM.out _ _ _ HM.out.ts HMR.out.ts).mono ?_); rintro e wx ⟨rfl, hb⟩; (first | (replace HBW := Lib.hid (HBW.out.trans (hb.mono HBW.out.size))) | skip); (first | (replace HV := Lib.hid (HV.out.below hb (Nat.le_refl _))) | skip); (first | (replace HA := Lib.hid (HA.out.below hb (Nat.le_refl _))) | skip); (first | (replace HX := Lib.hid (HX.out.below hb (Nat.le_refl _))) | skip); (first | (replace HXR := Lib.hid (HXR.out.below hb (Nat.le_refl _))) | skip); (first | (replace HM := Lib.hid (HM.out.below hb (Nat.le_refl _))) | skip); (first | (replace HMR := Lib.hid (HMR.out.below hb (Nat.le_refl _))) | skip); (first | (replace HF := Lib.hid (HF.out.below hb (Nat.le_refl _))) | skip); clear hb)
    | (go_at_call 22; (with_reducible refine (HFL.out _ _ HV.out).mono ?_); rintro e wx ⟨vf, rfl, hb, hq⟩; (first | (replace HBW := Lib.hid (HBW.out.trans (hb.mono HBW.out.size))) | skip); (first | (replace HV := Lib.hid (HV.out.below hb (Nat.le_refl _))) | skip); (first | (replace HA := Lib.hid (HA.out.below hb (Nat.le_refl _))) | skip); (first | (replace HX := Lib.hid (HX.out.below hb (Nat.le_refl _))) | skip); (first | (replace HXR := Lib.hid (HXR.out.below hb (Nat.le_refl _))) | skip); (first | (replace HM := Lib.hid (HM.out.below hb (Nat.le_refl _))) | skip); (first | (replace HMR := Lib.hid (HMR.out.below hb (Nat.le_refl _))) | skip); (first | (replace HF := Lib.hid (HF.out.below hb (Nat.le_refl _))) | skip); have HF := Lib.hid hq; clear hq; clear hb)
    | (go_at_call 33; (with_reducible refine (HEA.out _ _ _ HA.out HF.out.ts).mono ?_); rintro e wx ⟨rfl, hb⟩; (first | (replace HBW := Lib.hid (HBW.out.trans (hb.mono HBW.out.size))) | skip); (first | (replace HV := Lib.hid (HV.out.below hb (Nat.le_refl _))) | skip); (first | (replace HA := Lib.hid (HA.out.below hb (Nat.le_refl _))) | skip); (first | (replace HX := Lib.hid (HX.out.below hb (Nat.le_refl _))) | skip); (first | (replace HXR := Lib.hid (HXR.out.below hb (Nat.le_refl _))) | skip); (first | (replace HM := Lib.hid (HM.out.below hb (Nat.le_refl _))) | skip); (first | (replace HMR := Lib.hid (HMR.out.below hb (Nat.le_refl _))) | skip); (first | (replace HF := Lib.hid (HF.out.below hb (Nat.le_refl _))) | skip); clear hb)
    | (go_at_call 34; (with_reducible refine (HOV.out _ _ _ _ HX.out).mono ?_); rintro e wx ⟨rfl, hg⟩; replace HM := Lib.hid (HM.out.farB HAP.out hg); replace HBW := Lib.hid (below_over HBW.out HX.out hg HBW.out.size); replace HA := Lib.hid (HA0.out.to HBW.out); replace HV := Lib.hid (HV0.out.to HBW.out); clear hg HX)
    | (go_at_call 34; (with_reducible refine (HOV.out _ _ _ _ HM.out).mono ?_); rintro e wx ⟨rfl, hg⟩; replace HBW := Lib.hid (below_over HBW.out HM.out hg HBW.out.size); replace HA := Lib.hid (HA0.out.to HBW.out); replace HV := Lib.hid (HV0.out.to HBW.out); clear hg HM))
      go_roundg (2 - (k + 1))
      case rel => exact ⟨k + 1, by omega, rfl, by go_num, HBC.out.trans (HBW.out.mono HBC.out.size)⟩
      case measure => omega
    · have hki : (2 : Int) ≤ k := by omega
      go_wp2_with (go_at_call 35; (with_reducible refine (HAW.out _).mono ?_); rintro e wy ⟨rfl, hb⟩)
      go_returns
      exact ⟨rfl, (HB.out.trans (HBC.out.mono HB.out.size)).trans (hb.mono (Nat.le_trans HB.out.size HBC.out.size))⟩

theorem tmatch_any (haw : CAwk) (l : List Lf) (vars i : Int) (v : Value) (w : World) (hv : TS w v l) :
    Calls Tryd.prog 4 #[v, .int .i64 vars, .int .i64 i] w fun e w' => e = .returned (.bool true) ∧ Below w.heap.size w w' := by
  have hal : (l.take 40).length ≤ 40 := by rw [List.length_take]; omega
  exact tmatch_walk haw l (l.take 40) _ _ vars i _ _ _ _ _ v w hv (Lib.hid fun W v h => few15_any l v W h) (Lib.hid fun W v h => TreeCheck_any _ v vars W h) (Lib.hid fun W v h => RCheckT_any _ v vars W h)
    (Lib.hid fun W v h => Depth_any _ v W h) (Lib.hid fun W v h => RDepthT_any _ v W h) (Lib.hid fun W v h => Size_any _ v W h) (Lib.hid fun W v h => RSizeT_any _ v W h)
    (Lib.hid fun W v h => Subtree_any _ v i W h) (Lib.hid fun W v h => RSubT_any _ v i W h) (Lib.hid fun W v h => TMirror_any _ v W h) (Lib.hid fun W v h => RMirT_any _ v W h)
    (Lib.hid (eqT_yes _ (sub_len i hal))) (Lib.hid (eqT_yes _ (mir_len hal))) (Lib.hid (eqT_yes _ (by omega))) (Lib.hid fun f v B w h => over_tree f v B w h)
end Go.Proofs.YtahimlnddelnbaaDoor
