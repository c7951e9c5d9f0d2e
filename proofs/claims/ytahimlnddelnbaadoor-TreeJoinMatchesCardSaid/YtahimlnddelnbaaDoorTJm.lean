/- TreeJoinMatches: for every label and all pairs of trees the law returns true. -/
import Derived.Test.YtahimlnddelnbaaDoorTMa
import Derived.Test.YtahimlnddelnbaaDoorRTd
set_option linter.unusedSimpArgs false
set_option linter.unusedVariables false
namespace Go.Proofs.YtahimlnddelnbaaDoor
open Go.RowKit



set_option maxRecDepth 100000 in
set_option maxHeartbeats 8000000 in
theorem tjm_walk (haw : CAwk) (l r a b x : List Lf) (lab ex cm : Int) (v u : Value) (w : World) (hv : TS w v l) (hu : TS w u r)
    (HFL : Hid (CFewT l a)) (HFR : Hid (CFewT r b))
    (HJ : Hid (∀ W v u, TS W v a → TS W u b → Calls Tryd.prog 36 #[.int .u8 lab, v, u] W (RetTT W x ex))) (HRJ : Hid (∀ W v u, TS W v a → TS W u b → Calls Tryd.prog 37 #[.int .u8 lab, v, u] W (RetTT W x ex)))
    (HC : Hid (∀ W v u, TS W v a → TS W u b → Calls Tryd.prog 38 #[v, u] W fun e w' => e = .returned (.int .i64 cm) ∧ Below W.heap.size W w')) (HRC : Hid (∀ W v u, TS W v a → TS W u b → Calls Tryd.prog 39 #[v, u] W fun e w' => e = .returned (.int .i64 cm) ∧ Below W.heap.size W w'))
    (HEX : Hid (CEqT x)) (HEA : Hid (CEqT a)) (HEB : Hid (CEqT b)) (HOV : Hid COver) :
    Calls Tryd.prog 5 #[.int .u8 lab, v, u] w fun e w' => e = .returned (.bool true) ∧ Below w.heap.size w w' := by
  have HV := Lib.hid hv; have HU := Lib.hid hu; have HAW := Lib.hid haw
  clear hv hu haw
  go_enter Tryd.func5, Tryd.ntmps5
  go_wp2_with (first
    | (go_at_call 22; (with_reducible refine (HFL.out _ _ HV.out).mono ?_); rintro e wx ⟨va, rfl, hb, hq⟩; have HA := Lib.hid hq.ts; replace HV := Lib.hid (HV.out.to hb); replace HU := Lib.hid (HU.out.to hb); have HB := Lib.hid hb; clear hb hq)
    | (go_at_call 22; (with_reducible refine (HFR.out _ _ HU.out).mono ?_); rintro e wx ⟨vb, rfl, hb, hq⟩; (first | (replace HB := Lib.hid (HB.out.trans (hb.mono HB.out.size))) | skip); (first | (replace HV := Lib.hid (HV.out.below hb (Nat.le_refl _))) | skip); (first | (replace HU := Lib.hid (HU.out.below hb (Nat.le_refl _))) | skip); (first | (replace HA := Lib.hid (HA.out.below hb (Nat.le_refl _))) | skip); (first | (replace HBB := Lib.hid (HBB.out.below hb (Nat.le_refl _))) | skip); have HBB := Lib.hid hq.ts; clear hq; clear hb))
  obtain ⟨wc, hwc⟩ : ∃ x, x = wx := ⟨_, rfl⟩
  subst hwc
  go_loopg [9] 2 (fun gk q wr => ∃ k : Nat, k ≤ 2 ∧ gk = 2 - k ∧ q = .int .i64 k ∧ Below wc.heap.size wc wr)
  case atStart => exact ⟨0, by omega, rfl, rfl, Below.refl _ _⟩
  case round =>
    obtain ⟨k, hk, rfl, rfl, hbe⟩ := hrel
    have HBC := Lib.hid hbe
    replace HA := Lib.hid (HA.out.to hbe)
    replace HBB := Lib.hid (HBB.out.to hbe)
    replace HV := Lib.hid (HV.out.to hbe)
    replace HU := Lib.hid (HU.out.to hbe)
    clear hbe
    by_cases hlt : k < 2
    · have hki : (k : Int) < 2 := by omega
      have HBW := Lib.hid (Below.refl wr.heap.size wr)
      go_wp2_with (first
    | (go_at_call 36; (with_reducible refine (HJ.out _ _ _ HA.out HBB.out).mono ?_); rintro e wx ⟨vx, rfl, hb, hq⟩; (first | (replace HBW := Lib.hid (HBW.out.trans (hb.mono HBW.out.size))) | skip); (first | (replace HV := Lib.hid (HV.out.below hb (Nat.le_refl _))) | skip); (first | (replace HU := Lib.hid (HU.out.below hb (Nat.le_refl _))) | skip); (first | (replace HA := Lib.hid (HA.out.below hb (Nat.le_refl _))) | skip); (first | (replace HBB := Lib.hid (HBB.out.below hb (Nat.le_refl _))) | skip); (first | (replace HX := Lib.hid (HX.out.below hb (Nat.le_refl _))) | skip); (first | (replace HXR := Lib.hid (HXR.out.below hb (Nat.le_refl _))) | skip); (first | (replace HF := Lib.hid (HF.out.below hb (Nat.le_refl _))) | skip); (first | (replace HG := Lib.hid (HG.out.below hb (Nat.le_refl _))) | skip); have HX := Lib.hid hq; clear hq; clear hb)
    | (go_at_call 37; (with_reducible refine (HRJ.out _ _ _ HA.out HBB.out).mono ?_); rintro e wx ⟨vxr, rfl, hb, hq⟩; (first | (replace HBW := Lib.hid (HBW.out.trans (hb.mono HBW.out.size))) | skip); (first | (replace HV := Lib.hid (HV.out.below hb (Nat.le_refl _))) | skip); (first | (replace HU := Lib.hid (HU.out.below hb (Nat.le_refl _))) | skip); (first | (replace HA := Lib.hid (HA.out.below hb (Nat.le_refl _))) | skip); (first | (replace HBB := Lib.hid (HBB.out.below hb (Nat.le_refl _))) | skip); (first | (replace HX := Lib.hid (HX.out.below hb (Nat.le_refl _))) | skip); (first | (replace HXR := Lib.hid (HXR.out.below hb (Nat.le_refl _))) | skip); (first | (replace HF := Lib.hid (HF.out.below hb (Nat.le_refl _))) | skip); (first | (replace HG := Lib.hid (HG.out.below hb (Nat.le_refl _))) | skip); have HXR := Lib.hid hq; clear hq; clear hb)
    | (go_at_call 33; (with_reducible refine (HEX.out _ _ _ HX.out.ts HXR.out.ts).mono ?_); rintro e wx ⟨rfl, hb⟩; (first | (replace HBW := Lib.hid (HBW.out.trans (hb.mono HBW.out.size))) | skip); (first | (replace HV := Lib.hid (HV.out.below hb (Nat.le_refl _))) | skip); (first | (replace HU := Lib.hid (HU.out.below hb (Nat.le_refl _))) | skip); (first | (replace HA := Lib.hid (HA.out.below hb (Nat.le_refl _))) | skip); (first | (replace HBB := Lib.hid (HBB.out.below hb (Nat.le_refl _))) | skip); (first | (replace HX := Lib.hid (HX.out.below hb (Nat.le_refl _))) | skip); (first | (replace HXR := Lib.hid (HXR.out.below hb (Nat.le_refl _))) | skip); (first | (replace HF := Lib.hid (HF.out.below hb (Nat.le_refl _))) | skip); (first | (replace HG := Lib.hid (HG.out.below hb (Nat.le_refl _))) | skip); clear hb)
    | (go_at_call 38; (with_reducible refine (HC.out _ _ _ HA.out HBB.out).mono ?_); rintro e wx ⟨rfl, hb⟩; (first | (replace HBW := Lib.hid (HBW.out.trans (hb.mono HBW.out.size))) | skip); (first | (replace HV := Lib.hid (HV.out.below hb (Nat.le_refl _))) | skip); (first | (replace HU := Lib.hid (HU.out.below hb (Nat.le_refl _))) | skip); (first | (replace HA := Lib.hid (HA.out.below hb (Nat.le_refl _))) | skip); (first | (replace HBB := Lib.hid (HBB.out.below hb (Nat.le_refl _))) | skip); (first | (replace HX := Lib.hid (HX.out.below hb (Nat.le_refl _))) | skip); (first | (replace HXR := Lib.hid (HXR.out.below hb (Nat.le_refl _))) | skip); (first | (replace HF := Lib.hid (HF.out.below hb (Nat.le_refl _))) | skip); (first | (replace HG := Lib.hid (HG.out.below hb (Nat.le_refl _))) | skip); clear hb)
    | (go_at_call 39; (with_reducible refine (HRC.out _ _ _ HA.out HBB.out).mono ?_); rintro e wx ⟨rfl, hb⟩; (first | (replace HBW := Lib.hid (HBW.out.trans (hb.mono HBW.out.size))) | skip); (first | (replace HV := Lib.hid (HV.out.below hb (Nat.le_refl _))) | skip); (first | (replace HU := Lib.hid (HU.out.below hb (Nat.le_refl _))) | skip); (first | (replace HA := Lib.hid (HA.out.below hb (Nat.le_refl _))) | skip); (first | (replace HBB := Lib.hid (HBB.out.below hb (Nat.le_refl _))) | skip); (first | (replace HX := Lib.hid (HX.out.below hb (Nat.le_refl _))) | skip); (first | (replace HXR := Lib.hid (HXR.out.below hb (Nat.le_refl _))) | skip); (first | (replace HF := Lib.hid (HF.out.below hb (Nat.le_refl _))) | skip); (first | (replace HG := Lib.hid (HG.out.below hb (Nat.le_refl _))) | skip); clear hb)
    | (go_at_call 22; (with_reducible refine (HFL.out _ _ HV.out).mono ?_); rintro e wx ⟨vf, rfl, hb, hq⟩; (first | (replace HBW := Lib.hid (HBW.out.trans (hb.mono HBW.out.size))) | skip); (first | (replace HV := Lib.hid (HV.out.below hb (Nat.le_refl _))) | skip); (first | (replace HU := Lib.hid (HU.out.below hb (Nat.le_refl _))) | skip); (first | (replace HA := Lib.hid (HA.out.below hb (Nat.le_refl _))) | skip); (first | (replace HBB := Lib.hid (HBB.out.below hb (Nat.le_refl _))) | skip); (first | (replace HX := Lib.hid (HX.out.below hb (Nat.le_refl _))) | skip); (first | (replace HXR := Lib.hid (HXR.out.below hb (Nat.le_refl _))) | skip); (first | (replace HF := Lib.hid (HF.out.below hb (Nat.le_refl _))) | skip); (first | (replace HG := Lib.hid (HG.out.below hb (Nat.le_refl _))) | skip); have HF := Lib.hid hq; clear hq; clear hb)
    | (go_at_call 33; (with_reducible refine (HEA.out _ _ _ HA.out HF.out.ts).mono ?_); rintro e wx ⟨rfl, hb⟩; (first | (replace HBW := Lib.hid (HBW.out.trans (hb.mono HBW.out.size))) | skip); (first | (replace HV := Lib.hid (HV.out.below hb (Nat.le_refl _))) | skip); (first | (replace HU := Lib.hid (HU.out.below hb (Nat.le_refl _))) | skip); (first | (replace HA := Lib.hid (HA.out.below hb (Nat.le_refl _))) | skip); (first | (replace HBB := Lib.hid (HBB.out.below hb (Nat.le_refl _))) | skip); (first | (replace HX := Lib.hid (HX.out.below hb (Nat.le_refl _))) | skip); (first | (replace HXR := Lib.hid (HXR.out.below hb (Nat.le_refl _))) | skip); (first | (replace HF := Lib.hid (HF.out.below hb (Nat.le_refl _))) | skip); (first | (replace HG := Lib.hid (HG.out.below hb (Nat.le_refl _))) | skip); clear hb)
    | (go_at_call 22; (with_reducible refine (HFR.out _ _ HU.out).mono ?_); rintro e wx ⟨vg, rfl, hb, hq⟩; (first | (replace HBW := Lib.hid (HBW.out.trans (hb.mono HBW.out.size))) | skip); (first | (replace HV := Lib.hid (HV.out.below hb (Nat.le_refl _))) | skip); (first | (replace HU := Lib.hid (HU.out.below hb (Nat.le_refl _))) | skip); (first | (replace HA := Lib.hid (HA.out.below hb (Nat.le_refl _))) | skip); (first | (replace HBB := Lib.hid (HBB.out.below hb (Nat.le_refl _))) | skip); (first | (replace HX := Lib.hid (HX.out.below hb (Nat.le_refl _))) | skip); (first | (replace HXR := Lib.hid (HXR.out.below hb (Nat.le_refl _))) | skip); (first | (replace HF := Lib.hid (HF.out.below hb (Nat.le_refl _))) | skip); (first | (replace HG := Lib.hid (HG.out.below hb (Nat.le_refl _))) | skip); have HG := Lib.hid hq; clear hq; clear hb)
    | (go_at_call 33; (with_reducible refine (HEB.out _ _ _ HBB.out HG.out.ts).mono ?_); rintro e wx ⟨rfl, hb⟩; (first | (replace HBW := Lib.hid (HBW.out.trans (hb.mono HBW.out.size))) | skip); (first | (replace HV := Lib.hid (HV.out.below hb (Nat.le_refl _))) | skip); (first | (replace HU := Lib.hid (HU.out.below hb (Nat.le_refl _))) | skip); (first | (replace HA := Lib.hid (HA.out.below hb (Nat.le_refl _))) | skip); (first | (replace HBB := Lib.hid (HBB.out.below hb (Nat.le_refl _))) | skip); (first | (replace HX := Lib.hid (HX.out.below hb (Nat.le_refl _))) | skip); (first | (replace HXR := Lib.hid (HXR.out.below hb (Nat.le_refl _))) | skip); (first | (replace HF := Lib.hid (HF.out.below hb (Nat.le_refl _))) | skip); (first | (replace HG := Lib.hid (HG.out.below hb (Nat.le_refl _))) | skip); clear hb)
    | (go_at_call 34; (with_reducible refine (HOV.out _ _ _ _ HX.out).mono ?_); rintro e wx ⟨rfl, hg⟩; replace HBW := Lib.hid (below_over HBW.out HX.out hg HBW.out.size); clear hg HX))
      go_roundg (2 - (k + 1))
      case rel => exact ⟨k + 1, by omega, rfl, by go_num, HBC.out.trans (HBW.out.mono HBC.out.size)⟩
      case measure => omega
    · have hki : (2 : Int) ≤ k := by omega
      go_wp2_with (go_at_call 35; (with_reducible refine (HAW.out _).mono ?_); rintro e wy ⟨rfl, hb⟩)
      go_returns
      exact ⟨rfl, (HB.out.trans (HBC.out.mono HB.out.size)).trans (hb.mono (Nat.le_trans HB.out.size HBC.out.size))⟩

theorem joinE_len {a b : List Lf} (lab : Int) (ha : a.length ≤ 40) (hb : b.length ≤ 40) : (joinE lab a b).1.length ≤ 1000000 := by
  unfold joinE
  split
  · simp
  · split
    · simp
    · simp only; rw [joinT_len]; omega
theorem tjm_any (haw : CAwk) (lab : Int) (l r : List Lf) (v u : Value) (w : World) (hv : TS w v l) (hu : TS w u r) (h0 : 0 ≤ lab) (h1 : lab ≤ 255) :
    Calls Tryd.prog 5 #[.int .u8 lab, v, u] w fun e w' => e = .returned (.bool true) ∧ Below w.heap.size w w' := by
  have hal : (l.take 40).length ≤ 40 := by rw [List.length_take]; omega
  have hbl : (r.take 40).length ≤ 40 := by rw [List.length_take]; omega
  exact tjm_walk haw l r (l.take 40) (r.take 40) _ lab _ _ v u w hv hu (Lib.hid fun W v h => few15_any l v W h) (Lib.hid fun W v h => few15_any r v W h)
    (Lib.hid fun W v u h h' => TJoin_any lab _ _ v u W h h' h0 h1) (Lib.hid fun W v u h h' => RJoinT_any lab _ _ v u W h h' h0 h1)
    (Lib.hid fun W v u h h' => Compare_any _ _ v u W h h') (Lib.hid fun W v u h h' => rcmp_any _ _ v u W h h')
    (Lib.hid (eqT_yes _ (joinE_len lab hal hbl))) (Lib.hid (eqT_yes _ (by omega))) (Lib.hid (eqT_yes _ (by omega))) (Lib.hid fun f v B w h => over_tree f v B w h)
end Go.Proofs.YtahimlnddelnbaaDoor
