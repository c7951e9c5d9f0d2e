/- TreeTextMatches: for every tree and every string the law returns true. -/
import Derived.Test.YtahimlnddelnbaaDoorTMa
import Derived.Test.YtahimlnddelnbaaDoorRTc
import Derived.Test.YtahimlnddelnbaaDoorRTg
import Derived.Test.YtahimlnddelnbaaDoorBld
set_option linter.unusedSimpArgs false
set_option linter.unusedVariables false
namespace Go.Proofs.YtahimlnddelnbaaDoor
open Go.RowKit



set_option maxRecDepth 100000 in
set_option maxHeartbeats 8000000 in
theorem ttx_walk (haw : CAwk) (l a f : List Lf) (q : Nat) (k fe : Int) (X S U : ByteArray) (mm : Nat) (v : Value) (w : World) (hv : TS w v l) (hm : (min (S.size : Int) 600).toNat = mm) (hS : S.size ≤ 9223372036854775807) (hT : U = S.extract 0 mm)
    (HFL : Hid (CFewT l a)) (HFM : Hid (∀ W v, TS W v a → Calls Tryd.prog 40 #[v] W fun e w' => e = .returned (.tuple #[.string X, .int .i64 fe]) ∧ Below W.heap.size W w')) (HRF : Hid (∀ W v, TS W v a → Calls Tryd.prog 41 #[v] W fun e w' => e = .returned (.tuple #[.string X, .int .i64 fe]) ∧ Below W.heap.size W w'))
    (HP : Hid (∀ W, Calls Tryd.prog 42 #[.string U] W (RetPT W (f, q, k)))) (HRP : Hid (∀ W, Calls Tryd.prog 43 #[.string U] W (RetPT W (f, q, k))))
    (HEF : Hid (CEqT f)) (HEA : Hid (CEqT a)) (HOV : Hid COver) :
    Calls Tryd.prog 6 #[v, .string S] w fun e w' => e = .returned (.bool true) ∧ Below w.heap.size w w' := by
  have HV := Lib.hid hv; have HAW := Lib.hid haw
  have HV0 := HV
  have HBW := Lib.hid (Below.refl w.heap.size w)
  subst hm
  have HT := Lib.hid hT.symm
  clear hv haw hT
  go_enter Tryd.func6, Tryd.ntmps6
  go_wp2_with (first
    | (go_at_call 22; have tk := tok; (with_reducible refine (HFL.out _ _ HV.out).mono ?_); rintro e wx ⟨vf, rfl, hb, hq⟩; (first | (replace HBW := Lib.hid (HBW.out.trans (hb.mono HBW.out.size))) | skip); (first | (replace HV := Lib.hid (HV.out.below hb (Nat.le_refl _))) | skip); (first | (replace HA := Lib.hid (HA.out.below hb (Nat.le_refl _))) | skip); (first | (replace HC := Lib.hid (HC.out.below hb (Nat.le_refl _))) | skip); (first | (replace HD := Lib.hid (HD.out.below hb (Nat.le_refl _))) | skip); (first | (replace HF := Lib.hid (HF.out.below hb (Nat.le_refl _))) | skip); (first | (replace HX := Lib.hid (HX.out.below hb (Nat.le_refl _))) | skip); have HF := Lib.hid hq; clear hq; clear hb)
    | (go_at_call 22; (with_reducible refine (HFL.out _ _ HV.out).mono ?_); rintro e wx ⟨va, rfl, hb, hq⟩; have HA := Lib.hid hq.ts; replace HV := Lib.hid (HV.out.to hb); replace HBW := Lib.hid hb; clear hb hq; have tok := Lib.hid trivial)
    | (go_at_call 40; (with_reducible refine (HFM.out _ _ HA.out).mono ?_); rintro e wx ⟨rfl, hb⟩; (first | (replace HBW := Lib.hid (HBW.out.trans (hb.mono HBW.out.size))) | skip); (first | (replace HV := Lib.hid (HV.out.below hb (Nat.le_refl _))) | skip); (first | (replace HA := Lib.hid (HA.out.below hb (Nat.le_refl _))) | skip); (first | (replace HC := Lib.hid (HC.out.below hb (Nat.le_refl _))) | skip); (first | (replace HD := Lib.hid (HD.out.below hb (Nat.le_refl _))) | skip); (first | (replace HF := Lib.hid (HF.out.below hb (Nat.le_refl _))) | skip); (first | (replace HX := Lib.hid (HX.out.below hb (Nat.le_refl _))) | skip); clear hb)
    | (go_at_call 41; (with_reducible refine (HRF.out _ _ HA.out).mono ?_); rintro e wx ⟨rfl, hb⟩; (first | (replace HBW := Lib.hid (HBW.out.trans (hb.mono HBW.out.size))) | skip); (first | (replace HV := Lib.hid (HV.out.below hb (Nat.le_refl _))) | skip); (first | (replace HA := Lib.hid (HA.out.below hb (Nat.le_refl _))) | skip); (first | (replace HC := Lib.hid (HC.out.below hb (Nat.le_refl _))) | skip); (first | (replace HD := Lib.hid (HD.out.below hb (Nat.le_refl _))) | skip); (first | (replace HF := Lib.hid (HF.out.below hb (Nat.le_refl _))) | skip); (first | (replace HX := Lib.hid (HX.out.below hb (Nat.le_refl _))) | skip); clear hb)
    | (go_at_call 42; (rw [HT.out]; (refine (HP.out _).mono ?_); rintro e wx ⟨vc, rfl, hb, hq⟩; have HBZ := Lib.hid HBW.out.size; (first | (replace HBW := Lib.hid (HBW.out.trans (hb.mono HBW.out.size))) | skip); (first | (replace HV := Lib.hid (HV.out.below hb (Nat.le_refl _))) | skip); (first | (replace HA := Lib.hid (HA.out.below hb (Nat.le_refl _))) | skip); (first | (replace HC := Lib.hid (HC.out.below hb (Nat.le_refl _))) | skip); (first | (replace HD := Lib.hid (HD.out.below hb (Nat.le_refl _))) | skip); (first | (replace HF := Lib.hid (HF.out.below hb (Nat.le_refl _))) | skip); (first | (replace HX := Lib.hid (HX.out.below hb (Nat.le_refl _))) | skip); have HC := Lib.hid (hq.mono (B' := w.heap.size) HBZ.out); clear hq; clear hb))
    | (go_at_call 43; (with_reducible refine (HRP.out _).mono ?_); rintro e wx ⟨vd, rfl, hb, hq⟩; have HAP := Lib.hid (TO.apartO HC.out hq (Nat.le_refl _)); (first | (replace HBW := Lib.hid (HBW.out.trans (hb.mono HBW.out.size))) | skip); (first | (replace HV := Lib.hid (HV.out.below hb (Nat.le_refl _))) | skip); (first | (replace HA := Lib.hid (HA.out.below hb (Nat.le_refl _))) | skip); (first | (replace HC := Lib.hid (HC.out.below hb (Nat.le_refl _))) | skip); (first | (replace HD := Lib.hid (HD.out.below hb (Nat.le_refl _))) | skip); (first | (replace HF := Lib.hid (HF.out.below hb (Nat.le_refl _))) | skip); (first | (replace HX := Lib.hid (HX.out.below hb (Nat.le_refl _))) | skip); have HD := Lib.hid hq; clear hq; clear hb)
    | (go_at_call 33; (with_reducible refine (HEF.out _ _ _ HC.out.ts HD.out.ts).mono ?_); rintro e wx ⟨rfl, hb⟩; (first | (replace HBW := Lib.hid (HBW.out.trans (hb.mono HBW.out.size))) | skip); (first | (replace HV := Lib.hid (HV.out.below hb (Nat.le_refl _))) | skip); (first | (replace HA := Lib.hid (HA.out.below hb (Nat.le_refl _))) | skip); (first | (replace HC := Lib.hid (HC.out.below hb (Nat.le_refl _))) | skip); (first | (replace HD := Lib.hid (HD.out.below hb (Nat.le_refl _))) | skip); (first | (replace HF := Lib.hid (HF.out.below hb (Nat.le_refl _))) | skip); (first | (replace HX := Lib.hid (HX.out.below hb (Nat.le_refl _))) | skip); clear hb)
    | (go_at_call 33; (with_reducible refine (HEA.out _ _ _ HA.out HF.out.ts).mono ?_); rintro e wx ⟨rfl, hb⟩; (first | (replace HBW := Lib.hid (HBW.out.trans (hb.mono HBW.out.size))) | skip); (first | (replace HV := Lib.hid (HV.out.below hb (Nat.le_refl _))) | skip); (first | (replace HA := Lib.hid (HA.out.below hb (Nat.le_refl _))) | skip); (first | (replace HC := Lib.hid (HC.out.below hb (Nat.le_refl _))) | skip); (first | (replace HD := Lib.hid (HD.out.below hb (Nat.le_refl _))) | skip); (first | (replace HF := Lib.hid (HF.out.below hb (Nat.le_refl _))) | skip); (first | (replace HX := Lib.hid (HX.out.below hb (Nat.le_refl _))) | skip); clear hb)
    | (go_at_call 34; (with_reducible refine (HOV.out _ _ _ _ HC.out).mono ?_); rintro e wx ⟨rfl, hg⟩; replace HD := Lib.hid (HD.out.farB HAP.out hg); replace HBW := Lib.hid (below_over HBW.out HC.out hg HBW.out.size); clear hg HC HA HV HF)
    | (go_at_call 42; go_must ((refine (HP.out _).mono ?_); rintro e wx ⟨vx, rfl, hb, hq⟩; (first | (replace HBW := Lib.hid (HBW.out.trans (hb.mono HBW.out.size))) | skip); (first | (replace HV := Lib.hid (HV.out.below hb (Nat.le_refl _))) | skip); (first | (replace HA := Lib.hid (HA.out.below hb (Nat.le_refl _))) | skip); (first | (replace HC := Lib.hid (HC.out.below hb (Nat.le_refl _))) | skip); (first | (replace HD := Lib.hid (HD.out.below hb (Nat.le_refl _))) | skip); (first | (replace HF := Lib.hid (HF.out.below hb (Nat.le_refl _))) | skip); (first | (replace HX := Lib.hid (HX.out.below hb (Nat.le_refl _))) | skip); have HX := Lib.hid hq; clear hq; clear hb))
    | (go_at_call 33; (with_reducible refine (HEF.out _ _ _ HX.out.ts HD.out.ts).mono ?_); rintro e wx ⟨rfl, hb⟩; (first | (replace HBW := Lib.hid (HBW.out.trans (hb.mono HBW.out.size))) | skip); (first | (replace HV := Lib.hid (HV.out.below hb (Nat.le_refl _))) | skip); (first | (replace HA := Lib.hid (HA.out.below hb (Nat.le_refl _))) | skip); (first | (replace HC := Lib.hid (HC.out.below hb (Nat.le_refl _))) | skip); (first | (replace HD := Lib.hid (HD.out.below hb (Nat.le_refl _))) | skip); (first | (replace HF := Lib.hid (HF.out.below hb (Nat.le_refl _))) | skip); (first | (replace HX := Lib.hid (HX.out.below hb (Nat.le_refl _))) | skip); clear hb)
    | (go_at_call 35; (with_reducible refine (HAW.out _).mono ?_); rintro e wx ⟨rfl, hb⟩; (first | (replace HBW := Lib.hid (HBW.out.trans (hb.mono HBW.out.size))) | skip); (first | (replace HV := Lib.hid (HV.out.below hb (Nat.le_refl _))) | skip); (first | (replace HA := Lib.hid (HA.out.below hb (Nat.le_refl _))) | skip); (first | (replace HC := Lib.hid (HC.out.below hb (Nat.le_refl _))) | skip); (first | (replace HD := Lib.hid (HD.out.below hb (Nat.le_refl _))) | skip); (first | (replace HF := Lib.hid (HF.out.below hb (Nat.le_refl _))) | skip); (first | (replace HX := Lib.hid (HX.out.below hb (Nat.le_refl _))) | skip); clear hb))
  go_returns
  exact ⟨rfl, HBW.out⟩

theorem parse_few (s : List UInt8) : (parseT s).1.length ≤ 1000000 := by
  have := parse_len s
  omega
theorem ttx_any (haw : CAwk) (l : List Lf) (S : ByteArray) (v : Value) (w : World) (hv : TS w v l) (hS : S.size ≤ maxLen) :
    Calls Tryd.prog 6 #[v, .string S] w fun e w' => e = .returned (.bool true) ∧ Below w.heap.size w w' := by
  unfold maxLen at hS
  have hal : (l.take 40).length ≤ 40 := by rw [List.length_take]; omega
  obtain ⟨U, hU⟩ : ∃ U, U = S.extract 0 (min (S.size : Int) 600).toNat := ⟨_, rfl⟩
  have hUs : U.size ≤ 1000000 := by rw [hU, ByteArray.size_extract]; omega
  exact ttx_walk haw l (l.take 40) (parseT (sb U)).1 (parseT (sb U)).2.1 (parseT (sb U)).2.2 _ ⟨(formatT (l.take 40)).1.toArray⟩ S U _ v w hv rfl hS hU (Lib.hid fun W v h => few15_any l v W h)
    (Lib.hid fun W v h => Format_any _ v W h) (Lib.hid fun W v h => RFmtT_any _ v W h) (Lib.hid fun W => Parse_tree U W) (Lib.hid fun W => RParse_tree U W hUs)
    (Lib.hid (eqT_yes _ (parse_few _))) (Lib.hid (eqT_yes _ (by omega))) (Lib.hid fun f v B w h => over_tree f v B w h)
end Go.Proofs.YtahimlnddelnbaaDoor
