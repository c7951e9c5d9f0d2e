/- MsoVariables: for every formula and number the law returns true. -/
import Derived.Test.YtbggpiednddheaaDoorRow
import Derived.Test.YtbggpiednddheaaDoorVarsP
import Derived.Lib.IndexAny
set_option linter.unusedSimpArgs false
set_option linter.unusedVariables false
namespace Go.Proofs.YtbggpiednddheaaDoor
open Go.RowKit

theorem contains_letter (R : ByteArray) (K : Nat) (hK : K < 6) (w : World) :
    Calls Tryd.prog 42 #[.string R, .string (({ data := #[65, 66, 67, 68, 69, 70] } : ByteArray).extract K (K + 1))] w fun e w' => e = .returned (.bool ((bts R).contains (UInt8.ofNat (65 + K)))) ∧ w = w' := by
  have hx : ({ data := #[65, 66, 67, 68, 69, 70] } : ByteArray).extract K (K + 1) = ⟨#[UInt8.ofNat (65 + K)]⟩ := by
    have h : K = 0 ∨ K = 1 ∨ K = 2 ∨ K = 3 ∨ K = 4 ∨ K = 5 := by omega
    rcases h with rfl | rfl | rfl | rfl | rfl | rfl <;> rfl
  rw [hx, Lib.contains_iff_indexByte]
  exact (Tryd.strings_Contains_one R (UInt8.ofNat (65 + K)) w).mono fun e w' ⟨h1, h2⟩ => ⟨h1, h2.symm⟩

set_option maxRecDepth 100000 in
set_option maxHeartbeats 4000000 in
theorem vars_walk (f g : List Mk) (v : Value) (vars : Int) (V : Nat) (R : ByteArray) (er k6 kV kT : Int) (b6 bV bT bs : Bool) (w : World) (hv : MS w v f) (hvars : (vars.tmod 7 + 7) % 7 = (V : Int)) (hV : V ≤ 6)
    (hfew : ∀ W u, MS W u f → Calls Tryd.prog 13 #[u] W (RetMO W g))
    (hfm : ∀ W u, MS W u g → Calls Tryd.prog 31 #[u] W fun e w' => e = .returned (.tuple #[.string R, .int .i64 er]) ∧ Below W.heap.size W w')
    (h6 : ∀ W u, MS W u g → Calls Tryd.prog 14 #[u, .int .i64 6, .bool false] W fun e w' => e = .returned (.int .i64 k6) ∧ Below W.heap.size W w')
    (hcV : ∀ W u, MS W u g → Calls Tryd.prog 14 #[u, .int .i64 V, .bool false] W fun e w' => e = .returned (.int .i64 kV) ∧ Below W.heap.size W w')
    (hcT : ∀ W u, MS W u g → Calls Tryd.prog 14 #[u, .int .i64 V, .bool true] W fun e w' => e = .returned (.int .i64 kT) ∧ Below W.heap.size W w')
    (e6 : (k6 == 0) = b6) (eV : (kV == 0) = bV) (eT : (kT == 0) = bT) (es : smn (bts R) V (6 - V) = bs)
    (f1 : b6 = true → bV = bs) (f2 : V ≤ 3 → bT = true → bs = true) (f3 : bV = true → b6 = true) :
    Calls Tryd.prog 11 #[v, .int .i64 vars] w fun e w' => e = .returned (.bool true) ∧ Below w.heap.size w w' := by
  have q1 : -7 < vars.tmod 7 := by have := Int.lt_tmod_of_pos vars (b := 7) (by omega); simpa using this
  have q2 : vars.tmod 7 < 7 := Int.tmod_lt_of_pos vars (by omega)
  have HV := Lib.hid hv
  obtain ⟨_, A, c, rfl, _⟩ := hv
  have eV' : (kV != 0) = !bV := by rw [← eV]; rfl
  have HFW := Lib.hid hfew; have HFM := Lib.hid hfm; have H6 := Lib.hid h6; have HCV := Lib.hid hcV; have HCT := Lib.hid hcT; have ES := Lib.hid es; have F1 := Lib.hid f1; have F2 := Lib.hid f2; have F3 := Lib.hid f3
  clear hfew hfm h6 hcV hcT es f1 f2 f3
  go_enter Tryd.func11, Tryd.ntmps11
  go_wp2_with (first
    | (go_at_call 13; go_must (refine (HFW.out _ _ HV.out).mono ?_; rintro e w2 ⟨v2, rfl, hb2, ho2⟩; have HO := Lib.hid ho2.ms; have HB2 : Hid (Below w2.heap.size w2 w2) := Below.refl _ _; have HB := Lib.hid hb2; clear hb2 ho2))
    | (go_at_call 31; go_must (refine (HFM.out _ _ (HO.out.below HB2.out (Nat.le_refl _))).mono ?_; rintro e w3 ⟨rfl, hb⟩; replace HB := Lib.hid (chain (Nat.le_refl _) HB.out (Below.refl _ _) hb); replace HB2 := Lib.hid (chain (Nat.le_refl _) HB2.out (Below.refl _ _) hb); clear hb))
    | (go_at_call 14; go_must (refine (H6.out _ _ (HO.out.below HB2.out (Nat.le_refl _))).mono ?_; rintro e w3 ⟨rfl, hb⟩; replace HB := Lib.hid (chain (Nat.le_refl _) HB.out (Below.refl _ _) hb); replace HB2 := Lib.hid (chain (Nat.le_refl _) HB2.out (Below.refl _ _) hb); clear hb)))
  go_loopg [9, 10] (6 - V) (fun gk s q wr => ∃ K : Nat, V ≤ K ∧ K ≤ 6 ∧ gk = 6 - K ∧ q = .int .i64 K ∧ s = .bool (smn (bts R) V (K - V)) ∧ Below w.heap.size w wr ∧ Below w2.heap.size w2 wr)
  case atStart => exact ⟨V, Nat.le_refl _, hV, rfl, rfl, by rw [Nat.sub_self]; rfl, HB.out, HB2.out⟩
  case round =>
    obtain ⟨K, hK1, hK2, rfl, rfl, rfl, hb, hb2⟩ := hrel
    replace HB := Lib.hid hb; replace HB2 := Lib.hid hb2; clear hb hb2
    by_cases hlt : K < 6
    · have hstep : smn (bts R) V (K + 1 - V) = (smn (bts R) V (K - V) && !(bts R).contains (UInt8.ofNat (65 + K))) := by
        rw [show K + 1 - V = (K - V) + 1 by omega, smn, show V + (K - V) = K by omega]
      have HST := Lib.hid hstep; clear hstep
      obtain ⟨b, hb⟩ : ∃ b, b = smn (bts R) V (K - V) := ⟨_, rfl⟩
      rw [← hb] at HST ⊢
      clear hb
      obtain ⟨c1, hc1⟩ : ∃ c1, c1 = (bts R).contains (UInt8.ofNat (65 + K)) := ⟨_, rfl⟩
      have hcon := fun W => contains_letter R K hlt W
      rw [← hc1] at HST hcon
      have HCN := Lib.hid hcon; clear hcon hc1
      cases b
      · go_wp2
        go_roundg (6 - (K + 1))
        case rel => exact ⟨K + 1, by omega, by omega, rfl, by go_num, by rw [HST.out]; rfl, HB.out, HB2.out⟩
        case measure => omega
      · go_wp2_with (go_at_call 42; go_must (refine (HCN.out _).mono ?_; rintro e w3 ⟨rfl, rfl⟩))
        go_roundg (6 - (K + 1))
        case rel => exact ⟨K + 1, by omega, by omega, rfl, by go_num, by rw [HST.out]; rfl, HB.out, HB2.out⟩
        case measure => omega
    · have hK6 : K = 6 := by omega
      subst hK6
      rw [ES.out]
      by_cases h3 : V ≤ 3
      all_goals
        cases b6 <;> cases bV <;> cases bT <;> cases bs
        all_goals first
          | (have hh := F1.out rfl; cases hh; done)
          | (have hh := F2.out h3 rfl; cases hh; done)
          | (have hh := F3.out rfl; cases hh; done)
          | skip
        all_goals
          simp only [Bool.not_true, Bool.not_false] at eV'
          go_wp2_with (first
            | (go_at_call 14; (with_reducible refine (HCV.out _ _ (HO.out.below HB2.out (Nat.le_refl _))).mono ?_); rintro e w3 ⟨rfl, hb⟩; replace HB := Lib.hid (chain (Nat.le_refl _) HB.out (Below.refl _ _) hb); replace HB2 := Lib.hid (chain (Nat.le_refl _) HB2.out (Below.refl _ _) hb); clear hb)
            | (go_at_call 14; (with_reducible refine (HCT.out _ _ (HO.out.below HB2.out (Nat.le_refl _))).mono ?_); rintro e w3 ⟨rfl, hb⟩; replace HB := Lib.hid (chain (Nat.le_refl _) HB.out (Below.refl _ _) hb); replace HB2 := Lib.hid (chain (Nat.le_refl _) HB2.out (Below.refl _ _) hb); clear hb)
            | (go_at_call 28; go_must (refine (awake_any _).mono ?_; rintro e w3 ⟨rfl, hb⟩; replace HB := Lib.hid (chain (Nat.le_refl _) HB.out (Below.refl _ _) hb); clear hb)))
          go_returns
          exact ⟨rfl, HB.out⟩

theorem variables_any (f : List Mk) (v : Value) (vars : Int) (w : World) (hv : MS w v f) :
    Calls Tryd.prog 11 #[v, .int .i64 vars] w fun e w' => e = .returned (.bool true) ∧ Below w.heap.size w w' := by
  have q1 : -7 < vars.tmod 7 := by have := Int.lt_tmod_of_pos vars (b := 7) (by omega); simpa using this
  have q2 : vars.tmod 7 < 7 := Int.tmod_lt_of_pos vars (by omega)
  obtain ⟨V, hV⟩ : ∃ V : Nat, (vars.tmod 7 + 7) % 7 = (V : Int) := ⟨((vars.tmod 7 + 7) % 7).toNat, by omega⟩
  have hV6 : V ≤ 6 := by omega
  have hb : bts (⟨(if formedS (f.take 70) then textS (f.take 70) else []).toArray⟩ : ByteArray) = if formedS (f.take 70) then textS (f.take 70) else [] := by simp [bts]
  refine vars_walk f (f.take 70) v vars V _ _ _ _ _ _ _ _ _ w hv hV hV6 (fun W u h => few_any f u W h) (fun W u h => Format_text (f.take 70) u W h) (fun W u h => Check_any _ u 6 false W h) (fun W u h => Check_any _ u V false W h) (fun W u h => Check_any _ u V true W h) rfl rfl rfl rfl ?_ ?_ ?_
  · intro h6
    have h6 := eq_of_beq h6
    have hf := check_formed_of h6
    rw [hb, if_pos hf, Bool.eq_iff_iff, beq_iff_eq]
    exact vars_all hf V hV6 h6
  · intro h3 hT
    have hT := eq_of_beq hT
    have hf := check_formed_of hT
    rw [hb, if_pos hf]
    exact vars_trees hf V h3 hT
  · intro hVV
    have hVV := eq_of_beq hVV
    rw [beq_iff_eq]
    exact vars_six V hV6 hVV
end Go.Proofs.YtbggpiednddheaaDoor
