/- MsoRound: for every formula the law returns true. -/
import Derived.Test.YtbggpiednddheaaDoorRow
import Derived.Test.YtbggpiednddheaaDoorChk
namespace Go.Proofs.YtbggpiednddheaaDoor
open Go.RowKit

theorem round_no (f : List Mk) (v : Value) (w : World) (hv : MS w v f) (hf : formedS (f.take 70) = false) :
    Calls Tryd.prog 7 #[v] w fun e w' => e = .returned (.bool true) ∧ Below w.heap.size w w' := by
  have HV := Lib.hid hv
  obtain ⟨_, A, c, rfl, _⟩ := hv
  obtain ⟨k1, hk1⟩ : ∃ k, k = checkS (f.take 70) 6 false := ⟨_, rfl⟩
  obtain ⟨k2, hk2⟩ : ∃ k, k = checkS (f.take 70) 3 true := ⟨_, rfl⟩
  have n1 : (k1 != 0) = true := by rw [hk1]; exact check_not_formed hf 6 false
  have n2 : (k2 != 0) = true := by rw [hk2]; exact check_not_formed hf 3 true
  have hc1 := fun W u (h : MS W u (f.take 70)) => Check_any (f.take 70) u 6 false W h
  have hc2 := fun W u (h : MS W u (f.take 70)) => Check_any (f.take 70) u 3 true W h
  have hfm : ∀ W u, MS W u (f.take 70) → Calls Tryd.prog 31 #[u] W fun e w' => e = .returned (.tuple #[.string { data := #[] }, .int .i64 2]) ∧ Below W.heap.size W w' := fun W u h => (Format_text (f.take 70) u W h).mono fun e w' ⟨he, hbb⟩ => by
    rw [if_neg (by simp [hf]), if_neg (by simp [hf])] at he
    exact ⟨he, hbb⟩
  rw [← hk1] at hc1
  rw [← hk2] at hc2
  have HC1 := Lib.hid hc1; have HC2 := Lib.hid hc2; have HFM := Lib.hid hfm
  clear hc1 hc2 hfm hk1 hk2 hf
  go_enter Tryd.func7, Tryd.ntmps7
  go_wp2_with (first
    | (go_at_call 28; go_must (refine (awake_any _).mono ?_; rintro e w1 ⟨rfl, hb1⟩; have HB := Lib.hid hb1; clear hb1))
    | (go_at_call 13; go_must (refine (few_any f _ _ (HV.out.below HB.out (Nat.le_refl _))).mono ?_; rintro e w2 ⟨v2, rfl, hb2, ho2⟩; have HO := Lib.hid ho2.ms; have HB2 : Hid (Below w2.heap.size w2 w2) := Below.refl _ _; replace HB := Lib.hid (chain (Nat.le_refl _) HB.out (Below.refl _ _) hb2); clear hb2 ho2))
    | (go_at_call 31; go_must (refine (HFM.out _ _ (HO.out.below HB2.out (Nat.le_refl _))).mono ?_; rintro e w3 ⟨rfl, hb3⟩; replace HB := Lib.hid (chain (Nat.le_refl _) HB.out (Below.refl _ _) hb3); replace HB2 := Lib.hid (chain (Nat.le_refl _) HB2.out (Below.refl _ _) hb3); clear hb3))
    | (go_at_call 14; (with_reducible refine (HC1.out _ _ (HO.out.below HB2.out (Nat.le_refl _))).mono ?_); rintro e w3 ⟨rfl, hb3⟩; replace HB := Lib.hid (chain (Nat.le_refl _) HB.out (Below.refl _ _) hb3); replace HB2 := Lib.hid (chain (Nat.le_refl _) HB2.out (Below.refl _ _) hb3); clear hb3)
    | (go_at_call 14; (with_reducible refine (HC2.out _ _ (HO.out.below HB2.out (Nat.le_refl _))).mono ?_); rintro e w3 ⟨rfl, hb3⟩; replace HB := Lib.hid (chain (Nat.le_refl _) HB.out (Below.refl _ _) hb3); replace HB2 := Lib.hid (chain (Nat.le_refl _) HB2.out (Below.refl _ _) hb3); clear hb3))
  go_returns
  exact ⟨rfl, HB.out⟩
theorem round_yes (f : List Mk) (v : Value) (w : World) (hv : MS w v f) (hf : formedS (f.take 70) = true) :
    Calls Tryd.prog 7 #[v] w fun e w' => e = .returned (.bool true) ∧ Below w.heap.size w w' := by
  have HV := Lib.hid hv
  obtain ⟨_, A, c, rfl, _⟩ := hv
  obtain ⟨g, hg⟩ : ∃ g, g = f.take 70 := ⟨_, rfl⟩
  have hfew := fun W u (h : MS W u f) => few_any f u W h
  rw [← hg] at hf hfew
  have hl := formed_len g hf
  obtain ⟨R, hR⟩ : ∃ R : ByteArray, R = ⟨(textS g).toArray⟩ := ⟨_, rfl⟩
  have hp := parse_text g hf
  have hb : bts R = textS g := by rw [hR]; simp [bts]
  have hfm : ∀ W u, MS W u g → Calls Tryd.prog 31 #[u] W fun e w' => e = .returned (.tuple #[.string R, .int .i64 0]) ∧ Below W.heap.size W w' := fun W u h => (Format_text g u W h).mono fun e w' ⟨he, hbb⟩ => by
    rw [if_pos hf, if_pos hf, strV_of hb.symm] at he
    exact ⟨he, hbb⟩
  have hrd : ∀ W u, MS W u g → Calls Tryd.prog 36 #[.string R, u] W fun e w' => e = .returned (.bool true) ∧ Below W.heap.size W w' := fun W u h => reads_true R u g W h (by rw [hb]; exact hp)
  obtain ⟨n, hn⟩ : ∃ n, n = g.length := ⟨_, rfl⟩
  have hform : ∀ W B u, MO W B u g → ∃ A c, u = .slice A n c := fun W B u h => by rw [hn]; exact h.form
  rw [← hn] at hl
  have HFM := Lib.hid hfm; have HRD := Lib.hid hrd; have HFW := Lib.hid hfew; have HFO := Lib.hid hform
  clear hfm hrd hR hp hb hf hg hfew hn hform
  go_enter Tryd.func7, Tryd.ntmps7
  go_wp2_with (first
    | (go_at_call 28; go_must (refine (awake_any _).mono ?_; rintro e w1 ⟨rfl, hb1⟩; have HB := Lib.hid hb1; clear hb1))
    | (go_at_call 13; go_must (refine (HFW.out _ _ (HV.out.below HB.out (Nat.le_refl _))).mono ?_; rintro e w2 ⟨v2, rfl, hb2, ho2⟩; obtain ⟨A2, c2, rfl⟩ := HFO.out _ _ _ ho2; have HO := Lib.hid ho2.ms; have HB2 : Hid (Below w2.heap.size w2 w2) := Below.refl _ _; replace HB := Lib.hid (chain (Nat.le_refl _) HB.out (Below.refl _ _) hb2); clear hb2 ho2))
    | (go_at_call 31; go_must (refine (HFM.out _ _ (HO.out.below HB2.out (Nat.le_refl _))).mono ?_; rintro e w3 ⟨rfl, hb3⟩; replace HB := Lib.hid (chain (Nat.le_refl _) HB.out (Below.refl _ _) hb3); replace HB2 := Lib.hid (chain (Nat.le_refl _) HB2.out (Below.refl _ _) hb3); clear hb3))
    | (go_at_call 36; go_must (refine (HRD.out _ _ (HO.out.below HB2.out (Nat.le_refl _))).mono ?_; rintro e w3 ⟨rfl, hb3⟩; replace HB := Lib.hid (chain (Nat.le_refl _) HB.out (Below.refl _ _) hb3); clear hb3)))
  go_returns
  exact ⟨rfl, HB.out⟩
theorem round_any (f : List Mk) (v : Value) (w : World) (hv : MS w v f) :
    Calls Tryd.prog 7 #[v] w fun e w' => e = .returned (.bool true) ∧ Below w.heap.size w w' := by
  cases h : formedS (f.take 70)
  · exact round_no f v w hv h
  · exact round_yes f v w hv h
end Go.Proofs.YtbggpiednddheaaDoor
