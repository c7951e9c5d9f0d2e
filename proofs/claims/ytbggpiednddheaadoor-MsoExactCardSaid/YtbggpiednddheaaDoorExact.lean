/- MsoExact: for every string the law returns true. -/
import Derived.Test.YtbggpiednddheaaDoorRow
set_option linter.unusedSimpArgs false
set_option linter.unusedVariables false
namespace Go.Proofs.YtbggpiednddheaaDoor
open Go.RowKit

set_option maxRecDepth 100000 in
set_option maxHeartbeats 1000000 in
theorem exact_cut (S T : ByteArray) (m : Nat) (w : World) (hm : (min (S.size : Int) 900).toNat = m) (hS : S.size ≤ 9223372036854775807) (hT : T = S.extract 0 m) :
    Calls Tryd.prog 8 #[.string S] w fun e w' => e = .returned (.bool true) ∧ Below w.heap.size w w' := by
  have hTs : T.size = m := by rw [hT, ByteArray.size_extract, ← hm]; omega
  obtain ⟨r, hr⟩ : ∃ r, r = parseS (bts T) := ⟨_, rfl⟩
  obtain ⟨fm, at_, er⟩ := r
  have hx := parse_exact (bts T)
  have hp := fun W => Parse_any T W
  rw [← hr] at hx hp
  rw [bts_len] at hx
  have HP := Lib.hid hp
  clear hp hr
  have hm9 : T.size ≤ 900 := by omega
  rcases hx with ⟨h1, h2, h3, h4⟩ | ⟨h1, h2, h3, h4⟩
  · simp only at h1 h2 h3 h4
    subst h1
    subst h4
    have HSH := Lib.hid fun W v (h : MS W v fm) => shows_true T v fm W h h2 h3
    clear h2 h3
    all_goals
      subst hm
      have HT := Lib.hid hT.symm
      clear hT hTs
      go_enter Tryd.func8, Tryd.ntmps8
      go_wp2_with (first
        | (go_at_call 33; go_must (rw [HT.out]; refine (HP.out _).mono ?_; rintro e w1 ⟨v, rfl, hb1, ho1⟩; have HO := Lib.hid ho1.ms; have HB := Lib.hid hb1; have HB1 : Hid (Below w1.heap.size w1 w1) := Below.refl _ _; clear hb1 ho1))
        | (go_at_call 37; go_must (refine (HSH.out _ _ (HO.out.below HB1.out (Nat.le_refl _))).mono ?_; rintro e w2 ⟨rfl, hb⟩; replace HB := Lib.hid (chain (Nat.le_refl _) HB.out (Below.refl _ _) hb); clear hb))
        | (go_at_call 28; go_must (refine (awake_any _).mono ?_; rintro e w3 ⟨rfl, hb⟩; replace HB := Lib.hid (chain (Nat.le_refl _) HB.out (Below.refl _ _) hb); clear hb)))
      go_returns
      exact ⟨rfl, HB.out⟩
  · simp only at h1 h2 h3 h4
    subst h1
    have h5 := h4 (by omega)
    have n1 : (er != 0) = true := by rw [bne_iff_ne]; exact h2
    have n2 : ((er == 3) == ((at_ : Int) == (T.size : Int))) = true := by
      rw [beq_iff_eq, Bool.eq_iff_iff, beq_iff_eq, beq_iff_eq]
      omega
    have hform : ∀ W B u, MO W B u [] → ∃ A c, u = .slice A 0 c := fun W B u h => h.form
    have HFO := Lib.hid hform
    clear h2 h4 h5 hform
    all_goals
      subst hm
      have HT := Lib.hid hT.symm
      clear hT hTs
      go_enter Tryd.func8, Tryd.ntmps8
      go_wp2_with (first
        | (go_at_call 33; go_must (rw [HT.out]; refine (HP.out _).mono ?_; rintro e w1 ⟨v, rfl, hb1, ho1⟩; obtain ⟨A1, c1, rfl⟩ := HFO.out _ _ _ ho1; have HB := Lib.hid hb1; clear hb1 ho1))
        | (go_at_call 28; go_must (refine (awake_any _).mono ?_; rintro e w3 ⟨rfl, hb⟩; replace HB := Lib.hid (chain (Nat.le_refl _) HB.out (Below.refl _ _) hb); clear hb)))
      go_returns
      exact ⟨rfl, HB.out⟩
theorem exact_any (S : ByteArray) (w : World) (hS : S.size ≤ maxLen) :
    Calls Tryd.prog 8 #[.string S] w fun e w' => e = .returned (.bool true) ∧ Below w.heap.size w w' := by
  unfold maxLen at hS
  exact exact_cut S _ _ w rfl hS rfl
end Go.Proofs.YtbggpiednddheaaDoor
