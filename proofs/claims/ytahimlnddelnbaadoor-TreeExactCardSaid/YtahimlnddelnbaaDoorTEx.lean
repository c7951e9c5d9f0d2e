/- TreeExact: for every string the law returns true. -/
import Derived.Test.YtahimlnddelnbaaDoorAw15
set_option linter.unusedSimpArgs false
set_option linter.unusedVariables false
namespace Go.Proofs.YtahimlnddelnbaaDoor
open Go.RowKit

theorem parse_any_len (s : List UInt8) (h : (parseT s).2.2 ≠ 0) (hl : s.length ≤ 4096) : (parseT s).1 = [] ∧ (parseT s).2.1 ≤ s.length ∧ ((parseT s).2.2 = 3 ↔ (parseT s).2.1 = s.length) := parse_bad hl h
theorem ba_eq {a b : ByteArray} (h : sb a = sb b) : a = b := by
  have : a.data = b.data := by
    have h2 : a.data.toList = b.data.toList := h
    exact Array.toList_inj.1 h2
  cases a; cases b; simp_all
theorem ret_pt {w w' : World} {x : List Lf × Nat × Int} {en : Ending} (n : Nat) (hn : x.1.length = n) (h : RetPT w x en w') : ∃ A c, en = .returned (.tuple #[.slice A n c, .int .i64 (x.2.1 : Nat), .int .i64 x.2.2]) ∧ Below w.heap.size w w' ∧ TS w' (.slice A n c) x.1 := by
  subst hn
  obtain ⟨v, he, hb, ho⟩ := h
  obtain ⟨A, c, rfl⟩ := ho.ts.form
  exact ⟨A, c, he, hb, ho.ts⟩
set_option maxRecDepth 100000 in
set_option maxHeartbeats 2000000 in
theorem texact_cut (S T : ByteArray) (m : Nat) (w : World) (hm : (min (S.size : Int) 600).toNat = m) (hS : S.size ≤ 9223372036854775807) (hT : T = S.extract 0 m) :
    Calls Tryd.prog 9 #[.string S] w fun e w' => e = .returned (.bool true) ∧ Below w.heap.size w w' := by
  have hTs : T.size = m := by rw [hT, ByteArray.size_extract, ← hm]; omega
  have hm9 : T.size ≤ 600 := by omega
  have hp := fun W => Parse_tree T W
  have HAW := Lib.hid (fun W => awake15 W)
  by_cases h0 : (parseT (sb T)).2.2 = 0
  · obtain ⟨e1, e2⟩ := exact_law h0
    have e3 := parse_at h0
    obtain ⟨R, hR⟩ : ∃ R, R = parseT (sb T) := ⟨_, rfl⟩
    rw [← hR] at e1 e2 e3 h0 hp
    obtain ⟨t, p, k⟩ := R
    simp only at e1 e2 e3 h0
    subst h0; subst e3
    have hfm := fun W v (h : TS W v t) => Format_any t v W h
    have hck := fun W v (h : TS W v t) => TreeCheck_any t v 3 W h
    rw [e1] at hfm
    rw [e2] at hck
    have hTT : (⟨(sb T).toArray⟩ : ByteArray) = T := ba_eq rfl
    simp only [hTT] at hfm
    obtain ⟨n, hn⟩ : ∃ n, n = t.length := ⟨_, rfl⟩
    have HPT := Lib.hid (fun W W' e (h : RetPT W (t, 0, 0) e W') => ret_pt n hn.symm h)
    have HP := Lib.hid hp; have HFM := Lib.hid hfm; have HCK := Lib.hid hck
    clear hp hfm hck hTT e1 e2 hR hn
    subst hm
    have HT := Lib.hid hT.symm
    clear hT hTs
    go_enter Tryd.func9, Tryd.ntmps9
    go_wp2_with (first
      | (go_at_call 42; go_must (rw [HT.out]; (refine (HP.out _).mono ?_); rintro e w1 hx; obtain ⟨A1, c1, rfl, hb, hq⟩ := HPT.out _ _ _ hx; have HQ := Lib.hid hq; have HB := Lib.hid hb; clear hb hq hx))
      | (go_at_call 40; (with_reducible refine (HFM.out _ _ HQ.out).mono ?_); rintro e w3 ⟨rfl, hb⟩; replace HQ := Lib.hid (HQ.out.to hb); replace HB := Lib.hid (chainL HB.out (Below.refl _ _) hb); clear hb)
      | (go_at_call 23; (with_reducible refine (HCK.out _ _ HQ.out).mono ?_); rintro e w4 ⟨rfl, hb⟩; replace HQ := Lib.hid (HQ.out.to hb); replace HB := Lib.hid (chainL HB.out (Below.refl _ _) hb); clear hb)
      | (go_at_call 35; (with_reducible refine (HAW.out _).mono ?_); rintro e w5 ⟨rfl, hb⟩; replace HB := Lib.hid (chainL HB.out (Below.refl _ _) hb); clear hb))
    go_returns
    exact ⟨rfl, HB.out⟩
  · obtain ⟨e1, e2, e3⟩ := parse_bad (by rw [sb_len]; omega) h0
    rw [sb_len] at e2 e3
    obtain ⟨R, hR⟩ : ∃ R, R = parseT (sb T) := ⟨_, rfl⟩
    rw [← hR] at e1 e2 e3 h0 hp
    obtain ⟨t, p, k⟩ := R
    simp only at e1 e2 e3 h0
    subst e1
    have k1 : (k != 0) = true := by simp [h0]
    have k2 : ((k == 3) == ((p : Int) == (T.size : Int))) = true := by
      rw [beq_iff_eq, Bool.eq_iff_iff, beq_iff_eq, beq_iff_eq]
      omega
    have k3 : (p : Int) ≤ (T.size : Int) := by omega
    have HPT := Lib.hid (fun W W' e (h : RetPT W ([], p, k) e W') => ret_pt 0 rfl h)
    have HP := Lib.hid hp
    clear hp hR e2 e3 h0
    subst hm
    have HT := Lib.hid hT.symm
    clear hT hTs
    go_enter Tryd.func9, Tryd.ntmps9
    go_wp2_with (first
      | (go_at_call 42; go_must (rw [HT.out]; (refine (HP.out _).mono ?_); rintro e w1 hx; obtain ⟨A1, c1, rfl, hb, hq⟩ := HPT.out _ _ _ hx; have HB := Lib.hid hb; clear hb hq hx))
      | (go_at_call 35; (with_reducible refine (HAW.out _).mono ?_); rintro e w5 ⟨rfl, hb⟩; replace HB := Lib.hid (chainL HB.out (Below.refl _ _) hb); clear hb))
    go_returns
    exact ⟨rfl, HB.out⟩
theorem texact_any (S : ByteArray) (w : World) (hS : S.size ≤ maxLen) :
    Calls Tryd.prog 9 #[.string S] w fun e w' => e = .returned (.bool true) ∧ Below w.heap.size w w' := by
  unfold maxLen at hS
  exact texact_cut S _ _ w rfl hS rfl
end Go.Proofs.YtahimlnddelnbaaDoor
