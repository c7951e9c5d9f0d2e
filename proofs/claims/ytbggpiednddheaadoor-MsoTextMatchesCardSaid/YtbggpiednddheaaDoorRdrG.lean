/- Contract of the reference: Parse. -/
import Derived.Test.YtbggpiednddheaaDoorRdrF
set_option linter.unusedSimpArgs false
set_option linter.unusedVariables false
namespace Go.Proofs.YtbggpiednddheaaDoor
open Go.RowKit

set_option maxRecDepth 100000 in
set_option maxHeartbeats 1000000 in
theorem RParse_long (S : ByteArray) (w : World) (hS : 4096 < S.size) : Calls Tryd.prog 34 #[.string S] w (RetFPE w ([], 0, 4)) := by
  go_enter Tryd.func34, Tryd.ntmps34
  go_wp2
  go_returns
  exact ⟨_, rfl, Below.refl _ _, MO.nil _ _⟩
theorem RPost.start {S : ByteArray} {w w1 : World} {st : RSt} {en : Ending} {r : Value} {cs : Array Value} (h : RPost S (w.heap.size + 1) w.heap.size (.slice none 0 0) st r (w.alloc (.cells cs 96)) en w1) :
    en = .returned r ∧ ∃ A c, Below w.heap.size w w1 ∧ Row w1 w.heap.size 96 #[.string S, .int .i64 st.p, .slice A st.L.length c, .int .i64 st.many, .int .i64 st.e] ∧ MO w1 (w.heap.size + 1) (.slice A st.L.length c) st.L := by
  obtain ⟨he, lv, hk, hr, ho, hlo⟩ := h
  obtain ⟨A, c, hv⟩ := ho.form
  subst hv
  refine ⟨he, A, c, ?_, hr, ho⟩
  have no : ∀ b, (Value.slice none 0 0).ownBlock ≠ some b := fun b h => by simp [Value.ownBlock] at h
  exact (Below.alloc (Below.refl _ _) (Nat.le_refl _) _).trans (hk.below_le (by simp only [World.size_alloc]; omega) fun b hb => hb.elim (by omega) fun h => absurd h (no _))
set_option maxRecDepth 100000 in
set_option maxHeartbeats 1000000 in
theorem RParse_any (S : ByteArray) (w : World) : Calls Tryd.prog 34 #[.string S] w (RetFPE w (parseS (bts S))) := by
  by_cases hS : 4096 < S.size
  · have : parseS (bts S) = ([], 0, 4) := by unfold parseS; rw [bts_len, if_pos hS]
    rw [this]
    exact RParse_long S w hS
  have hag := form_formF (bts S) 65 0 0 [] (by omega) (by omega) (by omega)
  have hgood := form_good (bts S) 65 0 0 (by omega) (by omega) (by omega)
  have hform := fun W h1 h2 h3 => Rformula_any S (by omega) 65 (w.heap.size + 1) w.heap.size 0 0 0 [] (.slice none 0 0) W h1 h2 h3 (by simp) (by omega) (fun _ => ⟨by omega, by omega⟩)
  have hpar : parseS (bts S) = match form (bts S) 65 0 0 with
    | .err p e => ([], p, e)
    | .ok p a => if p < S.size then ([], p, 5) else (a.2.enc 0, 0, 0) := by unfold parseS; rw [bts_len, if_neg hS]; rfl
  obtain ⟨r, hr⟩ : ∃ r, r = parseS (bts S) := ⟨_, rfl⟩
  rw [← hr] at hpar ⊢
  clear hr
  cases hf : form (bts S) 65 0 0 with
  | err q k =>
    have hk := PR.good_err hgood hf
    rw [hf] at hag hpar
    obtain ⟨i1, i2⟩ := hag
    generalize formF (bts S) 65 ⟨0, [], 0, 0⟩ = st at *
    obtain ⟨q', L, many, e'⟩ := st
    simp only at i1 i2 hform
    subst i1 i2
    have b1 : (e' == 0) = false := by simp [hk]
    have b2 : (e' != 0) = true := by simp [hk]
    have HP := Lib.hid hpar; have HF := Lib.hid hform
    clear hpar hform hf hgood hk
    go_enter Tryd.func34, Tryd.ntmps34
    go_wp2_with (go_at_call 74; refine (HF.out _ (Row.litd2 (by simp only [World.size_alloc])) (MO.nil _ _) (by simp only [World.size_alloc]; omega)).mono ?_; rintro e w1 hpost; obtain ⟨rfl, A, c, hb1, hr1, ho1⟩ := hpost.start; have HB := Lib.hid hb1; have rc := hr1.cell; have rf := hr1.free; have rl := hr1.lt; clear hpost hb1 hr1 ho1)
    go_quiet (fail)
    go_wp2_with fail
    go_returns
    refine ⟨.slice none 0 0, by rw [HP.out]; rfl, ?_, by rw [HP.out]; exact MO.nil _ _⟩
    exact HB.out.trans ((drewN_below _ _).mono HB.out.size)
  | ok q a =>
    rw [hf] at hag hpar
    have hst : formF (bts S) 65 ⟨0, [], 0, 0⟩ = ⟨q, a.2.enc 0, a.1, 0⟩ := hag
    rw [hst] at hform
    simp only at hpar
    obtain ⟨L, hL⟩ : ∃ L, L = a.2.enc 0 := ⟨_, rfl⟩
    rw [← hL] at hform hpar
    have HP := Lib.hid hpar; have HF := Lib.hid hform
    clear hpar hform hf hgood hag hst hL
    by_cases hq : q < S.size
    · have hdq : decide ((q : Int) < S.size) = true := by simp; omega
      go_enter Tryd.func34, Tryd.ntmps34
      go_wp2_with (go_at_call 74; refine (HF.out _ (Row.litd2 (by simp only [World.size_alloc])) (MO.nil _ _) (by simp only [World.size_alloc]; omega)).mono ?_; rintro e w1 hpost; obtain ⟨rfl, A, c, hb1, hr1, ho1⟩ := hpost.start; have HB := Lib.hid hb1; have rc := hr1.cell; have rf := hr1.free; have rl := hr1.lt; clear hpost hb1 hr1 ho1)
      go_quiet (fail)
      go_wp2_with fail
      go_returns
      refine ⟨.slice none 0 0, by rw [HP.out, if_pos hq]; rfl, ?_, by rw [HP.out, if_pos hq]; exact MO.nil _ _⟩
      have h1 : Below w.heap.size w (w1.setCell ⟨w.heap.size, 4, none⟩ (.int .i64 5)) := by
        have hh := HB.out
        go_grown
      exact h1.trans ((drewN_below _ _).mono h1.size)
    · have hdq : decide ((q : Int) < S.size) = false := by simp; omega
      go_enter Tryd.func34, Tryd.ntmps34
      go_wp2_with (go_at_call 74; refine (HF.out _ (Row.litd2 (by simp only [World.size_alloc])) (MO.nil _ _) (by simp only [World.size_alloc]; omega)).mono ?_; rintro e w1 hpost; obtain ⟨rfl, A, c, hb1, hr1, ho1⟩ := hpost.start; have HB := Lib.hid hb1; have HO := Lib.hid ho1; have rc := hr1.cell; have rf := hr1.free; have rl := hr1.lt; clear hpost hb1 hr1 ho1)
      go_returns
      exact ⟨_, by rw [HP.out, if_neg hq]; rfl, HB.out, by rw [HP.out, if_neg hq]; exact HO.out.mono (by omega)⟩
end Go.Proofs.YtbggpiednddheaaDoor
