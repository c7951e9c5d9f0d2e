/- Plain law: what Included returns, against the intersection. No program in sight. -/
import Derived.Test.YthkfjnmnoanhlaaGreatDoorAwP
set_option linter.unusedSimpArgs false
set_option linter.unusedVariables false
namespace Go.Proofs.YthkfjnmnoanhlaaGreatDoor

theorem raw_same {a b : Dta} {V : Nat} (hL : a.L = b.L) (h : a.raw V = b.raw V) : a.Same b := by
  unfold Dta.raw at h
  simp only [Raw.mk.injEq, true_and] at h
  obtain ⟨he, hn, hf⟩ := h
  have hnn : a.n = b.n := by
    have := congrArg List.length hn
    simpa [nx3] using this
  refine ⟨hnn, by omega, hL, fun l r x hl hr hx => ?_, fun s hs => ?_⟩
  · obtain ⟨k1, k2, k3⟩ := nx3_at (n := a.n) (L := a.L) (f := a.nx) hl hr hx
    obtain ⟨g1, g2, g3⟩ := nx3_at (n := b.n) (L := b.L) (f := b.nx) (l := l) (r := r) (x := x) (by omega) (by omega) (by omega)
    rw [hn, g1] at k1
    have k1 := Option.some.inj k1
    rw [← k1, g2] at k2
    have k2 := Option.some.inj k2
    rw [← k2, g3] at k3
    have := Option.some.inj k3
    omega
  · have := congrArg (fun l => l[s]?) hf
    simp only [List.getElem?_map] at this
    rw [List.getElem?_range hs, List.getElem?_range (by omega)] at this
    exact Option.some.inj this
theorem incl_cases {a b : Dta} {V : Nat} (ha : a.Fit V) (hb : b.Fit V) (hl : (prodO a b).length ≤ 64) :
    (inclO a b = ([], true, 0) ∧ (prodM a b fun p q => p && q).raw V = a.mini.raw V) ∨
    (inclO a b = ([], false, 4) ∧ (prodM a b fun p q => p && q).raw V ≠ a.mini.raw V) ∨
    ∃ t : Bt, inclO a b = (t.enc 0, false, 0) ∧ t.lb (2 ^ V) ∧ t.size ≤ 31 ∧ a.fin (a.run t) = true ∧ b.fin (b.run t) = false ∧ (prodM a b fun p q => p && q).raw V ≠ a.mini.raw V := by
  have hL : a.L = b.L := ha.L.trans hb.L.symm
  have hP := prodM_is ha.ok hb.ok hL (fun p q => p && !q)
  have hA := prodM_is ha.ok hb.ok hL (fun p q => p && q)
  have hM := Dta.mini_is ha.ok (L := a.L) rfl (S := fun t => a.fin (a.run t)) fun t _ => rfl
  have hPm := Dta.mini_is hP.can.ok hP.hL hP.lang
  have hne : ∀ u : Bt, u.lb a.L → a.fin (a.run u) = true → b.fin (b.run u) = false → (prodM a b fun p q => p && q).raw V ≠ a.mini.raw V := by
    intro u hu h1 h2 he
    have hs := raw_same (hA.hL.trans hM.hL.symm) he
    have := hA.eq_of_same hM hs u hu
    simp only [h1, h2] at this
    cases this
  unfold inclO
  rw [if_pos hl]
  unfold smallO
  cases e : emptyS (prodM a b fun p q => p && !q) with
  | true =>
    left
    refine ⟨rfl, ?_⟩
    have h0 := (empty_iff hP.can.ok).1 e
    have hs : (prodM a b fun p q => p && q).Same a.mini := hA.same hM fun t ht => by
      have := h0 t (by rw [hP.hL]; exact ht)
      rw [hP.lang t ht] at this
      cases h1 : a.fin (a.run t) <;> cases h2 : b.fin (b.run t) <;> simp [h1, h2] at this ⊢
    exact hs.raw hA.can.ok (hA.hL.trans hM.hL.symm) V
  | false =>
    right
    have hex : ∃ u : Bt, u.lb a.L ∧ a.fin (a.run u) = true ∧ b.fin (b.run u) = false := by
      refine Classical.byContradiction fun hc => ?_
      have : emptyS (prodM a b fun p q => p && !q) = true := (empty_iff hP.can.ok).2 fun t ht => by
        rw [hP.hL] at ht
        rw [hP.lang t ht]
        cases h1 : a.fin (a.run t) <;> cases h2 : b.fin (b.run t) <;> first | rfl | exact absurd ⟨t, ht, h1, h2⟩ hc
      rw [e] at this; cases this
    cases e2 : smallS (prodM a b fun p q => p && !q).mini with
    | none =>
      left
      obtain ⟨u, k1, k2, k3⟩ := hex
      exact ⟨rfl, hne u k1 k2 k3⟩
    | some t =>
      right
      obtain ⟨g1, g2, g3, _⟩ := small_some hPm.can.ok e2
      rw [hPm.hL] at g2
      rw [hPm.lang t g2] at g3
      simp only [Bool.and_eq_true, Bool.not_eq_true'] at g3
      exact ⟨t, rfl, by rw [← ha.L]; exact g2, g1, g3.1, g3.2, hne t g2 g3.1 g3.2⟩
end Go.Proofs.YthkfjnmnoanhlaaGreatDoor
