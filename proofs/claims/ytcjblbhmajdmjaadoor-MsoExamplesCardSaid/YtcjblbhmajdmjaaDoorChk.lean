/- Check in plain words. -/
import Derived.Test.YtcjblbhmajdmjaaDoorParse
set_option linter.unusedSimpArgs false
set_option linter.unusedVariables false
namespace Go.Proofs.YtcjblbhmajdmjaaDoor

theorem within_mono {m : Mk} {a b : Int} (h : within m a = true) (hab : a ≤ b) : within m b = true := by
  simp only [within, Bool.and_eq_true, Bool.or_eq_true, decide_eq_true_eq] at h ⊢
  omega
theorem chk_zero {f : List Mk} {vars : Int} {known : Int → Bool} (h : chk f vars known = 0) : 1 ≤ f.length ∧ f.length ≤ 64 ∧ (szs f).getD (f.length - 1) 0 = f.length ∧ ∀ i m, f[i]? = some m → chkNode vars known m ((szs f).getD i 0) = 0 := by
  unfold chk at h
  by_cases h1 : f.length = 0
  · rw [if_pos h1] at h; omega
  by_cases h2 : 64 < f.length
  · rw [if_neg h1, if_pos h2] at h; omega
  rw [if_neg h1, if_neg h2] at h
  by_cases h3 : chkList vars known f (szs f) = 0
  · rw [if_pos h3] at h
    by_cases h4 : (szs f).getD (f.length - 1) 0 = f.length
    · exact ⟨by omega, by omega, h4, chkList_all vars known f (szs f) (szs_len f).symm h3⟩
    · rw [if_neg h4] at h; omega
  · rw [if_neg h3] at h; exact absurd h h3
theorem chk_mk {f : List Mk} {vars : Int} {known : Int → Bool} (h1 : 1 ≤ f.length) (h2 : f.length ≤ 64) (h3 : (szs f).getD (f.length - 1) 0 = f.length) (h4 : ∀ i m, f[i]? = some m → chkNode vars known m ((szs f).getD i 0) = 0) : chk f vars known = 0 := by
  unfold chk
  rw [if_neg (by omega), if_neg (by omega), if_pos (chkList_of _ _ _ _ fun i m hm _ => h4 i m hm), if_pos h3]
theorem chk_formed {f : List Mk} {vars : Int} {known : Int → Bool} (h : chk f vars known = 0) (hv : vars ≤ 6) : formedS f = true := by
  obtain ⟨h1, h2, h3, h4⟩ := chk_zero h
  refine decide_eq_true (chk_mk h1 h2 h3 fun i m hm => ?_)
  obtain ⟨a, _, b, c, d⟩ := chkNode_zero (h4 i m hm)
  exact chkNode_mk a rfl (within_mono b hv) c d
theorem check_formed_of {f : List Mk} {vars : Int} {trees : Bool} (h : checkS f vars trees = 0) : formedS f = true := by
  unfold checkS at h
  by_cases hr : vars < 0 ∨ (if trees then (3 : Int) else 6) < vars
  · rw [if_pos hr] at h; omega
  · rw [if_neg hr] at h
    refine chk_formed h ?_
    cases trees
    · simp only [Bool.false_eq_true, if_false] at hr; omega
    · simp only [if_true] at hr; omega
theorem check_not_formed {f : List Mk} (h : formedS f = false) (vars : Int) (trees : Bool) : (checkS f vars trees != 0) = true := by
  rw [bne_iff_ne]
  intro hc
  rw [check_formed_of hc] at h
  exact absurd h (by simp)
end Go.Proofs.YtcjblbhmajdmjaaDoor
