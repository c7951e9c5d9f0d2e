/- The letters of a text are the variables of the formula: plain. -/
import Derived.Test.YtbggpiednddheaaDoorChk
set_option linter.unusedSimpArgs false
set_option linter.unusedVariables false
namespace Go.Proofs.YtbggpiednddheaaDoor

theorem ofNat_inj {a b : Nat} (ha : a < 256) (hb : b < 256) (h : UInt8.ofNat a = UInt8.ofNat b) : a = b := by
  have := congrArg UInt8.toNat h
  simp only [UInt8.toNat_ofNat'] at this
  omega
theorem low_letter (v : Nat) (hv : v < 6) : low (UInt8.ofNat (65 + v)) = false := by
  have h : v = 0 ∨ v = 1 ∨ v = 2 ∨ v = 3 ∨ v = 4 ∨ v = 5 := by omega
  rcases h with rfl | rfl | rfl | rfl | rfl | rfl <;> rfl
theorem letter_ne (v : Nat) (hv : v < 6) : UInt8.ofNat (65 + v) ≠ 40 ∧ UInt8.ofNat (65 + v) ≠ 41 ∧ UInt8.ofNat (65 + v) ≠ 32 := by
  have h : v = 0 ∨ v = 1 ∨ v = 2 ∨ v = 3 ∨ v = 4 ∨ v = 5 := by omega
  rcases h with rfl | rfl | rfl | rfl | rfl | rfl <;> decide
theorem fmtNode_has (m : Mk) (cs : List (List UInt8)) (v : Nat) (hv : v < 6) (hw : within m 6 = true) : UInt8.ofNat (65 + v) ∈ fmtNode m cs ↔ (v : Int) ∈ occ m ∨ ∃ c ∈ cs, UInt8.ofNat (65 + v) ∈ c := by
  obtain ⟨n1, n2, n3⟩ := letter_ne v hv
  have hn : UInt8.ofNat (65 + v) ∉ nm m.op := fun h => by
    have := nm_low m.op _ h
    rw [low_letter v hv] at this
    exact absurd this (by simp)
  have hocc : ∀ x ∈ occ m, 0 ≤ x ∧ x < 6 := by
    intro x hx
    simp only [within, Bool.and_eq_true, Bool.or_eq_true, decide_eq_true_eq] at hw
    rcases nv_cases m.op with h | h | h
    · rw [occ0 h] at hx; simp at hx
    · rw [occ1 h] at hx; simp at hx; omega
    · rw [occ2 h] at hx; simp at hx; rcases hx with rfl | rfl <;> omega
  rw [fmtNode_eq]
  simp only [List.mem_append, List.mem_singleton, n1, n2, hn, false_or, or_false, List.mem_flatten, List.mem_map]
  constructor
  · rintro ⟨l, ⟨a, ha, rfl⟩, hl⟩
    simp only [List.mem_append, List.mem_singleton, n3, false_or] at hl
    rcases ha with ⟨x, hx, rfl⟩ | ha
    · left
      obtain ⟨h0, h6⟩ := hocc x hx
      simp only [varB, List.mem_singleton] at hl
      have := ofNat_inj (by omega) (by omega) hl
      have e : (v : Int) = x := by omega
      rw [e]; exact hx
    · exact .inr ⟨a, ha, hl⟩
  · rintro (h | ⟨c, hc, h⟩)
    · exact ⟨_, ⟨varB v, .inl ⟨_, h, rfl⟩, rfl⟩, by simp [varB]⟩
    · exact ⟨_, ⟨c, .inr hc, rfl⟩, List.mem_append.2 (.inr h)⟩

theorem text_has (t : Tr) (v : Nat) (hv : v < 6) : t.ok → ∀ p, UInt8.ofNat (65 + v) ∈ t.text ↔ ∃ m ∈ t.enc p, (v : Int) ∈ occ m := by
  induction t with
  | leaf op x y =>
    intro ok p
    rw [Tr.text]
    split
    · rename_i h1
      subst h1
      constructor
      · intro h
        have := nm_low 1 _ h
        rw [low_letter v hv] at this
        exact absurd this (by simp)
      · rintro ⟨m, hm, h⟩
        simp only [Tr.enc, List.mem_singleton] at hm
        subst hm
        rw [occ0 rfl] at h
        simp at h
    · rw [fmtNode_has _ _ v hv ok.2.2.1]
      simp only [Tr.enc, List.mem_singleton, exists_eq_left]
      simp
  | un op x a ih =>
    intro ok p
    rw [Tr.text, fmtNode_has _ _ v hv ok.1.2.2.1]
    simp only [Tr.enc, List.mem_append, List.mem_singleton, exists_eq_left]
    rw [ih ok.2 p]
    constructor
    · rintro (h | h)
      · exact ⟨_, .inr rfl, h⟩
      · obtain ⟨m, hm, h⟩ := h; exact ⟨m, .inl hm, h⟩
    · rintro ⟨m, hm | rfl, h⟩
      · exact .inr ⟨m, hm, h⟩
      · exact .inl h
  | bin op a b iha ihb =>
    intro ok p
    have v0 := (nv_of_nc2 op ok.1).1
    rw [Tr.text, fmtNode_has _ _ v hv (by simp [within, v0]), occ0 (m := ⟨op, 0, 0, 0, 0⟩) v0]
    simp only [Tr.enc, List.mem_append, List.mem_singleton, List.mem_cons, List.not_mem_nil, or_false, false_or, exists_eq_or_imp, exists_eq_left]
    rw [iha ok.2.1 p, ihb ok.2.2 (p + a.size)]
    constructor
    · rintro (⟨m, hm, h⟩ | ⟨m, hm, h⟩)
      · exact ⟨m, .inl hm, h⟩
      · exact ⟨m, .inr (.inl hm), h⟩
    · rintro ⟨m, hm | hm | rfl, h⟩
      · exact .inl ⟨m, hm, h⟩
      · exact .inr ⟨m, hm, h⟩
      · rw [occ0 (m := ⟨op, 0, 0, _, _⟩) v0] at h; simp at h

/-- No letter from V on, V + n not reached. -/
def smn (s : List UInt8) (V : Nat) : Nat → Bool
  | 0 => true
  | n + 1 => smn s V n && !s.contains (UInt8.ofNat (65 + (V + n)))
theorem smn_iff (s : List UInt8) (V : Nat) : ∀ n, smn s V n = true ↔ ∀ v, V ≤ v → v < V + n → UInt8.ofNat (65 + v) ∉ s := by
  intro n
  induction n with
  | zero => simp only [smn, true_iff]; intro v h1 h2; omega
  | succ n ih =>
    rw [smn, Bool.and_eq_true, ih]
    simp only [Bool.not_eq_true', List.contains_eq_mem, decide_eq_false_iff_not]
    constructor
    · rintro ⟨h1, h2⟩ v h3 h4
      by_cases h : v = V + n
      · subst h; exact h2
      · exact h1 v h3 (by omega)
    · intro h
      exact ⟨fun v h1 h2 => h v h1 (by omega), h _ (by omega) (by omega)⟩

theorem within_occ {m : Mk} {V : Int} (h6 : within m 6 = true) : within m V = true ↔ ∀ x ∈ occ m, x < V := by
  simp only [within, Bool.and_eq_true, Bool.or_eq_true, decide_eq_true_eq] at h6 ⊢
  rcases nv_cases m.op with h | h | h
  · rw [occ0 h]; simp; omega
  · rw [occ1 h]; simp; omega
  · rw [occ2 h]; simp; omega
theorem small_iff (f : List Mk) (hf : formedS f = true) (V : Nat) (hV : V ≤ 6) : smn (textS f) V (6 - V) = true ↔ ∀ m ∈ f, within m V = true := by
  obtain ⟨t, ok, hs, he, ht⟩ := formed_is f hf
  rw [smn_iff, ht]
  have hw : ∀ m ∈ f, within m 6 = true := fun m hm => by rw [he] at hm; exact (t.enc_node ok 0 m hm).2.1
  constructor
  · intro h m hm
    rw [within_occ (hw m hm)]
    intro x hx
    have hb : 0 ≤ x ∧ x < 6 := by
      have hw' := hw m hm
      simp only [within, Bool.and_eq_true, Bool.or_eq_true, decide_eq_true_eq] at hw'
      rcases nv_cases m.op with h | h | h
      · rw [occ0 h] at hx; simp at hx
      · rw [occ1 h] at hx; simp at hx; omega
      · rw [occ2 h] at hx; simp at hx; rcases hx with rfl | rfl <;> omega
    by_cases hlt : x < V
    · exact hlt
    · exfalso
      refine h x.toNat (by omega) (by omega) ((text_has t x.toNat (by omega) ok 0).2 ⟨m, by rw [← he]; exact hm, ?_⟩)
      rw [Int.toNat_of_nonneg hb.1]; exact hx
  · intro h v h1 h2 hc
    obtain ⟨m, hm, hv⟩ := (text_has t v (by omega) ok 0).1 hc
    rw [← he] at hm
    have := (within_occ (hw m hm)).1 (h m hm) _ hv
    omega
theorem check_iff {f : List Mk} {vars : Int} {trees : Bool} (h0 : 0 ≤ vars) (h1 : vars ≤ if trees then 3 else 6) : checkS f vars trees = 0 ↔ chk f vars (knows trees) = 0 := by
  unfold checkS
  rw [if_neg (by omega)]
theorem chk_within {f : List Mk} {vars : Int} {known : Int → Bool} (h : chk f vars known = 0) : ∀ m ∈ f, within m vars = true := by
  intro m hm
  obtain ⟨i, hi⟩ := List.mem_iff_getElem?.1 hm
  exact (chkNode_zero ((chk_zero h).2.2.2 i m hi)).2.2.1
theorem chk_change {f : List Mk} {a b : Int} {known : Int → Bool} (h : chk f a known = 0) (hw : ∀ m ∈ f, within m b = true) : chk f b known = 0 := by
  obtain ⟨h1, h2, h3, h4⟩ := chk_zero h
  refine chk_mk h1 h2 h3 fun i m hm => ?_
  obtain ⟨a1, a2, a3, a4, a5⟩ := chkNode_zero (h4 i m hm)
  exact chkNode_mk a1 a2 (hw m (List.mem_of_getElem? hm)) a4 a5

/-- What MsoVariables asks of a formed formula. -/
theorem vars_all {f : List Mk} (hf : formedS f = true) (V : Nat) (hV : V ≤ 6) (h : checkS f 6 false = 0) : (checkS f V false = 0 ↔ smn (textS f) V (6 - V) = true) := by
  rw [small_iff f hf V hV, check_iff (by omega) (by simp; omega)]
  rw [check_iff (by omega) (by simp)] at h
  exact ⟨chk_within, fun hw => chk_change h hw⟩
theorem vars_trees {f : List Mk} (hf : formedS f = true) (V : Nat) (hV : V ≤ 3) (h : checkS f V true = 0) : smn (textS f) V (6 - V) = true := by
  rw [small_iff f hf V (by omega)]
  rw [check_iff (by omega) (by simp; omega)] at h
  exact chk_within h
theorem vars_six {f : List Mk} (V : Nat) (hV : V ≤ 6) (h : checkS f V false = 0) : checkS f 6 false = 0 := by
  rw [check_iff (by omega) (by simp; omega)] at h
  rw [check_iff (by omega) (by simp)]
  exact chk_change h fun m hm => within_mono (chk_within h m hm) (by omega)
end Go.Proofs.YtbggpiednddheaaDoor
