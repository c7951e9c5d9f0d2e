/- What substitution does to the free variables, and that it can be undone: plain. -/
import Derived.Test.YtbggpiednddheaaDoorFsub
import Derived.Test.YtbggpiednddheaaDoorVarsP
set_option linter.unusedSimpArgs false
set_option linter.unusedVariables false
namespace Go.Proofs.YtbggpiednddheaaDoor

def occT (v : Int) : Tr → Bool
  | .leaf op x y => (decide (0 < nv op) && (x == v)) || (decide (1 < nv op) && (y == v))
  | .un op x a => (decide (0 < nv op) && (x == v)) || occT v a
  | .bin _ a b => occT v a || occT v b
theorem nv_q {op x : Int} (h : okUn op x) (h12 : 12 ≤ op) : nv op = 1 := by
  have := nm_range h.1
  have hc : op = 12 ∨ op = 13 ∨ op = 14 ∨ op = 15 := by omega
  rcases hc with rfl | rfl | rfl | rfl <;> rfl
theorem fr_occ (v : Int) (t : Tr) : t.ok → frT v t = true → occT v t = true := by
  induction t with
  | leaf op x y => intro ok h; exact h
  | un op x a ih =>
    intro ok h
    simp only [frT] at h
    simp only [occT]
    have : frT v a = true := by
      split at h
      · exact (Bool.and_eq_true _ _ ▸ h).2
      · exact h
    rw [ih ok.2 this, Bool.or_true]
  | bin op a b iha ihb =>
    intro ok h
    simp only [frT, Bool.or_eq_true] at h
    simp only [occT, Bool.or_eq_true]
    exact h.elim (fun h => .inl (iha ok.2.1 h)) fun h => .inr (ihb ok.2.2 h)
theorem fr_no {v : Int} {t : Tr} (ok : t.ok) (h : occT v t = false) : frT v t = false := by
  cases hf : frT v t with
  | false => rfl
  | true => rw [fr_occ v t ok hf] at h; cases h
/-- A clash wants a free occurrence of x and a quantifier of y. -/
theorem cap_occ (x y : Int) (t : Tr) : t.ok → capT x y t = true → frT x t = true ∧ occT y t = true := by
  induction t with
  | leaf op u v => intro ok h; simp [capT] at h
  | un op z a ih =>
    intro ok h
    simp only [capT] at h
    simp only [frT, occT]
    by_cases h12 : 12 ≤ op
    · rw [if_pos h12] at h ⊢
      by_cases hz : z = x
      · rw [if_pos hz] at h; simp at h
      · rw [if_neg hz] at h
        have hzx : (z != x) = true := by simp [hz]
        rw [hzx, Bool.true_and]
        simp only [Bool.or_eq_true, Bool.and_eq_true] at h
        rcases h with ⟨h1, h2⟩ | h
        · refine ⟨h2, ?_⟩
          rw [nv_q ok.1 h12, h1]; rfl
        · have := ih ok.2 h
          exact ⟨this.1, by rw [this.2, Bool.or_true]⟩
    · rw [if_neg h12] at h ⊢
      have := ih ok.2 h
      exact ⟨this.1, by rw [this.2, Bool.or_true]⟩
  | bin op a b iha ihb =>
    intro ok h
    simp only [capT, Bool.or_eq_true] at h
    simp only [frT, occT, Bool.or_eq_true]
    rcases h with h | h
    · have := iha ok.2.1 h; exact ⟨.inl this.1, .inl this.2⟩
    · have := ihb ok.2.2 h; exact ⟨.inr this.1, .inr this.2⟩
theorem cap_no {x y : Int} {t : Tr} (ok : t.ok) (h : frT x t = false) : capT x y t = false := by
  cases hc : capT x y t with
  | false => rfl
  | true => rw [(cap_occ x y t ok hc).1] at h; cases h
theorem leaf_rep {op u v x y : Int} (h : frT x (.leaf op u v) = false) : repT x y (.leaf op u v) = .leaf op u v := by
  simp only [frT, Bool.or_eq_false_iff, Bool.and_eq_false_iff, decide_eq_false_iff_not, beq_eq_false_iff_ne] at h
  simp only [repT]
  rw [if_neg (by rintro ⟨a, b⟩; rcases h.1 with h | h <;> contradiction), if_neg (by rintro ⟨a, b⟩; rcases h.2 with h | h <;> contradiction)]
/-- Where x is not free nothing is replaced. -/
theorem rep_no (x y : Int) (t : Tr) : frT x t = false → repT x y t = t := by
  induction t with
  | leaf op u v => exact leaf_rep
  | un op z a ih =>
    intro h
    simp only [frT] at h
    unfold repT
    by_cases h12 : 12 ≤ op
    · rw [if_pos h12] at h
      by_cases hz : z = x
      · rw [if_pos ⟨h12, hz⟩]
      · rw [if_neg (by rintro ⟨_, h⟩; exact hz h)]
        have hzx : (z != x) = true := by simp [hz]
        rw [hzx, Bool.true_and] at h
        rw [ih h]
    · rw [if_neg h12] at h
      rw [if_neg (by rintro ⟨h, _⟩; exact h12 h), ih h]
  | bin op a b iha ihb =>
    intro h
    simp only [frT, Bool.or_eq_false_iff] at h
    rw [repT, iha h.1, ihb h.2]
theorem rep_self (x : Int) (t : Tr) : repT x x t = t := by
  induction t with
  | leaf op u v =>
    simp only [repT]
    congr 1
    · split
      · rename_i h; exact h.2.symm
      · rfl
    · split
      · rename_i h; exact h.2.symm
      · rfl
  | un op z a ih => unfold repT; split <;> simp [ih]
  | bin op a b iha ihb => rw [repT, iha, ihb]
theorem repT_ok (x y : Int) (h0 : 0 ≤ y) (h1 : y < 6) (t : Tr) : t.ok → (repT x y t).ok := by
  induction t with
  | leaf op u v =>
    rintro ⟨a, b, c, d⟩
    refine ⟨a, b, ?_, ?_⟩
    · simp only [within, Bool.and_eq_true, Bool.or_eq_true, decide_eq_true_eq] at c ⊢
      constructor
      · split <;> omega
      · split <;> omega
    · simp only [spare, Bool.and_eq_true, Bool.or_eq_true, decide_eq_true_eq] at d ⊢
      constructor
      · rcases d.1 with h | h
        · exact .inl h
        · by_cases hn : 0 < nv op
          · exact .inl hn
          · exact .inr (by rw [if_neg (by rintro ⟨q, _⟩; exact hn q)]; exact h)
      · rcases d.2 with h | h
        · exact .inl h
        · by_cases hn : 1 < nv op
          · exact .inl hn
          · exact .inr (by rw [if_neg (by rintro ⟨q, _⟩; exact hn q)]; exact h)
  | un op z a ih =>
    intro ok
    unfold repT
    split
    · exact ok
    · exact ⟨ok.1, ih ok.2⟩
  | bin op a b iha ihb => intro ok; exact ⟨ok.1, iha ok.2.1, ihb ok.2.2⟩
theorem key_bool (a v x y : Int) : ((if a = x then y else a) == v) = (((v != x) && (a == v)) || ((v == y) && (a == x))) := by
  rw [Bool.eq_iff_iff]
  simp only [Bool.or_eq_true, Bool.and_eq_true, beq_iff_eq, bne_iff_ne, ne_eq]
  by_cases e : a = x
  · subst e
    rw [if_pos rfl]
    constructor
    · intro h; exact .inr ⟨h.symm, rfl⟩
    · rintro (⟨h1, h2⟩ | ⟨h1, _⟩)
      · exact absurd h2.symm h1
      · exact h1.symm
  · rw [if_neg e]
    constructor
    · intro h; exact .inl ⟨by rw [← h]; exact e, h⟩
    · rintro (⟨_, h⟩ | ⟨_, h⟩)
      · exact h
      · exact absurd h e
theorem bl3 : ∀ b1 b2 b3 b4 b5 b6 : Bool, ((b1 && b2 || b3 && b4) || (b1 && b5 || b3 && b6)) = (b1 && (b2 || b5) || b3 && (b4 || b6)) := by decide
/-- The free variables behind a substitution without a clash. -/
theorem fr_rep (x y v : Int) (hxy : x ≠ y) (t : Tr) : t.ok → capT x y t = false → frT v (repT x y t) = (((v != x) && frT v t) || ((v == y) && frT x t)) := by
  induction t with
  | leaf op a b =>
    intro ok _
    simp only [repT, frT]
    rcases nv_cases op with h | h | h <;> rw [h]
    · simp
    · simp only [show decide ((0 : Int) < 1) = true from rfl, show decide ((1 : Int) < 1) = false from rfl, Bool.true_and, Bool.false_and, Bool.or_false, show ((0 : Int) < 1) = True by simp, true_and]
      exact key_bool a v x y
    · simp only [show decide ((0 : Int) < 2) = true from rfl, show decide ((1 : Int) < 2) = true from rfl, Bool.true_and, show ((0 : Int) < 2) = True by simp, show ((1 : Int) < 2) = True by simp, true_and]
      rw [key_bool a v x y, key_bool b v x y]
      exact bl3 _ _ _ _ _ _
  | un op z a ih =>
    intro ok hc
    simp only [capT] at hc
    by_cases h12 : 12 ≤ op
    · rw [if_pos h12] at hc
      by_cases hz : z = x
      · subst hz
        rw [repT, if_pos ⟨h12, rfl⟩]
        simp only [frT, if_pos h12, bne_self_eq_false, Bool.false_and, Bool.and_false, Bool.or_false]
        by_cases e : v = z
        · subst e; simp
        · simp [e]
      · rw [if_neg hz, Bool.or_eq_false_iff] at hc
        rw [repT, if_neg (by rintro ⟨_, h⟩; exact hz h)]
        simp only [frT, if_pos h12]
        rw [ih ok.2 hc.2]
        have hzx : (z != x) = true := by simp [hz]
        rw [hzx]
        have h1 := hc.1
        by_cases e : v = y
        · subst e
          by_cases e2 : z = v
          · subst e2
            have : frT x a = false := by simpa using h1
            rw [this]; simp
          · have : (z != v) = true := by simp [e2]
            rw [this]; simp
        · have : (v == y) = false := by simp [e]
          rw [this]
          simp only [Bool.false_and, Bool.or_false]
          generalize (z != v) = b1
          generalize (v != x) = b2
          generalize frT v a = b3
          revert b1 b2 b3; decide
    · rw [if_neg h12] at hc
      rw [repT, if_neg (by rintro ⟨h, _⟩; exact h12 h)]
      simp only [frT, if_neg h12]
      exact ih ok.2 hc
  | bin op a b iha ihb =>
    intro ok hc
    simp only [capT, Bool.or_eq_false_iff] at hc
    simp only [repT, frT]
    rw [iha ok.2.1 hc.1, ihb ok.2.2 hc.2]
    generalize (v != x) = b1
    generalize (v == y) = b2
    generalize frT v a = b3
    generalize frT v b = b4
    generalize frT x a = b5
    generalize frT x b = b6
    revert b1 b2 b3 b4 b5 b6; decide
/-- Where y does not occur, what was done can be undone. -/
theorem rep_back (x y : Int) (t : Tr) : t.ok → occT y t = false → capT y x (repT x y t) = false ∧ repT y x (repT x y t) = t := by
  induction t with
  | leaf op u v =>
    intro ok h
    refine ⟨by simp [repT, capT], ?_⟩
    simp only [occT, Bool.or_eq_false_iff, Bool.and_eq_false_iff, decide_eq_false_iff_not, beq_eq_false_iff_ne] at h
    simp only [repT]
    congr 1
    · by_cases hn : 0 < nv op
      · have hu : u ≠ y := by exact h.1.resolve_left (fun q => q hn)
        by_cases e : u = x
        · simp [hn, e]
        · simp [hn, e, hu]
      · simp [hn]
    · by_cases hn : 1 < nv op
      · have hu : v ≠ y := by exact h.2.resolve_left (fun q => q hn)
        by_cases e : v = x
        · simp [hn, e]
        · simp [hn, e, hu]
      · simp [hn]
  | un op z a ih =>
    intro ok h
    simp only [occT, Bool.or_eq_false_iff] at h
    obtain ⟨i1, i2⟩ := ih ok.2 h.2
    have hfa := fr_no ok.2 h.2
    by_cases h12 : 12 ≤ op
    · have hzy : z ≠ y := by
        have := h.1
        rw [nv_q ok.1 h12] at this
        simpa using this
      by_cases hz : z = x
      · have e : repT x y (.un op z a) = .un op z a := by rw [repT, if_pos ⟨h12, hz⟩]
        rw [e]
        have hfr : frT y (.un op z a) = false := by simp only [frT, if_pos h12, hfa, Bool.and_false]
        exact ⟨cap_no ok hfr, rep_no y x _ hfr⟩
      · have e : repT x y (.un op z a) = .un op z (repT x y a) := by rw [repT, if_neg (by rintro ⟨_, h⟩; exact hz h)]
        rw [e]
        constructor
        · have hzx : (z == x) = false := by simp [hz]
          simp only [capT, if_pos h12, if_neg hzy, hzx, Bool.false_and, Bool.false_or]
          exact i1
        · rw [repT, if_neg (by rintro ⟨_, h⟩; exact hzy h), i2]
    · have e : repT x y (.un op z a) = .un op z (repT x y a) := by rw [repT, if_neg (by rintro ⟨h, _⟩; exact h12 h)]
      rw [e]
      constructor
      · simp only [capT, if_neg h12]; exact i1
      · rw [repT, if_neg (by rintro ⟨h, _⟩; exact h12 h), i2]
  | bin op a b iha ihb =>
    intro ok h
    simp only [occT, Bool.or_eq_false_iff] at h
    obtain ⟨i1, i2⟩ := iha ok.2.1 h.1
    obtain ⟨j1, j2⟩ := ihb ok.2.2 h.2
    simp only [repT, capT]
    exact ⟨by rw [i1, j1]; rfl, by rw [i2, j2]⟩
end Go.Proofs.YtbggpiednddheaaDoor
