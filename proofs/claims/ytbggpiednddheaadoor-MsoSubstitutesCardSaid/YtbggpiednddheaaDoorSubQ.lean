/- The set of the free variables behind a substitution; the letters of a text: plain. -/
import Derived.Test.YtbggpiednddheaaDoorSubP
import Derived.Test.YtbggpiednddheaaDoorFreeP
set_option linter.unusedSimpArgs false
set_option linter.unusedVariables false
namespace Go.Proofs.YtbggpiednddheaaDoor

theorem pow_bits : ∀ (k i : Fin 6), (2 ^ k.1).testBit i.1 = decide (k.1 = i.1) := by decide
theorem high_false {n i : Nat} (hn : n < 64) (hi : 6 ≤ i) : n.testBit i = false := Nat.testBit_lt_two_pow (Nat.lt_of_lt_of_le hn (by
  calc (64 : Nat) = 2 ^ 6 := rfl
    _ ≤ 2 ^ i := Nat.pow_le_pow_right (by omega) hi))
theorem bl4 : ∀ a b c : Bool, (a && !b || c) = (a && !b || c) := by decide
/-- x goes, y comes. -/
theorem word_sub {t : Tr} (ok : t.ok) {x y : Nat} (hx : x < 6) (hy : y < 6) (hc : capT x y t = false ∨ x = y) (hf : frT (x : Int) t = true) : wordT (repT x y t) 6 = andn (wordT t 6) (2 ^ x) ||| 2 ^ y := by
  have okr := repT_ok (x : Int) (y : Int) (by omega) (by omega) t ok
  have hw := wordT_lt64 t ok
  apply Nat.eq_of_testBit_eq
  intro i
  by_cases hi : i < 6
  · rw [word_bit _ okr, Nat.testBit_or]
    unfold andn
    rw [Nat.testBit_and, word_bit _ ok, andn_bits ⟨x, hx⟩ ⟨i, hi⟩, pow_bits ⟨y, hy⟩ ⟨i, hi⟩]
    by_cases hxy : x = y
    · subst hxy
      rw [rep_self]
      by_cases e : x = i
      · subst e; simp [hf]
      · simp [e]
    · have hc' : capT x y t = false := hc.resolve_right hxy
      rw [fr_rep x y i (by omega) t ok hc', hf]
      have e1 : (((i : Int) != (x : Int))) = !decide (x = i) := by
        rw [Bool.eq_iff_iff]; simp; omega
      have e2 : (((i : Int) == (y : Int))) = decide (y = i) := by
        rw [Bool.eq_iff_iff]; simp; omega
      rw [e1, e2, Bool.and_true, Bool.and_comm]
  · have h1 := wordT_lt64 _ okr
    have h2 : andn (wordT t 6) (2 ^ x) ||| 2 ^ y < 64 := or_lt64 (and_lt64 hw) (pow_lt64 hy)
    rw [high_false h1 (by omega), high_false h2 (by omega)]

theorem occT_iff (v : Int) (t : Tr) : t.ok → ∀ p, occT v t = true ↔ ∃ m ∈ t.enc p, v ∈ occ m := by
  have one : ∀ (op x y : Int) (a b : Int), v ∈ occ ⟨op, x, y, a, b⟩ ↔ ((decide (0 < nv op) && (x == v)) || (decide (1 < nv op) && (y == v))) = true := by
    intro op x y a b
    rcases nv_cases op with h | h | h
    · rw [occ0 (by exact h), h]; simp
    · rw [occ1 (by exact h), h]
      simp only [List.mem_singleton, show decide ((0 : Int) < 1) = true from rfl, show decide ((1 : Int) < 1) = false from rfl, Bool.true_and, Bool.false_and, Bool.or_false, beq_iff_eq]
      exact eq_comm
    · rw [occ2 (by exact h), h]
      simp only [List.mem_cons, List.not_mem_nil, or_false, show decide ((0 : Int) < 2) = true from rfl, show decide ((1 : Int) < 2) = true from rfl, Bool.true_and, Bool.or_eq_true, beq_iff_eq]
      exact ⟨fun h => h.elim (fun h => .inl h.symm) fun h => .inr h.symm, fun h => h.elim (fun h => .inl h.symm) fun h => .inr h.symm⟩
  induction t with
  | leaf op x y =>
    intro ok p
    simp only [Tr.enc, List.mem_singleton, exists_eq_left, occT]
    exact (one op x y 0 0).symm
  | un op x a ih =>
    intro ok p
    have hn := nv_of_nc1 op ok.1.2.1
    have h1 := one op x 0 ((p + a.size - 1 : Nat) : Int) 0
    have e : decide (1 < nv op) = false := by simp; omega
    rw [e, Bool.false_and, Bool.or_false] at h1
    simp only [Tr.enc, List.mem_append, List.mem_singleton, occT, Bool.or_eq_true]
    rw [← h1, ih ok.2 p]
    constructor
    · rintro (h | ⟨m, hm, hv⟩)
      · exact ⟨_, .inr rfl, h⟩
      · exact ⟨m, .inl hm, hv⟩
    · rintro ⟨m, hm | rfl, hv⟩
      · exact .inr ⟨m, hm, hv⟩
      · exact .inl hv
  | bin op a b iha ihb =>
    intro ok p
    have hn := (nv_of_nc2 op ok.1).1
    simp only [Tr.enc, List.mem_append, List.mem_singleton, occT, Bool.or_eq_true]
    rw [iha ok.2.1 p, ihb ok.2.2 (p + a.size)]
    constructor
    · rintro (⟨m, hm, hv⟩ | ⟨m, hm, hv⟩)
      · exact ⟨m, .inl hm, hv⟩
      · exact ⟨m, .inr (.inl hm), hv⟩
    · rintro ⟨m, hm | hm | rfl, hv⟩
      · exact .inl ⟨m, hm, hv⟩
      · exact .inr ⟨m, hm, hv⟩
      · rw [occ0 (by exact hn)] at hv; simp at hv
/-- The letter of a variable stands in the text exactly if the variable occurs. -/
theorem text_letter (t : Tr) (ok : t.ok) (v : Nat) (hv : v < 6) : t.text.contains (UInt8.ofNat (65 + v)) = occT (v : Int) t := by
  rw [Bool.eq_iff_iff, List.contains_iff_mem, text_has t v hv ok 0, occT_iff (v : Int) t ok 0]
end Go.Proofs.YtbggpiednddheaaDoor
