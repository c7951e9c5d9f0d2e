/- Plain laws: negation, conjunction and disjunction of formulas on words. No program in sight. -/
import Derived.Test.YtgeklibilgfjbaaDoorModP
import Derived.Test.YtgeklibilgfjbaaDoorChk
import Derived.Test.YtgeklibilgfjbaaDoorBuild
set_option linter.unusedSimpArgs false
set_option linter.unusedVariables false
namespace Go.Proofs.YtgeklibilgfjbaaDoor

theorem check_iff (f : List Mk) (vars : Int) (trees : Bool) : checkS f vars trees = 0 ↔ (0 ≤ vars ∧ vars ≤ (if trees then 3 else 6)) ∧ formedS f = true ∧ ∀ m ∈ f, knows trees m.op = true ∧ within m vars = true := by
  constructor
  · intro h
    have hf := check_formed_of h
    unfold checkS at h
    by_cases hr : vars < 0 ∨ (if trees then (3 : Int) else 6) < vars
    · rw [if_pos hr] at h; omega
    · rw [if_neg hr] at h
      obtain ⟨h1, h2, h3, h4⟩ := chk_zero h
      refine ⟨⟨by omega, by omega⟩, hf, fun m hm => ?_⟩
      obtain ⟨i, hi⟩ := List.getElem?_of_mem hm
      obtain ⟨a, b, c, d, e⟩ := chkNode_zero (h4 i m hi)
      exact ⟨b, c⟩
  · rintro ⟨⟨h1, h2⟩, hf, hn⟩
    have hc : chk f 6 (fun _ => true) = 0 := of_decide_eq_true hf
    obtain ⟨a1, a2, a3, a4⟩ := chk_zero hc
    unfold checkS
    rw [if_neg (by omega)]
    refine chk_mk a1 a2 a3 fun i m hm => ?_
    obtain ⟨b1, _, b3, b4, b5⟩ := chkNode_zero (a4 i m hm)
    obtain ⟨k1, k2⟩ := hn m (List.mem_of_getElem? hm)
    exact chkNode_mk b1 k1 k2 b4 b5
theorem wordS_err {f : List Mk} {vars : Int} {l : List Nat} (h : (wordS f vars l).2 ≠ 0) : (wordS f vars l).1 = false := by
  unfold wordS evalS at h ⊢
  by_cases h1 : checkS f vars false ≠ 0
  · rw [if_pos h1]
  · rw [if_neg h1] at h ⊢
    by_cases h2 : 64 < l.length
    · rw [if_pos h2]
    · rw [if_neg h2] at h ⊢
      by_cases h3 : l.any (badL vars) = true
      · rw [if_pos h3]
      · rw [if_neg h3] at h ⊢
        by_cases h4 : 65536 < costT (stcWord l.length).n (treeOf f)
        · rw [if_pos h4]
        · rw [if_neg h4] at h; exact absurd rfl h
theorem wordS_ok {f : List Mk} {vars : Int} {l : List Nat} (h : (wordS f vars l).2 = 0) : checkS f vars false = 0 ∧ l.length ≤ 64 ∧ l.any (badL vars) = false ∧ costT l.length (treeOf f) ≤ 65536 ∧ (wordS f vars l).1 = holdsT (stcWord l.length) (treeOf f) (givenS l) := by
  unfold wordS evalS at h ⊢
  by_cases h1 : checkS f vars false ≠ 0
  · rw [if_pos h1] at h; exact absurd h h1
  · rw [if_neg h1] at h ⊢
    by_cases h2 : 64 < l.length
    · rw [if_pos h2] at h; exact absurd h (by decide)
    · rw [if_neg h2] at h ⊢
      by_cases h3 : l.any (badL vars) = true
      · rw [if_pos h3] at h; exact absurd h (by decide)
      · rw [if_neg h3] at h ⊢
        by_cases h4 : 65536 < costT (stcWord l.length).n (treeOf f)
        · rw [if_pos h4] at h; exact absurd h (by decide)
        · rw [if_neg h4]
          have h5 : ¬ 65536 < costT l.length (treeOf f) := h4
          exact ⟨by simpa using h1, by omega, by simpa using h3, by omega, rfl⟩
theorem wordS_at {f : List Mk} {vars : Int} {l : List Nat} {t : Tr} (h1 : checkS f vars false = 0) (h2 : l.length ≤ 64) (h3 : l.any (badL vars) = false) (ht : treeOf f = t) :
    wordS f vars l = if 65536 < costT l.length t then (false, 10) else (holdsT (stcWord l.length) t (givenS l), 0) := by
  unfold wordS evalS
  rw [if_neg (by simp [h1]), if_neg (by omega), if_neg (by simp [h3]), ht]
  rfl
theorem within_sh {m n : Mk} (vars : Int) (h1 : m.op = n.op) (h2 : m.x = n.x) (h3 : m.y = n.y) : within m vars = within n vars := by
  unfold within; rw [h1, h2, h3]

theorem not_law {a : List Mk} {l : List Nat} (h : (wordS a 3 l).2 = 0) (hl : a.length ≤ 30) :
    ∃ f, wrapS a ⟨9, 0, 0, 0, 0⟩ = (f, 0) ∧ (wordS f 3 l = (false, 10) ∨ wordS f 3 l = (!(wordS a 3 l).1, 0)) := by
  obtain ⟨c1, c2, c3, c4, c5⟩ := wordS_ok h
  obtain ⟨_, hf, hn⟩ := (check_iff a 3 false).1 c1
  obtain ⟨_, ok, hs, he⟩ := treeOf_ok hf
  generalize treeOf a = t at *
  have hsz : t.size ≤ 30 := by omega
  have hw := wrap_enc t ok 9 0 (by omega)
  rw [← he] at hw
  refine ⟨_, hw, ?_⟩
  have okn : (Tr.un 9 0 t).ok := un_ok (.inl ⟨rfl, rfl⟩) ok
  have hc : checkS ((Tr.un 9 0 t).enc 0) 3 false = 0 := by
    refine (check_iff _ _ _).2 ⟨by simp, formed_enc _ okn (by simp only [Tr.size]; omega), fun m hm => ?_⟩
    simp only [Tr.enc, List.mem_append, List.mem_singleton] at hm
    rcases hm with hm | rfl
    · exact hn m (by rw [he]; exact hm)
    · simp [knows, within, nv]
  rw [wordS_at hc c2 c3 (treeOf_eq _ okn), c5]
  split
  · exact .inl rfl
  · right; simp [holdsT]
theorem join_law {a b : List Mk} {l : List Nat} (op : Int) (hop : op = 10 ∨ op = 11) (h : (wordS a 3 l).2 = 0) (g : (wordS b 3 l).2 = 0) (hl : a.length ≤ 30) (hm : b.length ≤ 30) :
    ∃ f, joinS op a b = (f, 0) ∧ (wordS f 3 l = (false, 10) ∨ wordS f 3 l = (if op = 10 then (wordS a 3 l).1 && (wordS b 3 l).1 else (wordS a 3 l).1 || (wordS b 3 l).1, 0)) := by
  obtain ⟨c1, c2, c3, c4, c5⟩ := wordS_ok h
  obtain ⟨d1, _, _, _, d5⟩ := wordS_ok g
  obtain ⟨_, hf, hn⟩ := (check_iff a 3 false).1 c1
  obtain ⟨_, hg, hn2⟩ := (check_iff b 3 false).1 d1
  obtain ⟨_, ok, hs, he⟩ := treeOf_ok hf
  obtain ⟨_, ok2, hs2, he2⟩ := treeOf_ok hg
  generalize treeOf a = t at *
  generalize treeOf b = s at *
  have hw := join_enc t s ok ok2 op hop (by omega)
  rw [← he, ← he2] at hw
  refine ⟨_, hw, ?_⟩
  have okn : (Tr.bin op t s).ok := bin_ok hop ok ok2
  have sh : ∀ (s : Tr) (p q : Nat) (m : Mk), m ∈ s.enc p → ∃ m' ∈ s.enc q, m.op = m'.op ∧ m.x = m'.x ∧ m.y = m'.y := by
    intro s
    induction s with
    | leaf o x y => intro p q m hm; simp only [Tr.enc, List.mem_singleton] at hm ⊢; subst hm; exact ⟨_, rfl, rfl, rfl, rfl⟩
    | un o x a ih =>
      intro p q m hm
      simp only [Tr.enc, List.mem_append, List.mem_singleton] at hm ⊢
      rcases hm with hm | rfl
      · obtain ⟨m', h1, h2⟩ := ih p q m hm; exact ⟨m', .inl h1, h2⟩
      · exact ⟨_, .inr rfl, rfl, rfl, rfl⟩
    | bin o a b iha ihb =>
      intro p q m hm
      simp only [Tr.enc, List.mem_append, List.mem_singleton] at hm ⊢
      rcases hm with hm | hm | rfl
      · obtain ⟨m', h1, h2⟩ := iha p q m hm; exact ⟨m', .inl h1, h2⟩
      · obtain ⟨m', h1, h2⟩ := ihb _ (q + a.size) m hm; exact ⟨m', .inr (.inl h1), h2⟩
      · exact ⟨_, .inr (.inr rfl), rfl, rfl, rfl⟩
  have hc : checkS ((Tr.bin op t s).enc 0) 3 false = 0 := by
    refine (check_iff _ _ _).2 ⟨by simp, formed_enc _ okn (by simp only [Tr.size]; omega), fun m hm => ?_⟩
    simp only [Tr.enc, List.mem_append, List.mem_singleton] at hm
    rcases hm with hm | hm | rfl
    · exact hn m (by rw [he]; exact hm)
    · obtain ⟨m', h1, h2, h3, h4⟩ := sh s _ 0 m hm
      have := hn2 m' (by rw [he2]; exact h1)
      rw [h2, within_sh 3 h2 h3 h4]; exact this
    · rcases hop with rfl | rfl <;> simp [knows, within, nv]
  rw [wordS_at hc c2 c3 (treeOf_eq _ okn), c5, d5]
  split
  · exact .inl rfl
  · right; simp [holdsT]
end Go.Proofs.YtgeklibilgfjbaaDoor
