/- Plain law: what Smallest, Empty, Accepts, Compare and Count say of one automaton; how many trees there are. No program in sight. -/
import Derived.Test.YthkfjnmnoanhlaaGreatDoorAwP
set_option linter.unusedSimpArgs false
set_option linter.unusedVariables false
namespace Go.Proofs.YthkfjnmnoanhlaaGreatDoor

theorem sum_konst {α : Type} (c : Nat) : ∀ l : List α, (l.map fun _ => c).sum = l.length * c
  | [] => by simp
  | a :: l => by simp only [List.map_cons, List.sum_cons, List.length_cons, sum_konst c l, Nat.succ_mul]; omega
/-- How many trees with n nodes over K letters there are. -/
def bN (K n : Nat) : Nat := (tsF K (n + 1) n).length
theorem bN_any (K n : Nat) {f : Nat} (h : n < f) : (tsF K f n).length = bN K n := (ts_perm K n h).length_eq.trans (ts_perm K n (Nat.lt_succ_self n)).length_eq.symm
theorem bN0 : bN 2 0 = 1 := rfl
theorem bN_succ (K k : Nat) : bN K (k + 1) = ((List.range (k + 1)).map fun i => bN K i * (bN K (k - i) * K)).sum := by
  show (tsF K (k + 1 + 1) (k + 1)).length = _
  rw [show tsF K (k + 1 + 1) (k + 1) = (List.range (k + 1)).flatMap fun i => (tsF K (k + 1) i).flatMap fun a => (tsF K (k + 1) (k - i)).flatMap fun b => (List.range K).map fun x : Nat => Bt.node (x : Int) a b from rfl]
  rw [List.length_flatMap]
  congr 1
  apply List.map_congr_left
  intro i hi
  have hi := List.mem_range.1 hi
  simp only [List.length_flatMap, List.length_map, List.length_range, sum_konst]
  rw [bN_any K i (by omega), bN_any K (k - i) (by omega)]
theorem rec_num (B : Nat → Nat) (b0 : B 0 = 1) (hB : ∀ k, B (k + 1) = ((List.range (k + 1)).map fun i => B i * (B (k - i) * 2)).sum) : B 1 = 2 ∧ B 2 = 8 ∧ B 3 = 40 ∧ B 4 = 224 ∧ B 5 = 1344 ∧ B 6 = 8448 ∧ B 7 = 54912 ∧ B 8 = 366080 ∧ B 9 = 2489344 ∧ B 10 = 17199104 ∧ B 11 = 120393728 ∧ B 12 = 852017152 := by
  have b1 : B 1 = 2 := by rw [hB]; simp [List.range_succ, b0]
  have b2 : B 2 = 8 := by rw [hB]; simp [List.range_succ, b0, b1]
  have b3 : B 3 = 40 := by rw [hB]; simp [List.range_succ, b0, b1, b2]
  have b4 : B 4 = 224 := by rw [hB]; simp [List.range_succ, b0, b1, b2, b3]
  have b5 : B 5 = 1344 := by rw [hB]; simp [List.range_succ, b0, b1, b2, b3, b4]
  have b6 : B 6 = 8448 := by rw [hB]; simp [List.range_succ, b0, b1, b2, b3, b4, b5]
  have b7 : B 7 = 54912 := by rw [hB]; simp [List.range_succ, b0, b1, b2, b3, b4, b5, b6]
  have b8 : B 8 = 366080 := by rw [hB]; simp [List.range_succ, b0, b1, b2, b3, b4, b5, b6, b7]
  have b9 : B 9 = 2489344 := by rw [hB]; simp [List.range_succ, b0, b1, b2, b3, b4, b5, b6, b7, b8]
  have b10 : B 10 = 17199104 := by rw [hB]; simp [List.range_succ, b0, b1, b2, b3, b4, b5, b6, b7, b8, b9]
  have b11 : B 11 = 120393728 := by rw [hB]; simp [List.range_succ, b0, b1, b2, b3, b4, b5, b6, b7, b8, b9, b10]
  have b12 : B 12 = 852017152 := by rw [hB]; simp [List.range_succ, b0, b1, b2, b3, b4, b5, b6, b7, b8, b9, b10, b11]
  exact ⟨b1, b2, b3, b4, b5, b6, b7, b8, b9, b10, b11, b12⟩
theorem bN_small : ∀ n, n ≤ 12 → bN 2 n < M64 := by
  obtain ⟨b1, b2, b3, b4, b5, b6, b7, b8, b9, b10, b11, b12⟩ := rec_num (bN 2) bN0 (bN_succ 2)
  intro n hn
  have : n = 0 ∨ n = 1 ∨ n = 2 ∨ n = 3 ∨ n = 4 ∨ n = 5 ∨ n = 6 ∨ n = 7 ∨ n = 8 ∨ n = 9 ∨ n = 10 ∨ n = 11 ∨ n = 12 := by omega
  rcases this with rfl | rfl | rfl | rfl | rfl | rfl | rfl | rfl | rfl | rfl | rfl | rfl | rfl
  · rw [bN0]; decide
  · rw [b1]; decide
  · rw [b2]; decide
  · rw [b3]; decide
  · rw [b4]; decide
  · rw [b5]; decide
  · rw [b6]; decide
  · rw [b7]; decide
  · rw [b8]; decide
  · rw [b9]; decide
  · rw [b10]; decide
  · rw [b11]; decide
  · rw [b12]; decide
theorem accN_le (d : Dta) (n : Nat) : accN d n ≤ bN d.L n := List.length_filter_le _ _
theorem accN_all {d : Dta} (h : ∀ s, d.fin s = true) (n : Nat) : accN d n = bN d.L n := by
  unfold accN bN
  congr 1
  exact List.filter_eq_self.2 fun t _ => h _
theorem formed_small {D : Dta} {V : Nat} (hD : D.Fit V) {tl : List Lf} (hlb : ∀ m ∈ tl, 0 ≤ m.label) (hc : checkT tl (V : Int) = 0) : formedT tl = true ∧ (btOf tl).size = tl.length ∧ (btOf tl).lb (2 ^ V) := by
  obtain ⟨h1, h2, h3⟩ := check_zero hD.v3 hlb hc
  exact ⟨h1, (btOf_ok h1).2.1, bt_lb h1 hlb h3⟩
theorem small_law {D : Dta} {V : Nat} (hD : D.Fit V) {tl : List Lf} (hlb : ∀ m ∈ tl, 0 ≤ m.label) (h15 : tl.length ≤ 15) :
    (emptyS D = true ∧ smallO D = ([], false, 0) ∧ (checkT tl (V : Int) = 0 → D.fin (D.run (btOf tl)) = false)) ∨
    (emptyS D = false ∧ smallO D = ([], false, 4) ∧ (checkT tl (V : Int) = 0 → D.fin (D.run (btOf tl)) = false)) ∨
    ∃ t : Bt, emptyS D = false ∧ smallO D = (t.enc 0, true, 0) ∧ t.lb (2 ^ V) ∧ t.size ≤ 31 ∧ D.fin (D.run t) = true ∧ (∀ n, n < t.size → accN D n = 0) ∧ 0 < accN D t.size ∧
      (checkT tl (V : Int) = 0 → D.fin (D.run (btOf tl)) = true → 0 ≤ compareS tl (t.enc 0)) := by
  have hM := Dta.mini_is hD.ok (L := D.L) rfl (S := fun t => D.fin (D.run t)) fun t _ => rfl
  cases e : emptyS D with
  | true =>
    left
    refine ⟨rfl, by unfold smallO; rw [if_pos e], fun hc => ?_⟩
    obtain ⟨_, _, h3⟩ := formed_small hD hlb hc
    exact (empty_iff hD.ok).1 e _ (by rw [hD.L]; exact h3)
  | false =>
    right
    cases e2 : smallS D.mini with
    | none =>
      left
      refine ⟨rfl, by unfold smallO; rw [if_neg (by rw [e]; simp), e2], fun hc => ?_⟩
      obtain ⟨_, h2, h3⟩ := formed_small hD hlb hc
      cases hf : D.fin (D.run (btOf tl)) with
      | false => rfl
      | true =>
        have := small_none hM.can.ok e2 (btOf tl) (by rw [hM.hL, hD.L]; exact h3) (by rw [hM.lang _ (by rw [hD.L]; exact h3)]; exact hf)
        omega
    | some t =>
      right
      obtain ⟨g1, g2, g3, g4⟩ := small_some hM.can.ok e2
      rw [hM.hL] at g2
      rw [hM.lang t g2] at g3
      have hlow : ∀ u : Bt, u.lb D.L → D.fin (D.run u) = true → t.size < u.size ∨ t.size = u.size ∧ leB t u := fun u hu hf => g4 u (by rw [hM.hL]; exact hu) (by rw [hM.lang u hu]; exact hf)
      refine ⟨t, rfl, by unfold smallO; rw [if_neg (by rw [e]; simp), e2], by rw [← hD.L]; exact g2, g1, g3, fun n hn => accN_zero fun u h1 h2 => ?_, accN_pos rfl g2 g3, fun hc hf => ?_⟩
      · cases hf : D.fin (D.run u) with
        | false => rfl
        | true => have := hlow u h2 hf; omega
      · obtain ⟨h1, h2, h3⟩ := formed_small hD hlb hc
        have hq := hlow (btOf tl) (by rw [hD.L]; exact h3) hf
        unfold compareS
        rw [nf_of h1, nf_of (formed_bt t g1), Bt.enc_len, btOf_enc]
        by_cases he : (tl.length : Int) = t.size
        · rw [if_pos (cmpI_zero.2 he)]
          have : leB t (btOf tl) := by
            rcases hq with h | h
            · omega
            · exact h.2
          unfold leB at this
          have := cmpL_swap t.code (btOf tl).code
          omega
        · rw [if_neg (fun h => he (cmpI_zero.1 h))]
          have : ¬ cmpI (tl.length : Int) t.size < 0 := fun h => by have := cmpI_neg.1 h; omega
          omega
end Go.Proofs.YthkfjnmnoanhlaaGreatDoor
