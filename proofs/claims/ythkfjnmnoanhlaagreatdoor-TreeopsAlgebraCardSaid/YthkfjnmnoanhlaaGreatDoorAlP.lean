/- Plain law: the algebra of Not, And, Or, Minus. No program in sight. -/
import Derived.Test.YthkfjnmnoanhlaaGreatDoorInP
set_option linter.unusedSimpArgs false
set_option linter.unusedVariables false
namespace Go.Proofs.YthkfjnmnoanhlaaGreatDoor

theorem is_raw {a b : Dta} {L V : Nat} {S S' : Bt → Bool} (ha : a.Is L S) (hb : b.Is L S') (h : ∀ t : Bt, t.lb L → S t = S' t) : a.raw V = b.raw V := (ha.same hb h).raw ha.can.ok (ha.hL.trans hb.hL.symm) V
structure AlgF (D E : Dta) (V : Nat) : Prop where
  nx : D.notM.Fit V
  ny : E.notM.Fit V
  lxy : (prodO D E).length ≤ 64
  lyx : (prodO E D).length ≤ 64
  lnn : (prodO D.notM E.notM).length ≤ 64
  lmm : (prodO E.notM D.notM).length ≤ 64
  lxn : (prodO D E.notM).length ≤ 64
  or : (prodM D.notM E.notM fun p q => p || q).Fit V
  e1 : D.notM.notM.raw V = D.mini.raw V
  e2 : (prodM D E fun p q => p && q).raw V = (prodM E D fun p q => p && q).raw V
  e3 : (prodM D.notM E.notM fun p q => p || q).raw V = (prodM E.notM D.notM fun p q => p || q).raw V
  e4 : (prodM D E fun p q => p && q).raw V = (prodM D.notM E.notM fun p q => p || q).notM.raw V
  e5 : (prodM D E fun p q => p && !q).raw V = (prodM D E.notM fun p q => p && q).raw V
theorem alg_facts {D E : Dta} {V : Nat} (hD : D.Fit V) (hE : E.Fit V) (hDn : D.n ≤ 5) (hEn : E.n ≤ 5) : AlgF D E V := by
  have hL : D.L = E.L := hD.L.trans hE.L.symm
  have nx := notM_fit hD; have ny := notM_fit hE
  have ix := Dta.notM_is hD.ok; have iy := Dta.notM_is hE.ok
  have n1 := notM_n hD.ok; have n2 := notM_n hE.ok
  have l1 : D.notM.L = E.notM.L := nx.L.trans ny.L.symm
  have m25 : ∀ a b : Nat, a ≤ 5 → b ≤ 5 → a * b ≤ 64 := fun a b h1 h2 => Nat.le_trans (Nat.mul_le_mul h1 h2) (by omega)
  have lxy := Nat.le_trans (prodO_len hD.ok hE.ok hL) (m25 _ _ hDn hEn)
  have lyx := Nat.le_trans (prodO_len hE.ok hD.ok hL.symm) (m25 _ _ hEn hDn)
  have lnn := Nat.le_trans (prodO_len nx.ok ny.ok l1) (m25 _ _ (by omega) (by omega))
  have lmm := Nat.le_trans (prodO_len ny.ok nx.ok l1.symm) (m25 _ _ (by omega) (by omega))
  have lxn := Nat.le_trans (prodO_len hD.ok ny.ok (hD.L.trans ny.L.symm)) (m25 _ _ hDn (by omega))
  have hor := prodM_fit nx ny (fun p q => p || q) lnn
  have hmm := Dta.mini_is hD.ok (L := D.L) rfl (S := fun t => D.fin (D.run t)) fun t _ => rfl
  have hnn := Dta.notM_is nx.ok; rw [ix.hL] at hnn
  have a1 := prodM_is hD.ok hE.ok hL (fun p q => p && q)
  have a2 := prodM_is hE.ok hD.ok hL.symm (fun p q => p && q); rw [← hL] at a2
  have o1 := prodM_is nx.ok ny.ok l1 (fun p q => p || q); rw [ix.hL] at o1
  have o2 := prodM_is ny.ok nx.ok l1.symm (fun p q => p || q); rw [iy.hL, ← hL] at o2
  have dm := Dta.notM_is hor.ok; rw [o1.hL] at dm
  have b1 := prodM_is hD.ok hE.ok hL (fun p q => p && !q)
  have b2 := prodM_is hD.ok ny.ok (hD.L.trans ny.L.symm) (fun p q => p && q)
  refine ⟨nx, ny, lxy, lyx, lnn, lmm, lxn, hor, is_raw hnn hmm fun t ht => ?_, is_raw a1 a2 fun t ht => ?_, is_raw o1 o2 fun t ht => ?_, is_raw a1 dm fun t ht => ?_, is_raw b1 b2 fun t ht => ?_⟩
  · rw [ix.lang t ht]; simp
  · exact Bool.and_comm _ _
  · exact Bool.or_comm _ _
  · rw [o1.lang t ht, ix.lang t ht, iy.lang t (by rw [← hL]; exact ht)]; simp
  · rw [iy.lang t (by rw [← hL]; exact ht)]
end Go.Proofs.YthkfjnmnoanhlaaGreatDoor
