/- Contracts of the package tree: Size, Join, Subtree. -/
import Derived.Test.YthkfjnmnoanhlaaGreatDoorTrC
import Derived.Test.YthkfjnmnoanhlaaGreatDoorBtM
set_option linter.unusedSimpArgs false
set_option linter.unusedVariables false
namespace Go.Proofs.YthkfjnmnoanhlaaGreatDoor
open Go.RowKit

def joinE (lab : Int) (l r : List Lf) : List Lf × Int := if formedT l = false ∨ formedT r = false then ([], 2) else if 31 ≤ l.length + r.length then ([], 4) else (joinT lab l r, 0)
def subE (t : List Lf) (i : Int) : List Lf × Int := if formedT t = false then ([], 2) else if i < 0 ∨ t.length ≤ i then ([], 8) else (blockS t i, 0)

set_option maxRecDepth 100000 in
set_option maxHeartbeats 2000000 in
theorem TJoin_any (lab : Int) (l r : List Lf) (v u : Value) (w : World) (hv : TS w v l) (hu : TS w u r) (h0 : 0 ≤ lab) (h1 : lab ≤ 255) :
    Calls Tryz.prog 108 #[.int .u8 lab, v, u] w (RetTT w (joinE lab l r).1 (joinE lab l r).2) := by
  have HV := Lib.hid hv
  have HU := Lib.hid hu
  have HFL := Lib.hid (fun W (hW : TS W v l) => formedT_any l v W hW)
  have HFR := Lib.hid (fun W (hW : TS W u r) => formedT_any r u W hW)
  obtain ⟨R, hR⟩ : ∃ R, R = joinE lab l r := ⟨_, rfl⟩
  rw [← hR]
  unfold joinE at hR
  have HR := Lib.hid hR; clear hR
  obtain ⟨_, A, c, rfl, hc1, hc2, _⟩ := hv
  obtain ⟨_, A2, d, rfl, hd1, hd2, _⟩ := hu
  by_cases hl : formedT l = true
  · by_cases hr : formedT r = true
    · have l31 := (btOf_ok hl).1
      have r31 := (btOf_ok hr).1
      have HJ := Lib.hid (fun W (h1' : TS W (.slice A l.length c) l) (h2' : TS W (.slice A2 r.length d) r) => join_t lab l r _ _ W h1' h2' h0 h1 (formed_smallT hl) (formed_smallT hr) (by omega))
      rw [hl] at HFL
      rw [hr] at HFR
      have HR2 : Hid (R = if 31 ≤ l.length + r.length then ([], 4) else (joinT lab l r, 0)) := by rw [Hid, HR.out, if_neg (by simp [hl, hr])]
      clear HR hl hr
      obtain ⟨n, hn⟩ : ∃ n, n = l.length := ⟨_, rfl⟩
      obtain ⟨m, hm⟩ : ∃ m, m = r.length := ⟨_, rfl⟩
      rw [← hn] at hc1 HV HFL HJ l31 HR2 ⊢
      rw [← hm] at hd1 HU HFR HJ r31 HR2 ⊢
      clear hn hm
      by_cases hs : 31 ≤ n + m
      · rw [if_pos hs] at HR2
        have hsi : (31 : Int) ≤ (n : Int) + (m : Int) := by omega
        go_enter Tryz.func108, Tryz.ntmps108
        go_wp2_with (first
          | (go_at_call 89; (with_reducible refine (HFL.out _ HV.out).mono ?_); rintro e w1 ⟨rfl, hb1⟩; have HB := Lib.hid hb1; clear hb1)
          | (go_at_call 89; go_must ((with_reducible refine (HFR.out _ (HU.out.below HB.out (Nat.le_refl _))).mono ?_); rintro e w2 ⟨rfl, hb1⟩; replace HB := Lib.hid (HB.out.trans (hb1.mono HB.out.size)); clear hb1)))
        go_returns
        rw [HR2.out]
        exact ⟨_, rfl, HB.out, TO.nil _ _⟩
      · rw [if_neg hs] at HR2
        have hsi : (n : Int) + (m : Int) < 31 := by omega
        go_enter Tryz.func108, Tryz.ntmps108
        go_wp2_with (first
          | (go_at_call 89; (with_reducible refine (HFL.out _ HV.out).mono ?_); rintro e w1 ⟨rfl, hb1⟩; have HB := Lib.hid hb1; clear hb1)
          | (go_at_call 89; go_must ((with_reducible refine (HFR.out _ (HU.out.below HB.out (Nat.le_refl _))).mono ?_); rintro e w2 ⟨rfl, hb1⟩; replace HB := Lib.hid (HB.out.trans (hb1.mono HB.out.size)); clear hb1))
          | (go_at_call 135; go_must ((with_reducible refine (HJ.out _ (HV.out.below HB.out (Nat.le_refl _)) (HU.out.below HB.out (Nat.le_refl _))).mono ?_); rintro e w3 ⟨v3, rfl, hb3, ho3⟩; have HO := Lib.hid (ho3.mono HB.out.size); replace HB := Lib.hid (HB.out.trans (hb3.mono HB.out.size)); clear hb3 ho3)))
        go_returns
        rw [HR2.out]
        exact ⟨v3, rfl, HB.out, HO.out⟩
    · have hr' : formedT r = false := by simpa using hr
      rw [hl] at HFL
      rw [hr'] at HFR
      have HR2 : Hid (R = ([], 2)) := by rw [Hid, HR.out, if_pos (.inr hr')]
      clear HR hl hr hr'
      go_enter Tryz.func108, Tryz.ntmps108
      go_wp2_with (first
        | (go_at_call 89; (with_reducible refine (HFL.out _ HV.out).mono ?_); rintro e w1 ⟨rfl, hb1⟩; have HB := Lib.hid hb1; clear hb1)
        | (go_at_call 89; go_must ((with_reducible refine (HFR.out _ (HU.out.below HB.out (Nat.le_refl _))).mono ?_); rintro e w2 ⟨rfl, hb1⟩; replace HB := Lib.hid (HB.out.trans (hb1.mono HB.out.size)); clear hb1)))
      go_returns
      rw [HR2.out]
      exact ⟨_, rfl, HB.out, TO.nil _ _⟩
  · have hl' : formedT l = false := by simpa using hl
    rw [hl'] at HFL
    have HR2 : Hid (R = ([], 2)) := by rw [Hid, HR.out, if_pos (.inl hl')]
    clear HR hl hl'
    go_enter Tryz.func108, Tryz.ntmps108
    go_wp2_with (go_at_call 89; go_must ((with_reducible refine (HFL.out _ HV.out).mono ?_); rintro e w1 ⟨rfl, hb1⟩; have HB := Lib.hid hb1; clear hb1))
    go_returns
    rw [HR2.out]
    exact ⟨_, rfl, HB.out, TO.nil _ _⟩

end Go.Proofs.YthkfjnmnoanhlaaGreatDoor
