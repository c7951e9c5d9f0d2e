/- Slices of leaves: small facts that the contracts of the package tree use. -/
/- Contracts: end, formed, Check of the package tree. -/
import Derived.Test.YtgeklibilgfjbaaDoorLfA
import Derived.Deep.DeepCutAuto
set_option linter.unusedSimpArgs false
set_option linter.unusedVariables false
namespace Go.Proofs.YtgeklibilgfjbaaDoor
open Go.RowKit

theorem idx2_t (W : World) (a b : Value) : (Instr.index 29 (.agg #[a, b]) (.int .i64 0)).run Tryd.prog W = .ok a W ∧ (Instr.index 29 (.agg #[a, b]) (.int .i64 1)).run Tryd.prog W = .ok b W := by
  refine ⟨?_, ?_⟩ <;> kernel_rfl
theorem own_row_t {w : World} {B n size : Nat} {e : TypeId} {v : Value} {xs : List Value} (h : w.ownsRow B e size v n xs) (hn : 0 < n) : ∃ g cap cs, v = .slice (some ⟨g, 0, none⟩) n cap ∧ B ≤ g ∧ Row w g e cs ∧ n * size ≤ cs.size ∧ n ≤ 9223372036854775807 := by
  rcases h.2 with ⟨_, h0⟩ | ⟨g, cap, cur, hv, hB, hg, hnc, hcm, hcs, _⟩
  · omega
  · exact ⟨g, cap, cur, hv, hB, hg, by rw [hcs]; exact Nat.mul_le_mul_right _ hnc, by simp only [maxLen] at hcm; omega⟩
theorem row_some_t {w : World} {g : Nat} {t : TypeId} {cs : Array Value} (h : Row w g t cs) {i : Nat} (hi : i < cs.size) : ∃ u, w.cell? ⟨g, i, none⟩ = some u := ⟨cs[i], by rw [h.cell, Array.getElem?_eq_getElem hi]⟩

end Go.Proofs.YtgeklibilgfjbaaDoor

namespace Go.Proofs.YtgeklibilgfjbaaDoor
open Go.RowKit

theorem ret_i {R b : Int} (h : R = b) : Ending.returned (.int .i64 b) = .returned (.int .i64 R) := by rw [h]
def optI : Option Nat → Int
  | none => -1
  | some n => n
theorem kid_none {len : Nat} {e : Nat → Option Nat} {c : Int} {next : Nat} (h : c = -1) : kid len e c next = some next := by unfold kid; rw [if_pos h]
theorem kid_bad {len : Nat} {e : Nat → Option Nat} {c : Int} {next : Nat} (h : c ≠ -1) (h2 : c ≠ next ∨ len ≤ next) : kid len e c next = none := by unfold kid; rw [if_neg h, if_pos h2]
theorem kid_go {len : Nat} {e : Nat → Option Nat} {c : Int} {next : Nat} (h : c = next) (h2 : next < len) : kid len e c next = e next := by unfold kid; rw [if_neg (by omega), if_neg (by omega)]
/-- The ways of a child: missing, wrong, or a block that ends or does not. -/
theorem kid_cases (t : List Lf) (c : Int) (next : Nat) (hn : next ≤ t.length) :
    (c = -1 ∧ kid t.length (endS t) c next = some next) ∨ ((c == -1) = false ∧ ((c != next) = true) ∧ kid t.length (endS t) c next = none) ∨ ((c == -1) = false ∧ c = next ∧ t.length ≤ next ∧ kid t.length (endS t) c next = none) ∨
      (c = next ∧ next < t.length ∧ endS t next = none ∧ kid t.length (endS t) c next = none) ∨ (∃ m, c = next ∧ next < t.length ∧ endS t next = some m ∧ next < m ∧ m ≤ t.length ∧ kid t.length (endS t) c next = some m) := by
  by_cases h1 : c = -1
  · exact .inl ⟨h1, kid_none h1⟩
  · have hb : (c == -1) = false := by simp [h1]
    by_cases h2 : c = next
    · by_cases h3 : next < t.length
      · cases he : endS t next with
        | none => exact .inr (.inr (.inr (.inl ⟨h2, h3, rfl, by rw [kid_go h2 h3, he]⟩)))
        | some m => have := endS_gt he; exact .inr (.inr (.inr (.inr ⟨m, h2, h3, rfl, this.1, this.2, by rw [kid_go h2 h3, he]⟩)))
      · exact .inr (.inr (.inl ⟨hb, h2, by omega, kid_bad h1 (.inr (by omega))⟩))
    · exact .inr (.inl ⟨hb, by simp [h2], kid_bad h1 (.inl h2)⟩)

set_option maxRecDepth 100000 in
set_option maxHeartbeats 4000000 in
theorem end_any (t : List Lf) (v : Value) (hl : t.length ≤ 1000) : ∀ (d i : Nat) (w : World), t.length - i ≤ d → i < t.length → TS w v t →
    Calls Tryd.prog 163 #[v, .int .i64 i] w fun e w' => e = .returned (.int .i64 (optI (endS t i))) ∧ Below w.heap.size w w' := by
  intro d
  induction d with
  | zero => intro i w h1 h2; omega
  | succ d ih =>
    intro i w hd hi hv
    obtain ⟨x, hx⟩ : ∃ x, t[i]? = some x := ⟨t[i], List.getElem?_eq_getElem hi⟩
    have hend := endS_eq t i x hx
    have HV := Lib.hid hv
    obtain ⟨hop2, A, c, rfl, hc1, hc2, hcc⟩ := hv
    obtain ⟨b, o, rfl, hb, hcell⟩ := hcc (by omega)
    obtain ⟨c0, c1, c2⟩ := hcell i x hx
    clear hcc hcell hop2
    obtain ⟨n, hn⟩ : ∃ n, n = t.length := ⟨_, rfl⟩
    have IH := Lib.hid (fun (j : Nat) (W : World) (h1 : i < j) (h2 : j < n) (hW : TS W (.slice (some ⟨b, o, none⟩) n c) t) => (show Calls Tryd.prog 163 #[.slice (some ⟨b, o, none⟩) n c, .int .i64 j] W fun e w' => e = .returned (.int .i64 (optI (endS t j))) ∧ Below W.heap.size W w' from by rw [hn] at hW ⊢; exact ih j W (by omega) (by omega) hW))
    have k1 := kid_cases t x.left (i + 1) (by omega)
    have K2 := Lib.hid (fun m (h : m ≤ n) => kid_cases t x.right m (by omega))
    rw [← hn] at hl hi hc1 HV ⊢
    have HN := Lib.hid hn
    obtain ⟨R, hR⟩ : ∃ R, R = optI (endS t i) := ⟨_, rfl⟩
    rw [← hR]
    rw [hend] at hR
    have HR := Lib.hid hR
    obtain ⟨lb, l, r⟩ := x
    simp only at c0 c1 c2 k1 K2 HR
    have hi1 : ((i + 1 : Nat) : Int) = (i : Int) + 1 := by omega
    have I1 : Hid (∀ W, i + 1 < n → TS W (.slice (some ⟨b, o, none⟩) n c) t → Calls Tryd.prog 163 #[.slice (some ⟨b, o, none⟩) n c, .int .i64 ((i : Int) + 1)] W fun e w' => e = .returned (.int .i64 (optI (endS t (i + 1)))) ∧ Below W.heap.size W w') := fun W h hW => by
      have := IH.out (i + 1) W (by omega) h hW
      rwa [hi1] at this
    clear hn hx hend hR ih hd
    have i0 := fun W a b => (idx2_t W a b).1
    have i1 := fun W a b => (idx2_t W a b).2
    rw [hi1] at k1
    have hd0 : Hid (Below w.heap.size w w.drew) := (Below.refl _ _).drew
    rcases k1 with ⟨h1, h2⟩ | ⟨h1, h2, h3⟩ | ⟨h1, h2, h3, h4⟩ | ⟨h1, h2, h3, h4⟩ | ⟨m, h1, h2, h3, h4, h5, h6⟩
    · have KEQ := h2
      have hl1 := h1; clear h2
      go_enter Tryd.func163, Tryd.ntmps163
      go_wp2
      go_region
      go_wp2
      refine wp_loop_rounds 3 ?_
      rw [rounds_succ]
      go_wp2
      rw [rounds_succ]
      have HB := hd0
      have k2 := K2.out (i + 1) (by have := HN.out; omega)
      rw [hi1] at k2
      rcases k2 with ⟨g1, g2⟩ | ⟨g1, g2, g3⟩ | ⟨g1, g2, g3, g4⟩ | ⟨g1, g2, g3, g4⟩ | ⟨m2, g1, g2, g3, g4, g5, g6⟩
      · have HRR : Hid (R = ((i : Int) + 1)) := by rw [HR.out, KEQ, Option.bind_some, g2]; exact hi1
        skip
        go_wp2
        rw [rounds_succ]
        go_wp2
        go_returns
        exact ⟨ret_i HRR.out, HB.out⟩
      · have HRR : Hid (R = -1) := by rw [HR.out, KEQ, Option.bind_some, g3]; rfl
        go_wp2
        go_returns
        exact ⟨ret_i HRR.out, HB.out⟩
      · have HRR : Hid (R = -1) := by rw [HR.out, KEQ, Option.bind_some, g4]; rfl
        have gn : n ≤ (i + 1) := by have := HN.out; omega
        have gi : (n : Int) ≤ ((i : Int) + 1) := by omega
        go_wp2
        go_returns
        exact ⟨ret_i HRR.out, HB.out⟩
      · have HRR : Hid (R = -1) := by rw [HR.out, KEQ, Option.bind_some, g4]; rfl
        have gl : (i + 1) < n := by have := HN.out; omega
        have gi : ((i : Int) + 1) < (n : Int) := by omega
        have gm : (r == -1) = false := by rw [beq_eq_false_iff_ne]; omega
        go_wp2_with (go_at_call 163; go_must ((with_reducible refine (I1.out _ (by have := HN.out; omega) (HV.out.below HB.out (Nat.le_refl _))).mono ?_); rintro e w2 ⟨rfl, hb2⟩; rw [g3]; replace HB := Lib.hid (HB.out.trans (hb2.mono HB.out.size)); clear hb2))
        go_returns
        exact ⟨ret_i HRR.out, HB.out⟩
      · have HRR : Hid (R = (m2 : Int)) := by rw [HR.out, KEQ, Option.bind_some, g6]; rfl
        have gl : (i + 1) < n := by have := HN.out; omega
        have gi : ((i : Int) + 1) < (n : Int) := by omega
        have gm : (r == -1) = false := by rw [beq_eq_false_iff_ne]; omega
        go_wp2_with (go_at_call 163; go_must ((with_reducible refine (I1.out _ (by have := HN.out; omega) (HV.out.below HB.out (Nat.le_refl _))).mono ?_); rintro e w2 ⟨rfl, hb2⟩; rw [g3]; replace HB := Lib.hid (HB.out.trans (hb2.mono HB.out.size)); clear hb2))
        rw [rounds_succ]
        go_wp2
        go_returns
        exact ⟨ret_i HRR.out, HB.out⟩
    · have HRR : Hid (R = -1) := by rw [HR.out, h3]; rfl
      have HB := hd0
      go_enter Tryd.func163, Tryd.ntmps163
      go_wp2
      go_region
      go_wp2
      refine wp_loop_rounds 3 ?_
      rw [rounds_succ]
      go_wp2
      go_returns
      exact ⟨ret_i HRR.out, HB.out⟩
    · have HRR : Hid (R = -1) := by rw [HR.out, h4]; rfl
      have HB := hd0
      have gi : (n : Int) ≤ (i : Int) + 1 := by have := HN.out; omega
      go_enter Tryd.func163, Tryd.ntmps163
      go_wp2
      go_region
      go_wp2
      refine wp_loop_rounds 3 ?_
      rw [rounds_succ]
      go_wp2
      go_returns
      exact ⟨ret_i HRR.out, HB.out⟩
    · have HRR : Hid (R = -1) := by rw [HR.out, h4]; rfl
      have HB := hd0
      have gi : (i : Int) + 1 < (n : Int) := by have := HN.out; omega
      have gm : (l == -1) = false := by rw [beq_eq_false_iff_ne]; omega
      go_enter Tryd.func163, Tryd.ntmps163
      go_wp2
      go_region
      go_wp2
      refine wp_loop_rounds 3 ?_
      rw [rounds_succ]
      go_wp2_with (go_at_call 163; go_must ((with_reducible refine (I1.out _ (by have := HN.out; omega) (HV.out.below HB.out (Nat.le_refl _))).mono ?_); rintro e w1 ⟨rfl, hb1⟩; rw [h3]; replace HB := Lib.hid (HB.out.trans (hb1.mono HB.out.size)); clear hb1))
      go_returns
      exact ⟨ret_i HRR.out, HB.out⟩
    · have KEQ := h6
      have gi : (i : Int) + 1 < (n : Int) := by have := HN.out; omega
      have gm : (l == -1) = false := by rw [beq_eq_false_iff_ne]; omega
      have HB := hd0
      go_enter Tryd.func163, Tryd.ntmps163
      go_wp2
      go_region
      go_wp2
      refine wp_loop_rounds 3 ?_
      rw [rounds_succ]
      go_wp2_with (go_at_call 163; go_must ((with_reducible refine (I1.out _ (by have := HN.out; omega) (HV.out.below HB.out (Nat.le_refl _))).mono ?_); rintro e w1 ⟨rfl, hb1⟩; rw [h3]; try unfold optI; replace HB := Lib.hid (HB.out.trans (hb1.mono HB.out.size)); clear hb1))
      have gmm : ((m : Int) == -1) = false := by rw [beq_eq_false_iff_ne]; omega
      rw [rounds_succ]
      have k2 := K2.out m (by have := HN.out; omega)
      rcases k2 with ⟨g1, g2⟩ | ⟨g1, g2, g3⟩ | ⟨g1, g2, g3, g4⟩ | ⟨g1, g2, g3, g4⟩ | ⟨m2, g1, g2, g3, g4, g5, g6⟩
      · have HRR : Hid (R = (m : Int)) := by rw [HR.out, KEQ, Option.bind_some, g2]; rfl
        skip
        go_wp2
        rw [rounds_succ]
        go_wp2
        go_returns
        exact ⟨ret_i HRR.out, HB.out⟩
      · have HRR : Hid (R = -1) := by rw [HR.out, KEQ, Option.bind_some, g3]; rfl
        go_wp2
        go_returns
        exact ⟨ret_i HRR.out, HB.out⟩
      · have HRR : Hid (R = -1) := by rw [HR.out, KEQ, Option.bind_some, g4]; rfl
        have gn : n ≤ m := by have := HN.out; omega
        have gi : (n : Int) ≤ (m : Int) := by omega
        go_wp2
        go_returns
        exact ⟨ret_i HRR.out, HB.out⟩
      · have HRR : Hid (R = -1) := by rw [HR.out, KEQ, Option.bind_some, g4]; rfl
        have gl : m < n := by have := HN.out; omega
        have gi : (m : Int) < (n : Int) := by omega
        have gm : (r == -1) = false := by rw [beq_eq_false_iff_ne]; omega
        go_wp2_with (go_at_call 163; go_must ((with_reducible refine (IH.out m _ (by omega) (by have := HN.out; omega) (HV.out.below HB.out (Nat.le_refl _))).mono ?_); rintro e w2 ⟨rfl, hb2⟩; rw [g3]; replace HB := Lib.hid (HB.out.trans (hb2.mono HB.out.size)); clear hb2))
        go_returns
        exact ⟨ret_i HRR.out, HB.out⟩
      · have HRR : Hid (R = (m2 : Int)) := by rw [HR.out, KEQ, Option.bind_some, g6]; rfl
        have gl : m < n := by have := HN.out; omega
        have gi : (m : Int) < (n : Int) := by omega
        have gm : (r == -1) = false := by rw [beq_eq_false_iff_ne]; omega
        go_wp2_with (go_at_call 163; go_must ((with_reducible refine (IH.out m _ (by omega) (by have := HN.out; omega) (HV.out.below HB.out (Nat.le_refl _))).mono ?_); rintro e w2 ⟨rfl, hb2⟩; rw [g3]; replace HB := Lib.hid (HB.out.trans (hb2.mono HB.out.size)); clear hb2))
        rw [rounds_succ]
        go_wp2
        go_returns
        exact ⟨ret_i HRR.out, HB.out⟩
end Go.Proofs.YtgeklibilgfjbaaDoor
