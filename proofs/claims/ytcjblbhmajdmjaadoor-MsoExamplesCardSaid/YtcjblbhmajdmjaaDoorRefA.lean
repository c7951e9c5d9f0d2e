/- Contracts of the reference's small functions: Name, UsesX, UsesY, Children, fields. -/
import Derived.Test.YtcjblbhmajdmjaaDoorStr
set_option linter.unusedSimpArgs false
set_option linter.unusedVariables false
namespace Go.Proofs.YtcjblbhmajdmjaaDoor
open Go.RowKit

theorem op_cases (op : Int) (h0 : 0 ≤ op) : op = 0 ∨ op = 1 ∨ op = 2 ∨ op = 3 ∨ op = 4 ∨ op = 5 ∨ op = 6 ∨ op = 7 ∨ op = 8 ∨ op = 9 ∨ op = 10 ∨ op = 11 ∨ op = 12 ∨ op = 13 ∨ op = 14 ∨ op = 15 ∨ 16 ≤ op := by omega
theorem nm_big {op : Int} (h : 16 ≤ op) : nm op = [] ∧ nv op = 0 ∧ nc op = 0 := by
  refine ⟨?_, ?_, ?_⟩
  · unfold nm
    iterate 15 rw [if_neg (by omega)]
  · unfold nv
    rw [if_neg (by omega), if_neg (by omega)]
  · unfold nc
    rw [if_neg (by omega), if_neg (by omega)]
set_option maxRecDepth 100000 in
set_option maxHeartbeats 4000000 in
theorem RName_any (op : Int) (w : World) (h0 : 0 ≤ op) (h1 : op ≤ 255) : Calls Tryd.prog 39 #[.int .u8 op] w fun e w' => e = .returned (.string { data := (nm op).toArray }) ∧ Below w.heap.size w w' := by
  rcases op_cases op h0 with rfl | rfl | rfl | rfl | rfl | rfl | rfl | rfl | rfl | rfl | rfl | rfl | rfl | rfl | rfl | rfl | h
  case inr.inr.inr.inr.inr.inr.inr.inr.inr.inr.inr.inr.inr.inr.inr.inr =>
    have hb := (nm_big h).1
    rw [hb]
    clear hb
    go_enter Tryd.func39, Tryd.ntmps39
    go_wp2
    go_returns
    exact ⟨rfl, by go_grown⟩
  all_goals
    go_enter Tryd.func39, Tryd.ntmps39
    go_wp2
    go_returns
    exact ⟨rfl, by go_grown⟩
set_option maxRecDepth 100000 in
set_option maxHeartbeats 4000000 in
theorem RUsesX_any (op : Int) (w : World) (h0 : 0 ≤ op) (h1 : op ≤ 255) : Calls Tryd.prog 40 #[.int .u8 op] w fun e w' => e = .returned (.bool (decide (0 < nv op))) ∧ w = w' := by
  rcases op_cases op h0 with rfl | rfl | rfl | rfl | rfl | rfl | rfl | rfl | rfl | rfl | rfl | rfl | rfl | rfl | rfl | rfl | h
  case inr.inr.inr.inr.inr.inr.inr.inr.inr.inr.inr.inr.inr.inr.inr.inr =>
    have hb := (nm_big h).2.1
    rw [hb]
    clear hb
    have d1 : decide (op ≤ 8) = false := by simp; omega
    have d2 : decide (op ≤ 15) = false := by simp; omega
    go_enter Tryd.func40, Tryd.ntmps40
    go_wp2
    go_returns
    exact ⟨rfl, rfl⟩
  all_goals
    go_enter Tryd.func40, Tryd.ntmps40
    go_wp2
    go_returns
    exact ⟨rfl, rfl⟩
set_option maxRecDepth 100000 in
set_option maxHeartbeats 4000000 in
theorem RUsesY_any (op : Int) (w : World) (h0 : 0 ≤ op) (h1 : op ≤ 255) : Calls Tryd.prog 41 #[.int .u8 op] w fun e w' => e = .returned (.bool (decide (1 < nv op))) ∧ w = w' := by
  rcases op_cases op h0 with rfl | rfl | rfl | rfl | rfl | rfl | rfl | rfl | rfl | rfl | rfl | rfl | rfl | rfl | rfl | rfl | h
  case inr.inr.inr.inr.inr.inr.inr.inr.inr.inr.inr.inr.inr.inr.inr.inr =>
    have hb := (nm_big h).2.1
    rw [hb]
    clear hb
    have d1 : decide (op ≤ 8) = false := by simp; omega
    have hne : (op == 2) = false := by rw [beq_eq_false_iff_ne]; omega
    go_enter Tryd.func41, Tryd.ntmps41
    go_wp2
    go_returns
    exact ⟨rfl, rfl⟩
  all_goals
    go_enter Tryd.func41, Tryd.ntmps41
    go_wp2
    go_returns
    exact ⟨rfl, rfl⟩
set_option maxRecDepth 100000 in
set_option maxHeartbeats 4000000 in
theorem RChildren_any (op : Int) (w : World) (h0 : 0 ≤ op) (h1 : op ≤ 255) : Calls Tryd.prog 60 #[.int .u8 op] w fun e w' => e = .returned (.int .i64 (nc op)) ∧ w = w' := by
  rcases op_cases op h0 with rfl | rfl | rfl | rfl | rfl | rfl | rfl | rfl | rfl | rfl | rfl | rfl | rfl | rfl | rfl | rfl | h
  case inr.inr.inr.inr.inr.inr.inr.inr.inr.inr.inr.inr.inr.inr.inr.inr =>
    have hb := (nm_big h).2.2
    rw [hb]
    clear hb
    have n1 : (op == 10) = false := by rw [beq_eq_false_iff_ne]; omega
    have n2 : (op == 11) = false := by rw [beq_eq_false_iff_ne]; omega
    have n3 : (op == 9) = false := by rw [beq_eq_false_iff_ne]; omega
    go_enter Tryd.func60, Tryd.ntmps60
    go_wp2
    go_returns
    exact ⟨rfl, rfl⟩
  all_goals
    go_enter Tryd.func60, Tryd.ntmps60
    go_wp2
    go_returns
    exact ⟨rfl, rfl⟩
set_option maxRecDepth 100000 in
set_option maxHeartbeats 4000000 in
theorem Rfields_any (m : Mk) (w : World) (h0 : 0 ≤ m.op) (h1 : m.op ≤ 255) :
    Calls Tryd.prog 42 #[.agg #[.int .u8 m.op, .int .i64 m.x, .int .i64 m.y, .int .i64 m.a, .int .i64 m.b]] w fun e w' => e = .returned (.bool (spare m)) ∧ Below w.heap.size w w' := by
  obtain ⟨b1, hb1⟩ : ∃ b, b = decide (0 < nv m.op) := ⟨_, rfl⟩
  obtain ⟨b2, hb2⟩ : ∃ b, b = decide (1 < nv m.op) := ⟨_, rfl⟩
  obtain ⟨c1, hc1⟩ : ∃ c, (m.x == 0) = c := ⟨_, rfl⟩
  obtain ⟨c2, hc2⟩ : ∃ c, (m.y == 0) = c := ⟨_, rfl⟩
  have hs : spare m = ((b1 || c1) && (b2 || c2)) := by
    rw [hb1, hb2, ← hc1, ← hc2]
    unfold spare
    congr 1 <;> congr 1 <;> (rw [Bool.eq_iff_iff]; simp)
  have hx := fun W => RUsesX_any m.op W h0 h1
  have hy := fun W => RUsesY_any m.op W h0 h1
  rw [← hb1] at hx
  rw [← hb2] at hy
  rw [hs]
  have HX := Lib.hid hx; have HY := Lib.hid hy
  clear hx hy hs hb1 hb2
  cases b1 <;> cases b2 <;> cases c1 <;> cases c2
  all_goals
    go_enter Tryd.func42, Tryd.ntmps42
    go_wp2_with (first
      | (go_at_call 40; go_must (refine (HX.out _).mono ?_; rintro e w1 ⟨rfl, rfl⟩))
      | (go_at_call 41; go_must (refine (HY.out _).mono ?_; rintro e w1 ⟨rfl, rfl⟩)))
    go_returns
    exact ⟨rfl, by go_grown⟩
end Go.Proofs.YtcjblbhmajdmjaaDoor
