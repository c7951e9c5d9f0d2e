/- Contracts: quantifier, spare, within, sizes of the package mso. -/
import Derived.Test.YtgeklibilgfjbaaDoorMsoF
set_option linter.unusedSimpArgs false
set_option linter.unusedVariables false
namespace Go.Proofs.YtgeklibilgfjbaaDoor
open Go.RowKit

def isQ (op : Int) : Bool := decide (12 ≤ op) && decide (op ≤ 15)
set_option maxHeartbeats 400000 in
theorem quant_any (op : Int) (w : World) : Calls Tryd.prog 135 #[.int .u8 op] w fun e w' => e = .returned (.bool (isQ op)) ∧ w = w' := by
  by_cases h1 : 12 ≤ op
  all_goals
    go_enter Tryd.func135, Tryd.ntmps135
    go_wp2
    go_returns
    exact ⟨by simp [isQ]; omega, rfl⟩

set_option maxRecDepth 100000 in
set_option maxHeartbeats 1000000 in
theorem spare_any (m : Mk) (w : World) (h0 : 0 ≤ m.op) (h1 : m.op ≤ 255) : Calls Tryd.prog 181 #[.agg #[.int .u8 m.op, .int .i64 m.x, .int .i64 m.y, .int .i64 m.a, .int .i64 m.b]] w fun e w' => e = .returned (.bool (spare m)) ∧ Below w.heap.size w w' := by
  have f1 := fld_form1
  rcases nv_cases m.op with hv | hv | hv
  all_goals
    go_enter Tryd.func181, Tryd.ntmps181
    go_wp2_with (go_at_call 138; go_must (refine (forms_any _ _ h0 h1).mono ?_; rintro e w1 ⟨rfl, hb1⟩; obtain ⟨bc1, bc2, bc3, hb2⟩ := after1 hb1; clear hb1))
    all_goals
      go_returns
      refine ⟨ret_bool ?_, hb2.out⟩
      first | (simp [spare, hv]; done) | (simp [spare, hv, *]; done) | (simp [spare, hv]; omega) | (simp [spare, hv, *]; omega)

set_option maxRecDepth 100000 in
set_option maxHeartbeats 1000000 in
theorem within_any (m : Mk) (v : Int) (w : World) (h0 : 0 ≤ m.op) (h1 : m.op ≤ 255) : Calls Tryd.prog 180 #[.agg #[.int .u8 m.op, .int .i64 m.x, .int .i64 m.y, .int .i64 m.a, .int .i64 m.b], .int .i64 v] w fun e w' => e = .returned (.bool (within m v)) ∧ Below w.heap.size w w' := by
  have f1 := fld_form1
  rcases nv_cases m.op with hv | hv | hv
  all_goals
    go_enter Tryd.func180, Tryd.ntmps180
    go_wp2_with (go_at_call 138; go_must (refine (forms_any _ _ h0 h1).mono ?_; rintro e w1 ⟨rfl, hb1⟩; obtain ⟨bc1, bc2, bc3, hb2⟩ := after1 hb1; clear hb1))
    all_goals
      go_returns
      refine ⟨ret_bool ?_, hb2.out⟩
      first | (simp [within, hv]; done) | (simp [within, hv, *]; done) | (simp [within, hv]; omega) | (simp [within, hv, *]; omega)
end Go.Proofs.YtgeklibilgfjbaaDoor
