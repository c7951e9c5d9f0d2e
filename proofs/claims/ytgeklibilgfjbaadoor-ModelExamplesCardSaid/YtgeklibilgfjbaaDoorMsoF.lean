/- Contracts: forms of the package mso. -/
import Derived.Test.YtgeklibilgfjbaaDoorBase
set_option linter.unusedSimpArgs false
set_option linter.unusedVariables false
namespace Go.Proofs.YtgeklibilgfjbaaDoor
open Go.RowKit

theorem idx4 (W : World) (a b c d : Value) : (Instr.index 195 (.agg #[a, b, c, d]) (.int .u8 0)).run Tryd.prog W = .ok a W ∧ (Instr.index 195 (.agg #[a, b, c, d]) (.int .u8 1)).run Tryd.prog W = .ok b W ∧
    (Instr.index 195 (.agg #[a, b, c, d]) (.int .u8 2)).run Tryd.prog W = .ok c W ∧ (Instr.index 195 (.agg #[a, b, c, d]) (.int .u8 3)).run Tryd.prog W = .ok d W := by
  refine ⟨?_, ?_, ?_, ?_⟩ <;> kernel_rfl
theorem idx9 (W : World) (a b c d e f g h i : Value) : (Instr.index 196 (.agg #[a, b, c, d, e, f, g, h, i]) (.int .i64 0)).run Tryd.prog W = .ok a W ∧ (Instr.index 196 (.agg #[a, b, c, d, e, f, g, h, i]) (.int .i64 1)).run Tryd.prog W = .ok b W ∧
    (Instr.index 196 (.agg #[a, b, c, d, e, f, g, h, i]) (.int .i64 2)).run Tryd.prog W = .ok c W ∧ (Instr.index 196 (.agg #[a, b, c, d, e, f, g, h, i]) (.int .i64 3)).run Tryd.prog W = .ok d W ∧
    (Instr.index 196 (.agg #[a, b, c, d, e, f, g, h, i]) (.int .i64 4)).run Tryd.prog W = .ok e W ∧ (Instr.index 196 (.agg #[a, b, c, d, e, f, g, h, i]) (.int .i64 5)).run Tryd.prog W = .ok f W ∧
    (Instr.index 196 (.agg #[a, b, c, d, e, f, g, h, i]) (.int .i64 6)).run Tryd.prog W = .ok g W ∧ (Instr.index 196 (.agg #[a, b, c, d, e, f, g, h, i]) (.int .i64 7)).run Tryd.prog W = .ok h W ∧
    (Instr.index 196 (.agg #[a, b, c, d, e, f, g, h, i]) (.int .i64 8)).run Tryd.prog W = .ok i W := by
  refine ⟨?_, ?_, ?_, ?_, ?_, ?_, ?_, ?_, ?_⟩ <;> kernel_rfl

def FormsPost (op : Int) (w : World) (e : Ending) (w' : World) : Prop := e = .returned (.agg #[.string ⟨(nm op).toArray⟩, .int .i64 (nv op), .int .i64 (nc op)]) ∧ Below w.heap.size w w'

set_option maxRecDepth 100000 in
set_option maxHeartbeats 1000000 in
theorem forms_low (op : Int) (w : World) (h : op = 1 ∨ op = 3 ∨ op = 4 ∨ op = 9 ∨ op = 10 ∨ op = 11 ∨ op = 12 ∨ op = 13 ∨ op = 14 ∨ op = 15) : Calls Tryd.prog 138 #[.int .u8 op] w (FormsPost op w) := by
  have i0 := fun W a b c d => (idx4 W a b c d).1
  have i1 := fun W a b c d => (idx4 W a b c d).2.1
  have i2 := fun W a b c d => (idx4 W a b c d).2.2.1
  have i3 := fun W a b c d => (idx4 W a b c d).2.2.2
  rcases h with rfl | rfl | rfl | rfl | rfl | rfl | rfl | rfl | rfl | rfl
  all_goals
    go_enter Tryd.func138, Tryd.ntmps138
    go_wp2
    go_returns
    exact ⟨rfl, by go_grown⟩

set_option maxRecDepth 100000 in
set_option maxHeartbeats 2000000 in
theorem forms_mid (op : Int) (w : World) (h : op = 2 ∨ op = 5 ∨ op = 6 ∨ op = 7 ∨ op = 8) : Calls Tryd.prog 138 #[.int .u8 op] w (FormsPost op w) := by
  obtain ⟨i0, i1, i2, i3, i4, i5, i6, i7, i8⟩ : _ ∧ _ ∧ _ ∧ _ ∧ _ ∧ _ ∧ _ ∧ _ ∧ _ := ⟨fun W a b c d e f g h i => (idx9 W a b c d e f g h i).1, fun W a b c d e f g h i => (idx9 W a b c d e f g h i).2.1, fun W a b c d e f g h i => (idx9 W a b c d e f g h i).2.2.1, fun W a b c d e f g h i => (idx9 W a b c d e f g h i).2.2.2.1,
    fun W a b c d e f g h i => (idx9 W a b c d e f g h i).2.2.2.2.1, fun W a b c d e f g h i => (idx9 W a b c d e f g h i).2.2.2.2.2.1, fun W a b c d e f g h i => (idx9 W a b c d e f g h i).2.2.2.2.2.2.1, fun W a b c d e f g h i => (idx9 W a b c d e f g h i).2.2.2.2.2.2.2.1, fun W a b c d e f g h i => (idx9 W a b c d e f g h i).2.2.2.2.2.2.2.2⟩
  rcases h with rfl | rfl | rfl | rfl | rfl
  all_goals
    go_enter Tryd.func138, Tryd.ntmps138
    go_wp2
    go_rounds 10
    go_returns
    exact ⟨rfl, by go_grown⟩

set_option maxRecDepth 100000 in
set_option maxHeartbeats 2000000 in
theorem forms_out (op : Int) (w : World) (h : op = 0 ∨ (16 ≤ op ∧ op ≤ 255)) : Calls Tryd.prog 138 #[.int .u8 op] w (FormsPost op w) := by
  obtain ⟨i0, i1, i2, i3, i4, i5, i6, i7, i8⟩ : _ ∧ _ ∧ _ ∧ _ ∧ _ ∧ _ ∧ _ ∧ _ ∧ _ := ⟨fun W a b c d e f g h i => (idx9 W a b c d e f g h i).1, fun W a b c d e f g h i => (idx9 W a b c d e f g h i).2.1, fun W a b c d e f g h i => (idx9 W a b c d e f g h i).2.2.1, fun W a b c d e f g h i => (idx9 W a b c d e f g h i).2.2.2.1,
    fun W a b c d e f g h i => (idx9 W a b c d e f g h i).2.2.2.2.1, fun W a b c d e f g h i => (idx9 W a b c d e f g h i).2.2.2.2.2.1, fun W a b c d e f g h i => (idx9 W a b c d e f g h i).2.2.2.2.2.2.1, fun W a b c d e f g h i => (idx9 W a b c d e f g h i).2.2.2.2.2.2.2.1, fun W a b c d e f g h i => (idx9 W a b c d e f g h i).2.2.2.2.2.2.2.2⟩
  rcases h with rfl | ⟨h1, h2⟩
  · go_enter Tryd.func138, Tryd.ntmps138
    go_wp2
    go_rounds 10
    go_returns
    exact ⟨rfl, by go_grown⟩
  · have e : nm op = [] ∧ nv op = 0 ∧ nc op = 0 := by
      unfold nm nv nc
      refine ⟨?_, ?_, ?_⟩ <;> repeat (first | rfl | rw [if_neg (by omega)])
    go_enter Tryd.func138, Tryd.ntmps138
    go_wp2
    go_rounds 10
    go_returns
    exact ⟨by rw [e.1, e.2.1, e.2.2], by go_grown⟩

theorem forms_any (op : Int) (w : World) (h0 : 0 ≤ op) (h1 : op ≤ 255) : Calls Tryd.prog 138 #[.int .u8 op] w (FormsPost op w) := by
  by_cases h : op = 2 ∨ op = 5 ∨ op = 6 ∨ op = 7 ∨ op = 8
  · exact forms_mid op w h
  · by_cases h' : op = 0 ∨ (16 ≤ op ∧ op ≤ 255)
    · exact forms_out op w h'
    · exact forms_low op w (by omega)

end Go.Proofs.YtgeklibilgfjbaaDoor
