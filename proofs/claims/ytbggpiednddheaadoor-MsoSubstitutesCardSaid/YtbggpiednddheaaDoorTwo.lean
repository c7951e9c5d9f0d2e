/- MsoFree and MsoSubstitutes: an argument that is a pair of numbers, opened. -/
import Derived.Test.YtbggpiednddheaaDoorFreeM
set_option linter.unusedSimpArgs false
set_option linter.unusedVariables false
namespace Go.Proofs.YtbggpiednddheaaDoor
open Go.RowKit

theorem cells_two : Tryd.prog.cellsOf 24 = 2 := by kernel_rfl
set_option maxRecDepth 100000 in
/-- An argument that is a pair of numbers, opened. -/
theorem open_two {H : Type} {enc : TypeId × Value → H} {W : World} {d : DataW H} {p : List MemPlace} {v : Value} (h : DataW.Trod enc Tryd.prog W 0 (fun _ => true) true 24 v d p) (hval : Value.okWide Tryd.prog W .any 0 24 v) : ∃ a b : Int, v = .agg #[.int .i64 a, .int .i64 b] := by
  obtain ⟨cs, rfl, hsz, _⟩ : ∃ cs, v = .agg cs ∧ cs.size = Tryd.prog.cellsOf 24 ∧ Row.okWide Tryd.prog W .any 0 24 cs := by
    simpa [Value.okWide, Tryd.underlying24] using hval
  rw [cells_two] at hsz
  obtain ⟨l⟩ := cs
  have hl : l.length = 2 := hsz
  match l, hl with
  | [c0, c1], _ =>
    obtain ⟨fuel, hf⟩ := h
    obtain ⟨xs, m, _, _, _, hxl, hx⟩ := DataW.trod_array Tryd.underlying24 hf
    have g0 := hx 0 (by omega)
    have g1 := hx 1 (by omega)
    rw [cells_int, List.getElem?_eq_getElem (by omega)] at g0 g1
    obtain ⟨i0, e0, _, _⟩ := DataW.trod_int Tryd.underlying3 g0
    obtain ⟨i1, e1, _, _⟩ := DataW.trod_int Tryd.underlying3 g1
    have e0' : c0 = .int .i64 i0 := by simpa [Value.cells] using e0
    have e1' : c1 = .int .i64 i1 := by simpa [Value.cells] using e1
    exact ⟨i0, i1, by rw [e0', e1']⟩
end Go.Proofs.YtbggpiednddheaaDoor
