/- Arguments that are trees and bytes, opened; the laid table. (Printed by gen_rowm.py.) -/
import Derived.Test.YtdlibehffgfhlaaDoorRowB
import Derived.Test.YtdlibehffgfhlaaDoorMdlA
import Derived.Test.YtdlibehffgfhlaaDoorByA
set_option linter.unusedSimpArgs false
set_option linter.unusedVariables false
namespace Go.Proofs.YtdlibehffgfhlaaDoor
open Go.ChangeShapes Go.WideShapes Go.ChangeAt Go.RowKit

theorem cells_leaf : Tryd.prog.cellsOf 54 = 3 := by kernel_rfl
theorem three {cs : List Value} (h : cs.length = 3) : ∃ a b c, cs = [a, b, c] := by
  match cs, h with
  | [a, b, c], _ => exact ⟨a, b, c, rfl⟩
theorem und_leaf : ∃ f0 f1 f2 : Field, Tryd.prog.underlying 54 = some (.struct #[f0, f1, f2]) ∧ f0.type = 5 ∧ f1.type = 3 ∧ f2.type = 3 ∧
    f0.offset = 0 ∧ f1.offset = 1 ∧ f2.offset = 2 := ⟨_, _, _, Tryd.underlying54, rfl, rfl, rfl, rfl, rfl, rfl⟩
/-- A leaf that can be read has three integer cells. -/
theorem open_leaf {H : Type} {enc : TypeId × Value → H} {W : World} {base : Nat} {sp : Nat → Bool} {held : Bool} {fuel : Nat} {cs : List Value} {x : DataW H × List MemPlace} (h : DataW.trod enc Tryd.prog W base sp held fuel 54 cs = some x) :
    ∃ m : Lf, cs = m.cells ∧ 0 ≤ m.label ∧ m.label ≤ 255 := by
  obtain ⟨f0, f1, f2, hu, t0, t1, t2, o0, o1, o2⟩ := und_leaf
  obtain ⟨xs, n, _, _, hl, hxl, hx⟩ := DataW.trod_struct hu h
  rw [cells_leaf] at hl
  obtain ⟨a, b, c, rfl⟩ := three hl
  have g0 := hx 0 f0 rfl
  have g1 := hx 1 f1 rfl
  have g2 := hx 2 f2 rfl
  have hxl' : xs.length = 3 := hxl
  rw [t0, o0, cells_u8, List.getElem?_eq_getElem (by omega)] at g0
  rw [t1, o1, cells_int, List.getElem?_eq_getElem (by omega)] at g1
  rw [t2, o2, cells_int, List.getElem?_eq_getElem (by omega)] at g2
  simp only [List.drop_zero, List.drop_succ_cons, List.take_succ_cons, List.take_zero] at g0 g1 g2
  obtain ⟨i0, e0, _, w0⟩ := DataW.trod_int Tryd.underlying5 g0
  obtain ⟨i1, e1, _, w1⟩ := DataW.trod_int Tryd.underlying3 g1
  obtain ⟨i2, e2, _, w2⟩ := DataW.trod_int Tryd.underlying3 g2
  injection e0 with e0 _
  injection e1 with e1 _
  injection e2 with e2 _
  subst e0; subst e1; subst e2
  have hb := bounds_u8 w0
  exact ⟨⟨i0, i1, i2⟩, rfl, hb.1, by have := hb.2; simpa using this⟩

instance : Inhabited Lf := ⟨⟨0, 0, 0⟩⟩
set_option maxRecDepth 100000 in
/-- An argument that is a tree, opened. -/
theorem open_tree {H : Type} {enc : TypeId × Value → H} {W : World} {d : DataW H} {p : List MemPlace} {v : Value} (h : DataW.Trod enc Tryd.prog W 0 (fun _ => true) true 47 v d p) (hval : Value.okWide Tryd.prog W .any 0 47 v) :
    ∃ f, TS W v f := by
  obtain ⟨a0, len, cap, rfl⟩ := okWide_slice Tryd.underlying47 hval
  obtain ⟨fuel, hf⟩ := h
  rcases Go.Deep.open_slice Tryd.underlying47 hf with ⟨hcs, _⟩ | ⟨a, l, c, m, n, D, Pl, hcs, _, hl, hm, hmm, _, hx⟩
  · simp only [Value.cells, List.cons.injEq, and_true] at hcs
    cases hcs
    exact ⟨[], TS.nil W⟩
  · have hcs' : Value.slice a0 len cap = .slice (some a) l c := by simpa [Value.cells] using hcs
    cases hcs'
    simp only [if_true] at hmm
    subst hmm
    rw [cells_leaf] at hx
    have hx2 : ∀ i, i < len → ∃ m : Lf, W.cells? 0 (a.add (i * 3)) 3 = some m.cells ∧ 0 ≤ m.label ∧ m.label ≤ 255 := fun i hi => by
      obtain ⟨cs', h1, h2⟩ := hx i (by omega)
      obtain ⟨mm, rfl, h3⟩ := open_leaf h2
      exact ⟨mm, h1, h3⟩
    obtain ⟨F, hF⟩ := Go.Deep.choose_lt (α := Lf) hx2
    refine ⟨(List.range len).map F, fun mm hmm => ?_, some a, m, by simp, by simpa using hl, (by unfold maxLen at hm; exact hm), fun hp => ?_⟩
    · obtain ⟨i, hi, rfl⟩ := List.mem_map.1 hmm
      exact (hF i (List.mem_range.1 hi)).2
    · simp only [List.length_map, List.length_range] at hp
      obtain ⟨b, off, spot⟩ := a
      have key : ∀ i, i < len → ∀ j, j < 3 → W.cell? (((⟨b, off, spot⟩ : Addr).add (i * 3)).add j) = (F i).cells[j]? := fun i hi j hj => (World.cells?_some (hF i hi).1).2.2 j hj
      have hspot : spot = none := by
        have h0 := key 0 hp 0 (by omega)
        simp only [Nat.zero_mul] at h0
        have : W.cell? ⟨b, off, spot⟩ = some (.int .u8 (F 0).label) := by simpa [Addr.add, Lf.cells] using h0
        exact World.cell?_spot this
      subst hspot
      have hadd : ∀ (o j : Nat), (⟨b, o, none⟩ : Addr).add j = ⟨b, o + j, none⟩ := fun o j => Go.WideShapes.add_plain b o j
      simp only [hadd] at key
      refine ⟨b, off, rfl, ?_, fun i mm hi => ?_⟩
      · have h0 := key 0 hp 0 (by omega)
        simp only [Nat.zero_mul, Nat.add_zero] at h0
        exact World.block_lt_of_cell? _ _ h0
      · obtain ⟨hi1, hi2⟩ := List.getElem?_eq_some_iff.1 hi
        simp only [List.length_map, List.length_range] at hi1
        simp only [List.getElem_map, List.getElem_range] at hi2
        subst hi2
        exact ⟨key i hi1 0 (by omega), key i hi1 1 (by omega), key i hi1 2 (by omega)⟩

set_option maxRecDepth 100000 in
/-- An argument that is a slice of bytes, opened. -/
theorem open_bytes {H : Type} {enc : TypeId × Value → H} {W : World} {d : DataW H} {p : List MemPlace} {v : Value} (h : DataW.Trod enc Tryd.prog W 0 (fun _ => true) true 36 v d p) (hval : Value.okWide Tryd.prog W .any 0 36 v) :
    ∃ l, YS W v l ∧ ∀ x ∈ l, x < 256 := by
  obtain ⟨a0, len, cap, rfl⟩ := okWide_slice Tryd.underlying36 hval
  obtain ⟨fuel, hf⟩ := h
  rcases Go.Deep.open_slice Tryd.underlying36 hf with ⟨hcs, _⟩ | ⟨a, l, c, m, n, D, Pl, hcs, _, hl, hm, hmm, _, hx⟩
  · simp only [Value.cells, List.cons.injEq, and_true] at hcs
    cases hcs
    exact ⟨[], YS.nil W, by simp⟩
  · have hcs' : Value.slice a0 len cap = .slice (some a) l c := by simpa [Value.cells] using hcs
    cases hcs'
    simp only [if_true] at hmm
    subst hmm
    rw [cells_u8] at hx
    have hx2 : ∀ i, i < len → ∃ x : Nat, W.cells? 0 (a.add (i * 1)) 1 = some [byV x] ∧ x < 256 := fun i hi => by
      obtain ⟨cs', h1, h2⟩ := hx i (by omega)
      obtain ⟨z, e0, _, w0⟩ := DataW.trod_int Tryd.underlying5 h2
      have hb := bounds_u8 w0
      refine ⟨z.toNat, ?_, by omega⟩
      rw [h1, e0, byV, Int.toNat_of_nonneg hb.1]
    obtain ⟨F, hF⟩ := Go.Deep.choose_lt (α := Nat) hx2
    refine ⟨(List.range len).map F, ⟨some a, m, by simp, by simpa using hl, (by unfold maxLen at hm; exact hm), fun hp => ?_⟩, fun x hx => ?_⟩
    · simp only [List.length_map, List.length_range] at hp
      obtain ⟨b, off, spot⟩ := a
      have key : ∀ i, i < len → W.cell? ((⟨b, off, spot⟩ : Addr).add (i * 1)) = some (byV (F i)) := fun i hi => by
        have := (World.cells?_some (hF i hi).1).2.2 0 (by omega)
        have e : (((⟨b, off, spot⟩ : Addr).add (i * 1)).add 0) = (⟨b, off, spot⟩ : Addr).add (i * 1) := by simp [Addr.add]
        rw [e] at this
        simpa using this
      have hspot : spot = none := by
        have h0 := key 0 hp
        have : W.cell? ⟨b, off, spot⟩ = some (byV (F 0)) := by simpa [Addr.add] using h0
        exact World.cell?_spot this
      subst hspot
      have hadd : ∀ (o j : Nat), (⟨b, o, none⟩ : Addr).add j = ⟨b, o + j, none⟩ := fun o j => Go.WideShapes.add_plain b o j
      simp only [hadd, Nat.mul_one] at key
      refine ⟨b, off, rfl, ?_, fun i x hi => ?_⟩
      · exact World.block_lt_of_cell? _ _ (by simpa using key 0 hp)
      · obtain ⟨hi1, hi2⟩ := List.getElem?_eq_some_iff.1 hi
        simp only [List.length_map, List.length_range] at hi1
        simp only [List.getElem_map, List.getElem_range] at hi2
        subst hi2
        exact key i hi1
    · obtain ⟨i, hi, rfl⟩ := List.mem_map.1 hx
      exact (hF i (List.mem_range.1 hi)).2
/-- The table of TrailingZeros64, off the row's list. -/
theorem db_of_laid {W : World} {rest : List (String × DataW Unit)} (h : laidMet Tryd.prog (("math/bits.deBruijn64tab", Rows.laid_math_bits_deBruijn64tab) :: rest) W) : DB W := by
  have h' : laidMet Tryd.prog (("math/bits.deBruijn64tab", Lib.tabData .u8 (Lib.deBruijn64tab.map fun n : Nat => (n : Int))) :: rest) W := h
  have ht := Lib.tabIs_of_head (g := 1) (by kernel_rfl) (by kernel_rfl) Tryd.underlying189 Tryd.underlying5 (by kernel_rfl) (by kernel_rfl) h'
  intro j hj
  have := ht.cell (g := 1) (by kernel_rfl) j (by simpa using hj)
  rw [this, List.getD_eq_getElem?_getD, List.getElem?_map, List.getElem?_eq_getElem hj, List.getD_eq_getElem?_getD, List.getElem?_eq_getElem hj]
  rfl
end Go.Proofs.YtdlibehffgfhlaaDoor
