/- MsoExamples: the law returns true. -/
import Derived.Test.YtcjblbhmajdmjaaDoorRow
set_option linter.unusedSimpArgs false
set_option linter.unusedVariables false
namespace Go.Proofs.YtcjblbhmajdmjaaDoor
open Go.RowKit

/-- A store into a field of the last mark. -/
theorem last_set {w : World} {B g n cap : Nat} {f : List Mk} (h : MO w B (.slice (some ⟨g, 0, none⟩) n cap) f) (hn : f.length = n) (hp : 0 < n) (q : Nat) (h1 : 1 ≤ q) (h2 : q < 5) (k : Int) :
    ∃ f', f'.length = n ∧ MO (w.setCell ⟨g, (n - 1) * 5 + q, none⟩ (.int .i64 k)) B (.slice (some ⟨g, 0, none⟩) n cap) f' := by
  obtain ⟨m, hm⟩ : ∃ m, f[n - 1]? = some m := ⟨f[n - 1], List.getElem?_eq_getElem (by omega)⟩
  have hop := h.1 m (List.mem_of_getElem? hm)
  have hq : q = 1 ∨ q = 2 ∨ q = 3 ∨ q = 4 := by omega
  rcases hq with rfl | rfl | rfl | rfl
  · exact ⟨f.set (n - 1) { m with x := k }, by simp [hn], set_mark h hn hm 1 _ hop rfl (by omega)⟩
  · exact ⟨f.set (n - 1) { m with y := k }, by simp [hn], set_mark h hn hm 2 _ hop rfl (by omega)⟩
  · exact ⟨f.set (n - 1) { m with a := k }, by simp [hn], set_mark h hn hm 3 _ hop rfl (by omega)⟩
  · exact ⟨f.set (n - 1) { m with b := k }, by simp [hn], set_mark h hn hm 4 _ hop rfl (by omega)⟩

/-- A formula of one to four marks. -/
def OneF (w : World) (s : Value) : Prop := ∃ F, MS w s F ∧ 1 ≤ F.length ∧ F.length ≤ 4
theorem OneF.below {w w' : World} {s : Value} {B : Nat} (h : OneF w s) (hb : Below B w w') (hB : w.heap.size ≤ B) : OneF w' s := by
  obtain ⟨F, h1, h2⟩ := h
  exact ⟨F, h1.below hb hB, h2⟩
/-- The four formulas of a round. -/
structure Fields (w : World) (g : Nat) (s0 s1 s2 s3 : Value) : Prop where
  row : Row w g 25 #[s0, s1, s2, s3]
  h0 : OneF w s0
  h1 : OneF w s1
  h2 : OneF w s2
  h3 : OneF w s3
theorem Fields.below {w w' : World} {g : Nat} {s0 s1 s2 s3 : Value} {B : Nat} (h : Fields w g s0 s1 s2 s3) (hb : Below B w w') (hB : w.heap.size ≤ B) : Fields w' g s0 s1 s2 s3 :=
  ⟨h.row.below hb (Nat.lt_of_lt_of_le h.row.lt hB), h.h0.below hb hB, h.h1.below hb hB, h.h2.below hb hB, h.h3.below hb hB⟩
theorem Fields.at {w : World} {g : Nat} {s0 s1 s2 s3 : Value} (h : Fields w g s0 s1 s2 s3) (i : Nat) (hi : i < 4) : ∃ s, w.cell? ⟨g, i, none⟩ = some s ∧ OneF w s := by
  have hc : i = 0 ∨ i = 1 ∨ i = 2 ∨ i = 3 := by omega
  rcases hc with rfl | rfl | rfl | rfl
  · exact ⟨s0, by rw [h.row.cell]; rfl, h.h0⟩
  · exact ⟨s1, by rw [h.row.cell]; rfl, h.h1⟩
  · exact ⟨s2, by rw [h.row.cell]; rfl, h.h2⟩
  · exact ⟨s3, by rw [h.row.cell]; rfl, h.h3⟩
end Go.Proofs.YtcjblbhmajdmjaaDoor
