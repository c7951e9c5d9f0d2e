/- append onto a slice of marks of the call's own, the source any slice of marks. -/
import Derived.Test.YthkfjnmnoanhlaaGreatDoorBase
set_option linter.unusedSimpArgs false
set_option linter.unusedVariables false
namespace Go.Proofs.YthkfjnmnoanhlaaGreatDoor
open Go.RowKit

theorem append_nil_src {P : Program} (w : World) (base : Nat) (t ty e : TypeId) (i : TypeInfo) (size : Nat) (ht : P.underlying t = some (.slice e)) (hi : P.info? e = some i)
    (v : Value) (n : Nat) (xs : List Value) (hown : w.ownsRow base e size v n xs) (c : Nat) : (Builtin.append_ #[t, t] ty #[v, .slice none 0 c]).run P w = .ok v w := by
  rcases hown.2 with ⟨rfl, rfl⟩ | ⟨g, cap, cur, rfl, _, _, hnc, _⟩
  · simp [Builtin.append_, run_underlying ht, sizeOf, typeInfo, hi, Builtin.lenOf, Builtin.firstCells]
  · simp [Builtin.append_, run_underlying ht, sizeOf, typeInfo, hi, Builtin.lenOf, Builtin.firstCells, hnc, storeCells]

theorem Row.lit {w : World} {t : TypeId} {cs : Array Value} {g : Nat} (h : g = w.heap.size) : Row (w.alloc (.cells cs t)) g t cs := h ▸ Row.new w t cs
theorem Row.litd {w : World} {t : TypeId} {cs : Array Value} {g : Nat} (h : g = w.heap.size) : Row (w.alloc (.cells cs t)).drew g t cs := h ▸ Row.new w t cs

theorem take_next_eq {α : Type} {f g : List α} {k : Nat} {x y : α} (hx : f[k]? = some x) (hy : g[k]? = some y) (h : f.take k = g.take k) : f.take (k + 1) = g.take (k + 1) ↔ x = y := by
  rw [List.take_add_one, List.take_add_one, hx, hy, h]
  simp
end Go.Proofs.YthkfjnmnoanhlaaGreatDoor
