/- Contracts: forms of the package mso. -/
/- Contracts: quantifier, spare, within, sizes of the package mso. -/
/- Contract: sizes of the package mso. -/
import Derived.Test.YthkfjnmnoanhlaaGreatDoorBase
set_option linter.unusedSimpArgs false
set_option linter.unusedVariables false
namespace Go.Proofs.YthkfjnmnoanhlaaGreatDoor
open Go.RowKit

def FormsPost (op : Int) (w : World) (e : Ending) (w' : World) : Prop := e = .returned (.agg #[.string ⟨(nm op).toArray⟩, .int .i64 (nv op), .int .i64 (nc op)]) ∧ Below w.heap.size w w'

end Go.Proofs.YthkfjnmnoanhlaaGreatDoor

namespace Go.Proofs.YthkfjnmnoanhlaaGreatDoor
open Go.RowKit

def isQ (op : Int) : Bool := decide (12 ≤ op) && decide (op ≤ 15)
end Go.Proofs.YthkfjnmnoanhlaaGreatDoor

namespace Go.Proofs.YthkfjnmnoanhlaaGreatDoor
open Go.RowKit

def outc (n : Nat) (l : List Nat) : Array Value := ((l ++ List.replicate (n - l.length) 0).map fun s : Nat => Value.int .i64 s).toArray
theorem outc_get (n : Nat) (l : List Nat) (j : Nat) (h : j < n) (hl : l.length ≤ n) : (outc n l)[j]? = some (.int .i64 (l.getD j 0 : Nat)) := by
  simp only [outc, List.getElem?_toArray, List.getElem?_map]
  by_cases hj : j < l.length
  · rw [List.getElem?_append_left hj, List.getElem?_eq_getElem hj]
    simp [List.getD, List.getElem?_eq_getElem hj]
  · rw [List.getElem?_append_right (by omega), List.getElem?_replicate, if_pos (by omega)]
    simp [List.getD, List.getElem?_eq_none (by omega : l.length ≤ j)]
theorem outc_zero (n : Nat) (l : List Nat) (h : l.length < n) : outc n (l ++ [0]) = outc n l := by
  unfold outc
  obtain ⟨d, hd⟩ : ∃ d, n - l.length = d + 1 := ⟨n - l.length - 1, by omega⟩
  have hd2 : n - (l ++ [0]).length = d := by simp; omega
  rw [hd, hd2, List.replicate_succ, List.append_assoc]
  rfl
theorem outc_set (n : Nat) (l : List Nat) (v : Nat) (h : l.length < n) : (outc n l).setIfInBounds l.length (.int .i64 v) = outc n (l ++ [v]) := by
  unfold outc
  obtain ⟨d, hd⟩ : ∃ d, n - l.length = d + 1 := ⟨n - l.length - 1, by omega⟩
  have hd2 : n - (l ++ [v]).length = d := by simp; omega
  rw [hd, hd2, List.replicate_succ, List.append_assoc]
  simp only [List.map_append, List.map_cons, List.setIfInBounds_toArray]
  rw [List.set_append_right _ _ (by simp)]
  simp
theorem outc_made (n : Nat) : madeCells #[.int .i64 0] n = outc n [] := by
  apply Array.ext'
  rw [toList_madeCells_one]
  simp [outc]

end Go.Proofs.YthkfjnmnoanhlaaGreatDoor
