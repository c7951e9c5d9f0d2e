/- Part 30 of the proof; it says: lemmas and contracts. No conditions but those that each theorem states. -/
import Derived.Test.YthkfjnmnoanhlaaGreatDoorMt01
import Derived.Test.YthkfjnmnoanhlaaGreatDoorMt28
import Derived.Test.YthkfjnmnoanhlaaGreatDoorMt29
set_option linter.unusedSimpArgs false
set_option linter.unusedVariables false
namespace Go.Proofs.YthkfjnmnoanhlaaGreatDoor
open Go.RowKit
theorem zkb (r : Raw) (M : Int) (x : Value) (w : World) (hv : TD w x r) (hs : Small r) :
  Calls Tryz.prog 24 #[x, .int .i64 M] w fun e w' => e = .returned (.tuple #[.int .u64 (((cnAny r M).1 : Nat) : Int), .int .i64 (((cnAny r M).2 : Nat) : Int)]) /\ Below w.heap.size w w' := by
 by_cases h0 : r.check = 0
 ·by_cases b1 : M < 0
  ·rw [show cnAny r M = (0, 1) by unfold cnAny; simp [h0, b1]]
   exact zj9 r M x w hv hs h0 b1
  ·by_cases b2 : 31 < M
   ·rw [show cnAny r M = (0, 1) by unfold cnAny; simp [h0, b2]]
    exact zi7 r M x w hv hs h0 b1 b2
   ·rw [show cnAny r M = (accN r.dta M.toNat % M64, 0) by unfold cnAny; simp [h0, b1, b2]]
    obtain ⟨V, hV, hd, hr⟩ := Raw.check_dta h0
    obtain ⟨M', rfl⟩ : ∃ M' : Nat, M = (M' : Int) := ⟨M.toNat, by omega⟩
    simp only [Int.toNat_natCast]
    exact zmu r.dta V hd x M' (by omega) w (by rw [<- hr]; exact hv)
 ·rw [show cnAny r M = (0, r.check) by unfold cnAny; simp [h0]]
  exact zka r M x w hv hs h0
end Go.Proofs.YthkfjnmnoanhlaaGreatDoor
