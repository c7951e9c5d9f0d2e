/- MsoExamples: strings, bytes and texts of its second half. (Printed by gen_exa.py.) -/
import Derived.Test.YtcjblbhmajdmjaaDoorExa
import Derived.Test.YtcjblbhmajdmjaaDoorVal
import Derived.Lib.SlBytesRow
import Derived.Lib.SlBytesConst
set_option linter.unusedSimpArgs false
set_option linter.unusedVariables false
namespace Go.Proofs.YtcjblbhmajdmjaaDoor
open Go.RowKit

theorem eB8 : Elt 36 5 (.int .u8 0) 1 := ⟨by kernel_rfl, by kernel_rfl, by omega, rfl⟩
/-- A string of n zero bytes, by a slice. -/
theorem mk_zeros (n : Nat) (hn : n ≤ 10000) : ∃ (C : Array Value) (Z : ByteArray), Z.size = n ∧ (∀ W : World, (Instr.makeSlice 36 (.int .i64 (n : Int)) (.int .i64 (n : Int))).run Tryd.prog W = .ok (.slice (some ⟨W.heap.size, 0, none⟩) n n) (W.alloc (.cells C 5))) ∧
    ∀ (W : World) (g : Nat), Row W g 5 C → (convert 36 9 (.slice (some ⟨g, 0, none⟩) n n)).run Tryd.prog W = .ok (.string Z) W := by
  refine ⟨(List.replicate n (.int .u8 0)).toArray, ⟨(List.replicate n (0 : UInt8)).toArray⟩, by simp [ByteArray.size], fun W => run_make_vs eB8 n (by omega) W, fun W g h => ?_⟩
  have hz : (⟨(List.replicate n (0 : UInt8)).toArray⟩ : ByteArray).size = n := by simp [ByteArray.size]
  have hb : Go.Lib.Bytes W g 0 ⟨(List.replicate n (0 : UInt8)).toArray⟩ := fun i hi => by
    have hi' : i < n := by rw [← hz]; exact hi
    rw [h.cell, Nat.zero_add]
    have e : (⟨(List.replicate n (0 : UInt8)).toArray⟩ : ByteArray)[i] = 0 := by
      show ((List.replicate n (0 : UInt8)).toArray)[i]'_ = 0
      simp
    rw [e]
    simp [List.getElem?_replicate, hi']
  have hc := Go.Lib.run_convert_whole (P := Tryd.prog) W 36 5 9 (by kernel_rfl) (by kernel_rfl) (by kernel_rfl) g 0 _ hb n
  rw [hz] at hc
  exact hc
/-- A string of one byte, by a slice. -/
theorem cv_one (c : Nat) (hc : c < 256) : ∃ Z : ByteArray, Z.size = 1 ∧ ∀ (W : World) (g : Nat), Row W g 5 #[.int .u8 (c : Int)] → (convert 36 9 (.slice (some ⟨g, 0, none⟩) 1 1)).run Tryd.prog W = .ok (.string Z) W := by
  refine ⟨⟨#[UInt8.ofNat c]⟩, rfl, fun W g h => ?_⟩
  have hb : Go.Lib.Bytes W g 0 ⟨#[UInt8.ofNat c]⟩ := fun i hi => by
    have hi' : i < 1 := hi
    obtain rfl : i = 0 := by omega
    rw [h.cell]
    show some (Value.int .u8 (c : Int)) = some (.int .u8 (((UInt8.ofNat c).toNat : Nat) : Int))
    have e : (UInt8.ofNat c).toNat = c := by rw [UInt8.toNat_ofNat']; omega
    rw [e]
  exact Go.Lib.run_convert_whole (P := Tryd.prog) W 36 5 9 (by kernel_rfl) (by kernel_rfl) (by kernel_rfl) g 0 _ hb 1
/-- The seven texts. -/
def TxF (W : World) (g : Nat) : Prop := g < W.heap.size ∧ ∀ i : Nat, i < 7 → ∃ s : ByteArray, W.cell? ⟨g, i, none⟩ = some (.string s) ∧ s.size ≤ 400
theorem TxF.of {W : World} {g : Nat} {s0 s1 s2 s3 s4 s5 s6 : ByteArray} (hr : Row W g 9 #[.string s0, .string s1, .string s2, .string s3, .string s4, .string s5, .string s6]) (h0 : s0.size ≤ 400) (h1 : s1.size ≤ 400) (h2 : s2.size ≤ 400) (h3 : s3.size ≤ 400) (h4 : s4.size ≤ 400) (h5 : s5.size ≤ 400) (h6 : s6.size ≤ 400) : TxF W g := ⟨hr.lt, fun i hi => by
  have e := hr.cell i
  match i, hi, e with
  | 0, _, e => exact ⟨_, e, h0⟩
  | 1, _, e => exact ⟨_, e, h1⟩
  | 2, _, e => exact ⟨_, e, h2⟩
  | 3, _, e => exact ⟨_, e, h3⟩
  | 4, _, e => exact ⟨_, e, h4⟩
  | 5, _, e => exact ⟨_, e, h5⟩
  | 6, _, e => exact ⟨_, e, h6⟩⟩
theorem TxF.below {w w' : World} {g : Nat} (h : TxF w g) (hb : Below w.heap.size w w') : TxF w' g := ⟨Nat.lt_of_lt_of_le h.1 hb.size, fun i hi => by
  obtain ⟨s, h1, h2⟩ := h.2 i hi
  exact ⟨s, (Below.cell hb (by exact h.1)).trans h1, h2⟩⟩
/-- The nine bytes. -/
def ByF (W : World) (g : Nat) : Prop := g < W.heap.size ∧ ∀ i : Nat, i < 9 → ∃ c : Nat, W.cell? ⟨g, i, none⟩ = some (.int .u8 (c : Int)) ∧ c < 256
theorem ByF.of {W : World} {g : Nat} {fr : Nat × Nat} (hr : W.heap[g]? = some (.cells #[.int .u8 40, .int .u8 41, .int .u8 32, .int .u8 97, .int .u8 101, .int .u8 65, .int .u8 70, .int .u8 71, .int .u8 45] 5 fr)) : ByF W g := ⟨lt_of_block hr, fun i hi => by
  have e := cell_of_row W g i _ _ fr hr
  match i, hi, e with
  | 0, _, e => exact ⟨40, e, by omega⟩
  | 1, _, e => exact ⟨41, e, by omega⟩
  | 2, _, e => exact ⟨32, e, by omega⟩
  | 3, _, e => exact ⟨97, e, by omega⟩
  | 4, _, e => exact ⟨101, e, by omega⟩
  | 5, _, e => exact ⟨65, e, by omega⟩
  | 6, _, e => exact ⟨70, e, by omega⟩
  | 7, _, e => exact ⟨71, e, by omega⟩
  | 8, _, e => exact ⟨45, e, by omega⟩⟩
theorem ByF.below {w w' : World} {g : Nat} (h : ByF w g) (hb : Below w.heap.size w w') : ByF w' g := ⟨Nat.lt_of_lt_of_le h.1 hb.size, fun i hi => by
  obtain ⟨s, h1, h2⟩ := h.2 i hi
  exact ⟨s, (Below.cell hb (by exact h.1)).trans h1, h2⟩⟩
theorem str_ok (s : ByteArray) (h : s.size ≤ 10000) : s.size ≤ maxLen := by unfold maxLen; omega
theorem ext_le (s : ByteArray) (a b : Nat) : (s.extract a b).size ≤ s.size := by rw [ByteArray.size_extract]; omega
end Go.Proofs.YtcjblbhmajdmjaaDoor
