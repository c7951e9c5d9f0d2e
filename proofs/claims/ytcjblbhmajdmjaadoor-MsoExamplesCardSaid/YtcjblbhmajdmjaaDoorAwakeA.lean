/- The chapter's examples, as facts on the plain functions. -/
import Derived.Test.YtcjblbhmajdmjaaDoorLaw
set_option linter.unusedSimpArgs false
set_option linter.unusedVariables false
namespace Go.Proofs.YtcjblbhmajdmjaaDoor
open Go.RowKit

theorem chain {B : Nat} {a b W c : World} (hB : B ≤ a.heap.size) (h : Below B a b) (hx : Below b.heap.size b W) (hb : Below W.heap.size W c) : Below B a c :=
  h.trans ((hx.mono (Nat.le_trans hB h.size)).trans (hb.mono (Nat.le_trans (Nat.le_trans hB h.size) hx.size)))
def F5 : List Mk := [⟨2, 0, 1, 0, 0⟩, ⟨3, 1, 0, 0, 0⟩, ⟨9, 0, 0, 1, 0⟩, ⟨10, 0, 0, 0, 2⟩, ⟨12, 1, 0, 3, 0⟩]
def T5 : Tr := .un 12 1 (.bin 10 (.leaf 2 0 1) (.un 9 0 (.leaf 3 1 0)))
def F5c : List Mk := [⟨2, 2, 1, 0, 0⟩, ⟨3, 1, 0, 0, 0⟩, ⟨9, 0, 0, 1, 0⟩, ⟨10, 0, 0, 0, 2⟩, ⟨12, 1, 0, 3, 0⟩]
theorem T5_ok : T5.ok := by
  refine ⟨⟨?_, ?_, ?_, ?_⟩, ?_, ⟨?_, ?_, ?_, ?_⟩, ⟨?_, ?_, ?_, ?_⟩, ?_, ?_, ?_, ?_⟩ <;> decide +kernel
theorem F5_formed : formedS F5 = true := by decide +kernel
def S1 : ByteArray := { data := #[40, 101, 120, 105, 115, 116, 115, 32, 66, 32, 40, 97, 110, 100, 32, 40, 115, 117, 98, 32, 65, 32, 66, 41, 32, 40, 110, 111, 116, 32, 40, 101, 109, 112, 116, 121, 32, 66, 41, 41, 41, 41] }
def S2 : ByteArray := { data := #[40, 101, 120, 105, 115, 116, 115, 32, 66, 32, 40, 97, 110, 100, 32, 40, 115, 117, 98, 32, 67, 32, 66, 41, 32, 40, 110, 111, 116, 32, 40, 101, 109, 112, 116, 121, 32, 66, 41, 41, 41, 41] }
def S3 : ByteArray := { data := #[40, 110, 111, 116, 32, 116, 114, 117, 101, 41] }
def S4 : ByteArray := { data := #[40, 115, 111, 109, 101, 32, 65, 32, 40, 115, 105, 110, 103, 108, 101, 32, 65, 41, 41] }
def F2 : List Mk := [⟨1, 0, 0, 0, 0⟩, ⟨9, 0, 0, 0, 0⟩]
def F3 : List Mk := [⟨4, 0, 0, 0, 0⟩, ⟨14, 0, 0, 0, 0⟩]
theorem e_parse1 : parseS (bts S1) = (F5, 0, 0) := by decide +kernel
theorem e_parse2 : parseS (bts S3) = (F2, 0, 0) := by decide +kernel
theorem e_sub1 : substR F5 T5 0 2 = (F5c, 0) := by decide +kernel
theorem e_sub2 : substR F5 T5 0 1 = ([], 16) := by decide +kernel
theorem e_sub3 : substR F5 T5 1 0 = (F5, 0) := by decide +kernel
theorem e_free : setOf (freeS F5 T5) = [1] := by decide +kernel
theorem e_chk1 : checkS F5 2 false = 0 := by decide +kernel
theorem e_chk2 : checkS F5 1 false = 7 := by decide +kernel
theorem e_chk3 : checkS F5 2 true = 0 := by decide +kernel
theorem e_chk4 : checkS [⟨5, 0, 1, 0, 0⟩] 2 true = 6 := by decide +kernel
theorem e_wrap : wrapS [⟨1, 0, 0, 0, 0⟩] ⟨9, 0, 0, 0, 0⟩ = (F2, 0) := by decide +kernel
theorem e_join : joinS 9 [⟨1, 0, 0, 0, 0⟩] [⟨1, 0, 0, 0, 0⟩] = ([], 6) := by decide +kernel
theorem e_bind1 : bindS 14 6 [⟨1, 0, 0, 0, 0⟩] = ([], 7) := by decide +kernel
theorem e_bind2 : bindS 14 0 [⟨4, 0, 0, 0, 0⟩] = (F3, 0) := by decide +kernel
theorem F5c_show : formedS F5c = true ∧ textS F5c = bts S2 := by decide +kernel
theorem F2_show : formedS F2 = true ∧ textS F2 = bts S3 := by decide +kernel
theorem F3_show : formedS F3 = true ∧ textS F3 = bts S4 := by decide +kernel

theorem sub_F5 (x y : Int) (r : List Mk) (k : Int) (v : Value) (w : World) (hv : MS w v F5) (h : substR F5 T5 x y = (r, k)) (h0 : 0 ≤ x) (h1 : x < 6) (h2 : 0 ≤ y) (h3 : y < 6) : Calls Tryd.prog 19 #[v, .int .i64 x, .int .i64 y] w (RetFE w r k) := by
  have q := Subst_yes F5 T5 v x y w h0 h1 h2 h3 hv F5_formed (by decide +kernel) T5_ok (by decide +kernel)
  rw [h] at q
  exact q
theorem RetFE.empty {w w' : World} {k : Int} {e : Ending} (h : RetFE w [] k e w') : ∃ A c, e = .returned (.tuple #[.slice A 0 c, .int .i64 k]) ∧ Below w.heap.size w w' := by
  obtain ⟨v, he, hb, ho⟩ := h
  obtain ⟨A, c, hv⟩ := ho.form
  exact ⟨A, c, by rw [he, hv]; rfl, hb⟩
theorem US.one {w : World} {g : Nat} {x : Nat} (h : Row w g 63 #[.int .u64 x]) : US w (.slice (some ⟨g, 0, none⟩) 1 1) [x] := by
  refine ⟨some ⟨g, 0, none⟩, 1, rfl, by simp, by omega, fun _ => ⟨g, 0, rfl, h.lt, fun i y hi => ?_⟩⟩
  cases i with
  | succ i => simp at hi
  | zero =>
    simp at hi
    subst hi
    rw [h.cell]; rfl

end Go.Proofs.YtcjblbhmajdmjaaDoor
