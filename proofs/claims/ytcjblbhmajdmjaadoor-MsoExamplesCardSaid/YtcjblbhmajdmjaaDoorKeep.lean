/- Worlds in which only certain blocks have turned. -/
import Derived.Test.YtcjblbhmajdmjaaDoorIntA
import Derived.Test.YtcjblbhmajdmjaaDoorTree
set_option linter.unusedSimpArgs false
set_option linter.unusedVariables false
namespace Go.Proofs.YtcjblbhmajdmjaaDoor
open Go.RowKit

structure Keep (S : Nat → Prop) (w w' : World) : Prop where
  os : w'.os = w.os
  tape : w'.tape = w.tape
  output : w'.output = w.output
  size : w.heap.size ≤ w'.heap.size
  block : ∀ k, k < w.heap.size → ¬ S k → w'.heap[k]? = w.heap[k]?
theorem Keep.refl (S : Nat → Prop) (w : World) : Keep S w w := ⟨rfl, rfl, rfl, Nat.le_refl _, fun _ _ _ => rfl⟩
theorem Keep.trans {S : Nat → Prop} {a b c : World} (h : Keep S a b) (k : Keep S b c) : Keep S a c :=
  ⟨k.os.trans h.os, k.tape.trans h.tape, k.output.trans h.output, Nat.le_trans h.size k.size, fun i hi hs => (k.block i (Nat.lt_of_lt_of_le hi h.size) hs).trans (h.block i hi hs)⟩
theorem Keep.of_below {S : Nat → Prop} {a b : World} {B : Nat} (h : Below B a b) (hB : a.heap.size ≤ B) : Keep S a b :=
  ⟨h.os, h.tape, h.output, h.size, fun i hi _ => h.block i (Nat.lt_of_lt_of_le hi hB)⟩
theorem Keep.set {S : Nat → Prop} {a b : World} (h : Keep S a b) {p : Addr} (hp : S p.block ∨ a.heap.size ≤ p.block) (u : Value) : Keep S a (b.setCell p u) :=
  ⟨h.os, h.tape, h.output, by simpa [World.setCell] using h.size, fun i hi hs => (Below.heap_setCell b p u i (by
    rintro rfl
    rcases hp with hp | hp
    · exact hs hp
    · omega)).trans (h.block i hi hs)⟩
theorem Keep.drew {S : Nat → Prop} {a b : World} (h : Keep S a b) : Keep S a b.drew := ⟨h.os, h.tape, h.output, h.size, h.block⟩
theorem Keep.alloc {S : Nat → Prop} {a b : World} (h : Keep S a b) (o : Obj) : Keep S a (b.alloc o) :=
  ⟨h.os, h.tape, h.output, Nat.le_trans h.size (by simp), fun i hi hs => (Below.heap_alloc b o i (Nat.lt_of_lt_of_le hi h.size)).trans (h.block i hi hs)⟩
theorem Keep.below {S : Nat → Prop} {a b : World} (h : Keep S a b) {B : Nat} (hB : B ≤ a.heap.size) (hS : ∀ k, k < B → ¬ S k) : Below B a b :=
  ⟨h.os, h.tape, h.output, h.size, fun i hi => h.block i (by omega) (hS i hi)⟩
theorem Keep.row {S : Nat → Prop} {a b : World} (h : Keep S a b) {g : Nat} {t : TypeId} {cs : Array Value} (r : Row a g t cs) (hg : ¬ S g) : Row b g t cs := (h.block g r.lt hg).trans r

def Away (S : Nat → Prop) (v : Value) : Prop := ∀ b, v.ownBlock = some b → ¬ S b
theorem Keep.cell {S : Nat → Prop} {a b : World} (h : Keep S a b) {g : Nat} (hg : g < a.heap.size) (hs : ¬ S g) (o : Nat) : b.cell? ⟨g, o, none⟩ = a.cell? ⟨g, o, none⟩ :=
  World.cell?_of_block (a := ⟨g, o, none⟩) (h.block g hg hs)
theorem MS.keep {S : Nat → Prop} {w w' : World} {v : Value} {f : List Mk} (h : MS w v f) (ha : Away S v) (hk : Keep S w w') : MS w' v f := by
  obtain ⟨h0, A, c, hv, h1, h2, h3⟩ := h
  refine ⟨h0, A, c, hv, h1, h2, fun hp => ?_⟩
  obtain ⟨b, o, hA, hlt, hm⟩ := h3 hp
  have hs : ¬ S b := ha b (by rw [hv, hA]; rfl)
  exact ⟨b, o, hA, Nat.lt_of_lt_of_le hlt hk.size, fun i m him => (hm i m him).keep fun q => hk.cell hlt hs q⟩
theorem IS.keep {S : Nat → Prop} {w w' : World} {v : Value} {f : List Int} (h : IS w v f) (ha : Away S v) (hk : Keep S w w') : IS w' v f := by
  obtain ⟨A, c, hv, h1, h2, h3⟩ := h
  refine ⟨A, c, hv, h1, h2, fun hp => ?_⟩
  obtain ⟨b, o, hA, hlt, hm⟩ := h3 hp
  have hs : ¬ S b := ha b (by rw [hv, hA]; rfl)
  exact ⟨b, o, hA, Nat.lt_of_lt_of_le hlt hk.size, fun i x him => (hk.cell hlt hs _).trans (hm i x him)⟩

/-- The traversal of a tree: step at each leaf, with the variables bound above it. -/
def trav {σ : Type} (step : Nat → List Int → σ → σ) : Nat → List Int → Tr → σ → σ
  | p, ab, .leaf _ _ _, s => step p ab s
  | p, ab, .un op x a, s => trav step p (if isQ op then ab ++ [x] else ab) a s
  | p, ab, .bin _ a b, s => trav step (p + a.size) ab b (trav step p ab a s)
end Go.Proofs.YtcjblbhmajdmjaaDoor
