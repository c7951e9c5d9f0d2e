/- Two automata made by sub, into two new variables, in an order that is drawn: what is said of the slots. -/
import Derived.Test.YthkfjnmnoanhlaaGreatDoorRgI
import Derived.Test.YthkfjnmnoanhlaaGreatDoorAwP
import Derived.Test.YthkfjnmnoanhlaaGreatDoorDtG
set_option linter.unusedSimpArgs false
set_option linter.unusedVariables false
namespace Go.Proofs.YthkfjnmnoanhlaaGreatDoor
open Go.RowKit

theorem TDO.shape {W : World} {B : Nat} {v : Value} {r : Raw} (h : TDO W B v r) : ∃ i j A n c A' m d, v = .agg #[.int .i64 i, .int .i64 j, .slice A n c, .slice A' m d] := by
  obtain ⟨A, c, B, d, rfl⟩ := h.td.form
  exact ⟨_, _, _, _, _, _, _, _, rfl⟩
/-- A variable that holds, or will hold, the automaton v. -/
def VarJ (W : World) (B : Nat) (p v : Value) (stored : Bool) : Prop := ∃ g x0 x1 x2 x3, p = .pointer (some ⟨g, 0, none⟩) ∧ B ≤ g ∧ Row W g 25 #[x0, x1, x2, x3] ∧ (stored = true → v = .agg #[x0, x1, x2, x3])
theorem VarJ.to {W X : World} {B : Nat} {p v : Value} {s : Bool} (h : VarJ W B p v s) (hb : Below W.heap.size W X) : VarJ X B p v s := by
  obtain ⟨g, x0, x1, x2, x3, h1, h2, h3, h4⟩ := h
  exact ⟨g, x0, x1, x2, x3, h1, h2, h3.below hb h3.lt, h4⟩
def SubJ (W : World) (B N V : Nat) (v : Value) : Prop := ∃ D : Dta, D.Fit V ∧ D.n ≤ N ∧ TDO W B v (D.raw V)
theorem SubJ.to {W X : World} {B N V : Nat} {v : Value} (h : SubJ W B N V v) (hb : Below W.heap.size W X) : SubJ X B N V v := by
  obtain ⟨D, h1, h2, h3⟩ := h
  exact ⟨D, h1, h2, h3.below hb (Nat.le_refl _)⟩
/-- Two sub calls: xa, xb the loaded arguments, ra, rb the results, pa, pb the variables; ja .. the places of the operations. -/
structure TwoJ (w : World) (B N V gp gq : Nat) (cp cq : Array Value) (va vb : Value) (fxa fxb fra frb fpa fpb fsa fsb : Bool) (xa xb ra rb pa pb : Value) (W : World) : Prop where
  le : w.heap.size ≤ B
  bW : B ≤ W.heap.size
  hgp : gp < B
  hgq : gq < B
  below : Below w.heap.size w W
  hrp : Row W gp 25 cp
  hrq : Row W gq 25 cq
  hxa : fxa = true → xa = va
  hxb : fxb = true → xb = vb
  hra : fra = true → SubJ W w.heap.size N V ra
  hrb : frb = true → SubJ W w.heap.size N V rb
  hpa : fpa = true → VarJ W B pa ra fsa
  hpb : fpb = true → VarJ W B pb rb fsb
  hne : fpa = true → fpb = true → pa ≠ pb
  hsa : fsa = true → fra = true ∧ fpa = true
  hsb : fsb = true → frb = true ∧ fpb = true
variable {w : World} {B N V gp gq : Nat} {cp cq : Array Value} {va vb : Value} {fxa fxb fra frb fpa fpb fsa fsb : Bool} {xa xb ra rb pa pb : Value} {W X : World}
theorem TwoJ.to (h : TwoJ w B N V gp gq cp cq va vb fxa fxb fra frb fpa fpb fsa fsb xa xb ra rb pa pb W) (hb : Below W.heap.size W X) : TwoJ w B N V gp gq cp cq va vb fxa fxb fra frb fpa fpb fsa fsb xa xb ra rb pa pb X :=
  ⟨h.le, Nat.le_trans h.bW hb.size, h.hgp, h.hgq, h.below.trans (hb.mono h.below.size), h.hrp.below hb h.hrp.lt, h.hrq.below hb h.hrq.lt, h.hxa, h.hxb, fun e => (h.hra e).to hb, fun e => (h.hrb e).to hb, fun e => (h.hpa e).to hb, fun e => (h.hpb e).to hb, h.hne, h.hsa, h.hsb⟩
theorem TwoJ.loadA (h : TwoJ w B N V gp gq cp cq va vb fxa fxb fra frb fpa fpb fsa fsb xa xb ra rb pa pb W) : TwoJ w B N V gp gq cp cq va vb true fxb fra frb fpa fpb fsa fsb va xb ra rb pa pb W := { h with hxa := fun _ => rfl }
theorem TwoJ.loadB (h : TwoJ w B N V gp gq cp cq va vb fxa fxb fra frb fpa fpb fsa fsb xa xb ra rb pa pb W) : TwoJ w B N V gp gq cp cq va vb fxa true fra frb fpa fpb fsa fsb xa vb ra rb pa pb W := { h with hxb := fun _ => rfl }
theorem TwoJ.callA {v : Value} (h : TwoJ w B N V gp gq cp cq va vb fxa fxb fra frb fpa fpb fsa fsb xa xb ra rb pa pb W) (hb : Below W.heap.size W X) (hv : SubJ X W.heap.size N V v) (hf : fra = false) : TwoJ w B N V gp gq cp cq va vb fxa fxb true frb fpa fpb fsa fsb xa xb v rb pa pb X :=
  { h.to hb with
    hra := fun _ => by obtain ⟨D, h1, h2, h3⟩ := hv; exact ⟨D, h1, h2, h3.mono h.below.size⟩
    hpa := fun e => by
      obtain ⟨g, x0, x1, x2, x3, h1, h2, h3, _⟩ := (h.to hb).hpa e
      exact ⟨g, x0, x1, x2, x3, h1, h2, h3, fun h5 => by have := (h.hsa h5).1; rw [hf] at this; cases this⟩
    hsa := fun e => ⟨rfl, (h.hsa e).2⟩ }
theorem TwoJ.callB {v : Value} (h : TwoJ w B N V gp gq cp cq va vb fxa fxb fra frb fpa fpb fsa fsb xa xb ra rb pa pb W) (hb : Below W.heap.size W X) (hv : SubJ X W.heap.size N V v) (hf : frb = false) : TwoJ w B N V gp gq cp cq va vb fxa fxb fra true fpa fpb fsa fsb xa xb ra v pa pb X :=
  { h.to hb with
    hrb := fun _ => by obtain ⟨D, h1, h2, h3⟩ := hv; exact ⟨D, h1, h2, h3.mono h.below.size⟩
    hpb := fun e => by
      obtain ⟨g, x0, x1, x2, x3, h1, h2, h3, _⟩ := (h.to hb).hpb e
      exact ⟨g, x0, x1, x2, x3, h1, h2, h3, fun h5 => by have := (h.hsb h5).1; rw [hf] at this; cases this⟩
    hsb := fun e => ⟨rfl, (h.hsb e).2⟩ }
theorem TwoJ.allocA {z0 z1 z2 z3 : Value} (h : TwoJ w B N V gp gq cp cq va vb fxa fxb fra frb fpa fpb fsa fsb xa xb ra rb pa pb W) (hf : fpa = false) :
    TwoJ w B N V gp gq cp cq va vb fxa fxb fra frb true fpb fsa fsb xa xb ra rb (.pointer (some ⟨W.heap.size, 0, none⟩)) pb (W.alloc (.cells #[z0, z1, z2, z3] 25)) :=
  { h.to (Below.alloc (Below.refl W.heap.size W) (Nat.le_refl _) _) with
    hpa := fun _ => ⟨_, z0, z1, z2, z3, rfl, h.bW, Row.new _ _ _, fun h5 => by have := (h.hsa h5).2; rw [hf] at this; cases this⟩
    hsa := fun e => ⟨(h.hsa e).1, rfl⟩
    hne := fun _ e2 e => by
      obtain ⟨g, x0, x1, x2, x3, h1, h2, h3, _⟩ := h.hpb e2
      rw [h1] at e
      have := h3.lt
      simp only [Value.pointer.injEq, Option.some.injEq, Addr.mk.injEq, and_true] at e
      omega }
theorem TwoJ.allocB {z0 z1 z2 z3 : Value} (h : TwoJ w B N V gp gq cp cq va vb fxa fxb fra frb fpa fpb fsa fsb xa xb ra rb pa pb W) (hf : fpb = false) :
    TwoJ w B N V gp gq cp cq va vb fxa fxb fra frb fpa true fsa fsb xa xb ra rb pa (.pointer (some ⟨W.heap.size, 0, none⟩)) (W.alloc (.cells #[z0, z1, z2, z3] 25)) :=
  { h.to (Below.alloc (Below.refl W.heap.size W) (Nat.le_refl _) _) with
    hpb := fun _ => ⟨_, z0, z1, z2, z3, rfl, h.bW, Row.new _ _ _, fun h5 => by have := (h.hsb h5).2; rw [hf] at this; cases this⟩
    hsb := fun e => ⟨(h.hsb e).1, rfl⟩
    hne := fun e2 _ e => by
      obtain ⟨g, x0, x1, x2, x3, h1, h2, h3, _⟩ := h.hpa e2
      rw [h1] at e
      have := h3.lt
      simp only [Value.pointer.injEq, Option.some.injEq, Addr.mk.injEq, and_true] at e
      omega }
def set4 (W : World) (g : Nat) (a b c e : Value) : World := (((W.setCell ⟨g, 0, none⟩ a).setCell ⟨g, 1, none⟩ b).setCell ⟨g, 2, none⟩ c).setCell ⟨g, 3, none⟩ e
theorem Row.set4 {g k : Nat} {E : TypeId} {cs : Array Value} {a b c e : Value} (h : Row W k E cs) (hne : k ≠ g) : Row (set4 W g a b c e) k E cs := (((h.far hne _).far hne _).far hne _).far hne _
theorem SubJ.set4 {g : Nat} {v a b c e x0 x1 x2 x3 : Value} (h : SubJ W B N V v) (r : Row W g 25 #[x0, x1, x2, x3]) : SubJ (set4 W g a b c e) B N V v := by
  obtain ⟨D, h1, h2, h3⟩ := h
  exact ⟨D, h1, h2, (store4 (w := W) (B0 := 0) r h3 ⟨rfl, rfl, rfl, Nat.le_refl _, fun _ h => by omega⟩ (Nat.zero_le _)).2.1⟩
theorem VarJ.set4 {g : Nat} {p v a b c e : Value} {s : Bool} (h : VarJ W B p v s) (hne : p ≠ .pointer (some ⟨g, 0, none⟩)) : VarJ (set4 W g a b c e) B p v s := by
  obtain ⟨k, x0, x1, x2, x3, h1, h2, h3, h4⟩ := h
  exact ⟨k, x0, x1, x2, x3, h1, h2, h3.set4 (fun e => hne (by rw [h1, e])), h4⟩
theorem TwoJ.storeA {g : Nat} {a b c e : Value} (h : TwoJ w B N V gp gq cp cq va vb fxa fxb fra frb fpa fpb fsa fsb xa xb ra rb pa pb W) (hfp : fpa = true) (hfr : fra = true) (hp : pa = .pointer (some ⟨g, 0, none⟩)) (hr : ra = .agg #[a, b, c, e]) :
    TwoJ w B N V gp gq cp cq va vb fxa fxb fra frb fpa fpb true fsb xa xb ra rb pa pb (set4 W g a b c e) := by
  obtain ⟨k, x0, x1, x2, x3, h1, h2, h3, _⟩ := h.hpa hfp
  have hk : k = g := by rw [hp] at h1; simp only [Value.pointer.injEq, Option.some.injEq, Addr.mk.injEq, and_true] at h1; exact h1.symm
  subst hk
  have hst := store4 (w := w) (B0 := w.heap.size) (a := a) (b := b) (c := c) (e := e) h3 ((h.hra hfr).choose_spec.2.2) h.below (Nat.le_trans h.le h2)
  have hgp := h.hgp; have hgq := h.hgq
  refine ⟨h.le, ?_, hgp, hgq, hst.2.2, h.hrp.set4 (by omega), h.hrq.set4 (by omega), h.hxa, h.hxb, fun e => (h.hra e).set4 h3, fun e => (h.hrb e).set4 h3, fun _ => ⟨k, a, b, c, e, hp, h2, hst.1, fun _ => hr⟩, fun e => (h.hpb e).set4 (fun e3 => h.hne hfp e (by rw [hp, e3])), h.hne, fun _ => ⟨hfr, hfp⟩, h.hsb⟩
  unfold Go.Proofs.YthkfjnmnoanhlaaGreatDoor.set4; simp only [World.size_setCell]; exact h.bW
theorem TwoJ.storeB {g : Nat} {a b c e : Value} (h : TwoJ w B N V gp gq cp cq va vb fxa fxb fra frb fpa fpb fsa fsb xa xb ra rb pa pb W) (hfp : fpb = true) (hfr : frb = true) (hp : pb = .pointer (some ⟨g, 0, none⟩)) (hr : rb = .agg #[a, b, c, e]) :
    TwoJ w B N V gp gq cp cq va vb fxa fxb fra frb fpa fpb fsa true xa xb ra rb pa pb (set4 W g a b c e) := by
  obtain ⟨k, x0, x1, x2, x3, h1, h2, h3, _⟩ := h.hpb hfp
  have hk : k = g := by rw [hp] at h1; simp only [Value.pointer.injEq, Option.some.injEq, Addr.mk.injEq, and_true] at h1; exact h1.symm
  subst hk
  have hst := store4 (w := w) (B0 := w.heap.size) (a := a) (b := b) (c := c) (e := e) h3 ((h.hrb hfr).choose_spec.2.2) h.below (Nat.le_trans h.le h2)
  have hgp := h.hgp; have hgq := h.hgq
  refine ⟨h.le, ?_, hgp, hgq, hst.2.2, h.hrp.set4 (by omega), h.hrq.set4 (by omega), h.hxa, h.hxb, fun e => (h.hra e).set4 h3, fun e => (h.hrb e).set4 h3, fun e => (h.hpa e).set4 (fun e3 => h.hne e hfp (by rw [hp, e3])), fun _ => ⟨k, a, b, c, e, hp, h2, hst.1, fun _ => hr⟩, h.hne, h.hsa, fun _ => ⟨hfr, hfp⟩⟩
  unfold Go.Proofs.YthkfjnmnoanhlaaGreatDoor.set4; simp only [World.size_setCell]; exact h.bW
end Go.Proofs.YthkfjnmnoanhlaaGreatDoor
