/- Helpers of the walks of chapter 15: facts carried over calls, what a call hands back. -/
import Derived.Test.YtahimlnddelnbaaDoorLwA
set_option linter.unusedSimpArgs false
set_option linter.unusedVariables false
namespace Go.Proofs.YtahimlnddelnbaaDoor
open Go.RowKit

theorem TS.to {w X : World} {v : Value} {f : List Lf} (h : TS w v f) (hb : Below w.heap.size w X) : TS X v f := h.below hb (Nat.le_refl _)
theorem TS.step {w X W : World} {v : Value} {f : List Lf} (h : TS w v f) (hb : Below w.heap.size w X) (hc : Below X.heap.size X W) : TS W v f := (h.to hb).to hc
theorem TS.litN {w : World} {g : Nat} (t : List Lf) (n : Nat) (hn : t.length = n) (hl : n ≤ 1000) (hb : LbOk t) (cs : Array Value) (hc : (lcells t).toArray = cs) (h : Row w g 65 cs) : TS w (.slice (some ⟨g, 0, none⟩) n n) t := by
  subst hn; subst hc
  exact TS.litT t hl hb h
theorem chainL {w wc X W : World} (h : Below w.heap.size w wc) (hb : Below wc.heap.size wc X) (hc : Below X.heap.size X W) : Below w.heap.size w W :=
  h.trans ((hb.mono h.size).trans (hc.mono (Nat.le_trans h.size hb.size)))
/-- A slice of leaves handed back beside an error, its shape shown. -/
theorem ret_tt {w w' : World} {t : List Lf} {e : Int} {en : Ending} (n : Nat) (hn : t.length = n) (h : RetTT w t e en w') : ∃ A c, en = .returned (.tuple #[.slice A n c, .int .i64 e]) ∧ Below w.heap.size w w' ∧ TS w' (.slice A n c) t := by
  subst hn
  obtain ⟨v, he, hb, ho⟩ := h
  obtain ⟨A, c, rfl⟩ := ho.ts.form
  exact ⟨A, c, he, hb, ho.ts⟩
theorem ret_to {w w' : World} {t : List Lf} {en : Ending} (n : Nat) (hn : t.length = n) (h : RetTO w t en w') : ∃ A c, en = .returned (.slice A n c) ∧ Below w.heap.size w w' ∧ TS w' (.slice A n c) t := by
  subst hn
  obtain ⟨v, he, hb, ho⟩ := h
  obtain ⟨A, c, rfl⟩ := ho.ts.form
  exact ⟨A, c, he, hb, ho.ts⟩

theorem is_yes (l : List Lf) (v u : Value) (e : Int) (w : World) (hv : TS w v l) (hu : TS w u l) (hl : l.length ≤ 1000000) :
    Calls Tryd.prog 48 #[v, .int .i64 e, u, .int .i64 e] w fun en w' => en = .returned (.bool true) ∧ Below w.heap.size w w' := by
  have q := is_any l l v u e e w hv hu hl
  rw [show (decide (l = l) && (e == e)) = true by simp] at q
  exact q

end Go.Proofs.YtahimlnddelnbaaDoor
