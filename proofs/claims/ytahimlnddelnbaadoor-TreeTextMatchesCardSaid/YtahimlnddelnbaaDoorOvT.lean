/- OverTree of the verifier's kit: it writes into the row that it is given, and nowhere else. -/
import Derived.Test.YtahimlnddelnbaaDoorTrC
import Derived.Test.YtahimlnddelnbaaDoorVal
set_option linter.unusedSimpArgs false
set_option linter.unusedVariables false
namespace Go.Proofs.YtahimlnddelnbaaDoor
open Go.RowKit

theorem own_rowT {w : World} {B n size : Nat} {e : TypeId} {v : Value} {xs : List Value} (h : w.ownsRow B e size v n xs) (hn : 0 < n) : ∃ g cap cs, v = .slice (some ⟨g, 0, none⟩) n cap ∧ B ≤ g ∧ Row w g e cs ∧ n * size ≤ cs.size ∧ n ≤ 9223372036854775807 := by
  rcases h.2 with ⟨_, h0⟩ | ⟨g, cap, cur, hv, hB, hg, hnc, hcm, hcs, _⟩
  · omega
  · exact ⟨g, cap, cur, hv, hB, hg, by rw [hcs]; exact Nat.mul_le_mul_right _ hnc, by simp only [maxLen] at hcm; omega⟩
theorem row_someT {w : World} {g : Nat} {t : TypeId} {cs : Array Value} (h : Row w g t cs) {i : Nat} (hi : i < cs.size) : ∃ u, w.cell? ⟨g, i, none⟩ = some u := ⟨cs[i], by rw [h.cell, Array.getElem?_eq_getElem hi]⟩
theorem over_nilT {w : World} {B : Nat} {e : TypeId} {size : Nat} {v : Value} {xs : List Value} (h : w.ownsRow B e size v 0 xs) : ∃ A c, v = .slice A 0 c := by
  rcases h.2 with ⟨hv, _⟩ | ⟨g, cap, cur, hv, _⟩
  · exact ⟨none, 0, hv⟩
  · exact ⟨_, cap, hv⟩
theorem grownBy_set {w w' : World} {g : Nat} (h : w.grownBy w' (some g)) (o : Nat) (v : Value) : w.grownBy (w'.setCell ⟨g, o, none⟩ v) (some g) :=
  ⟨h.os, h.tape, h.output, by simpa [World.setCell] using h.size, fun i hi hne => (Below.heap_setCell w' ⟨g, o, none⟩ v i (by rintro rfl; exact hne rfl)).trans (h.block i hi hne)⟩
set_option maxRecDepth 100000 in
set_option maxHeartbeats 1000000 in
theorem over_tree (f : List Lf) (v : Value) (B : Nat) (w : World) (hv : TO w B v f) :
    Calls Tryd.prog 34 #[v] w fun e w' => e = .returned (.tuple #[]) ∧ w.grownBy w' v.ownBlock := by
  obtain ⟨n, hn⟩ : ∃ n, n = f.length := ⟨_, rfl⟩
  have hv2 : w.ownsRow B 65 3 v f.length (lcells f) := hv.2
  rw [← hn] at hv2
  clear hv hn
  by_cases h0 : n = 0
  · subst h0
    obtain ⟨A, c, rfl⟩ := over_nilT hv2
    clear hv2
    go_enter Tryd.func34, Tryd.ntmps34
    go_wp2
    go_rounds 1
    refine bodyPost_end (results_none rfl _ _ _) rfl ?_
    exact ⟨rfl, World.grownBy.refl _ _⟩
  · obtain ⟨g, cap, cs, rfl, hBg, hr, hsz, hnm⟩ := own_rowT hv2 (by omega)
    clear hv2
    have HR0 := Lib.hid hr; clear hr
    go_enter Tryd.func34, Tryd.ntmps34
    go_wp2
    go_loopg [2] n (fun gk q wr => ∃ (k : Nat) (cs' : Array Value), k ≤ n ∧ gk = n - k ∧ q = .int .i64 k ∧ w.grownBy wr (some g) ∧ Row wr g 65 cs' ∧ n * 3 ≤ cs'.size)
    case atStart => exact ⟨0, cs, Nat.zero_le _, rfl, rfl, World.grownBy.refl _ _, HR0.out, hsz⟩
    case round =>
      obtain ⟨k, cs', hk, rfl, rfl, hb, hr, hs⟩ := hrel
      have HB := Lib.hid hb; clear hb
      by_cases hlt : k < n
      · obtain ⟨u0, c0⟩ := row_someT hr (i := k * 3) (by omega)
        obtain ⟨u1, c1⟩ := row_someT hr (i := k * 3 + 1) (by omega)
        obtain ⟨u2, c2⟩ := row_someT hr (i := k * 3 + 2) (by omega)
        have fr := hr.free
        have HR := Lib.hid hr; clear hr
        go_wp2
        go_roundg (n - (k + 1))
        case rel => exact ⟨k + 1, _, by omega, rfl, by go_num, grownBy_set (grownBy_set (grownBy_set HB.out _ _) _ _) _ _, ((HR.out.set _ _).set _ _).set _ _, by simpa using hs⟩
        case measure => omega
      · go_wp2
        refine bodyPost_end (results_none rfl _ _ _) rfl ?_
        exact ⟨rfl, HB.out⟩
theorem TO.farB {w w' : World} {B : Nat} {v u : Value} {f : List Lf} (h : TO w B v f) (hne : Apart v u) (hg : w.grownBy w' u.ownBlock) : TO w' B v f := by
  obtain ⟨h0, h1, h⟩ := h
  refine ⟨h0, h1, ?_⟩
  rcases h with h | ⟨g, cap, cur, hv, hBg, hgg, r⟩
  · exact .inl h
  · exact .inr ⟨g, cap, cur, hv, hBg, (hg.block g (lt_of_block hgg) (fun e => hne g (by rw [hv]; rfl) e.symm)).trans hgg, r⟩
theorem TO.blk {w : World} {B g : Nat} {v : Value} {f : List Lf} (h : TO w B v f) (hg : v.ownBlock = some g) : B ≤ g ∧ g < w.heap.size := World.ownsRow.lt h.2 g hg
/-- What was made later lies apart. -/
theorem TO.apartO {w W : World} {B B' : Nat} {v u : Value} {f h : List Lf} (h1 : TO w B v f) (h2 : TO W B' u h) (hB : w.heap.size ≤ B') : Apart u v := fun g hu hv => by
  have a := h1.blk hv
  have b := h2.blk hu
  omega
theorem below_over {w W X : World} {B : Nat} {v : Value} {f : List Lf} (h : Below B w W) (ho : TO W B v f) (hg : W.grownBy X v.ownBlock) (hB : B ≤ W.heap.size) : Below B w X :=
  h.grown hg hB fun k hk => (ho.blk hk).1
end Go.Proofs.YtahimlnddelnbaaDoor
