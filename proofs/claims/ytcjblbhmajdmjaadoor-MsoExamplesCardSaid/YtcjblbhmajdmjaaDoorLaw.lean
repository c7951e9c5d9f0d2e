/- Contracts of the law's helpers: reads, fails, shows, formed. -/
import Derived.Test.YtcjblbhmajdmjaaDoorForm
import Derived.Test.YtcjblbhmajdmjaaDoorPrsD
import Derived.Test.YtcjblbhmajdmjaaDoorJoin
set_option linter.unusedSimpArgs false
set_option linter.unusedVariables false
namespace Go.Proofs.YtcjblbhmajdmjaaDoor
open Go.RowKit

theorem parse_len (s : List UInt8) : (parseS s).1.length ≤ 64 := by
  rcases parse_exact s with ⟨_, h, _⟩ | ⟨h, _⟩
  · exact (formed_len _ h).2
  · rw [h]; simp
theorem strV_of {l : List UInt8} {S : ByteArray} (h : l = bts S) : strV l = .string S := by subst h; rfl

set_option maxRecDepth 100000 in
set_option maxHeartbeats 1000000 in
theorem reads_true (S : ByteArray) (u : Value) (g : List Mk) (w : World) (hu : MS w u g) (h : parseS (bts S) = (g, 0, 0)) :
    Calls Tryd.prog 33 #[.string S, u] w fun e w' => e = .returned (.bool true) ∧ Below w.heap.size w w' := by
  have hl := parse_len (bts S)
  have hp := fun W => Parse_any S W
  rw [h] at hp hl
  have HP := Lib.hid hp; clear hp h
  have HU := Lib.hid hu; clear hu
  go_enter Tryd.func33, Tryd.ntmps33
  go_wp2_with (first
    | (go_at_call 9; refine (HP.out _).mono ?_; rintro e w1 ⟨v, rfl, hb1, ho1⟩; have HB1 := Lib.hid hb1; have HO := Lib.hid ho1; clear hb1 ho1)
    | (go_at_call 23; go_must (refine (equalMSO g g _ _ _ HO.out.ms (HU.out.below HB1.out (Nat.le_refl _)) (by have hl2 : g.length ≤ 64 := hl; omega)).mono ?_; rintro e w2 ⟨rfl, hb2⟩; rw [decide_eq_true (rfl : g = g)]; have HB2 := Lib.hid hb2; clear hb2)))
  go_returns
  exact ⟨rfl, HB1.out.trans (HB2.out.mono HB1.out.size)⟩
def failsP (s : List UInt8) (p k : Int) : Prop := (parseS s).1 = [] ∧ ((parseS s).2.1 : Int) = p ∧ (parseS s).2.2 = k
instance (s : List UInt8) (p k : Int) : Decidable (failsP s p k) := by unfold failsP; exact inferInstance
set_option maxRecDepth 100000 in
set_option maxHeartbeats 1000000 in
theorem fails_true (S : ByteArray) (p k : Int) (w : World) (h : failsP (bts S) p k) :
    Calls Tryd.prog 35 #[.string S, .int .i64 p, .int .i64 k] w fun e w' => e = .returned (.bool true) ∧ Below w.heap.size w w' := by
  obtain ⟨h1, h2, h3⟩ := h
  have hp : ∀ W, Calls Tryd.prog 9 #[.string S] W fun e w' => ∃ A c, e = .returned (.tuple #[.slice A 0 c, .int .i64 p, .int .i64 k]) ∧ Below W.heap.size W w' := fun W => (Parse_any S W).mono fun e w' ⟨v, he, hb, ho⟩ => by
    obtain ⟨A, c, hv⟩ := ho.form
    rw [h1] at hv
    exact ⟨A, c, by rw [he, hv, h2, h3]; rfl, hb⟩
  have HP := Lib.hid hp; clear hp h1 h2 h3
  go_enter Tryd.func35, Tryd.ntmps35
  go_wp2_with (first
    | (go_at_call 9; refine (HP.out _).mono ?_; rintro e w1 ⟨A, c, rfl, hb1⟩; have HB1 := Lib.hid hb1; clear hb1))
  go_returns
  exact ⟨rfl, HB1.out⟩
theorem Format_text (f : List Mk) (v : Value) (w : World) (hv : MS w v f) :
    Calls Tryd.prog 27 #[v] w fun e w' => e = .returned (.tuple #[strV (if formedS f then textS f else []), .int .i64 (if formedS f then 0 else 2)]) ∧ Below w.heap.size w w' := Format_any f v w hv
set_option maxRecDepth 100000 in
set_option maxHeartbeats 1000000 in
theorem shows_true (S : ByteArray) (v : Value) (f : List Mk) (w : World) (hv : MS w v f) (hf : formedS f = true) (ht : textS f = bts S) :
    Calls Tryd.prog 34 #[v, .int .i64 0, .string S] w fun e w' => e = .returned (.bool true) ∧ Below w.heap.size w w' := by
  have hp : ∀ W, MS W v f → Calls Tryd.prog 27 #[v] W fun e w' => e = .returned (.tuple #[.string S, .int .i64 0]) ∧ Below W.heap.size W w' := fun W hv => (Format_text f v W hv).mono fun e w' ⟨he, hb⟩ => by
    rw [if_pos hf, if_pos hf, strV_of ht] at he
    exact ⟨he, hb⟩
  have HP := Lib.hid hp; clear hp hf ht
  have HV := Lib.hid hv
  obtain ⟨_, A, c, rfl, _⟩ := hv
  go_enter Tryd.func34, Tryd.ntmps34
  go_wp2_with (first
    | (go_at_call 27; refine (HP.out _ HV.out).mono ?_; rintro e w1 ⟨rfl, hb1⟩; have HB1 := Lib.hid hb1; clear hb1))
  go_returns
  exact ⟨rfl, HB1.out⟩
theorem MS.lit {w : World} {g : Nat} {F : List Mk} {cs : Array Value} (h : Row w g 23 cs) (n : Nat) (hc : cs.toList = fcells F) (hn : n = F.length) (hop : OpOk F) (hl : n ≤ 1000) : MS w (.slice (some ⟨g, 0, none⟩) n n) F := by
  subst hn
  refine ⟨hop, some ⟨g, 0, none⟩, F.length, rfl, Nat.le_refl _, by omega, fun _ => ⟨g, 0, rfl, h.lt, fun i m hi => ?_⟩⟩
  have key : ∀ j, j < 5 → w.cell? ⟨g, 0 + i * 5 + j, none⟩ = m.cells[j]? := fun j hj => by
    rw [h.cell, Nat.zero_add, ← Array.getElem?_toList, hc, fcells_get F i m hi j hj]
  exact ⟨key 0 (by omega), key 1 (by omega), key 2 (by omega), key 3 (by omega), key 4 (by omega)⟩
end Go.Proofs.YtcjblbhmajdmjaaDoor
