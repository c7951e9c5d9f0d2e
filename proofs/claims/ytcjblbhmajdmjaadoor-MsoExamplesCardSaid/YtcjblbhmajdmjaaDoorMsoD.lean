/- Contracts: wrap, Not, Bind of the package mso. -/
import Derived.Test.YtcjblbhmajdmjaaDoorMsoC
import Derived.Test.YtcjblbhmajdmjaaDoorApp
import Derived.Test.YtcjblbhmajdmjaaDoorTree
import Derived.Deep.RegionLaw
set_option linter.unusedSimpArgs false
set_option linter.unusedVariables false
namespace Go.Proofs.YtcjblbhmajdmjaaDoor
open Go.RowKit

/-- A formula or an error. -/
def RetFE (w : World) (f : List Mk) (e : Int) (en : Ending) (w' : World) : Prop := ∃ v, en = .returned (.tuple #[v, .int .i64 e]) ∧ Below w.heap.size w w' ∧ MO w' w.heap.size v f
def wrapS (f : List Mk) (m : Mk) : List Mk × Int := if formedS f then (if f.length = 64 then ([], 4) else (f ++ [{ m with a := f.length - 1 }], 0)) else ([], 2)

set_option maxRecDepth 100000 in
set_option maxHeartbeats 1000000 in
theorem wrap_any (f : List Mk) (v : Value) (m : Mk) (w : World) (hv : MS w v f) (h0 : 0 ≤ m.op) (h1 : m.op ≤ 255) :
    Calls Tryd.prog 48 #[v, .agg #[.int .u8 m.op, .int .i64 m.x, .int .i64 m.y, .int .i64 m.a, .int .i64 m.b]] w (RetFE w (wrapS f m).1 (wrapS f m).2) := by
  have HV := Lib.hid hv
  obtain ⟨hop, A, c, rfl, hc, hc2, hcell⟩ := hv
  clear hcell hop
  have hbx : Below w.heap.size w (w.alloc (.cells #[.int .u8 m.op, .int .i64 m.x, .int .i64 m.y, .int .i64 m.a, .int .i64 m.b] 23)) := Below.alloc (Below.refl _ _) (Nat.le_refl _) _
  have HBX := Lib.hid hbx; clear hbx
  obtain ⟨t, ht⟩ : ∃ t, t = formedS f := ⟨_, rfl⟩
  have HT := Lib.hid ht; clear ht
  cases t with
  | false =>
    go_enter Tryd.func48, Tryd.ntmps48
    go_wp2_with (go_at_call 43; go_must (refine (formed_any f _ _ (HV.out.below HBX.out (Nat.le_refl _))).mono ?_; rintro e w1 ⟨rfl, hb1⟩; rw [← HT.out]))
    go_returns
    exact ⟨_, by rw [wrapS, ← HT.out]; rfl, HBX.out.trans (hb1.mono (by simp)), by rw [wrapS, ← HT.out]; exact MO.nil _ _⟩
  | true =>
    have hl := formed_len f HT.out.symm
    obtain ⟨n, hn⟩ : ∃ n, n = f.length := ⟨_, rfl⟩
    rw [← hn] at hl HV ⊢
    have HN := Lib.hid hn; clear hn
    obtain ⟨hl1, hl2⟩ := hl
    by_cases h64 : n = 64
    · have h64' : ((n : Int) == 64) = true := by simp [h64]
      have H64 := Lib.hid h64; clear h64
      go_enter Tryd.func48, Tryd.ntmps48
      go_wp2_with (go_at_call 43; go_must (refine (formed_any f _ _ (HV.out.below HBX.out (Nat.le_refl _))).mono ?_; rintro e w1 ⟨rfl, hb1⟩; rw [← HT.out]))
      go_returns
      have e : wrapS f m = ([], 4) := by rw [wrapS, ← HT.out]; simp [← HN.out, H64.out]
      exact ⟨.slice none 0 0, by rw [e]; rfl, HBX.out.trans (hb1.mono (by simp)), by rw [e]; exact MO.nil _ _⟩
    · have h64' : ((n : Int) == 64) = false := by simp; omega
      have H64 := Lib.hid h64; clear h64
      go_enter Tryd.func48, Tryd.ntmps48
      go_wp2_with (go_at_call 43; go_must (refine (formed_any f _ _ (HV.out.below HBX.out (Nat.le_refl _))).mono ?_; rintro e w1 ⟨rfl, hb1⟩; rw [← HT.out]; have R := Lib.hid ((Row.new w _ _).below hb1 (by simp only [World.size_alloc]; omega)); obtain ⟨x0, x1, x2, HB1⟩ := after1 hb1; clear hb1))
      have E3 : Hid (wrapS f m = (f ++ [{ m with a := (n : Int) - 1 }], 0)) := by unfold Hid; rw [wrapS, ← HT.out, ← HN.out, if_pos rfl, if_neg H64.out]
      have R2 := Lib.hid (R.out.set 3 (.int .i64 ((n : Int) - 1)))
      go_region_law (first
        | (go_simp; go_at_call 51; refine (clone_any f _ _ (HV.out.below (B := w.heap.size) (by have hh := HB1.out; go_grown) (Nat.le_refl _)) (by rw [← HN.out]; omega)).mono ?_; rintro e w2 ⟨v1, rfl, hb2, ho1⟩; replace ho1 : MO w2 w.heap.size v1 f := ho1.mono (by have := HB1.out.size; simp only [World.size_alloc, World.size_setCell, World.size_drew]; omega); have hz2 : w.heap.size < w2.heap.size := (by have h1 := hb2.size; have h2 := HB1.out.size; simp only [World.size_alloc, World.size_setCell, World.size_drew] at h1; omega); have hbw : Hid (Below w.heap.size w w2) := (Below.trans (by have hh := HB1.out; go_grown) (hb2.mono (by simp only [World.size_alloc, World.size_setCell, World.size_drew]; omega))); have y0 : ∀ j, w2.cell? ⟨w.heap.size, j, none⟩ = #[Value.int .u8 m.op, .int .i64 m.x, .int .i64 m.y, .int .i64 (n - 1), .int .i64 m.b][j]? := (Row.below (by first | exact R2.out | exact R2.out.alloc _) hb2 (by simp only [World.size_alloc, World.size_setCell, World.size_drew]; omega)).cell; try go_simp)
        | (refine step_append_ms rfl (.tmp 19) (.tmp 21) rfl w.heap.size v1 f rfl (ho1.below (B' := w2.heap.size) (by go_grown) (Nat.le_refl _)) _ [{ m with a := (n : Int) - 1 }] rfl (MS.one (by first | exact Row.new _ _ _ | exact (Row.litd (by simp)).below hb2 (by simp only [World.size_alloc, World.size_setCell, World.size_drew]; omega)) h0 h1) (by simp only [List.length_cons, List.length_nil, ← HN.out]; omega) (by first | exact Nat.le_of_lt hz2 | (simp only [World.size_alloc, World.size_setCell, World.size_drew]; omega)) ?_; intro v3 w3 ho3 hg3 ht3))
      all_goals
        go_wp2
        go_returns
        refine ⟨v3, by rw [E3.out]; rfl, ?_, ?_⟩
        · have hh := hbw.out; exact own_below (v' := v3) (g := f) (by go_grown) (ho1.below (B' := w2.heap.size) (by go_grown) (Nat.le_refl _)) hg3 (by first | exact Nat.le_of_lt hz2 | (simp only [World.size_alloc, World.size_setCell, World.size_drew]; omega))
        · rw [E3.out]; exact ho3

set_option maxRecDepth 100000 in
set_option maxHeartbeats 1000000 in
theorem Not_any (f : List Mk) (v : Value) (w : World) (hv : MS w v f) : Calls Tryd.prog 15 #[v] w (RetFE w (wrapS f ⟨9, 0, 0, 0, 0⟩).1 (wrapS f ⟨9, 0, 0, 0, 0⟩).2) := by
  go_enter Tryd.func15, Tryd.ntmps15
  go_wp2_with (go_at_call 48; go_must (refine (wrap_any f _ ⟨9, 0, 0, 0, 0⟩ _ hv (by decide) (by decide)).mono ?_; rintro e w1 ⟨v1, rfl, hb1, ho1⟩))
  go_returns
  exact ⟨v1, rfl, hb1, ho1⟩

def bindS (op x : Int) (f : List Mk) : List Mk × Int := if isQ op = false then ([], 6) else if x < 0 ∨ 6 ≤ x then ([], 7) else wrapS f ⟨op, x, 0, 0, 0⟩
set_option maxRecDepth 100000 in
set_option maxHeartbeats 1000000 in
theorem Bind_any (op x : Int) (f : List Mk) (v : Value) (w : World) (hv : MS w v f) (h0 : 0 ≤ op) (h1 : op ≤ 255) : Calls Tryd.prog 17 #[.int .u8 op, .int .i64 x, v] w (RetFE w (bindS op x f).1 (bindS op x f).2) := by
  by_cases h2 : isQ op = false
  · go_enter Tryd.func17, Tryd.ntmps17
    go_wp2_with (go_at_call 50; go_must (refine (quant_any op _).mono ?_; rintro e w1 ⟨rfl, rfl⟩))
    go_returns
    have e : bindS op x f = ([], 6) := by rw [bindS, if_pos h2]
    exact ⟨.slice none 0 0, by rw [e]; rfl, Below.refl _ _, by rw [e]; exact MO.nil _ _⟩
  have h2 : isQ op = true := by simpa using h2
  by_cases h3 : x < 0 ∨ 6 ≤ x
  · have e : bindS op x f = ([], 7) := by rw [bindS, if_neg (by simp [h2]), if_pos h3]
    rw [e]
    rcases h3 with h3 | h3
    · go_enter Tryd.func17, Tryd.ntmps17
      go_wp2_with (go_at_call 50; go_must (refine (quant_any op _).mono ?_; rintro e w1 ⟨rfl, rfl⟩))
      go_returns
      exact ⟨.slice none 0 0, rfl, Below.refl _ _, MO.nil _ _⟩
    · have h4 : 0 ≤ x := by omega
      go_enter Tryd.func17, Tryd.ntmps17
      go_wp2_with (go_at_call 50; go_must (refine (quant_any op _).mono ?_; rintro e w1 ⟨rfl, rfl⟩))
      go_returns
      exact ⟨.slice none 0 0, rfl, Below.refl _ _, MO.nil _ _⟩
  · have e : bindS op x f = wrapS f ⟨op, x, 0, 0, 0⟩ := by rw [bindS, if_neg (by simp [h2]), if_neg h3]
    rw [e]
    have h4 : 0 ≤ x := by omega
    have h5 : x < 6 := by omega
    clear h3 e
    go_enter Tryd.func17, Tryd.ntmps17
    go_wp2_with (first
      | (go_at_call 50; go_must (refine (quant_any op _).mono ?_; rintro e w1 ⟨rfl, rfl⟩))
      | (go_at_call 48; go_must (refine (wrap_any f _ ⟨op, x, 0, 0, 0⟩ _ hv h0 h1).mono ?_; rintro e w1 ⟨v1, rfl, hb1, ho1⟩)))
    go_returns
    exact ⟨v1, rfl, hb1, ho1⟩
end Go.Proofs.YtcjblbhmajdmjaaDoor
