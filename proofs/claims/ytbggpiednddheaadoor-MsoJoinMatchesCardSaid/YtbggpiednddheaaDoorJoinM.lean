/- MsoJoinMatches: for every operator and all pairs of formulas the law returns true. -/
import Derived.Test.YtbggpiednddheaaDoorRefD
import Derived.Test.YtbggpiednddheaaDoorRow
set_option linter.unusedSimpArgs false
set_option linter.unusedVariables false
namespace Go.Proofs.YtbggpiednddheaaDoor
open Go.RowKit

theorem joinS_len (op : Int) (f h : List Mk) (hf : f.length ≤ 70) (hh : h.length ≤ 70) : (joinS op f h).1.length ≤ 1000000 := by
  unfold joinS
  split
  · simp
  split
  · simp
  split
  · simp
  · simp only [List.length_append, List.length_map, List.length_singleton]; omega
theorem equal_true (f : List Mk) (hl : f.length ≤ 1000000) : ∀ W u x, MS W u f → MS W x f → Calls Tryd.prog 25 #[u, x] W fun e w' => e = .returned (.bool true) ∧ Below W.heap.size W w' := fun W u x h1 h2 => by
  have q := equalMSO f f u x W h1 h2 hl
  rw [decide_eq_true (rfl : f = f)] at q
  exact q

set_option maxRecDepth 100000 in
set_option maxHeartbeats 4000000 in
theorem joinm_any (op : Int) (f g : List Mk) (v u : Value) (w : World) (hv : MS w v f) (hu : MS w u g) (h0 : 0 ≤ op) (h1 : op ≤ 255) :
    Calls Tryd.prog 4 #[.int .u8 op, v, u] w fun e w' => e = .returned (.bool true) ∧ Below w.heap.size w w' := by
  have hff := fun W (hb : Below w.heap.size w W) => few_any f v W (hv.below hb (Nat.le_refl _))
  have hfg := fun W (hb : Below w.heap.size w W) => few_any g u W (hu.below hb (Nat.le_refl _))
  have hlf : (f.take 70).length ≤ 70 := by rw [List.length_take]; omega
  have hlg : (g.take 70).length ≤ 70 := by rw [List.length_take]; omega
  generalize f.take 70 = F at *
  generalize g.take 70 = G at *
  have hj := fun W a b (ha : MS W a F) (hb : MS W b G) => Join_any op F G a b W ha hb h0 h1
  have hrj := fun W a b (ha : MS W a F) (hb : MS W b G) => RJoin_any op F G a b W ha hb h0 h1
  have hjl := joinS_len op F G hlf hlg
  generalize (joinS op F G).1 = r at *
  generalize (joinS op F G).2 = er at *
  have HFF := Lib.hid hff; have HFG := Lib.hid hfg; have HJ := Lib.hid hj; have HRJ := Lib.hid hrj
  have HER := Lib.hid (equal_true r hjl); have HEF := Lib.hid (equal_true F (by omega)); have HEG := Lib.hid (equal_true G (by omega))
  clear hff hfg hj hrj hjl hlf hlg
  obtain ⟨_, A, c, rfl, _⟩ := hv
  obtain ⟨_, A2, c2, rfl, _⟩ := hu
  go_enter Tryd.func4, Tryd.ntmps4
  have HB0 : Hid (Below w.heap.size w w) := Below.refl _ _
  go_wp2_with (first
    | (go_at_call 13; (with_reducible refine (HFG.out _ HB1.out).mono ?_); rintro e w2 ⟨vb, rfl, hb, ho⟩; have H8 := Lib.hid ho.ms; replace H7 := Lib.hid (H7.out.below hb (Nat.le_refl _)); have HB2 := Lib.hid (HB1.out.trans (hb.mono HB1.out.size)); clear hb ho)
    | (go_at_call 13; (with_reducible refine (HFF.out _ HB0.out).mono ?_); rintro e w1 ⟨va, rfl, hb, ho⟩; have H7 := Lib.hid ho.ms; have HB1 := Lib.hid hb; clear hb ho))
  go_loopg [9] 2 (fun gk q wr => ∃ j : Nat, j ≤ 2 ∧ gk = 2 - j ∧ q = .int .i64 j ∧ Below w.heap.size w wr ∧ MS wr va F ∧ MS wr vb G)
  case atStart => exact ⟨0, by omega, rfl, rfl, HB2.out, H7.out, H8.out⟩
  case round =>
    obtain ⟨j, hj, rfl, rfl, hb, h7, h8⟩ := hrel
    clear H7 H8
    have HBW := Lib.hid hb; have H7 := Lib.hid h7; have H8 := Lib.hid h8
    clear hb h7 h8
    by_cases hlt : j < 2
    · go_wp2_with (first
        | (go_at_call 29; go_must (refine (HJ.out _ _ _ H7.out H8.out).mono ?_; rintro e w5 ⟨v5, rfl, hb, ho⟩; have HX := Lib.hid ho; have HBR := Lib.hid hb; clear hb ho))
        | (go_at_call 30; go_must (refine (HRJ.out _ _ _ (H7.out.below HBR.out (Nat.le_refl _)) (H8.out.below HBR.out (Nat.le_refl _))).mono ?_; rintro e w6 ⟨v6, rfl, hb, ho⟩; have HY := Lib.hid ho.ms; replace HX := Lib.hid (HX.out.below hb (Nat.le_refl _)); replace HBR := Lib.hid (HBR.out.trans (hb.mono HBR.out.size)); clear hb ho))
        | (go_at_call 25; (with_reducible refine (HEG.out _ _ _ (H8.out.below HBR.out (Nat.le_refl _)) HG2.out).mono ?_); rintro e w7 ⟨rfl, hb⟩; replace HX := Lib.hid (HX.out.below hb (Nat.le_refl _)); replace HBR := Lib.hid (HBR.out.trans (hb.mono HBR.out.size)); clear hb)
        | (go_at_call 25; (with_reducible refine (HEF.out _ _ _ (H7.out.below HBR.out (Nat.le_refl _)) HF2.out).mono ?_); rintro e w7 ⟨rfl, hb⟩; replace HX := Lib.hid (HX.out.below hb (Nat.le_refl _)); replace HBR := Lib.hid (HBR.out.trans (hb.mono HBR.out.size)); clear hb)
        | (go_at_call 25; (with_reducible refine (HER.out _ _ _ HX.out.ms HY.out).mono ?_); rintro e w7 ⟨rfl, hb⟩; replace HX := Lib.hid (HX.out.below hb (Nat.le_refl _)); replace HBR := Lib.hid (HBR.out.trans (hb.mono HBR.out.size)); clear hb)
        | (go_at_call 13; (with_reducible refine (HFF.out _ (HBW.out.trans (HBR.out.mono HBW.out.size))).mono ?_); rintro e w8 ⟨v8, rfl, hb, ho⟩; have HF2 := Lib.hid ho.ms; replace HX := Lib.hid (HX.out.below hb (Nat.le_refl _)); replace HBR := Lib.hid (HBR.out.trans (hb.mono HBR.out.size)); clear hb ho)
        | (go_at_call 13; (with_reducible refine (HFG.out _ (HBW.out.trans (HBR.out.mono HBW.out.size))).mono ?_); rintro e w9 ⟨v9, rfl, hb, ho⟩; have HG2 := Lib.hid ho.ms; replace HX := Lib.hid (HX.out.below hb (Nat.le_refl _)); replace HBR := Lib.hid (HBR.out.trans (hb.mono HBR.out.size)); clear hb ho)
        | (go_at_call 27; go_must (refine (over_mso r _ _ _ HX.out HBR.out.size).mono ?_; rintro e w10 ⟨rfl, hb⟩; replace HBR := Lib.hid (HBR.out.trans hb); clear hb)))
      go_roundg (2 - (j + 1))
      case rel => exact ⟨j + 1, by omega, rfl, by go_num, HBW.out.trans (HBR.out.mono HBW.out.size), H7.out.below HBR.out (Nat.le_refl _), H8.out.below HBR.out (Nat.le_refl _)⟩
      case measure => omega
    · go_wp2_with (go_at_call 28; go_must (refine (awake_any _).mono ?_; rintro e w11 ⟨rfl, hb⟩; replace HBW := Lib.hid (HBW.out.trans (hb.mono HBW.out.size)); clear hb))
      go_returns
      exact ⟨rfl, HBW.out⟩
end Go.Proofs.YtbggpiednddheaaDoor
