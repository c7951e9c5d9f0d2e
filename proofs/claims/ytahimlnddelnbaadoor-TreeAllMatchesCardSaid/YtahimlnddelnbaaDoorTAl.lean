/- TreeAllMatches: for all numbers the law returns true. -/
import Derived.Test.YtahimlnddelnbaaDoorTLa
import Derived.Test.YtahimlnddelnbaaDoorRTk
set_option linter.unusedSimpArgs false
set_option linter.unusedVariables false
namespace Go.Proofs.YtahimlnddelnbaaDoor
open Go.RowKit

theorem all_small (vars n : Int) : ∀ x ∈ (allS vars n).1, x.length ≤ 31 := by
  intro x hx
  unfold allS at hx
  split at hx
  · simp at hx
  · split at hx
    · simp at hx
    · split at hx
      · simp at hx
      · obtain ⟨b, hb, rfl⟩ := List.mem_map.1 hx
        have := (mem_bts.1 hb).1
        simp only [Bt.enc_len]
        omega
theorem all_few (vars n : Int) : (allS vars n).1.length ≤ 4096 := by
  unfold allS
  split
  · simp
  · split
    · simp
    · split
      · simp
      · simp only [List.length_map, bts_len]; omega
set_option maxRecDepth 100000 in
set_option maxHeartbeats 8000000 in
theorem tall_any (haw : CAwake) (vars n : Int) (w : World) :
    Calls Tryd.prog 7 #[.int .i64 vars, .int .i64 n] w fun e w' => e = .returned (.bool true) ∧ Below w.heap.size w w' := by
  have HAW := Lib.hid haw
  have HA := Lib.hid (fun W => All_any vars n W)
  have HR := Lib.hid (fun W => rall_any vars n W)
  have HSM := Lib.hid (all_small vars n)
  have hfew := all_few vars n
  generalize allS vars n = X at *
  obtain ⟨L, k⟩ := X
  simp only at HSM hfew
  have HRA := Lib.hid (fun (W W' : World) (e : Ending) (h : AllE W (L, k) e W') => AR.of h L.length rfl)
  obtain ⟨M, hM⟩ : ∃ M, M = L.length := ⟨_, rfl⟩
  rw [← hM] at HRA hfew
  have HM := Lib.hid hM
  have HEQ := Lib.hid (fun (x : List Lf) (hx : x ∈ L) W u v (h1 : TS W u x) (h2 : TS W v x) => (show Calls Tryd.prog 33 #[u, v] W fun e w' => e = .returned (.bool true) ∧ Below W.heap.size W w' from by
    have q := equalTree x x u v W h1 h2 (by have := HSM.out x hx; omega)
    rw [show decide (x = x) = true by simp] at q
    exact q))
  clear haw hM
  go_enter Tryd.func7, Tryd.ntmps7
  go_wp2_with (first
    | (go_at_call 44; (with_reducible refine (HA.out _).mono ?_); rintro e w1 hx; obtain ⟨A1, c1, vs, rfl, hb, hq⟩ := HRA.out _ _ _ hx; have HX := Lib.hid hq; have HB := Lib.hid hb; clear hx hb hq)
    | (go_at_call 45; (with_reducible refine (HR.out _).mono ?_); rintro e w2 hx; obtain ⟨A2, c2, us, rfl, hb, hq⟩ := HRA.out _ _ _ hx; have HY := Lib.hid hq; replace HX := Lib.hid (HX.out.to hb); replace HB := Lib.hid (HB.out.trans (hb.mono HB.out.size)); clear hx hb hq))
  clear HA HR HRA
  obtain ⟨wc, hwc⟩ : ∃ x, x = w2 := ⟨_, rfl⟩
  subst hwc
  go_loopg [9] M (fun gk q wr => ∃ i : Nat, i ≤ M ∧ gk = M - i ∧ q = .int .i64 (i : Int) ∧ Below wc.heap.size wc wr)
  case atStart => exact ⟨0, by omega, rfl, rfl, Below.refl _ _⟩
  case round =>
    obtain ⟨i, hi, rfl, rfl, hbe⟩ := hrel
    have HBR := Lib.hid hbe
    have HXr := Lib.hid (HX.out.to hbe)
    have HYr := Lib.hid (HY.out.to hbe)
    clear hbe
    by_cases hlt : i < M
    · obtain ⟨x, hx⟩ : ∃ x, L[i]? = some x := ⟨L[i]'(by rw [← HM.out]; exact hlt), List.getElem?_eq_getElem _⟩
      obtain ⟨B1, d1, h1⟩ := HXr.out.at hx
      obtain ⟨B2, d2, h2⟩ := HYr.out.at hx
      obtain ⟨g1, o1, rfl, hg1⟩ := HXr.out.addr h1
      obtain ⟨g2, o2, rfl, hg2⟩ := HYr.out.addr h2
      have r1 := HXr.out.cell h1
      have r2 := HYr.out.cell h2
      have T1 := Lib.hid (HXr.out.2.2 i _ x h1 hx)
      have T2 := Lib.hid (HYr.out.2.2 i _ x h2 hx)
      have HE := Lib.hid (HEQ.out x (List.mem_of_getElem? hx))
      have hii : (i : Int) < M := by omega
      have hi0 : (0 : Int) ≤ (i : Int) := by omega
      clear hx h1 h2
      go_upto_region 8 with (fail)
      first
      | go_region_held3 (fun W => W.cell? ⟨g1, o1 + i, none⟩ = some (.slice B1 x.length d1) ∧ W.cell? ⟨g2, o2 + i, none⟩ = some (.slice B2 x.length d2)) (first | exact ⟨r1, r2⟩ | exact ⟨(HB3.out.cell (p := ⟨g1, _, none⟩) hg1).trans r1, (HB3.out.cell (p := ⟨g2, _, none⟩) hg2).trans r2⟩) ((go_at_call 33; refine (HE.out _ _ _ (by exact T1.out) (by exact T2.out)).mono ?_; rintro e w3 ⟨rfl, hb3⟩; have HB3 : Hid (Below wr.heap.size wr w3) := (⟨hb3.os, hb3.tape, hb3.output, hb3.size, hb3.block⟩ : Below wr.heap.size wr w3); clear hb3))
      | fail
      go_wp2_with fail
      go_roundg (M - (i + 1))
      case rel => exact ⟨i + 1, by omega, rfl, by go_num, HBR.out.trans (HB3.out.mono HBR.out.size)⟩
      case measure => omega
    · have hii : (M : Int) ≤ (i : Int) := by omega
      go_wp2_with (go_at_call 35; (with_reducible refine (HAW.out _).mono ?_); rintro e wy ⟨rfl, hb⟩)
      go_returns
      exact ⟨rfl, (HB.out.trans (HBR.out.mono HB.out.size)).trans (hb.mono (Nat.le_trans HB.out.size HBR.out.size))⟩
end Go.Proofs.YtahimlnddelnbaaDoor
