/- Contract: EqualTree of the verifier's kit. -/
import Derived.Test.YtahimlnddelnbaaDoorLfA
set_option linter.unusedSimpArgs false
set_option linter.unusedVariables false
namespace Go.Proofs.YtahimlnddelnbaaDoor
open Go.RowKit

theorem leaf_differs {x y : Lf} (h : x ≠ y) : x.label ≠ y.label ∨ (x.label = y.label ∧ x.left ≠ y.left) ∨ (x.label = y.label ∧ x.left = y.left ∧ x.right ≠ y.right) := by
  obtain ⟨a1, a2, a3⟩ := x
  obtain ⟨b1, b2, b3⟩ := y
  simp only [ne_eq, Lf.mk.injEq, not_and] at h ⊢
  omega

set_option maxRecDepth 100000 in
set_option maxHeartbeats 1000000 in
theorem equalTree (f g : List Lf) (v u : Value) (w : World) (hv : TS w v f) (hu : TS w u g) (hl : f.length ≤ 1000000) :
    Calls Tryd.prog 33 #[v, u] w fun e w' => e = .returned (.bool (decide (f = g))) ∧ Below w.heap.size w w' := by
  have HV := Lib.hid hv; have HU := Lib.hid hu
  obtain ⟨_, A, c, rfl, hc1, hc2, _⟩ := hv
  obtain ⟨_, A2, c2, rfl, hd1, hd2, _⟩ := hu
  obtain ⟨n, hn⟩ : ∃ n, n = f.length := ⟨_, rfl⟩
  obtain ⟨k2, hk2⟩ : ∃ k2, k2 = g.length := ⟨_, rfl⟩
  rw [← hn] at hc1 HV hl ⊢
  rw [← hk2] at hd1 HU ⊢
  have HN := Lib.hid hn; have HK := Lib.hid hk2
  by_cases hne : n = k2
  · subst hne
    clear hn hk2
    have hnn : ((n : Int) != n) = false := by simp
    obtain ⟨t, ht⟩ : ∃ t, t = decide (f = g) := ⟨_, rfl⟩
    rw [← ht]
    have HT := Lib.hid ht; clear ht
    go_enter Tryd.func33, Tryd.ntmps33
    go_wp2
    go_loopg [5] n (fun gk q wr => ∃ k : Nat, k ≤ n ∧ gk = n - k ∧ q = .int .i64 k ∧ Below w.heap.size w wr ∧ f.take k = g.take k)
    case atStart => exact ⟨0, Nat.zero_le _, rfl, rfl, Below.refl _ _, by simp⟩
    case round =>
      obtain ⟨k, hk, rfl, rfl, hb, heq⟩ := hrel
      have HB := Lib.hid hb; clear hb
      have HE := Lib.hid heq; clear heq
      by_cases hlt : k < n
      · obtain ⟨x, hx⟩ : ∃ x, f[k]? = some x := ⟨f[k]'(by rw [← HN.out]; exact hlt), List.getElem?_eq_getElem _⟩
        obtain ⟨y, hy⟩ : ∃ y, g[k]? = some y := ⟨g[k]'(by rw [← HK.out]; exact hlt), List.getElem?_eq_getElem _⟩
        have HVr := Lib.hid (HV.out.below HB.out (Nat.le_refl _))
        have HUr := Lib.hid (HU.out.below HB.out (Nat.le_refl _))
        obtain ⟨b, o, rfl⟩ := HV.out.addr (by rw [← HN.out]; omega)
        obtain ⟨b2, o2, rfl⟩ := HU.out.addr (by rw [← HK.out]; omega)
        obtain ⟨c0, c1, c2⟩ := HVr.out.at3 hx
        obtain ⟨d0, d1, d2⟩ := HUr.out.at3 hy
        have hiff := take_next_eq hx hy HE.out
        have HI := Lib.hid hiff; clear hiff
        have HX := Lib.hid hx; have HY := Lib.hid hy; clear hx hy
        by_cases hxy : x = y
        · subst hxy
          go_wp2
          go_region
          go_wp2
          go_roundg (n - (k + 1))
          case rel => exact ⟨k + 1, by omega, rfl, by go_num, HB.out.drew, HI.out.2 (by first | rfl | trivial)⟩
          case measure => omega
        · have hd := leaf_differs hxy
          have hfg : f ≠ g := fun h => hxy (HI.out.1 (by rw [h]))
          have hff : t = false := by rw [HT.out]; simp [hfg]
          have HFF := Lib.hid hff
          clear hxy hfg hff
          rcases hd with h1 | ⟨h1, h2⟩ | ⟨h1, h2, h3⟩
          all_goals
            go_wp2
            go_region
            go_wp2
            go_returns
            exact ⟨by rw [HFF.out]; rfl, HB.out.drew⟩
      · go_wp2
        go_returns
        refine ⟨?_, HB.out⟩
        have hkn : k = n := by omega
        have h := HE.out
        rw [hkn] at h
        rw [List.take_of_length_le (by rw [← HN.out]; exact Nat.le_refl _), List.take_of_length_le (by rw [← HK.out]; exact Nat.le_refl _)] at h
        rw [HT.out]; simp [h]
  · have hnn : ((n : Int) != k2) = true := by rw [bne_iff_ne]; omega
    have e : decide (f = g) = false := by
      rw [decide_eq_false_iff_not]; intro h; subst h; omega
    rw [e]
    clear hn hk2 e hne
    go_enter Tryd.func33, Tryd.ntmps33
    go_wp2
    go_returns
    exact ⟨rfl, Below.refl _ _⟩

end Go.Proofs.YtahimlnddelnbaaDoor
