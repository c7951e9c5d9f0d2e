/- TreeRound: for every tree the law returns true. -/
import Derived.Test.YtahimlnddelnbaaDoorAw15
set_option linter.unusedSimpArgs false
set_option linter.unusedVariables false
namespace Go.Proofs.YtahimlnddelnbaaDoor
open Go.RowKit

theorem sb_mk (l : List UInt8) : sb ⟨l.toArray⟩ = l := rfl
set_option maxRecDepth 100000 in
set_option maxHeartbeats 2000000 in
theorem tround_walk (t : List Lf) (v : Value) (w : World) (hv : TS w v t) :
    Calls Tryd.prog 8 #[v] w fun e w' => e = .returned (.bool true) ∧ Below w.heap.size w w' := by
  have HV := Lib.hid hv
  have hlb : ∀ m ∈ t.take 40, 0 ≤ m.label := fun m hm => (hv.lb m (List.mem_of_mem_take hm)).1
  obtain ⟨A0, c0, rfl⟩ := hv.form
  have hfew := fun W (h : TS W (.slice A0 t.length c0) t) => few15_any t _ W h
  obtain ⟨a, ha⟩ : ∃ a, a = t.take 40 := ⟨_, rfl⟩
  have hal : a.length ≤ 1000000 := by rw [ha, List.length_take]; omega
  rw [← ha] at hfew hlb
  obtain ⟨n, hn⟩ : ∃ n, n = t.length := ⟨_, rfl⟩
  rw [← hn] at hfew HV ⊢
  have HF := Lib.hid hfew
  have hfm := fun W v (h : TS W v a) => Format_any a v W h
  have hck := fun W v (h : TS W v a) => TreeCheck_any a v 3 W h
  have hfc := format_check a hlb
  have HAW := Lib.hid (fun W => awake15 W)
  obtain ⟨m, hm⟩ : ∃ m, m = a.length := ⟨_, rfl⟩
  have hto := fun W v W' (h : RetTO W a v W') => ret_to (t := a) m hm.symm h
  have HTO := Lib.hid hto
  by_cases h0 : (formatT a).2 = 0
  · have hc := hfc.1 h0
    have hrl := round_law hlb h0
    have hrd : ∀ W u, TS W u a → Calls Tryd.prog 46 #[.string ⟨(formatT a).1.toArray⟩, u, .int .i64 0, .int .i64 0] W fun e w' => e = .returned (.bool true) ∧ Below W.heap.size W w' := fun W u h => by
      have q := reads_any ⟨(formatT a).1.toArray⟩ a u 0 0 W h
      rw [sb_mk, hrl, show readsB (a, 0, 0) a 0 0 = true by simp [readsB]] at q
      exact q
    rw [hc] at hck
    rw [h0] at hfm
    obtain ⟨X, hX⟩ : ∃ X : ByteArray, X = ⟨(formatT a).1.toArray⟩ := ⟨_, rfl⟩
    rw [← hX] at hrd hfm
    have HFM := Lib.hid hfm; have HCK := Lib.hid hck; have HRD := Lib.hid hrd
    clear hfew hfm hck hfc hc hrl hrd hX hlb ha hn hto hm h0
    go_enter Tryd.func8, Tryd.ntmps8
    go_wp2_with (first
      | (go_at_call 35; (with_reducible refine (HAW.out _).mono ?_); rintro e w1 ⟨rfl, hb⟩; have HB := Lib.hid hb; clear hb)
      | (go_at_call 22; (with_reducible refine (HF.out _ (HV.out.to HB.out)).mono ?_); rintro e w2 hx; obtain ⟨A1, c1, rfl, hb, hq⟩ := HTO.out _ _ _ hx; have HQ := Lib.hid hq; replace HB := Lib.hid (chainL HB.out (Below.refl _ _) hb); clear hb hq hx)
      | (go_at_call 40; (with_reducible refine (HFM.out _ _ HQ.out).mono ?_); rintro e w3 ⟨rfl, hb⟩; replace HQ := Lib.hid (HQ.out.to hb); replace HB := Lib.hid (chainL HB.out (Below.refl _ _) hb); clear hb)
      | (go_at_call 23; (with_reducible refine (HCK.out _ _ HQ.out).mono ?_); rintro e w4 ⟨rfl, hb⟩; replace HQ := Lib.hid (HQ.out.to hb); replace HB := Lib.hid (chainL HB.out (Below.refl _ _) hb); clear hb)
      | (go_at_call 46; (with_reducible refine (HRD.out _ _ HQ.out).mono ?_); rintro e w5 ⟨rfl, hb⟩; replace HB := Lib.hid (chainL HB.out (Below.refl _ _) hb); clear hb))
    go_returns
    exact ⟨rfl, HB.out⟩
  · have hbad := format_bad h0
    have hc : checkT a 3 ≠ 0 := fun h => h0 (hfc.2 h)
    rw [hbad] at hfm
    obtain ⟨k, hk⟩ : ∃ k, k = (formatT a).2 := ⟨_, rfl⟩
    obtain ⟨j, hj⟩ : ∃ j, j = checkT a 3 := ⟨_, rfl⟩
    rw [← hk] at hfm h0
    rw [← hj] at hck hc
    have k1 : (k != 0) = true := by simp [h0]
    have j1 : (j != 0) = true := by simp [hc]
    have HFM := Lib.hid (show ∀ W v, TS W v a → Calls Tryd.prog 40 #[v] W fun e w' => e = .returned (.tuple #[.string { data := #[] }, .int .i64 k]) ∧ Below W.heap.size W w' from hfm)
    have HCK := Lib.hid hck
    clear hfew hfm hck hfc hc hlb ha hn hto hm h0 hbad hk hj
    go_enter Tryd.func8, Tryd.ntmps8
    go_wp2_with (first
      | (go_at_call 35; (with_reducible refine (HAW.out _).mono ?_); rintro e w1 ⟨rfl, hb⟩; have HB := Lib.hid hb; clear hb)
      | (go_at_call 22; (with_reducible refine (HF.out _ (HV.out.to HB.out)).mono ?_); rintro e w2 hx; obtain ⟨A1, c1, rfl, hb, hq⟩ := HTO.out _ _ _ hx; have HQ := Lib.hid hq; replace HB := Lib.hid (chainL HB.out (Below.refl _ _) hb); clear hb hq hx)
      | (go_at_call 40; (with_reducible refine (HFM.out _ _ HQ.out).mono ?_); rintro e w3 ⟨rfl, hb⟩; replace HQ := Lib.hid (HQ.out.to hb); replace HB := Lib.hid (chainL HB.out (Below.refl _ _) hb); clear hb)
      | (go_at_call 23; (with_reducible refine (HCK.out _ _ HQ.out).mono ?_); rintro e w4 ⟨rfl, hb⟩; replace HQ := Lib.hid (HQ.out.to hb); replace HB := Lib.hid (chainL HB.out (Below.refl _ _) hb); clear hb))
    go_returns
    exact ⟨rfl, HB.out⟩
end Go.Proofs.YtahimlnddelnbaaDoor
