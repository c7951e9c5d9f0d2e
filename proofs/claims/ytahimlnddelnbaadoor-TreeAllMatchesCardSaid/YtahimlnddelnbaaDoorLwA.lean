/- Helpers of the statements of chapter 15: few, node, reads, is, sound. -/
import Derived.Test.YtahimlnddelnbaaDoorTpA
import Derived.Test.YtahimlnddelnbaaDoorEqT
import Derived.Test.YtahimlnddelnbaaDoorTlP
set_option linter.unusedSimpArgs false
set_option linter.unusedVariables false
namespace Go.Proofs.YtahimlnddelnbaaDoor
open Go.RowKit

theorem take_minL {α : Type} (f : List α) (n k : Nat) (hn : n = f.length) : f.take (min (n : Int) (k : Int)).toNat = f.take k := by
  by_cases h : n ≤ k
  · rw [List.take_of_length_le (by omega), List.take_of_length_le (by omega)]
  · rw [show (min (n : Int) (k : Int)).toNat = k by omega]
theorem TS.litT {w : World} {g : Nat} (t : List Lf) (hl : t.length ≤ 1000) (hb : LbOk t) (h : Row w g 65 (lcells t).toArray) : TS w (.slice (some ⟨g, 0, none⟩) t.length t.length) t := by
  refine ⟨hb, some ⟨g, 0, none⟩, t.length, rfl, Nat.le_refl _, by omega, fun _ => ⟨g, 0, rfl, h.lt, fun i m hi => ?_⟩⟩
  have key : ∀ j, j < 3 → w.cell? ⟨g, 0 + i * 3 + j, none⟩ = m.cells[j]? := fun j hj => by
    rw [h.cell, Nat.zero_add, ← Array.getElem?_toList, lcells_get t i m hi j hj]
  exact ⟨key 0 (by omega), key 1 (by omega), key 2 (by omega)⟩
set_option maxRecDepth 100000 in
set_option maxHeartbeats 400000 in
theorem few15_any (f : List Lf) (v : Value) (w : World) (hv : TS w v f) : Calls Tryd.prog 22 #[v] w (RetTO w (f.take 40)) := by
  have HV := Lib.hid hv
  obtain ⟨_, A, c, rfl, hc1, hc2, _⟩ := hv
  obtain ⟨n, hn⟩ : ∃ n, n = f.length := ⟨_, rfl⟩
  rw [← hn] at hc1 HV ⊢
  have hcp := fun W (hW : TS W (.slice A n c) f) => copy_tree (f.take (min (n : Int) 40).toNat) _ W (hW.cut (min (n : Int) 40).toNat (by omega) A (fun _ => rfl)) (by rw [List.length_take]; omega)
  rw [show (40 : Int) = ((40 : Nat) : Int) from rfl] at hcp
  rw [take_minL f n 40 hn] at hcp
  have HCP := Lib.hid hcp; clear hcp hn
  go_enter Tryd.func22, Tryd.ntmps22
  go_wp2_with (go_at_call 74; go_must (refine (HCP.out _ HV.out).mono ?_; rintro e w1 ⟨v1, rfl, hb1, ho1⟩))
  go_returns
  exact ⟨v1, rfl, hb1, ho1⟩

set_option maxRecDepth 100000 in
set_option maxHeartbeats 1000000 in
theorem node_any (lab : Int) (l r : List Lf) (v u : Value) (w : World) (hv : TS w v l) (hu : TS w u r) (h0 : 0 ≤ lab) (h1 : lab ≤ 255) :
    Calls Tryd.prog 84 #[.int .u8 lab, v, u] w (RetTO w (joinE lab l r).1) := by
  have hj := TJoin_any lab l r v u w hv hu h0 h1
  generalize joinE lab l r = R at *
  have HJ := Lib.hid hj
  obtain ⟨A, c, rfl⟩ := hv.form
  obtain ⟨A2, d, rfl⟩ := hu.form
  clear hj hv hu
  go_enter Tryd.func84, Tryd.ntmps84
  go_wp2_with (go_at_call 36; go_must (refine HJ.out.mono ?_; rintro e w1 ⟨v1, rfl, hb1, ho1⟩))
  go_returns
  exact ⟨v1, rfl, hb1, ho1⟩

theorem is_bool (a : Bool) (x y : Int) (R : Bool) (h : R = (a && (x == y))) : a = false ∧ R = false ∨ a = true ∧ R = (x == y) := by
  cases a <;> simp [h]
set_option maxRecDepth 100000 in
set_option maxHeartbeats 1000000 in
theorem is_any (l r : List Lf) (v u : Value) (e f : Int) (w : World) (hv : TS w v l) (hu : TS w u r) (hl : l.length ≤ 1000000) :
    Calls Tryd.prog 48 #[v, .int .i64 e, u, .int .i64 f] w fun en w' => en = .returned (.bool (decide (l = r) && (e == f))) ∧ Below w.heap.size w w' := by
  have hq := equalTree l r v u w hv hu hl
  generalize decide (l = r) = q at *
  have HQ := Lib.hid hq
  obtain ⟨A, c, rfl⟩ := hv.form
  obtain ⟨A2, d, rfl⟩ := hu.form
  clear hq hv hu
  cases q
  all_goals
    go_enter Tryd.func48, Tryd.ntmps48
    go_wp2_with (go_at_call 33; go_must (refine HQ.out.mono ?_; rintro en w1 ⟨rfl, hb1⟩; have HB := Lib.hid hb1; clear hb1))
    go_returns
    exact ⟨by simp, HB.out⟩

theorem parse_len (s : List UInt8) : (parseT s).1.length ≤ 31 := by
  by_cases h : (parseT s).2.2 = 0
  · obtain ⟨b, _, hs, _, e⟩ := parse_ok h
    rw [e]
    show (b.enc 0).length ≤ 31
    rw [Bt.enc_len]; exact hs
  · by_cases hl : s.length ≤ 4096
    · rw [(parse_bad hl h).1]; simp
    · unfold parseT
      rw [if_pos (by omega)]; simp
def readsB (r : List Lf × Nat × Int) (t : List Lf) (at' e : Int) : Bool := decide (r.1 = t) && ((r.2.1 : Int) == at') && (r.2.2 == e)
set_option maxRecDepth 100000 in
set_option maxHeartbeats 1000000 in
theorem reads_any (S : ByteArray) (t : List Lf) (u : Value) (at' e : Int) (w : World) (hu : TS w u t) :
    Calls Tryd.prog 46 #[.string S, u, .int .i64 at', .int .i64 e] w fun en w' =>
      en = .returned (.bool (readsB (parseT (sb S)) t at' e)) ∧ Below w.heap.size w w' := by
  have hp := Parse_tree S w
  have hl := parse_len (sb S)
  obtain ⟨A2, d, rfl⟩ := hu.form
  have HU := Lib.hid hu
  generalize parseT (sb S) = R at *
  obtain ⟨r, p, k⟩ := R
  have HP := Lib.hid hp
  have hq := fun v W (h1 : TS W v r) (h2 : TS W (.slice A2 t.length d) t) => equalTree r t v (.slice A2 t.length d) W h1 h2 (by simp only at hl; omega)
  unfold readsB
  simp only
  obtain ⟨q, hqq⟩ : ∃ q, q = decide (r = t) := ⟨_, rfl⟩
  rw [← hqq] at hq ⊢
  have HQ := Lib.hid hq
  clear hp hu hq hl hqq
  cases q
  · go_enter Tryd.func46, Tryd.ntmps46
    go_wp2_with (first
      | (go_at_call 42; go_must (refine HP.out.mono ?_; rintro en w1 ⟨v1, rfl, hb1, ho1⟩; have HB := Lib.hid hb1; have HO := Lib.hid ho1.ts; clear hb1 ho1))
      | (go_at_call 33; go_must (refine (HQ.out _ _ HO.out (HU.out.below HB.out (Nat.le_refl _))).mono ?_; rintro en w2 ⟨rfl, hb1⟩; replace HB := Lib.hid (HB.out.trans (hb1.mono HB.out.size)); clear hb1)))
    go_returns
    exact ⟨by simp, HB.out⟩
  · cases hk : ((p : Int) == at')
    all_goals
      go_enter Tryd.func46, Tryd.ntmps46
      go_wp2_with (first
        | (go_at_call 42; go_must (refine HP.out.mono ?_; rintro en w1 ⟨v1, rfl, hb1, ho1⟩; have HB := Lib.hid hb1; have HO := Lib.hid ho1.ts; clear hb1 ho1))
        | (go_at_call 33; go_must (refine (HQ.out _ _ HO.out (HU.out.below HB.out (Nat.le_refl _))).mono ?_; rintro en w2 ⟨rfl, hb1⟩; replace HB := Lib.hid (HB.out.trans (hb1.mono HB.out.size)); clear hb1)))
      go_returns
      exact ⟨by simp, HB.out⟩

set_option maxRecDepth 100000 in
set_option maxHeartbeats 1000000 in
theorem sound_any (t : List Lf) (v : Value) (w : World) (hv : TS w v t) :
    Calls Tryd.prog 47 #[v] w fun en w' => en = .returned (.bool (formedT t)) ∧ Below w.heap.size w w' := by
  rw [← sound_formed]
  have HV := Lib.hid hv
  have hc := fun W (hW : TS W v t) => TreeCheck_any t v 3 W hW
  have hs := fun W (hW : TS W v t) => Size_any t v W hW
  obtain ⟨A, c, rfl⟩ := hv.form
  unfold soundS
  obtain ⟨k, hk⟩ : ∃ k, k = checkT t 3 := ⟨_, rfl⟩
  obtain ⟨z, hz⟩ : ∃ z, z = sizeS t := ⟨_, rfl⟩
  obtain ⟨n, hn⟩ : ∃ n, n = t.length := ⟨_, rfl⟩
  rw [← hk] at hc ⊢
  rw [← hz] at hs ⊢
  rw [← hn] at hc hs HV ⊢
  have HC := Lib.hid hc; have HS := Lib.hid hs
  clear hc hs hv hk hz hn
  by_cases h0 : k = 0
  · subst h0
    go_enter Tryd.func47, Tryd.ntmps47
    go_wp2_with (go_at_call 23; go_must (refine (HC.out _ HV.out).mono ?_; rintro en w1 ⟨rfl, hb1⟩; have HB := Lib.hid hb1; clear hb1))
    go_returns
    exact ⟨by simp, HB.out⟩
  · have k0 : (k == 0) = false := by simp [h0]
    by_cases h1 : k = 1
    · subst h1
      by_cases hn : 0 < n
      · have hni : (0 : Int) < n := by omega
        go_enter Tryd.func47, Tryd.ntmps47
        go_wp2_with (first
          | (go_at_call 23; go_must (refine (HC.out _ HV.out).mono ?_; rintro en w1 ⟨rfl, hb1⟩; have HB := Lib.hid hb1; clear hb1))
          | (go_at_call 27; go_must (refine (HS.out _ (HV.out.below HB.out (Nat.le_refl _))).mono ?_; rintro en w2 ⟨rfl, hb1⟩; replace HB := Lib.hid (HB.out.trans (hb1.mono HB.out.size)); clear hb1)))
        go_returns
        exact ⟨ret_bool (by simp [hn]; omega), HB.out⟩
      · have hni : (n : Int) ≤ 0 := by omega
        go_enter Tryd.func47, Tryd.ntmps47
        go_wp2_with (go_at_call 23; go_must (refine (HC.out _ HV.out).mono ?_; rintro en w1 ⟨rfl, hb1⟩; have HB := Lib.hid hb1; clear hb1))
        go_returns
        exact ⟨ret_bool (by simp [hn]), HB.out⟩
    · have k1 : (k == 1) = false := by simp [h1]
      go_enter Tryd.func47, Tryd.ntmps47
      go_wp2_with (go_at_call 23; go_must (refine (HC.out _ HV.out).mono ?_; rintro en w1 ⟨rfl, hb1⟩; have HB := Lib.hid hb1; clear hb1))
      go_returns
      exact ⟨ret_bool (by simp [h0, h1]), HB.out⟩
end Go.Proofs.YtahimlnddelnbaaDoor
