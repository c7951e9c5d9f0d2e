/- TreeLists: what All returns, plainly; slices of trees; the law where the list is too long. -/
import Derived.Test.YtahimlnddelnbaaDoorTMi
import Derived.Test.YtahimlnddelnbaaDoorAlT
import Derived.Test.YtahimlnddelnbaaDoorCod
import Derived.Deep.RegionHeld3
set_option linter.unusedSimpArgs false
set_option linter.unusedVariables false
namespace Go.Proofs.YtahimlnddelnbaaDoor
open Go.RowKit

theorem cnt_few : ∀ V < 4, ∀ N < 5, (4096 < cntF (2 ^ V) (2 * N + 1) 1 N ↔ V = 3 ∧ N = 4) ∧ (¬ (V = 3 ∧ N = 4) → cntF (2 ^ V) (2 * N + 1) 1 N ≤ 4096) := by decide +kernel
theorem all_e (V N : Nat) (hV : V < 4) (hN : N < 5) : allS V N = if V = 3 ∧ N = 4 then ([], 10) else ((btsS (2 ^ V) N).map fun b => b.enc 0, 0) := by
  have h := (cnt_few V hV N hN).1
  unfold allS
  rw [if_neg (by omega), if_neg (by omega), Int.toNat_natCast, Int.toNat_natCast]
  by_cases hc : V = 3 ∧ N = 4
  · rw [if_pos hc, if_pos (h.2 hc)]
  · rw [if_neg hc, if_neg (fun h' => hc (h.1 h'))]
theorem list_len (V N : Nat) (hV : V < 4) (hN : N < 5) : (allS V N).1.length ≤ 4096 := by
  rw [all_e V N hV hN]
  by_cases hc : V = 3 ∧ N = 4
  · rw [if_pos hc]; simp
  · rw [if_neg hc]
    simp only [List.length_map, bts_len]
    exact (cnt_few V hV N hN).2 hc
theorem list_mem {V N : Nat} (hV : V < 4) (hN : N < 5) (h : (allS V N).2 = 0) {x : List Lf} (hx : x ∈ (allS V N).1) : checkT x V = 0 ∧ x.length = N ∧ formedT x = true ∧ ∀ m ∈ x, 0 ≤ m.label := by
  rw [all_e V N hV hN] at h hx
  by_cases hc : V = 3 ∧ N = 4
  · rw [if_pos hc] at h; simp at h
  · rw [if_neg hc] at hx
    obtain ⟨b, hb, rfl⟩ := List.mem_map.1 hx
    obtain ⟨h1, h2⟩ := mem_bts.1 hb
    have hf := formed_bt b (by omega)
    obtain ⟨h3, h4⟩ := (lt_pow (V := V) (by omega)).1 h2
    have hl : (b.enc 0).length = N := by rw [Bt.enc_len]; exact h1
    refine ⟨?_, hl, hf, h3⟩
    unfold checkT
    rw [if_neg (by omega), if_neg (by omega), h4, hf]
    simp
theorem list_next {V N : Nat} (hV : V < 4) (hN : N < 5) (h : (allS V N).2 = 0) {i : Nat} {x y : List Lf} (hx : (allS V N).1[i]? = some x) (hy : (allS V N).1[i + 1]? = some y) : compareS x y = -1 := by
  obtain ⟨_, hl1, hf1, _⟩ := list_mem hV hN h (List.mem_of_getElem? hx)
  obtain ⟨_, hl2, hf2, _⟩ := list_mem hV hN h (List.mem_of_getElem? hy)
  rw [all_e V N hV hN] at h hx hy
  by_cases hc : V = 3 ∧ N = 4
  · rw [if_pos hc] at h; simp at h
  · rw [if_neg hc] at hx hy
    simp only [List.getElem?_map, Option.map_eq_some_iff] at hx hy
    obtain ⟨a, ha, rfl⟩ := hx
    obtain ⟨b, hb, rfl⟩ := hy
    have hs := bts_sorted (2 ^ V) N
    obtain ⟨la, ea⟩ := List.getElem?_eq_some_iff.1 ha
    obtain ⟨lb, eb⟩ := List.getElem?_eq_some_iff.1 hb
    have := List.pairwise_iff_getElem.1 hs i (i + 1) la lb (by omega)
    rw [ea, eb] at this
    unfold compareS
    rw [nf_of hf1, nf_of hf2, if_pos (by rw [hl1, hl2]; exact cmpI_zero.2 rfl), btOf_enc, btOf_enc]
    exact this
theorem list_has {V N : Nat} (hV : V < 4) (hN : N < 5) (h : (allS V N).2 = 0) {a : List Lf} (h0 : ∀ m ∈ a, 0 ≤ m.label) (hc : checkT a V = 0) (hl : a.length = N) : a ∈ (allS V N).1 := by
  have hf : formedT a = true ∧ a.any (badLabel V) = false := by
    unfold checkT at hc
    rw [if_neg (by omega), if_neg (by omega)] at hc
    cases hb : a.any (badLabel V) with
    | true => rw [hb] at hc; simp at hc
    | false =>
      rw [hb] at hc
      cases hf : formedT a with
      | true => exact ⟨rfl, rfl⟩
      | false => rw [hf] at hc; simp at hc
  rw [all_e V N hV hN] at h ⊢
  by_cases hc : V = 3 ∧ N = 4
  · rw [if_pos hc] at h; simp at h
  · rw [if_neg hc]
    obtain ⟨h31, hs, _, he⟩ := btOf_ok hf.1
    refine List.mem_map.2 ⟨btOf a, mem_bts.2 ⟨by omega, (lt_pow (by omega)).2 ⟨?_, ?_⟩⟩, he.symm⟩
    · rw [← he]; exact h0
    · rw [← he]; exact hf.2
/-- Slices of trees that can be read. -/
def AR (W : World) (ov : Value) (vs : List Value) (L : List (List Lf)) : Prop := VS W ov vs ∧ vs.length = L.length ∧ ∀ (i : Nat) (v : Value) (x : List Lf), vs[i]? = some v → L[i]? = some x → TS W v x
theorem AR.to {W X : World} {ov : Value} {vs : List Value} {L : List (List Lf)} (h : AR W ov vs L) (hb : Below W.heap.size W X) : AR X ov vs L :=
  ⟨h.1.below hb (Nat.le_refl _), h.2.1, fun i v x h1 h2 => (h.2.2 i v x h1 h2).to hb⟩
theorem AR.of {w W : World} {x : List (List Lf) × Int} {e : Ending} (h : AllE w x e W) (n : Nat) (hn : x.1.length = n) : ∃ A c vs, e = .returned (.tuple #[.slice A n c, .int .i64 x.2]) ∧ Below w.heap.size w W ∧ AR W (.slice A n c) vs x.1 := by
  obtain ⟨ov, vs, he, hb, hv, ht⟩ := h
  obtain ⟨A, c, rfl⟩ := hv.form
  rw [show vs.length = n from ht.1.trans hn] at he hv
  refine ⟨A, c, vs, he, hb, hv.vs, ht.1, fun i v y h1 h2 => ?_⟩
  obtain ⟨t, h3, h4⟩ := ht.2 i v h1
  rw [h3] at h2
  cases h2
  exact h4.ts
/-- The element at a place. -/
theorem AR.at {W : World} {A : Option Addr} {n c k : Nat} {vs : List Value} {L : List (List Lf)} {x : List Lf} (h : AR W (.slice A n c) vs L) (hx : L[k]? = some x) :
    ∃ A1 c1, vs[k]? = some (.slice A1 x.length c1) := by
  have hk : k < vs.length := by rw [h.2.1]; exact (List.getElem?_eq_some_iff.1 hx).1
  have := h.2.2 k _ x (List.getElem?_eq_getElem hk) hx
  obtain ⟨A1, c1, e⟩ := this.form
  exact ⟨A1, c1, by rw [List.getElem?_eq_getElem hk, e]⟩
theorem AR.cell {W : World} {b o n c k : Nat} {vs : List Value} {L : List (List Lf)} {v : Value} (h : AR W (.slice (some ⟨b, o, none⟩) n c) vs L) (hx : vs[k]? = some v) : W.cell? ⟨b, o + k, none⟩ = some v := h.1.at hx
theorem AR.addr {W : World} {A : Option Addr} {n c k : Nat} {vs : List Value} {L : List (List Lf)} {v : Value} (h : AR W (.slice A n c) vs L) (hx : vs[k]? = some v) : ∃ b o, A = some ⟨b, o, none⟩ ∧ b < W.heap.size :=
  h.1.addr (by have := (List.getElem?_eq_some_iff.1 hx).1; omega)
abbrev CChk (x : List Lf) (V k : Int) : Prop := ∀ W v, TS W v x → Calls Tryd.prog 23 #[v, .int .i64 V] W fun e w' => e = .returned (.int .i64 k) ∧ Below W.heap.size W w'
abbrev CCmp (a b : List Lf) (p : Int) : Prop := ∀ W v u, TS W v a → TS W u b → Calls Tryd.prog 38 #[v, u] W fun e w' => e = .returned (.int .i64 p) ∧ Below W.heap.size W w'
abbrev CEqB (a b : List Lf) (q : Bool) : Prop := ∀ W v u, TS W v a → TS W u b → Calls Tryd.prog 33 #[v, u] W fun e w' => e = .returned (.bool q) ∧ Below W.heap.size W w'
/-- Whether the tree was found among the first k. -/
def fnd (f0 : Bool) (L : List (List Lf)) (a : List Lf) (k : Nat) : Bool := f0 || (L.take k).any (fun x => decide (x = a))
theorem fnd_zero (f0 : Bool) (L : List (List Lf)) (a : List Lf) : fnd f0 L a 0 = f0 := by simp [fnd]
theorem fnd_succ {f0 : Bool} {L : List (List Lf)} {a x : List Lf} {k : Nat} (h : L[k]? = some x) : fnd f0 L a (k + 1) = (fnd f0 L a k || decide (x = a)) := by
  unfold fnd
  rw [any_take_snoc _ h, Bool.or_assoc]

theorem tmod_bd (a : Int) (n : Int) (h : 0 < n) : -(n - 1) ≤ a.tmod n ∧ a.tmod n ≤ n - 1 := by
  by_cases h0 : 0 ≤ a
  · rw [Int.tmod_eq_emod_of_nonneg h0]
    have := Int.emod_nonneg a (show n ≠ 0 by omega)
    have := Int.emod_lt_of_pos a h
    omega
  · obtain ⟨b, rfl⟩ : ∃ b, a = -b := ⟨-a, by omega⟩
    rw [Int.neg_tmod, Int.tmod_eq_emod_of_nonneg (by omega)]
    have := Int.emod_nonneg b (show n ≠ 0 by omega)
    have := Int.emod_lt_of_pos b h
    omega
theorem wrap_pred (j : Nat) (h : j < 4096) : IntKind.i64.wrap ((j : Int) + 1 - 1) = j := by
  rw [show (j : Int) + 1 - 1 = j by omega]
  exact IntWalk.i64_in _ (by omega)
set_option maxRecDepth 100000 in
set_option maxHeartbeats 16000000 in
theorem tlists_none (haw : CAwake) (a0 n0 : Int) (l : List Lf) (v : Value) (w : World) (hv : TS w v l) (V N : Nat) (hV4 : V < 4) (hN4 : N < 5)
    (hV : ((a0.tmod 4 + 4).tmod 4) = V) (hN : ((n0.tmod 5 + 5).tmod 5) = N) (ha0 : -9223372036854775808 ≤ a0) (ha1 : a0 ≤ 9223372036854775807) (hn0 : -9223372036854775808 ≤ n0) (hn1 : n0 ≤ 9223372036854775807)
    (hbad : V = 3 ∧ N = 4) :
    Calls Tryd.prog 14 #[.int .i64 a0, .int .i64 n0, v] w fun e w' => e = .returned (.bool true) ∧ Below w.heap.size w w' := by
  obtain ⟨rfl, rfl⟩ := hbad
  have HAL := Lib.hid (fun W => (show Calls Tryd.prog 44 #[.int .i64 3, .int .i64 4] W (AllE W ([], 10)) from by have q := All_any 3 4 W; rw [show allS 3 4 = ([], 10) from by have := all_e 3 4 (by omega) (by omega); simpa using this] at q; exact q))
  have HAW := Lib.hid haw
  obtain ⟨A0, c0, rfl⟩ := hv.form
  obtain ⟨h1, h2⟩ := tmod_bd a0 4 (by omega)
  obtain ⟨h3, h4⟩ := tmod_bd n0 5 (by omega)
  have hV' : ((a0.tmod 4 + 4).tmod 4) = 3 := hV
  have hN' : ((n0.tmod 5 + 5).tmod 5) = 4 := hN
  clear hV hN hv
  go_enter Tryd.func14, Tryd.ntmps14
  go_wp2_with (first
    | (go_at_call 44; (with_reducible refine (HAL.out _).mono ?_); rintro e wx hx; obtain ⟨A1, c1, vs, rfl, hb, ha⟩ := AR.of hx 0 rfl; have HB := Lib.hid hb; clear hx hb ha)
    | (go_at_call 35; (with_reducible refine (HAW.out _).mono ?_); rintro e wy ⟨rfl, hb⟩; replace HB := Lib.hid (HB.out.trans (hb.mono HB.out.size)); clear hb))
  go_returns
  exact ⟨rfl, HB.out⟩

theorem fnd_end {f0 : Bool} {L : List (List Lf)} {a : List Lf} (h : f0 = true ∨ a ∈ L) : fnd f0 L a L.length = true := by
  unfold fnd
  rcases h with h | h
  · rw [h]; rfl
  · rw [List.take_length]
    have : L.any (fun x => decide (x = a)) = true := List.any_eq_true.2 ⟨a, h, by simp⟩
    rw [this]; simp
end Go.Proofs.YtahimlnddelnbaaDoor
