/- Reference of chapter 15: block, left, right, join. -/
import Derived.Test.YtahimlnddelnbaaDoorTrC
import Derived.Test.YtahimlnddelnbaaDoorTdA
import Derived.Test.YtahimlnddelnbaaDoorTlP
import Derived.Test.YtahimlnddelnbaaDoorVal
set_option linter.unusedSimpArgs false
set_option linter.unusedVariables false
namespace Go.Proofs.YtahimlnddelnbaaDoor
open Go.RowKit

theorem shift_cut {t : List Lf} {x : Lf} {i k : Nat} (d : Int) (hx : t[k]? = some x) (hi : i ≤ k) : shiftS d ((t.drop i).take (k + 1 - i)) = shiftS d ((t.drop i).take (k - i)) ++ [shL d x] := by
  rw [show k + 1 - i = (k - i) + 1 by omega, List.take_add_one, List.getElem?_drop, show i + (k - i) = k by omega, hx]
  simp [shiftS]
def KidBd (t : List Lf) : Prop := ∀ x ∈ t, (-1 ≤ x.left ∧ x.left ≤ 1000) ∧ (-1 ≤ x.right ∧ x.right ≤ 1000)
theorem kid_bd {t : List Lf} (h : formedT t = true) : KidBd t := by
  intro x hx
  obtain ⟨i, hi⟩ := List.mem_iff_getElem?.1 hx
  have h31 := (btOf_ok h).1
  obtain ⟨h1, h2⟩ := kids_ok h i x hi
  constructor
  · rcases h1 with h1 | h1 <;> omega
  · rcases h2 with h2 | h2 <;> omega
set_option maxRecDepth 100000 in
set_option maxHeartbeats 8000000 in
theorem rblock_in (t : List Lf) (v : Value) (i m : Nat) (w : World) (hv : TS w v t) (hl : t.length ≤ 1000) (he : endS t i = some m) (hk : KidBd t) :
    Calls Tryd.prog 81 #[v, .int .i64 i] w (RetTO w (shiftS (-(i : Int)) ((t.drop i).take (m - i)))) := by
  obtain ⟨him, hml⟩ := endS_gt he
  have HE := Lib.hid (fun W (h : TS W v t) => (show Calls Tryd.prog 143 #[v, .int .i64 i] W fun e w' => e = .returned (.int .i64 (m : Int)) ∧ W = w' from by have q := rend_any t v hl _ i W (Nat.le_refl _) (by omega) h; rw [he] at q; exact q))
  have HV := Lib.hid hv
  obtain ⟨A, c, rfl⟩ := hv.form
  obtain ⟨n, hn⟩ : ∃ n, n = t.length := ⟨_, rfl⟩
  rw [← hn] at HV HE hml hl ⊢
  have HN := Lib.hid hn
  have HK := Lib.hid hk
  clear hv hn hk he
  go_enter Tryd.func81, Tryd.ntmps81
  go_wp2
  go_loopg [5, 6] (m - i) (fun gk q s wr => ∃ k : Nat, i ≤ k ∧ k ≤ m ∧ gk = m - k ∧ s = .int .i64 k ∧ Below w.heap.size w wr ∧ TO wr w.heap.size q (shiftS (-(i : Int)) ((t.drop i).take (k - i))))
  case atStart => exact ⟨i, Nat.le_refl _, by omega, rfl, rfl, Below.refl _ _, by rw [Nat.sub_self, List.take_zero]; exact TO.nil _ _⟩
  case round =>
    obtain ⟨k, hik, hkm, rfl, rfl, hbe, hto⟩ := hrel
    have HB := Lib.hid hbe; have HO := Lib.hid hto
    have HVr := Lib.hid (HV.out.below hbe (Nat.le_refl _))
    clear hbe hto
    by_cases hlt : k < m
    · obtain ⟨x, hx⟩ : ∃ x, t[k]? = some x := ⟨t[k]'(by rw [← HN.out]; omega), List.getElem?_eq_getElem _⟩
      have hkn : k < n := by omega
      obtain ⟨l1, l2⟩ := HV.out.lb x (List.mem_of_getElem? hx)
      obtain ⟨⟨b1, b2⟩, b3, b4⟩ := HK.out x (List.mem_of_getElem? hx)
      obtain ⟨b, o, rfl⟩ := HVr.out.addr (by rw [← HN.out]; omega)
      obtain ⟨c0, c1, c2⟩ := HVr.out.at3 hx
      have HS := Lib.hid (shift_cut (-(i : Int)) hx hik)
      obtain ⟨cur, hcur⟩ : ∃ c, c = shiftS (-(i : Int)) ((t.drop i).take (k - i)) := ⟨_, rfl⟩
      have hcl : cur.length ≤ 1000 := by rw [hcur, shiftS_len, List.length_take]; omega
      rw [← hcur] at HO HS
      obtain ⟨lb, xl, xr⟩ := x
      simp only at c0 c1 c2 l1 l2 b1 b2 b3 b4
      obtain ⟨ml, hml'⟩ : ∃ z, z = mvd xl (-(i : Int)) := ⟨_, rfl⟩
      obtain ⟨mr, hmr'⟩ : ∃ z, z = mvd xr (-(i : Int)) := ⟨_, rfl⟩
      have HS2 : Hid (shiftS (-(i : Int)) ((t.drop i).take (k + 1 - i)) = cur ++ [⟨lb, ml, mr⟩]) := by rw [Hid, HS.out, hml', hmr']; rfl
      have hcase : ((xl != -1) = false ∧ xl = -1 ∧ ml = -1) ∨ ((xl != -1) = true ∧ ml = xl - i) := by
        by_cases h : xl = -1
        · exact .inl ⟨by rw [h]; decide, h, by rw [hml', h]; rfl⟩
        · exact .inr ⟨by simp [h], by rw [hml']; unfold mvd; rw [if_neg h]; omega⟩
      have hcase2 : ((xr != -1) = false ∧ xr = -1 ∧ mr = -1) ∨ ((xr != -1) = true ∧ mr = xr - i) := by
        by_cases h : xr = -1
        · exact .inl ⟨by rw [h]; decide, h, by rw [hmr', h]; rfl⟩
        · exact .inr ⟨by simp [h], by rw [hmr']; unfold mvd; rw [if_neg h]; omega⟩
      have hzs := HB.out.size
      clear hx HS hcur hml' hmr'
      rcases hcase with ⟨_, rfl, rfl⟩ | ⟨e1, rfl⟩ <;> rcases hcase2 with ⟨_, rfl, rfl⟩ | ⟨e2, rfl⟩
      all_goals
        go_wp2_with (first
          | (go_at_call 143; (with_reducible refine (HE.out _ HVr.out).mono ?_); rintro e w1 ⟨rfl, rfl⟩)
          | (at_builtin; go_must (refine wpList_append_ts rfl (.tmp 36) (.tmp 38) rfl w.heap.size _ cur rfl (HO.out.below (B' := wr.heap.size) (by go_grown) (Nat.le_refl _)) _ [⟨lb, _, _⟩] rfl (TS.one (by first | exact Row.new _ _ _ | exact Row.lit (by simp only [World.size_alloc])) (by omega) (by omega)) (by simp only [List.length_cons, List.length_nil]; omega) (by have := HB.out.size; simp only [World.size_alloc]; omega) ?_; intro v3 w3 ho3 hg3 _)))
        have HB3 := Lib.hid (own_below_t (w := w) (g := []) (v' := v3) (by have h1 := HB.out; go_grown) (HO.out.below (B' := wr.heap.size) (by go_grown) (Nat.le_refl _)) hg3 (by have := HB.out.size; simp only [World.size_alloc]; omega))
        rw [← HS2.out] at ho3
        have HO3 := Lib.hid ho3; clear ho3 hg3
        go_wp2
        go_roundg (m - (k + 1))
        case rel => exact ⟨k + 1, by omega, by omega, rfl, by go_num, HB3.out, HO3.out⟩
        case measure => omega
    · have hkm' : k = m := by omega
      subst hkm'
      go_wp2_with (go_at_call 143; (with_reducible refine (HE.out _ HVr.out).mono ?_); rintro e w1 ⟨rfl, rfl⟩)
      go_returns
      exact ⟨_, rfl, HB.out, HO.out⟩

end Go.Proofs.YtahimlnddelnbaaDoor
