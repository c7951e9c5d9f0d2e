/- Reference of chapter 15: text, Format. -/
import Derived.Test.YtahimlnddelnbaaDoorRTb
set_option linter.unusedSimpArgs false
set_option linter.unusedVariables false
namespace Go.Proofs.YtahimlnddelnbaaDoor
open Go.RowKit

theorem ba_ext {a b : ByteArray} (h : sb a = sb b) : a = b := by
  have h2 : a.data.toList = b.data.toList := h
  have h3 : a.data = b.data := Array.toList_inj.1 h2
  cases a; cases b; simp_all
theorem txt_data (X Y D : ByteArray) (l r : List UInt8) (d : UInt8) (hX : X = ⟨l.toArray⟩) (hY : Y = ⟨r.toArray⟩) (hD : D.data.toList = [d]) :
    (({ data := #[40] } : ByteArray) ++ D ++ { data := #[32] } ++ X ++ { data := #[32] } ++ Y ++ { data := #[41] }) = ⟨(40 :: d :: 32 :: (l ++ 32 :: (r ++ [41]))).toArray⟩ := by
  apply ba_ext
  have e : ∀ a b : ByteArray, sb (a ++ b) = sb a ++ sb b := fun a b => by unfold sb; simp
  simp only [e]
  subst hX; subst hY
  simp [sb, hD]
theorem dig_at {lab : Int} (h0 : 0 ≤ lab) (h7 : lab ≤ 7) : (({ data := #[48, 49, 50, 51, 52, 53, 54, 55] } : ByteArray).extract lab.toNat (lab + 1).toNat).data.toList = [digB lab] := by
  have : lab = 0 ∨ lab = 1 ∨ lab = 2 ∨ lab = 3 ∨ lab = 4 ∨ lab = 5 ∨ lab = 6 ∨ lab = 7 := by omega
  rcases this with rfl | rfl | rfl | rfl | rfl | rfl | rfl | rfl <;> decide +kernel
set_option maxRecDepth 100000 in
set_option maxHeartbeats 4000000 in
theorem rtext_bt (b : Bt) : b.low → b.size ≤ 31 → ∀ (v : Value) (w : World), TS w v (b.enc 0) →
    Calls Tryd.prog 98 #[v] w fun e w' => e = .returned (.string ⟨b.text.toArray⟩) ∧ Below w.heap.size w w' := by
  induction b with
  | nil =>
    intro _ _ v w hv
    obtain ⟨A, c, rfl⟩ := (show TS w v [] from hv).form
    clear hv
    simp only [List.length_nil]
    go_enter Tryd.func98, Tryd.ntmps98
    go_wp2
    go_returns
    exact ⟨rfl, Below.refl _ _⟩
  | node lab l r ihl ihr =>
    intro hlow hs v w hv
    obtain ⟨l0, l7, hll, hlr⟩ := hlow
    have HL := Lib.hid (fun W v (h : TS W v ((Bt.node lab l r).enc 0)) => rleft_bt lab l r v W h hs)
    have HR := Lib.hid (fun W v (h : TS W v ((Bt.node lab l r).enc 0)) => rright_bt lab l r v W h hs)
    have hn : ((Bt.node lab l r).enc 0).length = l.size + r.size + 1 := by rw [Bt.enc_len]; rfl
    have hs2 : l.size + r.size + 1 ≤ 31 := hs
    have hroot := (Seg.self (Bt.node lab l r)).root
    have ihl' := ihl hll (by omega)
    have ihr' := ihr hlr (by omega)
    obtain ⟨X, hX⟩ : ∃ X : ByteArray, X = ⟨l.text.toArray⟩ := ⟨_, rfl⟩
    obtain ⟨Y, hY⟩ : ∃ Y : ByteArray, Y = ⟨r.text.toArray⟩ := ⟨_, rfl⟩
    have hXs : X.size = l.text.length := by rw [hX]; show (List.toArray _).size = _; simp
    have hYs : Y.size = r.text.length := by rw [hY]; show (List.toArray _).size = _; simp
    rw [Bt.text_len] at hXs hYs
    rw [← hX] at ihl'
    rw [← hY] at ihr'
    have HT := Lib.hid (show (Bt.node lab l r).text = 40 :: digB lab :: 32 :: (l.text ++ 32 :: (r.text ++ [41])) from rfl)
    have IHL := Lib.hid ihl'
    have IHR := Lib.hid ihr'
    generalize (Bt.node lab l r).enc 0 = t at *
    have HV := Lib.hid hv
    obtain ⟨b, o, hA⟩ : ∃ b o, ∃ c, v = .slice (some ⟨b, o, none⟩) t.length c := by
      obtain ⟨A, c, rfl⟩ := hv.form
      obtain ⟨b, o, rfl⟩ := hv.addr (by omega)
      exact ⟨b, o, c, rfl⟩
    obtain ⟨c, rfl⟩ := hA
    obtain ⟨c0, _, _⟩ := hv.at3 hroot
    simp only [Nat.zero_mul, Nat.add_zero] at c0
    rw [hn] at HV ⊢
    obtain ⟨n, hn'⟩ : ∃ n, n = l.size + r.size + 1 := ⟨_, rfl⟩
    have hn0 : ((n : Int) == 0) = false := by rw [beq_eq_false_iff_ne]; omega
    have hnp : 0 < n := by omega
    rw [← hn'] at HV ⊢
    have w1 : IntKind.i64.wrap (lab + 1) = lab + 1 := IntWalk.i64_in _ (by omega)
    have b0 : 0 ≤ lab + 1 := by omega
    have b1 : lab ≤ lab + 1 := by omega
    have b2 : lab + 1 ≤ 8 := by omega
    have hXl : X.size ≤ 200 := by omega
    have hYl : Y.size ≤ 200 := by omega
    have HX := Lib.hid hX; have HY := Lib.hid hY
    obtain ⟨D, hD⟩ : ∃ D : ByteArray, ({ data := #[48, 49, 50, 51, 52, 53, 54, 55] } : ByteArray).extract lab.toNat (lab + 1).toNat = D := ⟨_, rfl⟩
    have hDd : D.data.toList = [digB lab] := by rw [← hD]; exact dig_at l0 l7
    have hDs : D.size = 1 := by rw [← sb_len]; unfold sb; rw [hDd]; rfl
    have HDD := Lib.hid hDd
    have h4 : ¬ 9223372036854775807 < 1 + 1 + 1 + X.size := by omega
    have h5 : ¬ 9223372036854775807 < 3 + X.size := by omega
    have h6 : ¬ 9223372036854775807 < 1 + 1 + 1 + X.size + 1 := by omega
    have h7 : ¬ 9223372036854775807 < 3 + X.size + 1 := by omega
    have h8 : ¬ 9223372036854775807 < 1 + 1 + 1 + X.size + 1 + Y.size := by omega
    have h9 : ¬ 9223372036854775807 < 3 + X.size + 1 + Y.size := by omega
    have h10 : ¬ 9223372036854775807 < 1 + 1 + 1 + X.size + 1 + Y.size + 1 := by omega
    have h11 : ¬ 9223372036854775807 < 3 + X.size + 1 + Y.size + 1 := by omega
    clear hDd hv hn ihl ihr hs hs2 hn' hroot ihl' ihr' hX hY hXs hYs hll hlr
    go_enter Tryd.func98, Tryd.ntmps98
    go_wp2
    first
    | go_region_held3 (fun W => True) (trivial) (first
      | (go_at_call 78; (refine (HL.out _ _ (by exact HV.out)).mono ?_); rintro e w1 ⟨v1, rfl, hb1, ho1⟩; have HB1 : Hid (Below w.heap.size w w1) := (⟨hb1.os, hb1.tape, hb1.output, hb1.size, hb1.block⟩ : Below w.heap.size w w1); have HX1 := Lib.hid ho1.ts; clear hb1 ho1)
      | (go_at_call 98; (with_reducible refine (IHL.out _ _ HX1.out).mono ?_); rintro e w2 ⟨rfl, hb1⟩; have HB2 : Hid (Below w.heap.size w w2) := HB1.out.trans (hb1.mono HB1.out.size); clear hb1 HX1)
      | (go_at_call 79; (with_reducible refine (HR.out _ _ (HV.out.to HB2.out)).mono ?_); rintro e w3 ⟨v3, rfl, hb1, ho1⟩; have HX3 := Lib.hid ho1.ts; have HB3 : Hid (Below w.heap.size w w3) := HB2.out.trans (hb1.mono HB2.out.size); clear hb1 ho1)
      | (go_at_call 98; (with_reducible refine (IHR.out _ _ HX3.out).mono ?_); rintro e w4 ⟨rfl, hb1⟩; have HB4 : Hid (Below w.heap.size w w4) := HB3.out.trans (hb1.mono HB3.out.size); clear hb1 HX3))
    | fail
    all_goals
      go_wp2_with fail
      go_returns
      exact ⟨by rw [HT.out]; exact congrArg (fun z => Ending.returned (.string z)) (txt_data X Y _ _ _ _ HX.out HY.out HDD.out), HB4.out⟩

set_option maxRecDepth 100000 in
set_option maxHeartbeats 4000000 in
theorem RFmtT_any (t : List Lf) (v : Value) (w : World) (hv : TS w v t) :
    Calls Tryd.prog 41 #[v] w fun e w' => e = .returned (.tuple #[.string ⟨(formatT t).1.toArray⟩, .int .i64 (formatT t).2]) ∧ Below w.heap.size w w' := by
  have HV := Lib.hid hv
  have HF := Lib.hid (crform t)
  have hj : formatT t = if formedT t = false then ([], 2) else if t.any (fun m => decide (7 < m.label)) then ([], 1) else ((btOf t).text, 0) := rfl
  generalize formatT t = R at *
  cases hf : formedT t with
  | false =>
    rw [hf, if_pos rfl] at hj
    rw [hf] at HF
    subst hj
    obtain ⟨A, c, rfl⟩ := hv.form
    obtain ⟨n, hn⟩ : ∃ n, n = t.length := ⟨_, rfl⟩
    rw [← hn] at HV ⊢
    clear hv hf hn
    go_enter Tryd.func41, Tryd.ntmps41
    go_wp2_with (go_at_call 76; (with_reducible refine (HF.out _ _ HV.out).mono ?_); rintro e w1 ⟨rfl, rfl⟩)
    go_returns
    exact ⟨rfl, Below.refl _ _⟩
  | true =>
    rw [hf, if_neg (by simp)] at hj
    rw [hf] at HF
    obtain ⟨h31, hs, _, he⟩ := btOf_ok hf
    have HT := Lib.hid (show t.any (fun m => decide (7 < m.label)) = false → ∀ W v, TS W v t → Calls Tryd.prog 98 #[v] W fun e w' => e = .returned (.string ⟨(btOf t).text.toArray⟩) ∧ Below W.heap.size W w' from fun ha W v h => by
      refine rtext_bt (btOf t) ((low_enc _ 0).1 fun m hm => ?_) (by omega) v W (by rw [← he]; exact h)
      rw [← he] at hm
      have := (h.lb m hm).1
      rw [List.any_eq_false] at ha
      have h2 := ha m hm
      simp at h2
      exact ⟨this, h2⟩)
    generalize (btOf t).text = X at *
    have HJ := Lib.hid hj
    obtain ⟨A, c, rfl⟩ := hv.form
    obtain ⟨n, hn⟩ : ∃ n, n = t.length := ⟨_, rfl⟩
    have HN := Lib.hid hn
    rw [← hn] at HV h31 ⊢
    clear hv hf hn hs he hj
    go_enter Tryd.func41, Tryd.ntmps41
    go_wp2_with (go_at_call 76; (with_reducible refine (HF.out _ _ HV.out).mono ?_); rintro e w1 ⟨rfl, rfl⟩)
    go_loopg [4] n (fun gk q wr => ∃ k : Nat, k ≤ n ∧ gk = n - k ∧ q = .int .i64 k ∧ w = wr ∧ (t.take k).any (fun m => decide (7 < m.label)) = false)
    case atStart => exact ⟨0, Nat.zero_le _, rfl, rfl, rfl, rfl⟩
    case round =>
      obtain ⟨k, hk, rfl, rfl, rfl, hacc⟩ := hrel
      have HA := Lib.hid hacc; clear hacc
      by_cases hlt : k < n
      · obtain ⟨x, hx⟩ : ∃ x, t[k]? = some x := ⟨t[k]'(by rw [← HN.out]; exact hlt), List.getElem?_eq_getElem _⟩
        obtain ⟨b, o, rfl⟩ := HV.out.addr (by rw [← HN.out]; omega)
        obtain ⟨c0, _, _⟩ := HV.out.at3 hx
        obtain ⟨l1, l2⟩ := HV.out.lb x (List.mem_of_getElem? hx)
        have HS := Lib.hid (any_take_snoc (fun m : Lf => decide (7 < m.label)) hx)
        have HAT := Lib.hid (any_of_at (fun m : Lf => decide (7 < m.label)) hx)
        clear hx
        obtain ⟨lb, l, r⟩ := x
        simp only at c0 HS HAT l1 l2
        by_cases h7 : 7 < lb
        · have ha := HAT.out (by simp [h7])
          have HR : Hid (R = ([], 1)) := by rw [Hid, HJ.out, if_pos ha]
          clear ha HAT HS
          go_wp2
          go_returns
          rw [HR.out]
          exact ⟨rfl, Below.refl _ _⟩
        · have h7' : lb ≤ 7 := by omega
          have hs := HS.out
          rw [HA.out, show decide (7 < lb) = false by simp [h7]] at hs
          have HS2 := Lib.hid hs
          clear hs HS HAT HA
          go_wp2
          go_roundg (n - (k + 1))
          case rel => exact ⟨k + 1, by omega, rfl, by go_num, rfl, HS2.out⟩
          case measure => omega
      · have hkn : k = n := by omega
        have ha := HA.out
        rw [hkn, HN.out, List.take_length] at ha
        have HR : Hid (R = (X, 0)) := by rw [Hid, HJ.out, ha]; rfl
        have HT2 := Lib.hid (HT.out ha)
        clear ha HT HA
        go_wp2_with (go_at_call 98; (with_reducible refine (HT2.out _ _ HV.out).mono ?_); rintro e w1 ⟨rfl, hb1⟩)
        go_returns
        rw [HR.out]
        exact ⟨rfl, hb1⟩
end Go.Proofs.YtahimlnddelnbaaDoor
