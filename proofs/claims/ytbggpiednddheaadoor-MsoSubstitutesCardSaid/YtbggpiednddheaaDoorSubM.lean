/- MsoSubstitutes: for every formula and all numbers the law returns true. -/
import Derived.Test.YtbggpiednddheaaDoorTwo
import Derived.Test.YtbggpiednddheaaDoorSubQ
import Derived.Test.YtbggpiednddheaaDoorCon
import Derived.Deep.QuietTactic
import Derived.BigQuiet
set_option linter.unusedSimpArgs false
set_option linter.unusedVariables false
namespace Go.Proofs.YtbggpiednddheaaDoor
open Go.RowKit

set_option maxRecDepth 100000 in
set_option maxHeartbeats 8000000 in
theorem subst_any (f : List Mk) (x y : Int) (v : Value) (w : World) (hv : MS w v f) :
    Calls Tryd.prog 12 #[v, .agg #[.int .i64 x, .int .i64 y]] w fun e w' => e = .returned (.bool true) ∧ Below w.heap.size w w' := by
  have hfew := fun W u (h : MS W u f) => few_any f u W h
  have hlen : (f.take 70).length ≤ 70 := by rw [List.length_take]; omega
  obtain ⟨_, A, c, rfl, hc1, hc2, _⟩ := id hv
  generalize f.take 70 = F at *
  have q3 : -6 < x.tmod 6 := by have := Int.lt_tmod_of_pos x (b := 6) (by omega); simpa using this
  have q4 : x.tmod 6 < 6 := Int.tmod_lt_of_pos x (by omega)
  have q5 : -6 < y.tmod 6 := by have := Int.lt_tmod_of_pos y (b := 6) (by omega); simpa using this
  have q6 : y.tmod 6 < 6 := Int.tmod_lt_of_pos y (by omega)
  obtain ⟨X, hX⟩ : ∃ k : Nat, (x.tmod 6 + 6) % 6 = (k : Int) := ⟨((x.tmod 6 + 6) % 6).toNat, by omega⟩
  obtain ⟨Y, hY⟩ : ∃ k : Nat, (y.tmod 6 + 6) % 6 = (k : Int) := ⟨((y.tmod 6 + 6) % 6).toNat, by omega⟩
  have hX6 : X < 6 := by omega
  have hY6 : Y < 6 := by omega
  have x1 : IntKind.i64.wrap (x.tmod 6 + 6) = x.tmod 6 + 6 := IntWalk.i64_in _ ⟨by omega, by omega⟩
  have y1 : IntKind.i64.wrap (y.tmod 6 + 6) = y.tmod 6 + 6 := IntWalk.i64_in _ ⟨by omega, by omega⟩
  have x2 : (x.tmod 6 + 6).tmod 6 = (X : Int) := by rw [Int.tmod_eq_emod_of_nonneg (by omega)]; exact hX
  have y2 : (y.tmod 6 + 6).tmod 6 = (Y : Int) := by rw [Int.tmod_eq_emod_of_nonneg (by omega)]; exact hY
  have HFW := Lib.hid hfew; have HV := Lib.hid hv
  clear hfew hv
  have HN0 := Lib.hid (Row.new w 24 #[.int .i64 x, .int .i64 y])
  have HB0 : Hid (Below w.heap.size w (w.alloc (.cells #[.int .i64 x, .int .i64 y] 24))) := Below.alloc (Below.refl _ _) (Nat.le_refl _) _
  go_enter Tryd.func12, Tryd.ntmps12
  go_upto_region 2 with (go_at_call 13; go_must (refine (HFW.out _ _ (HV.out.below HB0.out (Nat.le_refl _))).mono ?_; rintro e w2 ⟨v2, rfl, hb, ho⟩; have HO := Lib.hid ho.ms; have HN := Lib.hid (HN0.out.below hb HN0.out.lt); have HB := Lib.hid (HB0.out.trans (hb.mono HB0.out.size)); clear hb ho; have rn := HN.out.cell; have rl := HN.out.lt))
  go_cut [6, 7] from 17 to 26 (fun u6 u7 wx => u6 = .int .i64 X ∧ u7 = .int .i64 Y ∧ Below w2.heap.size w2 wx)
  case first =>
    first | go_quiet (fail) | fail
    go_wp2_with fail
    go_meet
    exact ⟨rfl, rfl, drewN_below w2 _⟩
  case rest =>
    obtain ⟨rfl, rfl, hb⟩ := hcut
    have H2 := Lib.hid (HO.out.below hb (Nat.le_refl _))
    replace HB := Lib.hid (HB.out.trans (hb.mono HB.out.size))
    rename_i wc
    clear HO HN0 HB0 HFW HV HN rn rl hb q3 q4 q5 q6 hX hY x1 y1 x2 y2 hc1 hc2
    have haw := fun W => awake_any W
    have HAW := Lib.hid haw; clear haw
    have hfm := fun W v (h : MS W v F) => Format_text F v W h
    have iX : (0 : Int) ≤ X := by omega
    have iY : (0 : Int) ≤ Y := by omega
    have jX : (X : Int) < 6 := by omega
    have jY : (Y : Int) < 6 := by omega
    obtain ⟨n, hn⟩ : ∃ n, n = F.length := ⟨_, rfl⟩
    cases hform : formedS F with
    | false =>
      rw [hform] at hfm
      have hsu := fun W v (h : MS W v F) => Subst_form F v X Y W iX jX iY jY h hform
      have HFM := Lib.hid hfm; have HSU := Lib.hid hsu; have HGL : Hid (([] : List Mk).length = 0) := rfl
      clear hfm hsu
      go_wp2_with (first
        | (go_at_call 31; (with_reducible refine (HFM.out _ _ H2.out).mono ?_); rintro e wn ⟨rfl, hb⟩; replace H2 := Lib.hid (H2.out.below hb (Nat.le_refl _)); (try replace H3 := Lib.hid (H3.out.below hb (Nat.le_refl _))); (try replace SG := Lib.hid (SG.out.below hb (Nat.le_refl _))); (try replace SA := Lib.hid (SA.out.below hb (Nat.le_refl _))); (try replace SW := Lib.hid (SW.out.below hb (Nat.le_refl _))); (try replace SX := Lib.hid (SX.out.below hb (Nat.le_refl _))); replace HB := Lib.hid (HB.out.trans (hb.mono HB.out.size)); clear hb)
        | (go_at_call 21; (with_reducible refine (HSU.out _ _ H2.out).mono ?_); rintro e wn ⟨v3, rfl, hb, ho⟩; replace H2 := Lib.hid (H2.out.below hb (Nat.le_refl _)); (try replace H3 := Lib.hid (H3.out.below hb (Nat.le_refl _))); (try replace SG := Lib.hid (SG.out.below hb (Nat.le_refl _))); (try replace SA := Lib.hid (SA.out.below hb (Nat.le_refl _))); (try replace SW := Lib.hid (SW.out.below hb (Nat.le_refl _))); (try replace SX := Lib.hid (SX.out.below hb (Nat.le_refl _))); replace HB := Lib.hid (HB.out.trans (hb.mono HB.out.size)); have H3 := Lib.hid ho.ms; obtain ⟨_, A3, c3, hvv, _⟩ := id ho.ms; rw [HGL.out] at hvv; subst hvv; clear ho; clear hb)
        | (go_at_call 28; (with_reducible refine (HAW.out _).mono ?_); rintro e wn ⟨rfl, hb⟩; replace H2 := Lib.hid (H2.out.below hb (Nat.le_refl _)); (try replace H3 := Lib.hid (H3.out.below hb (Nat.le_refl _))); (try replace SG := Lib.hid (SG.out.below hb (Nat.le_refl _))); (try replace SA := Lib.hid (SA.out.below hb (Nat.le_refl _))); (try replace SW := Lib.hid (SW.out.below hb (Nat.le_refl _))); (try replace SX := Lib.hid (SX.out.below hb (Nat.le_refl _))); replace HB := Lib.hid (HB.out.trans (hb.mono HB.out.size)); clear hb))
      go_returns
      exact ⟨rfl, HB.out⟩
    | true =>
      obtain ⟨t, okt, hst, htF, htx⟩ := formed_is F hform
      have htl : t.size = F.length := by rw [htF, Tr.enc_len]
      rw [if_pos hform, if_pos hform, htx] at hfm
      have lt1 := t.text_len okt
      obtain ⟨SA0, hSA⟩ : ∃ R : ByteArray, R = ⟨t.text.toArray⟩ := ⟨_, rfl⟩
      have dSA : bts SA0 = t.text := by rw [hSA]; simp [bts]
      have eSA : strV t.text = .string SA0 := by rw [hSA]; rfl
      rw [eSA] at hfm
      have hsu := fun W v (h : MS W v F) => Subst_yes F t v X Y W iX jX iY jY h hform htF okt htl
      have hsr := substR_tree t okt (X : Int) (Y : Int)
      rw [← htF] at hsr
      rw [hsr] at hsu
      have hcn := fun W => contains_letter SA0 Y hY6 W
      rw [dSA, text_letter t okt Y hY6] at hcn
      have sa := oneword_set (wordT_lt64 t okt)
      have hfa := fun W v (h : MS W v F) => Free_yes F t v W h hform htF okt htl
      rw [htF, freeS_word t okt, ← htF] at hfa
      have hha := fun W v h => has_any (setOf (wordT t 6)) X v W sa hX6 h
      rw [wordOf_set, word_bit t okt X] at hha
      have HFM := Lib.hid hfm
      clear hfm hSA dSA eSA
      by_cases hcap : capT (X : Int) Y t = true ∧ (X : Int) ≠ Y
      · rw [if_pos hcap] at hsu
        obtain ⟨o1, o2⟩ := cap_occ _ _ t okt hcap.1
        rw [o1] at hha
        rw [o2] at hcn
        have hne := hcap.2
        have hne2 : ((X : Int) != (Y : Int)) = true := by simp; omega
        have HSU := Lib.hid hsu; have HGL : Hid (([] : List Mk).length = 0) := rfl; have HCN := Lib.hid hcn; have HFA := Lib.hid hfa; have HHA := Lib.hid hha
        clear hsu hcn hfa hha sa hsr hcap o1 o2 htl htF htx hst lt1 okt
        generalize setOf (wordT t 6) = LA at *
        go_wp2_with (first
          | (go_at_call 31; (with_reducible refine (HFM.out _ _ H2.out).mono ?_); rintro e wn ⟨rfl, hb⟩; replace H2 := Lib.hid (H2.out.below hb (Nat.le_refl _)); (try replace H3 := Lib.hid (H3.out.below hb (Nat.le_refl _))); (try replace SG := Lib.hid (SG.out.below hb (Nat.le_refl _))); (try replace SA := Lib.hid (SA.out.below hb (Nat.le_refl _))); (try replace SW := Lib.hid (SW.out.below hb (Nat.le_refl _))); (try replace SX := Lib.hid (SX.out.below hb (Nat.le_refl _))); replace HB := Lib.hid (HB.out.trans (hb.mono HB.out.size)); clear hb)
          | (go_at_call 21; (with_reducible refine (HSU.out _ _ H2.out).mono ?_); rintro e wn ⟨v3, rfl, hb, ho⟩; replace H2 := Lib.hid (H2.out.below hb (Nat.le_refl _)); (try replace H3 := Lib.hid (H3.out.below hb (Nat.le_refl _))); (try replace SG := Lib.hid (SG.out.below hb (Nat.le_refl _))); (try replace SA := Lib.hid (SA.out.below hb (Nat.le_refl _))); (try replace SW := Lib.hid (SW.out.below hb (Nat.le_refl _))); (try replace SX := Lib.hid (SX.out.below hb (Nat.le_refl _))); replace HB := Lib.hid (HB.out.trans (hb.mono HB.out.size)); have H3 := Lib.hid ho.ms; obtain ⟨_, A3, c3, hvv, _⟩ := id ho.ms; rw [HGL.out] at hvv; subst hvv; clear ho; clear hb)
          | (go_at_call 16; (with_reducible refine (HFA.out _ _ H2.out).mono ?_); rintro e wn ⟨vSA, rfl, hb, ho⟩; replace H2 := Lib.hid (H2.out.below hb (Nat.le_refl _)); (try replace H3 := Lib.hid (H3.out.below hb (Nat.le_refl _))); (try replace SG := Lib.hid (SG.out.below hb (Nat.le_refl _))); (try replace SA := Lib.hid (SA.out.below hb (Nat.le_refl _))); (try replace SW := Lib.hid (SW.out.below hb (Nat.le_refl _))); (try replace SX := Lib.hid (SX.out.below hb (Nat.le_refl _))); replace HB := Lib.hid (HB.out.trans (hb.mono HB.out.size)); have SA := Lib.hid ho.us; clear ho; clear hb)
          | (go_at_call 43; (with_reducible refine (HHA.out _ _ SA.out).mono ?_); rintro e wn ⟨rfl, hb⟩; replace H2 := Lib.hid (H2.out.below hb (Nat.le_refl _)); (try replace H3 := Lib.hid (H3.out.below hb (Nat.le_refl _))); (try replace SG := Lib.hid (SG.out.below hb (Nat.le_refl _))); (try replace SA := Lib.hid (SA.out.below hb (Nat.le_refl _))); (try replace SW := Lib.hid (SW.out.below hb (Nat.le_refl _))); (try replace SX := Lib.hid (SX.out.below hb (Nat.le_refl _))); replace HB := Lib.hid (HB.out.trans (hb.mono HB.out.size)); clear hb)
          | (go_at_call 42; (with_reducible refine (HCN.out _).mono ?_); rintro e wn ⟨rfl, rfl⟩)
          | (go_at_call 28; (with_reducible refine (HAW.out _).mono ?_); rintro e wn ⟨rfl, hb⟩; replace H2 := Lib.hid (H2.out.below hb (Nat.le_refl _)); (try replace H3 := Lib.hid (H3.out.below hb (Nat.le_refl _))); (try replace SG := Lib.hid (SG.out.below hb (Nat.le_refl _))); (try replace SA := Lib.hid (SA.out.below hb (Nat.le_refl _))); (try replace SW := Lib.hid (SW.out.below hb (Nat.le_refl _))); (try replace SX := Lib.hid (SX.out.below hb (Nat.le_refl _))); replace HB := Lib.hid (HB.out.trans (hb.mono HB.out.size)); clear hb))
        go_returns
        exact ⟨rfl, HB.out⟩
      · rw [if_neg hcap] at hsu
        have hcap2 : capT (X : Int) Y t = false ∨ X = Y := by
          by_cases h : (X : Int) = Y
          · exact .inr (by omega)
          · cases hc : capT (X : Int) Y t with
            | false => exact .inl rfl
            | true => exact absurd ⟨hc, h⟩ hcap
        have hgl : ((repT (X : Int) Y t).enc 0).length = n := by rw [Tr.enc_len, repT_size, hn, htl]
        cases hfr : frT (X : Int) t with
        | false =>
          rw [rep_no _ _ t hfr, ← htF] at hsu hgl
          rw [hfr] at hha
          have hem := fun W v u h1 h2 => equalMSO F F v u W h1 h2 (by omega)
          rw [decide_eq_true (rfl : F = F)] at hem
          have HSU := Lib.hid hsu; have HGL := Lib.hid hgl; have HFA := Lib.hid hfa; have HHA := Lib.hid hha; have HEM := Lib.hid hem
          clear hsu hcn hfa hha hem hgl sa hsr hcap hcap2 hfr htl htF htx hst lt1 okt hn
          generalize setOf (wordT t 6) = LA at *
          go_wp2_with (first
            | (go_at_call 31; (with_reducible refine (HFM.out _ _ H2.out).mono ?_); rintro e wn ⟨rfl, hb⟩; replace H2 := Lib.hid (H2.out.below hb (Nat.le_refl _)); (try replace H3 := Lib.hid (H3.out.below hb (Nat.le_refl _))); (try replace SG := Lib.hid (SG.out.below hb (Nat.le_refl _))); (try replace SA := Lib.hid (SA.out.below hb (Nat.le_refl _))); (try replace SW := Lib.hid (SW.out.below hb (Nat.le_refl _))); (try replace SX := Lib.hid (SX.out.below hb (Nat.le_refl _))); replace HB := Lib.hid (HB.out.trans (hb.mono HB.out.size)); clear hb)
            | (go_at_call 21; (with_reducible refine (HSU.out _ _ H2.out).mono ?_); rintro e wn ⟨v3, rfl, hb, ho⟩; replace H2 := Lib.hid (H2.out.below hb (Nat.le_refl _)); (try replace H3 := Lib.hid (H3.out.below hb (Nat.le_refl _))); (try replace SG := Lib.hid (SG.out.below hb (Nat.le_refl _))); (try replace SA := Lib.hid (SA.out.below hb (Nat.le_refl _))); (try replace SW := Lib.hid (SW.out.below hb (Nat.le_refl _))); (try replace SX := Lib.hid (SX.out.below hb (Nat.le_refl _))); replace HB := Lib.hid (HB.out.trans (hb.mono HB.out.size)); have H3 := Lib.hid ho.ms; obtain ⟨_, A3, c3, hvv, _⟩ := id ho.ms; rw [HGL.out] at hvv; subst hvv; clear ho; clear hb)
            | (go_at_call 16; (with_reducible refine (HFA.out _ _ H2.out).mono ?_); rintro e wn ⟨vSA, rfl, hb, ho⟩; replace H2 := Lib.hid (H2.out.below hb (Nat.le_refl _)); (try replace H3 := Lib.hid (H3.out.below hb (Nat.le_refl _))); (try replace SG := Lib.hid (SG.out.below hb (Nat.le_refl _))); (try replace SA := Lib.hid (SA.out.below hb (Nat.le_refl _))); (try replace SW := Lib.hid (SW.out.below hb (Nat.le_refl _))); (try replace SX := Lib.hid (SX.out.below hb (Nat.le_refl _))); replace HB := Lib.hid (HB.out.trans (hb.mono HB.out.size)); have SA := Lib.hid ho.us; clear ho; clear hb)
            | (go_at_call 43; (with_reducible refine (HHA.out _ _ SA.out).mono ?_); rintro e wn ⟨rfl, hb⟩; replace H2 := Lib.hid (H2.out.below hb (Nat.le_refl _)); (try replace H3 := Lib.hid (H3.out.below hb (Nat.le_refl _))); (try replace SG := Lib.hid (SG.out.below hb (Nat.le_refl _))); (try replace SA := Lib.hid (SA.out.below hb (Nat.le_refl _))); (try replace SW := Lib.hid (SW.out.below hb (Nat.le_refl _))); (try replace SX := Lib.hid (SX.out.below hb (Nat.le_refl _))); replace HB := Lib.hid (HB.out.trans (hb.mono HB.out.size)); clear hb)
            | (go_at_call 25; (with_reducible refine (HEM.out _ _ _ H3.out H2.out).mono ?_); rintro e wn ⟨rfl, hb⟩; replace H2 := Lib.hid (H2.out.below hb (Nat.le_refl _)); (try replace H3 := Lib.hid (H3.out.below hb (Nat.le_refl _))); (try replace SG := Lib.hid (SG.out.below hb (Nat.le_refl _))); (try replace SA := Lib.hid (SA.out.below hb (Nat.le_refl _))); (try replace SW := Lib.hid (SW.out.below hb (Nat.le_refl _))); (try replace SX := Lib.hid (SX.out.below hb (Nat.le_refl _))); replace HB := Lib.hid (HB.out.trans (hb.mono HB.out.size)); clear hb)
            | (go_at_call 28; (with_reducible refine (HAW.out _).mono ?_); rintro e wn ⟨rfl, hb⟩; replace H2 := Lib.hid (H2.out.below hb (Nat.le_refl _)); (try replace H3 := Lib.hid (H3.out.below hb (Nat.le_refl _))); (try replace SG := Lib.hid (SG.out.below hb (Nat.le_refl _))); (try replace SA := Lib.hid (SA.out.below hb (Nat.le_refl _))); (try replace SW := Lib.hid (SW.out.below hb (Nat.le_refl _))); (try replace SX := Lib.hid (SX.out.below hb (Nat.le_refl _))); replace HB := Lib.hid (HB.out.trans (hb.mono HB.out.size)); clear hb))
          go_returns
          exact ⟨rfl, HB.out⟩
        | true =>
          rw [hfr] at hha
          have okr := repT_ok (X : Int) (Y : Int) iY jY t okt
          have hws := word_sub okt hX6 hY6 hcap2 hfr
          have fr := formed_enc (repT (X : Int) Y t) okr (by rw [repT_size]; omega)
          have hfg := fun W v (h : MS W v ((repT (X : Int) Y t).enc 0)) => Free_yes _ (repT (X : Int) Y t) v W h fr rfl okr (by rw [Tr.enc_len])
          rw [freeS_word _ okr, hws] at hfg
          have hwo := fun W v h1 => without_any (setOf (wordT t 6)) X v W sa hX6 h1
          rw [wordOf_set] at hwo
          have sw : OneWord (setOf (andn (wordT t 6) (2 ^ X))) := oneword_set (and_lt64 (wordT_lt64 t okt))
          have hwi := fun W v h1 => with_any (setOf (andn (wordT t 6) (2 ^ X))) Y v W sw hY6 h1
          rw [wordOf_set] at hwi
          have sx : OneWord (setOf (andn (wordT t 6) (2 ^ X) ||| 2 ^ Y)) := oneword_set (or_lt64 (and_lt64 (wordT_lt64 t okt)) (pow_lt64 hY6))
          have heq := fun W v u h1 h2 => bequal_any _ _ v u W sx sx h1 h2
          rw [decide_eq_true (rfl : setOf (andn (wordT t 6) (2 ^ X) ||| 2 ^ Y) = setOf (andn (wordT t 6) (2 ^ X) ||| 2 ^ Y))] at heq
          have hn1 : (n : Int) = F.length := by omega
          obtain ⟨_, A2, c2, hv2, _⟩ := id H2.out
          rw [← hn] at hv2
          subst hv2
          cases hoc : occT (Y : Int) t with
          | true =>
            rw [hoc] at hcn
            generalize (repT (X : Int) Y t).enc 0 = G at *
            have HSU := Lib.hid hsu; have HGL := Lib.hid hgl; have HCN := Lib.hid hcn; have HFA := Lib.hid hfa; have HHA := Lib.hid hha; have HFG := Lib.hid hfg; have HWO := Lib.hid hwo; have HWI := Lib.hid hwi; have HEQ := Lib.hid heq
            clear hsu hcn hfa hha hfg hwo hwi heq hgl sa sw sx hsr hcap hcap2 hfr hoc hws fr okr htl htF htx hst lt1 okt hn1 hn
            generalize setOf (andn (wordT t 6) (2 ^ X) ||| 2 ^ Y) = LX at *
            generalize setOf (andn (wordT t 6) (2 ^ X)) = LW at *
            generalize setOf (wordT t 6) = LA at *
            go_wp2_with (first
              | (go_at_call 31; (with_reducible refine (HFM.out _ _ H2.out).mono ?_); rintro e wn ⟨rfl, hb⟩; replace H2 := Lib.hid (H2.out.below hb (Nat.le_refl _)); (try replace H3 := Lib.hid (H3.out.below hb (Nat.le_refl _))); (try replace SG := Lib.hid (SG.out.below hb (Nat.le_refl _))); (try replace SA := Lib.hid (SA.out.below hb (Nat.le_refl _))); (try replace SW := Lib.hid (SW.out.below hb (Nat.le_refl _))); (try replace SX := Lib.hid (SX.out.below hb (Nat.le_refl _))); replace HB := Lib.hid (HB.out.trans (hb.mono HB.out.size)); clear hb)
              | (go_at_call 21; (with_reducible refine (HSU.out _ _ H2.out).mono ?_); rintro e wn ⟨v3, rfl, hb, ho⟩; replace H2 := Lib.hid (H2.out.below hb (Nat.le_refl _)); (try replace H3 := Lib.hid (H3.out.below hb (Nat.le_refl _))); (try replace SG := Lib.hid (SG.out.below hb (Nat.le_refl _))); (try replace SA := Lib.hid (SA.out.below hb (Nat.le_refl _))); (try replace SW := Lib.hid (SW.out.below hb (Nat.le_refl _))); (try replace SX := Lib.hid (SX.out.below hb (Nat.le_refl _))); replace HB := Lib.hid (HB.out.trans (hb.mono HB.out.size)); have H3 := Lib.hid ho.ms; obtain ⟨_, A3, c3, hvv, _⟩ := id ho.ms; rw [HGL.out] at hvv; subst hvv; clear ho; clear hb)
              | (go_at_call 16; (with_reducible refine (HFG.out _ _ H3.out).mono ?_); rintro e wn ⟨vSG, rfl, hb, ho⟩; replace H2 := Lib.hid (H2.out.below hb (Nat.le_refl _)); (try replace H3 := Lib.hid (H3.out.below hb (Nat.le_refl _))); (try replace SG := Lib.hid (SG.out.below hb (Nat.le_refl _))); (try replace SA := Lib.hid (SA.out.below hb (Nat.le_refl _))); (try replace SW := Lib.hid (SW.out.below hb (Nat.le_refl _))); (try replace SX := Lib.hid (SX.out.below hb (Nat.le_refl _))); replace HB := Lib.hid (HB.out.trans (hb.mono HB.out.size)); have SG := Lib.hid ho.us; clear ho; clear hb)
              | (go_at_call 16; (with_reducible refine (HFA.out _ _ H2.out).mono ?_); rintro e wn ⟨vSA, rfl, hb, ho⟩; replace H2 := Lib.hid (H2.out.below hb (Nat.le_refl _)); (try replace H3 := Lib.hid (H3.out.below hb (Nat.le_refl _))); (try replace SG := Lib.hid (SG.out.below hb (Nat.le_refl _))); (try replace SA := Lib.hid (SA.out.below hb (Nat.le_refl _))); (try replace SW := Lib.hid (SW.out.below hb (Nat.le_refl _))); (try replace SX := Lib.hid (SX.out.below hb (Nat.le_refl _))); replace HB := Lib.hid (HB.out.trans (hb.mono HB.out.size)); have SA := Lib.hid ho.us; clear ho; clear hb)
              | (go_at_call 43; (with_reducible refine (HHA.out _ _ SA.out).mono ?_); rintro e wn ⟨rfl, hb⟩; replace H2 := Lib.hid (H2.out.below hb (Nat.le_refl _)); (try replace H3 := Lib.hid (H3.out.below hb (Nat.le_refl _))); (try replace SG := Lib.hid (SG.out.below hb (Nat.le_refl _))); (try replace SA := Lib.hid (SA.out.below hb (Nat.le_refl _))); (try replace SW := Lib.hid (SW.out.below hb (Nat.le_refl _))); (try replace SX := Lib.hid (SX.out.below hb (Nat.le_refl _))); replace HB := Lib.hid (HB.out.trans (hb.mono HB.out.size)); clear hb)
              | (go_at_call 41; (with_reducible refine (HWO.out _ _ SA.out).mono ?_); rintro e wn ⟨vSW, rfl, hb, ho⟩; replace H2 := Lib.hid (H2.out.below hb (Nat.le_refl _)); (try replace H3 := Lib.hid (H3.out.below hb (Nat.le_refl _))); (try replace SG := Lib.hid (SG.out.below hb (Nat.le_refl _))); (try replace SA := Lib.hid (SA.out.below hb (Nat.le_refl _))); (try replace SW := Lib.hid (SW.out.below hb (Nat.le_refl _))); (try replace SX := Lib.hid (SX.out.below hb (Nat.le_refl _))); replace HB := Lib.hid (HB.out.trans (hb.mono HB.out.size)); have SW := Lib.hid ho; clear ho; clear hb)
              | (go_at_call 44; (with_reducible refine (HWI.out _ _ SW.out).mono ?_); rintro e wn ⟨vSX, rfl, hb, ho⟩; replace H2 := Lib.hid (H2.out.below hb (Nat.le_refl _)); (try replace H3 := Lib.hid (H3.out.below hb (Nat.le_refl _))); (try replace SG := Lib.hid (SG.out.below hb (Nat.le_refl _))); (try replace SA := Lib.hid (SA.out.below hb (Nat.le_refl _))); (try replace SW := Lib.hid (SW.out.below hb (Nat.le_refl _))); (try replace SX := Lib.hid (SX.out.below hb (Nat.le_refl _))); replace HB := Lib.hid (HB.out.trans (hb.mono HB.out.size)); have SX := Lib.hid ho; clear ho; clear hb)
              | (go_at_call 39; (with_reducible refine (HEQ.out _ _ _ SG.out SX.out).mono ?_); rintro e wn ⟨rfl, hb⟩; replace H2 := Lib.hid (H2.out.below hb (Nat.le_refl _)); (try replace H3 := Lib.hid (H3.out.below hb (Nat.le_refl _))); (try replace SG := Lib.hid (SG.out.below hb (Nat.le_refl _))); (try replace SA := Lib.hid (SA.out.below hb (Nat.le_refl _))); (try replace SW := Lib.hid (SW.out.below hb (Nat.le_refl _))); (try replace SX := Lib.hid (SX.out.below hb (Nat.le_refl _))); replace HB := Lib.hid (HB.out.trans (hb.mono HB.out.size)); clear hb)
              | (go_at_call 42; (with_reducible refine (HCN.out _).mono ?_); rintro e wn ⟨rfl, rfl⟩)
              | (go_at_call 28; (with_reducible refine (HAW.out _).mono ?_); rintro e wn ⟨rfl, hb⟩; replace H2 := Lib.hid (H2.out.below hb (Nat.le_refl _)); (try replace H3 := Lib.hid (H3.out.below hb (Nat.le_refl _))); (try replace SG := Lib.hid (SG.out.below hb (Nat.le_refl _))); (try replace SA := Lib.hid (SA.out.below hb (Nat.le_refl _))); (try replace SW := Lib.hid (SW.out.below hb (Nat.le_refl _))); (try replace SX := Lib.hid (SX.out.below hb (Nat.le_refl _))); replace HB := Lib.hid (HB.out.trans (hb.mono HB.out.size)); clear hb))
            go_returns
            exact ⟨rfl, HB.out⟩
          | false =>
            rw [hoc] at hcn
            obtain ⟨b1, b2⟩ := rep_back (X : Int) (Y : Int) t okt hoc
            have hbk := fun W v (h : MS W v ((repT (X : Int) Y t).enc 0)) => Subst_yes _ (repT (X : Int) Y t) v Y X W iY jY iX jX h fr rfl okr (by rw [Tr.enc_len])
            rw [substR_tree _ okr, if_neg (by rw [b1]; simp), b2, ← htF] at hbk
            have hem := fun W v u h1 h2 => equalMSO F F v u W h1 h2 (by omega)
            rw [decide_eq_true (rfl : F = F)] at hem
            generalize (repT (X : Int) Y t).enc 0 = G at *
            have HSU := Lib.hid hsu; have HGL := Lib.hid hgl; have HCN := Lib.hid hcn; have HFA := Lib.hid hfa; have HHA := Lib.hid hha; have HFG := Lib.hid hfg; have HWO := Lib.hid hwo; have HWI := Lib.hid hwi; have HEQ := Lib.hid heq; have HBK := Lib.hid hbk; have HEM := Lib.hid hem
            clear hsu hcn hfa hha hfg hwo hwi heq hbk hem hgl sa sw sx hsr hcap hcap2 hfr hoc hws fr okr b1 b2 htl htF htx hst lt1 okt hn1 hn
            generalize setOf (andn (wordT t 6) (2 ^ X) ||| 2 ^ Y) = LX at *
            generalize setOf (andn (wordT t 6) (2 ^ X)) = LW at *
            generalize setOf (wordT t 6) = LA at *
            go_wp2_with (first
              | (go_at_call 31; (with_reducible refine (HFM.out _ _ H2.out).mono ?_); rintro e wn ⟨rfl, hb⟩; replace H2 := Lib.hid (H2.out.below hb (Nat.le_refl _)); (try replace H3 := Lib.hid (H3.out.below hb (Nat.le_refl _))); (try replace SG := Lib.hid (SG.out.below hb (Nat.le_refl _))); (try replace SA := Lib.hid (SA.out.below hb (Nat.le_refl _))); (try replace SW := Lib.hid (SW.out.below hb (Nat.le_refl _))); (try replace SX := Lib.hid (SX.out.below hb (Nat.le_refl _))); replace HB := Lib.hid (HB.out.trans (hb.mono HB.out.size)); clear hb)
              | (go_at_call 21; (with_reducible refine (HBK.out _ _ H3.out).mono ?_); rintro e wn ⟨v4, rfl, hb, ho⟩; replace H2 := Lib.hid (H2.out.below hb (Nat.le_refl _)); (try replace H3 := Lib.hid (H3.out.below hb (Nat.le_refl _))); (try replace SG := Lib.hid (SG.out.below hb (Nat.le_refl _))); (try replace SA := Lib.hid (SA.out.below hb (Nat.le_refl _))); (try replace SW := Lib.hid (SW.out.below hb (Nat.le_refl _))); (try replace SX := Lib.hid (SX.out.below hb (Nat.le_refl _))); replace HB := Lib.hid (HB.out.trans (hb.mono HB.out.size)); have H4 := Lib.hid ho.ms; clear ho; clear hb)
              | (go_at_call 21; (with_reducible refine (HSU.out _ _ H2.out).mono ?_); rintro e wn ⟨v3, rfl, hb, ho⟩; replace H2 := Lib.hid (H2.out.below hb (Nat.le_refl _)); (try replace H3 := Lib.hid (H3.out.below hb (Nat.le_refl _))); (try replace SG := Lib.hid (SG.out.below hb (Nat.le_refl _))); (try replace SA := Lib.hid (SA.out.below hb (Nat.le_refl _))); (try replace SW := Lib.hid (SW.out.below hb (Nat.le_refl _))); (try replace SX := Lib.hid (SX.out.below hb (Nat.le_refl _))); replace HB := Lib.hid (HB.out.trans (hb.mono HB.out.size)); have H3 := Lib.hid ho.ms; obtain ⟨_, A3, c3, hvv, _⟩ := id ho.ms; rw [HGL.out] at hvv; subst hvv; clear ho; clear hb)
              | (go_at_call 16; (with_reducible refine (HFG.out _ _ H3.out).mono ?_); rintro e wn ⟨vSG, rfl, hb, ho⟩; replace H2 := Lib.hid (H2.out.below hb (Nat.le_refl _)); (try replace H3 := Lib.hid (H3.out.below hb (Nat.le_refl _))); (try replace SG := Lib.hid (SG.out.below hb (Nat.le_refl _))); (try replace SA := Lib.hid (SA.out.below hb (Nat.le_refl _))); (try replace SW := Lib.hid (SW.out.below hb (Nat.le_refl _))); (try replace SX := Lib.hid (SX.out.below hb (Nat.le_refl _))); replace HB := Lib.hid (HB.out.trans (hb.mono HB.out.size)); have SG := Lib.hid ho.us; clear ho; clear hb)
              | (go_at_call 16; (with_reducible refine (HFA.out _ _ H2.out).mono ?_); rintro e wn ⟨vSA, rfl, hb, ho⟩; replace H2 := Lib.hid (H2.out.below hb (Nat.le_refl _)); (try replace H3 := Lib.hid (H3.out.below hb (Nat.le_refl _))); (try replace SG := Lib.hid (SG.out.below hb (Nat.le_refl _))); (try replace SA := Lib.hid (SA.out.below hb (Nat.le_refl _))); (try replace SW := Lib.hid (SW.out.below hb (Nat.le_refl _))); (try replace SX := Lib.hid (SX.out.below hb (Nat.le_refl _))); replace HB := Lib.hid (HB.out.trans (hb.mono HB.out.size)); have SA := Lib.hid ho.us; clear ho; clear hb)
              | (go_at_call 43; (with_reducible refine (HHA.out _ _ SA.out).mono ?_); rintro e wn ⟨rfl, hb⟩; replace H2 := Lib.hid (H2.out.below hb (Nat.le_refl _)); (try replace H3 := Lib.hid (H3.out.below hb (Nat.le_refl _))); (try replace SG := Lib.hid (SG.out.below hb (Nat.le_refl _))); (try replace SA := Lib.hid (SA.out.below hb (Nat.le_refl _))); (try replace SW := Lib.hid (SW.out.below hb (Nat.le_refl _))); (try replace SX := Lib.hid (SX.out.below hb (Nat.le_refl _))); replace HB := Lib.hid (HB.out.trans (hb.mono HB.out.size)); clear hb)
              | (go_at_call 41; (with_reducible refine (HWO.out _ _ SA.out).mono ?_); rintro e wn ⟨vSW, rfl, hb, ho⟩; replace H2 := Lib.hid (H2.out.below hb (Nat.le_refl _)); (try replace H3 := Lib.hid (H3.out.below hb (Nat.le_refl _))); (try replace SG := Lib.hid (SG.out.below hb (Nat.le_refl _))); (try replace SA := Lib.hid (SA.out.below hb (Nat.le_refl _))); (try replace SW := Lib.hid (SW.out.below hb (Nat.le_refl _))); (try replace SX := Lib.hid (SX.out.below hb (Nat.le_refl _))); replace HB := Lib.hid (HB.out.trans (hb.mono HB.out.size)); have SW := Lib.hid ho; clear ho; clear hb)
              | (go_at_call 44; (with_reducible refine (HWI.out _ _ SW.out).mono ?_); rintro e wn ⟨vSX, rfl, hb, ho⟩; replace H2 := Lib.hid (H2.out.below hb (Nat.le_refl _)); (try replace H3 := Lib.hid (H3.out.below hb (Nat.le_refl _))); (try replace SG := Lib.hid (SG.out.below hb (Nat.le_refl _))); (try replace SA := Lib.hid (SA.out.below hb (Nat.le_refl _))); (try replace SW := Lib.hid (SW.out.below hb (Nat.le_refl _))); (try replace SX := Lib.hid (SX.out.below hb (Nat.le_refl _))); replace HB := Lib.hid (HB.out.trans (hb.mono HB.out.size)); have SX := Lib.hid ho; clear ho; clear hb)
              | (go_at_call 39; (with_reducible refine (HEQ.out _ _ _ SG.out SX.out).mono ?_); rintro e wn ⟨rfl, hb⟩; replace H2 := Lib.hid (H2.out.below hb (Nat.le_refl _)); (try replace H3 := Lib.hid (H3.out.below hb (Nat.le_refl _))); (try replace SG := Lib.hid (SG.out.below hb (Nat.le_refl _))); (try replace SA := Lib.hid (SA.out.below hb (Nat.le_refl _))); (try replace SW := Lib.hid (SW.out.below hb (Nat.le_refl _))); (try replace SX := Lib.hid (SX.out.below hb (Nat.le_refl _))); replace HB := Lib.hid (HB.out.trans (hb.mono HB.out.size)); clear hb)
              | (go_at_call 42; (with_reducible refine (HCN.out _).mono ?_); rintro e wn ⟨rfl, rfl⟩)
              | (go_at_call 25; (with_reducible refine (HEM.out _ _ _ H4.out H2.out).mono ?_); rintro e wn ⟨rfl, hb⟩; replace H2 := Lib.hid (H2.out.below hb (Nat.le_refl _)); (try replace H3 := Lib.hid (H3.out.below hb (Nat.le_refl _))); (try replace SG := Lib.hid (SG.out.below hb (Nat.le_refl _))); (try replace SA := Lib.hid (SA.out.below hb (Nat.le_refl _))); (try replace SW := Lib.hid (SW.out.below hb (Nat.le_refl _))); (try replace SX := Lib.hid (SX.out.below hb (Nat.le_refl _))); replace HB := Lib.hid (HB.out.trans (hb.mono HB.out.size)); clear hb)
              | (go_at_call 28; (with_reducible refine (HAW.out _).mono ?_); rintro e wn ⟨rfl, hb⟩; replace H2 := Lib.hid (H2.out.below hb (Nat.le_refl _)); (try replace H3 := Lib.hid (H3.out.below hb (Nat.le_refl _))); (try replace SG := Lib.hid (SG.out.below hb (Nat.le_refl _))); (try replace SA := Lib.hid (SA.out.below hb (Nat.le_refl _))); (try replace SW := Lib.hid (SW.out.below hb (Nat.le_refl _))); (try replace SX := Lib.hid (SX.out.below hb (Nat.le_refl _))); replace HB := Lib.hid (HB.out.trans (hb.mono HB.out.size)); clear hb))
            go_returns
            exact ⟨rfl, HB.out⟩
end Go.Proofs.YtbggpiednddheaaDoor
