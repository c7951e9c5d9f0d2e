/- MsoTextMatches: for every formula and every string the law returns true. -/
/- MsoJoinMatches: for every operator and all pairs of formulas the law returns true. -/
import Derived.Test.YtcjblbhmajdmjaaDoorRdrE
import Derived.Test.YtcjblbhmajdmjaaDoorRefE
import Derived.Test.YtcjblbhmajdmjaaDoorRow
import Derived.Test.YtcjblbhmajdmjaaDoorRefB
set_option linter.unusedSimpArgs false
set_option linter.unusedVariables false
namespace Go.Proofs.YtcjblbhmajdmjaaDoor
open Go.RowKit

set_option maxRecDepth 100000 in
set_option maxHeartbeats 1000000 in
theorem over_keep (f : List Mk) (v : Value) (B : Nat) (w : World) (hv : MO w B v f) :
    Calls Tryd.prog 25 #[v] w fun e w' => e = .returned (.tuple #[]) ∧ Keep (fun b => v.ownBlock = some b) w w' := by
  have hbd := agg99
  obtain ⟨n, hn⟩ : ∃ n, n = f.length := ⟨_, rfl⟩
  have hv2 := hv.2
  rw [← hn] at hv2
  clear hv hn
  by_cases h0 : n = 0
  · subst h0
    obtain ⟨A, c, rfl⟩ := over_nil_shape hv2
    clear hv2
    go_enter Tryd.func25, Tryd.ntmps25
    go_wp2
    go_rounds 1
    refine bodyPost_end (results_none rfl _ _ _) rfl ?_
    exact ⟨rfl, Keep.refl _ _⟩
  · obtain ⟨g, cap, cs, rfl, hBg, hr, hsz, hnm⟩ := own_row hv2 (by omega)
    clear hv2
    have HR0 := Lib.hid hr; clear hr
    have hS : (Value.slice (some ⟨g, 0, none⟩) n cap).ownBlock = some g := rfl
    rw [hS]
    clear hS
    go_enter Tryd.func25, Tryd.ntmps25
    go_wp2
    go_loopg [2] n (fun gk q wr => ∃ (k : Nat) (cs' : Array Value), k ≤ n ∧ gk = n - k ∧ q = .int .i64 k ∧ Keep (fun b => some g = some b) w wr ∧ Row wr g 23 cs' ∧ n * 5 ≤ cs'.size)
    case atStart => exact ⟨0, cs, Nat.zero_le _, rfl, rfl, Keep.refl _ _, HR0.out, hsz⟩
    case round =>
      obtain ⟨k, cs', hk, rfl, rfl, hb, hr, hs⟩ := hrel
      have HB := Lib.hid hb; clear hb
      by_cases hlt : k < n
      · obtain ⟨u0, c0⟩ := row_some hr (i := k * 5) (by omega)
        obtain ⟨u1, c1⟩ := row_some hr (i := k * 5 + 1) (by omega)
        obtain ⟨u2, c2⟩ := row_some hr (i := k * 5 + 2) (by omega)
        obtain ⟨u3, c3⟩ := row_some hr (i := k * 5 + 3) (by omega)
        obtain ⟨u4, c4⟩ := row_some hr (i := k * 5 + 4) (by omega)
        have fr := hr.free
        have HR := Lib.hid hr; clear hr
        go_wp2
        go_roundg (n - (k + 1))
        case rel => exact ⟨k + 1, _, by omega, rfl, by go_num, ((((HB.out.set (p := ⟨g, _, none⟩) (.inl rfl) _).set (p := ⟨g, _, none⟩) (.inl rfl) _).set (p := ⟨g, _, none⟩) (.inl rfl) _).set (p := ⟨g, _, none⟩) (.inl rfl) _).set (p := ⟨g, _, none⟩) (.inl rfl) _, ((((HR.out.set _ _).set _ _).set _ _).set _ _).set _ _, by simpa using hs⟩
        case measure => omega
      · go_wp2
        refine bodyPost_end (results_none rfl _ _ _) rfl ?_
        exact ⟨rfl, HB.out⟩

theorem equal_yes (f : List Mk) (hl : f.length ≤ 1000000) : ∀ W u x, MS W u f → MS W x f → Calls Tryd.prog 23 #[u, x] W fun e w' => e = .returned (.bool true) ∧ Below W.heap.size W w' := fun W u x h1 h2 => by
  have q := equalMSO f f u x W h1 h2 hl
  rw [decide_eq_true (rfl : f = f)] at q
  exact q
set_option maxRecDepth 100000 in
set_option maxHeartbeats 4000000 in
theorem text_cut (f : List Mk) (v : Value) (S T : ByteArray) (m : Nat) (w : World) (hv : MS w v f) (hm : (min (S.size : Int) 900).toNat = m) (hS : S.size ≤ 9223372036854775807) (hT : T = S.extract 0 m) :
    Calls Tryd.prog 7 #[v, .string S] w fun e w' => e = .returned (.bool true) ∧ Below w.heap.size w w' := by
  have hff := fun W (hb : Below w.heap.size w W) => few_any f v W (hv.below hb (Nat.le_refl _))
  have hlf : (f.take 70).length ≤ 70 := by rw [List.length_take]; omega
  generalize f.take 70 = F at *
  obtain ⟨TX, hTX⟩ : ∃ TX : ByteArray, Value.string TX = strV (if formedS F then textS F else []) := ⟨_, rfl⟩
  have hfm := fun W u (h : MS W u F) => Format_text F u W h
  have hrf := fun W u (h : MS W u F) => RFormat_any F u W h
  rw [← hTX] at hfm hrf
  generalize (if formedS F then (0 : Int) else 2) = er at *
  have hp := fun W => Parse_any T W
  have hrp := fun W => RParse_any T W
  have hpl := parse_len (bts T)
  generalize parseS (bts T) = r at *
  obtain ⟨fm, at_, pe⟩ := r
  simp only at hpl
  have HFF := Lib.hid hff; have HFM := Lib.hid hfm; have HRF := Lib.hid hrf; have HP := Lib.hid hp; have HRP := Lib.hid hrp
  have HEM := Lib.hid (equal_yes fm (by omega)); have HEF := Lib.hid (equal_yes F (by omega))
  clear hff hfm hrf hp hrp hpl hlf hTX
  obtain ⟨_, A, c, rfl, _⟩ := hv
  subst hm
  have HT := Lib.hid hT.symm
  clear hT
  have HB0 : Hid (Below w.heap.size w w) := Below.refl _ _
  go_enter Tryd.func7, Tryd.ntmps7
  go_wp2_with (first
    | (go_at_call 11; (with_reducible refine (HFF.out _ HB.out).mono ?_); rintro e w8 ⟨v8, rfl, hb, ho⟩; have HF2 := Lib.hid ho.ms; replace HC := Lib.hid (HC.out.below hb (Nat.le_refl _)); replace HD := Lib.hid (HD.out.below hb (Nat.le_refl _)); replace H7 := Lib.hid (H7.out.below hb (Nat.le_refl _)); replace HB := Lib.hid (HB.out.trans (hb.mono HB.out.size)); clear hb ho)
    | (go_at_call 11; (with_reducible refine (HFF.out _ HB0.out).mono ?_); rintro e w1 ⟨va, rfl, hb, ho⟩; have H7 := Lib.hid ho.ms; have HB := Lib.hid hb; clear hb ho)
    | (go_at_call 27; (with_reducible refine (HFM.out _ _ H7.out).mono ?_); rintro e w2 ⟨rfl, hb⟩; replace H7 := Lib.hid (H7.out.below hb (Nat.le_refl _)); replace HB := Lib.hid (HB.out.trans (hb.mono HB.out.size)); clear hb)
    | (go_at_call 28; (with_reducible refine (HRF.out _ _ H7.out).mono ?_); rintro e w3 ⟨rfl, hb⟩; replace H7 := Lib.hid (H7.out.below hb (Nat.le_refl _)); replace HB := Lib.hid (HB.out.trans (hb.mono HB.out.size)); clear hb)
    | (go_at_call 9; have hOV := HOV.out; (with_reducible refine (HP.out _).mono ?_); rintro e w9 ⟨v9, rfl, hb, ho⟩; have HX := Lib.hid ho.ms; replace HD := Lib.hid (HD.out.below hb (Nat.le_refl _)); replace HB := Lib.hid (HB.out.trans (hb.mono HB.out.size)); clear hb ho hOV)
    | (go_at_call 9; go_must (rw [HT.out]; refine (HP.out _).mono ?_; rintro e w4 ⟨vc, rfl, hb, ho⟩; have HC := Lib.hid ho; have HCB : Hid (∀ b, vc.ownBlock = some b → w.heap.size ≤ b) := fun b hb => Nat.le_trans HB.out.size (ho.own_lt b hb).1; replace H7 := Lib.hid (H7.out.below hb (Nat.le_refl _)); replace HB := Lib.hid (HB.out.trans (hb.mono HB.out.size)); clear hb ho))
    | (go_at_call 6; go_must (refine (HRP.out _).mono ?_; rintro e w5 ⟨vd, rfl, hb, ho⟩; have HD := Lib.hid ho.ms; have HAW : Hid (Away (fun b => vc.ownBlock = some b) vd) := fun b hb hc => (by have h1 := (ho.own_lt b hb).1; have h2 := (HC.out.own_lt b hc).2; omega); replace HC := Lib.hid (HC.out.below hb (Nat.le_refl _)); replace H7 := Lib.hid (H7.out.below hb (Nat.le_refl _)); replace HB := Lib.hid (HB.out.trans (hb.mono HB.out.size)); clear hb ho))
    | (go_at_call 23; (with_reducible refine (HEM.out _ _ _ HC.out.ms HD.out).mono ?_); rintro e w6 ⟨rfl, hb⟩; replace HC := Lib.hid (HC.out.below hb (Nat.le_refl _)); replace HD := Lib.hid (HD.out.below hb (Nat.le_refl _)); replace H7 := Lib.hid (H7.out.below hb (Nat.le_refl _)); replace HB := Lib.hid (HB.out.trans (hb.mono HB.out.size)); clear hb)
    | (go_at_call 23; (with_reducible refine (HEM.out _ _ _ HX.out HD.out).mono ?_); rintro e w10 ⟨rfl, hb⟩; replace HB := Lib.hid (HB.out.trans (hb.mono HB.out.size)); clear hb)
    | (go_at_call 23; (with_reducible refine (HEF.out _ _ _ H7.out HF2.out).mono ?_); rintro e w7 ⟨rfl, hb⟩; replace HC := Lib.hid (HC.out.below hb (Nat.le_refl _)); replace HD := Lib.hid (HD.out.below hb (Nat.le_refl _)); replace HB := Lib.hid (HB.out.trans (hb.mono HB.out.size)); clear hb)
    | (go_at_call 25; go_must (refine (over_keep fm _ _ _ HC.out).mono ?_; rintro e w11 ⟨rfl, hk⟩; replace HD := Lib.hid (HD.out.keep HAW.out hk); replace HB := Lib.hid (HB.out.trans (hk.below_le HB.out.size HCB.out)); have HOV : Hid True := trivial; clear hk))
    | (go_at_call 10; go_must (refine (awake_any _).mono ?_; rintro e w12 ⟨rfl, hb⟩; replace HB := Lib.hid (HB.out.trans (hb.mono HB.out.size)); clear hb)))
  go_returns
  exact ⟨rfl, HB.out⟩
theorem textm_any (f : List Mk) (S : ByteArray) (v : Value) (w : World) (hv : MS w v f) (hS : S.size ≤ maxLen) :
    Calls Tryd.prog 7 #[v, .string S] w fun e w' => e = .returned (.bool true) ∧ Below w.heap.size w w' := by
  unfold maxLen at hS
  exact text_cut f v S _ _ w hv rfl hS rfl
end Go.Proofs.YtcjblbhmajdmjaaDoor

namespace Go.Proofs.YtcjblbhmajdmjaaDoor
open Go.RowKit

theorem joinS_len (op : Int) (f h : List Mk) (hf : f.length ≤ 70) (hh : h.length ≤ 70) : (joinS op f h).1.length ≤ 1000000 := by
  unfold joinS
  split
  · simp
  split
  · simp
  split
  · simp
  · simp only [List.length_append, List.length_map, List.length_singleton]; omega
theorem equal_true (f : List Mk) (hl : f.length ≤ 1000000) : ∀ W u x, MS W u f → MS W x f → Calls Tryd.prog 23 #[u, x] W fun e w' => e = .returned (.bool true) ∧ Below W.heap.size W w' := fun W u x h1 h2 => by
  have q := equalMSO f f u x W h1 h2 hl
  rw [decide_eq_true (rfl : f = f)] at q
  exact q

set_option maxRecDepth 100000 in
set_option maxHeartbeats 4000000 in
theorem joinm_any (op : Int) (f g : List Mk) (v u : Value) (w : World) (hv : MS w v f) (hu : MS w u g) (h0 : 0 ≤ op) (h1 : op ≤ 255) :
    Calls Tryd.prog 8 #[.int .u8 op, v, u] w fun e w' => e = .returned (.bool true) ∧ Below w.heap.size w w' := by
  have hff := fun W (hb : Below w.heap.size w W) => few_any f v W (hv.below hb (Nat.le_refl _))
  have hfg := fun W (hb : Below w.heap.size w W) => few_any g u W (hu.below hb (Nat.le_refl _))
  have hlf : (f.take 70).length ≤ 70 := by rw [List.length_take]; omega
  have hlg : (g.take 70).length ≤ 70 := by rw [List.length_take]; omega
  generalize f.take 70 = F at *
  generalize g.take 70 = G at *
  have hj := fun W a b (ha : MS W a F) (hb : MS W b G) => Join_any op F G a b W ha hb h0 h1
  have hrj := fun W a b (ha : MS W a F) (hb : MS W b G) => RJoin_any op F G a b W ha hb h0 h1
  have hjl := joinS_len op F G hlf hlg
  generalize (joinS op F G).1 = r at *
  generalize (joinS op F G).2 = er at *
  have HFF := Lib.hid hff; have HFG := Lib.hid hfg; have HJ := Lib.hid hj; have HRJ := Lib.hid hrj
  have HER := Lib.hid (equal_true r hjl); have HEF := Lib.hid (equal_true F (by omega)); have HEG := Lib.hid (equal_true G (by omega))
  clear hff hfg hj hrj hjl hlf hlg
  obtain ⟨_, A, c, rfl, _⟩ := hv
  obtain ⟨_, A2, c2, rfl, _⟩ := hu
  go_enter Tryd.func8, Tryd.ntmps8
  have HB0 : Hid (Below w.heap.size w w) := Below.refl _ _
  go_wp2_with (first
    | (go_at_call 11; (with_reducible refine (HFG.out _ HB1.out).mono ?_); rintro e w2 ⟨vb, rfl, hb, ho⟩; have H8 := Lib.hid ho.ms; replace H7 := Lib.hid (H7.out.below hb (Nat.le_refl _)); have HB2 := Lib.hid (HB1.out.trans (hb.mono HB1.out.size)); clear hb ho)
    | (go_at_call 11; (with_reducible refine (HFF.out _ HB0.out).mono ?_); rintro e w1 ⟨va, rfl, hb, ho⟩; have H7 := Lib.hid ho.ms; have HB1 := Lib.hid hb; clear hb ho))
  go_loopg [9] 2 (fun gk q wr => ∃ j : Nat, j ≤ 2 ∧ gk = 2 - j ∧ q = .int .i64 j ∧ Below w.heap.size w wr ∧ MS wr va F ∧ MS wr vb G)
  case atStart => exact ⟨0, by omega, rfl, rfl, HB2.out, H7.out, H8.out⟩
  case round =>
    obtain ⟨j, hj, rfl, rfl, hb, h7, h8⟩ := hrel
    clear H7 H8
    have HBW := Lib.hid hb; have H7 := Lib.hid h7; have H8 := Lib.hid h8
    clear hb h7 h8
    by_cases hlt : j < 2
    · go_wp2_with (first
        | (go_at_call 29; go_must (refine (HJ.out _ _ _ H7.out H8.out).mono ?_; rintro e w5 ⟨v5, rfl, hb, ho⟩; have HX := Lib.hid ho; have HBR := Lib.hid hb; clear hb ho))
        | (go_at_call 30; go_must (refine (HRJ.out _ _ _ (H7.out.below HBR.out (Nat.le_refl _)) (H8.out.below HBR.out (Nat.le_refl _))).mono ?_; rintro e w6 ⟨v6, rfl, hb, ho⟩; have HY := Lib.hid ho.ms; replace HX := Lib.hid (HX.out.below hb (Nat.le_refl _)); replace HBR := Lib.hid (HBR.out.trans (hb.mono HBR.out.size)); clear hb ho))
        | (go_at_call 23; (with_reducible refine (HEG.out _ _ _ (H8.out.below HBR.out (Nat.le_refl _)) HG2.out).mono ?_); rintro e w7 ⟨rfl, hb⟩; replace HX := Lib.hid (HX.out.below hb (Nat.le_refl _)); replace HBR := Lib.hid (HBR.out.trans (hb.mono HBR.out.size)); clear hb)
        | (go_at_call 23; (with_reducible refine (HEF.out _ _ _ (H7.out.below HBR.out (Nat.le_refl _)) HF2.out).mono ?_); rintro e w7 ⟨rfl, hb⟩; replace HX := Lib.hid (HX.out.below hb (Nat.le_refl _)); replace HBR := Lib.hid (HBR.out.trans (hb.mono HBR.out.size)); clear hb)
        | (go_at_call 23; (with_reducible refine (HER.out _ _ _ HX.out.ms HY.out).mono ?_); rintro e w7 ⟨rfl, hb⟩; replace HX := Lib.hid (HX.out.below hb (Nat.le_refl _)); replace HBR := Lib.hid (HBR.out.trans (hb.mono HBR.out.size)); clear hb)
        | (go_at_call 11; (with_reducible refine (HFF.out _ (HBW.out.trans (HBR.out.mono HBW.out.size))).mono ?_); rintro e w8 ⟨v8, rfl, hb, ho⟩; have HF2 := Lib.hid ho.ms; replace HX := Lib.hid (HX.out.below hb (Nat.le_refl _)); replace HBR := Lib.hid (HBR.out.trans (hb.mono HBR.out.size)); clear hb ho)
        | (go_at_call 11; (with_reducible refine (HFG.out _ (HBW.out.trans (HBR.out.mono HBW.out.size))).mono ?_); rintro e w9 ⟨v9, rfl, hb, ho⟩; have HG2 := Lib.hid ho.ms; replace HX := Lib.hid (HX.out.below hb (Nat.le_refl _)); replace HBR := Lib.hid (HBR.out.trans (hb.mono HBR.out.size)); clear hb ho)
        | (go_at_call 25; go_must (refine (over_mso r _ _ _ HX.out HBR.out.size).mono ?_; rintro e w10 ⟨rfl, hb⟩; replace HBR := Lib.hid (HBR.out.trans hb); clear hb)))
      go_roundg (2 - (j + 1))
      case rel => exact ⟨j + 1, by omega, rfl, by go_num, HBW.out.trans (HBR.out.mono HBW.out.size), H7.out.below HBR.out (Nat.le_refl _), H8.out.below HBR.out (Nat.le_refl _)⟩
      case measure => omega
    · go_wp2_with (go_at_call 10; go_must (refine (awake_any _).mono ?_; rintro e w11 ⟨rfl, hb⟩; replace HBW := Lib.hid (HBW.out.trans (hb.mono HBW.out.size)); clear hb))
      go_returns
      exact ⟨rfl, HBW.out⟩
end Go.Proofs.YtcjblbhmajdmjaaDoor
