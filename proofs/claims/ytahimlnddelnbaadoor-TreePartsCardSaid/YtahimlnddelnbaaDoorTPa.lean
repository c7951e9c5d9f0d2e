/- TreeParts: for every tree the law returns true. -/
import Derived.Test.YtahimlnddelnbaaDoorTMi
set_option linter.unusedSimpArgs false
set_option linter.unusedVariables false
namespace Go.Proofs.YtahimlnddelnbaaDoor
open Go.RowKit

theorem leafc {W : World} {g o n c k : Nat} {t : List Lf} {lb xl xr : Int} (h : TS W (.slice (some ⟨g, o, none⟩) n c) t) (ht : t[k]? = some ⟨lb, xl, xr⟩) :
    W.cell? ⟨g, o + k * 3, none⟩ = some (.int .u8 lb) ∧ W.cell? ⟨g, o + k * 3 + 1, none⟩ = some (.int .i64 xl) ∧ W.cell? ⟨g, o + k * 3 + 2, none⟩ = some (.int .i64 xr) ∧ g < W.heap.size := by
  have h3 := h.at3 ht
  refine ⟨h3.1, h3.2.1, h3.2.2, ?_⟩
  obtain ⟨_, A, c', hv, _, _, h5⟩ := h
  obtain ⟨b, o, hA, hb, _⟩ := h5 (by have := (List.getElem?_eq_some_iff.1 ht).1; omega)
  simp only [Value.slice.injEq] at hv
  have := hv.1.trans hA
  simp at this
  omega
abbrev CSnd (a : List Lf) (q : Bool) : Prop := ∀ W v, TS W v a → Calls Tryd.prog 47 #[v] W fun e w' => e = .returned (.bool q) ∧ Below W.heap.size W w'
set_option maxRecDepth 100000 in
set_option maxHeartbeats 8000000 in
theorem tparts_bad (haw : CAwake) (l : List Lf) (v : Value) (w : World) (hv : TS w v l) (hf : formedT (l.take 40) = false) :
    Calls Tryd.prog 11 #[v] w fun e w' => e = .returned (.bool true) ∧ Below w.heap.size w w' := by
  have HV := Lib.hid hv; have HB := Lib.hid (Below.refl w.heap.size w)
  have HFL := Lib.hid (show CFew l (l.take 40) from fun W v h => few15_any l v W h)
  have HNA := Lib.hid (show RetN (l.take 40) _ from fun W e W' h => ret_to _ rfl h)
  have HS := Lib.hid (show CSnd (l.take 40) false from fun W v h => by have q := sound_any _ v W h; rw [hf] at q; exact q)
  have HAW := Lib.hid haw
  generalize l.take 40 = a at *
  obtain ⟨n, hn⟩ : ∃ n, n = a.length := ⟨_, rfl⟩
  rw [← hn] at HNA
  obtain ⟨A0, c0, rfl⟩ := hv.form
  obtain ⟨l9, hl9⟩ : ∃ k, k = l.length := ⟨_, rfl⟩
  rw [← hl9] at HV ⊢
  clear hv hf hn hl9 haw
  go_enter Tryd.func11, Tryd.ntmps11
  go_wp2_with (first
    | (go_at_call 22; (with_reducible refine (HFL.out _ _ (HV.out.to (by go_grown))).mono ?_); rintro e wx hx; obtain ⟨AHA, cHA, rfl, hb, hq⟩ := HNA.out _ _ _ hx; clear hx; replace HB := Lib.hid (chainL HB.out (by go_grown) hb); (first | (replace HV := Lib.hid (TS.step HV.out (by go_grown) hb)) | skip); (first | (replace HA := Lib.hid (TS.step HA.out (by go_grown) hb)) | skip); have HA := Lib.hid hq; clear hq; clear hb)
    | (go_at_call 47; (with_reducible refine (HS.out _ _ (HA.out.to (by go_grown))).mono ?_); rintro e wx ⟨rfl, hb⟩; replace HB := Lib.hid (chainL HB.out (by go_grown) hb); (first | (replace HV := Lib.hid (TS.step HV.out (by go_grown) hb)) | skip); (first | (replace HA := Lib.hid (TS.step HA.out (by go_grown) hb)) | skip); clear hb)
    | (go_at_call 35; (with_reducible refine (HAW.out _).mono ?_); rintro e wx ⟨rfl, hb⟩; replace HB := Lib.hid (chainL HB.out (by go_grown) hb); (first | (replace HV := Lib.hid (TS.step HV.out (by go_grown) hb)) | skip); (first | (replace HA := Lib.hid (TS.step HA.out (by go_grown) hb)) | skip); clear hb))
  go_returns
  exact ⟨rfl, HB.out⟩

set_option maxRecDepth 100000 in
set_option maxHeartbeats 16000000 in
theorem tparts_good (haw : CAwake) (l : List Lf) (v : Value) (w : World) (hv : TS w v l) (hf : formedT (l.take 40) = true) :
    Calls Tryd.prog 11 #[v] w fun e w' => e = .returned (.bool true) ∧ Below w.heap.size w w' := by
  have HV := Lib.hid hv; have HB := Lib.hid (Below.refl w.heap.size w)
  have HFL := Lib.hid (show CFew l (l.take 40) from fun W v h => few15_any l v W h)
  have HNA := Lib.hid (show RetN (l.take 40) _ from fun W e W' h => ret_to _ rfl h)
  have HS := Lib.hid (show CSnd (l.take 40) true from fun W v h => by have q := sound_any _ v W h; rw [hf] at q; exact q)
  have HAW := Lib.hid haw
  have hlb : ∀ m ∈ l.take 40, 0 ≤ m.label ∧ m.label ≤ 255 := fun m hm => hv.lb m (List.mem_of_mem_take hm)
  have h31 := (btOf_ok hf).1
  generalize l.take 40 = a at *
  obtain ⟨n, hn⟩ : ∃ n, n = a.length := ⟨_, rfl⟩
  rw [← hn] at HNA h31
  have HPL := Lib.hid (fun (i : Nat) (x : Lf) (hx : a[i]? = some x) => parts_law hf hx)
  have HLB := Lib.hid hlb
  have HN := Lib.hid hn
  obtain ⟨A0, c0, rfl⟩ := hv.form
  obtain ⟨l9, hl9⟩ : ∃ k, k = l.length := ⟨_, rfl⟩
  rw [← hl9] at HV ⊢
  clear hv hf hn hl9 haw hlb
  go_enter Tryd.func11, Tryd.ntmps11
  go_wp2_with (first
    | (go_at_call 22; (with_reducible refine (HFL.out _ _ (HV.out.to (by go_grown))).mono ?_); rintro e wx hx; obtain ⟨AHA, cHA, rfl, hb, hq⟩ := HNA.out _ _ _ hx; clear hx; replace HB := Lib.hid (chainL HB.out (by go_grown) hb); (first | (replace HV := Lib.hid (TS.step HV.out (by go_grown) hb)) | skip); (first | (replace HA := Lib.hid (TS.step HA.out (by go_grown) hb)) | skip); have HA := Lib.hid hq; clear hq; clear hb)
    | (go_at_call 47; (with_reducible refine (HS.out _ _ (HA.out.to (by go_grown))).mono ?_); rintro e wx ⟨rfl, hb⟩; replace HB := Lib.hid (chainL HB.out (by go_grown) hb); (first | (replace HV := Lib.hid (TS.step HV.out (by go_grown) hb)) | skip); (first | (replace HA := Lib.hid (TS.step HA.out (by go_grown) hb)) | skip); clear hb))
  clear HFL HNA HS
  obtain ⟨wc, hwc⟩ : ∃ x, x = wx := ⟨_, rfl⟩
  subst hwc
  go_loopg [4] n (fun gk q wr => ∃ k : Nat, k ≤ n ∧ gk = n - k ∧ q = .int .i64 k ∧ Below wc.heap.size wc wr)
  case atStart => exact ⟨0, Nat.zero_le _, rfl, rfl, Below.refl _ _⟩
  case round =>
    obtain ⟨k, hk, rfl, rfl, hbe⟩ := hrel
    replace HB := Lib.hid (chainL HB.out (Below.refl _ _) hbe)
    replace HA := Lib.hid (HA.out.to hbe)
    have HBC := Lib.hid hbe
    clear hbe HV
    by_cases hlt : k < n
    · obtain ⟨x, hx⟩ : ∃ x, a[k]? = some x := ⟨a[k]'(by rw [← HN.out]; exact hlt), List.getElem?_eq_getElem _⟩
      obtain ⟨l1, l2⟩ := HLB.out x (List.mem_of_getElem? hx)
      obtain ⟨sl, sr, e1, e2, e3, e4⟩ := HPL.out k x hx
      obtain ⟨b, o, rfl⟩ := HA.out.addr (by rw [← HN.out]; omega)
      obtain ⟨lb, xl, xr⟩ := x
      simp only at e1 e2 e3 e4 l1 l2
      have HAR := Lib.hid hx
      obtain ⟨HA0, HA1, HA2, HAz⟩ := leafc HA.out HAR.out
      have HCX := Lib.hid (show CSub a k (joinT lb sl sr) 0 from fun W v h => by have q := Subtree_any a v k W h; rw [e3] at q; exact q)
      have HCJ := Lib.hid (show CJoin lb sl sr (joinT lb sl sr) 0 from fun W va vb h1' h2' => by have q := TJoin_any lb sl sr va vb W h1' h2' l1 l2; rw [e4] at q; exact q)
      have HNL := Lib.hid (show RetTN sl 0 _ from fun W e W' h => ret_tt _ rfl h)
      have HNR := Lib.hid (show RetTN sr 0 _ from fun W e W' h => ret_tt _ rfl h)
      have HNJ := Lib.hid (show RetTN (joinT lb sl sr) 0 _ from fun W e W' h => ret_tt _ rfl h)
      have hjl : (joinT lb sl sr).length ≤ 1000000 := by
        rw [joinT_len]
        have hz := joinE_zero (a := sl) (b := sr) (lab := lb) (by rw [e4])
        omega
      have HEQ := Lib.hid (eq_yes _ hjl)
      have HSL := Lib.hid (show xl ≠ -1 → CSub a xl sl 0 from fun hne W v h => by have q := Subtree_any a v xl W h; rw [if_neg hne] at e1; rw [e1] at q; exact q)
      have HSR := Lib.hid (show xr ≠ -1 → CSub a xr sr 0 from fun hne W v h => by have q := Subtree_any a v xr W h; rw [if_neg hne] at e2; rw [e2] at q; exact q)
      have HL0 := Lib.hid (show xl = -1 → sl = [] from fun h => by rw [if_pos h] at e1; exact (congrArg Prod.fst e1).symm)
      have HR0 := Lib.hid (show xr = -1 → sr = [] from fun h => by rw [if_pos h] at e2; exact (congrArg Prod.fst e2).symm)
      generalize joinT lb sl sr = tj at *
      obtain ⟨nj, hnj⟩ : ∃ k, k = tj.length := ⟨_, rfl⟩
      obtain ⟨nl, hnl⟩ : ∃ k, k = sl.length := ⟨_, rfl⟩
      obtain ⟨nr, hnr⟩ : ∃ k, k = sr.length := ⟨_, rfl⟩
      rw [← hnj] at HNJ
      rw [← hnl] at HNL
      rw [← hnr] at HNR
      clear hx e1 e2 e3 e4 hjl hnj hnl hnr l1 l2 HAW HPL HLB
      by_cases hl : xl = -1
      · obtain rfl := HL0.out hl
        subst hl
        clear HSL HL0 HNL
        by_cases hr : xr = -1
        · obtain rfl := HR0.out hr
          subst hr
          clear HSR HR0 HNR
          go_wp2_with (first
    | (go_at_call 29; (with_reducible refine (HCX.out _ _ (HA.out.to (by go_grown))).mono ?_); rintro e wx hx; obtain ⟨AHX, cHX, rfl, hb, hq⟩ := HNJ.out _ _ _ hx; clear hx; replace HB := Lib.hid (chainL HB.out (by go_grown) hb); (first | (replace HA := Lib.hid (TS.step HA.out (by go_grown) hb)) | skip); (first | (replace HSUL := Lib.hid (TS.step HSUL.out (by go_grown) hb)) | skip); (first | (replace HSUR := Lib.hid (TS.step HSUR.out (by go_grown) hb)) | skip); (first | (replace HX := Lib.hid (TS.step HX.out (by go_grown) hb)) | skip); (first | (replace HY := Lib.hid (TS.step HY.out (by go_grown) hb)) | skip); have HX := Lib.hid hq; clear hq; (first | (clear HA0 HA1 HA2 HAz; obtain ⟨HA0, HA1, HA2, HAz⟩ := leafc HA.out HAR.out) | skip); replace HBC := Lib.hid (chainL HBC.out (by go_grown) hb); clear hb)
    | (go_at_call 36; (with_reducible refine (HCJ.out _ _ _ (TS.nil _) (TS.nil _)).mono ?_); rintro e wx hx; obtain ⟨AHY, cHY, rfl, hb, hq⟩ := HNJ.out _ _ _ hx; clear hx; replace HB := Lib.hid (chainL HB.out (by go_grown) hb); (first | (replace HA := Lib.hid (TS.step HA.out (by go_grown) hb)) | skip); (first | (replace HSUL := Lib.hid (TS.step HSUL.out (by go_grown) hb)) | skip); (first | (replace HSUR := Lib.hid (TS.step HSUR.out (by go_grown) hb)) | skip); (first | (replace HX := Lib.hid (TS.step HX.out (by go_grown) hb)) | skip); (first | (replace HY := Lib.hid (TS.step HY.out (by go_grown) hb)) | skip); have HY := Lib.hid hq; clear hq; (first | (clear HA0 HA1 HA2 HAz; obtain ⟨HA0, HA1, HA2, HAz⟩ := leafc HA.out HAR.out) | skip); replace HBC := Lib.hid (chainL HBC.out (by go_grown) hb); clear hb)
    | (go_at_call 33; (with_reducible refine (HEQ.out _ _ _ (HX.out.to (by go_grown)) (HY.out.to (by go_grown))).mono ?_); rintro e wx ⟨rfl, hb⟩; replace HB := Lib.hid (chainL HB.out (by go_grown) hb); (first | (replace HA := Lib.hid (TS.step HA.out (by go_grown) hb)) | skip); (first | (replace HSUL := Lib.hid (TS.step HSUL.out (by go_grown) hb)) | skip); (first | (replace HSUR := Lib.hid (TS.step HSUR.out (by go_grown) hb)) | skip); (first | (replace HX := Lib.hid (TS.step HX.out (by go_grown) hb)) | skip); (first | (replace HY := Lib.hid (TS.step HY.out (by go_grown) hb)) | skip); (first | (clear HA0 HA1 HA2 HAz; obtain ⟨HA0, HA1, HA2, HAz⟩ := leafc HA.out HAR.out) | skip); replace HBC := Lib.hid (chainL HBC.out (by go_grown) hb); clear hb))
          go_roundg (n - (k + 1))
          case rel => exact ⟨k + 1, by omega, rfl, by go_num, HBC.out⟩
          case measure => omega
        · have hr1 : (xr != -1) = true := by simp [hr]
          have hr2 : (xr == -1) = false := by simp [hr]
          replace HSR := Lib.hid (show CSub a xr sr 0 from HSR.out hr)
          clear HR0 hr
          go_wp2_with (first
    | (go_at_call 29; (with_reducible refine (HSR.out _ _ (HA.out.to (by go_grown))).mono ?_); rintro e wx hx; obtain ⟨AHSUR, cHSUR, rfl, hb, hq⟩ := HNR.out _ _ _ hx; clear hx; replace HB := Lib.hid (chainL HB.out (by go_grown) hb); (first | (replace HA := Lib.hid (TS.step HA.out (by go_grown) hb)) | skip); (first | (replace HSUL := Lib.hid (TS.step HSUL.out (by go_grown) hb)) | skip); (first | (replace HSUR := Lib.hid (TS.step HSUR.out (by go_grown) hb)) | skip); (first | (replace HX := Lib.hid (TS.step HX.out (by go_grown) hb)) | skip); (first | (replace HY := Lib.hid (TS.step HY.out (by go_grown) hb)) | skip); have HSUR := Lib.hid hq; clear hq; (first | (clear HA0 HA1 HA2 HAz; obtain ⟨HA0, HA1, HA2, HAz⟩ := leafc HA.out HAR.out) | skip); replace HBC := Lib.hid (chainL HBC.out (by go_grown) hb); clear hb)
    | (go_at_call 29; (with_reducible refine (HCX.out _ _ (HA.out.to (by go_grown))).mono ?_); rintro e wx hx; obtain ⟨AHX, cHX, rfl, hb, hq⟩ := HNJ.out _ _ _ hx; clear hx; replace HB := Lib.hid (chainL HB.out (by go_grown) hb); (first | (replace HA := Lib.hid (TS.step HA.out (by go_grown) hb)) | skip); (first | (replace HSUL := Lib.hid (TS.step HSUL.out (by go_grown) hb)) | skip); (first | (replace HSUR := Lib.hid (TS.step HSUR.out (by go_grown) hb)) | skip); (first | (replace HX := Lib.hid (TS.step HX.out (by go_grown) hb)) | skip); (first | (replace HY := Lib.hid (TS.step HY.out (by go_grown) hb)) | skip); have HX := Lib.hid hq; clear hq; (first | (clear HA0 HA1 HA2 HAz; obtain ⟨HA0, HA1, HA2, HAz⟩ := leafc HA.out HAR.out) | skip); replace HBC := Lib.hid (chainL HBC.out (by go_grown) hb); clear hb)
    | (go_at_call 36; (with_reducible refine (HCJ.out _ _ _ (TS.nil _) (HSUR.out.to (by go_grown))).mono ?_); rintro e wx hx; obtain ⟨AHY, cHY, rfl, hb, hq⟩ := HNJ.out _ _ _ hx; clear hx; replace HB := Lib.hid (chainL HB.out (by go_grown) hb); (first | (replace HA := Lib.hid (TS.step HA.out (by go_grown) hb)) | skip); (first | (replace HSUL := Lib.hid (TS.step HSUL.out (by go_grown) hb)) | skip); (first | (replace HSUR := Lib.hid (TS.step HSUR.out (by go_grown) hb)) | skip); (first | (replace HX := Lib.hid (TS.step HX.out (by go_grown) hb)) | skip); (first | (replace HY := Lib.hid (TS.step HY.out (by go_grown) hb)) | skip); have HY := Lib.hid hq; clear hq; (first | (clear HA0 HA1 HA2 HAz; obtain ⟨HA0, HA1, HA2, HAz⟩ := leafc HA.out HAR.out) | skip); replace HBC := Lib.hid (chainL HBC.out (by go_grown) hb); clear hb)
    | (go_at_call 33; (with_reducible refine (HEQ.out _ _ _ (HX.out.to (by go_grown)) (HY.out.to (by go_grown))).mono ?_); rintro e wx ⟨rfl, hb⟩; replace HB := Lib.hid (chainL HB.out (by go_grown) hb); (first | (replace HA := Lib.hid (TS.step HA.out (by go_grown) hb)) | skip); (first | (replace HSUL := Lib.hid (TS.step HSUL.out (by go_grown) hb)) | skip); (first | (replace HSUR := Lib.hid (TS.step HSUR.out (by go_grown) hb)) | skip); (first | (replace HX := Lib.hid (TS.step HX.out (by go_grown) hb)) | skip); (first | (replace HY := Lib.hid (TS.step HY.out (by go_grown) hb)) | skip); (first | (clear HA0 HA1 HA2 HAz; obtain ⟨HA0, HA1, HA2, HAz⟩ := leafc HA.out HAR.out) | skip); replace HBC := Lib.hid (chainL HBC.out (by go_grown) hb); clear hb))
          go_roundg (n - (k + 1))
          case rel => exact ⟨k + 1, by omega, rfl, by go_num, HBC.out⟩
          case measure => omega
      · have hl1 : (xl != -1) = true := by simp [hl]
        have hl2 : (xl == -1) = false := by simp [hl]
        replace HSL := Lib.hid (show CSub a xl sl 0 from HSL.out hl)
        clear HL0 hl
        by_cases hr : xr = -1
        · obtain rfl := HR0.out hr
          subst hr
          clear HSR HR0 HNR
          go_wp2_with (first
    | (go_at_call 29; (with_reducible refine (HSL.out _ _ (HA.out.to (by go_grown))).mono ?_); rintro e wx hx; obtain ⟨AHSUL, cHSUL, rfl, hb, hq⟩ := HNL.out _ _ _ hx; clear hx; replace HB := Lib.hid (chainL HB.out (by go_grown) hb); (first | (replace HA := Lib.hid (TS.step HA.out (by go_grown) hb)) | skip); (first | (replace HSUL := Lib.hid (TS.step HSUL.out (by go_grown) hb)) | skip); (first | (replace HSUR := Lib.hid (TS.step HSUR.out (by go_grown) hb)) | skip); (first | (replace HX := Lib.hid (TS.step HX.out (by go_grown) hb)) | skip); (first | (replace HY := Lib.hid (TS.step HY.out (by go_grown) hb)) | skip); have HSUL := Lib.hid hq; clear hq; (first | (clear HA0 HA1 HA2 HAz; obtain ⟨HA0, HA1, HA2, HAz⟩ := leafc HA.out HAR.out) | skip); replace HBC := Lib.hid (chainL HBC.out (by go_grown) hb); clear hb)
    | (go_at_call 29; (with_reducible refine (HCX.out _ _ (HA.out.to (by go_grown))).mono ?_); rintro e wx hx; obtain ⟨AHX, cHX, rfl, hb, hq⟩ := HNJ.out _ _ _ hx; clear hx; replace HB := Lib.hid (chainL HB.out (by go_grown) hb); (first | (replace HA := Lib.hid (TS.step HA.out (by go_grown) hb)) | skip); (first | (replace HSUL := Lib.hid (TS.step HSUL.out (by go_grown) hb)) | skip); (first | (replace HSUR := Lib.hid (TS.step HSUR.out (by go_grown) hb)) | skip); (first | (replace HX := Lib.hid (TS.step HX.out (by go_grown) hb)) | skip); (first | (replace HY := Lib.hid (TS.step HY.out (by go_grown) hb)) | skip); have HX := Lib.hid hq; clear hq; (first | (clear HA0 HA1 HA2 HAz; obtain ⟨HA0, HA1, HA2, HAz⟩ := leafc HA.out HAR.out) | skip); replace HBC := Lib.hid (chainL HBC.out (by go_grown) hb); clear hb)
    | (go_at_call 36; (with_reducible refine (HCJ.out _ _ _ (HSUL.out.to (by go_grown)) (TS.nil _)).mono ?_); rintro e wx hx; obtain ⟨AHY, cHY, rfl, hb, hq⟩ := HNJ.out _ _ _ hx; clear hx; replace HB := Lib.hid (chainL HB.out (by go_grown) hb); (first | (replace HA := Lib.hid (TS.step HA.out (by go_grown) hb)) | skip); (first | (replace HSUL := Lib.hid (TS.step HSUL.out (by go_grown) hb)) | skip); (first | (replace HSUR := Lib.hid (TS.step HSUR.out (by go_grown) hb)) | skip); (first | (replace HX := Lib.hid (TS.step HX.out (by go_grown) hb)) | skip); (first | (replace HY := Lib.hid (TS.step HY.out (by go_grown) hb)) | skip); have HY := Lib.hid hq; clear hq; (first | (clear HA0 HA1 HA2 HAz; obtain ⟨HA0, HA1, HA2, HAz⟩ := leafc HA.out HAR.out) | skip); replace HBC := Lib.hid (chainL HBC.out (by go_grown) hb); clear hb)
    | (go_at_call 33; (with_reducible refine (HEQ.out _ _ _ (HX.out.to (by go_grown)) (HY.out.to (by go_grown))).mono ?_); rintro e wx ⟨rfl, hb⟩; replace HB := Lib.hid (chainL HB.out (by go_grown) hb); (first | (replace HA := Lib.hid (TS.step HA.out (by go_grown) hb)) | skip); (first | (replace HSUL := Lib.hid (TS.step HSUL.out (by go_grown) hb)) | skip); (first | (replace HSUR := Lib.hid (TS.step HSUR.out (by go_grown) hb)) | skip); (first | (replace HX := Lib.hid (TS.step HX.out (by go_grown) hb)) | skip); (first | (replace HY := Lib.hid (TS.step HY.out (by go_grown) hb)) | skip); (first | (clear HA0 HA1 HA2 HAz; obtain ⟨HA0, HA1, HA2, HAz⟩ := leafc HA.out HAR.out) | skip); replace HBC := Lib.hid (chainL HBC.out (by go_grown) hb); clear hb))
          go_roundg (n - (k + 1))
          case rel => exact ⟨k + 1, by omega, rfl, by go_num, HBC.out⟩
          case measure => omega
        · have hr1 : (xr != -1) = true := by simp [hr]
          have hr2 : (xr == -1) = false := by simp [hr]
          replace HSR := Lib.hid (show CSub a xr sr 0 from HSR.out hr)
          clear HR0 hr
          go_wp2_with (first
    | (go_at_call 29; (with_reducible refine (HSL.out _ _ (HA.out.to (by go_grown))).mono ?_); rintro e wx hx; obtain ⟨AHSUL, cHSUL, rfl, hb, hq⟩ := HNL.out _ _ _ hx; clear hx; replace HB := Lib.hid (chainL HB.out (by go_grown) hb); (first | (replace HA := Lib.hid (TS.step HA.out (by go_grown) hb)) | skip); (first | (replace HSUL := Lib.hid (TS.step HSUL.out (by go_grown) hb)) | skip); (first | (replace HSUR := Lib.hid (TS.step HSUR.out (by go_grown) hb)) | skip); (first | (replace HX := Lib.hid (TS.step HX.out (by go_grown) hb)) | skip); (first | (replace HY := Lib.hid (TS.step HY.out (by go_grown) hb)) | skip); have HSUL := Lib.hid hq; clear hq; (first | (clear HA0 HA1 HA2 HAz; obtain ⟨HA0, HA1, HA2, HAz⟩ := leafc HA.out HAR.out) | skip); replace HBC := Lib.hid (chainL HBC.out (by go_grown) hb); clear hb)
    | (go_at_call 29; (with_reducible refine (HSR.out _ _ (HA.out.to (by go_grown))).mono ?_); rintro e wx hx; obtain ⟨AHSUR, cHSUR, rfl, hb, hq⟩ := HNR.out _ _ _ hx; clear hx; replace HB := Lib.hid (chainL HB.out (by go_grown) hb); (first | (replace HA := Lib.hid (TS.step HA.out (by go_grown) hb)) | skip); (first | (replace HSUL := Lib.hid (TS.step HSUL.out (by go_grown) hb)) | skip); (first | (replace HSUR := Lib.hid (TS.step HSUR.out (by go_grown) hb)) | skip); (first | (replace HX := Lib.hid (TS.step HX.out (by go_grown) hb)) | skip); (first | (replace HY := Lib.hid (TS.step HY.out (by go_grown) hb)) | skip); have HSUR := Lib.hid hq; clear hq; (first | (clear HA0 HA1 HA2 HAz; obtain ⟨HA0, HA1, HA2, HAz⟩ := leafc HA.out HAR.out) | skip); replace HBC := Lib.hid (chainL HBC.out (by go_grown) hb); clear hb)
    | (go_at_call 29; (with_reducible refine (HCX.out _ _ (HA.out.to (by go_grown))).mono ?_); rintro e wx hx; obtain ⟨AHX, cHX, rfl, hb, hq⟩ := HNJ.out _ _ _ hx; clear hx; replace HB := Lib.hid (chainL HB.out (by go_grown) hb); (first | (replace HA := Lib.hid (TS.step HA.out (by go_grown) hb)) | skip); (first | (replace HSUL := Lib.hid (TS.step HSUL.out (by go_grown) hb)) | skip); (first | (replace HSUR := Lib.hid (TS.step HSUR.out (by go_grown) hb)) | skip); (first | (replace HX := Lib.hid (TS.step HX.out (by go_grown) hb)) | skip); (first | (replace HY := Lib.hid (TS.step HY.out (by go_grown) hb)) | skip); have HX := Lib.hid hq; clear hq; (first | (clear HA0 HA1 HA2 HAz; obtain ⟨HA0, HA1, HA2, HAz⟩ := leafc HA.out HAR.out) | skip); replace HBC := Lib.hid (chainL HBC.out (by go_grown) hb); clear hb)
    | (go_at_call 36; (with_reducible refine (HCJ.out _ _ _ (HSUL.out.to (by go_grown)) (HSUR.out.to (by go_grown))).mono ?_); rintro e wx hx; obtain ⟨AHY, cHY, rfl, hb, hq⟩ := HNJ.out _ _ _ hx; clear hx; replace HB := Lib.hid (chainL HB.out (by go_grown) hb); (first | (replace HA := Lib.hid (TS.step HA.out (by go_grown) hb)) | skip); (first | (replace HSUL := Lib.hid (TS.step HSUL.out (by go_grown) hb)) | skip); (first | (replace HSUR := Lib.hid (TS.step HSUR.out (by go_grown) hb)) | skip); (first | (replace HX := Lib.hid (TS.step HX.out (by go_grown) hb)) | skip); (first | (replace HY := Lib.hid (TS.step HY.out (by go_grown) hb)) | skip); have HY := Lib.hid hq; clear hq; (first | (clear HA0 HA1 HA2 HAz; obtain ⟨HA0, HA1, HA2, HAz⟩ := leafc HA.out HAR.out) | skip); replace HBC := Lib.hid (chainL HBC.out (by go_grown) hb); clear hb)
    | (go_at_call 33; (with_reducible refine (HEQ.out _ _ _ (HX.out.to (by go_grown)) (HY.out.to (by go_grown))).mono ?_); rintro e wx ⟨rfl, hb⟩; replace HB := Lib.hid (chainL HB.out (by go_grown) hb); (first | (replace HA := Lib.hid (TS.step HA.out (by go_grown) hb)) | skip); (first | (replace HSUL := Lib.hid (TS.step HSUL.out (by go_grown) hb)) | skip); (first | (replace HSUR := Lib.hid (TS.step HSUR.out (by go_grown) hb)) | skip); (first | (replace HX := Lib.hid (TS.step HX.out (by go_grown) hb)) | skip); (first | (replace HY := Lib.hid (TS.step HY.out (by go_grown) hb)) | skip); (first | (clear HA0 HA1 HA2 HAz; obtain ⟨HA0, HA1, HA2, HAz⟩ := leafc HA.out HAR.out) | skip); replace HBC := Lib.hid (chainL HBC.out (by go_grown) hb); clear hb))
          go_roundg (n - (k + 1))
          case rel => exact ⟨k + 1, by omega, rfl, by go_num, HBC.out⟩
          case measure => omega
    · go_wp2_with (go_at_call 35; (with_reducible refine (HAW.out _).mono ?_); rintro e wy ⟨rfl, hb⟩; replace HB := Lib.hid (chainL HB.out (by go_grown) hb); clear hb)
      go_returns
      exact ⟨rfl, HB.out⟩

theorem tparts_any (haw : CAwake) (l : List Lf) (v : Value) (w : World) (hv : TS w v l) :
    Calls Tryd.prog 11 #[v] w fun e w' => e = .returned (.bool true) ∧ Below w.heap.size w w' := by
  cases hf : formedT (l.take 40) with
  | false => exact tparts_bad haw l v w hv hf
  | true => exact tparts_good haw l v w hv hf
end Go.Proofs.YtahimlnddelnbaaDoor
