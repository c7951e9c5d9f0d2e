/- ModelBoolean: for all formulas and words the law returns true. -/
import Derived.Test.YtdlibehffgfhlaaDoorMdlG
import Derived.Test.YtdlibehffgfhlaaDoorMBoP
import Derived.Test.YtdlibehffgfhlaaDoorJoin
set_option linter.unusedSimpArgs false
set_option linter.unusedVariables false
namespace Go.Proofs.YtdlibehffgfhlaaDoor
open Go.RowKit

/-- A region that begins two copies: what is below a drawn world is below the world. -/
theorem undrawn {w W : World} (h : Below w.drew.heap.size w.drew W) : Below w.heap.size w W := ⟨h.os, h.tape, h.output, h.size, h.block⟩
theorem bool_first {w : World} : Hid (Below w.heap.size w w.drew) := (⟨rfl, rfl, rfl, Nat.le_refl _, fun _ _ => rfl⟩ : Below w.heap.size w w.drew)

set_option maxRecDepth 100000 in
set_option maxHeartbeats 4000000 in
theorem boolean_walk (f g : List Mk) (l : List Nat) (v u z : Value) (w : World) (hv : MS w v f) (hu : MS w u g) (hz : YS w z l) (h256 : ∀ x ∈ l, x < 256) (hdb : DB w) :
    Calls Tryd.prog 11 #[v, u, z] w fun e w' => e = .returned (.bool true) ∧ Below w.heap.size w w' := by
  have HV := Lib.hid hv; have HU := Lib.hid hu; have HZ := Lib.hid hz; have HDB := Lib.hid hdb
  obtain ⟨_, A, c, rfl, hc1, hc2, _⟩ := hv
  obtain ⟨_, A2, d, rfl, hd1, hd2, _⟩ := hu
  obtain ⟨n, hn⟩ : ∃ n, n = f.length := ⟨_, rfl⟩
  obtain ⟨k, hk⟩ : ∃ k, k = g.length := ⟨_, rfl⟩
  rw [← hn] at hc1 HV ⊢
  rw [← hk] at hd1 HU ⊢
  obtain ⟨a, ha⟩ : ∃ a, a = f.take 30 := ⟨_, rfl⟩
  obtain ⟨b, hb⟩ : ∃ b, b = g.take 30 := ⟨_, rfl⟩
  have hla : a.length ≤ 30 := by rw [ha, List.length_take]; omega
  have hlb : b.length ≤ 30 := by rw [hb, List.length_take]; omega
  have hcf := fun W (hW : MS W (.slice A n c) f) => copy_any (f.take (min (n : Int) 30).toNat) _ W (hW.cut (min (n : Int) 30).toNat (by omega) A (fun _ => rfl)) (by rw [List.length_take]; omega)
  rw [show (30 : Int) = ((30 : Nat) : Int) from rfl, take_min f n 30 hn, ← ha] at hcf
  have hcg := fun W (hW : MS W (.slice A2 k d) g) => copy_any (g.take (min (k : Int) 30).toNat) _ W (hW.cut (min (k : Int) 30).toNat (by omega) A2 (fun _ => rfl)) (by rw [List.length_take]; omega)
  rw [show (30 : Int) = ((30 : Nat) : Int) from rfl, take_min g k 30 hk, ← hb] at hcg
  obtain ⟨m, hm⟩ : ∃ m, m = lettersS l 3 := ⟨_, rfl⟩
  have hm256 : ∀ x ∈ m, x < 256 := by rw [hm]; exact letters_lt l 3 (by omega)
  have HLE := Lib.hid (fun W (hW : YS W z l) => (show Calls Tryd.prog 34 #[z, .int .i64 3] W (RetYO W m) from by have := letters_3 l z W hW h256; rwa [← hm] at this))
  have HM := Lib.hid hm256
  have HCF := Lib.hid hcf; have HCG := Lib.hid hcg; have HLA := Lib.hid hla; have HLB := Lib.hid hlb
  have j1 : (0 : Int) ≤ min (n : Int) 30 := by omega
  have j2 : min (n : Int) 30 ≤ (c : Int) := by omega
  have j3 : (0 : Int) ≤ min (k : Int) 30 := by omega
  have j4 : min (k : Int) 30 ≤ (d : Int) := by omega
  have j5 : (min (n : Int) 30).toNat ≤ c := by omega
  have j6 : (min (k : Int) 30).toNat ≤ d := by omega
  clear hcf hcg hla hlb hn hk ha hb hm hm256 h256 hdb hz
  go_enter Tryd.func11, Tryd.ntmps11
  go_upto_region 1 with (fail)
  go_cut [7, 8] from 26 to 37 (fun u1 u2 wx => MS wx u1 a ∧ MS wx u2 b ∧ Below w.heap.size w wx)
  case first =>
    first
    | go_region_held3 (fun W => True) (trivial) (first
      | (go_at_call 13; refine (HCF.out _ (HV.out.below bool_first.out (Nat.le_refl _))).mono ?_; rintro e w2 ⟨v2, rfl, hb, ho⟩; have HB2 := Lib.hid (undrawn hb); have H7 := Lib.hid ho.ms; clear hb ho)
      | (go_at_call 13; refine (HCG.out _ (HU.out.below HB2.out (Nat.le_refl _))).mono ?_; rintro e w3 ⟨v3, rfl, hb, ho⟩; have HB3 := Lib.hid (HB2.out.trans (hb.mono HB2.out.size)); have H8 := Lib.hid ho.ms; replace H7 := Lib.hid (H7.out.below hb (Nat.le_refl _)); clear hb ho))
    | fail
    all_goals
      go_wp2_with fail
      go_meet
      exact ⟨H7.out, H8.out, HB3.out⟩
  case rest =>
    obtain ⟨h7, h8, hb⟩ := hcut
    rename_i wc
    have HF := Lib.hid h7; have HG := Lib.hid h8; have HB := Lib.hid hb
    clear h7 h8 hb HCF HCG j1 j2 j3 j4 j5 j6
    have hwa := fun v W z (h : MS W v a) (h2 : YS W z m) (h3 : DB W) => Word_any a v z 3 m W h h2 HM.out h3
    have hwb := fun v W z (h : MS W v b) (h2 : YS W z m) (h3 : DB W) => Word_any b v z 3 m W h h2 HM.out h3
    have hea := @wordS_err a 3 m
    have heb := @wordS_err b 3 m
    have hna := fun h => @not_law a m h HLA.out
    have hjn := fun op hop h g => @join_law a b m op hop h g HLA.out HLB.out
    obtain ⟨x, hx⟩ : ∃ x, x = wordS a 3 m := ⟨_, rfl⟩
    obtain ⟨y, hy⟩ : ∃ y, y = wordS b 3 m := ⟨_, rfl⟩
    rw [← hx] at hwa hea
    rw [← hy] at hwb heb
    simp only [← hx, ← hy] at hna hjn
    obtain ⟨x1, x2⟩ := x
    obtain ⟨y1, y2⟩ := y
    simp only at hwa hwb hea heb hna hjn
    have HWA := Lib.hid hwa; have HWB := Lib.hid hwb
    clear hwa hwb hx hy
    by_cases hok : x2 = 0 ∧ y2 = 0
    · obtain ⟨rfl, rfl⟩ := hok
      obtain ⟨fn, en, rn⟩ := hna rfl
      obtain ⟨fa, ea, ra⟩ := hjn 10 (.inl rfl) rfl rfl
      obtain ⟨fo, eo, ro⟩ := hjn 11 (.inr rfl) rfl rfl
      rw [if_pos rfl] at ra
      rw [if_neg (by decide)] at ro
      have HNA := Lib.hid (fun W v (h : MS W v a) => (show Calls Tryd.prog 38 #[v] W (RetFE W fn 0) from by have q := Not_any a v W h; rw [en] at q; exact q))
      have HJA := Lib.hid (fun W v u (h : MS W v a) (h2 : MS W u b) => (show Calls Tryd.prog 39 #[.int .u8 10, v, u] W (RetFE W fa 0) from by have q := Join_any 10 a b v u W h h2 (by decide) (by decide); rw [ea] at q; exact q))
      have HJO := Lib.hid (fun W v u (h : MS W v a) (h2 : MS W u b) => (show Calls Tryd.prog 39 #[.int .u8 11, v, u] W (RetFE W fo 0) from by have q := Join_any 11 a b v u W h h2 (by decide) (by decide); rw [eo] at q; exact q))
      have hw1 := fun v W z (h : MS W v fn) (h2 : YS W z m) (h3 : DB W) => Word_any fn v z 3 m W h h2 HM.out h3
      have hw2 := fun v W z (h : MS W v fa) (h2 : YS W z m) (h3 : DB W) => Word_any fa v z 3 m W h h2 HM.out h3
      have hw3 := fun v W z (h : MS W v fo) (h2 : YS W z m) (h3 : DB W) => Word_any fo v z 3 m W h h2 HM.out h3
      clear hea heb hna hjn en ea eo
      rcases rn with rn | rn <;> rcases ra with ra | ra <;> rcases ro with ro | ro <;> cases x1 <;> cases y1
      all_goals
        rw [rn] at hw1
        rw [ra] at hw2
        rw [ro] at hw3
        have HW1 := Lib.hid hw1; have HW2 := Lib.hid hw2; have HW3 := Lib.hid hw3
        clear rn ra ro hw1 hw2 hw3
        go_wp2_with (first
          | (go_at_call 34; (with_reducible refine (HLE.out _ (HZ.out.below HB.out (Nat.le_refl _))).mono ?_); rintro e wl ⟨vl, rfl, hb, ho⟩; have HL := Lib.hid ho.ys; replace HF := Lib.hid (HF.out.below hb (Nat.le_refl _)); replace HG := Lib.hid (HG.out.below hb (Nat.le_refl _)); replace HB := Lib.hid (HB.out.trans (hb.mono HB.out.size)); clear hb ho)
          | (go_at_call 22; (with_reducible refine (HWA.out _ _ _ HF.out HL.out (HDB.out.below HB.out (Nat.le_refl _))).mono ?_); rintro e wl ⟨rfl, hb⟩; replace HF := Lib.hid (HF.out.below hb (Nat.le_refl _)); replace HG := Lib.hid (HG.out.below hb (Nat.le_refl _)); replace HL := Lib.hid (HL.out.below hb (Nat.le_refl _)); replace HB := Lib.hid (HB.out.trans (hb.mono HB.out.size)); clear hb)
          | (go_at_call 22; (with_reducible refine (HWB.out _ _ _ HG.out HL.out (HDB.out.below HB.out (Nat.le_refl _))).mono ?_); rintro e wl ⟨rfl, hb⟩; replace HF := Lib.hid (HF.out.below hb (Nat.le_refl _)); replace HG := Lib.hid (HG.out.below hb (Nat.le_refl _)); replace HL := Lib.hid (HL.out.below hb (Nat.le_refl _)); replace HB := Lib.hid (HB.out.trans (hb.mono HB.out.size)); clear hb)
          | (go_at_call 38; (with_reducible refine (HNA.out _ _ HF.out).mono ?_); rintro e wl ⟨vn, rfl, hb, ho⟩; have HN := Lib.hid ho.ms; clear ho; replace HF := Lib.hid (HF.out.below hb (Nat.le_refl _)); replace HG := Lib.hid (HG.out.below hb (Nat.le_refl _)); replace HL := Lib.hid (HL.out.below hb (Nat.le_refl _)); replace HB := Lib.hid (HB.out.trans (hb.mono HB.out.size)); clear hb)
          | (go_at_call 39; (with_reducible refine (HJA.out _ _ _ HF.out HG.out).mono ?_); rintro e wl ⟨va, rfl, hb, ho⟩; have HAN := Lib.hid ho.ms; clear ho; replace HN := Lib.hid (HN.out.below hb (Nat.le_refl _)); replace HF := Lib.hid (HF.out.below hb (Nat.le_refl _)); replace HG := Lib.hid (HG.out.below hb (Nat.le_refl _)); replace HL := Lib.hid (HL.out.below hb (Nat.le_refl _)); replace HB := Lib.hid (HB.out.trans (hb.mono HB.out.size)); clear hb)
          | (go_at_call 39; (with_reducible refine (HJO.out _ _ _ HF.out HG.out).mono ?_); rintro e wl ⟨vo, rfl, hb, ho⟩; have HOR := Lib.hid ho.ms; clear ho; replace HN := Lib.hid (HN.out.below hb (Nat.le_refl _)); replace HAN := Lib.hid (HAN.out.below hb (Nat.le_refl _)); replace HF := Lib.hid (HF.out.below hb (Nat.le_refl _)); replace HG := Lib.hid (HG.out.below hb (Nat.le_refl _)); replace HL := Lib.hid (HL.out.below hb (Nat.le_refl _)); replace HB := Lib.hid (HB.out.trans (hb.mono HB.out.size)); clear hb)
          | (go_at_call 22; (with_reducible refine (HW1.out _ _ _ HN.out HL.out (HDB.out.below HB.out (Nat.le_refl _))).mono ?_); rintro e wl ⟨rfl, hb⟩; replace HAN := Lib.hid (HAN.out.below hb (Nat.le_refl _)); replace HOR := Lib.hid (HOR.out.below hb (Nat.le_refl _)); replace HF := Lib.hid (HF.out.below hb (Nat.le_refl _)); replace HG := Lib.hid (HG.out.below hb (Nat.le_refl _)); replace HL := Lib.hid (HL.out.below hb (Nat.le_refl _)); replace HB := Lib.hid (HB.out.trans (hb.mono HB.out.size)); clear hb)
          | (go_at_call 22; (with_reducible refine (HW2.out _ _ _ HAN.out HL.out (HDB.out.below HB.out (Nat.le_refl _))).mono ?_); rintro e wl ⟨rfl, hb⟩; replace HOR := Lib.hid (HOR.out.below hb (Nat.le_refl _)); replace HF := Lib.hid (HF.out.below hb (Nat.le_refl _)); replace HG := Lib.hid (HG.out.below hb (Nat.le_refl _)); replace HL := Lib.hid (HL.out.below hb (Nat.le_refl _)); replace HB := Lib.hid (HB.out.trans (hb.mono HB.out.size)); clear hb)
          | (go_at_call 22; (with_reducible refine (HW3.out _ _ _ HOR.out HL.out (HDB.out.below HB.out (Nat.le_refl _))).mono ?_); rintro e wl ⟨rfl, hb⟩; replace HF := Lib.hid (HF.out.below hb (Nat.le_refl _)); replace HG := Lib.hid (HG.out.below hb (Nat.le_refl _)); replace HL := Lib.hid (HL.out.below hb (Nat.le_refl _)); replace HB := Lib.hid (HB.out.trans (hb.mono HB.out.size)); clear hb)
          | (go_at_call 28; go_must (refine (awake16 _ (HDB.out.below HB.out (Nat.le_refl _))).mono ?_; rintro e wl ⟨rfl, hb⟩; replace HB := Lib.hid (HB.out.trans (hb.mono HB.out.size)); clear hb)))
        go_returns
        exact ⟨rfl, HB.out⟩
    · have hxf : x2 = 0 ∨ ((x2 != 0) = true ∧ x1 = false) := by by_cases h : x2 = 0; exact .inl h; exact .inr ⟨by simp [h], hea h⟩
      have hyf : y2 = 0 ∨ ((y2 != 0) = true ∧ y1 = false) := by by_cases h : y2 = 0; exact .inl h; exact .inr ⟨by simp [h], heb h⟩
      clear hea heb hna hjn
      rcases hxf with rfl | ⟨hxa, rfl⟩ <;> rcases hyf with rfl | ⟨hya, rfl⟩
      · exact absurd ⟨rfl, rfl⟩ hok
      all_goals
        clear hok
        · go_wp2_with (first
            | (go_at_call 34; (with_reducible refine (HLE.out _ (HZ.out.below HB.out (Nat.le_refl _))).mono ?_); rintro e wl ⟨vl, rfl, hb, ho⟩; have HL := Lib.hid ho.ys; replace HF := Lib.hid (HF.out.below hb (Nat.le_refl _)); replace HG := Lib.hid (HG.out.below hb (Nat.le_refl _)); replace HB := Lib.hid (HB.out.trans (hb.mono HB.out.size)); clear hb ho)
            | (go_at_call 22; (with_reducible refine (HWA.out _ _ _ HF.out HL.out (HDB.out.below HB.out (Nat.le_refl _))).mono ?_); rintro e wl ⟨rfl, hb⟩; replace HF := Lib.hid (HF.out.below hb (Nat.le_refl _)); replace HG := Lib.hid (HG.out.below hb (Nat.le_refl _)); replace HL := Lib.hid (HL.out.below hb (Nat.le_refl _)); replace HB := Lib.hid (HB.out.trans (hb.mono HB.out.size)); clear hb)
            | (go_at_call 22; (with_reducible refine (HWB.out _ _ _ HG.out HL.out (HDB.out.below HB.out (Nat.le_refl _))).mono ?_); rintro e wl ⟨rfl, hb⟩; replace HF := Lib.hid (HF.out.below hb (Nat.le_refl _)); replace HG := Lib.hid (HG.out.below hb (Nat.le_refl _)); replace HL := Lib.hid (HL.out.below hb (Nat.le_refl _)); replace HB := Lib.hid (HB.out.trans (hb.mono HB.out.size)); clear hb)
            | (go_at_call 28; go_must (refine (awake16 _ (HDB.out.below HB.out (Nat.le_refl _))).mono ?_; rintro e wl ⟨rfl, hb⟩; replace HB := Lib.hid (HB.out.trans (hb.mono HB.out.size)); clear hb)))
          all_goals
            go_returns
            exact ⟨rfl, HB.out⟩
end Go.Proofs.YtdlibehffgfhlaaDoor
