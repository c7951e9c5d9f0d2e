/- ModelWords: for every formula, number of variables and word the law returns true. -/
import Derived.Test.YtgeklibilgfjbaaDoorMdlF
import Derived.Test.YtgeklibilgfjbaaDoorRfD
import Derived.Test.YtgeklibilgfjbaaDoorEqA
set_option linter.unusedSimpArgs false
set_option linter.unusedVariables false
namespace Go.Proofs.YtgeklibilgfjbaaDoor
open Go.RowKit

set_option maxRecDepth 100000 in
set_option maxHeartbeats 4000000 in
theorem words_walk (f : List Mk) (z : Int) (l : List Nat) (v u : Value) (w : World) (hv : MS w v f) (hu : YS w u l) (h256 : ∀ x ∈ l, x < 256) (hdb : DB w) :
    Calls Tryd.prog 23 #[v, .int .i64 z, u] w fun e w' => e = .returned (.bool true) ∧ Below w.heap.size w w' := by
  have HV := Lib.hid hv; have HU := Lib.hid hu; have HDB := Lib.hid hdb
  obtain ⟨A2, d, rfl, hd1, hd2, -⟩ := hu
  obtain ⟨n, hn⟩ : ∃ n, n = l.length := ⟨_, rfl⟩
  rw [← hn] at hd1 HU ⊢
  have hcut := fun W (hW : YS W (.slice A2 n d) l) => hW.cut (min (n : Int) 70).toNat (by omega) A2 (fun _ => rfl)
  have hcb := fun W (hW : YS W (.slice A2 n d) l) => copy_bytes (l.take (min (n : Int) 70).toNat) _ W (hcut W hW) (by rw [List.length_take]; omega)
  rw [show (70 : Int) = ((70 : Nat) : Int) from rfl, take_min l n 70 hn, show ((70 : Nat) : Int) = 70 from rfl] at hcb hcut
  obtain ⟨a, ha⟩ : ∃ a, a = f.take 70 := ⟨_, rfl⟩
  have hal : a.length ≤ 1000000 := by rw [ha, List.length_take]; omega
  obtain ⟨b, hb⟩ : ∃ b, b = l.take 70 := ⟨_, rfl⟩
  have hbl : b.length ≤ 70 := by rw [hb, List.length_take]; omega
  have hb256 : ∀ x ∈ b, x < 256 := fun x hx => h256 x (by rw [hb] at hx; exact List.mem_of_mem_take hx)
  have hfw := fun W (hW : MS W v f) => few16_any f v W hW
  rw [← ha] at hfw
  rw [← hb] at hcb hcut
  have HFW := Lib.hid hfw; have HCB := Lib.hid hcb; have HCUT := Lib.hid hcut
  have HW1 := Lib.hid (fun W x q (h : MS W x a) (h2 : YS W q b) (h3 : DB W) => Word_any a x q z b W h h2 hb256 h3)
  have HW2 := Lib.hid (fun W x q (h : MS W x a) (h2 : YS W q b) => RWord_any a x q z b W h h2 hb256)
  have HC1 := Lib.hid (fun W x m (h : MS W x a) => Cost_any a x m W h)
  have HC2 := Lib.hid (fun W x m (h : MS W x a) => RCost_any a x m W h)
  have heqm := fun W x y (h : MS W x a) (h2 : MS W y a) => equalMSO a a x y W h h2 hal
  rw [show decide (a = a) = true by simp] at heqm
  have heqb := fun W x y (h : YS W x b) (h2 : YS W y b) => equalBytes b b x y W h h2 (by omega)
  rw [show decide (b = b) = true by simp] at heqb
  have HEM := Lib.hid heqm; have HEB := Lib.hid heqb
  have j1 : (0 : Int) ≤ min (n : Int) 70 := by omega
  have j2 : min (n : Int) 70 ≤ (d : Int) := by omega
  have HB : Hid (Below w.heap.size w w) := Below.refl _ _
  obtain ⟨m, hm⟩ : ∃ m, m = b.length := ⟨_, rfl⟩
  have HM := Lib.hid hm
  generalize hR1 : wordS a z b = R1 at *
  generalize hR3 : modelCostS a z = R3 at *
  have HR3 := Lib.hid hR3
  obtain ⟨R2, hR2⟩ : ∃ R2, R2 = modelCostS a m := ⟨_, rfl⟩
  have HR2 := Lib.hid hR2
  clear hfw hcb hcut ha hb h256 hdb hb256 heqm heqb hn hm hR1 hR3 hR2 hv hal hbl
  obtain ⟨r1, e1⟩ := R1
  obtain ⟨r2, e2⟩ := R2
  obtain ⟨r3, e3⟩ := R3
  have HC1m := Lib.hid (fun W x (h : MS W x a) => (show Calls Tryd.prog 81 #[x, .int .i64 m] W fun e w' => e = .returned (.tuple #[.int .i64 r2, .int .i64 e2]) ∧ Below W.heap.size W w' from by have q := HC1.out W x m h; rw [← HR2.out] at q; exact q))
  have HC2m := Lib.hid (fun W x (h : MS W x a) => (show Calls Tryd.prog 82 #[x, .int .i64 m] W fun e w' => e = .returned (.tuple #[.int .i64 r2, .int .i64 e2]) ∧ Below W.heap.size W w' from by have q := HC2.out W x m h; rw [← HR2.out] at q; exact q))
  have HC1z := Lib.hid (fun W x (h : MS W x a) => (show Calls Tryd.prog 81 #[x, .int .i64 z] W fun e w' => e = .returned (.tuple #[.int .i64 r3, .int .i64 e3]) ∧ Below W.heap.size W w' from by have q := HC1.out W x z h; rw [HR3.out] at q; exact q))
  have HC2z := Lib.hid (fun W x (h : MS W x a) => (show Calls Tryd.prog 82 #[x, .int .i64 z] W fun e w' => e = .returned (.tuple #[.int .i64 r3, .int .i64 e3]) ∧ Below W.heap.size W w' from by have q := HC2.out W x z h; rw [HR3.out] at q; exact q))
  clear HC1 HC2 HR2 HR3
  go_enter Tryd.func23, Tryd.ntmps23
  go_upto_region 1 with (fail)
  first
  | go_region_held3 (fun W => True) (trivial) (first
    | (go_at_call 78; (with_reducible refine (HFW.out _ (HV.out.below HB.out.drew (Nat.le_refl _))).mono ?_); rintro e w1 ⟨v1, rfl, hb1, ho1⟩; have H1 := Lib.hid ho1.ms; (first | (replace H2 := Lib.hid (H2.out.below (undrawn_h hb1) (Nat.le_refl _))) | skip); replace HB := Lib.hid (HB.out.drew.trans (hb1.mono HB.out.drew.size)); clear hb1 ho1)
    | (go_at_call 22; (with_reducible refine (HCB.out _ (HU.out.below HB.out.drew (Nat.le_refl _))).mono ?_); rintro e w2 ⟨v2, rfl, hb2, ho2⟩; have H2 := Lib.hid ho2.ys; (first | (replace H1 := Lib.hid (H1.out.below (undrawn_h hb2) (Nat.le_refl _))) | skip); replace HB := Lib.hid (HB.out.drew.trans (hb2.mono HB.out.drew.size)); clear hb2 ho2)
    | (go_at_call 78; (with_reducible refine (HFW.out _ (HV.out.below HB.out (Nat.le_refl _))).mono ?_); rintro e w1 ⟨v1, rfl, hb1, ho1⟩; have H1 := Lib.hid ho1.ms; (first | (replace H2 := Lib.hid (H2.out.below hb1 (Nat.le_refl _))) | skip); replace HB := Lib.hid (HB.out.trans (hb1.mono HB.out.size)); clear hb1 ho1)
    | (go_at_call 22; (with_reducible refine (HCB.out _ (HU.out.below HB.out (Nat.le_refl _))).mono ?_); rintro e w2 ⟨v2, rfl, hb2, ho2⟩; have H2 := Lib.hid ho2.ys; (first | (replace H1 := Lib.hid (H1.out.below hb2 (Nat.le_refl _))) | skip); replace HB := Lib.hid (HB.out.trans (hb2.mono HB.out.size)); clear hb2 ho2))
  | fail
  all_goals
    obtain ⟨Ab, cb, hv2, -⟩ := id H2.out
    rw [← HM.out] at hv2
    subst hv2
    go_wp2_with (first
    | (go_at_call 79; ((with_reducible refine (HW1.out _ _ _ H1.out H2.out (HDB.out.below HB.out (Nat.le_refl _))).mono ?_); rintro e w3 ⟨rfl, hb2⟩; replace H1 := Lib.hid (H1.out.below hb2 (Nat.le_refl _)); replace H2 := Lib.hid (H2.out.below hb2 (Nat.le_refl _)); replace HB := Lib.hid (HB.out.trans (hb2.mono HB.out.size)); clear hb2))
    | (go_at_call 80; ((with_reducible refine (HW2.out _ _ _ H1.out H2.out).mono ?_); rintro e w3 ⟨rfl, hb2⟩; replace H1 := Lib.hid (H1.out.below hb2 (Nat.le_refl _)); replace H2 := Lib.hid (H2.out.below hb2 (Nat.le_refl _)); replace HB := Lib.hid (HB.out.trans (hb2.mono HB.out.size)); clear hb2))
    | (go_at_call 81; ((with_reducible refine (HC1m.out _ _ H1.out).mono ?_); rintro e w3 ⟨rfl, hb2⟩; replace H1 := Lib.hid (H1.out.below hb2 (Nat.le_refl _)); replace H2 := Lib.hid (H2.out.below hb2 (Nat.le_refl _)); replace HB := Lib.hid (HB.out.trans (hb2.mono HB.out.size)); clear hb2))
    | (go_at_call 81; ((with_reducible refine (HC1z.out _ _ H1.out).mono ?_); rintro e w3 ⟨rfl, hb2⟩; replace H1 := Lib.hid (H1.out.below hb2 (Nat.le_refl _)); replace H2 := Lib.hid (H2.out.below hb2 (Nat.le_refl _)); replace HB := Lib.hid (HB.out.trans (hb2.mono HB.out.size)); clear hb2))
    | (go_at_call 82; ((with_reducible refine (HC2m.out _ _ H1.out).mono ?_); rintro e w3 ⟨rfl, hb2⟩; replace H1 := Lib.hid (H1.out.below hb2 (Nat.le_refl _)); replace H2 := Lib.hid (H2.out.below hb2 (Nat.le_refl _)); replace HB := Lib.hid (HB.out.trans (hb2.mono HB.out.size)); clear hb2))
    | (go_at_call 82; ((with_reducible refine (HC2z.out _ _ H1.out).mono ?_); rintro e w3 ⟨rfl, hb2⟩; replace H1 := Lib.hid (H1.out.below hb2 (Nat.le_refl _)); replace H2 := Lib.hid (H2.out.below hb2 (Nat.le_refl _)); replace HB := Lib.hid (HB.out.trans (hb2.mono HB.out.size)); clear hb2))
    | (go_at_call 78; ((with_reducible refine (HFW.out _ (HV.out.below HB.out (Nat.le_refl _))).mono ?_); rintro e w3 ⟨v3, rfl, hb2, ho3⟩; replace H1 := Lib.hid (H1.out.below hb2 (Nat.le_refl _)); replace H2 := Lib.hid (H2.out.below hb2 (Nat.le_refl _)); have H3 := Lib.hid ho3.ms; clear ho3; replace HB := Lib.hid (HB.out.trans (hb2.mono HB.out.size)); clear hb2))
    | (go_at_call 65; ((with_reducible refine (HEM.out _ _ _ H1.out H3.out).mono ?_); rintro e w3 ⟨rfl, hb2⟩; replace H1 := Lib.hid (H1.out.below hb2 (Nat.le_refl _)); replace H2 := Lib.hid (H2.out.below hb2 (Nat.le_refl _)); replace HB := Lib.hid (HB.out.trans (hb2.mono HB.out.size)); clear hb2))
    | (go_at_call 83; ((with_reducible refine (HEB.out _ _ _ H2.out (HCUT.out _ (HU.out.below HB.out (Nat.le_refl _)))).mono ?_); rintro e w3 ⟨rfl, hb2⟩; replace H1 := Lib.hid (H1.out.below hb2 (Nat.le_refl _)); replace H2 := Lib.hid (H2.out.below hb2 (Nat.le_refl _)); replace HB := Lib.hid (HB.out.trans (hb2.mono HB.out.size)); clear hb2))
    | (go_at_call 25; ((with_reducible refine (awake16 _ (HDB.out.below HB.out (Nat.le_refl _))).mono ?_); rintro e w3 ⟨rfl, hb2⟩; replace H1 := Lib.hid (H1.out.below hb2 (Nat.le_refl _)); replace H2 := Lib.hid (H2.out.below hb2 (Nat.le_refl _)); replace HB := Lib.hid (HB.out.trans (hb2.mono HB.out.size)); clear hb2)))
    go_returns
    exact ⟨rfl, HB.out⟩
end Go.Proofs.YtgeklibilgfjbaaDoor
