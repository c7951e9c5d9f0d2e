/- The chapter's examples hold: contract of awake. -/
import Derived.Test.YtcjblbhmajdmjaaDoorAwakeA
set_option linter.unusedSimpArgs false
set_option linter.unusedVariables false
namespace Go.Proofs.YtcjblbhmajdmjaaDoor
open Go.RowKit

set_option maxRecDepth 100000 in
set_option maxHeartbeats 8000000 in
theorem awake_any (w : World) : Calls Tryd.prog 10 #[] w fun e w' => e = .returned (.bool true) ∧ Below w.heap.size w w' := by
  have hF : MS (w.alloc (.cells #[.int .u8 2, .int .i64 0, .int .i64 1, .int .i64 0, .int .i64 0, .int .u8 3, .int .i64 1, .int .i64 0, .int .i64 0, .int .i64 0, .int .u8 9, .int .i64 0, .int .i64 0, .int .i64 1, .int .i64 0, .int .u8 10, .int .i64 0, .int .i64 0, .int .i64 0, .int .i64 2, .int .u8 12, .int .i64 1, .int .i64 0, .int .i64 3, .int .i64 0] 23)) (.slice (some ⟨w.heap.size, 0, none⟩) 5 5) F5 :=
    MS.lit (Row.new _ _ _) 5 rfl rfl (by simp [OpOk, F5]) (by omega)
  obtain ⟨wF, hwF⟩ : ∃ wF, wF = w.alloc (.cells #[.int .u8 2, .int .i64 0, .int .i64 1, .int .i64 0, .int .i64 0, .int .u8 3, .int .i64 1, .int .i64 0, .int .i64 0, .int .i64 0, .int .u8 9, .int .i64 0, .int .i64 0, .int .i64 1, .int .i64 0, .int .u8 10, .int .i64 0, .int .i64 0, .int .i64 0, .int .i64 2, .int .u8 12, .int .i64 1, .int .i64 0, .int .i64 3, .int .i64 0] 23) := ⟨_, rfl⟩
  rw [← hwF] at hF
  have HB : Hid (Below wF.heap.size wF (w.alloc (.cells #[.int .u8 2, .int .i64 0, .int .i64 1, .int .i64 0, .int .i64 0, .int .u8 3, .int .i64 1, .int .i64 0, .int .i64 0, .int .i64 0, .int .u8 9, .int .i64 0, .int .i64 0, .int .i64 1, .int .i64 0, .int .u8 10, .int .i64 0, .int .i64 0, .int .i64 0, .int .i64 2, .int .u8 12, .int .i64 1, .int .i64 0, .int .i64 3, .int .i64 0] 23))) := by
    unfold Hid; rw [← hwF]; exact Below.refl _ _
  have hBw : Hid (Below w.heap.size w wF) := by unfold Hid; rw [hwF]; exact Below.alloc (Below.refl _ _) (Nat.le_refl _) _
  have HF := Lib.hid hF
  clear hF hwF
  have HR1 := Lib.hid fun W u (h : MS W u F5) => reads_true S1 u F5 W h e_parse1
  have HR2 := Lib.hid fun W u (h : MS W u F2) => reads_true S3 u F2 W h e_parse2
  have HS1 := Lib.hid fun W v (h : MS W v F5) => sub_F5 0 2 F5c 0 v W h e_sub1 (by decide) (by decide) (by decide) (by decide)
  have HS2 := Lib.hid fun W v (h : MS W v F5) => (sub_F5 0 1 [] 16 v W h e_sub2 (by decide) (by decide) (by decide) (by decide)).mono fun _ _ => RetFE.empty
  have HS3 := Lib.hid fun W v (h : MS W v F5) => sub_F5 1 0 F5 0 v W h e_sub3 (by decide) (by decide) (by decide) (by decide)
  have HFR := Lib.hid fun W v (h : MS W v F5) => Free_yes F5 T5 v W h F5_formed (by decide +kernel) T5_ok (by decide +kernel)
  have HW1 := Lib.hid fun W v (h : MS W v F5c) => shows_true S2 v F5c W h F5c_show.1 F5c_show.2
  have HW2 := Lib.hid fun W v (h : MS W v F2) => shows_true S3 v F2 W h F2_show.1 F2_show.2
  have HW3 := Lib.hid fun W v (h : MS W v F3) => shows_true S4 v F3 W h F3_show.1 F3_show.2
  have HN := Lib.hid fun W v (h : MS W v [⟨1, 0, 0, 0, 0⟩]) => (show Calls Tryd.prog 15 #[v] W (RetFE W F2 0) from by have q := Not_any [⟨1, 0, 0, 0, 0⟩] v W h; rw [e_wrap] at q; exact q)
  have HJ := Lib.hid fun W v u (h : MS W v [⟨1, 0, 0, 0, 0⟩]) (h2 : MS W u [⟨1, 0, 0, 0, 0⟩]) => (show Calls Tryd.prog 29 #[.int .u8 9, v, u] W (RetFE W [] 6) from by have q := Join_any 9 [⟨1, 0, 0, 0, 0⟩] [⟨1, 0, 0, 0, 0⟩] v u W h h2 (by decide) (by decide); rw [e_join] at q; exact q)
  have HD1 := Lib.hid fun W v (h : MS W v [⟨1, 0, 0, 0, 0⟩]) => (show Calls Tryd.prog 17 #[.int .u8 14, .int .i64 6, v] W (RetFE W [] 7) from by have q := Bind_any 14 6 [⟨1, 0, 0, 0, 0⟩] v W h (by decide) (by decide); rw [e_bind1] at q; exact q)
  have HD2 := Lib.hid fun W v (h : MS W v [⟨4, 0, 0, 0, 0⟩]) => (show Calls Tryd.prog 17 #[.int .u8 14, .int .i64 0, v] W (RetFE W F3 0) from by have q := Bind_any 14 0 [⟨4, 0, 0, 0, 0⟩] v W h (by decide) (by decide); rw [e_bind2] at q; exact q)
  unfold S1 at HR1
  unfold S2 at HW1
  unfold S3 at HR2 HW2
  unfold S4 at HW3
  go_enter Tryd.func10, Tryd.ntmps10
  go_wp2_with (first
    | (go_at_call 33; (with_reducible refine (HR1.out _ _ (HF.out.below HB.out (Nat.le_refl _))).mono ?_); rintro e w1 ⟨rfl, hb⟩; replace HB := Lib.hid (chain (Nat.le_refl _) HB.out (by go_grown) hb); clear hb)
    | (go_at_call 12; (with_reducible refine (Check_any F5 _ _ _ _ (HF.out.below HB.out (Nat.le_refl _))).mono ?_); rintro e w1 ⟨rfl, hb⟩; (first | rw [e_chk1] | rw [e_chk2] | rw [e_chk3]); replace HB := Lib.hid (chain (Nat.le_refl _) HB.out (by go_grown) hb); clear hb)
    | (go_at_call 12; go_must (refine (Check_any [⟨5, 0, 1, 0, 0⟩] _ _ _ _ (MS.one (m := ⟨5, 0, 1, 0, 0⟩) (Row.new _ _ _) (by decide) (by decide))).mono ?_; rintro e w1 ⟨rfl, hb⟩; rw [e_chk4]; replace HB := Lib.hid (chain (Nat.le_refl _) HB.out (by go_grown) hb); clear hb))
    | (go_at_call 19; (with_reducible refine (HS1.out _ _ (HF.out.below HB.out (Nat.le_refl _))).mono ?_); rintro e wa ⟨va, rfl, hb, hoa⟩; have HA := Lib.hid hoa.ms; have HBA : Hid (Below wa.heap.size wa wa) := Below.refl _ _; clear hoa; replace HB := Lib.hid (chain (Nat.le_refl _) HB.out (by go_grown) hb); clear hb)
    | (go_at_call 19; (with_reducible refine (HS2.out _ _ (HF.out.below HB.out (Nat.le_refl _))).mono ?_); rintro e w1 ⟨Ab, cb, rfl, hb⟩; replace HB := Lib.hid (chain (Nat.le_refl _) HB.out (by go_grown) hb); replace HBA := Lib.hid (chain (Nat.le_refl _) HBA.out (by go_grown) hb); clear hb)
    | (go_at_call 19; (with_reducible refine (HS3.out _ _ (HF.out.below HB.out (Nat.le_refl _))).mono ?_); rintro e wc ⟨vc, rfl, hb, hoc⟩; have HC := Lib.hid hoc.ms; have HBC : Hid (Below wc.heap.size wc wc) := Below.refl _ _; clear hoc; replace HB := Lib.hid (chain (Nat.le_refl _) HB.out (by go_grown) hb); replace HBA := Lib.hid (chain (Nat.le_refl _) HBA.out (by go_grown) hb); clear hb)
    | (go_at_call 14; (with_reducible refine (HFR.out _ _ (HF.out.below HB.out (Nat.le_refl _))).mono ?_); rintro e ws ⟨vs, rfl, hb, hos⟩; rw [e_free] at hos; have HOS := Lib.hid hos.us; clear hos; replace HB := Lib.hid (chain (Nat.le_refl _) HB.out (by go_grown) hb); replace HBA := Lib.hid (chain (Nat.le_refl _) HBA.out (by go_grown) hb); replace HBC := Lib.hid (chain (Nat.le_refl _) HBC.out (by go_grown) hb); clear hb)
    | (go_at_call 21; go_must (refine (equalSet [1] [1] _ _ _ (HOS.out.below (B := ws.heap.size) (by go_grown) (Nat.le_refl _)) (US.one (x := 1) (by exact Row.new _ _ _)) (by decide)).mono ?_; rintro e w1 ⟨rfl, hb⟩; rw [decide_eq_true (rfl : [1] = [1])]; replace HB := Lib.hid (chain (Nat.le_refl _) HB.out (by go_grown) hb); replace HBA := Lib.hid (chain (Nat.le_refl _) HBA.out (by go_grown) hb); replace HBC := Lib.hid (chain (Nat.le_refl _) HBC.out (by go_grown) hb); clear hb))
    | (go_at_call 34; (with_reducible refine (HW1.out _ _ (HA.out.below HBA.out (Nat.le_refl _))).mono ?_); rintro e w1 ⟨rfl, hb⟩; replace HB := Lib.hid (chain (Nat.le_refl _) HB.out (by go_grown) hb); replace HBC := Lib.hid (chain (Nat.le_refl _) HBC.out (by go_grown) hb); clear hb)
    | (go_at_call 23; go_must (refine (equalMSO F5 F5 _ _ _ (HC.out.below HBC.out (Nat.le_refl _)) (HF.out.below HB.out (Nat.le_refl _)) (by decide)).mono ?_; rintro e w1 ⟨rfl, hb⟩; rw [decide_eq_true (rfl : F5 = F5)]; replace HB := Lib.hid (chain (Nat.le_refl _) HB.out (by go_grown) hb); clear hb))
    | (go_at_call 33; go_must (refine (HR2.out _ _ (MS.lit (F := F2) (cs := #[.int .u8 1, .int .i64 0, .int .i64 0, .int .i64 0, .int .i64 0, .int .u8 9, .int .i64 0, .int .i64 0, .int .i64 0, .int .i64 0]) (Row.lit (by simp only [World.size_alloc])) 2 rfl rfl (by simp [OpOk, F2]) (by omega))).mono ?_; rintro e wx ⟨rfl, hb⟩; have HTB := Lib.hid (((Row.new _ _ _).alloc _).below hb (by simp only [World.size_alloc]; omega)); have HBX : Hid (Below wx.heap.size wx wx) := Below.refl _ _; replace HB := Lib.hid (chain (Nat.le_refl _) HB.out (by go_grown) hb); clear hb; have tc := HTB.out.cell; have tl := HTB.out.lt))
    | (go_at_call 35; go_must (refine (fails_true _ _ _ _ (by decide +kernel)).mono ?_; rintro e w1 ⟨rfl, hb⟩; replace HB := Lib.hid (chain (Nat.le_refl _) HB.out (by go_grown) hb); replace HBX := Lib.hid (chain (Nat.le_refl _) HBX.out (by go_grown) hb); clear hb; clear tc tl; have tc := (HTB.out.below HBX.out HTB.out.lt).cell; have tl := (HTB.out.below HBX.out HTB.out.lt).lt))
    | (go_at_call 15; go_must (refine (HN.out _ _ (MS.one (m := ⟨1, 0, 0, 0, 0⟩) (Row.new _ _ _) (by decide) (by decide))).mono ?_; rintro e wn ⟨vn, rfl, hb, hon⟩; have HNN := Lib.hid hon.ms; have HBN : Hid (Below wn.heap.size wn wn) := Below.refl _ _; clear hon; replace HB := Lib.hid (chain (Nat.le_refl _) HB.out (by go_grown) hb); replace HBX := Lib.hid (chain (Nat.le_refl _) HBX.out (by go_grown) hb); clear hb; clear tc tl; have tc := (HTB.out.below HBX.out HTB.out.lt).cell; have tl := (HTB.out.below HBX.out HTB.out.lt).lt))
    | (go_at_call 29; go_must (refine (HJ.out _ _ _ (MS.one (m := ⟨1, 0, 0, 0, 0⟩) (by exact (Row.new _ _ _).alloc _) (by decide) (by decide)) (MS.one (m := ⟨1, 0, 0, 0, 0⟩) (Row.lit (by simp only [World.size_alloc])) (by decide) (by decide))).mono ?_; rintro e w1 ⟨vj, rfl, hb, _⟩; replace HB := Lib.hid (chain (Nat.le_refl _) HB.out (by go_grown) hb); replace HBN := Lib.hid (chain (Nat.le_refl _) HBN.out (by go_grown) hb); replace HBX := Lib.hid (chain (Nat.le_refl _) HBX.out (by go_grown) hb); clear hb; clear tc tl; have tc := (HTB.out.below HBX.out HTB.out.lt).cell; have tl := (HTB.out.below HBX.out HTB.out.lt).lt))
    | (go_at_call 17; (with_reducible refine (HD1.out _ _ ?_).mono ?_); (exact (MS.one (m := ⟨1, 0, 0, 0, 0⟩) (Row.new _ _ _) (by decide) (by decide))); rintro e w1 ⟨vd, rfl, hb, _⟩; replace HB := Lib.hid (chain (Nat.le_refl _) HB.out (by go_grown) hb); replace HBN := Lib.hid (chain (Nat.le_refl _) HBN.out (by go_grown) hb); clear hb)
    | (go_at_call 17; go_must (refine (HD2.out _ _ (MS.one (m := ⟨4, 0, 0, 0, 0⟩) (Row.new _ _ _) (by decide) (by decide))).mono ?_; rintro e wt ⟨vt, rfl, hb, hot⟩; have HT := Lib.hid hot.ms; have HBT : Hid (Below wt.heap.size wt wt) := Below.refl _ _; clear hot; replace HB := Lib.hid (chain (Nat.le_refl _) HB.out (by go_grown) hb); replace HBN := Lib.hid (chain (Nat.le_refl _) HBN.out (by go_grown) hb); clear hb))
    | (go_at_call 34; (with_reducible refine (HW2.out _ _ (HNN.out.below HBN.out (Nat.le_refl _))).mono ?_); rintro e w1 ⟨rfl, hb⟩; replace HB := Lib.hid (chain (Nat.le_refl _) HB.out (by go_grown) hb); replace HBT := Lib.hid (chain (Nat.le_refl _) HBT.out (by go_grown) hb); clear hb)
    | (go_at_call 34; (with_reducible refine (HW3.out _ _ (HT.out.below HBT.out (Nat.le_refl _))).mono ?_); rintro e w1 ⟨rfl, hb⟩; replace HB := Lib.hid (chain (Nat.le_refl _) HB.out (by go_grown) hb); clear hb))
  go_returns
  exact ⟨rfl, hBw.out.trans (HB.out.mono hBw.out.size)⟩
end Go.Proofs.YtcjblbhmajdmjaaDoor
