/- MsoBlocks: for every formula the law returns true. -/
import Derived.Test.YtbggpiednddheaaDoorRow
import Derived.Test.YtbggpiednddheaaDoorBuild
set_option linter.unusedSimpArgs false
set_option linter.unusedVariables false
namespace Go.Proofs.YtbggpiednddheaaDoor
open Go.RowKit

set_option maxRecDepth 100000 in
theorem blocks_no (f : List Mk) (v : Value) (w : World) (hv : MS w v f) (hf : formedS (f.take 70) = false) :
    Calls Tryd.prog 9 #[v] w fun e w' => e = .returned (.bool true) ∧ Below w.heap.size w w' := by
  have HV := Lib.hid hv
  obtain ⟨_, A, c, rfl, _⟩ := hv
  have hfm := fun W u (h : MS W u (f.take 70)) => formed_law u (f.take 70) W h
  rw [hf] at hfm
  have HFM := Lib.hid hfm
  clear hfm hf
  go_enter Tryd.func9, Tryd.ntmps9
  go_wp2_with (first
    | (go_at_call 13; go_must (refine (few_any f _ _ HV.out).mono ?_; rintro e w2 ⟨v2, rfl, hb2, ho2⟩; have HO := Lib.hid ho2.ms; have HB := Lib.hid hb2; have HB2 : Hid (Below w2.heap.size w2 w2) := Below.refl _ _; clear hb2 ho2))
    | (go_at_call 38; go_must (refine (HFM.out _ _ (HO.out.below HB2.out (Nat.le_refl _))).mono ?_; rintro e w3 ⟨rfl, hb⟩; replace HB := Lib.hid (chain (Nat.le_refl _) HB.out (Below.refl _ _) hb); clear hb))
    | (go_at_call 28; go_must (refine (awake_any _).mono ?_; rintro e w3 ⟨rfl, hb⟩; replace HB := Lib.hid (chain (Nat.le_refl _) HB.out (Below.refl _ _) hb); clear hb)))
  go_returns
  exact ⟨rfl, HB.out⟩

theorem MS.capn {w : World} {A : Option Addr} {n c : Nat} {f : List Mk} (h : MS w (.slice A n c) f) : n ≤ c := by
  obtain ⟨_, A', c', hv, hc, _⟩ := h
  cases hv
  exact hc
theorem i64_wrap {e : Int} (h0 : -1000000 ≤ e) (h1 : e ≤ 1000000) : IntKind.i64.wrap e = e := IntWalk.i64_in _ ⟨by omega, by omega⟩
theorem take_last {g : List Mk} {m : Mk} {h : List Mk} (hg : g = h ++ [m]) : g[g.length - 1]? = some m ∧ g.take (g.length - 1) = h := by
  subst hg
  constructor
  · simp
  · simp
theorem leaf_len {op x y : Int} (ok : (Tr.leaf op x y).ok) : 4 ≤ (Tr.leaf op x y).text.length := by
  rw [Tr.text]
  have h : nm op ≠ [] := ok.1
  have hr := nm_range h
  have hc : op = 1 ∨ op = 2 ∨ op = 3 ∨ op = 4 ∨ op = 5 ∨ op = 6 ∨ op = 7 ∨ op = 8 ∨ op = 9 ∨ op = 10 ∨ op = 11 ∨ op = 12 ∨ op = 13 ∨ op = 14 ∨ op = 15 := by omega
  by_cases h1 : op = 1
  · rw [if_pos h1, h1]; decide
  · rw [if_neg h1, fmtNode_eq]
    have h2 : 2 ≤ (nm op).length := by
      rcases hc with rfl | rfl | rfl | rfl | rfl | rfl | rfl | rfl | rfl | rfl | rfl | rfl | rfl | rfl | rfl <;> decide
    simp only [List.length_append, List.length_singleton]
    omega
theorem leaf_op {op x y : Int} (ok : (Tr.leaf op x y).ok) : op < 9 ∧ 1 ≤ op := by
  have h0 : nc op = 0 := ok.2.1
  have hr := nm_range ok.1
  unfold nc at h0
  by_cases h1 : op = 10 ∨ op = 11
  · rw [if_pos h1] at h0; omega
  · rw [if_neg h1] at h0
    by_cases h2 : op = 9 ∨ (12 ≤ op ∧ op ≤ 15)
    · rw [if_pos h2] at h0; omega
    · omega

/-- What the walk uses of a formed formula. -/
structure BK (f g : List Mk) (lm : Mk) (R : ByteArray) (n : Nat) : Prop where
  few : ∀ W u, MS W u f → Calls Tryd.prog 13 #[u] W (RetMO W g)
  form : ∀ W u, MS W u g → Calls Tryd.prog 38 #[u] W fun e w' => e = .returned (.bool true) ∧ Below W.heap.size W w'
  fmt : ∀ W u, MS W u g → Calls Tryd.prog 31 #[u] W fun e w' => e = .returned (.tuple #[.string R, .int .i64 0]) ∧ Below W.heap.size W w'
  eq : ∀ W u x, MS W u g → MS W x g → Calls Tryd.prog 25 #[u, x] W fun e w' => e = .returned (.bool true) ∧ Below W.heap.size W w'
  len : n = g.length
  pos : 1 ≤ n
  le : n ≤ 64
  last : g[n - 1]? = some lm
  op : 0 ≤ lm.op ∧ lm.op ≤ 255
theorem BK.mk' {f g : List Mk} {lm : Mk} {h : List Mk} (hg : g = f.take 70) (hf : formedS g = true) (hl : g = h ++ [lm]) (hop : 0 ≤ lm.op ∧ lm.op ≤ 255) : BK f g lm ⟨(textS g).toArray⟩ g.length := by
  have hlen := formed_len g hf
  refine ⟨fun W u h => by rw [hg]; exact few_any f u W h, fun W u h => ?_, fun W u h => ?_, fun W u x h1 h2 => ?_, rfl, hlen.1, hlen.2, (take_last hl).1, hop⟩
  · have q := formed_law u g W h
    rw [hf] at q
    exact q
  · have q := Format_text g u W h
    rw [if_pos hf, if_pos hf] at q
    exact q
  · have q := equalMSO g g u x W h1 h2 (by omega)
    rw [decide_eq_true (rfl : g = g)] at q
    exact q

set_option maxRecDepth 100000 in
set_option maxHeartbeats 2000000 in
theorem blocks_leaf (f g : List Mk) (lm : Mk) (R : ByteArray) (v : Value) (w : World) (hv : MS w v f) (hk : BK f g lm R 1) (h1 : lm.op < 9) (h4 : 4 ≤ R.size) :
    Calls Tryd.prog 9 #[v] w fun e w' => e = .returned (.bool true) ∧ Below w.heap.size w w' := by
  have HV := Lib.hid hv
  obtain ⟨_, A, c, rfl, _⟩ := hv
  have hop := hk.op
  have n1 : (lm.op == 10) = false := by rw [beq_eq_false_iff_ne]; omega
  have n2 : (lm.op == 11) = false := by rw [beq_eq_false_iff_ne]; omega
  have n3 : (lm.op == 9) = false := by rw [beq_eq_false_iff_ne]; omega
  have HK := Lib.hid hk; clear hk
  go_enter Tryd.func9, Tryd.ntmps9
  go_wp2_with (first
    | (go_at_call 13; go_must (refine (HK.out.few _ _ HV.out).mono ?_; rintro e w2 ⟨v2, rfl, hb2, ho2⟩; obtain ⟨gb, cap, rfl, hg1, hg2⟩ := ho2.shape HK.out.len (by decide); have HO := Lib.hid ho2.ms; have hcapn := HO.out.capn; have HB := Lib.hid hb2; have HB2 : Hid (Below w2.heap.size w2 w2) := Below.refl _ _; clear hb2 ho2))
    | (go_at_call 38; go_must (refine (HK.out.form _ _ (HO.out.below HB2.out (Nat.le_refl _))).mono ?_; rintro e w3 ⟨rfl, hb⟩; replace HB := Lib.hid (chain (Nat.le_refl _) HB.out (Below.refl _ _) hb); replace HB2 := Lib.hid (chain (Nat.le_refl _) HB2.out (Below.refl _ _) hb); clear hb; obtain ⟨c0, c1, c2, c3, c4⟩ := (HO.out.below HB2.out (Nat.le_refl _)).at5 HK.out.last; simp only [Nat.zero_add] at c0 c1 c2 c3 c4))
    | (go_at_call 31; go_must (refine (HK.out.fmt _ _ (HO.out.below (B := w2.heap.size) (Below.alloc HB2.out HB2.out.size _) (Nat.le_refl _))).mono ?_; rintro e w4 ⟨rfl, hb⟩; obtain ⟨x0, x1, x2, x3⟩ := after1 hb; replace HB := Lib.hid (chain (Nat.le_refl _) HB.out (by go_grown) hb); replace HB2 := Lib.hid (chain (Nat.le_refl _) HB2.out (by go_grown) hb); clear hb c0 c1 c2 c3 c4))
    | (go_at_call 28; go_must (refine (awake_any _).mono ?_; rintro e w3 ⟨rfl, hb⟩; replace HB := Lib.hid (chain (Nat.le_refl _) HB.out (Below.refl _ _) hb); clear hb)))
  go_returns
  exact ⟨rfl, HB.out⟩

set_option maxRecDepth 100000 in
set_option maxHeartbeats 2000000 in
theorem blocks_un (f g h : List Mk) (lm : Mk) (R : ByteArray) (n : Nat) (q : Bool) (v : Value) (w : World) (hv : MS w v f) (hk : BK f g lm R n) (hh : g.take (n - 1) = h) (hq : if q then 12 ≤ lm.op ∧ lm.op ≤ 15 else lm.op = 9)
    (hnot : q = false → ∀ W u, MS W u h → Calls Tryd.prog 17 #[u] W (RetFE W g 0)) (hbind : q = true → ∀ W u, MS W u h → Calls Tryd.prog 19 #[.int .u8 lm.op, .int .i64 lm.x, u] W (RetFE W g 0)) :
    Calls Tryd.prog 9 #[v] w fun e w' => e = .returned (.bool true) ∧ Below w.heap.size w w' := by
  have HV := Lib.hid hv
  obtain ⟨_, A, c, rfl, _⟩ := hv
  have hop := hk.op
  have hp := hk.pos
  have hle := hk.le
  have HK := Lib.hid hk; have HH := Lib.hid hh; clear hk hh
  have HN := Lib.hid hnot; have HBD := Lib.hid hbind; clear hnot hbind
  cases q
  · simp only [Bool.false_eq_true, if_false] at hq
    have n1 : (lm.op == 10) = false := by rw [beq_eq_false_iff_ne]; omega
    have n2 : (lm.op == 11) = false := by rw [beq_eq_false_iff_ne]; omega
    have n3 : (lm.op == 9) = true := by rw [beq_iff_eq]; omega
    have n4 : lm.op < 12 := by omega
    clear hq
    go_enter Tryd.func9, Tryd.ntmps9
    go_wp2_with (first
      | (go_at_call 13; go_must (refine (HK.out.few _ _ HV.out).mono ?_; rintro e w2 ⟨v2, rfl, hb2, ho2⟩; obtain ⟨gb, cap, rfl, hg1, hg2⟩ := ho2.shape HK.out.len (by omega); have HO := Lib.hid ho2.ms; have hcapn := HO.out.capn; have HB := Lib.hid hb2; have HB2 : Hid (Below w2.heap.size w2 w2) := Below.refl _ _; clear hb2 ho2))
      | (go_at_call 38; go_must (refine (HK.out.form _ _ (HO.out.below HB2.out (Nat.le_refl _))).mono ?_; rintro e w3 ⟨rfl, hb⟩; replace HB := Lib.hid (chain (Nat.le_refl _) HB.out (Below.refl _ _) hb); replace HB2 := Lib.hid (chain (Nat.le_refl _) HB2.out (Below.refl _ _) hb); clear hb; obtain ⟨c0, c1, c2, c3, c4⟩ := (HO.out.below HB2.out (Nat.le_refl _)).at5 HK.out.last; simp only [Nat.zero_add] at c0 c1 c2 c3 c4))
      | (go_at_call 31; go_must (refine (HK.out.fmt _ _ (HO.out.below (B := w2.heap.size) (Below.alloc HB2.out HB2.out.size _) (Nat.le_refl _))).mono ?_; rintro e w4 ⟨rfl, hb⟩; obtain ⟨x0, x1, x2, x3⟩ := after1 hb; replace HB := Lib.hid (chain (Nat.le_refl _) HB.out (by go_grown) hb); replace HB2 := Lib.hid (chain (Nat.le_refl _) HB2.out (by go_grown) hb); clear hb c0 c1 c2 c3 c4))
      | (go_at_call 17; go_must (refine (HN.out (by first | rfl | trivial) _ _ (HH.out ▸ (HO.out.below HB2.out (Nat.le_refl _)).cut (n - 1) (by omega) _ (fun _ => rfl))).mono ?_; rintro e w5 ⟨v5, rfl, hb, ho5⟩; have HN5 := Lib.hid ho5.ms; replace HB := Lib.hid (chain (Nat.le_refl _) HB.out (Below.refl _ _) hb); replace HB2 := Lib.hid (chain (Nat.le_refl _) HB2.out (Below.refl _ _) hb); clear hb ho5))
      | (go_at_call 25; go_must (refine (HK.out.eq _ _ _ HN5.out (HO.out.below HB2.out (Nat.le_refl _))).mono ?_; rintro e w6 ⟨rfl, hb⟩; replace HB := Lib.hid (chain (Nat.le_refl _) HB.out (Below.refl _ _) hb); clear hb))
      | (go_at_call 28; go_must (refine (awake_any _).mono ?_; rintro e w3 ⟨rfl, hb⟩; replace HB := Lib.hid (chain (Nat.le_refl _) HB.out (Below.refl _ _) hb); clear hb)))
    go_returns
    exact ⟨rfl, HB.out⟩
  · simp only [if_true] at hq
    have n1 : (lm.op == 10) = false := by rw [beq_eq_false_iff_ne]; omega
    have n2 : (lm.op == 11) = false := by rw [beq_eq_false_iff_ne]; omega
    obtain ⟨q1, q2⟩ := hq
    go_enter Tryd.func9, Tryd.ntmps9
    go_wp2_with (first
      | (go_at_call 13; go_must (refine (HK.out.few _ _ HV.out).mono ?_; rintro e w2 ⟨v2, rfl, hb2, ho2⟩; obtain ⟨gb, cap, rfl, hg1, hg2⟩ := ho2.shape HK.out.len (by omega); have HO := Lib.hid ho2.ms; have hcapn := HO.out.capn; have HB := Lib.hid hb2; have HB2 : Hid (Below w2.heap.size w2 w2) := Below.refl _ _; clear hb2 ho2))
      | (go_at_call 38; go_must (refine (HK.out.form _ _ (HO.out.below HB2.out (Nat.le_refl _))).mono ?_; rintro e w3 ⟨rfl, hb⟩; replace HB := Lib.hid (chain (Nat.le_refl _) HB.out (Below.refl _ _) hb); replace HB2 := Lib.hid (chain (Nat.le_refl _) HB2.out (Below.refl _ _) hb); clear hb; obtain ⟨c0, c1, c2, c3, c4⟩ := (HO.out.below HB2.out (Nat.le_refl _)).at5 HK.out.last; simp only [Nat.zero_add] at c0 c1 c2 c3 c4))
      | (go_at_call 31; go_must (refine (HK.out.fmt _ _ (HO.out.below (B := w2.heap.size) (Below.alloc HB2.out HB2.out.size _) (Nat.le_refl _))).mono ?_; rintro e w4 ⟨rfl, hb⟩; obtain ⟨x0, x1, x2, x3⟩ := after1 hb; replace HB := Lib.hid (chain (Nat.le_refl _) HB.out (by go_grown) hb); replace HB2 := Lib.hid (chain (Nat.le_refl _) HB2.out (by go_grown) hb); clear hb c0 c1 c2 c3 c4))
      | (go_at_call 28; go_must (refine (awake_any _).mono ?_; rintro e w3 ⟨rfl, hb⟩; replace HB := Lib.hid (chain (Nat.le_refl _) HB.out (Below.refl _ _) hb); clear hb)))
    have HBC : Hid (∀ W u, MS W u h → Calls Tryd.prog 19 #[.int .u8 lm.op, .int .i64 lm.x, u] W (RetFE W g 0)) := HBD.out (by first | rfl | trivial)
    have y6 : (1 : Int) ≤ (n : Int) := by omega
    have y1 : IntKind.i64.wrap ((n : Int) - 1) = (n : Int) - 1 := i64_wrap (by omega) (by omega)
    have y2 : ((n : Int) - 1).toNat = n - 1 := by omega
    have y3 : (0 : Int) ≤ (n : Int) - 1 := by omega
    have y4 : (n : Int) - 1 ≤ (cap : Int) := by omega
    have y5 : 12 ≤ lm.op := q1
    go_region_law (go_simp; go_at_call 19; refine (HBC.out _ _ (HH.out ▸ (HO.out.below (B := w2.heap.size) (by first | exact HB2.out | exact ⟨HB2.out.os, HB2.out.tape, HB2.out.output, HB2.out.size, HB2.out.block⟩) (Nat.le_refl _)).cut (n - 1) (by omega) _ (fun _ => rfl))).mono ?_; rintro e w5 ⟨v5, rfl, hb, ho5⟩; have HN5 := Lib.hid ho5.ms; have HB5 : Hid (Below w4.heap.size w4 w5) := ⟨hb.os, hb.tape, hb.output, hb.size, hb.block⟩; clear hb ho5; try go_simp)
    all_goals
      clear y1 y2 y3 y4 y6
      replace HB := Lib.hid (chain (Nat.le_refl _) HB.out (Below.refl _ _) HB5.out)
      replace HB2 := Lib.hid (chain (Nat.le_refl _) HB2.out (Below.refl _ _) HB5.out)
      have HBN : Hid (Below w5.heap.size w5 w5) := Below.refl _ _
      go_wp2_with (first
        | (go_at_call 25; go_must (refine (HK.out.eq _ _ _ (HN5.out.below (B := w5.heap.size) (by first | exact HBN.out | exact ⟨rfl, rfl, rfl, Nat.le_refl _, fun _ _ => rfl⟩) (Nat.le_refl _)) (HO.out.below (B := w2.heap.size) (by first | exact HB2.out | exact ⟨HB2.out.os, HB2.out.tape, HB2.out.output, HB2.out.size, HB2.out.block⟩) (Nat.le_refl _))).mono ?_; rintro e w6 ⟨rfl, hb⟩; replace HB := Lib.hid (chain (Nat.le_refl _) HB.out (by first | exact Below.refl _ _ | exact ⟨rfl, rfl, rfl, Nat.le_refl _, fun _ _ => rfl⟩) hb); clear hb))
        | (go_at_call 28; go_must (refine (awake_any _).mono ?_; rintro e w3 ⟨rfl, hb⟩; replace HB := Lib.hid (chain (Nat.le_refl _) HB.out (Below.refl _ _) hb); clear hb)))
      go_returns
      exact ⟨rfl, HB.out⟩
end Go.Proofs.YtbggpiednddheaaDoor
