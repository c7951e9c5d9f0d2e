/- Reference of chapter 15: codes. -/
import Derived.Test.YtahimlnddelnbaaDoorRTh
import Derived.Test.YtahimlnddelnbaaDoorVal
set_option linter.unusedSimpArgs false
set_option linter.unusedVariables false
namespace Go.Proofs.YtahimlnddelnbaaDoor
open Go.RowKit

/-- What codes has gathered before the letter c. -/
def accC (K f o l : Nat) : Nat → List (List Int)
  | 0 => []
  | 1 => if 1 < o ∨ l = 0 then (codesF K f (o - 1) l).map (0 :: ·) else []
  | c + 2 => accC K f o l (c + 1) ++ if 0 < l then (codesF K f (o + 1) (l - 1)).map (((c + 1 : Nat) : Int) :: ·) else []
theorem accC_full (K f o l : Nat) (ho : o ≠ 0) : accC K f o l (K + 1) = codesF K (f + 1) o l := by
  have h : ∀ k, accC K f o l (k + 1) = (if 1 < o ∨ l = 0 then (codesF K f (o - 1) l).map (0 :: ·) else []) ++ (if 0 < l then (List.range k).flatMap (fun (c : Nat) => (codesF K f (o + 1) (l - 1)).map (((c : Int) + 1) :: ·)) else []) := by
    intro k
    induction k with
    | zero => simp [accC]
    | succ k ih =>
      rw [accC, ih]
      by_cases hl : 0 < l
      · simp only [if_pos hl, List.range_succ, List.flatMap_append, List.flatMap_cons, List.flatMap_nil, List.append_nil, List.append_assoc, Int.natCast_add, Int.natCast_one]
      · simp only [if_neg hl, List.append_nil]
  rw [h K, codesF, if_neg ho]
theorem accC_le (K f o l : Nat) : ∀ c d, c ≤ d → (accC K f o l c).length ≤ (accC K f o l d).length := by
  intro c d h
  induction d with
  | zero => have : c = 0 := by omega
            subst this; exact Nat.le_refl _
  | succ d ih =>
    by_cases hc : c = d + 1
    · subst hc; exact Nat.le_refl _
    · have h1 := ih (by omega)
      refine Nat.le_trans h1 ?_
      cases d with
      | zero => simp [accC]
      | succ d => rw [show accC K f o l (d + 2) = _ from by rw [accC], List.length_append]; omega
theorem own_far {E E' : TypeId} {w w' : World} {B B' : Nat} {v u : Value} {l xs : List Value} {size n m : Nat} (h : w.ownsRow B E 1 v m l) (hne : E ≠ E') (h2 : w.ownsRow B' E' size u n xs) (hg : w.grownBy w' u.ownBlock) : w'.ownsRow B E 1 v m l := by
  obtain ⟨h1, h⟩ := h
  refine ⟨h1, ?_⟩
  rcases h with h | ⟨g, cap, cur, hv, hBg, hgg, r⟩
  · exact .inl h
  · refine .inr ⟨g, cap, cur, hv, hBg, (hg.block g (lt_of_block hgg) (fun e => ?_)).trans hgg, r⟩
    rcases h2.2 with ⟨hu, _⟩ | ⟨g2, cap2, cur2, hu, _, hg2, _⟩
    · rw [hu] at e; cases e
    · rw [hu] at e
      simp only [Value.ownBlock, Option.some.injEq] at e
      subst e
      rw [hgg] at hg2
      simp only [Option.some.injEq, Obj.cells.injEq] at hg2
      exact hne hg2.2.1
/-- The values vs are slices of ints that read as the lists cs. -/
def IL (w : World) (vs : List Value) (cs : List (List Int)) : Prop := vs.length = cs.length ∧ ∀ (i : Nat) v, vs[i]? = some v → ∃ c, cs[i]? = some c ∧ OWI w 0 v c
theorem IL.nil (w : World) : IL w [] [] := ⟨rfl, fun i v h => by simp at h⟩
theorem IL.below {w w' : World} {B : Nat} {vs : List Value} {cs : List (List Int)} (h : IL w vs cs) (hb : Below B w w') (hB : w.heap.size ≤ B) : IL w' vs cs :=
  ⟨h.1, fun i v hv => by obtain ⟨c, h1, h2⟩ := h.2 i v hv; exact ⟨c, h1, h2.below hb hB⟩⟩
theorem IL.one {w : World} {v : Value} {c : List Int} (h : OWI w 0 v c) : IL w [v] [c] := ⟨rfl, fun i u hu => by
  cases i with
  | zero => simp at hu; subst hu; exact ⟨c, rfl, h⟩
  | succ i => simp at hu⟩
theorem IL.append {w : World} {vs us : List Value} {cs ds : List (List Int)} (h : IL w vs cs) (k : IL w us ds) : IL w (vs ++ us) (cs ++ ds) := by
  refine ⟨by rw [List.length_append, List.length_append, h.1, k.1], fun i v hv => ?_⟩
  by_cases hi : i < vs.length
  · rw [List.getElem?_append_left hi] at hv
    obtain ⟨c, h1, h2⟩ := h.2 i v hv
    exact ⟨c, by rw [List.getElem?_append_left (by rw [← h.1]; exact hi)]; exact h1, h2⟩
  · rw [List.getElem?_append_right (by omega)] at hv
    obtain ⟨c, h1, h2⟩ := k.2 _ v hv
    exact ⟨c, by rw [List.getElem?_append_right (by rw [← h.1]; omega), ← h.1]; exact h1, h2⟩
theorem IL.far {w w' : World} {B : Nat} {vs : List Value} {cs : List (List Int)} {u : Value} {us : List Value} (h : IL w vs cs) (h2 : VO 105 w B u us) (hg : w.grownBy w' u.ownBlock) : IL w' vs cs :=
  ⟨h.1, fun i v hv => by obtain ⟨c, h1, h3⟩ := h.2 i v hv; exact ⟨c, h1, own_far h3 (by decide) h2.2 hg⟩⟩
theorem elt_ii : Elt 132 105 (.slice none 0 0) 24 := ⟨by kernel_rfl, by kernel_rfl, by omega, rfl⟩
theorem OWI.oneC {w : World} {B : Nat} {v : Value} {l : List Int} (h : OWI w B v l) : v.oneCell' = true := by
  rcases h.2 with ⟨rfl, _⟩ | ⟨g, cap, cur, rfl, _⟩ <;> rfl
theorem OWI.empty (w : World) : OWI (w.alloc (.cells #[] 3)) w.heap.size (.slice (some ⟨w.heap.size, 0, none⟩) 0 0) [] := OWI.made (n := 0) #[] rfl (by omega)
/-- What codes hands back. -/
def RetIL (w : World) (cs : List (List Int)) (e : Ending) (w' : World) : Prop := ∃ ov vs, e = .returned ov ∧ Below w.heap.size w w' ∧ VO 105 w' w.heap.size ov vs ∧ IL w' vs cs
abbrev CCodes (V K f : Nat) : Prop := ∀ (o l : Nat) (p : List Int) (pv : Value) (w : World), 2 * l + o = f → (o = 0 → l = 0) → l ≤ 31 → p.length + f ≤ 100 → (codesF K f o l).length ≤ 4096 → OWI w 0 pv p →
  Calls Tryd.prog 105 #[.int .i64 (V : Int), .int .i64 (o : Int), .int .i64 (l : Int), pv] w (RetIL w ((codesF K f o l).map (p ++ ·)))
set_option maxRecDepth 100000 in
set_option maxHeartbeats 2000000 in
theorem rcodes_zero (V K f : Nat) (p : List Int) (pv : Value) (w : World) (hp : OWI w 0 pv p) :
    Calls Tryd.prog 105 #[.int .i64 (V : Int), .int .i64 0, .int .i64 0, pv] w (RetIL w ((codesF K f 0 0).map (p ++ ·))) := by
  have HP := Lib.hid hp
  have HE := Lib.hid (show (codesF K f 0 0).map (p ++ ·) = [p] by cases f <;> simp [codesF])
  obtain ⟨A, c, rfl, _⟩ := hp.is
  obtain ⟨np, hnp⟩ : ∃ k, k = p.length := ⟨_, rfl⟩
  rw [← hnp] at HP ⊢
  clear hp hnp
  go_enter Tryd.func105, Tryd.ntmps105
  go_wp2
  go_returns
  rw [HE.out]
  exact ⟨_, [.slice A np c], rfl, by go_grown, VO.lit [.slice A np c] rfl (by omega) (by intro u hu; simp at hu; subst hu; exact HP.out.oneC), IL.one (HP.out.below (B' := w.heap.size) (by go_grown) (Nat.le_refl _))⟩

set_option maxRecDepth 100000 in
set_option maxHeartbeats 16000000 in
theorem rcodes_succ (V K f : Nat) (hVK : (V = 0 ∧ K = 1) ∨ (V = 1 ∧ K = 2) ∨ (V = 2 ∧ K = 4) ∨ (V = 3 ∧ K = 8)) (ih : CCodes V K f) (o l : Nat) (p : List Int) (pv : Value) (w : World) (hf : 2 * l + o = f + 1) (ho : o ≠ 0) (hl : l ≤ 31) (hpl : p.length + (f + 1) ≤ 100)
    (hn : (codesF K (f + 1) o l).length ≤ 4096) (hp : OWI w 0 pv p) :
    Calls Tryd.prog 105 #[.int .i64 (V : Int), .int .i64 (o : Int), .int .i64 (l : Int), pv] w (RetIL w ((codesF K (f + 1) o l).map (p ++ ·))) := by
  have HF := Lib.hid (accC_full K f o l ho)
  have hle := accC_le K f o l
  rw [← HF.out] at hn
  have HLE := Lib.hid (fun c (h : c ≤ K + 1) => Nat.le_trans (hle c (K + 1) h) hn)
  have H0 := Lib.hid (show accC K f o l 1 = accC K f o l 0 ++ if 1 < o ∨ l = 0 then (codesF K f (o - 1) l).map (0 :: ·) else [] from rfl)
  have HS := Lib.hid (fun c => (show accC K f o l (c + 2) = accC K f o l (c + 1) ++ if 0 < l then (codesF K f (o + 1) (l - 1)).map (((c + 1 : Nat) : Int) :: ·) else [] from rfl))
  have HZ := Lib.hid (show accC K f o l 0 = [] from rfl)
  have HIH := Lib.hid ih
  have HP := Lib.hid hp
  obtain ⟨Ap, cp, rfl, _⟩ := hp.is
  obtain ⟨np, hnp⟩ : ∃ k, k = p.length := ⟨_, rfl⟩
  rw [← hnp] at HP hpl ⊢
  rw [← HF.out]
  have HNP := Lib.hid hnp
  clear hp hnp ih hle hn HF
  generalize accC K f o l = A at *
  have ho1 : (1 : Int) ≤ (o : Int) := by omega
  have ho2 : (o : Int) ≤ 100 := by omega
  have hzo : ((o : Int) == 0) = false := by rw [beq_eq_false_iff_ne]; omega
  have hVK2 : (V = 0 ∧ (∀ c : Nat, c < K + 1 → (c : Int) ≤ 1) ∧ ∀ c : Nat, ¬ c < K + 1 → (1 : Int) < (c : Int)) ∨ (V = 1 ∧ (∀ c : Nat, c < K + 1 → (c : Int) ≤ 2) ∧ ∀ c : Nat, ¬ c < K + 1 → (2 : Int) < (c : Int)) ∨
      (V = 2 ∧ (∀ c : Nat, c < K + 1 → (c : Int) ≤ 4) ∧ ∀ c : Nat, ¬ c < K + 1 → (4 : Int) < (c : Int)) ∨ (V = 3 ∧ (∀ c : Nat, c < K + 1 → (c : Int) ≤ 8) ∧ ∀ c : Nat, ¬ c < K + 1 → (8 : Int) < (c : Int)) := by
    rcases hVK with ⟨rfl, rfl⟩ | ⟨rfl, rfl⟩ | ⟨rfl, rfl⟩ | ⟨rfl, rfl⟩
    · exact .inl ⟨rfl, fun c h => by omega, fun c h => by omega⟩
    · exact .inr (.inl ⟨rfl, fun c h => by omega, fun c h => by omega⟩)
    · exact .inr (.inr (.inl ⟨rfl, fun c h => by omega, fun c h => by omega⟩))
    · exact .inr (.inr (.inr ⟨rfl, fun c h => by omega, fun c h => by omega⟩))
  have hK8 : K ≤ 8 := by rcases hVK with ⟨_, rfl⟩ | ⟨_, rfl⟩ | ⟨_, rfl⟩ | ⟨_, rfl⟩ <;> omega
  clear hVK
  have HCM : Hid (∀ (x : Int) (q : List (List Int)) (a : List (List Int)), (a ++ q.map (x :: ·)).map (p ++ ·) = a.map (p ++ ·) ++ q.map ((p ++ [x]) ++ ·)) := fun x q a => by simp [List.map_append, Function.comp_def]
  rcases hVK2 with ⟨rfl, hK1, hK2⟩ | ⟨rfl, hK1, hK2⟩ | ⟨rfl, hK1, hK2⟩ | ⟨rfl, hK1, hK2⟩
  all_goals
    have HK1 := Lib.hid hK1; have HK2 := Lib.hid hK2
    clear hK1 hK2
    go_enter Tryd.func105, Tryd.ntmps105
    go_wp2
    go_loopg [9, 10] (K + 1) (fun gk q s wr => ∃ (c : Nat) (vs : List Value), c ≤ K + 1 ∧ gk = K + 1 - c ∧ s = .int .i64 (c : Int) ∧ Below w.heap.size w wr ∧ VO 105 wr w.heap.size q vs ∧ IL wr vs ((A c).map (p ++ ·)))
    case atStart => exact ⟨0, [], by omega, rfl, rfl, Below.refl _ _, VO.nil _ _ _, by rw [HZ.out]; exact IL.nil _⟩
    case round =>
      obtain ⟨c, vs, hc, rfl, rfl, hbe, hvo, hil⟩ := hrel
      have HB := Lib.hid hbe; have HO := Lib.hid hvo; have HI := Lib.hid hil
      have HPr := Lib.hid (HP.out.below hbe (Nat.le_refl _))
      have HIL := Lib.hid hil.1
      obtain ⟨An, cn, rfl⟩ := hvo.form
      obtain ⟨nv, hnv⟩ : ∃ k, k = vs.length := ⟨_, rfl⟩
      rw [← hnv] at HO ⊢
      have hnp9 : p.length ≤ 100 := by have := HNP.out; omega
      clear hbe hvo hil hnv
      by_cases hlt : c < K + 1
      · have hck := HK1.out c hlt
        have hc8 : (c : Int) ≤ 8 := by omega
        cases c with
        | zero =>
          have hA1 := H0.out
          by_cases hcond : 1 < o ∨ l = 0
          · rw [if_pos hcond] at hA1
            have HA1 := Lib.hid hA1
            have HLN := Lib.hid (show ((A 0).map (p ++ ·)).length + ((codesF K f (o - 1) l).map ((p ++ [(0 : Int)]) ++ ·)).length ≤ 4096 by have h := HLE.out 1 (by omega); rw [hA1] at h; simp only [List.length_append, List.length_map] at h ⊢; exact h)
            have HC1 := Lib.hid (fun (W : World) (nv : Value) (h : OWI W 0 nv (p ++ [(0 : Int)])) => (show Calls Tryd.prog 105 #[.int .i64 _, .int .i64 ((o : Int) - 1), .int .i64 (l : Int), nv] W (RetIL W ((codesF K f (o - 1) l).map ((p ++ [(0 : Int)]) ++ ·))) from by
              have q := HIH.out (o - 1) l (p ++ [0]) nv W (by omega) (by omega) hl (by rw [List.length_append]; have := HNP.out; simp only [List.length_cons, List.length_nil]; omega) (by have h := HLN.out; simp only [List.length_map] at h; omega) h
              rw [show ((o - 1 : Nat) : Int) = (o : Int) - 1 by omega] at q
              exact q))
            have hcd : (decide ((1 : Int) < (o : Int)) = true) ∨ (decide ((1 : Int) < (o : Int)) = false ∧ ((l : Int) == 0) = true) := by
              by_cases h1 : 1 < o
              · exact .inl (decide_eq_true (by omega))
              · exact .inr ⟨decide_eq_false (by omega), by rcases hcond with h | h; · omega
                                                           · rw [h]; rfl⟩
            clear hA1 hcond
            simp only [Int.natCast_zero]
            rcases hcd with h1 | ⟨h1, h2⟩
            all_goals
              go_wp2_with (first
              | (at_builtin; refine wpList_append_is rfl (.tmp 22) (.tmp 23) rfl wr.heap.size _ [] rfl (OWI.empty _) _ p rfl ((HPr.out.below (B' := wr.heap.size) (by go_grown) (Nat.le_refl _)).is) (by simp only [List.length_nil]; omega) (by simp) ?_; intro nv1 w1 ho1 hg1 _; have HN1 := Lib.hid ho1; have HBN1 := Lib.hid (own_below_i (w := wr) (by go_grown) (OWI.empty _) hg1 (by simp)); clear ho1 hg1)
              | (at_builtin; refine wpList_append_is rfl (.tmp 24) (.tmp 26) rfl wr.heap.size _ p rfl (HN1.out.below (B' := w1.heap.size) (by go_grown) (Nat.le_refl _)) _ [(0 : Int)] rfl (OWI.one (B := 0) (Row.new _ _ _) (Nat.zero_le _)).is (by simp only [List.length_cons, List.length_nil]; omega) (by have h1 := HBN1.out.size; simp only [World.size_alloc]; omega) ?_; intro nv2 w2 ho2 hg2 _; have HN2 := Lib.hid ho2; have HBN2 := Lib.hid (own_below_i (w := wr) (by have h1 := HBN1.out; have h2 := h1.size; go_grown) (HN1.out.below (B' := w1.heap.size) (by go_grown) (Nat.le_refl _)) hg2 (by have h1 := HBN1.out.size; simp only [World.size_alloc]; omega)); have HO2 := Lib.hid (HO.out.below HBN2.out (Nat.le_refl _)); have HI2 := Lib.hid (HI.out.below HBN2.out (Nat.le_refl _)); clear ho2 hg2)
              | (go_at_call 105; (refine (HC1.out _ _ (by exact HN2.out.mono (Nat.zero_le _))).mono ?_); rintro e w3 ⟨ov3, vs2, rfl, hb3, hv3, hi3⟩; have HB3 := Lib.hid ((HB.out.trans (HBN2.out.mono HB.out.size)).trans (hb3.mono (by have h1 := HB.out.size; have h2 := HBN2.out.size; omega))); have HO3 := Lib.hid (HO2.out.below hb3 (Nat.le_refl _)); have HIA := Lib.hid (HI2.out.below hb3 (Nat.le_refl _)); have HV3 := Lib.hid hv3; have HI3 := Lib.hid hi3; clear hb3 hv3 hi3)
              | (at_builtin; refine wpList_append_vs elt_ii rfl (.tmp 38) (.tmp 44) rfl w.heap.size _ vs rfl HO3.out _ vs2 rfl HV3.out.vs HV3.out.1 (by rw [HIL.out, HI3.out.1]; have := HLN.out; omega) HB3.out.size ?_; intro ov4 w4 ho4 hg4 _; have HB4 := Lib.hid (own_below_v HB3.out HO3.out hg4 HB3.out.size); have HI4 := Lib.hid ((HIA.out.far HO3.out hg4).append (HI3.out.far HO3.out hg4)); have HO4 := Lib.hid ho4; clear ho4 hg4))
              go_roundg (K + 1 - (0 + 1))
              case rel => exact ⟨0 + 1, vs ++ vs2, by omega, rfl, by go_num, HB4.out, HO4.out, by rw [HA1.out, HCM.out]; exact HI4.out⟩
              case measure => omega
          · rw [if_neg hcond, List.append_nil] at hA1
            have HA1 := Lib.hid hA1
            have h1 : decide ((1 : Int) < (o : Int)) = false := decide_eq_false (by omega)
            have h2 : ((l : Int) == 0) = false := by rw [beq_eq_false_iff_ne]; omega
            clear hA1 hcond
            simp only [Int.natCast_zero]
            go_wp2_with (first
              | (at_builtin; refine wpList_append_is rfl (.tmp 22) (.tmp 23) rfl wr.heap.size _ [] rfl (OWI.empty _) _ p rfl ((HPr.out.below (B' := wr.heap.size) (by go_grown) (Nat.le_refl _)).is) (by simp only [List.length_nil]; omega) (by simp) ?_; intro nv1 w1 ho1 hg1 _; have HN1 := Lib.hid ho1; have HBN1 := Lib.hid (own_below_i (w := wr) (by go_grown) (OWI.empty _) hg1 (by simp)); clear ho1 hg1)
              | (at_builtin; refine wpList_append_is rfl (.tmp 24) (.tmp 26) rfl wr.heap.size _ p rfl (HN1.out.below (B' := w1.heap.size) (by go_grown) (Nat.le_refl _)) _ [(0 : Int)] rfl (OWI.one (B := 0) (Row.new _ _ _) (Nat.zero_le _)).is (by simp only [List.length_cons, List.length_nil]; omega) (by have h1 := HBN1.out.size; simp only [World.size_alloc]; omega) ?_; intro nv2 w2 ho2 hg2 _; have HN2 := Lib.hid ho2; have HBN2 := Lib.hid (own_below_i (w := wr) (by have h1 := HBN1.out; have h2 := h1.size; go_grown) (HN1.out.below (B' := w1.heap.size) (by go_grown) (Nat.le_refl _)) hg2 (by have h1 := HBN1.out.size; simp only [World.size_alloc]; omega)); have HO2 := Lib.hid (HO.out.below HBN2.out (Nat.le_refl _)); have HI2 := Lib.hid (HI.out.below HBN2.out (Nat.le_refl _)); clear ho2 hg2))
            go_roundg (K + 1 - (0 + 1))
            case rel => exact ⟨0 + 1, vs, by omega, rfl, by go_num, HB.out.trans (HBN2.out.mono HB.out.size), HO2.out, by rw [HA1.out]; exact HI2.out⟩
            case measure => omega
        | succ d =>
          have hA1 := HS.out d
          have hc0 : (((d + 1 : Nat) : Int) == 0) = false := by rw [beq_eq_false_iff_ne]; omega
          have hc1 : (0 : Int) < ((d + 1 : Nat) : Int) := by omega
          have hc2 : decide ((0 : Int) < ((d + 1 : Nat) : Int)) = true := decide_eq_true (by omega)
          obtain ⟨c, hcd⟩ : ∃ c, c = d + 1 := ⟨_, rfl⟩
          rw [← hcd] at HI HIL hck hc8 hc0 hc1 hc2 hA1 ⊢
          have HCD := Lib.hid hcd
          by_cases hl0 : 0 < l
          · rw [if_pos hl0] at hA1
            have HA1 := Lib.hid hA1
            have HLN := Lib.hid (show ((A c).map (p ++ ·)).length + ((codesF K f (o + 1) (l - 1)).map ((p ++ [(c : Int)]) ++ ·)).length ≤ 4096 by have h := HLE.out (d + 2) (by omega); rw [hA1] at h; simp only [List.length_append, List.length_map] at h ⊢; exact h)
            have HC1 := Lib.hid (fun (W : World) (nv : Value) (h : OWI W 0 nv (p ++ [(c : Int)])) => (show Calls Tryd.prog 105 #[.int .i64 _, .int .i64 ((o : Int) + 1), .int .i64 ((l : Int) - 1), nv] W (RetIL W ((codesF K f (o + 1) (l - 1)).map ((p ++ [(c : Int)]) ++ ·))) from by
              have q := HIH.out (o + 1) (l - 1) (p ++ [(c : Int)]) nv W (by omega) (by omega) (by omega) (by rw [List.length_append]; have := HNP.out; simp only [List.length_cons, List.length_nil]; omega) (by have h := HLN.out; simp only [List.length_map] at h; omega) h
              rw [show ((o + 1 : Nat) : Int) = (o : Int) + 1 by omega, show ((l - 1 : Nat) : Int) = (l : Int) - 1 by omega] at q
              exact q))
            have hli : (0 : Int) < (l : Int) := by omega
            have hli2 : decide ((0 : Int) < (l : Int)) = true := decide_eq_true (by omega)
            have hli3 : (l : Int) ≤ 31 := by omega
            clear hA1 hl0 hcd
            go_wp2_with (first
              | (at_builtin; refine wpList_append_is rfl (.tmp 22) (.tmp 23) rfl wr.heap.size _ [] rfl (OWI.empty _) _ p rfl ((HPr.out.below (B' := wr.heap.size) (by go_grown) (Nat.le_refl _)).is) (by simp only [List.length_nil]; omega) (by simp) ?_; intro nv1 w1 ho1 hg1 _; have HN1 := Lib.hid ho1; have HBN1 := Lib.hid (own_below_i (w := wr) (by go_grown) (OWI.empty _) hg1 (by simp)); clear ho1 hg1)
              | (at_builtin; refine wpList_append_is rfl (.tmp 24) (.tmp 26) rfl wr.heap.size _ p rfl (HN1.out.below (B' := w1.heap.size) (by go_grown) (Nat.le_refl _)) _ [(c : Int)] rfl (OWI.one (B := 0) (Row.new _ _ _) (Nat.zero_le _)).is (by simp only [List.length_cons, List.length_nil]; omega) (by have h1 := HBN1.out.size; simp only [World.size_alloc]; omega) ?_; intro nv2 w2 ho2 hg2 _; have HN2 := Lib.hid ho2; have HBN2 := Lib.hid (own_below_i (w := wr) (by have h1 := HBN1.out; have h2 := h1.size; go_grown) (HN1.out.below (B' := w1.heap.size) (by go_grown) (Nat.le_refl _)) hg2 (by have h1 := HBN1.out.size; simp only [World.size_alloc]; omega)); have HO2 := Lib.hid (HO.out.below HBN2.out (Nat.le_refl _)); have HI2 := Lib.hid (HI.out.below HBN2.out (Nat.le_refl _)); clear ho2 hg2)
              | (go_at_call 105; (refine (HC1.out _ _ (by exact HN2.out.mono (Nat.zero_le _))).mono ?_); rintro e w3 ⟨ov3, vs2, rfl, hb3, hv3, hi3⟩; have HB3 := Lib.hid ((HB.out.trans (HBN2.out.mono HB.out.size)).trans (hb3.mono (by have h1 := HB.out.size; have h2 := HBN2.out.size; omega))); have HO3 := Lib.hid (HO2.out.below hb3 (Nat.le_refl _)); have HIA := Lib.hid (HI2.out.below hb3 (Nat.le_refl _)); have HV3 := Lib.hid hv3; have HI3 := Lib.hid hi3; clear hb3 hv3 hi3)
              | (at_builtin; refine wpList_append_vs elt_ii rfl (.tmp 52) (.tmp 59) rfl w.heap.size _ vs rfl HO3.out _ vs2 rfl HV3.out.vs HV3.out.1 (by rw [HIL.out, HI3.out.1]; have := HLN.out; omega) HB3.out.size ?_; intro ov4 w4 ho4 hg4 _; have HB4 := Lib.hid (own_below_v HB3.out HO3.out hg4 HB3.out.size); have HI4 := Lib.hid ((HIA.out.far HO3.out hg4).append (HI3.out.far HO3.out hg4)); have HO4 := Lib.hid ho4; clear ho4 hg4))
            go_roundg (K + 1 - (c + 1))
            case rel => exact ⟨c + 1, vs ++ vs2, by have := HCD.out; omega, rfl, by go_num, HB4.out, HO4.out, by rw [show c + 1 = d + 2 by rw [HCD.out], HA1.out, HCM.out]; exact HI4.out⟩
            case measure => have := HCD.out; omega
          · rw [if_neg hl0, List.append_nil] at hA1
            have HA1 := Lib.hid hA1
            have hli : (l : Int) ≤ 0 := by omega
            have hli2 : decide ((0 : Int) < (l : Int)) = false := decide_eq_false (by omega)
            clear hA1 hl0 hcd
            go_wp2_with (first
              | (at_builtin; refine wpList_append_is rfl (.tmp 22) (.tmp 23) rfl wr.heap.size _ [] rfl (OWI.empty _) _ p rfl ((HPr.out.below (B' := wr.heap.size) (by go_grown) (Nat.le_refl _)).is) (by simp only [List.length_nil]; omega) (by simp) ?_; intro nv1 w1 ho1 hg1 _; have HN1 := Lib.hid ho1; have HBN1 := Lib.hid (own_below_i (w := wr) (by go_grown) (OWI.empty _) hg1 (by simp)); clear ho1 hg1)
              | (at_builtin; refine wpList_append_is rfl (.tmp 24) (.tmp 26) rfl wr.heap.size _ p rfl (HN1.out.below (B' := w1.heap.size) (by go_grown) (Nat.le_refl _)) _ [(c : Int)] rfl (OWI.one (B := 0) (Row.new _ _ _) (Nat.zero_le _)).is (by simp only [List.length_cons, List.length_nil]; omega) (by have h1 := HBN1.out.size; simp only [World.size_alloc]; omega) ?_; intro nv2 w2 ho2 hg2 _; have HN2 := Lib.hid ho2; have HBN2 := Lib.hid (own_below_i (w := wr) (by have h1 := HBN1.out; have h2 := h1.size; go_grown) (HN1.out.below (B' := w1.heap.size) (by go_grown) (Nat.le_refl _)) hg2 (by have h1 := HBN1.out.size; simp only [World.size_alloc]; omega)); have HO2 := Lib.hid (HO.out.below HBN2.out (Nat.le_refl _)); have HI2 := Lib.hid (HI.out.below HBN2.out (Nat.le_refl _)); clear ho2 hg2))
            go_roundg (K + 1 - (c + 1))
            case rel => exact ⟨c + 1, vs, by have := HCD.out; omega, rfl, by go_num, HB.out.trans (HBN2.out.mono HB.out.size), HO2.out, by rw [show c + 1 = d + 2 by rw [HCD.out], HA1.out]; exact HI2.out⟩
            case measure => have := HCD.out; omega
      · have hck := HK2.out c hlt
        have hcK : c = K + 1 := by omega
        have hi := HI.out
        rw [hcK] at hi
        have HIF := Lib.hid hi
        clear hi hcK
        go_wp2
        go_returns
        exact ⟨_, vs, rfl, HB.out, HO.out, HIF.out⟩

theorem rcodes_any (V K : Nat) (hVK : (V = 0 ∧ K = 1) ∨ (V = 1 ∧ K = 2) ∨ (V = 2 ∧ K = 4) ∨ (V = 3 ∧ K = 8)) : ∀ f, CCodes V K f := by
  intro f
  induction f with
  | zero =>
    intro o l p pv w hf ho hl hpl hn hp
    obtain rfl : o = 0 := by omega
    obtain rfl : l = 0 := by omega
    exact rcodes_zero V K 0 p pv w hp
  | succ f ih =>
    intro o l p pv w hf ho hl hpl hn hp
    have ho0 : o ≠ 0 := fun h => by have := ho h; omega
    exact rcodes_succ V K f hVK ih o l p pv w hf ho0 hl hpl hn hp
end Go.Proofs.YtahimlnddelnbaaDoor
