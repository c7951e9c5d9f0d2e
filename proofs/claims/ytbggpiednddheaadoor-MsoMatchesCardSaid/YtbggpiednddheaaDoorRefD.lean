/- Contract of the reference: Join. -/
import Derived.Test.YtbggpiednddheaaDoorRefC
import Derived.Test.YtbggpiednddheaaDoorJoin
set_option linter.unusedSimpArgs false
set_option linter.unusedVariables false
namespace Go.Proofs.YtbggpiednddheaaDoor
open Go.RowKit

theorem take_mv (f h : List Mk) (d : Int) (k : Nat) (m : Mk) (hm : h[k]? = some m) : f ++ (h.take (k + 1)).map (mv d) = (f ++ (h.take k).map (mv d)) ++ [mv d m] := by
  rw [List.take_add_one, hm, List.map_append, List.append_assoc]
  rfl

theorem ms_one5 {w : World} {g : Nat} {op x y a b : Int} (hr : Row w g 49 #[.int .u8 op, .int .i64 x, .int .i64 y, .int .i64 a, .int .i64 b]) (h0 : 0 ≤ op) (h1 : op ≤ 255) : MS w (.slice (some ⟨g, 0, none⟩) 1 1) [⟨op, x, y, a, b⟩] := MS.one (m := ⟨op, x, y, a, b⟩) hr h0 h1
set_option maxRecDepth 100000 in
set_option maxHeartbeats 4000000 in
theorem RJoin_any (op : Int) (f h : List Mk) (v u : Value) (w : World) (hv : MS w v f) (hu : MS w u h) (h0 : 0 ≤ op) (h1 : op ≤ 255) :
    Calls Tryd.prog 30 #[.int .u8 op, v, u] w (RetFE w (joinS op f h).1 (joinS op f h).2) := by
  by_cases hop : op ≠ 10 ∧ op ≠ 11
  · have a1 : (op == 10) = false := by simp [hop.1]
    have a2 : (op == 11) = false := by simp [hop.2]
    have a3 : (op != 10) = true := by simp [hop.1]
    have a4 : (op != 11) = true := by simp [hop.2]
    have e : joinS op f h = ([], 6) := by rw [joinS, if_pos hop]
    rw [e]
    clear hv hu hop e
    go_enter Tryd.func30, Tryd.ntmps30
    go_wp2
    go_returns
    exact ⟨.slice none 0 0, rfl, Below.refl _ _, MO.nil _ _⟩
  have HE0 : Hid (joinS op f h = if formedS f = false ∨ formedS h = false then ([], 2) else if 64 ≤ f.length + h.length then ([], 4)
    else (f ++ h.map (mv f.length) ++ [⟨op, 0, 0, f.length - 1, f.length + h.length - 1⟩], 0)) := by unfold Hid; rw [joinS, if_neg hop]
  obtain ⟨t, ht⟩ : ∃ t, t = formedS f := ⟨_, rfl⟩
  obtain ⟨s, hs⟩ : ∃ s, s = formedS h := ⟨_, rfl⟩
  have HT := Lib.hid ht; have HS := Lib.hid hs
  have HFF := Lib.hid fun W (hb : Below w.heap.size w W) => (show Calls Tryd.prog 58 #[v] W (fun e w' => e = .returned (.bool t) ∧ Below W.heap.size W w') from by rw [ht]; exact RFormed_any f v W (hv.below hb (Nat.le_refl _)))
  have HFH := Lib.hid fun W (hb : Below w.heap.size w W) => (show Calls Tryd.prog 58 #[u] W (fun e w' => e = .returned (.bool s) ∧ Below W.heap.size W w') from by rw [hs]; exact RFormed_any h u W (hu.below hb (Nat.le_refl _)))
  clear ht hs
  have HV := Lib.hid hv; have HU := Lib.hid hu
  have hop3 : (op != 10 && op != 11) = false := by
    rw [Bool.and_eq_false_iff]
    simp only [bne_eq_false_iff_eq]
    omega
  have hcs : (op != 10) = false ∨ ((op != 10) = true ∧ (op != 11) = false) := by
    cases h10 : (op != 10)
    · exact .inl rfl
    · rw [h10, Bool.true_and] at hop3; exact .inr ⟨rfl, hop3⟩
  clear hop hop3
  obtain ⟨hvo, A, c, rfl, hc, hc2, _⟩ := hv
  obtain ⟨huo, A2, c2, rfl, hc3, hc4, _⟩ := hu
  have HUO := Lib.hid huo; clear huo hvo
  obtain ⟨n, hn⟩ : ∃ n, n = f.length := ⟨_, rfl⟩
  obtain ⟨k, hk⟩ : ∃ k, k = h.length := ⟨_, rfl⟩
  rw [← hn, ← hk] at HE0
  rw [← hn] at HV HFF hc ⊢
  rw [← hk] at HU HFH hc3 ⊢
  cases t with
  | false =>
    have HE1 : Hid (joinS op f h = ([], 2)) := by unfold Hid; rw [HE0.out, ← HT.out]; simp
    clear hn hk
    rcases hcs with q1 | ⟨q1, q2⟩
    all_goals
      go_enter Tryd.func30, Tryd.ntmps30
      go_wp2_with (go_at_call 58; go_must (with_reducible refine (HFF.out _ (Below.refl _ _)).mono ?_; rintro e w1 ⟨rfl, hb1⟩))
      go_returns
      exact ⟨.slice none 0 0, by rw [HE1.out]; rfl, hb1, by rw [HE1.out]; exact MO.nil _ _⟩
  | true =>
    cases s with
    | false =>
      have HE1 : Hid (joinS op f h = ([], 2)) := by unfold Hid; rw [HE0.out, ← HS.out]; simp
      clear hn hk
      rcases hcs with q1 | ⟨q1, q2⟩
      all_goals
        go_enter Tryd.func30, Tryd.ntmps30
        go_wp2_with (first
          | (go_at_call 58; with_reducible refine (HFH.out _ hb1).mono ?_; rintro e w2 ⟨rfl, hb2⟩)
          | (go_at_call 58; with_reducible refine (HFF.out _ (Below.refl _ _)).mono ?_; rintro e w1 ⟨rfl, hb1⟩))
        go_returns
        exact ⟨.slice none 0 0, by rw [HE1.out]; rfl, hb1.trans (hb2.mono hb1.size), by rw [HE1.out]; exact MO.nil _ _⟩
    | true =>
      have hlf := formed_len f HT.out.symm
      have hlh := formed_len h HS.out.symm
      rw [← hn] at hlf
      rw [← hk] at hlh
      have HSM := Lib.hid (formed_small h HS.out.symm)
      have HN := Lib.hid hn; have HK := Lib.hid hk
      clear hn hk
      by_cases h64 : 64 ≤ n + k
      · have HE1 : Hid (joinS op f h = ([], 4)) := by unfold Hid; rw [HE0.out, ← HT.out, ← HS.out]; simp [h64]
        rcases hcs with q1 | ⟨q1, q2⟩
        all_goals
          go_enter Tryd.func30, Tryd.ntmps30
          go_wp2_with (first
            | (go_at_call 58; with_reducible refine (HFH.out _ hb1).mono ?_; rintro e w2 ⟨rfl, hb2⟩)
            | (go_at_call 58; with_reducible refine (HFF.out _ (Below.refl _ _)).mono ?_; rintro e w1 ⟨rfl, hb1⟩))
          go_returns
          exact ⟨.slice none 0 0, by rw [HE1.out]; rfl, hb1.trans (hb2.mono hb1.size), by rw [HE1.out]; exact MO.nil _ _⟩
      · have HE1 : Hid (joinS op f h = (f ++ h.map (mv n) ++ [⟨op, 0, 0, n - 1, n + k - 1⟩], 0)) := by unfold Hid; rw [HE0.out, ← HT.out, ← HS.out]; simp [h64]
        clear HE0
        go_enter Tryd.func30, Tryd.ntmps30
        rcases hcs with q1 | ⟨q1, q2⟩
        all_goals
          go_wp2_with (first
            | (go_at_call 58; with_reducible refine (HFH.out _ hb1).mono ?_; rintro e w2 ⟨rfl, hb2⟩; have hb12 := hb1.trans (hb2.mono hb1.size))
            | (go_at_call 58; with_reducible refine (HFF.out _ (Below.refl _ _)).mono ?_; rintro e w1 ⟨rfl, hb1⟩)
            | (go_at_call 35; go_must (refine (copy_any f _ _ (HV.out.below hb12 (Nat.le_refl _)) (by rw [← HN.out]; omega)).mono ?_; rintro e w3 ⟨v3, rfl, hb3, ho3⟩; have HB3 := Lib.hid (hb12.trans (hb3.mono hb12.size)); have HO3 := Lib.hid (ho3.mono hb12.size); clear hb1 hb2 hb3 ho3 hb12)))
          go_loopg [8, 9] k (fun gk s q wr => ∃ j : Nat, j ≤ k ∧ gk = k - j ∧ q = .int .i64 j ∧ Below w.heap.size w wr ∧ MO wr w.heap.size s (f ++ (h.take j).map (mv n)))
          case atStart => exact ⟨0, Nat.zero_le _, rfl, rfl, HB3.out, by simpa using HO3.out⟩
          case round =>
            obtain ⟨j, hj, rfl, rfl, hb, ho⟩ := hrel
            have hlen : (f ++ (h.take j).map (mv n)).length = n + j := by rw [List.length_append, List.length_map, List.length_take, ← HN.out, ← HK.out]; omega
            have HLEN := Lib.hid hlen; clear hlen
            have HB := Lib.hid hb; clear hb
            by_cases hlt : j < k
            · obtain ⟨m, hm⟩ : ∃ m, h[j]? = some m := ⟨h[j]'(by rw [← HK.out]; exact hlt), List.getElem?_eq_getElem _⟩
              obtain ⟨m1, m2⟩ := HUO.out m (List.mem_of_getElem? hm)
              obtain ⟨s1, s2, s3, s4⟩ := HSM.out m (List.mem_of_getElem? hm)
              obtain ⟨b, o, rfl⟩ := HU.out.addr (by rw [← HK.out]; omega)
              obtain ⟨c0, c1, c2', c3, c4⟩ := (HU.out.below HB.out (Nat.le_refl _)).at5 hm
              have hbl : b < wr.heap.size := World.block_lt_of_cell? _ _ c0
              have HST := Lib.hid (take_mv f h n j m hm)
              have HO := Lib.hid ho; clear ho hm
              generalize f ++ (h.take j).map (mv n) = L at *
              obtain ⟨n0, hn0⟩ : ∃ n0, n0 = nc m.op := ⟨_, rfl⟩
              have N0 : n0 = 0 ∨ n0 = 1 ∨ n0 = 2 := by rw [hn0]; exact nc_cases _
              have HN0 := Lib.hid hn0; clear hn0
              rcases N0 with rfl | rfl | rfl
              all_goals
                go_wp2_with (first
                  | (go_at_call 69; go_must (refine (RChildren_any _ _ m1 m2).mono ?_; rintro e w2 ⟨rfl, rfl⟩; rw [← HN0.out]))
                  | (at_builtin; go_must (refine wpList_append_ms rfl (.tmp 63) (.tmp 65) rfl w.heap.size _ L rfl (HO.out.below (B' := wr.heap.size) (by go_grown) (Nat.le_refl _)) _ [⟨_, _, _, _, _⟩] rfl (ms_one5 (Row.litd2 (by simp)) m1 m2) (by rw [HLEN.out, List.length_singleton]; omega) (by have := HB.out.size; simp only [World.size_alloc]; omega) ?_; intro v6 w6 ho6 hg6 ht6)))
                go_roundg (k - (j + 1))
                case rel =>
                  refine ⟨j + 1, by omega, rfl, by go_num, own_below (v' := v6) (g := L) (Below.alloc (Below.alloc HB.out HB.out.size _) (by have := HB.out.size; simp only [World.size_alloc]; omega) _) (HO.out.below (B' := wr.heap.size) (by go_grown) (Nat.le_refl _)) hg6 (by have := HB.out.size; simp only [World.size_alloc]; omega), ?_⟩
                  rw [HST.out]
                  have e := HN0.out
                  first | (have e2 : mv n m = m := by unfold mv; rw [← e]; simp); rw [e2]; exact ho6 | (have e2 : mv n m = { m with a := m.a + n } := by unfold mv; rw [← e]; simp); rw [e2]; exact ho6 | (have e2 : mv n m = { m with a := m.a + n, b := m.b + n } := by unfold mv; rw [← e]; simp); rw [e2]; exact ho6
                case measure => omega
            · have hjk : j = k := by omega
              subst hjk
              have e1 : (h.take j).map (mv n) = h.map (mv n) := by rw [List.take_of_length_le (by rw [← HK.out]; exact Nat.le_refl _)]
              rw [e1] at ho HLEN
              clear e1
              obtain ⟨_, A3, c3, hs3, _⟩ := ho.ms
              rw [HLEN.out] at hs3
              subst hs3
              have HO := Lib.hid ho; clear ho
              go_wp2_with (at_builtin; go_must (refine wpList_append_ms rfl (.tmp 67) (.tmp 76) rfl w.heap.size _ (f ++ h.map (mv n)) rfl (HO.out.below (B' := wr.heap.size) (by go_grown) (Nat.le_refl _)) _ [⟨_, 0, 0, n - 1, n + j - 1⟩] rfl (ms_one5 (Row.litd2 (by simp)) h0 h1) (by rw [HLEN.out, List.length_singleton]; omega) (by have := HB.out.size; simp only [World.size_alloc]; omega) ?_; intro v6 w6 ho6 hg6 ht6))
              go_returns
              exact ⟨v6, by rw [HE1.out]; rfl, own_below (v' := v6) (g := f ++ h.map (mv n)) (Below.alloc HB.out HB.out.size _) (HO.out.below (B' := wr.heap.size) (by go_grown) (Nat.le_refl _)) hg6 (by have := HB.out.size; simp only [World.size_alloc]; omega), by rw [HE1.out]; exact ho6⟩
end Go.Proofs.YtbggpiednddheaaDoor
