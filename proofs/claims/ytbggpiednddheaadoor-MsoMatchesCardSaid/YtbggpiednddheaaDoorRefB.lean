/- Contracts of the reference: Sizes. -/
import Derived.Test.YtbggpiednddheaaDoorRefA
import Derived.Test.YtbggpiednddheaaDoorSubst
import Derived.Test.YtbggpiednddheaaDoorMsoC
import Derived.Test.YtbggpiednddheaaDoorKit
set_option linter.unusedSimpArgs false
set_option linter.unusedVariables false
namespace Go.Proofs.YtbggpiednddheaaDoor
open Go.RowKit

def ints (l : List Nat) : List Int := l.map fun s : Nat => (s : Int)
theorem ints_len (l : List Nat) : (ints l).length = l.length := by simp [ints]
theorem ints_get {l : List Nat} {j : Nat} (h : j < l.length) : (ints l)[j]? = some ((l.getD j 0 : Nat) : Int) := by
  simp [ints, List.getD_eq_getElem?_getD, List.getElem?_eq_getElem h]
theorem blk_0 {acc : List Nat} {m : Mk} (h : nc m.op = 0) : blk acc m = if m.a = 0 ∧ m.b = 0 then 1 else 0 := by unfold blk; rw [if_pos h]
theorem blk_1z {acc : List Nat} {m : Mk} (h : nc m.op = 1) (hk : acc.length = 0) : blk acc m = 0 := by
  unfold blk
  rw [if_neg (by omega), if_pos hk]
theorem blk_1 {acc : List Nat} {m : Mk} {k : Nat} (h : nc m.op = 1) (hk : acc.length = k) (h1 : 1 ≤ k) : blk acc m = if m.a = k - 1 ∧ m.b = 0 ∧ 0 < acc.getD (k - 1) 0 then 1 + acc.getD (k - 1) 0 else 0 := by
  unfold blk
  simp only [hk]
  rw [if_neg (by omega), if_neg (by omega)]
  by_cases h0 : acc.getD (k - 1) 0 = 0
  · rw [if_pos h0, if_neg (by omega)]
  · rw [if_neg h0, if_pos h]
    by_cases hab : m.a = (k : Int) - 1 ∧ m.b = 0
    · rw [if_pos hab, if_pos ⟨hab.1, hab.2, by omega⟩]
    · rw [if_neg hab, if_neg fun q => hab ⟨q.1, q.2.1⟩]
theorem blk_2z {acc : List Nat} {m : Mk} {k : Nat} (h : nc m.op = 2) (hk : acc.length = k) (h1 : k < 2) (hs : ∀ j, acc.getD j 0 ≤ j + 1) : blk acc m = 0 := by
  unfold blk
  simp only [hk]
  rw [if_neg (by omega)]
  by_cases k0 : k = 0
  · rw [if_pos k0]
  · rw [if_neg k0]
    have := hs (k - 1)
    by_cases h0 : acc.getD (k - 1) 0 = 0
    · rw [if_pos h0]
    · rw [if_neg h0, if_neg (by omega), if_pos (by omega)]
theorem blk_2 {acc : List Nat} {m : Mk} {k : Nat} (h : nc m.op = 2) (hk : acc.length = k) (h1 : 2 ≤ k) (hs : ∀ j, acc.getD j 0 ≤ j + 1) :
    blk acc m = if m.b = k - 1 ∧ 0 < acc.getD (k - 1) 0 ∧ m.a = (k : Int) - 1 - (acc.getD (k - 1) 0 : Nat) ∧ 0 ≤ m.a ∧ 0 < acc.getD m.a.toNat 0 then 1 + acc.getD (k - 1) 0 + acc.getD m.a.toNat 0 else 0 := by
  unfold blk
  simp only [hk]
  rw [if_neg (by omega), if_neg (by omega)]
  have hs1 := hs (k - 1)
  by_cases h0 : acc.getD (k - 1) 0 = 0
  · rw [if_pos h0, if_neg (by omega)]
  rw [if_neg h0, if_neg (by omega)]
  generalize hs2 : acc.getD (k - 1) 0 = s1 at *
  by_cases hd : k - s1 = 0
  · rw [if_pos hd, if_neg (by omega)]
  rw [if_neg hd]
  by_cases ha : m.a = (k : Int) - 1 - (s1 : Nat)
  · have hta : m.a.toNat = k - s1 - 1 := by omega
    rw [hta]
    by_cases h2 : acc.getD (k - s1 - 1) 0 = 0
    · rw [if_pos h2, if_neg (by omega)]
    · rw [if_neg h2]
      by_cases hb : m.b = (k : Int) - 1
      · rw [if_pos ⟨hb, by omega⟩, if_pos ⟨hb, by omega, ha, by omega, by omega⟩]
      · rw [if_neg fun q => hb q.1, if_neg fun q => hb q.1]
  · by_cases h2 : acc.getD (k - s1 - 1) 0 = 0
    · rw [if_pos h2, if_neg fun q => ha q.2.2.1]
    · rw [if_neg h2, if_neg (c := m.b = (k : Int) - 1 ∧ 0 < s1 ∧ _) fun q => ha q.2.2.1, if_neg]
      intro q
      have := q.2
      omega

theorem ints_step {f : List Mk} {acc : List Nat} {m : Mk} {k val : Nat} {x : Int} (h : szs (f.take (k + 1)) = acc ++ [blk acc m]) (hv : blk acc m = val) (hx : x = val) : ints (szs (f.take (k + 1))) = ints acc ++ [x] := by
  rw [h, hv, ints, List.map_append, hx]; rfl
theorem drewN_size (W : World) (n : Nat) : (W.drewN n).heap.size = W.heap.size := rfl
theorem below_d {B : Nat} {w w' : World} (h : Below B w w') (n : Nat) : Below B w (w'.drewN n) := ⟨h.os, h.tape, h.output, h.size, h.block⟩
theorem one_i (x : Int) : ∀ (i : Nat) (y : Int), [x][i]? = some y → (#[Value.int .i64 x] : Array Value)[i]? = some (Value.int .i64 y) := by
  intro i y h
  cases i with
  | zero => simp at h; subst h; rfl
  | succ i => simp at h

set_option maxRecDepth 100000 in
set_option maxHeartbeats 8000000 in
theorem RSizes_any (f : List Mk) (v : Value) (w : World) (hv : MS w v f) (hl : f.length ≤ 64) : Calls Tryd.prog 47 #[v] w (RetIS w (ints (szs f))) := by
  have HV := Lib.hid hv
  obtain ⟨hop, A, c, rfl, hc, hc2, hcell⟩ := hv
  obtain ⟨n, hn⟩ : ∃ n, n = f.length := ⟨_, rfl⟩
  rw [← hn] at HV hl hc
  rw [← hn]
  have HN := Lib.hid hn; clear hn hcell
  have HOP := Lib.hid hop; clear hop
  go_enter Tryd.func47, Tryd.ntmps47
  go_wp2
  go_loopg [3, 4] n (fun gk s q wr => ∃ k : Nat, k ≤ n ∧ gk = n - k ∧ q = .int .i64 k ∧ Below w.heap.size w wr ∧ OWI wr w.heap.size s (ints (szs (f.take k))))
  case atStart => exact ⟨0, Nat.zero_le _, rfl, rfl, Below.refl _ _, OWI.nil _ _⟩
  case round =>
    obtain ⟨k, hk, rfl, rfl, hb, ho⟩ := hrel
    have HB := Lib.hid hb; clear hb
    have hlen : (szs (f.take k)).length = k := by rw [szs_len, List.length_take, ← HN.out]; omega
    by_cases hlt : k < n
    · obtain ⟨m, hm⟩ : ∃ m, f[k]? = some m := ⟨f[k]'(by rw [← HN.out]; exact hlt), List.getElem?_eq_getElem _⟩
      obtain ⟨m1, m2⟩ := HOP.out m (List.mem_of_getElem? hm)
      have hst := szs_take f k m hm
      have hsl : ∀ j, (szs (f.take k)).getD j 0 ≤ j + 1 := szs_le (f.take k)
      obtain ⟨acc, hacc⟩ : ∃ acc, acc = szs (f.take k) := ⟨_, rfl⟩
      rw [← hacc] at hlen ho hst hsl
      have HST := Lib.hid hst; have HSL := Lib.hid hsl; have HLEN := Lib.hid hlen
      clear hst hsl hacc
      obtain ⟨b, o, rfl⟩ := HV.out.addr (by rw [← HN.out]; omega)
      obtain ⟨c0, c1, c2, c3, c4⟩ := (HV.out.below HB.out (Nat.le_refl _)).at5 hm
      have hbl : b < wr.heap.size := World.block_lt_of_cell? _ _ c0
      clear hm
      have hi := ho.is
      obtain ⟨A2, c2', rfl, hq1, hq2, hcl⟩ := hi
      rw [ints_len, hlen] at hcl ho hq1 ⊢
      have HO := Lib.hid ho; clear ho hlen
      have HCL := Lib.hid hcl; clear hcl
      rcases nc_cases m.op with h0 | h0 | h0
      · have hbk := blk_0 (acc := acc) h0
        obtain ⟨t1, ht1⟩ : ∃ t, (m.a == 0) = t := ⟨_, rfl⟩
        obtain ⟨t2, ht2⟩ : ∃ t, (m.b == 0) = t := ⟨_, rfl⟩
        obtain ⟨val, hval⟩ : ∃ val : Nat, val = if t1 = true ∧ t2 = true then 1 else 0 := ⟨_, rfl⟩
        have HBK : Hid (blk acc m = if t1 = true ∧ t2 = true then 1 else 0) := by
          unfold Hid
          rw [hbk, ← ht1, ← ht2]
          simp
        clear hbk hval val
        cases t1 <;> cases t2
        all_goals
          replace HBK := Lib.hid HBK.out
          simp only [Bool.false_eq_true, false_and, and_false, and_self, if_true, if_false, Hid] at HBK
          have HBK := Lib.hid HBK
          go_wp2_with (first
            | (go_at_call 69; go_must (refine (RChildren_any _ _ m1 m2).mono ?_; rintro e w2 ⟨rfl, rfl⟩; rw [h0]))
            | (at_builtin; go_must (refine wpList_append_is rfl (.tmp 115) (.tmp 117) rfl w.heap.size _ (ints acc) rfl (HO.out.below (B' := wr.heap.size) (by go_grown <;> exact below_d (by go_grown) _) (Nat.le_refl _)) _ [_] rfl (IS.lit 1 1 _ (Row.litd2 (by simp)) rfl (by omega) (by omega) (one_i _)) (by rw [ints_len, HLEN.out, List.length_singleton]; omega) (by have := HB.out.size; simp only [World.size_alloc, drewN_size]; omega) ?_; intro v6 w6 ho6 hg6 ht6)))
          go_roundg (n - (k + 1))
          case rel => exact ⟨k + 1, by omega, rfl, by go_num, own_below_i (HB.out.trans ((show Below wr.heap.size wr _ from by go_grown <;> exact below_d (by go_grown) _).mono HB.out.size)) (HO.out.below (B' := wr.heap.size) (by go_grown <;> exact below_d (by go_grown) _) (Nat.le_refl _)) hg6 (by have := HB.out.size; simp only [World.size_alloc, drewN_size]; omega), by rw [ints_step HST.out HBK.out (x := _) (by first | rfl | omega)]; exact ho6⟩
          case measure => omega
      · obtain ⟨s1, hs1⟩ : ∃ s, s = acc.getD (k - 1) 0 := ⟨_, rfl⟩
        by_cases hk0 : k = 0
        · have HBK : Hid (blk acc m = 0) := Lib.hid (blk_1z h0 (by rw [HLEN.out]; exact hk0))
          clear hs1
          have hk1 : ¬ 1 ≤ k := by omega
          have hk2 : ¬ (1 : Int) ≤ k := by omega
          clear hk0
          go_wp2_with (first
            | (go_at_call 69; go_must (refine (RChildren_any _ _ m1 m2).mono ?_; rintro e w2 ⟨rfl, rfl⟩; rw [h0]))
            | (at_builtin; go_must (refine wpList_append_is rfl (.tmp 115) (.tmp 117) rfl w.heap.size _ (ints acc) rfl (HO.out.below (B' := wr.heap.size) (by go_grown <;> exact below_d (by go_grown) _) (Nat.le_refl _)) _ [_] rfl (IS.lit 1 1 _ (Row.litd2 (by simp)) rfl (by omega) (by omega) (one_i _)) (by rw [ints_len, HLEN.out, List.length_singleton]; omega) (by have := HB.out.size; simp only [World.size_alloc, drewN_size]; omega) ?_; intro v6 w6 ho6 hg6 ht6)))
          go_roundg (n - (k + 1))
          case rel => exact ⟨k + 1, by omega, rfl, by go_num, own_below_i (HB.out.trans ((show Below wr.heap.size wr _ from by go_grown <;> exact below_d (by go_grown) _).mono HB.out.size)) (HO.out.below (B' := wr.heap.size) (by go_grown <;> exact below_d (by go_grown) _) (Nat.le_refl _)) hg6 (by have := HB.out.size; simp only [World.size_alloc, drewN_size]; omega), by rw [ints_step HST.out HBK.out (x := _) (by first | rfl | omega)]; exact ho6⟩
          case measure => omega
        · have hbk := blk_1 (acc := acc) (k := k) h0 HLEN.out (by omega)
          rw [← hs1] at hbk
          obtain ⟨b2, o2, rfl, hb2, hc2⟩ := HCL.out (by omega)
          have d0 := hc2 (k - 1) _ (ints_get (by rw [HLEN.out]; omega))
          rw [← hs1] at d0
          have hsz := HSL.out (k - 1)
          rw [← hs1] at hsz
          clear hc2 hs1
          obtain ⟨t1, ht1⟩ : ∃ t, (m.a == (k : Int) - 1) = t := ⟨_, rfl⟩
          obtain ⟨t2, ht2⟩ : ∃ t, (m.b == 0) = t := ⟨_, rfl⟩
          have e1 : ((k : Int) - 1).toNat = k - 1 := by omega
          have e2 : 1 ≤ k := by omega
          have HBK0 : Hid (blk acc m = if t1 = true ∧ t2 = true ∧ 0 < s1 then 1 + s1 else 0) := by
            unfold Hid
            rw [hbk, ← ht1, ← ht2]
            simp
          clear hbk
          by_cases hs0 : s1 = 0
          · have HBK : Hid (blk acc m = 0) := by unfold Hid; rw [HBK0.out, if_neg (by omega)]
            clear HBK0
            subst hs0
            cases t1 <;> cases t2
            all_goals
              go_wp2_with (first
                | (go_at_call 69; go_must (refine (RChildren_any _ _ m1 m2).mono ?_; rintro e w2 ⟨rfl, rfl⟩; rw [h0]))
                | (at_builtin; go_must (refine wpList_append_is rfl (.tmp 115) (.tmp 117) rfl w.heap.size _ (ints acc) rfl (HO.out.below (B' := wr.heap.size) (by go_grown <;> exact below_d (by go_grown) _) (Nat.le_refl _)) _ [_] rfl (IS.lit 1 1 _ (Row.litd2 (by simp)) rfl (by omega) (by omega) (one_i _)) (by rw [ints_len, HLEN.out, List.length_singleton]; omega) (by have := HB.out.size; simp only [World.size_alloc, drewN_size]; omega) ?_; intro v6 w6 ho6 hg6 ht6)))
              go_roundg (n - (k + 1))
              case rel => exact ⟨k + 1, by omega, rfl, by go_num, own_below_i (HB.out.trans ((show Below wr.heap.size wr _ from by go_grown <;> exact below_d (by go_grown) _).mono HB.out.size)) (HO.out.below (B' := wr.heap.size) (by go_grown <;> exact below_d (by go_grown) _) (Nat.le_refl _)) hg6 (by have := HB.out.size; simp only [World.size_alloc, drewN_size]; omega), by rw [ints_step HST.out HBK.out (x := _) (by first | rfl | omega)]; exact ho6⟩
              case measure => omega
          · have hs2 : 0 < s1 := by omega
            cases t1 <;> cases t2
            rotate_right 1
            · have HBK : Hid (blk acc m = 1 + s1) := by unfold Hid; rw [HBK0.out, if_pos ⟨rfl, rfl, hs2⟩]
              go_wp2_with (first
                | (go_at_call 69; go_must (refine (RChildren_any _ _ m1 m2).mono ?_; rintro e w2 ⟨rfl, rfl⟩; rw [h0]))
                | (at_builtin; go_must (refine wpList_append_is rfl (.tmp 115) (.tmp 117) rfl w.heap.size _ (ints acc) rfl (HO.out.below (B' := wr.heap.size) (by go_grown <;> exact below_d (by go_grown) _) (Nat.le_refl _)) _ [_] rfl (IS.lit 1 1 _ (Row.litd2 (by simp)) rfl (by omega) (by omega) (one_i _)) (by rw [ints_len, HLEN.out, List.length_singleton]; omega) (by have := HB.out.size; simp only [World.size_alloc, drewN_size]; omega) ?_; intro v6 w6 ho6 hg6 ht6)))
              go_roundg (n - (k + 1))
              case rel => exact ⟨k + 1, by omega, rfl, by go_num, own_below_i (HB.out.trans ((show Below wr.heap.size wr _ from by go_grown <;> exact below_d (by go_grown) _).mono HB.out.size)) (HO.out.below (B' := wr.heap.size) (by go_grown <;> exact below_d (by go_grown) _) (Nat.le_refl _)) hg6 (by have := HB.out.size; simp only [World.size_alloc, drewN_size]; omega), by rw [ints_step HST.out HBK.out (x := _) (by first | rfl | omega)]; exact ho6⟩
              case measure => omega
            all_goals
              have HBK : Hid (blk acc m = 0) := by unfold Hid; rw [HBK0.out, if_neg (by simp)]
              go_wp2_with (first
                | (go_at_call 69; go_must (refine (RChildren_any _ _ m1 m2).mono ?_; rintro e w2 ⟨rfl, rfl⟩; rw [h0]))
                | (at_builtin; go_must (refine wpList_append_is rfl (.tmp 115) (.tmp 117) rfl w.heap.size _ (ints acc) rfl (HO.out.below (B' := wr.heap.size) (by go_grown <;> exact below_d (by go_grown) _) (Nat.le_refl _)) _ [_] rfl (IS.lit 1 1 _ (Row.litd2 (by simp)) rfl (by omega) (by omega) (one_i _)) (by rw [ints_len, HLEN.out, List.length_singleton]; omega) (by have := HB.out.size; simp only [World.size_alloc, drewN_size]; omega) ?_; intro v6 w6 ho6 hg6 ht6)))
              go_roundg (n - (k + 1))
              case rel => exact ⟨k + 1, by omega, rfl, by go_num, own_below_i (HB.out.trans ((show Below wr.heap.size wr _ from by go_grown <;> exact below_d (by go_grown) _).mono HB.out.size)) (HO.out.below (B' := wr.heap.size) (by go_grown <;> exact below_d (by go_grown) _) (Nat.le_refl _)) hg6 (by have := HB.out.size; simp only [World.size_alloc, drewN_size]; omega), by rw [ints_step HST.out HBK.out (x := _) (by first | rfl | omega)]; exact ho6⟩
              case measure => omega
      · obtain ⟨s1, hs1⟩ : ∃ s, s = acc.getD (k - 1) 0 := ⟨_, rfl⟩
        by_cases hk0 : k < 2
        · have HBK : Hid (blk acc m = 0) := Lib.hid (blk_2z h0 HLEN.out hk0 HSL.out)
          clear hs1
          have hk1 : ¬ 2 ≤ k := by omega
          have hk2 : ¬ (2 : Int) ≤ k := by omega
          have hk3 : decide ((2 : Int) ≤ k) = false := by simpa using hk2
          clear hk0
          go_wp2_with (first
            | (go_at_call 69; go_must (refine (RChildren_any _ _ m1 m2).mono ?_; rintro e w2 ⟨rfl, rfl⟩; rw [h0]))
            | (at_builtin; go_must (refine wpList_append_is rfl (.tmp 115) (.tmp 117) rfl w.heap.size _ (ints acc) rfl (HO.out.below (B' := wr.heap.size) (by go_grown <;> exact below_d (by go_grown) _) (Nat.le_refl _)) _ [_] rfl (IS.lit 1 1 _ (Row.litd2 (by simp)) rfl (by omega) (by omega) (one_i _)) (by rw [ints_len, HLEN.out, List.length_singleton]; omega) (by have := HB.out.size; simp only [World.size_alloc, drewN_size]; omega) ?_; intro v6 w6 ho6 hg6 ht6)))
          go_quiet (fail)
          go_wp2_with (first
            | (go_at_call 69; go_must (refine (RChildren_any _ _ m1 m2).mono ?_; rintro e w2 ⟨rfl, rfl⟩; rw [h0]))
            | (at_builtin; go_must (refine wpList_append_is rfl (.tmp 115) (.tmp 117) rfl w.heap.size _ (ints acc) rfl (HO.out.below (B' := wr.heap.size) (by go_grown <;> exact below_d (by go_grown) _) (Nat.le_refl _)) _ [_] rfl (IS.lit 1 1 _ (Row.litd2 (by simp)) rfl (by omega) (by omega) (one_i _)) (by rw [ints_len, HLEN.out, List.length_singleton]; omega) (by have := HB.out.size; simp only [World.size_alloc, drewN_size]; omega) ?_; intro v6 w6 ho6 hg6 ht6)))
          go_roundg (n - (k + 1))
          case rel => exact ⟨k + 1, by omega, rfl, by go_num, own_below_i (HB.out.trans ((show Below wr.heap.size wr _ from by go_grown <;> exact below_d (by go_grown) _).mono HB.out.size)) (HO.out.below (B' := wr.heap.size) (by go_grown <;> exact below_d (by go_grown) _) (Nat.le_refl _)) hg6 (by have := HB.out.size; simp only [World.size_alloc, drewN_size]; omega), by rw [ints_step HST.out HBK.out (x := _) (by first | rfl | omega)]; exact ho6⟩
          case measure => omega
        · have hbk := blk_2 (acc := acc) (k := k) h0 HLEN.out (by omega) HSL.out
          rw [← hs1] at hbk
          obtain ⟨b2, o2, rfl, hb2, hc2⟩ := HCL.out (by omega)
          have d0 := hc2 (k - 1) _ (ints_get (by rw [HLEN.out]; omega))
          rw [← hs1] at d0
          have hsz := HSL.out (k - 1)
          rw [← hs1] at hsz
          clear hs1
          have HC2 := Lib.hid hc2; clear hc2
          obtain ⟨t1, ht1⟩ : ∃ t, (m.b == (k : Int) - 1) = t := ⟨_, rfl⟩
          obtain ⟨t3, ht3⟩ : ∃ t, (m.a == (k : Int) - 1 - (s1 : Nat)) = t := ⟨_, rfl⟩
          have e1 : ((k : Int) - 1).toNat = k - 1 := by omega
          have e2 : 1 ≤ k := by omega
          have e3 : 2 ≤ k := by omega
          have e4 : decide ((2 : Int) ≤ k) = true := by simp; omega
          obtain ⟨s2, hs2⟩ : ∃ s, s = acc.getD m.a.toNat 0 := ⟨_, rfl⟩
          rw [← hs2] at hbk
          have HBK0 : Hid (blk acc m = if t1 = true ∧ 0 < s1 ∧ t3 = true ∧ 0 ≤ m.a ∧ 0 < s2 then 1 + s1 + s2 else 0) := by
            unfold Hid
            rw [hbk, ← ht1, ← ht3]
            simp
          clear hbk
          have hcase : (¬ (t1 = true ∧ 0 < s1 ∧ t3 = true ∧ 0 ≤ m.a)) ∨ (t1 = true ∧ 0 < s1 ∧ t3 = true ∧ 0 ≤ m.a) := by
            by_cases h : t1 = true ∧ 0 < s1 ∧ t3 = true ∧ 0 ≤ m.a
            · exact .inr h
            · exact .inl h
          rcases hcase with hno | ⟨rfl, hp1, rfl, hp2⟩
          · have HBK : Hid (blk acc m = 0) := by unfold Hid; rw [HBK0.out, if_neg fun q => hno ⟨q.1, q.2.1, q.2.2.1, q.2.2.2.1⟩]
            clear HBK0 hs2
            by_cases hz : s1 = 0
            · subst hz
              clear hno
              cases t1
              all_goals
                go_wp2_with (first
                  | (go_at_call 69; go_must (refine (RChildren_any _ _ m1 m2).mono ?_; rintro e w2 ⟨rfl, rfl⟩; rw [h0]))
                  | (at_builtin; go_must (refine wpList_append_is rfl (.tmp 115) (.tmp 117) rfl w.heap.size _ (ints acc) rfl (HO.out.below (B' := wr.heap.size) (by go_grown <;> exact below_d (by go_grown) _) (Nat.le_refl _)) _ [_] rfl (IS.lit 1 1 _ (Row.litd2 (by simp)) rfl (by omega) (by omega) (one_i _)) (by rw [ints_len, HLEN.out, List.length_singleton]; omega) (by have := HB.out.size; simp only [World.size_alloc, drewN_size]; omega) ?_; intro v6 w6 ho6 hg6 ht6)))
                go_quiet (fail)
                go_wp2_with (first
                  | (go_at_call 69; go_must (refine (RChildren_any _ _ m1 m2).mono ?_; rintro e w2 ⟨rfl, rfl⟩; rw [h0]))
                  | (at_builtin; go_must (refine wpList_append_is rfl (.tmp 115) (.tmp 117) rfl w.heap.size _ (ints acc) rfl (HO.out.below (B' := wr.heap.size) (by go_grown <;> exact below_d (by go_grown) _) (Nat.le_refl _)) _ [_] rfl (IS.lit 1 1 _ (Row.litd2 (by simp)) rfl (by omega) (by omega) (one_i _)) (by rw [ints_len, HLEN.out, List.length_singleton]; omega) (by have := HB.out.size; simp only [World.size_alloc, drewN_size]; omega) ?_; intro v6 w6 ho6 hg6 ht6)))
                go_roundg (n - (k + 1))
                case rel => exact ⟨k + 1, by omega, rfl, by go_num, own_below_i (HB.out.trans ((show Below wr.heap.size wr _ from by go_grown <;> exact below_d (by go_grown) _).mono HB.out.size)) (HO.out.below (B' := wr.heap.size) (by go_grown <;> exact below_d (by go_grown) _) (Nat.le_refl _)) hg6 (by have := HB.out.size; simp only [World.size_alloc, drewN_size]; omega), by rw [ints_step HST.out HBK.out (x := _) (by first | rfl | omega)]; exact ho6⟩
                case measure => omega
            · have z1 : 0 < s1 := by omega
              have z2 : decide ((0 : Int) < (s1 : Nat)) = true := by simp; omega
              cases t1
              · clear hno
                go_wp2_with (first
                  | (go_at_call 69; go_must (refine (RChildren_any _ _ m1 m2).mono ?_; rintro e w2 ⟨rfl, rfl⟩; rw [h0]))
                  | (at_builtin; go_must (refine wpList_append_is rfl (.tmp 115) (.tmp 117) rfl w.heap.size _ (ints acc) rfl (HO.out.below (B' := wr.heap.size) (by go_grown <;> exact below_d (by go_grown) _) (Nat.le_refl _)) _ [_] rfl (IS.lit 1 1 _ (Row.litd2 (by simp)) rfl (by omega) (by omega) (one_i _)) (by rw [ints_len, HLEN.out, List.length_singleton]; omega) (by have := HB.out.size; simp only [World.size_alloc, drewN_size]; omega) ?_; intro v6 w6 ho6 hg6 ht6)))
                go_quiet (fail)
                go_wp2_with (first
                  | (go_at_call 69; go_must (refine (RChildren_any _ _ m1 m2).mono ?_; rintro e w2 ⟨rfl, rfl⟩; rw [h0]))
                  | (at_builtin; go_must (refine wpList_append_is rfl (.tmp 115) (.tmp 117) rfl w.heap.size _ (ints acc) rfl (HO.out.below (B' := wr.heap.size) (by go_grown <;> exact below_d (by go_grown) _) (Nat.le_refl _)) _ [_] rfl (IS.lit 1 1 _ (Row.litd2 (by simp)) rfl (by omega) (by omega) (one_i _)) (by rw [ints_len, HLEN.out, List.length_singleton]; omega) (by have := HB.out.size; simp only [World.size_alloc, drewN_size]; omega) ?_; intro v6 w6 ho6 hg6 ht6)))
                go_roundg (n - (k + 1))
                case rel => exact ⟨k + 1, by omega, rfl, by go_num, own_below_i (HB.out.trans ((show Below wr.heap.size wr _ from by go_grown <;> exact below_d (by go_grown) _).mono HB.out.size)) (HO.out.below (B' := wr.heap.size) (by go_grown <;> exact below_d (by go_grown) _) (Nat.le_refl _)) hg6 (by have := HB.out.size; simp only [World.size_alloc, drewN_size]; omega), by rw [ints_step HST.out HBK.out (x := _) (by first | rfl | omega)]; exact ho6⟩
                case measure => omega
              · cases t3
                · clear hno
                  go_wp2_with (first
                    | (go_at_call 69; go_must (refine (RChildren_any _ _ m1 m2).mono ?_; rintro e w2 ⟨rfl, rfl⟩; rw [h0]))
                    | (at_builtin; go_must (refine wpList_append_is rfl (.tmp 115) (.tmp 117) rfl w.heap.size _ (ints acc) rfl (HO.out.below (B' := wr.heap.size) (by go_grown <;> exact below_d (by go_grown) _) (Nat.le_refl _)) _ [_] rfl (IS.lit 1 1 _ (Row.litd2 (by simp)) rfl (by omega) (by omega) (one_i _)) (by rw [ints_len, HLEN.out, List.length_singleton]; omega) (by have := HB.out.size; simp only [World.size_alloc, drewN_size]; omega) ?_; intro v6 w6 ho6 hg6 ht6)))
                  go_quiet (fail)
                  go_wp2_with (first
                    | (go_at_call 69; go_must (refine (RChildren_any _ _ m1 m2).mono ?_; rintro e w2 ⟨rfl, rfl⟩; rw [h0]))
                    | (at_builtin; go_must (refine wpList_append_is rfl (.tmp 115) (.tmp 117) rfl w.heap.size _ (ints acc) rfl (HO.out.below (B' := wr.heap.size) (by go_grown <;> exact below_d (by go_grown) _) (Nat.le_refl _)) _ [_] rfl (IS.lit 1 1 _ (Row.litd2 (by simp)) rfl (by omega) (by omega) (one_i _)) (by rw [ints_len, HLEN.out, List.length_singleton]; omega) (by have := HB.out.size; simp only [World.size_alloc, drewN_size]; omega) ?_; intro v6 w6 ho6 hg6 ht6)))
                  go_roundg (n - (k + 1))
                  case rel => exact ⟨k + 1, by omega, rfl, by go_num, own_below_i (HB.out.trans ((show Below wr.heap.size wr _ from by go_grown <;> exact below_d (by go_grown) _).mono HB.out.size)) (HO.out.below (B' := wr.heap.size) (by go_grown <;> exact below_d (by go_grown) _) (Nat.le_refl _)) hg6 (by have := HB.out.size; simp only [World.size_alloc, drewN_size]; omega), by rw [ints_step HST.out HBK.out (x := _) (by first | rfl | omega)]; exact ho6⟩
                  case measure => omega
                · have z3 : ¬ 0 ≤ m.a := fun q => hno ⟨rfl, z1, rfl, q⟩
                  have z4 : decide (0 ≤ m.a) = false := by simpa using z3
                  clear hno
                  go_wp2_with (first
                    | (go_at_call 69; go_must (refine (RChildren_any _ _ m1 m2).mono ?_; rintro e w2 ⟨rfl, rfl⟩; rw [h0]))
                    | (at_builtin; go_must (refine wpList_append_is rfl (.tmp 115) (.tmp 117) rfl w.heap.size _ (ints acc) rfl (HO.out.below (B' := wr.heap.size) (by go_grown <;> exact below_d (by go_grown) _) (Nat.le_refl _)) _ [_] rfl (IS.lit 1 1 _ (Row.litd2 (by simp)) rfl (by omega) (by omega) (one_i _)) (by rw [ints_len, HLEN.out, List.length_singleton]; omega) (by have := HB.out.size; simp only [World.size_alloc, drewN_size]; omega) ?_; intro v6 w6 ho6 hg6 ht6)))
                  go_quiet (fail)
                  go_wp2_with (first
                    | (go_at_call 69; go_must (refine (RChildren_any _ _ m1 m2).mono ?_; rintro e w2 ⟨rfl, rfl⟩; rw [h0]))
                    | (at_builtin; go_must (refine wpList_append_is rfl (.tmp 115) (.tmp 117) rfl w.heap.size _ (ints acc) rfl (HO.out.below (B' := wr.heap.size) (by go_grown <;> exact below_d (by go_grown) _) (Nat.le_refl _)) _ [_] rfl (IS.lit 1 1 _ (Row.litd2 (by simp)) rfl (by omega) (by omega) (one_i _)) (by rw [ints_len, HLEN.out, List.length_singleton]; omega) (by have := HB.out.size; simp only [World.size_alloc, drewN_size]; omega) ?_; intro v6 w6 ho6 hg6 ht6)))
                  go_roundg (n - (k + 1))
                  case rel => exact ⟨k + 1, by omega, rfl, by go_num, own_below_i (HB.out.trans ((show Below wr.heap.size wr _ from by go_grown <;> exact below_d (by go_grown) _).mono HB.out.size)) (HO.out.below (B' := wr.heap.size) (by go_grown <;> exact below_d (by go_grown) _) (Nat.le_refl _)) hg6 (by have := HB.out.size; simp only [World.size_alloc, drewN_size]; omega), by rw [ints_step HST.out HBK.out (x := _) (by first | rfl | omega)]; exact ho6⟩
                  case measure => omega
          · have hma : m.a.toNat < k := by
              have := eq_of_beq ht3
              omega
            have d1 := HC2.out m.a.toNat _ (ints_get (by rw [HLEN.out]; exact hma))
            rw [← hs2] at d1
            have hsz2 := HSL.out m.a.toNat
            rw [← hs2] at hsz2
            clear hs2
            have z1 : decide ((0 : Int) < (s1 : Nat)) = true := by simp; omega
            have z2 : decide (0 ≤ m.a) = true := by simp; omega
            have z3 : m.a < (k : Int) := by omega
            by_cases hz : s2 = 0
            · have HBK : Hid (blk acc m = 0) := by unfold Hid; rw [HBK0.out, if_neg (by omega)]
              subst hz
              go_wp2_with (first
                | (go_at_call 69; go_must (refine (RChildren_any _ _ m1 m2).mono ?_; rintro e w2 ⟨rfl, rfl⟩; rw [h0]))
                | (at_builtin; go_must (refine wpList_append_is rfl (.tmp 115) (.tmp 117) rfl w.heap.size _ (ints acc) rfl (HO.out.below (B' := wr.heap.size) (by go_grown <;> exact below_d (by go_grown) _) (Nat.le_refl _)) _ [_] rfl (IS.lit 1 1 _ (Row.litd2 (by simp)) rfl (by omega) (by omega) (one_i _)) (by rw [ints_len, HLEN.out, List.length_singleton]; omega) (by have := HB.out.size; simp only [World.size_alloc, drewN_size]; omega) ?_; intro v6 w6 ho6 hg6 ht6)))
              go_quiet (fail)
              go_wp2_with (first
                | (go_at_call 69; go_must (refine (RChildren_any _ _ m1 m2).mono ?_; rintro e w2 ⟨rfl, rfl⟩; rw [h0]))
                | (at_builtin; go_must (refine wpList_append_is rfl (.tmp 115) (.tmp 117) rfl w.heap.size _ (ints acc) rfl (HO.out.below (B' := wr.heap.size) (by go_grown <;> exact below_d (by go_grown) _) (Nat.le_refl _)) _ [_] rfl (IS.lit 1 1 _ (Row.litd2 (by simp)) rfl (by omega) (by omega) (one_i _)) (by rw [ints_len, HLEN.out, List.length_singleton]; omega) (by have := HB.out.size; simp only [World.size_alloc, drewN_size]; omega) ?_; intro v6 w6 ho6 hg6 ht6)))
              go_roundg (n - (k + 1))
              case rel => exact ⟨k + 1, by omega, rfl, by go_num, own_below_i (HB.out.trans ((show Below wr.heap.size wr _ from by go_grown <;> exact below_d (by go_grown) _).mono HB.out.size)) (HO.out.below (B' := wr.heap.size) (by go_grown <;> exact below_d (by go_grown) _) (Nat.le_refl _)) hg6 (by have := HB.out.size; simp only [World.size_alloc, drewN_size]; omega), by rw [ints_step HST.out HBK.out (x := _) (by first | rfl | omega)]; exact ho6⟩
              case measure => omega
            · have z4 : 0 < s2 := by omega
              have z5 : decide ((0 : Int) < (s2 : Nat)) = true := by simp; omega
              have HBK : Hid (blk acc m = 1 + s1 + s2) := by unfold Hid; rw [HBK0.out, if_pos ⟨rfl, hp1, rfl, hp2, z4⟩]
              go_wp2_with (first
                | (go_at_call 69; go_must (refine (RChildren_any _ _ m1 m2).mono ?_; rintro e w2 ⟨rfl, rfl⟩; rw [h0]))
                | (at_builtin; go_must (refine wpList_append_is rfl (.tmp 115) (.tmp 117) rfl w.heap.size _ (ints acc) rfl (HO.out.below (B' := wr.heap.size) (by go_grown <;> exact below_d (by go_grown) _) (Nat.le_refl _)) _ [_] rfl (IS.lit 1 1 _ (Row.litd2 (by simp)) rfl (by omega) (by omega) (one_i _)) (by rw [ints_len, HLEN.out, List.length_singleton]; omega) (by have := HB.out.size; simp only [World.size_alloc, drewN_size]; omega) ?_; intro v6 w6 ho6 hg6 ht6)))
              go_quiet (fail)
              go_wp2_with (first
                | (go_at_call 69; go_must (refine (RChildren_any _ _ m1 m2).mono ?_; rintro e w2 ⟨rfl, rfl⟩; rw [h0]))
                | (at_builtin; go_must (refine wpList_append_is rfl (.tmp 115) (.tmp 117) rfl w.heap.size _ (ints acc) rfl (HO.out.below (B' := wr.heap.size) (by go_grown <;> exact below_d (by go_grown) _) (Nat.le_refl _)) _ [_] rfl (IS.lit 1 1 _ (Row.litd2 (by simp)) rfl (by omega) (by omega) (one_i _)) (by rw [ints_len, HLEN.out, List.length_singleton]; omega) (by have := HB.out.size; simp only [World.size_alloc, drewN_size]; omega) ?_; intro v6 w6 ho6 hg6 ht6)))
              go_quiet (fail)
              go_wp2_with (first
                | (go_at_call 69; go_must (refine (RChildren_any _ _ m1 m2).mono ?_; rintro e w2 ⟨rfl, rfl⟩; rw [h0]))
                | (at_builtin; go_must (refine wpList_append_is rfl (.tmp 115) (.tmp 117) rfl w.heap.size _ (ints acc) rfl (HO.out.below (B' := wr.heap.size) (by go_grown <;> exact below_d (by go_grown) _) (Nat.le_refl _)) _ [_] rfl (IS.lit 1 1 _ (Row.litd2 (by simp)) rfl (by omega) (by omega) (one_i _)) (by rw [ints_len, HLEN.out, List.length_singleton]; omega) (by have := HB.out.size; simp only [World.size_alloc, drewN_size]; omega) ?_; intro v6 w6 ho6 hg6 ht6)))
              go_roundg (n - (k + 1))
              case rel => exact ⟨k + 1, by omega, rfl, by go_num, own_below_i (HB.out.trans ((show Below wr.heap.size wr _ from by go_grown <;> exact below_d (by go_grown) _).mono HB.out.size)) (HO.out.below (B' := wr.heap.size) (by go_grown <;> exact below_d (by go_grown) _) (Nat.le_refl _)) hg6 (by have := HB.out.size; simp only [World.size_alloc, drewN_size]; omega), by rw [ints_step HST.out HBK.out (x := _) (by first | rfl | omega)]; exact ho6⟩
              case measure => omega
    · go_wp2
      go_returns
      have hkn : k = n := by omega
      subst hkn
      rw [List.take_of_length_le (by rw [← HN.out]; exact Nat.le_refl _)] at ho
      exact ⟨_, rfl, HB.out, fun b hb => (World.ownsRow.lt ho b hb).1, ho.is⟩
end Go.Proofs.YtbggpiednddheaaDoor
