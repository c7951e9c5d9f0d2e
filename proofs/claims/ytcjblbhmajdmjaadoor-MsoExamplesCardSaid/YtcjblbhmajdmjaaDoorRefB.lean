/- Contracts of the reference: Sizes. -/
/- Contract of the reference: Formed. -/
/- Contract of the reference: Join. -/
import Derived.Test.YtcjblbhmajdmjaaDoorRefA
import Derived.Test.YtcjblbhmajdmjaaDoorSubst
import Derived.Test.YtcjblbhmajdmjaaDoorMsoC
import Derived.Test.YtcjblbhmajdmjaaDoorKit
import Derived.Test.YtcjblbhmajdmjaaDoorJoin
set_option linter.unusedSimpArgs false
set_option linter.unusedVariables false
namespace Go.Proofs.YtcjblbhmajdmjaaDoor
open Go.RowKit

def ints (l : List Nat) : List Int := l.map fun s : Nat => (s : Int)
theorem ints_len (l : List Nat) : (ints l).length = l.length := by simp [ints]
theorem ints_get {l : List Nat} {j : Nat} (h : j < l.length) : (ints l)[j]? = some ((l.getD j 0 : Nat) : Int) := by
  simp [ints, List.getD_eq_getElem?_getD, List.getElem?_eq_getElem h]
theorem blk_0 {acc : List Nat} {m : Mk} (h : nc m.op = 0) : blk acc m = if m.a = 0 ∧ m.b = 0 then 1 else 0 := by unfold blk; rw [if_pos h]
theorem blk_1z {acc : List Nat} {m : Mk} (h : nc m.op = 1) (hk : acc.length = 0) : blk acc m = 0 := by
  unfold blk
  rw [if_neg (by omega), if_pos hk]
theorem blk_1 {acc : List Nat} {m : Mk} {k : Nat} (h : nc m.op = 1) (hk : acc.length = k) (h1 : 1 ≤ k) : blk acc m = if m.a = k - 1 ∧ m.b = 0 ∧ 0 < acc.getD (k - 1) 0 then 1 + acc.getD (k - 1) 0 else 0 := by
  unfold blk
  simp only [hk]
  rw [if_neg (by omega), if_neg (by omega)]
  by_cases h0 : acc.getD (k - 1) 0 = 0
  · rw [if_pos h0, if_neg (by omega)]
  · rw [if_neg h0, if_pos h]
    by_cases hab : m.a = (k : Int) - 1 ∧ m.b = 0
    · rw [if_pos hab, if_pos ⟨hab.1, hab.2, by omega⟩]
    · rw [if_neg hab, if_neg fun q => hab ⟨q.1, q.2.1⟩]
theorem blk_2z {acc : List Nat} {m : Mk} {k : Nat} (h : nc m.op = 2) (hk : acc.length = k) (h1 : k < 2) (hs : ∀ j, acc.getD j 0 ≤ j + 1) : blk acc m = 0 := by
  unfold blk
  simp only [hk]
  rw [if_neg (by omega)]
  by_cases k0 : k = 0
  · rw [if_pos k0]
  · rw [if_neg k0]
    have := hs (k - 1)
    by_cases h0 : acc.getD (k - 1) 0 = 0
    · rw [if_pos h0]
    · rw [if_neg h0, if_neg (by omega), if_pos (by omega)]
theorem blk_2 {acc : List Nat} {m : Mk} {k : Nat} (h : nc m.op = 2) (hk : acc.length = k) (h1 : 2 ≤ k) (hs : ∀ j, acc.getD j 0 ≤ j + 1) :
    blk acc m = if m.b = k - 1 ∧ 0 < acc.getD (k - 1) 0 ∧ m.a = (k : Int) - 1 - (acc.getD (k - 1) 0 : Nat) ∧ 0 ≤ m.a ∧ 0 < acc.getD m.a.toNat 0 then 1 + acc.getD (k - 1) 0 + acc.getD m.a.toNat 0 else 0 := by
  unfold blk
  simp only [hk]
  rw [if_neg (by omega), if_neg (by omega)]
  have hs1 := hs (k - 1)
  by_cases h0 : acc.getD (k - 1) 0 = 0
  · rw [if_pos h0, if_neg (by omega)]
  rw [if_neg h0, if_neg (by omega)]
  generalize hs2 : acc.getD (k - 1) 0 = s1 at *
  by_cases hd : k - s1 = 0
  · rw [if_pos hd, if_neg (by omega)]
  rw [if_neg hd]
  by_cases ha : m.a = (k : Int) - 1 - (s1 : Nat)
  · have hta : m.a.toNat = k - s1 - 1 := by omega
    rw [hta]
    by_cases h2 : acc.getD (k - s1 - 1) 0 = 0
    · rw [if_pos h2, if_neg (by omega)]
    · rw [if_neg h2]
      by_cases hb : m.b = (k : Int) - 1
      · rw [if_pos ⟨hb, by omega⟩, if_pos ⟨hb, by omega, ha, by omega, by omega⟩]
      · rw [if_neg fun q => hb q.1, if_neg fun q => hb q.1]
  · by_cases h2 : acc.getD (k - s1 - 1) 0 = 0
    · rw [if_pos h2, if_neg fun q => ha q.2.2.1]
    · rw [if_neg h2, if_neg (c := m.b = (k : Int) - 1 ∧ 0 < s1 ∧ _) fun q => ha q.2.2.1, if_neg]
      intro q
      have := q.2
      omega

theorem ints_step {f : List Mk} {acc : List Nat} {m : Mk} {k val : Nat} {x : Int} (h : szs (f.take (k + 1)) = acc ++ [blk acc m]) (hv : blk acc m = val) (hx : x = val) : ints (szs (f.take (k + 1))) = ints acc ++ [x] := by
  rw [h, hv, ints, List.map_append, hx]; rfl
theorem drewN_size (W : World) (n : Nat) : (W.drewN n).heap.size = W.heap.size := rfl
theorem below_d {B : Nat} {w w' : World} (h : Below B w w') (n : Nat) : Below B w (w'.drewN n) := ⟨h.os, h.tape, h.output, h.size, h.block⟩
theorem one_i (x : Int) : ∀ (i : Nat) (y : Int), [x][i]? = some y → (#[Value.int .i64 x] : Array Value)[i]? = some (Value.int .i64 y) := by
  intro i y h
  cases i with
  | zero => simp at h; subst h; rfl
  | succ i => simp at h

set_option maxRecDepth 100000 in
set_option maxHeartbeats 8000000 in
theorem RSizes_any (f : List Mk) (v : Value) (w : World) (hv : MS w v f) (hl : f.length ≤ 64) : Calls Tryd.prog 38 #[v] w (RetIS w (ints (szs f))) := by
  have HV := Lib.hid hv
  obtain ⟨hop, A, c, rfl, hc, hc2, hcell⟩ := hv
  obtain ⟨n, hn⟩ : ∃ n, n = f.length := ⟨_, rfl⟩
  rw [← hn] at HV hl hc
  rw [← hn]
  have HN := Lib.hid hn; clear hn hcell
  have HOP := Lib.hid hop; clear hop
  go_enter Tryd.func38, Tryd.ntmps38
  go_wp2
  go_loopg [3, 4] n (fun gk s q wr => ∃ k : Nat, k ≤ n ∧ gk = n - k ∧ q = .int .i64 k ∧ Below w.heap.size w wr ∧ OWI wr w.heap.size s (ints (szs (f.take k))))
  case atStart => exact ⟨0, Nat.zero_le _, rfl, rfl, Below.refl _ _, OWI.nil _ _⟩
  case round =>
    obtain ⟨k, hk, rfl, rfl, hb, ho⟩ := hrel
    have HB := Lib.hid hb; clear hb
    have hlen : (szs (f.take k)).length = k := by rw [szs_len, List.length_take, ← HN.out]; omega
    by_cases hlt : k < n
    · obtain ⟨m, hm⟩ : ∃ m, f[k]? = some m := ⟨f[k]'(by rw [← HN.out]; exact hlt), List.getElem?_eq_getElem _⟩
      obtain ⟨m1, m2⟩ := HOP.out m (List.mem_of_getElem? hm)
      have hst := szs_take f k m hm
      have hsl : ∀ j, (szs (f.take k)).getD j 0 ≤ j + 1 := szs_le (f.take k)
      obtain ⟨acc, hacc⟩ : ∃ acc, acc = szs (f.take k) := ⟨_, rfl⟩
      rw [← hacc] at hlen ho hst hsl
      have HST := Lib.hid hst; have HSL := Lib.hid hsl; have HLEN := Lib.hid hlen
      clear hst hsl hacc
      obtain ⟨b, o, rfl⟩ := HV.out.addr (by rw [← HN.out]; omega)
      obtain ⟨c0, c1, c2, c3, c4⟩ := (HV.out.below HB.out (Nat.le_refl _)).at5 hm
      have hbl : b < wr.heap.size := World.block_lt_of_cell? _ _ c0
      clear hm
      have hi := ho.is
      obtain ⟨A2, c2', rfl, hq1, hq2, hcl⟩ := hi
      rw [ints_len, hlen] at hcl ho hq1 ⊢
      have HO := Lib.hid ho; clear ho hlen
      have HCL := Lib.hid hcl; clear hcl
      rcases nc_cases m.op with h0 | h0 | h0
      · have hbk := blk_0 (acc := acc) h0
        obtain ⟨t1, ht1⟩ : ∃ t, (m.a == 0) = t := ⟨_, rfl⟩
        obtain ⟨t2, ht2⟩ : ∃ t, (m.b == 0) = t := ⟨_, rfl⟩
        obtain ⟨val, hval⟩ : ∃ val : Nat, val = if t1 = true ∧ t2 = true then 1 else 0 := ⟨_, rfl⟩
        have HBK : Hid (blk acc m = if t1 = true ∧ t2 = true then 1 else 0) := by
          unfold Hid
          rw [hbk, ← ht1, ← ht2]
          simp
        clear hbk hval val
        cases t1 <;> cases t2
        all_goals
          replace HBK := Lib.hid HBK.out
          simp only [Bool.false_eq_true, false_and, and_false, and_self, if_true, if_false, Hid] at HBK
          have HBK := Lib.hid HBK
          go_wp2_with (first
            | (go_at_call 60; go_must (refine (RChildren_any _ _ m1 m2).mono ?_; rintro e w2 ⟨rfl, rfl⟩; rw [h0]))
            | (at_builtin; go_must (refine wpList_append_is rfl (.tmp 115) (.tmp 117) rfl w.heap.size _ (ints acc) rfl (HO.out.below (B' := wr.heap.size) (by go_grown <;> exact below_d (by go_grown) _) (Nat.le_refl _)) _ [_] rfl (IS.lit 1 1 _ (Row.litd2 (by simp)) rfl (by omega) (by omega) (one_i _)) (by rw [ints_len, HLEN.out, List.length_singleton]; omega) (by have := HB.out.size; simp only [World.size_alloc, drewN_size]; omega) ?_; intro v6 w6 ho6 hg6 ht6)))
          go_roundg (n - (k + 1))
          case rel => exact ⟨k + 1, by omega, rfl, by go_num, own_below_i (HB.out.trans ((show Below wr.heap.size wr _ from by go_grown <;> exact below_d (by go_grown) _).mono HB.out.size)) (HO.out.below (B' := wr.heap.size) (by go_grown <;> exact below_d (by go_grown) _) (Nat.le_refl _)) hg6 (by have := HB.out.size; simp only [World.size_alloc, drewN_size]; omega), by rw [ints_step HST.out HBK.out (x := _) (by first | rfl | omega)]; exact ho6⟩
          case measure => omega
      · obtain ⟨s1, hs1⟩ : ∃ s, s = acc.getD (k - 1) 0 := ⟨_, rfl⟩
        by_cases hk0 : k = 0
        · have HBK : Hid (blk acc m = 0) := Lib.hid (blk_1z h0 (by rw [HLEN.out]; exact hk0))
          clear hs1
          have hk1 : ¬ 1 ≤ k := by omega
          have hk2 : ¬ (1 : Int) ≤ k := by omega
          clear hk0
          go_wp2_with (first
            | (go_at_call 60; go_must (refine (RChildren_any _ _ m1 m2).mono ?_; rintro e w2 ⟨rfl, rfl⟩; rw [h0]))
            | (at_builtin; go_must (refine wpList_append_is rfl (.tmp 115) (.tmp 117) rfl w.heap.size _ (ints acc) rfl (HO.out.below (B' := wr.heap.size) (by go_grown <;> exact below_d (by go_grown) _) (Nat.le_refl _)) _ [_] rfl (IS.lit 1 1 _ (Row.litd2 (by simp)) rfl (by omega) (by omega) (one_i _)) (by rw [ints_len, HLEN.out, List.length_singleton]; omega) (by have := HB.out.size; simp only [World.size_alloc, drewN_size]; omega) ?_; intro v6 w6 ho6 hg6 ht6)))
          go_roundg (n - (k + 1))
          case rel => exact ⟨k + 1, by omega, rfl, by go_num, own_below_i (HB.out.trans ((show Below wr.heap.size wr _ from by go_grown <;> exact below_d (by go_grown) _).mono HB.out.size)) (HO.out.below (B' := wr.heap.size) (by go_grown <;> exact below_d (by go_grown) _) (Nat.le_refl _)) hg6 (by have := HB.out.size; simp only [World.size_alloc, drewN_size]; omega), by rw [ints_step HST.out HBK.out (x := _) (by first | rfl | omega)]; exact ho6⟩
          case measure => omega
        · have hbk := blk_1 (acc := acc) (k := k) h0 HLEN.out (by omega)
          rw [← hs1] at hbk
          obtain ⟨b2, o2, rfl, hb2, hc2⟩ := HCL.out (by omega)
          have d0 := hc2 (k - 1) _ (ints_get (by rw [HLEN.out]; omega))
          rw [← hs1] at d0
          have hsz := HSL.out (k - 1)
          rw [← hs1] at hsz
          clear hc2 hs1
          obtain ⟨t1, ht1⟩ : ∃ t, (m.a == (k : Int) - 1) = t := ⟨_, rfl⟩
          obtain ⟨t2, ht2⟩ : ∃ t, (m.b == 0) = t := ⟨_, rfl⟩
          have e1 : ((k : Int) - 1).toNat = k - 1 := by omega
          have e2 : 1 ≤ k := by omega
          have HBK0 : Hid (blk acc m = if t1 = true ∧ t2 = true ∧ 0 < s1 then 1 + s1 else 0) := by
            unfold Hid
            rw [hbk, ← ht1, ← ht2]
            simp
          clear hbk
          by_cases hs0 : s1 = 0
          · have HBK : Hid (blk acc m = 0) := by unfold Hid; rw [HBK0.out, if_neg (by omega)]
            clear HBK0
            subst hs0
            cases t1 <;> cases t2
            all_goals
              go_wp2_with (first
                | (go_at_call 60; go_must (refine (RChildren_any _ _ m1 m2).mono ?_; rintro e w2 ⟨rfl, rfl⟩; rw [h0]))
                | (at_builtin; go_must (refine wpList_append_is rfl (.tmp 115) (.tmp 117) rfl w.heap.size _ (ints acc) rfl (HO.out.below (B' := wr.heap.size) (by go_grown <;> exact below_d (by go_grown) _) (Nat.le_refl _)) _ [_] rfl (IS.lit 1 1 _ (Row.litd2 (by simp)) rfl (by omega) (by omega) (one_i _)) (by rw [ints_len, HLEN.out, List.length_singleton]; omega) (by have := HB.out.size; simp only [World.size_alloc, drewN_size]; omega) ?_; intro v6 w6 ho6 hg6 ht6)))
              go_roundg (n - (k + 1))
              case rel => exact ⟨k + 1, by omega, rfl, by go_num, own_below_i (HB.out.trans ((show Below wr.heap.size wr _ from by go_grown <;> exact below_d (by go_grown) _).mono HB.out.size)) (HO.out.below (B' := wr.heap.size) (by go_grown <;> exact below_d (by go_grown) _) (Nat.le_refl _)) hg6 (by have := HB.out.size; simp only [World.size_alloc, drewN_size]; omega), by rw [ints_step HST.out HBK.out (x := _) (by first | rfl | omega)]; exact ho6⟩
              case measure => omega
          · have hs2 : 0 < s1 := by omega
            cases t1 <;> cases t2
            rotate_right 1
            · have HBK : Hid (blk acc m = 1 + s1) := by unfold Hid; rw [HBK0.out, if_pos ⟨rfl, rfl, hs2⟩]
              go_wp2_with (first
                | (go_at_call 60; go_must (refine (RChildren_any _ _ m1 m2).mono ?_; rintro e w2 ⟨rfl, rfl⟩; rw [h0]))
                | (at_builtin; go_must (refine wpList_append_is rfl (.tmp 115) (.tmp 117) rfl w.heap.size _ (ints acc) rfl (HO.out.below (B' := wr.heap.size) (by go_grown <;> exact below_d (by go_grown) _) (Nat.le_refl _)) _ [_] rfl (IS.lit 1 1 _ (Row.litd2 (by simp)) rfl (by omega) (by omega) (one_i _)) (by rw [ints_len, HLEN.out, List.length_singleton]; omega) (by have := HB.out.size; simp only [World.size_alloc, drewN_size]; omega) ?_; intro v6 w6 ho6 hg6 ht6)))
              go_roundg (n - (k + 1))
              case rel => exact ⟨k + 1, by omega, rfl, by go_num, own_below_i (HB.out.trans ((show Below wr.heap.size wr _ from by go_grown <;> exact below_d (by go_grown) _).mono HB.out.size)) (HO.out.below (B' := wr.heap.size) (by go_grown <;> exact below_d (by go_grown) _) (Nat.le_refl _)) hg6 (by have := HB.out.size; simp only [World.size_alloc, drewN_size]; omega), by rw [ints_step HST.out HBK.out (x := _) (by first | rfl | omega)]; exact ho6⟩
              case measure => omega
            all_goals
              have HBK : Hid (blk acc m = 0) := by unfold Hid; rw [HBK0.out, if_neg (by simp)]
              go_wp2_with (first
                | (go_at_call 60; go_must (refine (RChildren_any _ _ m1 m2).mono ?_; rintro e w2 ⟨rfl, rfl⟩; rw [h0]))
                | (at_builtin; go_must (refine wpList_append_is rfl (.tmp 115) (.tmp 117) rfl w.heap.size _ (ints acc) rfl (HO.out.below (B' := wr.heap.size) (by go_grown <;> exact below_d (by go_grown) _) (Nat.le_refl _)) _ [_] rfl (IS.lit 1 1 _ (Row.litd2 (by simp)) rfl (by omega) (by omega) (one_i _)) (by rw [ints_len, HLEN.out, List.length_singleton]; omega) (by have := HB.out.size; simp only [World.size_alloc, drewN_size]; omega) ?_; intro v6 w6 ho6 hg6 ht6)))
              go_roundg (n - (k + 1))
              case rel => exact ⟨k + 1, by omega, rfl, by go_num, own_below_i (HB.out.trans ((show Below wr.heap.size wr _ from by go_grown <;> exact below_d (by go_grown) _).mono HB.out.size)) (HO.out.below (B' := wr.heap.size) (by go_grown <;> exact below_d (by go_grown) _) (Nat.le_refl _)) hg6 (by have := HB.out.size; simp only [World.size_alloc, drewN_size]; omega), by rw [ints_step HST.out HBK.out (x := _) (by first | rfl | omega)]; exact ho6⟩
              case measure => omega
      · obtain ⟨s1, hs1⟩ : ∃ s, s = acc.getD (k - 1) 0 := ⟨_, rfl⟩
        by_cases hk0 : k < 2
        · have HBK : Hid (blk acc m = 0) := Lib.hid (blk_2z h0 HLEN.out hk0 HSL.out)
          clear hs1
          have hk1 : ¬ 2 ≤ k := by omega
          have hk2 : ¬ (2 : Int) ≤ k := by omega
          have hk3 : decide ((2 : Int) ≤ k) = false := by simpa using hk2
          clear hk0
          go_wp2_with (first
            | (go_at_call 60; go_must (refine (RChildren_any _ _ m1 m2).mono ?_; rintro e w2 ⟨rfl, rfl⟩; rw [h0]))
            | (at_builtin; go_must (refine wpList_append_is rfl (.tmp 115) (.tmp 117) rfl w.heap.size _ (ints acc) rfl (HO.out.below (B' := wr.heap.size) (by go_grown <;> exact below_d (by go_grown) _) (Nat.le_refl _)) _ [_] rfl (IS.lit 1 1 _ (Row.litd2 (by simp)) rfl (by omega) (by omega) (one_i _)) (by rw [ints_len, HLEN.out, List.length_singleton]; omega) (by have := HB.out.size; simp only [World.size_alloc, drewN_size]; omega) ?_; intro v6 w6 ho6 hg6 ht6)))
          go_quiet (fail)
          go_wp2_with (first
            | (go_at_call 60; go_must (refine (RChildren_any _ _ m1 m2).mono ?_; rintro e w2 ⟨rfl, rfl⟩; rw [h0]))
            | (at_builtin; go_must (refine wpList_append_is rfl (.tmp 115) (.tmp 117) rfl w.heap.size _ (ints acc) rfl (HO.out.below (B' := wr.heap.size) (by go_grown <;> exact below_d (by go_grown) _) (Nat.le_refl _)) _ [_] rfl (IS.lit 1 1 _ (Row.litd2 (by simp)) rfl (by omega) (by omega) (one_i _)) (by rw [ints_len, HLEN.out, List.length_singleton]; omega) (by have := HB.out.size; simp only [World.size_alloc, drewN_size]; omega) ?_; intro v6 w6 ho6 hg6 ht6)))
          go_roundg (n - (k + 1))
          case rel => exact ⟨k + 1, by omega, rfl, by go_num, own_below_i (HB.out.trans ((show Below wr.heap.size wr _ from by go_grown <;> exact below_d (by go_grown) _).mono HB.out.size)) (HO.out.below (B' := wr.heap.size) (by go_grown <;> exact below_d (by go_grown) _) (Nat.le_refl _)) hg6 (by have := HB.out.size; simp only [World.size_alloc, drewN_size]; omega), by rw [ints_step HST.out HBK.out (x := _) (by first | rfl | omega)]; exact ho6⟩
          case measure => omega
        · have hbk := blk_2 (acc := acc) (k := k) h0 HLEN.out (by omega) HSL.out
          rw [← hs1] at hbk
          obtain ⟨b2, o2, rfl, hb2, hc2⟩ := HCL.out (by omega)
          have d0 := hc2 (k - 1) _ (ints_get (by rw [HLEN.out]; omega))
          rw [← hs1] at d0
          have hsz := HSL.out (k - 1)
          rw [← hs1] at hsz
          clear hs1
          have HC2 := Lib.hid hc2; clear hc2
          obtain ⟨t1, ht1⟩ : ∃ t, (m.b == (k : Int) - 1) = t := ⟨_, rfl⟩
          obtain ⟨t3, ht3⟩ : ∃ t, (m.a == (k : Int) - 1 - (s1 : Nat)) = t := ⟨_, rfl⟩
          have e1 : ((k : Int) - 1).toNat = k - 1 := by omega
          have e2 : 1 ≤ k := by omega
          have e3 : 2 ≤ k := by omega
          have e4 : decide ((2 : Int) ≤ k) = true := by simp; omega
          obtain ⟨s2, hs2⟩ : ∃ s, s = acc.getD m.a.toNat 0 := ⟨_, rfl⟩
          rw [← hs2] at hbk
          have HBK0 : Hid (blk acc m = if t1 = true ∧ 0 < s1 ∧ t3 = true ∧ 0 ≤ m.a ∧ 0 < s2 then 1 + s1 + s2 else 0) := by
            unfold Hid
            rw [hbk, ← ht1, ← ht3]
            simp
          clear hbk
          have hcase : (¬ (t1 = true ∧ 0 < s1 ∧ t3 = true ∧ 0 ≤ m.a)) ∨ (t1 = true ∧ 0 < s1 ∧ t3 = true ∧ 0 ≤ m.a) := by
            by_cases h : t1 = true ∧ 0 < s1 ∧ t3 = true ∧ 0 ≤ m.a
            · exact .inr h
            · exact .inl h
          rcases hcase with hno | ⟨rfl, hp1, rfl, hp2⟩
          · have HBK : Hid (blk acc m = 0) := by unfold Hid; rw [HBK0.out, if_neg fun q => hno ⟨q.1, q.2.1, q.2.2.1, q.2.2.2.1⟩]
            clear HBK0 hs2
            by_cases hz : s1 = 0
            · subst hz
              clear hno
              cases t1
              all_goals
                go_wp2_with (first
                  | (go_at_call 60; go_must (refine (RChildren_any _ _ m1 m2).mono ?_; rintro e w2 ⟨rfl, rfl⟩; rw [h0]))
                  | (at_builtin; go_must (refine wpList_append_is rfl (.tmp 115) (.tmp 117) rfl w.heap.size _ (ints acc) rfl (HO.out.below (B' := wr.heap.size) (by go_grown <;> exact below_d (by go_grown) _) (Nat.le_refl _)) _ [_] rfl (IS.lit 1 1 _ (Row.litd2 (by simp)) rfl (by omega) (by omega) (one_i _)) (by rw [ints_len, HLEN.out, List.length_singleton]; omega) (by have := HB.out.size; simp only [World.size_alloc, drewN_size]; omega) ?_; intro v6 w6 ho6 hg6 ht6)))
                go_quiet (fail)
                go_wp2_with (first
                  | (go_at_call 60; go_must (refine (RChildren_any _ _ m1 m2).mono ?_; rintro e w2 ⟨rfl, rfl⟩; rw [h0]))
                  | (at_builtin; go_must (refine wpList_append_is rfl (.tmp 115) (.tmp 117) rfl w.heap.size _ (ints acc) rfl (HO.out.below (B' := wr.heap.size) (by go_grown <;> exact below_d (by go_grown) _) (Nat.le_refl _)) _ [_] rfl (IS.lit 1 1 _ (Row.litd2 (by simp)) rfl (by omega) (by omega) (one_i _)) (by rw [ints_len, HLEN.out, List.length_singleton]; omega) (by have := HB.out.size; simp only [World.size_alloc, drewN_size]; omega) ?_; intro v6 w6 ho6 hg6 ht6)))
                go_roundg (n - (k + 1))
                case rel => exact ⟨k + 1, by omega, rfl, by go_num, own_below_i (HB.out.trans ((show Below wr.heap.size wr _ from by go_grown <;> exact below_d (by go_grown) _).mono HB.out.size)) (HO.out.below (B' := wr.heap.size) (by go_grown <;> exact below_d (by go_grown) _) (Nat.le_refl _)) hg6 (by have := HB.out.size; simp only [World.size_alloc, drewN_size]; omega), by rw [ints_step HST.out HBK.out (x := _) (by first | rfl | omega)]; exact ho6⟩
                case measure => omega
            · have z1 : 0 < s1 := by omega
              have z2 : decide ((0 : Int) < (s1 : Nat)) = true := by simp; omega
              cases t1
              · clear hno
                go_wp2_with (first
                  | (go_at_call 60; go_must (refine (RChildren_any _ _ m1 m2).mono ?_; rintro e w2 ⟨rfl, rfl⟩; rw [h0]))
                  | (at_builtin; go_must (refine wpList_append_is rfl (.tmp 115) (.tmp 117) rfl w.heap.size _ (ints acc) rfl (HO.out.below (B' := wr.heap.size) (by go_grown <;> exact below_d (by go_grown) _) (Nat.le_refl _)) _ [_] rfl (IS.lit 1 1 _ (Row.litd2 (by simp)) rfl (by omega) (by omega) (one_i _)) (by rw [ints_len, HLEN.out, List.length_singleton]; omega) (by have := HB.out.size; simp only [World.size_alloc, drewN_size]; omega) ?_; intro v6 w6 ho6 hg6 ht6)))
                go_quiet (fail)
                go_wp2_with (first
                  | (go_at_call 60; go_must (refine (RChildren_any _ _ m1 m2).mono ?_; rintro e w2 ⟨rfl, rfl⟩; rw [h0]))
                  | (at_builtin; go_must (refine wpList_append_is rfl (.tmp 115) (.tmp 117) rfl w.heap.size _ (ints acc) rfl (HO.out.below (B' := wr.heap.size) (by go_grown <;> exact below_d (by go_grown) _) (Nat.le_refl _)) _ [_] rfl (IS.lit 1 1 _ (Row.litd2 (by simp)) rfl (by omega) (by omega) (one_i _)) (by rw [ints_len, HLEN.out, List.length_singleton]; omega) (by have := HB.out.size; simp only [World.size_alloc, drewN_size]; omega) ?_; intro v6 w6 ho6 hg6 ht6)))
                go_roundg (n - (k + 1))
                case rel => exact ⟨k + 1, by omega, rfl, by go_num, own_below_i (HB.out.trans ((show Below wr.heap.size wr _ from by go_grown <;> exact below_d (by go_grown) _).mono HB.out.size)) (HO.out.below (B' := wr.heap.size) (by go_grown <;> exact below_d (by go_grown) _) (Nat.le_refl _)) hg6 (by have := HB.out.size; simp only [World.size_alloc, drewN_size]; omega), by rw [ints_step HST.out HBK.out (x := _) (by first | rfl | omega)]; exact ho6⟩
                case measure => omega
              · cases t3
                · clear hno
                  go_wp2_with (first
                    | (go_at_call 60; go_must (refine (RChildren_any _ _ m1 m2).mono ?_; rintro e w2 ⟨rfl, rfl⟩; rw [h0]))
                    | (at_builtin; go_must (refine wpList_append_is rfl (.tmp 115) (.tmp 117) rfl w.heap.size _ (ints acc) rfl (HO.out.below (B' := wr.heap.size) (by go_grown <;> exact below_d (by go_grown) _) (Nat.le_refl _)) _ [_] rfl (IS.lit 1 1 _ (Row.litd2 (by simp)) rfl (by omega) (by omega) (one_i _)) (by rw [ints_len, HLEN.out, List.length_singleton]; omega) (by have := HB.out.size; simp only [World.size_alloc, drewN_size]; omega) ?_; intro v6 w6 ho6 hg6 ht6)))
                  go_quiet (fail)
                  go_wp2_with (first
                    | (go_at_call 60; go_must (refine (RChildren_any _ _ m1 m2).mono ?_; rintro e w2 ⟨rfl, rfl⟩; rw [h0]))
                    | (at_builtin; go_must (refine wpList_append_is rfl (.tmp 115) (.tmp 117) rfl w.heap.size _ (ints acc) rfl (HO.out.below (B' := wr.heap.size) (by go_grown <;> exact below_d (by go_grown) _) (Nat.le_refl _)) _ [_] rfl (IS.lit 1 1 _ (Row.litd2 (by simp)) rfl (by omega) (by omega) (one_i _)) (by rw [ints_len, HLEN.out, List.length_singleton]; omega) (by have := HB.out.size; simp only [World.size_alloc, drewN_size]; omega) ?_; intro v6 w6 ho6 hg6 ht6)))
                  go_roundg (n - (k + 1))
                  case rel => exact ⟨k + 1, by omega, rfl, by go_num, own_below_i (HB.out.trans ((show Below wr.heap.size wr _ from by go_grown <;> exact below_d (by go_grown) _).mono HB.out.size)) (HO.out.below (B' := wr.heap.size) (by go_grown <;> exact below_d (by go_grown) _) (Nat.le_refl _)) hg6 (by have := HB.out.size; simp only [World.size_alloc, drewN_size]; omega), by rw [ints_step HST.out HBK.out (x := _) (by first | rfl | omega)]; exact ho6⟩
                  case measure => omega
                · have z3 : ¬ 0 ≤ m.a := fun q => hno ⟨rfl, z1, rfl, q⟩
                  have z4 : decide (0 ≤ m.a) = false := by simpa using z3
                  clear hno
                  go_wp2_with (first
                    | (go_at_call 60; go_must (refine (RChildren_any _ _ m1 m2).mono ?_; rintro e w2 ⟨rfl, rfl⟩; rw [h0]))
                    | (at_builtin; go_must (refine wpList_append_is rfl (.tmp 115) (.tmp 117) rfl w.heap.size _ (ints acc) rfl (HO.out.below (B' := wr.heap.size) (by go_grown <;> exact below_d (by go_grown) _) (Nat.le_refl _)) _ [_] rfl (IS.lit 1 1 _ (Row.litd2 (by simp)) rfl (by omega) (by omega) (one_i _)) (by rw [ints_len, HLEN.out, List.length_singleton]; omega) (by have := HB.out.size; simp only [World.size_alloc, drewN_size]; omega) ?_; intro v6 w6 ho6 hg6 ht6)))
                  go_quiet (fail)
                  go_wp2_with (first
                    | (go_at_call 60; go_must (refine (RChildren_any _ _ m1 m2).mono ?_; rintro e w2 ⟨rfl, rfl⟩; rw [h0]))
                    | (at_builtin; go_must (refine wpList_append_is rfl (.tmp 115) (.tmp 117) rfl w.heap.size _ (ints acc) rfl (HO.out.below (B' := wr.heap.size) (by go_grown <;> exact below_d (by go_grown) _) (Nat.le_refl _)) _ [_] rfl (IS.lit 1 1 _ (Row.litd2 (by simp)) rfl (by omega) (by omega) (one_i _)) (by rw [ints_len, HLEN.out, List.length_singleton]; omega) (by have := HB.out.size; simp only [World.size_alloc, drewN_size]; omega) ?_; intro v6 w6 ho6 hg6 ht6)))
                  go_roundg (n - (k + 1))
                  case rel => exact ⟨k + 1, by omega, rfl, by go_num, own_below_i (HB.out.trans ((show Below wr.heap.size wr _ from by go_grown <;> exact below_d (by go_grown) _).mono HB.out.size)) (HO.out.below (B' := wr.heap.size) (by go_grown <;> exact below_d (by go_grown) _) (Nat.le_refl _)) hg6 (by have := HB.out.size; simp only [World.size_alloc, drewN_size]; omega), by rw [ints_step HST.out HBK.out (x := _) (by first | rfl | omega)]; exact ho6⟩
                  case measure => omega
          · have hma : m.a.toNat < k := by
              have := eq_of_beq ht3
              omega
            have d1 := HC2.out m.a.toNat _ (ints_get (by rw [HLEN.out]; exact hma))
            rw [← hs2] at d1
            have hsz2 := HSL.out m.a.toNat
            rw [← hs2] at hsz2
            clear hs2
            have z1 : decide ((0 : Int) < (s1 : Nat)) = true := by simp; omega
            have z2 : decide (0 ≤ m.a) = true := by simp; omega
            have z3 : m.a < (k : Int) := by omega
            by_cases hz : s2 = 0
            · have HBK : Hid (blk acc m = 0) := by unfold Hid; rw [HBK0.out, if_neg (by omega)]
              subst hz
              go_wp2_with (first
                | (go_at_call 60; go_must (refine (RChildren_any _ _ m1 m2).mono ?_; rintro e w2 ⟨rfl, rfl⟩; rw [h0]))
                | (at_builtin; go_must (refine wpList_append_is rfl (.tmp 115) (.tmp 117) rfl w.heap.size _ (ints acc) rfl (HO.out.below (B' := wr.heap.size) (by go_grown <;> exact below_d (by go_grown) _) (Nat.le_refl _)) _ [_] rfl (IS.lit 1 1 _ (Row.litd2 (by simp)) rfl (by omega) (by omega) (one_i _)) (by rw [ints_len, HLEN.out, List.length_singleton]; omega) (by have := HB.out.size; simp only [World.size_alloc, drewN_size]; omega) ?_; intro v6 w6 ho6 hg6 ht6)))
              go_quiet (fail)
              go_wp2_with (first
                | (go_at_call 60; go_must (refine (RChildren_any _ _ m1 m2).mono ?_; rintro e w2 ⟨rfl, rfl⟩; rw [h0]))
                | (at_builtin; go_must (refine wpList_append_is rfl (.tmp 115) (.tmp 117) rfl w.heap.size _ (ints acc) rfl (HO.out.below (B' := wr.heap.size) (by go_grown <;> exact below_d (by go_grown) _) (Nat.le_refl _)) _ [_] rfl (IS.lit 1 1 _ (Row.litd2 (by simp)) rfl (by omega) (by omega) (one_i _)) (by rw [ints_len, HLEN.out, List.length_singleton]; omega) (by have := HB.out.size; simp only [World.size_alloc, drewN_size]; omega) ?_; intro v6 w6 ho6 hg6 ht6)))
              go_roundg (n - (k + 1))
              case rel => exact ⟨k + 1, by omega, rfl, by go_num, own_below_i (HB.out.trans ((show Below wr.heap.size wr _ from by go_grown <;> exact below_d (by go_grown) _).mono HB.out.size)) (HO.out.below (B' := wr.heap.size) (by go_grown <;> exact below_d (by go_grown) _) (Nat.le_refl _)) hg6 (by have := HB.out.size; simp only [World.size_alloc, drewN_size]; omega), by rw [ints_step HST.out HBK.out (x := _) (by first | rfl | omega)]; exact ho6⟩
              case measure => omega
            · have z4 : 0 < s2 := by omega
              have z5 : decide ((0 : Int) < (s2 : Nat)) = true := by simp; omega
              have HBK : Hid (blk acc m = 1 + s1 + s2) := by unfold Hid; rw [HBK0.out, if_pos ⟨rfl, hp1, rfl, hp2, z4⟩]
              go_wp2_with (first
                | (go_at_call 60; go_must (refine (RChildren_any _ _ m1 m2).mono ?_; rintro e w2 ⟨rfl, rfl⟩; rw [h0]))
                | (at_builtin; go_must (refine wpList_append_is rfl (.tmp 115) (.tmp 117) rfl w.heap.size _ (ints acc) rfl (HO.out.below (B' := wr.heap.size) (by go_grown <;> exact below_d (by go_grown) _) (Nat.le_refl _)) _ [_] rfl (IS.lit 1 1 _ (Row.litd2 (by simp)) rfl (by omega) (by omega) (one_i _)) (by rw [ints_len, HLEN.out, List.length_singleton]; omega) (by have := HB.out.size; simp only [World.size_alloc, drewN_size]; omega) ?_; intro v6 w6 ho6 hg6 ht6)))
              go_quiet (fail)
              go_wp2_with (first
                | (go_at_call 60; go_must (refine (RChildren_any _ _ m1 m2).mono ?_; rintro e w2 ⟨rfl, rfl⟩; rw [h0]))
                | (at_builtin; go_must (refine wpList_append_is rfl (.tmp 115) (.tmp 117) rfl w.heap.size _ (ints acc) rfl (HO.out.below (B' := wr.heap.size) (by go_grown <;> exact below_d (by go_grown) _) (Nat.le_refl _)) _ [_] rfl (IS.lit 1 1 _ (Row.litd2 (by simp)) rfl (by omega) (by omega) (one_i _)) (by rw [ints_len, HLEN.out, List.length_singleton]; omega) (by have := HB.out.size; simp only [World.size_alloc, drewN_size]; omega) ?_; intro v6 w6 ho6 hg6 ht6)))
              go_quiet (fail)
              go_wp2_with (first
                | (go_at_call 60; go_must (refine (RChildren_any _ _ m1 m2).mono ?_; rintro e w2 ⟨rfl, rfl⟩; rw [h0]))
                | (at_builtin; go_must (refine wpList_append_is rfl (.tmp 115) (.tmp 117) rfl w.heap.size _ (ints acc) rfl (HO.out.below (B' := wr.heap.size) (by go_grown <;> exact below_d (by go_grown) _) (Nat.le_refl _)) _ [_] rfl (IS.lit 1 1 _ (Row.litd2 (by simp)) rfl (by omega) (by omega) (one_i _)) (by rw [ints_len, HLEN.out, List.length_singleton]; omega) (by have := HB.out.size; simp only [World.size_alloc, drewN_size]; omega) ?_; intro v6 w6 ho6 hg6 ht6)))
              go_roundg (n - (k + 1))
              case rel => exact ⟨k + 1, by omega, rfl, by go_num, own_below_i (HB.out.trans ((show Below wr.heap.size wr _ from by go_grown <;> exact below_d (by go_grown) _).mono HB.out.size)) (HO.out.below (B' := wr.heap.size) (by go_grown <;> exact below_d (by go_grown) _) (Nat.le_refl _)) hg6 (by have := HB.out.size; simp only [World.size_alloc, drewN_size]; omega), by rw [ints_step HST.out HBK.out (x := _) (by first | rfl | omega)]; exact ho6⟩
              case measure => omega
    · go_wp2
      go_returns
      have hkn : k = n := by omega
      subst hkn
      rw [List.take_of_length_le (by rw [← HN.out]; exact Nat.le_refl _)] at ho
      exact ⟨_, rfl, HB.out, fun b hb => (World.ownsRow.lt ho b hb).1, ho.is⟩
end Go.Proofs.YtcjblbhmajdmjaaDoor

namespace Go.Proofs.YtcjblbhmajdmjaaDoor
open Go.RowKit

def goodN (m : Mk) (s : Nat) : Prop := nm m.op ≠ [] ∧ 0 ≤ m.x ∧ m.x < 6 ∧ 0 ≤ m.y ∧ m.y < 6 ∧ spare m = true ∧ s ≠ 0
theorem chkNode_good (m : Mk) (s : Nat) : chkNode 6 (fun _ => true) m s = 0 ↔ goodN m s := by
  unfold chkNode goodN
  by_cases h1 : nm m.op = []
  · simp [h1]
  rw [if_neg h1, if_neg (by simp)]
  by_cases h4 : spare m = true
  · have hw : within m 6 = true ↔ (0 ≤ m.x ∧ m.x < 6 ∧ 0 ≤ m.y ∧ m.y < 6) := by
      unfold spare at h4
      unfold within
      simp only [Bool.and_eq_true, Bool.or_eq_true, decide_eq_true_eq] at h4 ⊢
      omega
    by_cases h3 : within m 6 = true
    · rw [if_neg (by simp [h3]), if_neg (by simp [h4])]
      have := hw.1 h3
      by_cases h5 : s = 0
      · rw [if_pos h5]; simp [h5]
      · rw [if_neg h5]; simp [h1, h4, h5]; omega
    · have h3' : within m 6 = false := by simpa using h3
      rw [if_pos h3']
      simp only [show ((7 : Int) = 0) = False by simp, false_iff]
      intro q
      exact h3 (hw.2 ⟨q.2.1, q.2.2.1, q.2.2.2.1, q.2.2.2.2.1⟩)
  · have h4' : spare m = false := by simpa using h4
    by_cases h3 : within m 6 = false
    · rw [if_pos h3]; simp [h4']
    · rw [if_neg h3, if_pos h4']; simp [h4']

set_option maxRecDepth 100000 in
set_option maxHeartbeats 4000000 in
theorem RFormed_any (f : List Mk) (v : Value) (w : World) (hv : MS w v f) : Calls Tryd.prog 49 #[v] w fun e w' => e = .returned (.bool (formedS f)) ∧ Below w.heap.size w w' := by
  have HV := Lib.hid hv
  obtain ⟨hop, A, c, rfl, hc, hc2, hcell⟩ := hv
  obtain ⟨n, hn⟩ : ∃ n, n = f.length := ⟨_, rfl⟩
  obtain ⟨T, hT⟩ : ∃ T, T = formedS f := ⟨_, rfl⟩
  rw [← hn] at HV hc
  rw [← hn, ← hT]
  clear hcell
  by_cases hn0 : n = 0
  · have e : T = false := by rw [hT, formedS, chk, if_pos (by omega)]; rfl
    rw [e]
    subst hn0
    clear hn hT e
    go_enter Tryd.func49, Tryd.ntmps49
    go_wp2
    go_returns
    exact ⟨rfl, by go_grown⟩
  have hn0' : ((n : Int) == 0) = false := by simp [hn0]
  by_cases hn1 : 64 < n
  · have e : T = false := by rw [hT, formedS, chk, if_neg (by omega), if_pos (by omega)]; rfl
    rw [e]
    clear hn hT e hn0
    go_enter Tryd.func49, Tryd.ntmps49
    go_wp2
    go_returns
    exact ⟨rfl, by go_grown⟩
  have hnn : decide (64 < (n : Int)) = false := by simp; omega
  have hn2 : n ≤ 64 := by omega
  have hnp : 1 ≤ n := by omega
  obtain ⟨R, hR⟩ : ∃ R, R = chkList 6 (fun _ => true) f (szs f) := ⟨_, rfl⟩
  have hfin : T = decide ((if R = 0 then (if (szs f).getD (n - 1) 0 = n then 0 else 2) else R) = 0) := by rw [hT, formedS, chk, if_neg (by omega), if_neg (by omega), hR, hn]
  have HF := Lib.hid hfin; have HR := Lib.hid hR; have HN := Lib.hid hn; have HOP := Lib.hid hop
  have hsl : (szs f).length = n := by rw [szs_len, hn]
  have HSL := Lib.hid hsl
  have HCS := Lib.hid fun W (h : Below w.heap.size w W) => RSizes_any f _ W (HV.out.below h (Nat.le_refl _)) (by omega)
  clear hn hn0 hn1 hR hT hfin hop hsl
  go_enter Tryd.func49, Tryd.ntmps49
  go_wp2_with (go_at_call 38; go_must (refine (HCS.out _ (Below.refl _ _)).mono ?_; rintro e w1 ⟨v1, rfl, hb1, hfr1, hi1⟩; obtain ⟨A2, c2, rfl, hi2, hi3, hi4⟩ := hi1; rw [ints_len, HSL.out] at hi2 hi4 ⊢; obtain ⟨b2, o2, rfl, hb2, hcl⟩ := hi4 (by omega); have HB1 := Lib.hid hb1; have HCL := Lib.hid hcl; clear hb1 hcl hi4 hfr1))
  go_loopg [4] n (fun gk q wr => ∃ k : Nat, k ≤ n ∧ gk = n - k ∧ q = .int .i64 k ∧ Below w1.heap.size w1 wr ∧ chkList 6 (fun _ => true) (f.drop k) ((szs f).drop k) = R)
  case atStart => exact ⟨0, Nat.zero_le _, rfl, rfl, Below.refl _ _, by rw [HR.out, List.drop_zero, List.drop_zero]⟩
  case round =>
    obtain ⟨k, hk, rfl, rfl, hbe, hR⟩ := hrel
    have hbw : Below w.heap.size w wr := HB1.out.trans (hbe.mono HB1.out.size)
    have hbl2 : b2 < wr.heap.size := by have := hbe.size; omega
    by_cases hlt : k < n
    · obtain ⟨m, hm⟩ : ∃ m, f[k]? = some m := ⟨f[k]'(by rw [← HN.out]; exact hlt), List.getElem?_eq_getElem _⟩
      obtain ⟨m1, m2⟩ := HOP.out m (List.mem_of_getElem? hm)
      obtain ⟨b, o, rfl⟩ := HV.out.addr (by rw [← HN.out]; omega)
      obtain ⟨c0, c1, c2', c3, c4⟩ := (HV.out.below hbw (Nat.le_refl _)).at5 hm
      have hbl : b < wr.heap.size := World.block_lt_of_cell? _ _ c0
      have d0 := (hbe.cell (p := ⟨b2, o2 + k, none⟩) hb2).trans (HCL.out k _ (ints_get (by rw [HSL.out]; exact hlt)))
      rw [chkList_drop 6 (fun _ => true) f (szs f) k m hm (szs_len f)] at hR
      generalize (szs f).getD k 0 = s at *
      have hgood := chkNode_good m s
      have HRR := Lib.hid hR; have HBW := Lib.hid hbw; have HBE := Lib.hid hbe; have HM := Lib.hid hm; have HGD := Lib.hid hgood
      clear hR hbw hbe hm hgood
      have fin : ∀ W, Below w.heap.size w W → chkNode 6 (fun _ => true) m s ≠ 0 → (Ending.returned (.bool false) = .returned (.bool T) ∧ Below w.heap.size w W) := by
        intro W hW hne
        have h2 := HRR.out
        rw [if_neg hne] at h2
        rw [HF.out, if_neg (by rw [← h2]; exact hne), decide_eq_false (by rw [← h2]; exact hne)]
        exact ⟨rfl, hW⟩
      have FIN := Lib.hid fin; clear fin
      by_cases hg : goodN m s
      · have hz := HGD.out.2 hg
        obtain ⟨t1, t2, t3, t4, t5, t6, t7⟩ := hg
        have t1' : (nm m.op).isEmpty = false := by simp [t1]
        have t7' : ((s : Int) == 0) = false := by simp [t7]
        have HZ := Lib.hid hz; clear hz t1 t7
        go_wp2_with (first
          | (go_at_call 39; go_must (refine (RName_any _ _ m1 m2).mono ?_; rintro e w2 ⟨rfl, hb2⟩; obtain ⟨x0, x1, hz1, HB2⟩ := after1 hb2; clear hb2; have HBR : Hid (Below w.heap.size w w2) := HBW.out.trans (HB2.out.mono HBW.out.size)))
          | (go_at_call 42; go_must (refine (Rfields_any m _ m1 m2).mono ?_; rintro e w3 ⟨rfl, hb3⟩; replace HBR := Lib.hid (HBR.out.trans (hb3.mono HBR.out.size)); have HB3 : Hid (Below wr.heap.size wr w3) := HB2.out.trans (hb3.mono HB2.out.size); have d3 := (HB3.out.cell (p := ⟨b2, o2 + k, none⟩) hbl2).trans d0; clear hb3)))
        go_roundg (n - (k + 1))
        case rel =>
          have h2 := HRR.out
          rw [if_pos HZ.out] at h2
          exact ⟨k + 1, by omega, rfl, by go_num, HBE.out.trans (HB3.out.mono HBE.out.size), h2⟩
        case measure => omega
      · have HBAD := Lib.hid hg
        have hcs : nm m.op = [] ∨ (nm m.op).isEmpty = false ∧ (m.x < 0 ∨ 0 ≤ m.x ∧ (6 ≤ m.x ∨ m.x < 6 ∧ (m.y < 0 ∨ 0 ≤ m.y ∧ (6 ≤ m.y ∨ m.y < 6 ∧ (spare m = false ∨ spare m = true ∧ s = 0))))) := by
          by_cases h1 : nm m.op = []
          · exact .inl h1
          refine .inr ⟨by simp [h1], ?_⟩
          unfold goodN at hg
          cases h2 : spare m
          · simp only [true_or, and_true]; omega
          · rw [h2] at hg
            have : ¬ (0 ≤ m.x ∧ m.x < 6 ∧ 0 ≤ m.y ∧ m.y < 6 ∧ s ≠ 0) := fun q => hg ⟨h1, q.1, q.2.1, q.2.2.1, q.2.2.2.1, rfl, q.2.2.2.2⟩
            simp only [true_and, Bool.true_eq_false, false_or]
            omega
        clear hg
        rcases hcs with h1 | ⟨h1, h2 | ⟨h2, h3 | ⟨h3, h4 | ⟨h4, h5 | ⟨h5, h6 | ⟨h6, h7⟩⟩⟩⟩⟩⟩
        rotate_right 1
        · have h7' : ((s : Int) == 0) = true := by simp [h7]
          clear h7
          go_wp2_with (first
          | (go_at_call 39; go_must (refine (RName_any _ _ m1 m2).mono ?_; rintro e w2 ⟨rfl, hb2⟩; obtain ⟨x0, x1, hz1, HB2⟩ := after1 hb2; clear hb2; have HBR : Hid (Below w.heap.size w w2) := HBW.out.trans (HB2.out.mono HBW.out.size)))
          | (go_at_call 42; go_must (refine (Rfields_any m _ m1 m2).mono ?_; rintro e w3 ⟨rfl, hb3⟩; replace HBR := Lib.hid (HBR.out.trans (hb3.mono HBR.out.size)); have HB3 : Hid (Below wr.heap.size wr w3) := HB2.out.trans (hb3.mono HB2.out.size); have d3 := (HB3.out.cell (p := ⟨b2, o2 + k, none⟩) hbl2).trans d0; clear hb3)))
          go_returns
          exact FIN.out _ HBR.out fun q => HBAD.out (HGD.out.1 q)
        all_goals
          go_wp2_with (first
          | (go_at_call 39; go_must (refine (RName_any _ _ m1 m2).mono ?_; rintro e w2 ⟨rfl, hb2⟩; obtain ⟨x0, x1, hz1, HB2⟩ := after1 hb2; clear hb2; have HBR : Hid (Below w.heap.size w w2) := HBW.out.trans (HB2.out.mono HBW.out.size)))
          | (go_at_call 42; go_must (refine (Rfields_any m _ m1 m2).mono ?_; rintro e w3 ⟨rfl, hb3⟩; replace HBR := Lib.hid (HBR.out.trans (hb3.mono HBR.out.size)); have HB3 : Hid (Below wr.heap.size wr w3) := HB2.out.trans (hb3.mono HB2.out.size); have d3 := (HB3.out.cell (p := ⟨b2, o2 + k, none⟩) hbl2).trans d0; clear hb3)))
          go_returns
          exact FIN.out _ HBR.out fun q => HBAD.out (HGD.out.1 q)
    · have hkn : k = n := by omega
      have h0 : R = 0 := by
        rw [← hR, hkn, HN.out, List.drop_length, chkList]
        intros; simp_all
      have d0 := (hbe.cell (p := ⟨b2, o2 + (n - 1), none⟩) hb2).trans (HCL.out (n - 1) _ (ints_get (by rw [HSL.out]; omega)))
      have hsz := szs_le f (n - 1)
      generalize hs : (szs f).getD (n - 1) 0 = s at *
      have HS := Lib.hid h0; have HBW := Lib.hid hbw
      clear hR hbw h0 hs hkn hbe
      have y1 : ((n : Int) - 1).toNat = n - 1 := by omega
      obtain ⟨t, ht⟩ : ∃ t, ((s : Int) == n) = t := ⟨_, rfl⟩
      have hT : T = t := by
        rw [HF.out, HS.out, if_pos rfl, ← ht]
        by_cases h : s = n
        · simp [h]
        · rw [if_neg h, Bool.eq_iff_iff]; simp; omega
      have HTT := Lib.hid hT; clear hT
      go_wp2
      go_returns
      exact ⟨by rw [HTT.out]; rfl, HBW.out⟩
end Go.Proofs.YtcjblbhmajdmjaaDoor

namespace Go.Proofs.YtcjblbhmajdmjaaDoor
open Go.RowKit

theorem take_mv (f h : List Mk) (d : Int) (k : Nat) (m : Mk) (hm : h[k]? = some m) : f ++ (h.take (k + 1)).map (mv d) = (f ++ (h.take k).map (mv d)) ++ [mv d m] := by
  rw [List.take_add_one, hm, List.map_append, List.append_assoc]
  rfl

theorem ms_one5 {w : World} {g : Nat} {op x y a b : Int} (hr : Row w g 23 #[.int .u8 op, .int .i64 x, .int .i64 y, .int .i64 a, .int .i64 b]) (h0 : 0 ≤ op) (h1 : op ≤ 255) : MS w (.slice (some ⟨g, 0, none⟩) 1 1) [⟨op, x, y, a, b⟩] := MS.one (m := ⟨op, x, y, a, b⟩) hr h0 h1
set_option maxRecDepth 100000 in
set_option maxHeartbeats 4000000 in
theorem RJoin_any (op : Int) (f h : List Mk) (v u : Value) (w : World) (hv : MS w v f) (hu : MS w u h) (h0 : 0 ≤ op) (h1 : op ≤ 255) :
    Calls Tryd.prog 30 #[.int .u8 op, v, u] w (RetFE w (joinS op f h).1 (joinS op f h).2) := by
  by_cases hop : op ≠ 10 ∧ op ≠ 11
  · have a1 : (op == 10) = false := by simp [hop.1]
    have a2 : (op == 11) = false := by simp [hop.2]
    have a3 : (op != 10) = true := by simp [hop.1]
    have a4 : (op != 11) = true := by simp [hop.2]
    have e : joinS op f h = ([], 6) := by rw [joinS, if_pos hop]
    rw [e]
    clear hv hu hop e
    go_enter Tryd.func30, Tryd.ntmps30
    go_wp2
    go_returns
    exact ⟨.slice none 0 0, rfl, Below.refl _ _, MO.nil _ _⟩
  have HE0 : Hid (joinS op f h = if formedS f = false ∨ formedS h = false then ([], 2) else if 64 ≤ f.length + h.length then ([], 4)
    else (f ++ h.map (mv f.length) ++ [⟨op, 0, 0, f.length - 1, f.length + h.length - 1⟩], 0)) := by unfold Hid; rw [joinS, if_neg hop]
  obtain ⟨t, ht⟩ : ∃ t, t = formedS f := ⟨_, rfl⟩
  obtain ⟨s, hs⟩ : ∃ s, s = formedS h := ⟨_, rfl⟩
  have HT := Lib.hid ht; have HS := Lib.hid hs
  have HFF := Lib.hid fun W (hb : Below w.heap.size w W) => (show Calls Tryd.prog 49 #[v] W (fun e w' => e = .returned (.bool t) ∧ Below W.heap.size W w') from by rw [ht]; exact RFormed_any f v W (hv.below hb (Nat.le_refl _)))
  have HFH := Lib.hid fun W (hb : Below w.heap.size w W) => (show Calls Tryd.prog 49 #[u] W (fun e w' => e = .returned (.bool s) ∧ Below W.heap.size W w') from by rw [hs]; exact RFormed_any h u W (hu.below hb (Nat.le_refl _)))
  clear ht hs
  have HV := Lib.hid hv; have HU := Lib.hid hu
  have hop3 : (op != 10 && op != 11) = false := by
    rw [Bool.and_eq_false_iff]
    simp only [bne_eq_false_iff_eq]
    omega
  have hcs : (op != 10) = false ∨ ((op != 10) = true ∧ (op != 11) = false) := by
    cases h10 : (op != 10)
    · exact .inl rfl
    · rw [h10, Bool.true_and] at hop3; exact .inr ⟨rfl, hop3⟩
  clear hop hop3
  obtain ⟨hvo, A, c, rfl, hc, hc2, _⟩ := hv
  obtain ⟨huo, A2, c2, rfl, hc3, hc4, _⟩ := hu
  have HUO := Lib.hid huo; clear huo hvo
  obtain ⟨n, hn⟩ : ∃ n, n = f.length := ⟨_, rfl⟩
  obtain ⟨k, hk⟩ : ∃ k, k = h.length := ⟨_, rfl⟩
  rw [← hn, ← hk] at HE0
  rw [← hn] at HV HFF hc ⊢
  rw [← hk] at HU HFH hc3 ⊢
  cases t with
  | false =>
    have HE1 : Hid (joinS op f h = ([], 2)) := by unfold Hid; rw [HE0.out, ← HT.out]; simp
    clear hn hk
    rcases hcs with q1 | ⟨q1, q2⟩
    all_goals
      go_enter Tryd.func30, Tryd.ntmps30
      go_wp2_with (go_at_call 49; go_must (with_reducible refine (HFF.out _ (Below.refl _ _)).mono ?_; rintro e w1 ⟨rfl, hb1⟩))
      go_returns
      exact ⟨.slice none 0 0, by rw [HE1.out]; rfl, hb1, by rw [HE1.out]; exact MO.nil _ _⟩
  | true =>
    cases s with
    | false =>
      have HE1 : Hid (joinS op f h = ([], 2)) := by unfold Hid; rw [HE0.out, ← HS.out]; simp
      clear hn hk
      rcases hcs with q1 | ⟨q1, q2⟩
      all_goals
        go_enter Tryd.func30, Tryd.ntmps30
        go_wp2_with (first
          | (go_at_call 49; with_reducible refine (HFH.out _ hb1).mono ?_; rintro e w2 ⟨rfl, hb2⟩)
          | (go_at_call 49; with_reducible refine (HFF.out _ (Below.refl _ _)).mono ?_; rintro e w1 ⟨rfl, hb1⟩))
        go_returns
        exact ⟨.slice none 0 0, by rw [HE1.out]; rfl, hb1.trans (hb2.mono hb1.size), by rw [HE1.out]; exact MO.nil _ _⟩
    | true =>
      have hlf := formed_len f HT.out.symm
      have hlh := formed_len h HS.out.symm
      rw [← hn] at hlf
      rw [← hk] at hlh
      have HSM := Lib.hid (formed_small h HS.out.symm)
      have HN := Lib.hid hn; have HK := Lib.hid hk
      clear hn hk
      by_cases h64 : 64 ≤ n + k
      · have HE1 : Hid (joinS op f h = ([], 4)) := by unfold Hid; rw [HE0.out, ← HT.out, ← HS.out]; simp [h64]
        rcases hcs with q1 | ⟨q1, q2⟩
        all_goals
          go_enter Tryd.func30, Tryd.ntmps30
          go_wp2_with (first
            | (go_at_call 49; with_reducible refine (HFH.out _ hb1).mono ?_; rintro e w2 ⟨rfl, hb2⟩)
            | (go_at_call 49; with_reducible refine (HFF.out _ (Below.refl _ _)).mono ?_; rintro e w1 ⟨rfl, hb1⟩))
          go_returns
          exact ⟨.slice none 0 0, by rw [HE1.out]; rfl, hb1.trans (hb2.mono hb1.size), by rw [HE1.out]; exact MO.nil _ _⟩
      · have HE1 : Hid (joinS op f h = (f ++ h.map (mv n) ++ [⟨op, 0, 0, n - 1, n + k - 1⟩], 0)) := by unfold Hid; rw [HE0.out, ← HT.out, ← HS.out]; simp [h64]
        clear HE0
        go_enter Tryd.func30, Tryd.ntmps30
        rcases hcs with q1 | ⟨q1, q2⟩
        all_goals
          go_wp2_with (first
            | (go_at_call 49; with_reducible refine (HFH.out _ hb1).mono ?_; rintro e w2 ⟨rfl, hb2⟩; have hb12 := hb1.trans (hb2.mono hb1.size))
            | (go_at_call 49; with_reducible refine (HFF.out _ (Below.refl _ _)).mono ?_; rintro e w1 ⟨rfl, hb1⟩)
            | (go_at_call 4; go_must (refine (copy_any f _ _ (HV.out.below hb12 (Nat.le_refl _)) (by rw [← HN.out]; omega)).mono ?_; rintro e w3 ⟨v3, rfl, hb3, ho3⟩; have HB3 := Lib.hid (hb12.trans (hb3.mono hb12.size)); have HO3 := Lib.hid (ho3.mono hb12.size); clear hb1 hb2 hb3 ho3 hb12)))
          go_loopg [8, 9] k (fun gk s q wr => ∃ j : Nat, j ≤ k ∧ gk = k - j ∧ q = .int .i64 j ∧ Below w.heap.size w wr ∧ MO wr w.heap.size s (f ++ (h.take j).map (mv n)))
          case atStart => exact ⟨0, Nat.zero_le _, rfl, rfl, HB3.out, by simpa using HO3.out⟩
          case round =>
            obtain ⟨j, hj, rfl, rfl, hb, ho⟩ := hrel
            have hlen : (f ++ (h.take j).map (mv n)).length = n + j := by rw [List.length_append, List.length_map, List.length_take, ← HN.out, ← HK.out]; omega
            have HLEN := Lib.hid hlen; clear hlen
            have HB := Lib.hid hb; clear hb
            by_cases hlt : j < k
            · obtain ⟨m, hm⟩ : ∃ m, h[j]? = some m := ⟨h[j]'(by rw [← HK.out]; exact hlt), List.getElem?_eq_getElem _⟩
              obtain ⟨m1, m2⟩ := HUO.out m (List.mem_of_getElem? hm)
              obtain ⟨s1, s2, s3, s4⟩ := HSM.out m (List.mem_of_getElem? hm)
              obtain ⟨b, o, rfl⟩ := HU.out.addr (by rw [← HK.out]; omega)
              obtain ⟨c0, c1, c2', c3, c4⟩ := (HU.out.below HB.out (Nat.le_refl _)).at5 hm
              have hbl : b < wr.heap.size := World.block_lt_of_cell? _ _ c0
              have HST := Lib.hid (take_mv f h n j m hm)
              have HO := Lib.hid ho; clear ho hm
              generalize f ++ (h.take j).map (mv n) = L at *
              obtain ⟨n0, hn0⟩ : ∃ n0, n0 = nc m.op := ⟨_, rfl⟩
              have N0 : n0 = 0 ∨ n0 = 1 ∨ n0 = 2 := by rw [hn0]; exact nc_cases _
              have HN0 := Lib.hid hn0; clear hn0
              rcases N0 with rfl | rfl | rfl
              all_goals
                go_wp2_with (first
                  | (go_at_call 60; go_must (refine (RChildren_any _ _ m1 m2).mono ?_; rintro e w2 ⟨rfl, rfl⟩; rw [← HN0.out]))
                  | (at_builtin; go_must (refine wpList_append_ms rfl (.tmp 63) (.tmp 65) rfl w.heap.size _ L rfl (HO.out.below (B' := wr.heap.size) (by go_grown) (Nat.le_refl _)) _ [⟨_, _, _, _, _⟩] rfl (ms_one5 (Row.litd2 (by simp)) m1 m2) (by rw [HLEN.out, List.length_singleton]; omega) (by have := HB.out.size; simp only [World.size_alloc]; omega) ?_; intro v6 w6 ho6 hg6 ht6)))
                go_roundg (k - (j + 1))
                case rel =>
                  refine ⟨j + 1, by omega, rfl, by go_num, own_below (v' := v6) (g := L) (Below.alloc (Below.alloc HB.out HB.out.size _) (by have := HB.out.size; simp only [World.size_alloc]; omega) _) (HO.out.below (B' := wr.heap.size) (by go_grown) (Nat.le_refl _)) hg6 (by have := HB.out.size; simp only [World.size_alloc]; omega), ?_⟩
                  rw [HST.out]
                  have e := HN0.out
                  first | (have e2 : mv n m = m := by unfold mv; rw [← e]; simp); rw [e2]; exact ho6 | (have e2 : mv n m = { m with a := m.a + n } := by unfold mv; rw [← e]; simp); rw [e2]; exact ho6 | (have e2 : mv n m = { m with a := m.a + n, b := m.b + n } := by unfold mv; rw [← e]; simp); rw [e2]; exact ho6
                case measure => omega
            · have hjk : j = k := by omega
              subst hjk
              have e1 : (h.take j).map (mv n) = h.map (mv n) := by rw [List.take_of_length_le (by rw [← HK.out]; exact Nat.le_refl _)]
              rw [e1] at ho HLEN
              clear e1
              obtain ⟨_, A3, c3, hs3, _⟩ := ho.ms
              rw [HLEN.out] at hs3
              subst hs3
              have HO := Lib.hid ho; clear ho
              go_wp2_with (at_builtin; go_must (refine wpList_append_ms rfl (.tmp 67) (.tmp 76) rfl w.heap.size _ (f ++ h.map (mv n)) rfl (HO.out.below (B' := wr.heap.size) (by go_grown) (Nat.le_refl _)) _ [⟨_, 0, 0, n - 1, n + j - 1⟩] rfl (ms_one5 (Row.litd2 (by simp)) h0 h1) (by rw [HLEN.out, List.length_singleton]; omega) (by have := HB.out.size; simp only [World.size_alloc]; omega) ?_; intro v6 w6 ho6 hg6 ht6))
              go_returns
              exact ⟨v6, by rw [HE1.out]; rfl, own_below (v' := v6) (g := f ++ h.map (mv n)) (Below.alloc HB.out HB.out.size _) (HO.out.below (B' := wr.heap.size) (by go_grown) (Nat.le_refl _)) hg6 (by have := HB.out.size; simp only [World.size_alloc]; omega), by rw [HE1.out]; exact ho6⟩
end Go.Proofs.YtcjblbhmajdmjaaDoor
