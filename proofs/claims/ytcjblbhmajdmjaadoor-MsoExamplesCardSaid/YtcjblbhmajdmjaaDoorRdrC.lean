/- Contract of the reference's reader: name. -/
import Derived.Test.YtcjblbhmajdmjaaDoorRdrA
import Derived.Test.YtcjblbhmajdmjaaDoorRefA
import Derived.Deep.RegionHeld3
set_option linter.unusedSimpArgs false
set_option linter.unusedVariables false
namespace Go.Proofs.YtcjblbhmajdmjaaDoor
open Go.RowKit

theorem lowAt_take (s : List UInt8) (p j : Nat) (hj : j ≤ ((s.drop p).takeWhile low).length) : lowAt s (p + j) = decide (j < ((s.drop p).takeWhile low).length) := by
  unfold lowAt
  rw [← List.getElem?_drop]
  generalize s.drop p = l at *
  induction l generalizing j with
  | nil => simp
  | cons c l ih =>
    rw [List.takeWhile_cons] at hj ⊢
    by_cases hc : low c = true
    · simp only [hc, if_true] at hj ⊢
      cases j with
      | zero => simp [hc]
      | succ j =>
        simp only [List.getElem?_cons_succ, List.length_cons] at hj ⊢
        rw [ih j (by omega)]
        simp
    · simp only [hc] at hj ⊢
      have : j = 0 := by simpa using hj
      subst this
      simp [hc]
theorem nameP_low (s : List UInt8) (inside : Bool) (p : Nat) (h : lowAt s p = true) : nameP s inside p = match opFrom ((s.drop p).takeWhile low) inside 15 1 with
      | some k => .ok (p + ((s.drop p).takeWhile low).length) (k : Int)
      | none => .err p 6 := by
  unfold lowAt at h
  unfold nameP
  cases hs : s[p]? with
  | none => rw [hs] at h; simp at h
  | some c =>
    rw [hs] at h
    simp only at h ⊢
    rw [if_pos h]
    cases opFrom ((s.drop p).takeWhile low) inside 15 1 <;> rfl
theorem take_tw (l : List UInt8) : l.take (l.takeWhile low).length = l.takeWhile low := by
  have h := List.takeWhile_append_dropWhile (p := low) (l := l)
  have h2 : (l.takeWhile low ++ l.dropWhile low).take (l.takeWhile low).length = l.takeWhile low := List.take_left' rfl
  rwa [h] at h2
theorem nameP_nolow (s : List UInt8) (inside : Bool) (p : Nat) (hp : p < s.length) (h : lowAt s p = false) : nameP s inside p = .err p 2 := by
  unfold lowAt at h
  unfold nameP
  rw [List.getElem?_eq_getElem hp] at h ⊢
  simp only at h ⊢
  rw [if_neg (by simp [h])]

set_option maxRecDepth 100000 in
set_option maxHeartbeats 4000000 in
theorem Rname_any (S : ByteArray) (g p : Nat) (lv u : Value) (inside : Bool) (w : World) (hr : Row w g 52 #[.string S, .int .i64 p, lv, u, .int .i64 0]) (hS : S.size ≤ 1000000) :
    Calls Tryd.prog 58 #[.pointer (some ⟨g, 0, none⟩), .bool inside] w (RStep S g lv u (.int .u8 (ofPR 0 (nameP (bts S) inside p)).2) (ofPR 0 (nameP (bts S) inside p)).1 w) := by
  have hlow := fun q e W h => Rlower_any S g q lv u e W h hS
  have HL := Lib.hid hlow; have HR := Lib.hid hr; clear hlow
  have rc := hr.cell
  have rf := hr.free
  have rl := hr.lt
  clear hr
  by_cases hlt : p < S.size
  · have hge : decide ((S.size : Int) ≤ p) = false := by simp; omega
    cases hlo : lowAt (bts S) p with
    | false =>
      rw [nameP_nolow _ _ _ (by rw [bts_len]; exact hlt) hlo]
      have HLO := Lib.hid hlo; clear hlo
      go_enter Tryd.func58, Tryd.ntmps58
      go_wp2_with fail
      go_quiet (fail)
      go_wp2_with (go_at_call 57; refine (HL.out p 0 _ (by exact HR.out)).mono ?_; rintro e w1 ⟨rfl, n1, rfl⟩; rw [HLO.out])
      go_returns
      exact RStep.mk rfl rfl (Keep.set (S := (· = g)) (drewN_keep _ w _) (p := ⟨g, 4, none⟩) (.inl rfl) _) (by have h := HR.out.set 4 (.int .i64 2); exact h)
    | true =>
      rw [nameP_low _ _ _ hlo]
      have hlt2 := lowAt_take (bts S) p
      obtain ⟨T, hT⟩ : ∃ T, T = ((bts S).drop p).takeWhile low := ⟨_, rfl⟩
      have hTl : p + T.length ≤ S.size := by
        have h := congrArg List.length (List.takeWhile_append_dropWhile (p := low) (l := (bts S).drop p))
        rw [List.length_append, List.length_drop, bts_len, ← hT] at h
        omega
      have hword : bts (S.extract p (p + T.length)) = T := by
        rw [bts_extract, Nat.add_sub_cancel_left, hT, take_tw]
      rw [← hT] at hlt2 ⊢
      obtain ⟨tl, htl⟩ : ∃ tl, tl = T.length := ⟨_, rfl⟩
      rw [← htl] at hlt2 hTl hword ⊢
      obtain ⟨x, hx⟩ : ∃ x : PR Int, x = match opFrom T inside 15 1 with
          | some k => .ok (p + tl) (k : Int)
          | none => .err p 6 := ⟨_, rfl⟩
      rw [← hx]
      have HX := Lib.hid hx; clear hx
      have HLO := Lib.hid hlo; have HLT := Lib.hid hlt2; have HW := Lib.hid hword; have HTL := Lib.hid htl; clear hlo hlt2 hword hT htl
      go_enter Tryd.func58, Tryd.ntmps58
      go_wp2_with fail
      go_quiet (fail)
      go_wp2_with (go_at_call 57; refine (HL.out p 0 _ (by exact HR.out)).mono ?_; rintro e w1 ⟨rfl, n1, rfl⟩; rw [HLO.out])
      go_loopg [] tl (fun gk wr => ∃ j : Nat, j ≤ tl ∧ gk = tl - j ∧ Keep (· = g) w wr ∧ Row wr g 52 #[.string S, .int .i64 ((p + j : Nat) : Int), lv, u, .int .i64 0])
      case atStart => exact ⟨0, Nat.zero_le _, rfl, drewN_keep _ w _, HR.out⟩
      case round =>
        obtain ⟨j, hj, rfl, hk, hr⟩ := hrel
        have HK := Lib.hid hk; clear hk
        have HRj := Lib.hid hr; clear hr
        clear rc rf rl
        have rc := HRj.out.cell; have rf := HRj.out.free; have rl := HRj.out.lt
        by_cases hlt : j < tl
        · go_wp2_with (go_at_call 57; refine (HL.out (p + j) 0 _ (by exact HRj.out)).mono ?_; rintro e w1 ⟨rfl, n2, rfl⟩; rw [HLT.out j hj, decide_eq_true hlt])
          go_roundg (tl - (j + 1))
          case rel => exact ⟨j + 1, by omega, rfl, Keep.set (S := (· = g)) (HK.out.trans (drewN_keep _ _ _)) (p := ⟨g, 1, none⟩) (.inl rfl) _, by have h := HRj.out.set 1 (.int .i64 ((p + (j + 1) : Nat) : Int)); exact h⟩
          case measure => omega
        · have hjt : j = tl := by omega
          subst hjt
          go_wp2_with (go_at_call 57; refine (HL.out (p + j) 0 _ (by exact HRj.out)).mono ?_; rintro e w1 ⟨rfl, n2, rfl⟩; rw [HLT.out j hj, decide_eq_false hlt])
          have HK2 : Hid (Keep (· = g) w (wr.drewN n2)) := HK.out.trans (drewN_keep _ _ _)
          have HR2 : Hid (Row (wr.drewN n2) g 52 #[.string S, .int .i64 ((p + j : Nat) : Int), lv, u, .int .i64 0]) := HRj.out
          clear HK HRj rc rf rl
          generalize wr.drewN n2 = ws at *
          go_loopg [6] 15 (fun gk op wr => ∃ k : Nat, 1 ≤ k ∧ k ≤ 16 ∧ gk = 16 - k ∧ op = .int .u8 k ∧ Below ws.heap.size ws wr ∧ opFrom T inside 15 1 = opFrom T inside (16 - k) k)
          case atStart => exact ⟨1, by omega, by omega, by omega, rfl, Below.refl _ _, rfl⟩
          case round =>
            obtain ⟨k, hk1, hk, rfl, rfl, hb, heq⟩ := hrel
            have HB := Lib.hid hb; clear hb
            have HE := Lib.hid heq; clear heq
            have HRr := Lib.hid (HR2.out.below HB.out HR2.out.lt)
            have rc := HRr.out.cell; have rf := HRr.out.free; have rl := HRr.out.lt
            by_cases hlt : k < 16
            · have hstep : opFrom T inside (16 - k) k = if nm (k : Int) = T ∧ decide (k ≠ 1) = inside then some k else opFrom T inside (16 - (k + 1)) (k + 1) := by
                rw [show 16 - k = (16 - (k + 1)) + 1 by omega, opFrom]
              have HS := Lib.hid hstep; clear hstep
              have hN := fun W => RName_any (k : Int) W (by omega) (by omega)
              obtain ⟨WD, hWD⟩ : ∃ WD : ByteArray, WD = S.extract p (p + j) := ⟨_, rfl⟩
              have hW2 := HW.out
              rw [← hWD] at hW2
              have q1 : (0 : Int) ≤ (p : Int) + j := by omega
              have q2 : (p : Int) + j ≤ S.size := by omega
              have q3 : (p : Int) ≤ (p : Int) + j := by omega
              have q4 : (0 : Int) ≤ (p : Int) := by omega
              have q5 : ((p : Int) + (j : Int)).toNat = p + j := by omega
              have hWS : WD.size ≤ 1000000 := by rw [← bts_len, hW2, ← HTL.out]; omega
              by_cases heq : nm (k : Int) = T
              · have hNB : (⟨(nm (k : Int)).toArray⟩ : ByteArray) = S.extract p (p + j) := by
                  rw [heq, ← hW2, ← hWD]
                  show (⟨WD.data.toList.toArray⟩ : ByteArray) = WD
                  rw [Array.toArray_toList]
                rw [hNB] at hN
                have HN := Lib.hid hN; have HEQ := Lib.hid heq; clear hN hNB heq hW2 hWD hWS
                go_upto_region 13 with (fail)
                go_region_held3 (fun W => W.cell? ⟨g, 0, none⟩ = some (.string S) ∧ W.cell? ⟨g, 1, none⟩ = some (.int .i64 ((p + j : Nat) : Int))) (first | exact ⟨rc1 0, rc1 1⟩ | exact ⟨rc 0, rc 1⟩) (first | (go_at_call 39; refine (HN.out _).mono ?_; rintro e w1 ⟨rfl, hb1⟩; have HB1 : Hid (Below wr.heap.size wr w1) := (⟨hb1.os, hb1.tape, hb1.output, hb1.size, hb1.block⟩ : Below wr.heap.size wr w1); have HR1 := Lib.hid (HRr.out.below HB1.out HRr.out.lt); clear hb1; have rc1 := HR1.out.cell; have rl1 := HR1.out.lt))
                go_wp2_with fail
                · have h2 : (((k : Int) != 1) == inside) = true := by assumption
                  have h3 : decide (k ≠ 1) = inside := by
                    have := eq_of_beq h2
                    rw [← this, Bool.eq_iff_iff]
                    simp; omega
                  go_returns
                  have hx : x = .ok (p + j) (k : Int) := by rw [HX.out, HE.out, HS.out, if_pos ⟨HEQ.out, h3⟩]
                  rw [hx]
                  exact RStep.mk rfl rfl (HK2.out.trans (Keep.of_below (HB.out.trans (HB1.out.mono HB.out.size)) (Nat.le_refl _))) HR1.out
                · have h2 : (((k : Int) != 1) == inside) = false := by assumption
                  go_roundg (16 - (k + 1))
                  case rel =>
                    have h3 : ¬ decide (k ≠ 1) = inside := by
                      intro h
                      have := beq_eq_false_iff_ne.1 h2
                      apply this
                      rw [← h, Bool.eq_iff_iff]
                      simp; omega
                    exact ⟨k + 1, by omega, by omega, rfl, by go_num, HB.out.trans (HB1.out.mono HB.out.size), by rw [HE.out, HS.out, if_neg fun h => h3 h.2]⟩
                  case measure => omega
              · obtain ⟨N, hN0⟩ : ∃ N : ByteArray, N = ⟨(nm (k : Int)).toArray⟩ := ⟨_, rfl⟩
                have hne2 : (N.toList == (S.extract p (p + j)).toList) = false := by
                  rw [beq_eq_false_iff_ne]
                  intro h
                  rw [Lib.toList_data, Lib.toList_data] at h
                  apply heq
                  have e1 : nm (k : Int) = N.data.toList := by rw [hN0]
                  rw [e1, h, ← hW2, hWD]
                  rfl
                rw [← hN0] at hN
                have HN := Lib.hid hN; have HEQ := Lib.hid heq; clear hN hN0 heq hW2 hWD hWS
                go_upto_region 13 with (fail)
                refine wp_region_held_drew (S := fun W => W.cell? ⟨g, 0, none⟩ = some (.string S) ∧ W.cell? ⟨g, 1, none⟩ = some (.int .i64 ((p + j : Nat) : Int))) (by kernel_rfl) ⟨rc 0, rc 1⟩ (fun hHeld => ?_)
                refine wpAnyH_take (i := 0) (v := ?_) rfl (by kernel_rfl) (by kernel_rfl) (by kernel_rfl) (fun _ _ _ h => h) (Or.inl ⟨by rfl, ?_⟩) (by assumption) ?_
                rotate_left 1
                · (intro w hSw; (try dsimp only at hSw); (first | (go_simp; done) | (go_simp; with_reducible rfl)))
                try simp only [Act.put, List.setIfInBounds_toArray, List.set_cons_zero, List.set_cons_succ]
                refine wpAnyH_take (i := 2) (v := ?_) rfl (by kernel_rfl) (by kernel_rfl) (by kernel_rfl) (fun _ _ _ h => h) (Or.inl ⟨by rfl, ?_⟩) (by assumption) ?_
                rotate_left 1
                · (intro w hSw; (try dsimp only at hSw); (first | (go_simp; done) | (go_simp; with_reducible rfl)))
                try simp only [Act.put, List.setIfInBounds_toArray, List.set_cons_zero, List.set_cons_succ]
                refine wpAnyH_take (i := 3) (v := ?_) rfl (by kernel_rfl) (by kernel_rfl) (by kernel_rfl) (fun _ _ _ h => h) (Or.inl ⟨by rfl, ?_⟩) (by assumption) ?_
                rotate_left 1
                · (intro w hSw; (try dsimp only at hSw); (first | (go_simp; done) | (go_simp; with_reducible rfl)))
                try simp only [Act.put, List.setIfInBounds_toArray, List.set_cons_zero, List.set_cons_succ]
                refine wpAnyH_take (i := 4) (v := ?_) rfl (by kernel_rfl) (by kernel_rfl) (by kernel_rfl) (fun _ _ _ h => h) (Or.inl ⟨by rfl, ?_⟩) (by assumption) ?_
                rotate_left 1
                · (intro w hSw; (try dsimp only at hSw); (first | (go_simp; done) | (go_simp; with_reducible rfl)))
                try simp only [Act.put, List.setIfInBounds_toArray, List.set_cons_zero, List.set_cons_succ]
                refine wpAnyH_take (i := 5) (v := ?_) rfl (by kernel_rfl) (by kernel_rfl) (by kernel_rfl) (fun _ _ _ h => h) (Or.inl ⟨by rfl, ?_⟩) (by assumption) ?_
                rotate_left 1
                · (intro w hSw; (try dsimp only at hSw); (first | (go_simp; done) | (go_simp; with_reducible rfl)))
                try simp only [Act.put, List.setIfInBounds_toArray, List.set_cons_zero, List.set_cons_succ]
                refine wpAnyH_take (i := 6) (v := ?_) rfl (by kernel_rfl) (by kernel_rfl) (by kernel_rfl) (fun _ _ _ h => h) (Or.inl ⟨by rfl, ?_⟩) (by assumption) ?_
                rotate_left 1
                · (intro w hSw; (try dsimp only at hSw); (first | (go_simp; done) | (go_simp; with_reducible rfl)))
                try simp only [Act.put, List.setIfInBounds_toArray, List.set_cons_zero, List.set_cons_succ]
                refine wpAnyH_take (i := 7) (v := ?_) rfl (by kernel_rfl) (by kernel_rfl) (by kernel_rfl) (fun _ _ _ h => h) (Or.inl ⟨by rfl, ?_⟩) (by assumption) ?_
                rotate_left 1
                · (intro w hSw; (try dsimp only at hSw); (first | (go_simp; done) | (go_simp; with_reducible rfl)))
                try simp only [Act.put, List.setIfInBounds_toArray, List.set_cons_zero, List.set_cons_succ]
                refine wpAnyH_take (i := 8) (v := ?_) rfl (by kernel_rfl) (by kernel_rfl) (by kernel_rfl) (fun _ _ _ h => h) (Or.inl ⟨by rfl, ?_⟩) (by assumption) ?_
                rotate_left 1
                · (intro w hSw; (try dsimp only at hSw); (first | (go_simp; done) | (go_simp; with_reducible rfl)))
                try simp only [Act.put, List.setIfInBounds_toArray, List.set_cons_zero, List.set_cons_succ]
                refine wpAnyH_take (i := 9) (v := ?_) rfl (by kernel_rfl) (by kernel_rfl) (by kernel_rfl) (fun _ _ _ h => h) (Or.inl ⟨by rfl, ?_⟩) (by assumption) ?_
                rotate_left 1
                · (intro w hSw; (try dsimp only at hSw); (first | (go_simp; done) | (go_simp; with_reducible rfl)))
                try simp only [Act.put, List.setIfInBounds_toArray, List.set_cons_zero, List.set_cons_succ]
                refine wpAnyH_take (i := 10) (v := ?_) rfl (by kernel_rfl) (by kernel_rfl) (by kernel_rfl) (fun _ _ _ h => h) (Or.inl ⟨by rfl, ?_⟩) (by assumption) ?_
                rotate_left 1
                · (intro w hSw; (try dsimp only at hSw); (first | (go_simp; done) | (go_simp; with_reducible rfl)))
                try simp only [Act.put, List.setIfInBounds_toArray, List.set_cons_zero, List.set_cons_succ]
                refine wpAnyH_take (i := 11) (v := ?_) rfl (by kernel_rfl) (by kernel_rfl) (by kernel_rfl) (fun _ _ _ h => h) (Or.inl ⟨by rfl, ?_⟩) (by assumption) ?_
                rotate_left 1
                · (intro w hSw; (try dsimp only at hSw); (first | (go_simp; done) | (go_simp; with_reducible rfl)))
                try simp only [Act.put, List.setIfInBounds_toArray, List.set_cons_zero, List.set_cons_succ]
                refine wpAnyH_ready (rs := [1]) (by kernel_rfl) (by simp) ?_
                refine AllReadyH.cons rfl (fun K hK => ?_) AllReadyH.nil
                go_simp
                (go_at_call 39; refine (HN.out _).mono ?_; rintro e w1 ⟨rfl, hb1⟩; have HB1 : Hid (Below wr.heap.size wr w1) := (⟨hb1.os, hb1.tape, hb1.output, hb1.size, hb1.block⟩ : Below wr.heap.size wr w1); have HR1 := Lib.hid (HRr.out.below HB1.out HRr.out.lt); clear hb1; have rc1 := HR1.out.cell; have rl1 := HR1.out.lt)
                refine hK.out _ _ ⟨rc1 0, rc1 1⟩ (fun hHeld1 => ?_)
                clear hK K hHeld
                try simp only [Act.put, List.setIfInBounds_toArray, List.set_cons_zero, List.set_cons_succ]
                refine wpAnyH_take (i := 12) (v := ?_) rfl (by kernel_rfl) (by kernel_rfl) (by kernel_rfl) (fun _ _ _ h => h) (Or.inl ⟨by rfl, ?_⟩) (by assumption) ?_
                rotate_left 1
                · (intro w hSw; (try dsimp only at hSw); (first | (go_simp; done) | (go_simp; with_reducible rfl)))
                try simp only [Act.put, List.setIfInBounds_toArray, List.set_cons_zero, List.set_cons_succ]
                refine wpAnyH_take (i := 13) (v := ?_) rfl (by kernel_rfl) (by kernel_rfl) (by kernel_rfl) (fun _ _ _ h => h) (Or.inl ⟨by rfl, ?_⟩) (by assumption) ?_
                rotate_left 1
                · (intro w hSw; (try dsimp only at hSw); (first | (go_simp; done) | (go_simp; with_reducible rfl)))
                try simp only [Act.put, List.setIfInBounds_toArray, List.set_cons_zero, List.set_cons_succ]
                refine wpAnyH_take (i := 14) rfl (by kernel_rfl) (by kernel_rfl) (by kernel_rfl) (fun _ _ _ h => h) (Or.inr ⟨by rfl, rfl⟩) (by assumption) ?_
                try simp only [Act.put, List.setIfInBounds_toArray, List.set_cons_zero, List.set_cons_succ]
                refine wpAnyH_take (i := 15) rfl (by kernel_rfl) (by kernel_rfl) (by kernel_rfl) (fun _ _ _ h => h) (Or.inr ⟨by rfl, rfl⟩) (by assumption) ?_
                try simp only [Act.put, List.setIfInBounds_toArray, List.set_cons_zero, List.set_cons_succ]
                refine wpAnyH_take (i := 16) rfl (by kernel_rfl) (by kernel_rfl) (by kernel_rfl) (fun _ _ _ h => h) (Or.inr ⟨by rfl, rfl⟩) (by assumption) ?_
                try simp only [Act.put, List.setIfInBounds_toArray, List.set_cons_zero, List.set_cons_succ]
                refine wpAnyH_take (i := 17) rfl (by kernel_rfl) (by kernel_rfl) (by kernel_rfl) (fun _ _ _ h => h) (Or.inr ⟨by rfl, rfl⟩) (by assumption) ?_
                try simp only [Act.put, List.setIfInBounds_toArray, List.set_cons_zero, List.set_cons_succ]
                refine wpAnyH_take (i := 18) (v := ?_) rfl (by kernel_rfl) (by kernel_rfl) (by kernel_rfl) (fun _ _ _ h => h) (Or.inl ⟨by rfl, ?_⟩) (by assumption) ?_
                rotate_left 1
                · (intro w hSw; (try dsimp only at hSw); (first | (go_simp; done) | (go_simp; with_reducible rfl)))
                try simp only [Act.put, List.setIfInBounds_toArray, List.set_cons_zero, List.set_cons_succ]
                refine wpAnyH_done (by kernel_rfl) ?_ _
                all_goals
                  go_wp2_with fail
                  go_roundg (16 - (k + 1))
                  case rel => exact ⟨k + 1, by omega, by omega, rfl, by go_num, HB.out.trans (HB1.out.mono HB.out.size), by rw [HE.out, HS.out, if_neg fun h => HEQ.out h.1]⟩
                  case measure => omega
            · have hk16 : k = 16 := by omega
              subst hk16
              go_wp2
              go_returns
              have hx : x = .err p 6 := by rw [HX.out, HE.out]; rfl
              rw [hx]
              exact RStep.mk rfl rfl (Keep.set (S := (· = g)) (Keep.set (S := (· = g)) (HK2.out.trans (Keep.of_below HB.out (Nat.le_refl _))) (p := ⟨g, 1, none⟩) (.inl rfl) _) (p := ⟨g, 4, none⟩) (.inl rfl) _) (by have h := (HRr.out.set 1 (.int .i64 (p : Int))).set 4 (.int .i64 6); exact h)
  · have hge : decide ((S.size : Int) ≤ p) = true := by simp; omega
    have hx : nameP (bts S) inside p = .err p 3 := by unfold nameP; rw [bts_none S p (by omega)]
    rw [hx]
    go_enter Tryd.func58, Tryd.ntmps58
    go_wp2_with fail
    go_quiet (fail)
    go_wp2_with fail
    go_returns
    exact RStep.mk rfl rfl (Keep.set (S := (· = g)) (drewN_keep _ w _) (p := ⟨g, 4, none⟩) (.inl rfl) _) (by have h := HR.out.set 4 (.int .i64 3); exact h)
end Go.Proofs.YtcjblbhmajdmjaaDoor
