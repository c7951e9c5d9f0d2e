/- Reference of chapter 15: the reader's byte, digit, label. -/
import Derived.Test.YtahimlnddelnbaaDoorRTb
import Derived.Test.YtahimlnddelnbaaDoorTpA
import Derived.Deep.QuietTactic
import Derived.BigQuiet
set_option linter.unusedSimpArgs false
set_option linter.unusedVariables false
namespace Go.Proofs.YtahimlnddelnbaaDoor
open Go.RowKit

/-- The reader's block: the text, the place, the nodes, the error. -/
abbrev RDX (w : World) (g : Nat) (S : ByteArray) (p m : Nat) (e : Int) : Prop := Row w g 126 #[.string S, .int .i64 p, .int .i64 m, .int .i64 e]
/-- What a step of the reader leaves in its block. -/
def RSt (S : ByteArray) (g : Nat) (r : Value) (a : Nat × Nat × Int) (w : World) (en : Ending) (w' : World) : Prop := en = .returned r ∧ Keep (· = g) w w' ∧ RDX w' g S a.1 a.2.1 a.2.2
theorem RSt.mk' {S : ByteArray} {g : Nat} {r : Value} {a b : Nat × Nat × Int} {w w' : World} {en : Ending} (ha : a = b) (he : en = .returned r) (hk : Keep (· = g) w w') (hr : RDX w' g S b.1 b.2.1 b.2.2) : RSt S g r a w en w' := by
  subst ha; exact ⟨he, hk, hr⟩
theorem drewN_kp (S : Nat → Prop) (w : World) (n : Nat) : Keep S w (w.drewN n) := ⟨rfl, rfl, rfl, Nat.le_refl _, fun _ _ _ => rfl⟩
/-- A step that may fail, on the reader's state. -/
def stT {α : Type} (x : TR α) (p m : Nat) (e : Int) : Nat × Nat × Int := if e ≠ 0 then (p, m, e) else match x with
  | .ok q _ => (q, m, 0)
  | .err q k => (q, m, k)
theorem stT_err {α : Type} {x : TR α} {p m : Nat} {e : Int} (h : e ≠ 0) : stT x p m e = (p, m, e) := by unfold stT; rw [if_pos h]
theorem stT_zero {α : Type} (x : TR α) (p m : Nat) : stT x p m 0 = match x with
  | .ok q _ => (q, m, 0)
  | .err q k => (q, m, k) := by unfold stT; rw [if_neg (by simp)]
set_option maxRecDepth 100000 in
set_option maxHeartbeats 1000000 in
theorem Rbyte_any (S : ByteArray) (g p m : Nat) (e : Int) (c : UInt8) (w : World) (hr : RDX w g S p m e) (hS : S.size ≤ 1000000) :
    Calls Tryd.prog 153 #[.pointer (some ⟨g, 0, none⟩), .int .u8 c.toNat] w (RSt S g (.tuple #[]) (stT (nextT (sb S) c p) p m e) w) := by
  have rc := hr.cell
  have rf := hr.free
  have rl := hr.lt
  have HR := Lib.hid hr; clear hr
  by_cases he : e = 0
  · subst he
    rw [stT_zero]
    by_cases hlt : p < S.size
    · have hge : decide ((S.size : Int) ≤ p) = false := by simp; omega
      by_cases hc : S[p] = c
      · have hx : nextT (sb S) c p = .ok (p + 1) () := by unfold nextT; rw [sb_get S p hlt]; simp [hc]
        rw [hx]
        have hq : ((S[p].toNat : Int) != (c.toNat : Int)) = false := by rw [hc]; simp
        clear hc hx
        go_enter Tryd.func153, Tryd.ntmps153
        go_wp2_with fail
        go_quiet (fail)
        go_wp2_with fail
        go_quiet (fail)
        go_wp2_with fail
        go_returns
        exact RSt.mk' rfl rfl (Keep.set (S := (· = g)) (drewN_kp _ w _) (p := ⟨g, 1, none⟩) (.inl rfl) _) (by have h := HR.out.set 1 (.int .i64 ((p : Int) + 1)); exact h)
      · have hx : nextT (sb S) c p = .err p 2 := by unfold nextT; rw [sb_get S p hlt]; simp [hc]
        rw [hx]
        have hq : ((S[p].toNat : Int) != (c.toNat : Int)) = true := by
          simp only [bne_iff_ne, ne_eq]
          intro h
          exact hc (UInt8.toNat_inj.1 (by omega))
        clear hc hx
        go_enter Tryd.func153, Tryd.ntmps153
        go_wp2_with fail
        go_quiet (fail)
        go_wp2_with fail
        go_quiet (fail)
        go_wp2_with fail
        go_returns
        exact RSt.mk' rfl rfl (Keep.set (S := (· = g)) (drewN_kp _ w _) (p := ⟨g, 3, none⟩) (.inl rfl) _) (by have h := HR.out.set 3 (.int .i64 2); exact h)
    · have hge : decide ((S.size : Int) ≤ p) = true := by simp; omega
      have hx : nextT (sb S) c p = .err p 3 := by unfold nextT; rw [sb_none S p (by omega)]
      rw [hx]
      clear hx
      go_enter Tryd.func153, Tryd.ntmps153
      go_wp2_with fail
      go_quiet (fail)
      go_wp2_with fail
      go_returns
      exact RSt.mk' rfl rfl (Keep.set (S := (· = g)) (drewN_kp _ w _) (p := ⟨g, 3, none⟩) (.inl rfl) _) (by have h := HR.out.set 3 (.int .i64 3); exact h)
  · rw [stT_err he]
    have hne : (e != 0) = true := by simp [he]
    go_enter Tryd.func153, Tryd.ntmps153
    go_wp2
    go_returns
    exact RSt.mk' rfl rfl (Keep.refl _ _) HR.out

set_option maxRecDepth 100000 in
set_option maxHeartbeats 1000000 in
theorem Rdigit_any (S : ByteArray) (g p m : Nat) (e : Int) (w : World) (hr : RDX w g S p m e) (hS : S.size ≤ 1000000) :
    Calls Tryd.prog 174 #[.pointer (some ⟨g, 0, none⟩)] w fun en w' => en = .returned (.bool (digAt (sb S) p)) ∧ ∃ n, w' = w.drewN n := by
  have rc := hr.cell
  have rf := hr.free
  have rl := hr.lt
  clear hr
  by_cases hlt : p < S.size
  · have hge : decide ((p : Int) < S.size) = true := by simp; omega
    have hx : digAt (sb S) p = (decide (48 ≤ S[p].toNat) && decide (S[p].toNat ≤ 57)) := by unfold digAt; rw [sb_get S p hlt]; rfl
    rw [hx]
    clear hx
    by_cases h1 : 48 ≤ S[p].toNat
    · have d1 : decide ((48 : Int) ≤ (S[p].toNat : Int)) = true := by simp; omega
      by_cases h2 : S[p].toNat ≤ 57
      · have d2 : decide ((S[p].toNat : Int) ≤ 57) = true := by simp; omega
        rw [decide_eq_true h1, decide_eq_true h2]
        clear h1 h2
        go_enter Tryd.func174, Tryd.ntmps174
        go_wp2_with fail
        go_quiet (fail)
        go_wp2_with fail
        go_returns
        exact ⟨rfl, _, rfl⟩
      · have d2 : decide ((S[p].toNat : Int) ≤ 57) = false := by simp; omega
        rw [decide_eq_true h1, decide_eq_false h2]
        clear h1 h2
        go_enter Tryd.func174, Tryd.ntmps174
        go_wp2_with fail
        go_quiet (fail)
        go_wp2_with fail
        go_returns
        exact ⟨rfl, _, rfl⟩
    · have d1 : decide ((48 : Int) ≤ (S[p].toNat : Int)) = false := by simp; omega
      rw [decide_eq_false h1]
      clear h1
      go_enter Tryd.func174, Tryd.ntmps174
      go_wp2_with fail
      go_quiet (fail)
      go_wp2_with fail
      go_returns
      exact ⟨rfl, _, rfl⟩
  · have hge : decide ((p : Int) < S.size) = false := by simp; omega
    have hx : digAt (sb S) p = false := by unfold digAt; rw [sb_none S p (by omega)]
    rw [hx]
    clear hx
    go_enter Tryd.func174, Tryd.ntmps174
    go_wp2_with fail
    go_quiet (fail)
    go_wp2_with fail
    go_returns
    exact ⟨rfl, _, rfl⟩

def lbV (x : TR Int) (e : Int) : Int := if e ≠ 0 then 0 else match x with
  | .ok _ v => v
  | .err _ _ => 0
theorem lbV_err {x : TR Int} {e : Int} (h : e ≠ 0) : lbV x e = 0 := by unfold lbV; rw [if_pos h]
theorem lbV_zero (x : TR Int) : lbV x 0 = match x with
  | .ok _ v => v
  | .err _ _ => 0 := by unfold lbV; rw [if_neg (by simp)]
theorem keep_drew {S : Nat → Prop} {a b : World} (h : Keep S a b) (n : Nat) : Keep S a (b.drewN n) := ⟨h.os, h.tape, h.output, h.size, h.block⟩
theorem RDX.keep {w W : World} {g p q m : Nat} {e : Int} {S : ByteArray} (_ : RDX w g S p m e) (h : RDX W g S q m e) : RDX W g S q m e := h
set_option maxRecDepth 100000 in
set_option maxHeartbeats 2000000 in
theorem Rlabel_any (S : ByteArray) (g p m : Nat) (e : Int) (w : World) (hr : RDX w g S p m e) (hS : S.size ≤ 1000000) (hp : p ≤ S.size) :
    Calls Tryd.prog 154 #[.pointer (some ⟨g, 0, none⟩)] w (RSt S g (.int .u8 (lbV (labT (sb S) p) e)) (stT (labT (sb S) p) p m e) w) := by
  have rc := hr.cell
  have rf := hr.free
  have rl := hr.lt
  have HR := Lib.hid hr; clear hr
  by_cases he : e = 0
  · subst he
    have HD := Lib.hid (fun W q (h : RDX W g S q m 0) => Rdigit_any S g q m 0 W h hS)
    by_cases hlt : p < S.size
    · have hge : decide ((S.size : Int) ≤ p) = false := by simp; omega
      cases hd : digAt (sb S) p with
      | false =>
        have hx : labT (sb S) p = .err p 2 := by
          unfold labT; unfold digAt at hd; rw [sb_get S p hlt] at hd ⊢; simp only at hd ⊢; rw [if_pos hd]
        rw [hx, stT_zero, lbV_zero]
        have HD2 := Lib.hid (fun W (h : RDX W g S p m 0) => (show Calls Tryd.prog 174 #[.pointer (some ⟨g, 0, none⟩)] W fun en w' => en = .returned (.bool false) ∧ ∃ n, w' = W.drewN n from by have q := HD.out W p h; rw [hd] at q; exact q))
        clear hx hd HD
        go_enter Tryd.func154, Tryd.ntmps154
        go_wp2_with fail
        go_quiet (fail)
        go_wp2_with (go_at_call 174; (refine (HD2.out _ (by exact HR.out)).mono ?_); rintro e w1 ⟨rfl, n1, rfl⟩)
        go_returns
        exact RSt.mk' rfl rfl (Keep.set (S := (· = g)) (drewN_kp _ w _) (p := ⟨g, 3, none⟩) (.inl rfl) _) (by have h := HR.out.set 3 (.int .i64 2); exact h)
      | true =>
        have hdc : isDig S[p] = true := by unfold digAt at hd; rw [sb_get S p hlt] at hd; exact hd
        obtain ⟨h48, h57⟩ := isDig_le hdc
        have HD2 := Lib.hid (fun W (h : RDX W g S p m 0) => (show Calls Tryd.prog 174 #[.pointer (some ⟨g, 0, none⟩)] W fun en w' => en = .returned (.bool true) ∧ ∃ n, w' = W.drewN n from by have q := HD.out W p h; rw [hd] at q; exact q))
        by_cases h0 : S[p] = 48
        · have hx : labT (sb S) p = .ok (p + 1) 0 := by
            unfold labT; rw [sb_get S p hlt]; simp only; rw [if_neg (by rw [hdc]; simp), if_pos h0]
          rw [hx, stT_zero, lbV_zero]
          have hq : ((S[p].toNat : Int) == 48) = true := by rw [h0]; rfl
          clear hx hd HD hdc h0
          go_enter Tryd.func154, Tryd.ntmps154
          go_wp2_with fail
          go_quiet (fail)
          go_wp2_with (go_at_call 174; (refine (HD2.out _ (by exact HR.out)).mono ?_); rintro e w1 ⟨rfl, n1, rfl⟩)
          go_returns
          exact RSt.mk' rfl rfl (Keep.set (S := (· = g)) (drewN_kp _ w _) (p := ⟨g, 1, none⟩) (.inl rfl) _) (by have h := HR.out.set 1 (.int .i64 ((p : Int) + 1)); exact h)
        · have hq : ((S[p].toNat : Int) == 48) = false := by
            rw [beq_eq_false_iff_ne]
            intro h
            exact h0 (UInt8.toNat_inj.1 (by have : (48 : UInt8).toNat = 48 := rfl; omega))
          have hx : labT (sb S) p = if digAt (sb S) (p + 1) = true ∨ 55 < S[p].toNat then .err p 1 else .ok (p + 1) ((S[p].toNat : Int) - 48) := by
            unfold labT; rw [sb_get S p hlt]; simp only; rw [if_neg (by rw [hdc]; simp), if_neg h0]
          have HX := Lib.hid hx
          have HDP := Lib.hid hd
          obtain ⟨x, hxx⟩ : ∃ x, x = labT (sb S) p := ⟨_, rfl⟩
          rw [← hxx] at HX ⊢
          obtain ⟨R, hR⟩ : ∃ R, R = stT x p m 0 := ⟨_, rfl⟩
          obtain ⟨V, hV⟩ : ∃ V, V = lbV x 0 := ⟨_, rfl⟩
          rw [← hR, ← hV]
          have HRR := Lib.hid hR; have HVV := Lib.hid hV
          clear hx hd hdc h0 hxx hR hV
          go_enter Tryd.func154, Tryd.ntmps154
          go_wp2_with fail
          go_quiet (fail)
          go_wp2_with (go_at_call 174; (refine (HD2.out _ (by exact HR.out)).mono ?_); rintro e w1 ⟨rfl, n1, rfl⟩)
          go_loopg [48] (S.size - p) (fun gk s wr => ∃ q : Nat, p ≤ q ∧ q ≤ S.size ∧ gk = S.size - q ∧ (∀ j, p ≤ j → j < q → digAt (sb S) j = true) ∧ Keep (· = g) w wr ∧ RDX wr g S q m 0)
          case atStart => exact ⟨p, Nat.le_refl _, by omega, rfl, fun j h1 h2 => by omega, drewN_kp _ _ _, HR.out⟩
          case round =>
            obtain ⟨q, hpq, hqs, rfl, hall, hkeep, hrd⟩ := hrel
            have rcq := hrd.cell
            have rfq := hrd.free
            have rlq := hrd.lt
            have HRQ := Lib.hid hrd; have HK := Lib.hid hkeep; have HAL := Lib.hid hall
            clear hrd hkeep hall rc rf rl
            cases hdq : digAt (sb S) q with
            | true =>
              have hqs2 : q < S.size := by
                by_cases h : q < S.size
                · exact h
                · unfold digAt at hdq; rw [sb_none S q (by omega)] at hdq; cases hdq
              have HD3 := Lib.hid (show Calls Tryd.prog 174 #[.pointer (some ⟨g, 0, none⟩)] wr fun en w' => en = .returned (.bool true) ∧ ∃ n, w' = wr.drewN n from by have z := HD.out wr q HRQ.out; rw [hdq] at z; exact z)
              have HDQ := Lib.hid hdq; clear hdq
              go_wp2_with (go_at_call 174; (refine HD3.out.mono ?_); rintro e w1 ⟨rfl, n2, rfl⟩)
              go_roundg (S.size - (q + 1))
              case rel =>
                refine ⟨q + 1, by omega, by omega, rfl, fun j h1 h2 => ?_, Keep.set (S := (· = g)) (keep_drew HK.out _) (p := ⟨g, 1, none⟩) (.inl rfl) _, by have h := HRQ.out.set 1 (.int .i64 ((q : Int) + 1)); exact h⟩
                by_cases hj : j = q
                · rw [hj]; exact HDQ.out
                · exact HAL.out j h1 (by omega)
              case measure => omega
            | false =>
              have HD3 := Lib.hid (show Calls Tryd.prog 174 #[.pointer (some ⟨g, 0, none⟩)] wr fun en w' => en = .returned (.bool false) ∧ ∃ n, w' = wr.drewN n from by have z := HD.out wr q HRQ.out; rw [hdq] at z; exact z)
              have hqp : q ≠ p := by
                rintro rfl
                rw [HDP.out] at hdq; cases hdq
              by_cases h1 : q = p + 1
              · subst h1
                have hd1 : digAt (sb S) (p + 1) = false := hdq
                by_cases h7 : 55 < S[p].toNat
                · have HX2 : Hid (R = (p, m, 1) ∧ V = 0) := by have e := HX.out; rw [if_pos (.inr h7)] at e; rw [Hid, HRR.out, HVV.out, e, stT_zero, lbV_zero]; exact ⟨rfl, rfl⟩
                  have h7i : (55 : Int) < (S[p].toNat : Int) := by omega
                  clear HX hdq hd1 HAL h7
                  go_wp2_with (go_at_call 174; (refine HD3.out.mono ?_); rintro e w1 ⟨rfl, n2, rfl⟩)
                  go_returns
                  rw [HX2.out.1, HX2.out.2]
                  exact RSt.mk' rfl rfl (Keep.set (S := (· = g)) (Keep.set (S := (· = g)) (keep_drew HK.out _) (p := ⟨g, 1, none⟩) (.inl rfl) _) (p := ⟨g, 3, none⟩) (.inl rfl) _) (by have h := (HRQ.out.set 1 (.int .i64 (p : Int))).set 3 (.int .i64 1); exact h)
                · have HX2 : Hid (R = (p + 1, m, 0) ∧ V = (S[p].toNat : Int) - 48) := by have e := HX.out; rw [if_neg (by rw [hd1]; simp; omega)] at e; rw [Hid, HRR.out, HVV.out, e, stT_zero, lbV_zero]; exact ⟨rfl, rfl⟩
                  have h7i : (S[p].toNat : Int) ≤ 55 := by omega
                  clear HX hdq hd1 HAL h7
                  go_wp2_with (go_at_call 174; (refine HD3.out.mono ?_); rintro e w1 ⟨rfl, n2, rfl⟩)
                  go_returns
                  rw [HX2.out.1, HX2.out.2]
                  exact RSt.mk' rfl rfl (keep_drew HK.out _) HRQ.out
              · have hd1 : digAt (sb S) (p + 1) = true := HAL.out (p + 1) (by omega) (by omega)
                have HX2 : Hid (R = (p, m, 1) ∧ V = 0) := by have e := HX.out; rw [if_pos (.inl hd1)] at e; rw [Hid, HRR.out, HVV.out, e, stT_zero, lbV_zero]; exact ⟨rfl, rfl⟩
                have hqi : (p : Int) + 1 < (q : Int) := by omega
                clear HX hdq hd1 HAL h1
                go_wp2_with (go_at_call 174; (refine HD3.out.mono ?_); rintro e w1 ⟨rfl, n2, rfl⟩)
                go_returns
                rw [HX2.out.1, HX2.out.2]
                exact RSt.mk' rfl rfl (Keep.set (S := (· = g)) (Keep.set (S := (· = g)) (keep_drew HK.out _) (p := ⟨g, 1, none⟩) (.inl rfl) _) (p := ⟨g, 3, none⟩) (.inl rfl) _) (by have h := (HRQ.out.set 1 (.int .i64 (p : Int))).set 3 (.int .i64 1); exact h)
    · have hge : decide ((S.size : Int) ≤ p) = true := by simp; omega
      have hx : labT (sb S) p = .err p 3 := by unfold labT; rw [sb_none S p (by omega)]
      rw [hx, stT_zero, lbV_zero]
      clear hx HD
      go_enter Tryd.func154, Tryd.ntmps154
      go_wp2_with fail
      go_quiet (fail)
      go_wp2_with fail
      go_returns
      exact RSt.mk' rfl rfl (Keep.set (S := (· = g)) (drewN_kp _ w _) (p := ⟨g, 3, none⟩) (.inl rfl) _) (by have h := HR.out.set 3 (.int .i64 3); exact h)
  · rw [stT_err he, lbV_err he]
    have hne : (e != 0) = true := by simp [he]
    go_enter Tryd.func154, Tryd.ntmps154
    go_wp2
    go_returns
    exact RSt.mk' rfl rfl (Keep.refl _ _) HR.out
end Go.Proofs.YtahimlnddelnbaaDoor
