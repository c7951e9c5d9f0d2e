/- Contracts of the reference's reader: must, lower, variable. -/
/- Contract of the reference's reader: variable. -/
import Derived.Test.YtcjblbhmajdmjaaDoorRdrS
import Derived.Test.YtcjblbhmajdmjaaDoorPrsA
import Derived.Test.YtcjblbhmajdmjaaDoorSubst
set_option linter.unusedSimpArgs false
set_option linter.unusedVariables false
namespace Go.Proofs.YtcjblbhmajdmjaaDoor
open Go.RowKit

/-- What a step of the reader leaves in its block. -/
def RStep (S : ByteArray) (g : Nat) (lv u : Value) (r : Value) (a : Nat × Int) (w : World) (en : Ending) (w' : World) : Prop :=
  en = .returned r ∧ Keep (· = g) w w' ∧ Row w' g 52 #[.string S, .int .i64 a.1, lv, u, .int .i64 a.2]
theorem RStep.mk {S : ByteArray} {g : Nat} {lv u r : Value} {a b : Nat × Int} {w w' : World} {en : Ending} (ha : a = b) (he : en = .returned r) (hk : Keep (· = g) w w') (hr : Row w' g 52 #[.string S, .int .i64 b.1, lv, u, .int .i64 b.2]) : RStep S g lv u r a w en w' := by
  subst ha; exact ⟨he, hk, hr⟩
theorem drewN_keep (S : Nat → Prop) (w : World) (n : Nat) : Keep S w (w.drewN n) := Keep.of_below (drewN_below w n) (Nat.le_refl _)

set_option maxRecDepth 100000 in
set_option maxHeartbeats 1000000 in
theorem Rmust_any (S : ByteArray) (g p : Nat) (lv u : Value) (e : Int) (c : UInt8) (w : World) (hr : Row w g 52 #[.string S, .int .i64 p, lv, u, .int .i64 e]) (hS : S.size ≤ 1000000) :
    Calls Tryd.prog 62 #[.pointer (some ⟨g, 0, none⟩), .int .u8 c.toNat] w (RStep S g lv u (.tuple #[]) (mustF (bts S) c (p, e)) w) := by
  have rc := hr.cell
  have rf := hr.free
  have rl := hr.lt
  have HR := Lib.hid hr; clear hr
  by_cases he : e = 0
  · subst he
    by_cases hlt : p < S.size
    · have hge : decide ((S.size : Int) ≤ p) = false := by simp; omega
      by_cases hc : S[p] = c
      · have hx : mustF (bts S) c (p, 0) = (p + 1, 0) := mustF_ok (u := ()) (by rw [pastP, bts_get S p hlt]; simp [hc])
        rw [hx]
        have hq : ((S[p].toNat : Int) != (c.toNat : Int)) = false := by rw [hc]; simp
        clear hc hx
        go_enter Tryd.func62, Tryd.ntmps62
        go_wp2_with fail
        go_quiet (fail)
        go_wp2_with fail
        go_quiet (fail)
        go_wp2_with fail
        go_returns
        exact RStep.mk rfl rfl (Keep.set (S := (· = g)) (drewN_keep _ w _) (p := ⟨g, 1, none⟩) (.inl rfl) _) (by have h := HR.out.set 1 (.int .i64 ((p : Int) + 1)); exact h)
      · have hx : mustF (bts S) c (p, 0) = (p, 2) := mustF_er (by rw [pastP, bts_get S p hlt]; simp [hc])
        rw [hx]
        have hq : ((S[p].toNat : Int) != (c.toNat : Int)) = true := by
          simp only [bne_iff_ne, ne_eq]
          intro h
          exact hc (UInt8.toNat_inj.1 (by omega))
        clear hc hx
        go_enter Tryd.func62, Tryd.ntmps62
        go_wp2_with fail
        go_quiet (fail)
        go_wp2_with fail
        go_quiet (fail)
        go_wp2_with fail
        go_returns
        exact RStep.mk rfl rfl (Keep.set (S := (· = g)) (drewN_keep _ w _) (p := ⟨g, 4, none⟩) (.inl rfl) _) (by have h := HR.out.set 4 (.int .i64 2); exact h)
    · have hge : decide ((S.size : Int) ≤ p) = true := by simp; omega
      have hx : mustF (bts S) c (p, 0) = (p, 3) := mustF_er (by rw [pastP, bts_none S p (by omega)])
      rw [hx]
      clear hx
      go_enter Tryd.func62, Tryd.ntmps62
      go_wp2_with fail
      go_quiet (fail)
      go_wp2_with fail
      go_returns
      exact RStep.mk rfl rfl (Keep.set (S := (· = g)) (drewN_keep _ w _) (p := ⟨g, 4, none⟩) (.inl rfl) _) (by have h := HR.out.set 4 (.int .i64 3); exact h)
  · have hx : mustF (bts S) c (p, e) = (p, e) := mustF_err he
    rw [hx]
    have hne : (e != 0) = true := by simp [he]
    clear hx
    go_enter Tryd.func62, Tryd.ntmps62
    go_wp2
    go_returns
    exact RStep.mk rfl rfl (Keep.refl _ _) HR.out

def lowAt (s : List UInt8) (p : Nat) : Bool := match s[p]? with | none => false | some c => low c
set_option maxRecDepth 100000 in
set_option maxHeartbeats 1000000 in
theorem Rlower_any (S : ByteArray) (g p : Nat) (lv u : Value) (e : Int) (w : World) (hr : Row w g 52 #[.string S, .int .i64 p, lv, u, .int .i64 e]) (hS : S.size ≤ 1000000) :
    Calls Tryd.prog 57 #[.pointer (some ⟨g, 0, none⟩)] w fun en w' => en = .returned (.bool (lowAt (bts S) p)) ∧ ∃ n, w' = w.drewN n := by
  have rc := hr.cell
  have rf := hr.free
  have rl := hr.lt
  clear hr
  by_cases hlt : p < S.size
  · have hge : decide ((p : Int) < S.size) = true := by simp; omega
    have hx : lowAt (bts S) p = (decide (97 ≤ S[p].toNat) && decide (S[p].toNat ≤ 122)) := by rw [lowAt, bts_get S p hlt]; rfl
    rw [hx]
    clear hx
    by_cases h1 : 97 ≤ S[p].toNat
    · have d1 : decide ((97 : Int) ≤ (S[p].toNat : Int)) = true := by simp; omega
      by_cases h2 : S[p].toNat ≤ 122
      · have d2 : decide ((S[p].toNat : Int) ≤ 122) = true := by simp; omega
        rw [decide_eq_true h1, decide_eq_true h2]
        clear h1 h2
        go_enter Tryd.func57, Tryd.ntmps57
        go_wp2_with fail
        go_quiet (fail)
        go_wp2_with fail
        go_returns
        exact ⟨rfl, _, rfl⟩
      · have d2 : decide ((S[p].toNat : Int) ≤ 122) = false := by simp; omega
        rw [decide_eq_true h1, decide_eq_false h2]
        clear h1 h2
        go_enter Tryd.func57, Tryd.ntmps57
        go_wp2_with fail
        go_quiet (fail)
        go_wp2_with fail
        go_returns
        exact ⟨rfl, _, rfl⟩
    · have d1 : decide ((97 : Int) ≤ (S[p].toNat : Int)) = false := by simp; omega
      rw [decide_eq_false h1]
      clear h1
      go_enter Tryd.func57, Tryd.ntmps57
      go_wp2_with fail
      go_quiet (fail)
      go_wp2_with fail
      go_returns
      exact ⟨rfl, _, rfl⟩
  · have hge : decide ((p : Int) < S.size) = false := by simp; omega
    have hx : lowAt (bts S) p = false := by rw [lowAt, bts_none S p (by omega)]
    rw [hx]
    clear hx
    go_enter Tryd.func57, Tryd.ntmps57
    go_wp2_with fail
    go_quiet (fail)
    go_wp2_with fail
    go_returns
    exact ⟨rfl, _, rfl⟩
end Go.Proofs.YtcjblbhmajdmjaaDoor

namespace Go.Proofs.YtcjblbhmajdmjaaDoor
open Go.RowKit

theorem pastP_err {s : List UInt8} {c : UInt8} {p q : Nat} {k : Int} (h : pastP s c p = .err q k) : k ≠ 0 := by
  unfold pastP at h
  split at h
  · cases h; decide
  · split at h
    · cases h
    · cases h; decide
theorem varF_eq (s : List UInt8) (a : Nat × Int) : varF s a = if (mustF s 32 a).2 = 0 then (match s[(mustF s 32 a).1]? with
    | none => (((mustF s 32 a).1, 3), 0)
    | some d => if 65 ≤ d.toNat ∧ d.toNat ≤ 70 then (((mustF s 32 a).1 + 1, 0), (d.toNat : Int) - 65) else (((mustF s 32 a).1, 7), 0)) else (mustF s 32 a, 0) := by
  obtain ⟨p, e⟩ := a
  by_cases he : e = 0
  · subst he
    simp only [varF, if_true]
    unfold varP
    cases h : pastP s 32 p with
    | err q k => rw [mustF_er h, if_neg (pastP_err h)]; rfl
    | ok q u =>
      rw [mustF_ok h, if_pos rfl, PR.bind_ok]
      cases s[q]? with
      | none => rfl
      | some d =>
        simp only
        split <;> rfl
  · rw [mustF_err (by exact he), if_neg (by exact he), varF, if_neg (by exact he)]
theorem Rmust_at (S : ByteArray) (g p : Nat) (lv u : Value) (e : Int) (c : UInt8) (k : Int) (hk : (c.toNat : Int) = k) (w : World) (hr : Row w g 52 #[.string S, .int .i64 p, lv, u, .int .i64 e]) (hS : S.size ≤ 1000000) :
    Calls Tryd.prog 62 #[.pointer (some ⟨g, 0, none⟩), .int .u8 k] w (RStep S g lv u (.tuple #[]) (mustF (bts S) c (p, e)) w) := hk ▸ Rmust_any S g p lv u e c w hr hS
set_option maxRecDepth 100000 in
set_option maxHeartbeats 1000000 in
theorem Rvariable_any (S : ByteArray) (g p : Nat) (lv u : Value) (e : Int) (w : World) (hr : Row w g 52 #[.string S, .int .i64 p, lv, u, .int .i64 e]) (hS : S.size ≤ 1000000) :
    Calls Tryd.prog 59 #[.pointer (some ⟨g, 0, none⟩)] w (RStep S g lv u (.int .i64 (varF (bts S) (p, e)).2) (varF (bts S) (p, e)).1 w) := by
  have hm := fun W h => Rmust_at S g p lv u e 32 32 rfl W h hS
  rw [varF_eq]
  obtain ⟨a, ha⟩ : ∃ a, a = mustF (bts S) 32 (p, e) := ⟨_, rfl⟩
  rw [← ha] at hm ⊢
  obtain ⟨p1, e1⟩ := a
  clear ha
  have HM := Lib.hid hm; have HR := Lib.hid hr; clear hm hr
  by_cases he : e1 = 0
  · subst he
    by_cases hlt : p1 < S.size
    · have hge : decide ((S.size : Int) ≤ p1) = false := by simp; omega
      simp only [if_true, bts_get S p1 hlt]
      by_cases h1 : S[p1].toNat < 65
      · have d1 : decide ((S[p1].toNat : Int) < 65) = true := by simp; omega
        rw [if_neg (by omega)]
        clear h1
        go_enter Tryd.func59, Tryd.ntmps59
        go_wp2_with (go_at_call 62; (with_reducible refine (HM.out _ HR.out).mono ?_); rintro e w1 ⟨rfl, hk, hr1⟩; have HK := Lib.hid hk; have HR1 := Lib.hid hr1; clear hk hr1; have rc := HR1.out.cell; have rf := HR1.out.free; have rl := HR1.out.lt)
        go_quiet (fail)
        go_wp2_with fail
        go_quiet (fail)
        go_wp2_with fail
        go_returns
        exact RStep.mk rfl rfl (Keep.set (S := (· = g)) (HK.out.trans (drewN_keep _ _ _)) (p := ⟨g, 4, none⟩) (.inl rfl) _) (by have h := HR1.out.set 4 (.int .i64 7); exact h)
      · have d1 : decide ((S[p1].toNat : Int) < 65) = false := by simp; omega
        by_cases h2 : S[p1].toNat ≤ 70
        · have d2 : decide ((70 : Int) < (S[p1].toNat : Int)) = false := by simp; omega
          rw [if_pos (by omega)]
          have h3 : 65 ≤ S[p1].toNat := by omega
          clear h1
          go_enter Tryd.func59, Tryd.ntmps59
          go_wp2_with (go_at_call 62; (with_reducible refine (HM.out _ HR.out).mono ?_); rintro e w1 ⟨rfl, hk, hr1⟩; have HK := Lib.hid hk; have HR1 := Lib.hid hr1; clear hk hr1; have rc := HR1.out.cell; have rf := HR1.out.free; have rl := HR1.out.lt)
          go_quiet (fail)
          go_wp2_with fail
          go_quiet (fail)
          go_wp2_with fail
          go_quiet (fail)
          go_wp2_with fail
          go_returns
          exact RStep.mk rfl rfl ((Keep.set (S := (· = g)) (HK.out.trans (drewN_keep _ _ _)) (p := ⟨g, 1, none⟩) (.inl rfl) _).trans (drewN_keep _ _ _)) (by have h := HR1.out.set 1 (.int .i64 ((p1 : Int) + 1)); exact h)
        · have d2 : decide ((70 : Int) < (S[p1].toNat : Int)) = true := by simp; omega
          rw [if_neg (by omega)]
          clear h1 h2
          go_enter Tryd.func59, Tryd.ntmps59
          go_wp2_with (go_at_call 62; (with_reducible refine (HM.out _ HR.out).mono ?_); rintro e w1 ⟨rfl, hk, hr1⟩; have HK := Lib.hid hk; have HR1 := Lib.hid hr1; clear hk hr1; have rc := HR1.out.cell; have rf := HR1.out.free; have rl := HR1.out.lt)
          go_quiet (fail)
          go_wp2_with fail
          go_quiet (fail)
          go_wp2_with fail
          go_returns
          exact RStep.mk rfl rfl (Keep.set (S := (· = g)) (HK.out.trans (drewN_keep _ _ _)) (p := ⟨g, 4, none⟩) (.inl rfl) _) (by have h := HR1.out.set 4 (.int .i64 7); exact h)
    · have hge : decide ((S.size : Int) ≤ p1) = true := by simp; omega
      simp only [if_true, bts_none S p1 (by omega)]
      go_enter Tryd.func59, Tryd.ntmps59
      go_wp2_with (go_at_call 62; (with_reducible refine (HM.out _ HR.out).mono ?_); rintro e w1 ⟨rfl, hk, hr1⟩; have HK := Lib.hid hk; have HR1 := Lib.hid hr1; clear hk hr1; have rc := HR1.out.cell; have rf := HR1.out.free; have rl := HR1.out.lt)
      go_quiet (fail)
      go_wp2_with fail
      go_returns
      exact RStep.mk rfl rfl (Keep.set (S := (· = g)) (HK.out.trans (drewN_keep _ _ _)) (p := ⟨g, 4, none⟩) (.inl rfl) _) (by have h := HR1.out.set 4 (.int .i64 3); exact h)
  · have hne : (e1 != 0) = true := by simp [he]
    simp only [if_neg he]
    go_enter Tryd.func59, Tryd.ntmps59
    go_wp2_with (go_at_call 62; (with_reducible refine (HM.out _ HR.out).mono ?_); rintro e w1 ⟨rfl, hk, hr1⟩; have HK := Lib.hid hk; have HR1 := Lib.hid hr1; clear hk hr1; have rc := HR1.out.cell; have rf := HR1.out.free; have rl := HR1.out.lt)
    go_returns
    exact RStep.mk rfl rfl HK.out HR1.out
end Go.Proofs.YtcjblbhmajdmjaaDoor
