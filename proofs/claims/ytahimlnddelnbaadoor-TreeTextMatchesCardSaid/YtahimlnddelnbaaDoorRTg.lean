/- Reference of chapter 15: tree for every state, and Parse. -/
import Derived.Test.YtahimlnddelnbaaDoorRTf
set_option linter.unusedSimpArgs false
set_option linter.unusedVariables false
namespace Go.Proofs.YtahimlnddelnbaaDoor
open Go.RowKit

set_option maxRecDepth 100000 in
set_option maxHeartbeats 2000000 in
theorem Rtree_leaf (S : ByteArray) (hS : S.size ≤ 1000000) (g n p m : Nat) (w : World) (hr : RDX w g S p m 0) (hp : p ≤ S.size) (hm : m ≤ 31) (h45 : (sb S)[p]? = some 45) :
    Calls Tryd.prog 101 #[.pointer (some ⟨g, 0, none⟩)] w (RTP S g (n + 1) p m 0 w) := by
  have rc := hr.cell
  have rf := hr.free
  have hgl := hr.lt
  have HR := Lib.hid hr
  have hlt : p < S.size := by
    by_cases h : p < S.size
    · exact h
    · rw [sb_none S p (by omega)] at h45; cases h45
  have hc : decide ((p : Int) < S.size) = true := decide_eq_true (by omega)
  have h5 : ((S[p].toNat : Int) == 45) = true := by
    rw [sb_get S p hlt] at h45
    have : S[p] = 45 := by simpa using h45
    rw [this]; rfl
  have HT := Lib.hid (show treeT (sb S) (n + 1) p m = .ok (p + 1) .nil by rw [treeT, if_pos h45])
  clear hr h45
  go_enter Tryd.func101, Tryd.ntmps101
  go_wp2_with fail
  go_quiet (fail)
  go_wp2_with fail
  go_returns
  exact ⟨_, [], p + 1, m, 0, rfl, Keep.set (S := (· = g)) (drewN_kp _ w _) (p := ⟨g, 1, none⟩) (.inl rfl) _, by have h := HR.out.set 1 (.int .i64 ((p : Int) + 1)); exact h, TO.nil _ _, KidIn.nil, by simp, by omega, by omega,
    fun h => absurd rfl h, fun _ => by rw [HT.out]; exact ⟨rfl, rfl, rfl, rfl⟩⟩
set_option maxRecDepth 100000 in
set_option maxHeartbeats 2000000 in
theorem Rtree_long (S : ByteArray) (hS : S.size ≤ 1000000) (g n p : Nat) (w : World) (hr : RDX w g S p 31 0) (hp : p ≤ S.size) (h40 : (sb S)[p]? = some 40) :
    Calls Tryd.prog 101 #[.pointer (some ⟨g, 0, none⟩)] w (RTP S g (n + 1) p 31 0 w) := by
  have rc := hr.cell
  have rf := hr.free
  have hgl := hr.lt
  have HR := Lib.hid hr
  have hlt : p < S.size := by
    by_cases h : p < S.size
    · exact h
    · rw [sb_none S p (by omega)] at h40; cases h40
  have hc : decide ((p : Int) < S.size) = true := decide_eq_true (by omega)
  have h4 : S[p].toNat = 40 := by
    rw [sb_get S p hlt] at h40
    have : S[p] = 40 := by simpa using h40
    rw [this]; rfl
  have h5 : ((S[p].toNat : Int) == 45) = false := by rw [h4]; rfl
  have h6 : ((S[p].toNat : Int) == 40) = true := by rw [h4]; rfl
  have HT := Lib.hid (show treeT (sb S) (n + 1) p 31 = .err p 4 by rw [treeT, if_neg (by rw [h40]; simp), if_pos ⟨h40, rfl⟩])
  clear hr h40 h4
  go_enter Tryd.func101, Tryd.ntmps101
  go_wp2_with fail
  go_quiet (fail)
  go_wp2_with fail
  go_quiet (fail)
  go_wp2_with fail
  go_returns
  exact ⟨_, [], p, 31, 4, rfl, Keep.set (S := (· = g)) (drewN_kp _ w _) (p := ⟨g, 3, none⟩) (.inl rfl) _, by have h := HR.out.set 3 (.int .i64 4); exact h, TO.nil _ _, KidIn.nil, by simp, by omega, by omega,
    fun h => absurd rfl h, fun _ => by rw [HT.out]; exact ⟨rfl, rfl, by omega⟩⟩
theorem Rtree_any (S : ByteArray) (hS : S.size ≤ 1000000) (g : Nat) : ∀ n, RTC S g n := by
  intro n
  induction n with
  | zero =>
    intro p m e w hr hp hm hc
    by_cases he : e = 0
    · have := hc he; omega
    · exact Rtree_err S g 0 p m e w hr hp hm he
  | succ n ih =>
    intro p m e w hr hp hm hc
    by_cases he : e = 0
    · subst he
      obtain ⟨h31, hn⟩ := hc rfl
      by_cases h45 : (sb S)[p]? = some 45
      · exact Rtree_leaf S hS g n p m w hr hp h31 h45
      · by_cases h40 : (sb S)[p]? = some 40 ∧ m = 31
        · obtain ⟨h4, rfl⟩ := h40
          exact Rtree_long S hS g n p w hr hp h4
        · exact Rtree_node S hS g n ih p m w hr hp h31 (by omega) h45 h40
    · exact Rtree_err S g (n + 1) p m e w hr hp hm he
set_option maxRecDepth 100000 in
set_option maxHeartbeats 4000000 in
theorem RParse_tree (S : ByteArray) (w : World) (hS : S.size ≤ 1000000) :
    Calls Tryd.prog 43 #[.string S] w (RetPT w (parseT (sb S))) := by
  have hpt : parseT (sb S) = if 4096 < S.size then ([], 0, 4) else match treeT (sb S) 33 0 0 with
    | .err p e => ([], p, e)
    | .ok p b => if p < S.size then ([], p, 5) else (b.enc 0, 0, 0) := by unfold parseT; rw [sb_len]; rfl
  have HP := Lib.hid hpt
  have HT := Lib.hid (fun W (h : RDX W w.heap.size S 0 0 0) => Rtree_any S hS w.heap.size 33 0 0 0 W h (by omega) (by omega) (fun _ => by omega))
  obtain ⟨R, hR⟩ : ∃ R, R = parseT (sb S) := ⟨_, rfl⟩
  rw [← hR] at HP ⊢
  clear hpt hR
  by_cases hl : 4096 < S.size
  · have HR2 : Hid (R = ([], 0, 4)) := by rw [Hid, HP.out, if_pos hl]
    have hli : (4096 : Int) < S.size := by omega
    clear HP HT
    go_enter Tryd.func43, Tryd.ntmps43
    go_wp2
    go_returns
    rw [HR2.out]
    exact ⟨_, rfl, Below.refl _ _, TO.nil _ _⟩
  · have hp := HP.out
    rw [if_neg hl] at hp
    replace HP := Lib.hid hp
    clear hp
    have hli : (S.size : Int) ≤ 4096 := by omega
    go_enter Tryd.func43, Tryd.ntmps43
    go_wp2_with fail
    (refine (HT.out _ (by exact Row.lit rfl)).mono ?_)
    rintro en w1 ⟨v, f, q, m', e', rfl, hk, hr, hto, hin, hl1, hm1, hq1, hsp⟩
    have HB := Lib.hid (show Below w.heap.size w w1 from ((Below.refl w.heap.size w).alloc (Nat.le_refl _) _).trans (hk.below (by simp) (fun k hk2 => by omega)))
    have HTO := Lib.hid (hto.mono (B' := w.heap.size) (by simp))
    have HSP := Lib.hid (hsp.2 rfl)
    have R1 := Lib.hid hr
    have rc := hr.cell; have rf := hr.free; have rl := hr.lt
    clear hk hr hto hin hl1 hsp HT
    by_cases he : e' = 0
    · subst he
      have hx : ∃ b, treeT (sb S) 33 0 0 = .ok q b ∧ f = b.enc 0 := by
        have h := HSP.out
        cases ht : treeT (sb S) 33 0 0 with
        | ok q0 b => rw [ht] at h; obtain ⟨rfl, h2, _, _⟩ := h; exact ⟨b, rfl, h2⟩
        | err q0 k => rw [ht] at h; obtain ⟨_, h2, h3⟩ := h; exact absurd h2.symm h3
      obtain ⟨b, hx, hfb⟩ := hx
      have hp := HP.out
      rw [hx] at hp
      simp only at hp
      replace HP := Lib.hid hp
      have HFB := Lib.hid hfb
      clear hp hx hfb HSP
      by_cases hq : q < S.size
      · have HR2 : Hid (R = ([], q, 5)) := by rw [Hid, HP.out, if_pos hq]
        have hqi : (q : Int) < S.size := by omega
        clear HP hq
        go_wp2_with fail
        go_quiet (fail)
        go_wp2_with fail
        go_returns
        rw [HR2.out]
        refine ⟨_, rfl, ?_, TO.nil _ _⟩
        have h := HB.out.setCell (p := ⟨w.heap.size, 3, none⟩) (Nat.le_refl _) (.int .i64 5)
        exact ⟨h.os, h.tape, h.output, h.size, h.block⟩
      · have HR2 : Hid (R = (b.enc 0, 0, 0)) := by rw [Hid, HP.out, if_neg hq]
        have hqi : (S.size : Int) ≤ q := by omega
        clear HP hq
        go_wp2_with fail
        go_returns
        rw [HR2.out, ← HFB.out]
        exact ⟨v, rfl, HB.out, HTO.out⟩
    · have hx : treeT (sb S) 33 0 0 = .err q e' := by
        have h := HSP.out
        cases ht : treeT (sb S) 33 0 0 with
        | ok q0 b => rw [ht] at h; exact absurd h.2.2.2 he
        | err q0 k => rw [ht] at h; obtain ⟨rfl, rfl, _⟩ := h; rfl
      have hp := HP.out
      rw [hx] at hp
      have HR2 : Hid (R = ([], q, e')) := hp
      have h1 : (e' == 0) = false := by simp [he]
      have h2 : (e' != 0) = true := by simp [he]
      clear HP hp hx HSP
      go_wp2_with fail
      go_quiet (fail)
      go_wp2_with fail
      go_returns
      rw [HR2.out]
      exact ⟨_, rfl, ⟨HB.out.os, HB.out.tape, HB.out.output, HB.out.size, HB.out.block⟩, TO.nil _ _⟩
end Go.Proofs.YtahimlnddelnbaaDoor
