/- Reference of chapter 15: left, right. -/
import Derived.Test.YtahimlnddelnbaaDoorRTa
set_option linter.unusedSimpArgs false
set_option linter.unusedVariables false
namespace Go.Proofs.YtahimlnddelnbaaDoor
open Go.RowKit

theorem rblock_bt {t : List Lf} {v : Value} {c : Bt} {p : Nat} {w : World} (hv : TS w v t) (hl : t.length ≤ 1000) (hk : KidBd t) (h0 : 0 < c.size) (hp : p + c.size ≤ t.length) (hs : Seg t p c) :
    Calls Tryd.prog 81 #[v, .int .i64 p] w (RetTO w (c.enc 0)) := by
  have q := rblock_in t v p (p + c.size) w hv hl (end_at t c p h0 hp hs) hk
  rw [show p + c.size - p = c.size by omega, seg_cut hp hs, shift_enc c p 0 _ (by omega)] at q
  exact q
theorem kid_enc (b : Bt) (h : b.size ≤ 31) : KidBd (b.enc 0) := kid_bd (formed_bt b h)
set_option maxRecDepth 100000 in
set_option maxHeartbeats 2000000 in
theorem rleft_bt (lab : Int) (l r : Bt) (v : Value) (w : World) (hv : TS w v ((Bt.node lab l r).enc 0)) (hs : (Bt.node lab l r).size ≤ 31) :
    Calls Tryd.prog 78 #[v] w (RetTO w (l.enc 0)) := by
  have hseg := Seg.self (Bt.node lab l r)
  have hroot := hseg.root
  have hlen : ((Bt.node lab l r).enc 0).length = (Bt.node lab l r).size := Bt.enc_len _ _
  have hpos : 0 < (Bt.node lab l r).size := by simp only [Bt.size]; omega
  have hsz : l.size + 1 ≤ (Bt.node lab l r).size := by simp only [Bt.size]; omega
  have hk := kid_enc _ hs
  have hleft := hseg.left
  generalize (Bt.node lab l r).enc 0 = t at *
  generalize (Bt.node lab l r).size = z at *
  obtain ⟨b, o, hA⟩ : ∃ b o, ∃ c, v = .slice (some ⟨b, o, none⟩) t.length c := by
    obtain ⟨A, c, rfl⟩ := hv.form
    obtain ⟨b, o, rfl⟩ := hv.addr (by omega)
    exact ⟨b, o, c, rfl⟩
  obtain ⟨c, rfl⟩ := hA
  obtain ⟨c0, c1, c2⟩ := hv.at3 hroot
  simp only [Nat.zero_mul, Nat.add_zero] at c0 c1 c2
  have HB := Lib.hid (fun (h : 0 < l.size) W (h2 : TS W (.slice (some ⟨b, o, none⟩) t.length c) t) => rblock_bt (w := W) (p := 1) h2 (by omega) hk h (by omega) (by have := hleft; rwa [Nat.zero_add] at this))
  have HV := Lib.hid hv
  obtain ⟨n, hn⟩ : ∃ n, n = t.length := ⟨_, rfl⟩
  rw [← hn] at HV HB hlen ⊢
  have hn0 : 0 < n := by omega
  clear hv hroot hseg hk hleft hn
  by_cases h0 : l.size = 0
  · have e : l.at (0 + 1) = -1 := by unfold Bt.at; rw [if_pos h0]
    rw [e] at c1
    have hl := Bt.nil_of_size h0
    subst hl
    clear HB hsz e h0
    go_enter Tryd.func78, Tryd.ntmps78
    go_wp2
    go_returns
    exact ⟨_, rfl, Below.refl _ _, TO.nil _ _⟩
  · have e : l.at (0 + 1) = 1 := by unfold Bt.at; rw [if_neg h0]; rfl
    rw [e] at c1
    have HB2 := Lib.hid (show ∀ W, TS W (.slice (some ⟨b, o, none⟩) n c) t → Calls Tryd.prog 81 #[.slice (some ⟨b, o, none⟩) n c, .int .i64 1] W (RetTO W (l.enc 0)) from HB.out (by omega))
    generalize l.enc 0 = res at *
    clear HB e hlen
    go_enter Tryd.func78, Tryd.ntmps78
    go_wp2_with (go_at_call 81; (with_reducible refine (HB2.out _ HV.out).mono ?_); rintro e w1 ⟨v1, rfl, hb1, ho1⟩)
    go_returns
    exact ⟨v1, rfl, hb1, ho1⟩
set_option maxRecDepth 100000 in
set_option maxHeartbeats 2000000 in
theorem rright_bt (lab : Int) (l r : Bt) (v : Value) (w : World) (hv : TS w v ((Bt.node lab l r).enc 0)) (hs : (Bt.node lab l r).size ≤ 31) :
    Calls Tryd.prog 79 #[v] w (RetTO w (r.enc 0)) := by
  have hseg := Seg.self (Bt.node lab l r)
  have hroot := hseg.root
  have hlen : ((Bt.node lab l r).enc 0).length = (Bt.node lab l r).size := Bt.enc_len _ _
  have hpos : 0 < (Bt.node lab l r).size := by simp only [Bt.size]; omega
  have hsz : 1 + l.size + r.size ≤ (Bt.node lab l r).size := by simp only [Bt.size]; omega
  have hk := kid_enc _ hs
  have hright := hseg.right
  generalize (Bt.node lab l r).enc 0 = t at *
  generalize (Bt.node lab l r).size = z at *
  obtain ⟨b, o, hA⟩ : ∃ b o, ∃ c, v = .slice (some ⟨b, o, none⟩) t.length c := by
    obtain ⟨A, c, rfl⟩ := hv.form
    obtain ⟨b, o, rfl⟩ := hv.addr (by omega)
    exact ⟨b, o, c, rfl⟩
  obtain ⟨c, rfl⟩ := hA
  obtain ⟨c0, c1, c2⟩ := hv.at3 hroot
  simp only [Nat.zero_mul, Nat.add_zero] at c0 c1 c2
  rw [Nat.zero_add] at hright c2
  have HB := Lib.hid (fun (h : 0 < r.size) W (h2 : TS W (.slice (some ⟨b, o, none⟩) t.length c) t) => rblock_bt (w := W) (p := 1 + l.size) h2 (by omega) hk h (by omega) hright)
  have HV := Lib.hid hv
  obtain ⟨n, hn⟩ : ∃ n, n = t.length := ⟨_, rfl⟩
  rw [← hn] at HV HB hlen ⊢
  have hn0 : 0 < n := by omega
  clear hv hroot hseg hk hright hn
  by_cases h0 : r.size = 0
  · have e : r.at (1 + l.size) = -1 := by unfold Bt.at; rw [if_pos h0]
    rw [e] at c2
    have hl := Bt.nil_of_size h0
    subst hl
    clear HB hsz e h0
    go_enter Tryd.func79, Tryd.ntmps79
    go_wp2
    go_returns
    exact ⟨_, rfl, Below.refl _ _, TO.nil _ _⟩
  · have e : r.at (1 + l.size) = ((1 + l.size : Nat) : Int) := by unfold Bt.at; rw [if_neg h0]
    rw [e] at c2
    obtain ⟨q, hq⟩ : ∃ q, q = 1 + l.size := ⟨_, rfl⟩
    rw [← hq] at c2 HB
    have q1 : ((q : Int) == -1) = false := by rw [beq_eq_false_iff_ne]; omega
    have HB2 := Lib.hid (HB.out (by omega))
    generalize r.enc 0 = res at *
    clear HB e hq hlen
    go_enter Tryd.func79, Tryd.ntmps79
    go_wp2_with (go_at_call 81; (with_reducible refine (HB2.out _ HV.out).mono ?_); rintro e w1 ⟨v1, rfl, hb1, ho1⟩)
    go_returns
    exact ⟨v1, rfl, hb1, ho1⟩

end Go.Proofs.YtahimlnddelnbaaDoor
