/- Contracts of the reference's reader: formula; Parse. -/
import Derived.Test.YtbggpiednddheaaDoorRdrE
import Derived.Test.YtbggpiednddheaaDoorPrsF
set_option linter.unusedSimpArgs false
set_option linter.unusedVariables false
namespace Go.Proofs.YtbggpiednddheaaDoor
open Go.RowKit

set_option maxRecDepth 100000 in
set_option maxHeartbeats 1000000 in
theorem rform_e1 (S : ByteArray) (B g n p many : Nat) (e : Int) (L : List Mk) (lv : Value) (w : World) (hr : Row w g 96 #[.string S, .int .i64 p, lv, .int .i64 many, .int .i64 e]) (ho : MO w B lv L) (he : e ≠ 0) :
    Calls Tryd.prog 74 #[.pointer (some ⟨g, 0, none⟩)] w (RPost S B g lv (formF (bts S) n ⟨p, L, many, e⟩) (.tuple #[]) w) := by
  obtain ⟨x, hx⟩ : ∃ x, x = formF (bts S) n ⟨p, L, many, e⟩ := ⟨_, rfl⟩
  have hx2 : x = ⟨p, L, many, e⟩ := by rw [hx, formF_err _ _ _ (by exact he)]
  rw [← hx]
  clear hx
  have hap := ho.apart hr (by decide)
  have hne : (e != 0) = true := by simp [he]
  have rc := hr.cell; have rf := hr.free; have rl := hr.lt
  have HR := Lib.hid hr; have HO := Lib.hid ho; have HAP := Lib.hid hap; have HX := Lib.hid hx2
  clear hr ho hap hx2 he
  go_enter Tryd.func74, Tryd.ntmps74
  go_wp2
  go_returns
  exact RPost.same HX.out rfl (Keep.refl _ _) HR.out HO.out HAP.out
set_option maxRecDepth 100000 in
set_option maxHeartbeats 1000000 in
theorem rform_e2 (S : ByteArray) (B g n p many : Nat) (L : List Mk) (lv : Value) (w : World) (hr : Row w g 96 #[.string S, .int .i64 p, lv, .int .i64 many, .int .i64 0]) (ho : MO w B lv L) (hp : S.size ≤ p) :
    Calls Tryd.prog 74 #[.pointer (some ⟨g, 0, none⟩)] w (RPost S B g lv (formF (bts S) (n + 1) ⟨p, L, many, 0⟩) (.tuple #[]) w) := by
  obtain ⟨x, hx⟩ : ∃ x, x = formF (bts S) (n + 1) ⟨p, L, many, 0⟩ := ⟨_, rfl⟩
  have hx2 : x = ⟨p, L, many, 3⟩ := by
    rw [hx, formF, if_neg (by simp)]
    dsimp only
    rw [bts_none S p hp]
  rw [← hx]
  clear hx
  have hap := ho.apart hr (by decide)
  have hge : decide ((S.size : Int) ≤ p) = true := by simp; omega
  have rc := hr.cell; have rf := hr.free; have rl := hr.lt
  have HR := Lib.hid hr; have HO := Lib.hid ho; have HAP := Lib.hid hap; have HX := Lib.hid hx2
  clear hr ho hap hx2
  go_enter Tryd.func74, Tryd.ntmps74
  go_wp2_with fail
  go_quiet (fail)
  go_wp2_with fail
  go_returns
  exact RPost.same HX.out rfl (Keep.set (S := (· = g)) (drewN_keep _ w _) (p := ⟨g, 4, none⟩) (.inl rfl) _) (by have h := HR.out.set 4 (.int .i64 3); exact h) HO.out HAP.out
set_option maxRecDepth 100000 in
set_option maxHeartbeats 1000000 in
theorem rform_e3 (S : ByteArray) (B g n p many : Nat) (L : List Mk) (lv : Value) (w : World) (hr : Row w g 96 #[.string S, .int .i64 p, lv, .int .i64 many, .int .i64 0]) (ho : MO w B lv L) (hS : S.size ≤ 1000000) (hp : p < S.size) (hc : ¬ (S[p] = 40 ∨ low S[p] = true)) :
    Calls Tryd.prog 74 #[.pointer (some ⟨g, 0, none⟩)] w (RPost S B g lv (formF (bts S) (n + 1) ⟨p, L, many, 0⟩) (.tuple #[]) w) := by
  obtain ⟨x, hx⟩ : ∃ x, x = formF (bts S) (n + 1) ⟨p, L, many, 0⟩ := ⟨_, rfl⟩
  have hx2 : x = ⟨p, L, many, 2⟩ := by
    rw [hx, formF, if_neg (by simp)]
    dsimp only
    rw [bts_get S p hp]
    dsimp only
    rw [if_neg hc]
  rw [← hx]
  clear hx
  have hap := ho.apart hr (by decide)
  have hge : decide ((S.size : Int) ≤ p) = false := by simp; omega
  have hq40 : ((S[p].toNat : Int) == 40) = false := by rw [beq_eq_false_iff_ne]; intro h; exact hc (.inl (UInt8.toNat_inj.1 (by show S[p].toNat = 40; omega)))
  have hlo : lowAt (bts S) p = false := by rw [low_at hp, Bool.eq_false_iff]; exact fun h => hc (.inr h)
  have hlw := fun W h => Rlower_any S g p lv (.int .i64 (many : Int)) 0 W h hS
  rw [hlo] at hlw
  have rc := hr.cell; have rf := hr.free; have rl := hr.lt
  have HR := Lib.hid hr; have HO := Lib.hid ho; have HAP := Lib.hid hap; have HX := Lib.hid hx2; have HLW := Lib.hid hlw
  clear hr ho hap hx2 hlo hlw hc
  go_enter Tryd.func74, Tryd.ntmps74
  go_wp2_with fail
  go_quiet (fail)
  go_wp2_with fail
  go_quiet (fail)
  go_wp2_with (go_at_call 98; refine (HLW.out _ (by exact HR.out)).mono ?_; rintro e w1 ⟨rfl, n1, rfl⟩)
  go_returns
  exact RPost.same HX.out rfl (Keep.set (S := (· = g)) (drewN_keep _ w _) (p := ⟨g, 4, none⟩) (.inl rfl) _) (by have h := HR.out.set 4 (.int .i64 2); exact h) HO.out HAP.out
set_option maxRecDepth 100000 in
set_option maxHeartbeats 1000000 in
theorem rform_e4 (S : ByteArray) (B g n p : Nat) (L : List Mk) (lv : Value) (w : World) (hr : Row w g 96 #[.string S, .int .i64 p, lv, .int .i64 (64 : Nat), .int .i64 0]) (ho : MO w B lv L) (hS : S.size ≤ 1000000) (hp : p < S.size) (hc : S[p] = 40 ∨ low S[p] = true) :
    Calls Tryd.prog 74 #[.pointer (some ⟨g, 0, none⟩)] w (RPost S B g lv (formF (bts S) (n + 1) ⟨p, L, 64, 0⟩) (.tuple #[]) w) := by
  obtain ⟨x, hx⟩ : ∃ x, x = formF (bts S) (n + 1) ⟨p, L, 64, 0⟩ := ⟨_, rfl⟩
  have hx2 : x = ⟨p, L, 65, 4⟩ := by
    rw [hx, formF, if_neg (by simp)]
    dsimp only
    rw [bts_get S p hp]
    dsimp only
    rw [if_pos hc, if_pos rfl]
  rw [← hx]
  clear hx
  have hap := ho.apart hr (by decide)
  have hge : decide ((S.size : Int) ≤ p) = false := by simp; omega
  have rc := hr.cell; have rf := hr.free; have rl := hr.lt
  have HR := Lib.hid hr; have HO := Lib.hid ho; have HAP := Lib.hid hap; have HX := Lib.hid hx2
  clear hr ho hap hx2
  by_cases h40 : S[p] = 40
  · have hq40 : ((S[p].toNat : Int) == 40) = true := by rw [h40]; rfl
    clear hc h40
    go_enter Tryd.func74, Tryd.ntmps74
    go_wp2_with fail
    go_quiet (fail)
    go_wp2_with fail
    go_quiet (fail)
    go_wp2_with fail
    go_returns
    exact RPost.same HX.out rfl (Keep.set (S := (· = g)) (Keep.set (S := (· = g)) (drewN_keep _ w _) (p := ⟨g, 3, none⟩) (.inl rfl) _) (p := ⟨g, 4, none⟩) (.inl rfl) _) (by have h := (HR.out.set 3 (.int .i64 (65 : Nat))).set 4 (.int .i64 4); exact h) HO.out HAP.out
  · have hq40 : ((S[p].toNat : Int) == 40) = false := by rw [beq_eq_false_iff_ne]; intro h; exact h40 (UInt8.toNat_inj.1 (by show S[p].toNat = 40; omega))
    have hlo : lowAt (bts S) p = true := by rw [low_at hp]; exact hc.resolve_left h40
    have hlw := fun W h => Rlower_any S g p lv (.int .i64 ((64 : Nat) : Int)) 0 W h hS
    rw [hlo] at hlw
    have HLW := Lib.hid hlw
    clear hlo hlw hc h40
    go_enter Tryd.func74, Tryd.ntmps74
    go_wp2_with fail
    go_quiet (fail)
    go_wp2_with fail
    go_quiet (fail)
    go_wp2_with (go_at_call 98; refine (HLW.out _ (by exact HR.out)).mono ?_; rintro e w1 ⟨rfl, n1, rfl⟩)
    go_returns
    exact RPost.same HX.out rfl (Keep.set (S := (· = g)) (Keep.set (S := (· = g)) (drewN_keep _ w _) (p := ⟨g, 3, none⟩) (.inl rfl) _) (p := ⟨g, 4, none⟩) (.inl rfl) _) (by have h := (HR.out.set 3 (.int .i64 (65 : Nat))).set 4 (.int .i64 4); exact h) HO.out HAP.out
set_option maxRecDepth 100000 in
set_option maxHeartbeats 1000000 in
theorem rform_e5 (S : ByteArray) (B g n p many q : Nat) (k : Int) (L : List Mk) (lv : Value) (w : World) (hr : Row w g 96 #[.string S, .int .i64 p, lv, .int .i64 many, .int .i64 0]) (ho : MO w B lv L) (hS : S.size ≤ 1000000) (hp : p < S.size) (hc : S[p] = 40 ∨ low S[p] = true) (hm : many < 64)
    (hk : k ≠ 0) (hname : nameP (bts S) (decide (S[p] = 40)) (if S[p] = 40 then p + 1 else p) = .err q k) :
    Calls Tryd.prog 74 #[.pointer (some ⟨g, 0, none⟩)] w (RPost S B g lv (formF (bts S) (n + 1) ⟨p, L, many, 0⟩) (.tuple #[]) w) := by
  obtain ⟨x, hx⟩ : ∃ x, x = formF (bts S) (n + 1) ⟨p, L, many, 0⟩ := ⟨_, rfl⟩
  have hx2 : x = ⟨q, L, many + 1, k⟩ := by
    rw [hx, formF, if_neg (by simp)]
    dsimp only
    rw [bts_get S p hp]
    dsimp only
    rw [if_pos hc, if_neg (by omega), hname]
  rw [← hx]
  clear hx
  have hap := ho.apart hr (by decide)
  have hge : decide ((S.size : Int) ≤ p) = false := by simp; omega
  have h64 : decide ((64 : Int) < (many : Int) + 1) = false := by simp; omega
  have hkk : (k != 0) = true := by simp [hk]
  have rc := hr.cell; have rf := hr.free; have rl := hr.lt
  have HR := Lib.hid hr; have HO := Lib.hid ho; have HAP := Lib.hid hap; have HX := Lib.hid hx2
  clear hr ho hap hx2 hk
  by_cases h40 : S[p] = 40
  · have hq40 : ((S[p].toNat : Int) == 40) = true := by rw [h40]; rfl
    rw [if_pos h40, decide_eq_true h40] at hname
    have hnm := fun W h => Rname_any S g (p + 1) lv (.int .i64 ((many + 1 : Nat) : Int)) true W h hS
    rw [hname] at hnm
    simp only [ofPR] at hnm
    have HNM := Lib.hid hnm
    clear hc h40 hname hnm
    go_enter Tryd.func74, Tryd.ntmps74
    go_wp2_with fail
    go_quiet (fail)
    go_wp2_with fail
    go_quiet (fail)
    go_wp2_with (go_at_call 99; refine (HNM.out _ (by have h := (HR.out.set 3 (.int .i64 ((many + 1 : Nat) : Int))).set 1 (.int .i64 ((p + 1 : Nat) : Int)); exact h)).mono ?_; rintro e w2 ⟨rfl, hk2, hr2⟩; have hK2 : Keep (· = g) w w2 := Keep.trans (by exact Keep.set (S := (· = g)) (Keep.set (S := (· = g)) (drewN_keep _ w _) (p := ⟨g, 3, none⟩) (.inl rfl) _) (p := ⟨g, 1, none⟩) (.inl rfl) _) hk2; have HK := Lib.hid hK2; have HR2 := Lib.hid hr2; have rc := hr2.cell; have rf := hr2.free; have rl := hr2.lt; clear hk2 hr2 hK2)
    go_returns
    exact RPost.same HX.out rfl (HK.out.trans (Keep.of_below (by go_grown) (Nat.le_refl _))) (HR2.out.alloc _) HO.out HAP.out
  · have hq40 : ((S[p].toNat : Int) == 40) = false := by rw [beq_eq_false_iff_ne]; intro h; exact h40 (UInt8.toNat_inj.1 (by show S[p].toNat = 40; omega))
    have hlo : lowAt (bts S) p = true := by rw [low_at hp]; exact hc.resolve_left h40
    have hlw := fun W h => Rlower_any S g p lv (.int .i64 (many : Int)) 0 W h hS
    rw [hlo] at hlw
    rw [if_neg h40, decide_eq_false h40] at hname
    have hnm := fun W h => Rname_any S g p lv (.int .i64 ((many + 1 : Nat) : Int)) false W h hS
    rw [hname] at hnm
    simp only [ofPR] at hnm
    have HNM := Lib.hid hnm
    have HLW := Lib.hid hlw
    clear hlo hlw hc h40 hname hnm
    go_enter Tryd.func74, Tryd.ntmps74
    go_wp2_with fail
    go_quiet (fail)
    go_wp2_with fail
    go_quiet (fail)
    go_wp2_with (first
      | (go_at_call 98; refine (HLW.out _ (by exact HR.out)).mono ?_; rintro e w1 ⟨rfl, n1, rfl⟩)
      | (go_at_call 99; refine (HNM.out _ (by have h := HR.out.set 3 (.int .i64 ((many + 1 : Nat) : Int)); exact h)).mono ?_; rintro e w2 ⟨rfl, hk2, hr2⟩; have hK2 : Keep (· = g) w w2 := Keep.trans (by exact Keep.set (S := (· = g)) (drewN_keep _ w _) (p := ⟨g, 3, none⟩) (.inl rfl) _) hk2; have HK := Lib.hid hK2; have HR2 := Lib.hid hr2; have rc := hr2.cell; have rf := hr2.free; have rl := hr2.lt; clear hk2 hr2 hK2))
    go_returns
    exact RPost.same HX.out rfl (HK.out.trans (Keep.of_below (by go_grown) (Nat.le_refl _))) (HR2.out.alloc _) HO.out HAP.out

theorem Rformula_any (S : ByteArray) (hS : S.size ≤ 1000000) : ∀ n, RHyp S n := by
  intro n
  induction n with
  | zero =>
    intro B g p many e L lv W hr ho hB hl hm hn
    by_cases he : e = 0
    · have := hn he; omega
    · exact rform_e1 S B g 0 p many e L lv W hr ho he
  | succ n ih =>
    intro B g p many e L lv W hr ho hB hl hm hn
    by_cases he : e = 0
    · subst he
      obtain ⟨h1, h2⟩ := hn rfl
      by_cases hp : p < S.size
      · by_cases hc : S[p] = 40 ∨ low S[p] = true
        · by_cases h64 : many = 64
          · subst h64
            exact rform_e4 S B g n p L lv W hr ho hS hp hc
          · have hp2 : (if S[p] = 40 then p + 1 else p) ≤ (bts S).length := by rw [bts_len]; split <;> omega
            have hg := nameP_good (s := bts S) (decide (S[p] = 40)) hp2
            cases hname : nameP (bts S) (decide (S[p] = 40)) (if S[p] = 40 then p + 1 else p) with
            | err q k => exact rform_e5 S B g n p many q k L lv W hr ho hS hp hc (by omega) (PR.good_err hg hname) hname
            | ok q op =>
              rw [hname] at hg
              obtain ⟨_, _, o1, hin, _⟩ := hg
              have hrg := nm_range o1
              by_cases h40 : S[p] = 40
              · rw [if_pos h40, decide_eq_true h40] at hname
                rw [decide_eq_true h40] at hin
                have hop : op ≠ 1 := by simpa using hin
                rcases nvnc o1 hop with ⟨hv, hcc⟩ | ⟨hv, hcc⟩ | ⟨hv, hcc⟩ | ⟨hv, hcc⟩ | ⟨hv, hcc⟩
                · exact rnode_110 S B g n p q many L lv op W ih hr ho hB hp hS (by omega) (by omega) hl h40 hname (by omega) (by omega) hv hcc
                · exact rnode_120 S B g n p q many L lv op W ih hr ho hB hp hS (by omega) (by omega) hl h40 hname (by omega) (by omega) hv hcc
                · exact rnode_101 S B g n p q many L lv op W ih hr ho hB hp hS (by omega) (by omega) hl h40 hname (by omega) (by omega) hv hcc
                · exact rnode_111 S B g n p q many L lv op W ih hr ho hB hp hS (by omega) (by omega) hl h40 hname (by omega) (by omega) hv hcc
                · exact rnode_102 S B g n p q many L lv op W ih hr ho hB hp hS (by omega) (by omega) hl h40 hname (by omega) (by omega) hv hcc
              · rw [if_neg h40, decide_eq_false h40] at hname
                rw [decide_eq_false h40] at hin
                have hop : op = 1 := by simpa using hin
                subst hop
                exact rnode_000 S B g n p q many L lv 1 W ih hr ho hB hp hS (by omega) (by omega) hl ⟨h40, hc.resolve_left h40⟩ hname (by omega) (by omega) rfl rfl
        · exact rform_e3 S B g n p many L lv W hr ho hS hp hc
      · exact rform_e2 S B g n p many L lv W hr ho (by omega)
    · exact rform_e1 S B g (n + 1) p many e L lv W hr ho he
end Go.Proofs.YtbggpiednddheaaDoor
