/- Reference of chapter 15: the reader's tree, and Parse. -/
import Derived.Test.YtahimlnddelnbaaDoorRTe
set_option linter.unusedSimpArgs false
set_option linter.unusedVariables false
namespace Go.Proofs.YtahimlnddelnbaaDoor
open Go.RowKit

theorem nextT_ne {s : List UInt8} {c : UInt8} {p q : Nat} {k : Int} (h : nextT s c p = .err q k) : k ≠ 0 := by
  unfold nextT at h
  split at h
  · cases h; omega
  · split at h
    · cases h
    · cases h; omega
theorem labT_ne {s : List UInt8} {p q : Nat} {k : Int} (h : labT s p = .err q k) : k ≠ 0 := by
  unfold labT at h
  split at h
  · cases h; omega
  · split at h
    · cases h; omega
    · split at h
      · cases h
      · split at h
        · cases h; omega
        · cases h
/-- What tree has read: the leaves f, from the state (p, m, e) to (q, m', e'). -/
def SpecT (s : List UInt8) (n p m : Nat) (e : Int) (f : List Lf) (q m' : Nat) (e' : Int) : Prop :=
  (e ≠ 0 → f = [] ∧ q = p ∧ m' = m ∧ e' = e) ∧ (e = 0 → match treeT s n p m with
    | .ok q0 b => q = q0 ∧ f = b.enc 0 ∧ m' = m + b.size ∧ e' = 0
    | .err q0 k => q = q0 ∧ e' = k ∧ k ≠ 0)
theorem SpecT.no {s : List UInt8} {n p m : Nat} {e : Int} {f : List Lf} {q m' : Nat} {e' : Int} (h : SpecT s n p m e f q m' e') (he : e ≠ 0) : f = [] ∧ q = p ∧ m' = m ∧ e' = e := h.1 he
theorem tree_plain {s : List UInt8} {n p m : Nat} {p1 p2 p3 p4 p5 p6 p7 m1 m2 m3 m4 m5 m6 m7 : Nat} {e1 e2 e3 e4 e5 e6 e7 x : Int} {fa fb : List Lf} (h45 : s[p]? ≠ some 45) (h40 : ¬ (s[p]? = some 40 ∧ m = 31))
    (E1 : (p1, m1, e1) = stT (nextT s 40 p) p m 0) (E2 : (p2, m2, e2) = stT (labT s p1) p1 (m1 + 1) e1) (EX : x = lbV (labT s p1) e1) (E3 : (p3, m3, e3) = stT (nextT s 32 p2) p2 m2 e2)
    (E4 : SpecT s n p3 m3 e3 fa p4 m4 e4) (E5 : (p5, m5, e5) = stT (nextT s 32 p4) p4 m4 e4) (E6 : SpecT s n p5 m5 e5 fb p6 m6 e6) (E7 : (p7, m7, e7) = stT (nextT s 41 p6) p6 m6 e6) :
    match treeT s (n + 1) p m with
    | .ok q0 b => p7 = q0 ∧ joinT x fa fb = b.enc 0 ∧ m7 = m + b.size ∧ e7 = 0
    | .err q0 k => p7 = q0 ∧ e7 = k ∧ k ≠ 0 := by
  have no2 : e2 ≠ 0 → e7 = e2 ∧ p7 = p2 := fun h => by
    rw [stT_err h] at E3
    simp only [Prod.mk.injEq] at E3
    obtain ⟨rfl, rfl, rfl⟩ := E3
    obtain ⟨_, rfl, rfl, rfl⟩ := E4.no h
    rw [stT_err h] at E5
    simp only [Prod.mk.injEq] at E5
    obtain ⟨rfl, rfl, rfl⟩ := E5
    obtain ⟨_, rfl, rfl, rfl⟩ := E6.no h
    rw [stT_err h] at E7
    simp only [Prod.mk.injEq] at E7
    exact ⟨E7.2.2, E7.1⟩
  have no4 : e4 ≠ 0 → e7 = e4 ∧ p7 = p4 := fun h => by
    rw [stT_err h] at E5
    simp only [Prod.mk.injEq] at E5
    obtain ⟨rfl, rfl, rfl⟩ := E5
    obtain ⟨_, rfl, rfl, rfl⟩ := E6.no h
    rw [stT_err h] at E7
    simp only [Prod.mk.injEq] at E7
    exact ⟨E7.2.2, E7.1⟩
  rw [treeT, if_neg h45, if_neg h40]
  rw [stT_zero] at E1
  cases h1 : nextT s 40 p with
  | err q k =>
    rw [h1] at E1
    simp only [Prod.mk.injEq] at E1
    obtain ⟨rfl, rfl, rfl⟩ := E1
    have hk := nextT_ne h1
    rw [stT_err hk] at E2
    simp only [Prod.mk.injEq] at E2
    obtain ⟨rfl, rfl, rfl⟩ := E2
    obtain ⟨a, b⟩ := no2 hk
    exact ⟨b, a, hk⟩
  | ok q u =>
    rw [h1] at E1
    simp only [Prod.mk.injEq] at E1
    obtain ⟨rfl, rfl, rfl⟩ := E1
    rw [TR.bind_ok]
    rw [stT_zero] at E2
    rw [lbV_zero] at EX
    cases h2 : labT s p1 with
    | err q k =>
      rw [h2] at E2
      simp only [Prod.mk.injEq] at E2
      obtain ⟨rfl, rfl, rfl⟩ := E2
      have hk := labT_ne h2
      obtain ⟨a, b⟩ := no2 hk
      exact ⟨b, a, hk⟩
    | ok q lab =>
      rw [h2] at E2 EX
      simp only [Prod.mk.injEq] at E2
      obtain ⟨rfl, rfl, rfl⟩ := E2
      simp only at EX
      subst EX
      rw [TR.bind_ok]
      rw [stT_zero] at E3
      cases h3 : nextT s 32 p2 with
      | err q k =>
        rw [h3] at E3
        simp only [Prod.mk.injEq] at E3
        obtain ⟨rfl, rfl, rfl⟩ := E3
        have hk := nextT_ne h3
        obtain ⟨_, rfl, rfl, rfl⟩ := E4.no hk
        obtain ⟨a, b⟩ := no4 hk
        exact ⟨b, a, hk⟩
      | ok q u =>
        rw [h3] at E3
        simp only [Prod.mk.injEq] at E3
        obtain ⟨rfl, rfl, rfl⟩ := E3
        rw [TR.bind_ok]
        have g4 := E4.2 rfl
        cases h4 : treeT s n p3 (m1 + 1) with
        | err q k =>
          rw [h4] at g4
          obtain ⟨rfl, rfl, hk⟩ := g4
          obtain ⟨a, b⟩ := no4 hk
          exact ⟨b, a, hk⟩
        | ok q l =>
          rw [h4] at g4
          obtain ⟨rfl, rfl, rfl, rfl⟩ := g4
          rw [TR.bind_ok]
          rw [stT_zero] at E5
          cases h5 : nextT s 32 p4 with
          | err q k =>
            rw [h5] at E5
            simp only [Prod.mk.injEq] at E5
            obtain ⟨rfl, rfl, rfl⟩ := E5
            have hk := nextT_ne h5
            obtain ⟨_, rfl, rfl, rfl⟩ := E6.no hk
            rw [stT_err hk] at E7
            simp only [Prod.mk.injEq] at E7
            exact ⟨E7.1, E7.2.2, hk⟩
          | ok q u =>
            rw [h5] at E5
            simp only [Prod.mk.injEq] at E5
            obtain ⟨rfl, rfl, rfl⟩ := E5
            rw [TR.bind_ok]
            have g6 := E6.2 rfl
            cases h6 : treeT s n p5 (m1 + 1 + l.size) with
            | err q k =>
              rw [h6] at g6
              obtain ⟨rfl, rfl, hk⟩ := g6
              rw [stT_err hk] at E7
              simp only [Prod.mk.injEq] at E7
              exact ⟨E7.1, E7.2.2, hk⟩
            | ok q r =>
              rw [h6] at g6
              obtain ⟨rfl, rfl, rfl, rfl⟩ := g6
              rw [TR.bind_ok]
              rw [stT_zero] at E7
              cases h7 : nextT s 41 p6 with
              | err q k =>
                rw [h7] at E7
                simp only [Prod.mk.injEq] at E7
                exact ⟨E7.1, E7.2.2, nextT_ne h7⟩
              | ok q u =>
                rw [h7] at E7
                simp only [Prod.mk.injEq] at E7
                obtain ⟨rfl, rfl, rfl⟩ := E7
                rw [TR.bind_ok]
                exact ⟨rfl, joinT_enc _ l r, by simp only [Bt.size]; omega, rfl⟩
/-- The places and counts of the steps of tree. -/
theorem stT_next {s : List UInt8} {c : UInt8} {p m q m' : Nat} {e e' : Int} (h : (q, m', e') = stT (nextT s c p) p m e) (hp : p ≤ s.length) : q ≤ s.length ∧ m' = m ∧ (e' = 0 → e = 0 ∧ s[p]? = some c) := by
  by_cases he : e = 0
  · subst he
    rw [stT_zero] at h
    cases hx : nextT s c p with
    | ok q0 u =>
      rw [hx] at h
      simp only [Prod.mk.injEq] at h
      obtain ⟨rfl, hs⟩ := nextT_inv hx
      obtain ⟨rfl, rfl, rfl⟩ := h
      exact ⟨(List.getElem?_eq_some_iff.1 hs).1, rfl, fun _ => ⟨rfl, hs⟩⟩
    | err q0 k =>
      rw [hx] at h
      simp only [Prod.mk.injEq] at h
      obtain ⟨rfl, rfl, rfl⟩ := h
      have := nextT_err hp hx
      exact ⟨this.1, rfl, fun h0 => absurd h0 this.2.2⟩
  · rw [stT_err he] at h
    simp only [Prod.mk.injEq] at h
    obtain ⟨rfl, rfl, rfl⟩ := h
    exact ⟨hp, rfl, fun h0 => absurd h0 he⟩
theorem stT_lab {s : List UInt8} {p m q m' : Nat} {e e' : Int} (h : (q, m', e') = stT (labT s p) p m e) (hp : p ≤ s.length) : q ≤ s.length ∧ m' = m ∧ (e' = 0 → e = 0) ∧ 0 ≤ lbV (labT s p) e ∧ lbV (labT s p) e ≤ 7 := by
  by_cases he : e = 0
  · subst he
    rw [stT_zero] at h
    rw [lbV_zero]
    cases hx : labT s p with
    | ok q0 u =>
      rw [hx] at h
      simp only [Prod.mk.injEq] at h
      obtain ⟨rfl, h0, h7, hs⟩ := labT_inv hx
      obtain ⟨rfl, rfl, rfl⟩ := h
      exact ⟨(List.getElem?_eq_some_iff.1 hs).1, rfl, fun _ => rfl, h0, h7⟩
    | err q0 k =>
      rw [hx] at h
      simp only [Prod.mk.injEq] at h
      obtain ⟨rfl, rfl, rfl⟩ := h
      have := labT_err hp hx
      exact ⟨this.1, rfl, fun _ => rfl, Int.le_refl 0, (by omega : (0 : Int) ≤ 7)⟩
  · rw [stT_err he] at h
    rw [lbV_err he]
    simp only [Prod.mk.injEq] at h
    obtain ⟨rfl, rfl, rfl⟩ := h
    exact ⟨hp, rfl, fun h0 => absurd h0 he, by omega, by omega⟩
/-- The children of a list of leaves lie in it. -/
def KidIn (f : List Lf) : Prop := ∀ x ∈ f, (-1 ≤ x.left ∧ x.left ≤ f.length) ∧ (-1 ≤ x.right ∧ x.right ≤ f.length)
theorem KidIn.nil : KidIn [] := fun x hx => by cases hx
theorem KidIn.bd {f : List Lf} (h : KidIn f) (hl : f.length ≤ 1000) : KidBd f := fun x hx => by
  obtain ⟨⟨a, b⟩, c, d⟩ := h x hx
  exact ⟨⟨a, by omega⟩, c, by omega⟩
theorem KidIn.join {lab : Int} {a b : List Lf} (ha : KidIn a) (hb : KidIn b) : KidIn (joinT lab a b) := by
  intro x hx
  rw [joinT_len]
  unfold joinT at hx
  rcases List.mem_cons.1 hx with rfl | hx
  · simp only
    refine ⟨?_, ?_⟩
    · split <;> omega
    · split <;> omega
  · rcases List.mem_append.1 hx with hx | hx
    · obtain ⟨y, hy, rfl⟩ := List.mem_map.1 hx
      obtain ⟨⟨h1, h2⟩, h3, h4⟩ := ha y hy
      refine ⟨?_, ?_⟩ <;> (simp only [shL, mvd]; split <;> omega)
    · obtain ⟨y, hy, rfl⟩ := List.mem_map.1 hx
      obtain ⟨⟨h1, h2⟩, h3, h4⟩ := hb y hy
      refine ⟨?_, ?_⟩ <;> (simp only [shL, mvd]; split <;> omega)

theorem kidIn_enc (b : Bt) (h : b.size ≤ 31) : KidIn (b.enc 0) := fun x hx => by
  obtain ⟨i, hi⟩ := List.mem_iff_getElem?.1 hx
  obtain ⟨h1, h2⟩ := kids_ok (formed_bt b h) i x hi
  constructor
  · rcases h1 with h1 | h1 <;> omega
  · rcases h2 with h2 | h2 <;> omega
/-- What tree hands back and leaves. -/
def RTP (S : ByteArray) (g n p m : Nat) (e : Int) (w : World) (en : Ending) (w' : World) : Prop :=
  ∃ v f q m' e', en = .returned v ∧ Keep (· = g) w w' ∧ RDX w' g S q m' e' ∧ TO w' w.heap.size v f ∧ KidIn f ∧ f.length + m ≤ m' ∧ m' ≤ 32 ∧ q ≤ S.size ∧ SpecT (sb S) n p m e f q m' e'
theorem rtp_err {S : ByteArray} {g n p m : Nat} {e : Int} {w : World} (he : e ≠ 0) (hm : m ≤ 32) (hp : p ≤ S.size) (hr : RDX w g S p m e) : RTP S g n p m e w (.returned (.slice none 0 0)) w :=
  ⟨_, [], p, m, e, rfl, Keep.refl _ _, hr, TO.nil _ _, KidIn.nil, by simp, hm, hp, fun _ => ⟨rfl, rfl, rfl, rfl⟩, fun h => absurd h he⟩
set_option maxRecDepth 100000 in
set_option maxHeartbeats 2000000 in
theorem Rtree_err (S : ByteArray) (g n p m : Nat) (e : Int) (w : World) (hr : RDX w g S p m e) (hp : p ≤ S.size) (hm : m ≤ 32) (he : e ≠ 0) :
    Calls Tryd.prog 101 #[.pointer (some ⟨g, 0, none⟩)] w (RTP S g n p m e w) := by
  have rc := hr.cell
  have hne : (e != 0) = true := by simp [he]
  have H := Lib.hid (rtp_err (n := n) he hm hp hr)
  clear hr he
  go_enter Tryd.func101, Tryd.ntmps101
  go_wp2
  go_returns
  exact H.out
theorem TO.keep {w w' : World} {S : Nat → Prop} {B : Nat} {v : Value} {f : List Lf} (h : TO w B v f) (hk : Keep S w w') (hS : ∀ k, S k → k < B) : TO w' B v f := by
  obtain ⟨h0, h1, h⟩ := h
  refine ⟨h0, h1, ?_⟩
  rcases h with h | ⟨g, cap, cur, hv, hBg, hg, r⟩
  · exact .inl h
  · exact .inr ⟨g, cap, cur, hv, hBg, (hk.block g (lt_of_block hg) (fun hs => by have := hS g hs; omega)).trans hg, r⟩
theorem keep_undrew {S : Nat → Prop} {w w1 : World} {n : Nat} (h : Keep S (w.drewN n) w1) : Keep S w w1 := ⟨h.os, h.tape, h.output, h.size, h.block⟩
theorem keep_setg {g : Nat} {w : World} (o : Nat) (v : Value) : Keep (· = g) w (w.setCell ⟨g, o, none⟩ v) := Keep.set (S := (· = g)) (Keep.refl _ _) (p := ⟨g, o, none⟩) (.inl rfl) _
abbrev CByte (S : ByteArray) (g : Nat) (c : UInt8) (k : Int) : Prop := ∀ W p m e, RDX W g S p m e → Calls Tryd.prog 153 #[.pointer (some ⟨g, 0, none⟩), .int .u8 k] W (RSt S g (.tuple #[]) (stT (nextT (sb S) c p) p m e) W)
abbrev RTC (S : ByteArray) (g n : Nat) : Prop := ∀ (p m : Nat) (e : Int) (w : World), RDX w g S p m e → p ≤ S.size → m ≤ 32 → (e = 0 → m ≤ 31 ∧ 33 ≤ n + m) →
  Calls Tryd.prog 101 #[.pointer (some ⟨g, 0, none⟩)] w (RTP S g n p m e w)
set_option maxRecDepth 100000 in
set_option maxHeartbeats 8000000 in
theorem Rtree_node (S : ByteArray) (hS : S.size ≤ 1000000) (g n : Nat) (ih : RTC S g n) (p m : Nat) (w : World) (hr : RDX w g S p m 0) (hp : p ≤ S.size) (hm : m ≤ 31) (hn : 33 ≤ n + 1 + m)
    (h45 : (sb S)[p]? ≠ some 45) (h40 : ¬ ((sb S)[p]? = some 40 ∧ m = 31)) :
    Calls Tryd.prog 101 #[.pointer (some ⟨g, 0, none⟩)] w (RTP S g (n + 1) p m 0 w) := by
  have rc := hr.cell
  have rf := hr.free
  have hgl := hr.lt
  have HR := Lib.hid hr
  have HB40 := Lib.hid (show CByte S g 40 40 from fun W p m e h => Rbyte_any S g p m e 40 W h hS)
  have HB32 := Lib.hid (show CByte S g 32 32 from fun W p m e h => Rbyte_any S g p m e 32 W h hS)
  have HB41 := Lib.hid (show CByte S g 41 41 from fun W p m e h => Rbyte_any S g p m e 41 W h hS)
  have HLB := Lib.hid (fun W p m e (h : RDX W g S p m e) (hp : p ≤ S.size) => Rlabel_any S g p m e W h hS hp)
  have HIH := Lib.hid ih
  have HJN := Lib.hid (fun W (lab : Int) (a b : List Lf) va vb (h1 : TS W va a) (h2 : TS W vb b) (h0 : 0 ≤ lab) (h7 : lab ≤ 7) (la : a.length ≤ 32) (lb : b.length ≤ 32) (ka : KidIn a) (kb : KidIn b) =>
    rjoin_any lab a b va vb W h1 h2 h0 (by omega) (by omega) (by omega) (ka.bd (by omega)) (kb.bd (by omega)))
  have H45 := Lib.hid h45; have H40 := Lib.hid h40
  have hcase : (¬ p < S.size ∧ decide ((p : Int) < S.size) = false) ∨ (∃ h : p < S.size, decide ((p : Int) < S.size) = true ∧ ((S[p].toNat : Int) == 45) = false ∧ (((S[p].toNat : Int) == 40) = false ∨ (((S[p].toNat : Int) == 40) = true ∧ ((m : Int) == 31) = false))) := by
    by_cases hlt : p < S.size
    · refine .inr ⟨hlt, decide_eq_true (by omega), ?_, ?_⟩
      · rw [beq_eq_false_iff_ne]
        intro h
        exact h45 (by rw [sb_get S p hlt]; congr 1; exact UInt8.toNat_inj.1 (by have : (45 : UInt8).toNat = 45 := rfl; omega))
      · by_cases h4 : ((S[p].toNat : Int) == 40) = true
        · refine .inr ⟨h4, ?_⟩
          rw [beq_eq_false_iff_ne]
          intro hm31
          refine h40 ⟨?_, by omega⟩
          rw [sb_get S p hlt]; congr 1
          have := eq_of_beq h4
          exact UInt8.toNat_inj.1 (by have : (40 : UInt8).toNat = 40 := rfl; omega)
        · exact .inl (by simpa using h4)
    · exact .inl ⟨hlt, decide_eq_false (by omega)⟩
  clear hr ih h45 h40
  rcases hcase with ⟨hlt, hc⟩ | ⟨hlt, hc, h5, h4 | ⟨h4, h31⟩⟩
  all_goals
    go_enter Tryd.func101, Tryd.ntmps101
    go_wp2_with fail
    go_quiet (fail)
    go_wp2_with fail
    go_quiet (fail)
    go_wp2_with fail
    clear rc rf hc
    (refine (HB40.out _ p m 0 (by exact HR.out)).mono ?_)
    rintro en w1 ⟨rfl, hk, hr⟩
    generalize hE : stT (nextT (sb S) 40 p) p m 0 = a at hr
    obtain ⟨p1, m1, e1⟩ := a
    have E1 := Lib.hid hE.symm
    obtain ⟨hp1, hm1, hz⟩ := stT_next hE.symm (by rw [sb_len]; exact hp)
    rw [sb_len] at hp1
    have HZ1 := Lib.hid hz; have HM1 := Lib.hid hm1
    have hm1' : (m1 : Int) ≤ 31 := by omega
    have HK1 := Lib.hid (keep_undrew hk)
    simp only at hr
    have R1 := Lib.hid hr
    have rc1 := hr.cell; have rf1 := hr.free; have rl1 := hr.lt
    clear hr hk hz hm1 hE
    go_wp2_with fail
    (refine (HLB.out _ p1 (m1 + 1) e1 (by have h := R1.out.set 2 (.int .i64 ((m1 : Int) + 1)); exact h) hp1).mono ?_)
    rintro en w2 ⟨rfl, hk, hr⟩
    generalize hE : stT (labT (sb S) p1) p1 (m1 + 1) e1 = a at hr
    obtain ⟨p2, m2, e2⟩ := a
    have E2 := Lib.hid hE.symm
    obtain ⟨hp2, hm2, hz, hx0, hx7⟩ := stT_lab hE.symm (by rw [sb_len]; exact hp1)
    rw [sb_len] at hp2
    obtain ⟨x, hx⟩ : ∃ x, x = lbV (labT (sb S) p1) e1 := ⟨_, rfl⟩
    rw [← hx] at hx0 hx7 ⊢
    have EX := Lib.hid hx
    have HZ2 := Lib.hid hz; have HM2 := Lib.hid hm2
    have HK2 := Lib.hid ((HK1.out.trans (keep_setg 2 _)).trans hk)
    simp only at hr
    have R2 := Lib.hid hr
    clear hr hk hz hm2 hE hx rc1 rf1 rl1
    go_wp2_with fail
    (refine (HB32.out _ p2 m2 e2 (by exact R2.out)).mono ?_)
    rintro en w3 ⟨rfl, hk, hr⟩
    generalize hE : stT (nextT (sb S) 32 p2) p2 m2 e2 = a at hr
    obtain ⟨p3, m3, e3⟩ := a
    have E3 := Lib.hid hE.symm
    obtain ⟨hp3, hm3, hz⟩ := stT_next hE.symm (by rw [sb_len]; exact hp2)
    rw [sb_len] at hp3
    have hm3m : m3 = m + 1 := by have h1 := HM1.out; have h2 := HM2.out; omega
    have hc3 : e3 = 0 → m3 ≤ 31 ∧ 33 ≤ n + m3 := fun h => by
      have h1 := HZ1.out (HZ2.out (hz h).1)
      have h2 : ¬ m = 31 := fun hm => H40.out ⟨h1.2, hm⟩
      omega
    have HC3 := Lib.hid hc3; have HM3 := Lib.hid hm3m
    have HK3 := Lib.hid (HK2.out.trans hk)
    simp only at hr
    have R3 := Lib.hid hr
    clear hr hk hz hm3 hE hc3
    go_wp2_with fail
    (refine (HIH.out p3 m3 e3 _ (by exact R3.out) hp3 (by omega) HC3.out).mono ?_)
    clear hm3m
    rintro en w4 ⟨va, fa, p4, m4, e4, rfl, hk, hr, hto, hin, hl4, hm4, hp4, hsp⟩
    have E4 := Lib.hid hsp; have HIA := Lib.hid hin; have HL4 := Lib.hid hl4
    have HOA := Lib.hid (hto.mono HK3.out.size)
    have HK4 := Lib.hid (HK3.out.trans hk)
    have R4 := Lib.hid hr
    clear hto hin hl4 hsp hk hr
    go_wp2_with fail
    (refine (HB32.out _ p4 m4 e4 (by exact R4.out)).mono ?_)
    rintro en w5 ⟨rfl, hk, hr⟩
    generalize hE : stT (nextT (sb S) 32 p4) p4 m4 e4 = a at hr
    obtain ⟨p5, m5, e5⟩ := a
    have E5 := Lib.hid hE.symm
    obtain ⟨hp5, hm5, hz⟩ := stT_next hE.symm (by rw [sb_len]; exact hp4)
    rw [sb_len] at hp5
    have hc5 : e5 = 0 → m5 ≤ 31 ∧ 33 ≤ n + m5 := fun h => by
      have h4 := (hz h).1
      have h3 : e3 = 0 := by
        by_cases h3 : e3 = 0
        · exact h3
        · have := (E4.out.no h3).2.2.2; omega
      have hs := E4.out.2 h3
      have hc := HC3.out h3
      cases ht : treeT (sb S) n p3 m3 with
      | err q k => rw [ht] at hs; obtain ⟨_, h6, h7⟩ := hs; exact absurd (h6.symm.trans h4) h7
      | ok q b =>
        rw [ht] at hs
        obtain ⟨_, _, h6, _⟩ := hs
        have := (treeT_inv (sb S) n p3 m3 q b hc.1 ht).2.1
        omega
    have HC5 := Lib.hid hc5
    have HM5 := Lib.hid hm5
    have HOA5 := Lib.hid (HOA.out.keep hk (by rintro k rfl; exact hgl))
    have HK5 := Lib.hid (HK4.out.trans hk)
    simp only at hr
    have R5 := Lib.hid hr
    have hm5' : m5 ≤ 32 := by omega
    clear hr hk hz hm5 hE hc5 HOA
    go_wp2_with fail
    (refine (HIH.out p5 m5 e5 _ (by exact R5.out) hp5 hm5' HC5.out).mono ?_)
    rintro en w6 ⟨vb, fb, p6, m6, e6, rfl, hk, hr, hto, hin, hl6, hm6, hp6, hsp⟩
    have E6 := Lib.hid hsp; have HIB := Lib.hid hin; have HL6 := Lib.hid hl6
    have HOB := Lib.hid (hto.mono HK5.out.size)
    have HOA6 := Lib.hid (HOA5.out.keep hk (by rintro k rfl; exact hgl))
    have HK6 := Lib.hid (HK5.out.trans hk)
    have R6 := Lib.hid hr
    clear hto hin hl6 hsp hk hr HOA5
    go_wp2_with fail
    (refine (HB41.out _ p6 m6 e6 (by exact R6.out)).mono ?_)
    rintro en w7 ⟨rfl, hk, hr⟩
    generalize hE : stT (nextT (sb S) 41 p6) p6 m6 e6 = a at hr
    obtain ⟨p7, m7, e7⟩ := a
    have E7 := Lib.hid hE.symm
    obtain ⟨hp7, hm7, _⟩ := stT_next hE.symm (by rw [sb_len]; exact hp6)
    rw [sb_len] at hp7
    have HM7 := Lib.hid hm7
    have HOA7 := Lib.hid (HOA6.out.keep hk (by rintro k rfl; exact hgl))
    have HOB7 := Lib.hid (HOB.out.keep hk (by rintro k rfl; exact hgl))
    have HK7 := Lib.hid (HK6.out.trans hk)
    simp only at hr
    have R7 := Lib.hid hr
    have hfa : fa.length ≤ 32 := by have := HL4.out; omega
    have hfb : fb.length ≤ 32 := by have := HL6.out; omega
    clear hr hk hm7 hE HOA6 HOB
    go_wp2_with fail
    (refine (HJN.out _ x fa fb va vb HOA7.out.ts HOB7.out.ts hx0 hx7 hfa hfb HIA.out HIB.out).mono ?_)
    rintro en w8 ⟨v8, rfl, hb, ho⟩
    have HO8 := Lib.hid (ho.mono HK7.out.size)
    have HK8 := Lib.hid (HK7.out.trans (Keep.of_below hb (Nat.le_refl _)))
    have R8 := Lib.hid (R7.out.below hb R7.out.lt)
    have HSP := Lib.hid (show SpecT (sb S) (n + 1) p m 0 (joinT x fa fb) p7 m7 e7 from ⟨fun h => absurd rfl h, fun _ => by
      have q := tree_plain H45.out H40.out E1.out E2.out EX.out E3.out E4.out E5.out E6.out E7.out
      revert q
      cases treeT (sb S) (n + 1) p m with
      | ok q0 b => rintro ⟨a, b, c, d⟩; exact ⟨a, b, c, d⟩
      | err q0 k => exact id⟩)
    have HLL := Lib.hid (show (joinT x fa fb).length + m ≤ m7 by rw [joinT_len]; have h1 := HL4.out; have h2 := HL6.out; have h3 := HM3.out; have h5 := HM5.out; have h7 := HM7.out; omega)
    have HM8 := Lib.hid (show m7 ≤ 32 by have h7 := HM7.out; omega)
    clear hb ho
    go_wp2_with fail
    go_returns
    exact ⟨v8, joinT x fa fb, p7, m7, e7, rfl, HK8.out, R8.out, HO8.out, HIA.out.join HIB.out, HLL.out, HM8.out, hp7, HSP.out⟩
end Go.Proofs.YtahimlnddelnbaaDoor
