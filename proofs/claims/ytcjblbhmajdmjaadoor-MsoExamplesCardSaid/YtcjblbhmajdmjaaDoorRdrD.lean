/- The reference's reader: what formula keeps and leaves; child. -/
import Derived.Test.YtcjblbhmajdmjaaDoorRdrC
set_option linter.unusedSimpArgs false
set_option linter.unusedVariables false
namespace Go.Proofs.YtcjblbhmajdmjaaDoor
open Go.RowKit

-- bounds
def RSt.okay (st : RSt) : Prop := st.L.length ≤ st.many ∧ st.many ≤ 65 ∧ (st.e = 0 → st.many ≤ 64)
/-- b came of a: as many nodes as were begun. -/
def RSt.from (a b : RSt) : Prop := a.many ≤ b.many ∧ b.L.length + a.many ≤ a.L.length + b.many ∧ b.many ≤ 65 ∧ (b.e = 0 → b.many ≤ 64)
theorem RSt.from_refl {a : RSt} (h : a.okay) : a.from a := ⟨Nat.le_refl _, Nat.le_refl _, h.2.1, h.2.2⟩
theorem RSt.from_trans {a b c : RSt} (h : a.from b) (k : b.from c) : a.from c := ⟨Nat.le_trans h.1 k.1, by have := h.2.1; have := k.2.1; omega, k.2.2.1, k.2.2.2⟩
theorem RSt.from_okay {a b : RSt} (ha : a.okay) (h : a.from b) : b.okay := ⟨by have := h.2.1; have := ha.1; omega, h.2.2.1, h.2.2.2⟩
theorem pastP_zero {s : List UInt8} {c : UInt8} {a : Nat × Int} (h : (mustF s c a).2 = 0) : a.2 = 0 := by
  by_cases h0 : a.2 = 0
  · exact h0
  · rw [mustF_err h0] at h; exact h
theorem varF_zero {s : List UInt8} {a : Nat × Int} (h : (varF s a).1.2 = 0) : a.2 = 0 := by
  by_cases h0 : a.2 = 0
  · exact h0
  · rw [varF, if_neg h0] at h; exact h
theorem optF_zero {s : List UInt8} {b : Bool} {a : Nat × Int} (h : (optF b s a).1.2 = 0) : a.2 = 0 := by
  cases b
  · exact h
  · exact varF_zero h
theorem child_from {s : List UInt8} {F : RSt → RSt} (hF : ∀ st : RSt, st.okay → st.from (F st)) {st : RSt} (h : st.okay) : st.from (childF F s st) := by
  have h2 : (st.at (mustF s 32 st.pe)).okay := ⟨h.1, h.2.1, fun e => h.2.2 (pastP_zero (a := st.pe) e)⟩
  have h3 := hF _ h2
  exact ⟨h3.1, h3.2.1, h3.2.2.1, h3.2.2.2⟩
theorem node_from {s : List UInt8} {F : RSt → RSt} (hF : ∀ st : RSt, st.okay → st.from (F st)) {inside : Bool} {op : Int} {st : RSt} (h : st.okay) (hl : st.L.length + 1 ≤ st.many) :
    (nodeF F s inside op st).many ≤ 65 ∧ st.many ≤ (nodeF F s inside op st).many ∧ (nodeF F s inside op st).L.length + st.many ≤ st.L.length + 1 + (nodeF F s inside op st).many ∧ ((nodeF F s inside op st).e = 0 → (nodeF F s inside op st).many ≤ 64) := by
  have h1 : (st.at (optF (decide (1 < nv op)) s (optF (decide (0 < nv op)) s st.pe).1).1).okay := ⟨h.1, h.2.1, fun e => h.2.2 (optF_zero (optF_zero e))⟩
  generalize hst1 : st.at (optF (decide (1 < nv op)) s (optF (decide (0 < nv op)) s st.pe).1).1 = st1 at h1
  have e1 : st1.many = st.many := by rw [← hst1]; rfl
  have e2 : st1.L = st.L := by rw [← hst1]; rfl
  have h2 : st1.from (if 0 < nc op then childF F s st1 else st1) := by
    split
    · exact child_from hF h1
    · exact RSt.from_refl h1
  generalize hst2 : (if 0 < nc op then childF F s st1 else st1) = st2 at h2
  have h3 : st2.from (if 1 < nc op then childF F s st2 else st2) := by
    have := RSt.from_okay h1 h2
    split
    · exact child_from hF this
    · exact RSt.from_refl this
  generalize hst3 : (if 1 < nc op then childF F s st2 else st2) = st3 at h3
  have h4 := RSt.from_trans h2 h3
  have hz : (if inside then mustF s 41 st3.pe else st3.pe).2 = 0 → st3.e = 0 := by
    cases inside
    · exact id
    · exact fun e => pastP_zero (a := st3.pe) e
  unfold nodeF
  simp only [hst1, hst2, hst3]
  have a1 := h4.1; have a2 := h4.2.1; have a3 := h4.2.2.1; have a4 := h4.2.2.2
  refine ⟨a3, by omega, ?_, fun e => a4 (hz e)⟩
  rw [List.length_append, List.length_singleton]
  rw [e1, e2] at a2
  omega
theorem formF_from (s : List UInt8) : ∀ n (st : RSt), st.okay → st.from (formF s n st) := by
  intro n
  induction n with
  | zero => exact fun st h => RSt.from_refl h
  | succ n ih =>
    intro st h
    rw [formF]
    split
    · exact RSt.from_refl h
    rename_i he
    have h64 := h.2.2 (by simpa using he)
    split
    · exact ⟨Nat.le_refl _, Nat.le_refl _, h.2.1, fun _ => h64⟩
    rename_i c hc
    split
    case isFalse => exact ⟨Nat.le_refl _, Nat.le_refl _, h.2.1, fun _ => h64⟩
    split
    · rename_i hm
      exact ⟨by simp only; omega, by simp only; omega, by simp only; omega, fun e => by simp at e⟩
    rename_i hm
    split
    · rename_i q k hk
      refine ⟨by simp only; omega, by simp only; omega, by simp only; omega, fun _ => by simp only; omega⟩
    · rename_i q op hk
      have h1 := h.1
      have := node_from (s := s) ih (inside := decide (c = 40)) (op := op) (st := { st with p := q, many := st.many + 1 }) ⟨by simp only; omega, by simp only; omega, fun _ => by simp only; omega⟩ (by simp only; omega)
      simp only at this
      obtain ⟨b1, b2, b3, b4⟩ := this
      exact ⟨by omega, by omega, b1, b4⟩

/-- What formula, child leave. -/
def RPost (S : ByteArray) (B g : Nat) (lv : Value) (st : RSt) (r : Value) (w : World) (en : Ending) (w' : World) : Prop :=
  en = .returned r ∧ ∃ lv', Keep (fun b => b = g ∨ lv.ownBlock = some b) w w' ∧ Row w' g 52 #[.string S, .int .i64 st.p, lv', .int .i64 st.many, .int .i64 st.e] ∧ MO w' B lv' st.L ∧
    (∀ b, lv'.ownBlock = some b → lv.ownBlock = some b ∨ w.heap.size ≤ b)
theorem RPost.same {S : ByteArray} {B g : Nat} {lv : Value} {st st' : RSt} {r : Value} {w w' : World} {en : Ending} (hst : st = st') (he : en = .returned r) (hk : Keep (· = g) w w') (hr : Row w' g 52 #[.string S, .int .i64 st'.p, lv, .int .i64 st'.many, .int .i64 st'.e])
    (ho : MO w B lv st'.L) (hap : ∀ b, lv.ownBlock = some b → b ≠ g) : RPost S B g lv st r w en w' := by
  subst hst
  exact ⟨he, lv, ⟨hk.os, hk.tape, hk.output, hk.size, fun i hi hs => hk.block i hi fun e => hs (.inl e)⟩, hr, ho.keep hk hap, fun b hb => .inl hb⟩
abbrev RHyp (S : ByteArray) (n : Nat) : Prop := ∀ (B g p many : Nat) (e : Int) (L : List Mk) (lv : Value) (W : World), Row W g 52 #[.string S, .int .i64 p, lv, .int .i64 many, .int .i64 e] → MO W B lv L → B ≤ W.heap.size →
  L.length ≤ many → many ≤ 65 → (e = 0 → many ≤ 64 ∧ 65 ≤ n + many) →
  Calls Tryd.prog 26 #[.pointer (some ⟨g, 0, none⟩)] W (RPost S B g lv (formF (bts S) n ⟨p, L, many, e⟩) (.tuple #[]) W)

set_option maxRecDepth 100000 in
set_option maxHeartbeats 1000000 in
theorem Rchild_any (S : ByteArray) (n : Nat) (hih : RHyp S n) (hS : S.size ≤ 1000000) (B g p many : Nat) (e : Int) (L : List Mk) (lv : Value) (w : World) (hr : Row w g 52 #[.string S, .int .i64 p, lv, .int .i64 many, .int .i64 e]) (ho : MO w B lv L) (hB : B ≤ w.heap.size)
    (hl : L.length ≤ many) (hm : many ≤ 65) (hn : e = 0 → many ≤ 64 ∧ 65 ≤ n + many) :
    Calls Tryd.prog 61 #[.pointer (some ⟨g, 0, none⟩)] w
      (RPost S B g lv (childF (formF (bts S) n) (bts S) ⟨p, L, many, e⟩) (.int .i64 (((childF (formF (bts S) n) (bts S) ⟨p, L, many, e⟩).L.length : Int) - 1)) w) := by
  have hap := ho.apart hr (by decide)
  have hmust := fun W h => Rmust_at S g p lv (.int .i64 many) e 32 32 rfl W h hS
  have hlen : (childF (formF (bts S) n) (bts S) ⟨p, L, many, e⟩).L.length ≤ 65 := by
    have h := child_from (s := bts S) (F := formF (bts S) n) (fun st h => formF_from (bts S) n st h) (st := ⟨p, L, many, e⟩) ⟨hl, hm, fun h => (hn h).1⟩
    have h1 := h.2.1; have h2 := h.2.2.1
    simp only at h1
    omega
  unfold childF at hlen ⊢
  simp only [RSt.pe, RSt.at] at hlen ⊢
  obtain ⟨a, ha⟩ : ∃ a, a = mustF (bts S) 32 (p, e) := ⟨_, rfl⟩
  have ha0 : a.2 = 0 → e = 0 := fun h => pastP_zero (s := bts S) (c := 32) (a := (p, e)) (by rw [← ha]; exact h)
  rw [← ha] at hmust hlen ⊢
  obtain ⟨p1, e1⟩ := a
  have hform := fun W h1 h2 h3 => hih B g p1 many e1 L lv W h1 h2 h3 hl hm (fun h => hn (ha0 h))
  obtain ⟨st, hst⟩ : ∃ st, st = formF (bts S) n ⟨p1, L, many, e1⟩ := ⟨_, rfl⟩
  simp only at hlen hmust ⊢
  rw [← hst] at hform hlen ⊢
  clear ha hst ha0 hih hn
  have HM := Lib.hid hmust; have HF := Lib.hid hform; have HR := Lib.hid hr; have HO := Lib.hid ho; have HAP := Lib.hid hap
  clear hmust hform hr ho hap
  obtain ⟨q, L', many', e'⟩ := st
  simp only at hlen HF ⊢
  obtain ⟨len, hle⟩ : ∃ len, len = L'.length := ⟨_, rfl⟩
  rw [← hle] at hlen ⊢
  have HLE := Lib.hid hle; clear hle
  go_enter Tryd.func61, Tryd.ntmps61
  go_wp2_with (first
    | (go_at_call 62; (with_reducible refine (HM.out _ HR.out).mono ?_); rintro e w1 ⟨rfl, hk, hr1⟩; have HK := Lib.hid hk; have HR1 := Lib.hid hr1; clear hk hr1)
    | (go_at_call 26; (with_reducible refine (HF.out _ HR1.out (HO.out.keep HK.out HAP.out) (Nat.le_trans hB HK.out.size)).mono ?_); rintro e w2 ⟨rfl, lv2, hk2, hr2, ho2, hlo2⟩; have HK2 := Lib.hid hk2; have HR2 := Lib.hid hr2; have HO2 := Lib.hid ho2; have HLO := Lib.hid hlo2; obtain ⟨A2, c2, hv2⟩ := ho2.form; clear hk2 hr2 ho2 hlo2; rw [← HLE.out] at hv2; subst hv2; have rc := HR2.out.cell; have rf := HR2.out.free; have rl := HR2.out.lt))
  go_returns
  refine ⟨rfl, _, ?_, HR2.out, HO2.out, fun b hb => ?_⟩
  · have h1 := HK.out; have h2 := HK2.out
    exact ⟨h2.os.trans h1.os, h2.tape.trans h1.tape, h2.output.trans h1.output, Nat.le_trans h1.size h2.size, fun i hi hs => (h2.block i (Nat.lt_of_lt_of_le hi h1.size) hs).trans (h1.block i hi fun e => hs (.inl e))⟩
  · rcases HLO.out b hb with h | h
    · exact .inl h
    · exact .inr (Nat.le_trans HK.out.size h)
end Go.Proofs.YtcjblbhmajdmjaaDoor
