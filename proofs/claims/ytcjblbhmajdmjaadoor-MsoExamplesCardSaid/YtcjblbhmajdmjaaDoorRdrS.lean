/- The reference's reader as a function of its state, and that it parses as the specification says: plain. -/
import Derived.Test.YtcjblbhmajdmjaaDoorParse
set_option linter.unusedSimpArgs false
set_option linter.unusedVariables false
namespace Go.Proofs.YtcjblbhmajdmjaaDoor

structure RSt where
  p : Nat
  L : List Mk
  many : Nat
  e : Int
def ofPR {α : Type} (d : α) : PR α → (Nat × Int) × α
  | .ok q v => ((q, 0), v)
  | .err q k => ((q, k), d)
def mustF (s : List UInt8) (c : UInt8) (a : Nat × Int) : Nat × Int := if a.2 = 0 then (ofPR () (pastP s c a.1)).1 else a
def varF (s : List UInt8) (a : Nat × Int) : (Nat × Int) × Int := if a.2 = 0 then ofPR 0 (varP s a.1) else (a, 0)
def optF (b : Bool) (s : List UInt8) (a : Nat × Int) : (Nat × Int) × Int := if b then varF s a else (a, 0)
def RSt.at (st : RSt) (a : Nat × Int) : RSt := { st with p := a.1, e := a.2 }
def RSt.pe (st : RSt) : Nat × Int := (st.p, st.e)
def childF (F : RSt → RSt) (s : List UInt8) (st : RSt) : RSt := F (st.at (mustF s 32 st.pe))
def nodeF (F : RSt → RSt) (s : List UInt8) (inside : Bool) (op : Int) (st : RSt) : RSt :=
  let x := optF (decide (0 < nv op)) s st.pe
  let y := optF (decide (1 < nv op)) s x.1
  let st1 := st.at y.1
  let st2 := if 0 < nc op then childF F s st1 else st1
  let st3 := if 1 < nc op then childF F s st2 else st2
  let z := if inside then mustF s 41 st3.pe else st3.pe
  { p := z.1, e := z.2, many := st3.many, L := st3.L ++ [⟨op, x.2, y.2, if 0 < nc op then (st2.L.length : Int) - 1 else 0, if 1 < nc op then (st3.L.length : Int) - 1 else 0⟩] }
def formF (s : List UInt8) : Nat → RSt → RSt
  | 0, st => st
  | n + 1, st => if st.e ≠ 0 then st else match s[st.p]? with
    | none => { st with e := 3 }
    | some c => if c = 40 ∨ low c = true then
        if st.many = 64 then { st with many := 65, e := 4 }
        else match nameP s (c = 40) (if c = 40 then st.p + 1 else st.p) with
          | .err q k => { st with p := q, many := st.many + 1, e := k }
          | .ok q op => nodeF (formF s n) s (c = 40) op { st with p := q, many := st.many + 1 }
      else { st with e := 2 }

theorem mustF_err {s : List UInt8} {c : UInt8} {a : Nat × Int} (h : a.2 ≠ 0) : mustF s c a = a := by rw [mustF, if_neg h]
theorem optF_err {s : List UInt8} {b : Bool} {a : Nat × Int} (h : a.2 ≠ 0) : optF b s a = (a, 0) := by
  unfold optF
  split
  · rw [varF, if_neg h]
  · rfl
theorem formF_err (s : List UInt8) (n : Nat) (st : RSt) (h : st.e ≠ 0) : formF s n st = st := by
  cases n with
  | zero => rfl
  | succ n => rw [formF, if_pos h]
theorem RSt.at_pe (st : RSt) : st.at st.pe = st := rfl
theorem childF_err {F : RSt → RSt} {s : List UInt8} (hF : ∀ st : RSt, st.e ≠ 0 → F st = st) {st : RSt} (h : st.e ≠ 0) : childF F s st = st := by
  rw [childF, mustF_err (by exact h), RSt.at_pe, hF st h]

/-- The rest of a node behind an error. -/
theorem nodeF_err {F : RSt → RSt} {s : List UInt8} (hF : ∀ st : RSt, st.e ≠ 0 → F st = st) {inside : Bool} {op : Int} {st : RSt} {q : Nat} {k : Int} (hk : k ≠ 0)
    (h : (optF (decide (1 < nv op)) s (optF (decide (0 < nv op)) s st.pe).1).1 = (q, k)) : (nodeF F s inside op st).p = q ∧ (nodeF F s inside op st).e = k := by
  have h2 : (st.at (q, k)).e ≠ 0 := hk
  have e1 : (if 0 < nc op then childF F s (st.at (q, k)) else st.at (q, k)) = st.at (q, k) := by
    split
    · exact childF_err hF h2
    · rfl
  have e2 : (if 1 < nc op then childF F s (st.at (q, k)) else st.at (q, k)) = st.at (q, k) := by
    split
    · exact childF_err hF h2
    · rfl
  unfold nodeF
  simp only [h, e1, e2]
  cases inside
  · exact ⟨rfl, rfl⟩
  · simp only [if_true]
    rw [mustF_err (by exact h2)]
    exact ⟨rfl, rfl⟩

/-- What the state is behind a parsing that went well, or not. -/
def agrees (st : RSt) (L : List Mk) : PR (Nat × Tr) → Prop
  | .ok q a => st = ⟨q, L ++ a.2.enc L.length, a.1, 0⟩
  | .err q k => st.p = q ∧ st.e = k
theorem optF_var {s : List UInt8} {b : Bool} {p : Nat} : optF b s (p, 0) = ofPR 0 (optVar b s p) := by
  unfold optF optVar
  cases b
  · rfl
  · simp only [if_true, varF]
theorem PR.good_err {α : Type} {s : List UInt8} {x : PR α} {R : Nat → α → Prop} (h : x.good s R) {q : Nat} {k : Int} (e : x = .err q k) : k ≠ 0 := by
  subst e
  have : 1 ≤ k := h.2.1
  omega
theorem closeF {s : List UInt8} {p : Nat} {v : Nat × Tr} {L : List Mk} {m : List Mk} {inside : Bool} (hm : L ++ v.2.enc L.length = m) : agrees ⟨(if inside then mustF s 41 (p, 0) else (p, 0)).1, m, v.1, (if inside then mustF s 41 (p, 0) else (p, 0)).2⟩ L (closeP inside s p v) := by
  subst hm
  cases inside
  · rfl
  · simp only [closeP, if_true, mustF]
    cases pastP s 41 p with
    | ok q u => rfl
    | err q k => exact ⟨rfl, rfl⟩

theorem mustF_ok {s : List UInt8} {c : UInt8} {p q : Nat} {u : Unit} (h : pastP s c p = .ok q u) : mustF s c (p, 0) = (q, 0) := by simp only [mustF, if_true, h, ofPR]
theorem mustF_er {s : List UInt8} {c : UInt8} {p q : Nat} {k : Int} (h : pastP s c p = .err q k) : mustF s c (p, 0) = (q, k) := by simp only [mustF, if_true, h, ofPR]
theorem close_err {s : List UInt8} {inside : Bool} {q : Nat} {k : Int} (hk : k ≠ 0) {m : List Mk} {y : Nat} {L : List Mk} : agrees ⟨(if inside = true then mustF s 41 (q, k) else (q, k)).1, m, y, (if inside = true then mustF s 41 (q, k) else (q, k)).2⟩ L (.err q k) := by
  cases inside
  · exact ⟨rfl, rfl⟩
  · simp only [if_true, mustF_err (s := s) (c := 41) (a := (q, k)) hk]
    exact ⟨rfl, rfl⟩
theorem node_form (s : List UInt8) (n : Nat) (ih : ∀ p many L, p ≤ s.length → 65 ≤ n + many → many ≤ 64 → agrees (formF s n ⟨p, L, many, 0⟩) L (form s n p many)) (inside : Bool) (op : Int) (p many : Nat) (L : List Mk) (hp : p ≤ s.length) (hn : 64 ≤ n + many) (hm : many < 64) :
    agrees (nodeF (formF s n) s inside op ⟨p, L, many + 1, 0⟩) L ((optVar (decide (0 < nv op)) s p).bind fun p x =>
          (optVar (decide (1 < nv op)) s p).bind fun p y =>
          if nc op = 0 then closeP inside s p (many + 1, .leaf op x y)
          else (pastP s 32 p).bind fun p _ => (form s n p (many + 1)).bind fun p a =>
            if nc op = 1 then closeP inside s p (a.1, .un op x a.2)
            else (pastP s 32 p).bind fun p _ => (form s n p a.1).bind fun p b => closeP inside s p (b.1, .bin op a.2 b.2)) := by
  have hF : ∀ st : RSt, st.e ≠ 0 → formF s n st = st := fun st h => formF_err s n st h
  have g1 := optVar_good (decide (0 < nv op)) hp
  cases h1 : optVar (decide (0 < nv op)) s p with
  | err q k =>
    rw [PR.bind_err]
    have hk := PR.good_err g1 h1
    refine nodeF_err hF hk ?_
    show (optF _ s (optF _ s (p, 0)).1).1 = _
    rw [optF_var, h1]
    show (optF _ s (q, k)).1 = _
    rw [optF_err (by exact hk)]
  | ok q x =>
    rw [h1] at g1
    have hq := g1.1
    rw [PR.bind_ok]
    have g2 := optVar_good (decide (1 < nv op)) hq
    have hx : optF (decide (0 < nv op)) s (p, 0) = ((q, 0), x) := by rw [optF_var, h1]; rfl
    cases h2 : optVar (decide (1 < nv op)) s q with
    | err q2 k =>
      rw [PR.bind_err]
      have hk := PR.good_err g2 h2
      refine nodeF_err hF hk ?_
      show (optF _ s (optF _ s (p, 0)).1).1 = _
      rw [hx, optF_var, h2]
      rfl
    | ok q2 y =>
      rw [h2] at g2
      have hq2 := g2.1
      rw [PR.bind_ok]
      have hy : optF (decide (1 < nv op)) s (q, 0) = ((q2, 0), y) := by rw [optF_var, h2]; rfl
      unfold nodeF
      simp only [RSt.pe, hx, hy, RSt.at]
      have g1' := g1.2
      have g2' := g2.2
      rcases nc_cases op with c | c | c
      · rw [if_pos c]
        simp only [c, Int.lt_irrefl, if_false, show ¬ ((1 : Int) < 0) by omega]
        exact closeF rfl
      · have hn1 := nv_of_nc1 op c
        rw [if_neg (show ¬ decide (1 < nv op) = true by simp; omega)] at g2'
        obtain ⟨_, rfl⟩ := g2'
        simp only [c, show ¬ ((1 : Int) = 0) by omega, show (0 : Int) < 1 by omega, if_true, Int.lt_irrefl, if_false]
        have g3 := pastP_good 32 hq2
        simp only [childF, RSt.pe, RSt.at]
        cases h3 : pastP s 32 q2 with
        | err q3 k =>
          rw [PR.bind_err]
          have hk := PR.good_err g3 h3
          have hz : formF s n ⟨q3, L, many + 1, k⟩ = ⟨q3, L, many + 1, k⟩ := hF _ hk
          simp only [mustF_er h3, hz]
          exact close_err hk
        | ok q3 u =>
          rw [h3] at g3
          obtain ⟨_, hq3, _⟩ := g3
          rw [PR.bind_ok]
          simp only [mustF_ok h3]
          have h4 := ih q3 (many + 1) L hq3 (by omega) (by omega)
          have g4 := form_good s n q3 (many + 1) hq3 (by omega) (by omega)
          cases h5 : form s n q3 (many + 1) with
          | err q4 k =>
            rw [h5] at h4
            rw [PR.bind_err]
            have hk := PR.good_err g4 h5
            obtain ⟨i1, i2⟩ := h4
            simp only [i1, i2]
            exact close_err hk
          | ok q4 a =>
            rw [h5] at h4
            rw [PR.bind_ok]
            have h6 : formF s n ⟨q3, L, many + 1, 0⟩ = ⟨q4, L ++ a.2.enc L.length, a.1, 0⟩ := h4
            rw [h6]
            refine closeF ?_
            show L ++ (a.2.enc L.length ++ _) = _
            have hs := a.2.size_pos
            simp only [List.length_append, Tr.enc_len, List.append_assoc]
            congr 4
            omega
      · obtain ⟨hn1, _⟩ := nv_of_nc2 op c
        rw [if_neg (show ¬ decide (0 < nv op) = true by simp; omega)] at g1'
        rw [if_neg (show ¬ decide (1 < nv op) = true by simp; omega)] at g2'
        obtain ⟨_, rfl⟩ := g1'
        obtain ⟨_, rfl⟩ := g2'
        simp only [c, show ¬ ((2 : Int) = 0) by omega, show (0 : Int) < 2 by omega, show (1 : Int) < 2 by omega, if_true, show ¬ ((2 : Int) = 1) by omega, if_false]
        have g3 := pastP_good 32 hq2
        simp only [childF, RSt.pe, RSt.at]
        cases h3 : pastP s 32 q2 with
        | err q3 k =>
          rw [PR.bind_err]
          have hk := PR.good_err g3 h3
          have hz : formF s n ⟨q3, L, many + 1, k⟩ = ⟨q3, L, many + 1, k⟩ := hF _ hk
          simp only [mustF_er h3, hz, mustF_err (s := s) (c := 32) (a := (q3, k)) hk]
          exact close_err hk
        | ok q3 u =>
          rw [h3] at g3
          obtain ⟨_, hq3, _⟩ := g3
          rw [PR.bind_ok]
          simp only [mustF_ok h3]
          have h4 := ih q3 (many + 1) L hq3 (by omega) (by omega)
          have g4 := form_good s n q3 (many + 1) hq3 (by omega) (by omega)
          cases h5 : form s n q3 (many + 1) with
          | err q4 k =>
            rw [h5] at h4
            rw [PR.bind_err]
            have hk := PR.good_err g4 h5
            obtain ⟨i1, i2⟩ := h4
            generalize formF s n ⟨q3, L, many + 1, 0⟩ = z at *
            have hz : formF s n ⟨q4, z.L, z.many, k⟩ = ⟨q4, z.L, z.many, k⟩ := hF _ hk
            simp only [i1, i2, mustF_err (s := s) (c := 32) (a := (q4, k)) hk, hz]
            exact close_err hk
          | ok q4 a =>
            rw [h5] at h4 g4
            rw [PR.bind_ok]
            obtain ⟨_, hq4, _, m4, m4', _⟩ := g4
            have h6 : formF s n ⟨q3, L, many + 1, 0⟩ = ⟨q4, L ++ a.2.enc L.length, a.1, 0⟩ := h4
            rw [h6]
            have g5 := pastP_good 32 hq4
            cases h7 : pastP s 32 q4 with
            | err q5 k =>
              rw [PR.bind_err]
              have hk := PR.good_err g5 h7
              have hz : formF s n ⟨q5, L ++ a.2.enc L.length, a.1, k⟩ = ⟨q5, L ++ a.2.enc L.length, a.1, k⟩ := hF _ hk
              simp only [mustF_er h7, hz]
              exact close_err hk
            | ok q5 u =>
              rw [h7] at g5
              obtain ⟨_, hq5, _⟩ := g5
              rw [PR.bind_ok]
              simp only [mustF_ok h7]
              have hs := a.2.size_pos
              have h8 := ih q5 a.1 (L ++ a.2.enc L.length) hq5 (by omega) (by omega)
              have g8 := form_good s n q5 a.1 hq5 (by omega) (by omega)
              cases h9 : form s n q5 a.1 with
              | err q6 k =>
                rw [h9] at h8
                rw [PR.bind_err]
                have hk := PR.good_err g8 h9
                obtain ⟨i1, i2⟩ := h8
                simp only [i1, i2]
                exact close_err hk
              | ok q6 b =>
                rw [h9] at h8
                rw [PR.bind_ok]
                have h10 : formF s n ⟨q5, L ++ a.2.enc L.length, a.1, 0⟩ = ⟨q6, L ++ a.2.enc L.length ++ b.2.enc (L ++ a.2.enc L.length).length, b.1, 0⟩ := h8
                rw [h10]
                refine closeF ?_
                show L ++ (a.2.enc L.length ++ (b.2.enc _ ++ _)) = _
                have hs2 := b.2.size_pos
                simp only [List.length_append, Tr.enc_len, List.append_assoc]
                congr 5
                · omega
                · congr 1 <;> omega
theorem form_formF (s : List UInt8) : ∀ n p many L, p ≤ s.length → 65 ≤ n + many → many ≤ 64 → agrees (formF s n ⟨p, L, many, 0⟩) L (form s n p many) := by
  intro n
  induction n with
  | zero => intro p many L _ h1 h2; omega
  | succ n ih =>
    intro p many L hp h1 h2
    rw [formF, form, if_neg (by simp)]
    dsimp only
    cases hc : s[p]? with
    | none => exact ⟨rfl, rfl⟩
    | some c =>
      have hlt := (List.getElem?_eq_some_iff.1 hc).1
      dsimp only
      by_cases hcl : c = 40 ∨ low c = true
      · rw [if_pos hcl, if_pos hcl]
        by_cases hm : many = 64
        · rw [if_pos hm, if_pos hm]; exact ⟨rfl, rfl⟩
        rw [if_neg hm, if_neg hm]
        have hp2 : (if c = 40 then p + 1 else p) ≤ s.length := by split <;> omega
        have g := nameP_good (decide (c = 40)) hp2
        cases hn : nameP s (decide (c = 40)) (if c = 40 then p + 1 else p) with
        | err q k => exact ⟨rfl, rfl⟩
        | ok q op =>
          rw [hn] at g
          exact node_form s n ih (decide (c = 40)) op q many L g.2.1 (by omega) (by omega)
      · rw [if_neg hcl, if_neg hcl]; exact ⟨rfl, rfl⟩

/-- What stays small. -/
def RSt.fit (st : RSt) : Prop := st.L.length ≤ st.many ∧ st.many ≤ 65 ∧ (st.e = 0 → st.many ≤ 64)
def RSt.grew (a b : RSt) : Prop := a.many ≤ b.many ∧ b.L.length + a.many ≤ a.L.length + b.many ∧ b.many ≤ 65 ∧ (b.e = 0 → b.many ≤ 64 ∧ a.e = 0)
end Go.Proofs.YtcjblbhmajdmjaaDoor
