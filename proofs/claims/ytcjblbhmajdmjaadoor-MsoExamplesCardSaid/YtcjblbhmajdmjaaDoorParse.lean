/- What Parse computes, and that it inverts Format: plain lists, no program in sight. -/
/- The postorder of a tree is a formed formula; Format and Parse are inverse to each other: plain. -/
import Derived.Test.YtcjblbhmajdmjaaDoorStr
set_option linter.unusedSimpArgs false
set_option linter.unusedVariables false
namespace Go.Proofs.YtcjblbhmajdmjaaDoor

inductive PR (α : Type) where
  | ok (p : Nat) (v : α)
  | err (p : Nat) (e : Int)
def PR.bind {α β : Type} (x : PR α) (f : Nat → α → PR β) : PR β :=
  match x with
  | .ok p v => f p v
  | .err p e => .err p e
theorem PR.bind_ok {α β : Type} (p : Nat) (v : α) (f : Nat → α → PR β) : (PR.ok p v).bind f = f p v := rfl
theorem PR.bind_err {α β : Type} (p : Nat) (e : Int) (f : Nat → α → PR β) : (PR.err p e : PR α).bind f = .err p e := rfl

def low (c : UInt8) : Bool := decide (97 ≤ c.toNat) && decide (c.toNat ≤ 122)
/-- One byte, given. -/
def pastP (s : List UInt8) (c : UInt8) (p : Nat) : PR Unit :=
  match s[p]? with
  | none => .err p 3
  | some d => if d = c then .ok (p + 1) () else .err p 2
def varP (s : List UInt8) (p : Nat) : PR Int :=
  (pastP s 32 p).bind fun p _ =>
    match s[p]? with
    | none => .err p 3
    | some d => if 65 ≤ d.toNat ∧ d.toNat ≤ 70 then .ok (p + 1) ((d.toNat : Int) - 65) else .err p 7
/-- The operator from k on whose name is the word. -/
def opFrom (word : List UInt8) (inside : Bool) : Nat → Nat → Option Nat
  | 0, _ => none
  | n + 1, k => if nm (k : Int) = word ∧ decide (k ≠ 1) = inside then some k else opFrom word inside n (k + 1)
def nameP (s : List UInt8) (inside : Bool) (p : Nat) : PR Int :=
  match s[p]? with
  | none => .err p 3
  | some c =>
    if low c then
      match opFrom ((s.drop p).takeWhile low) inside 15 1 with
      | some k => .ok (p + ((s.drop p).takeWhile low).length) k
      | none => .err p 6
    else .err p 2
def optVar (b : Bool) (s : List UInt8) (p : Nat) : PR Int := if b then varP s p else .ok p 0
def closeP {α : Type} (inside : Bool) (s : List UInt8) (p : Nat) (v : α) : PR α := if inside then (pastP s 41 p).bind fun p _ => .ok p v else .ok p v
/-- A formula: the number of subformulas begun, and the tree. -/
def form (s : List UInt8) : Nat → Nat → Nat → PR (Nat × Tr)
  | 0, p, _ => .err p 4
  | n + 1, p, many =>
    match s[p]? with
    | none => .err p 3
    | some c =>
      if c = 40 ∨ low c = true then
        if many = 64 then .err p 4
        else (nameP s (c = 40) (if c = 40 then p + 1 else p)).bind fun p op =>
          (optVar (decide (0 < nv op)) s p).bind fun p x =>
          (optVar (decide (1 < nv op)) s p).bind fun p y =>
          if nc op = 0 then closeP (c = 40) s p (many + 1, .leaf op x y)
          else (pastP s 32 p).bind fun p _ => (form s n p (many + 1)).bind fun p a =>
            if nc op = 1 then closeP (c = 40) s p (a.1, .un op x a.2)
            else (pastP s 32 p).bind fun p _ => (form s n p a.1).bind fun p b => closeP (c = 40) s p (b.1, .bin op a.2 b.2)
      else .err p 2
def parseS (s : List UInt8) : List Mk × Nat × Int :=
  if 4096 < s.length then ([], 0, 4)
  else match form s 65 0 0 with
    | .err p e => ([], p, e)
    | .ok p a => if p < s.length then ([], p, 5) else (a.2.enc 0, 0, 0)

-- the text of a tree
theorem fmtNode_eq (m : Mk) (cs : List (List UInt8)) : fmtNode m cs = [40] ++ nm m.op ++ (((occ m).map varB ++ cs).map ([32] ++ ·)).flatten ++ [41] := by
  show [40] ++ Lib.join (nm m.op :: ((occ m).map varB ++ cs)) [32] ++ [41] = _
  rw [Lib.join_cons]
  simp [Lib.joinTail]

theorem low_ite {c : Prop} [Decidable c] {a b : List UInt8} (ha : a.all low = true) (hb : b.all low = true) : (if c then a else b).all low = true := by split <;> assumption
theorem nm_low (op : Int) : ∀ c ∈ nm op, low c = true := by
  have h : (nm op).all low = true := by
    unfold nm
    iterate 15 refine low_ite (by decide) ?_
    decide
  exact fun c hc => List.all_eq_true.1 h c hc
theorem nm_range {op : Int} (h : nm op ≠ []) : 1 ≤ op ∧ op ≤ 15 := by
  by_cases hr : 1 ≤ op ∧ op ≤ 15
  · exact hr
  · refine absurd ?_ h
    unfold nm
    iterate 15 rw [if_neg (by omega)]
theorem opFrom_nm {op : Int} (h : nm op ≠ []) (inside : Bool) (hi : decide (op ≠ 1) = inside) : opFrom (nm op) inside 15 1 = some op.toNat := by
  have hr := nm_range h
  have hc : op = 1 ∨ op = 2 ∨ op = 3 ∨ op = 4 ∨ op = 5 ∨ op = 6 ∨ op = 7 ∨ op = 8 ∨ op = 9 ∨ op = 10 ∨ op = 11 ∨ op = 12 ∨ op = 13 ∨ op = 14 ∨ op = 15 := by omega
  subst hi
  rcases hc with rfl | rfl | rfl | rfl | rfl | rfl | rfl | rfl | rfl | rfl | rfl | rfl | rfl | rfl | rfl <;> rfl
theorem opFrom_some {word : List UInt8} {inside : Bool} : ∀ n k r, opFrom word inside n k = some r → k ≤ r ∧ r < k + n ∧ nm (r : Int) = word ∧ decide (r ≠ 1) = inside := by
  intro n
  induction n with
  | zero => intro k r h; simp [opFrom] at h
  | succ n ih =>
    intro k r h
    rw [opFrom] at h
    split at h
    · rename_i hc
      injection h with h
      subst h
      exact ⟨Nat.le_refl _, by omega, hc.1, hc.2⟩
    · have := ih _ _ h
      exact ⟨by omega, by omega, this.2.2.1, this.2.2.2⟩

theorem takeWhile_stop {a b : List UInt8} (ha : ∀ c ∈ a, low c = true) (hb : ∀ c, b[0]? = some c → low c = false) : (a ++ b).takeWhile low = a := by
  induction a with
  | nil =>
    cases b with
    | nil => rfl
    | cons c b => rw [List.nil_append, List.takeWhile_cons, hb c rfl]; rfl
  | cons c a ih =>
    rw [List.cons_append, List.takeWhile_cons, ha c (by simp)]
    simp only [if_true]
    rw [ih fun d hd => ha d (by simp [hd])]

/-- From place p on the text reads t. -/
def At (s : List UInt8) (p : Nat) (t : List UInt8) : Prop := ∃ r, s.drop p = t ++ r
theorem At.left {s : List UInt8} {p : Nat} {a b : List UInt8} (h : At s p (a ++ b)) : At s p a := by
  obtain ⟨r, h⟩ := h; exact ⟨b ++ r, by rw [h, List.append_assoc]⟩
theorem At.right {s : List UInt8} {p : Nat} {a b : List UInt8} (h : At s p (a ++ b)) : At s (p + a.length) b := by
  obtain ⟨r, h⟩ := h
  refine ⟨r, ?_⟩
  rw [← List.drop_drop, h, List.append_assoc, List.drop_left]
theorem At.get {s : List UInt8} {p : Nat} {c : UInt8} {a : List UInt8} (h : At s p (c :: a)) : s[p]? = some c := by
  obtain ⟨r, h⟩ := h
  have := congrArg (fun l : List UInt8 => l[0]?) h
  simpa using this
theorem At.mk_one {s : List UInt8} {p : Nat} {c : UInt8} (h : s[p]? = some c) : At s p [c] := by
  have hp : p < s.length := (List.getElem?_eq_some_iff.1 h).1
  have hc : s[p] = c := (List.getElem?_eq_some_iff.1 h).2
  exact ⟨s.drop (p + 1), by rw [List.drop_eq_getElem_cons hp, hc]; rfl⟩
theorem At.app {s : List UInt8} {p : Nat} {a b : List UInt8} (h : At s p a) (k : At s (p + a.length) b) : At s p (a ++ b) := by
  obtain ⟨r, h⟩ := h
  obtain ⟨q, k⟩ := k
  rw [← List.drop_drop, h, List.drop_left] at k
  exact ⟨q, by rw [h, k, List.append_assoc]⟩
theorem At.le {s : List UInt8} {p : Nat} {a : List UInt8} (h : At s p a) (hp : p ≤ s.length) : p + a.length ≤ s.length := by
  obtain ⟨r, h⟩ := h
  have := congrArg List.length h
  rw [List.length_drop, List.length_append] at this
  omega

theorem pastP_at {s : List UInt8} {p : Nat} {c : UInt8} (h : At s p [c]) : pastP s c p = .ok (p + 1) () := by
  unfold pastP; rw [h.get]; simp
theorem varP_at {s : List UInt8} {p : Nat} {x : Int} (h : At s p ([32] ++ varB x)) (hx : 0 ≤ x ∧ x < 6) : varP s p = .ok (p + 2) x := by
  unfold varP
  rw [pastP_at h.left, PR.bind_ok]
  have h2 := h.right
  simp only [varB, List.length_singleton] at h2
  rw [h2.get]
  have hc : x = 0 ∨ x = 1 ∨ x = 2 ∨ x = 3 ∨ x = 4 ∨ x = 5 := by omega
  rcases hc with rfl | rfl | rfl | rfl | rfl | rfl <;> rfl
theorem nameP_at {s : List UInt8} {p : Nat} {op : Int} (hn : nm op ≠ []) (h : At s p (nm op)) (hb : ∀ c, s[p + (nm op).length]? = some c → low c = false) (inside : Bool) (hi : decide (op ≠ 1) = inside) : nameP s inside p = .ok (p + (nm op).length) op := by
  obtain ⟨r, hr⟩ := id h
  have hw : (s.drop p).takeWhile low = nm op := by
    rw [hr]
    refine takeWhile_stop (nm_low op) fun c hc => hb c ?_
    rw [← List.getElem?_drop, hr, List.getElem?_append_right (Nat.le_refl _), Nat.sub_self]
    exact hc
  obtain ⟨c, l, hcl⟩ : ∃ c l, nm op = c :: l := by
    cases h' : nm op with
    | nil => exact absurd h' hn
    | cons c l => exact ⟨c, l, rfl⟩
  have hg : s[p]? = some c := by rw [hcl] at h; exact h.get
  have hlc : low c = true := nm_low op c (by rw [hcl]; simp)
  unfold nameP
  rw [hg]
  simp only [hlc, if_true, hw, opFrom_nm hn inside hi]
  rw [Int.toNat_of_nonneg (by have := nm_range hn; omega)]

theorem Tr.text_ne (t : Tr) (ok : t.ok) : ∃ c l, t.text = c :: l ∧ (c = 40 ∨ low c = true) := by
  cases t with
  | leaf op x y =>
    rw [Tr.text]
    split
    · rename_i h; subst h; exact ⟨116, _, rfl, .inr rfl⟩
    · exact ⟨40, _, rfl, .inl rfl⟩
  | un op x a => exact ⟨40, _, rfl, .inl rfl⟩
  | bin op a b => exact ⟨40, _, rfl, .inl rfl⟩

theorem occ0 {m : Mk} (h : nv m.op = 0) : occ m = [] := by unfold occ; rw [h]; rfl
theorem occ1 {m : Mk} (h : nv m.op = 1) : occ m = [m.x] := by unfold occ; rw [h]; rfl
theorem occ2 {m : Mk} (h : nv m.op = 2) : occ m = [m.x, m.y] := by unfold occ; rw [h]; rfl
theorem at1 {s : List UInt8} {p : Nat} {c : UInt8} {a : List UInt8} (h : At s p ([c] ++ a)) : At s (p + 1) a := h.right
theorem bytes_not_low : low 32 = false ∧ low 41 = false ∧ low 40 = false := by decide

/-- The head of a node: the variables are read, and what follows is read behind them. -/
theorem vars_at {β : Type} {s : List UInt8} {p : Nat} {m : Mk} {cs : List (List UInt8)} (hw : within m 6 = true) (hs : spare m = true) (h : At s p (((occ m).map varB ++ cs).map ([32] ++ ·)).flatten) (f : Nat → Int → Int → PR β) :
    ((optVar (decide (0 < nv m.op)) s p).bind fun p x => (optVar (decide (1 < nv m.op)) s p).bind fun p y => f p x y) = f (p + 2 * (occ m).length) m.x m.y ∧ At s (p + 2 * (occ m).length) (cs.map ([32] ++ ·)).flatten := by
  simp only [within, Bool.and_eq_true, Bool.or_eq_true, decide_eq_true_eq] at hw
  simp only [spare, Bool.and_eq_true, Bool.or_eq_true, decide_eq_true_eq] at hs
  rcases nv_cases m.op with h0 | h0 | h0
  · rw [occ0 h0] at h ⊢
    rw [h0]
    have hx : m.x = 0 := by omega
    have hy : m.y = 0 := by omega
    refine ⟨?_, by simpa using h⟩
    rw [hx, hy]; rfl
  · rw [occ1 h0] at h ⊢
    have h : At s p (([32] ++ varB m.x) ++ (cs.map ([32] ++ ·)).flatten) := by simpa using h
    have h1 : varP s p = .ok (p + 2) m.x := varP_at h.left (by omega)
    have hy : m.y = 0 := by omega
    rw [h0]
    have hr : At s (p + 2) (cs.map ([32] ++ ·)).flatten := h.right
    refine ⟨?_, hr⟩
    show (varP s p).bind _ = _
    rw [h1, hy]; rfl
  · rw [occ2 h0] at h ⊢
    have h : At s p (([32] ++ varB m.x) ++ (([32] ++ varB m.y) ++ (cs.map ([32] ++ ·)).flatten)) := by simpa using h
    have h1 : varP s p = .ok (p + 2) m.x := varP_at h.left (by omega)
    have hr : At s (p + 2) (([32] ++ varB m.y) ++ (cs.map ([32] ++ ·)).flatten) := h.right
    have h2 : varP s (p + 2) = .ok (p + 2 + 2) m.y := varP_at hr.left (by omega)
    rw [h0]
    have hq : At s (p + 2 + 2) (cs.map ([32] ++ ·)).flatten := hr.right
    refine ⟨?_, hq⟩
    show (varP s p).bind _ = _
    rw [h1]
    show (varP s (p + 2)).bind _ = _
    rw [h2]; rfl

theorem drop_flat_head {s : List UInt8} {p : Nat} {l : List (List UInt8)} (h : At s p ((l.map ([32] ++ ·)).flatten ++ [41])) : ∀ c, s[p]? = some c → low c = false := by
  intro c hc
  cases l with
  | nil => rw [At.get (a := []) (c := 41) (by simpa using h)] at hc; injection hc with hc; subst hc; rfl
  | cons a l => rw [At.get (a := a ++ ((l.map ([32] ++ ·)).flatten ++ [41])) (c := 32) (by simpa using h)] at hc; injection hc with hc; subst hc; rfl

theorem form_text (s : List UInt8) (t : Tr) : t.ok → ∀ n p many, At s p t.text → many + t.size ≤ 64 → 65 ≤ n + many → (∀ c, s[p + t.text.length]? = some c → low c = false) → form s n p many = .ok (p + t.text.length) (many + t.size, t) := by
  have node : ∀ (m : Mk) (cs : List (List UInt8)) (n p many : Nat), nm m.op ≠ [] → m.op ≠ 1 → within m 6 = true → spare m = true → At s p (fmtNode m cs) → many < 64 →
      form s (n + 1) p many = (if nc m.op = 0 then closeP true s (p + 1 + (nm m.op).length + 2 * (occ m).length) (many + 1, Tr.leaf m.op m.x m.y)
          else (pastP s 32 (p + 1 + (nm m.op).length + 2 * (occ m).length)).bind fun p _ => (form s n p (many + 1)).bind fun p a =>
            if nc m.op = 1 then closeP true s p (a.1, .un m.op m.x a.2)
            else (pastP s 32 p).bind fun p _ => (form s n p a.1).bind fun p b => closeP true s p (b.1, .bin m.op a.2 b.2)) ∧
        At s (p + 1 + (nm m.op).length + 2 * (occ m).length) ((cs.map ([32] ++ ·)).flatten ++ [41]) := by
    intro m cs n p many h1 h2 h3 h4 hat hm
    rw [fmtNode_eq] at hat
    have hg : s[p]? = some 40 := (hat.left.left.left).get
    have ha : At s (p + 1) (nm m.op ++ ((((occ m).map varB ++ cs).map ([32] ++ ·)).flatten ++ [41])) := by
      have := hat
      rw [List.append_assoc, List.append_assoc] at this
      exact this.right
    have hb := ha.right
    have hname : nameP s true (p + 1) = .ok (p + 1 + (nm m.op).length) m.op := nameP_at h1 ha.left (drop_flat_head hb) true (by simp [h2])
    have hv := fun (f : Nat → Int → Int → PR (Nat × Tr)) => vars_at h3 h4 hb.left f
    constructor
    · rw [form, hg]
      simp only [true_or, if_true, decide_true]
      rw [if_neg (by omega), hname, PR.bind_ok, (hv _).1]
    · have h5 := (hv fun _ _ _ => .err 0 0).2
      obtain ⟨r, hr⟩ := hb
      obtain ⟨q, hq⟩ := h5
      rw [List.map_append, List.flatten_append] at hr
      have hlen : ((((occ m).map varB).map ([32] ++ ·)).flatten).length = 2 * (occ m).length := by
        generalize occ m = l
        induction l with
        | nil => rfl
        | cons a l ih => simp only [List.map_cons, List.flatten_cons, List.length_append, ih, List.length_cons, varB, List.length_nil]; omega
      refine ⟨r, ?_⟩
      rw [← List.drop_drop, hr, ← hlen, List.append_assoc, List.append_assoc, List.drop_left, List.append_assoc]
  induction t with
  | leaf op x y =>
    intro ok n p many hat hm hn hb
    obtain ⟨o1, o2, o3, o4⟩ := ok
    simp only [Tr.size] at hm ⊢
    obtain ⟨k, rfl⟩ : ∃ k, n = k + 1 := ⟨n - 1, by omega⟩
    by_cases h1 : op = 1
    · subst h1
      rw [Tr.text, if_pos rfl] at hat hb ⊢
      have hx : x = 0 ∧ y = 0 := by simpa [spare, nv] using o4
      have hg : s[p]? = some 116 := hat.get
      have hname : nameP s false p = .ok (p + (nm 1).length) 1 := nameP_at o1 hat hb false rfl
      rw [form, hg]
      simp only [show ¬ (116 : UInt8) = 40 by decide, show low 116 = true by decide, or_true, if_true, if_false, decide_false]
      rw [if_neg (by omega), hname, hx.1, hx.2]
      rfl
    · rw [Tr.text, if_neg h1] at hat ⊢
      obtain ⟨e, h5⟩ := node ⟨op, x, y, 0, 0⟩ [] k p many o1 h1 o3 o4 hat (by omega)
      rw [e, if_pos o2]
      have h6 : At s (p + 1 + (nm op).length + 2 * (occ ⟨op, x, y, 0, 0⟩).length) [41] := by simpa using h5
      simp only [closeP, if_true]
      rw [pastP_at h6, PR.bind_ok]
      congr 1
      rw [fmtNode_eq]
      have hlen : ((((occ ⟨op, x, y, 0, 0⟩).map varB).map ([32] ++ ·)).flatten).length = 2 * (occ ⟨op, x, y, 0, 0⟩).length := by
        generalize occ ⟨op, x, y, 0, 0⟩ = l
        induction l with
        | nil => rfl
        | cons a l ih => simp only [List.map_cons, List.flatten_cons, List.length_append, ih, List.length_cons, varB, List.length_nil]; omega
      simp only [List.append_nil, List.length_append, hlen, List.length_singleton]
      omega
  | un op x a ih =>
    intro ok n p many hat hm hn hb
    obtain ⟨⟨o1, o2, o3, o4⟩, oka⟩ := ok
    have h1 : op ≠ 1 := op1_nc (by omega)
    simp only [Tr.size] at hm ⊢
    have hp := a.size_pos
    obtain ⟨k, rfl⟩ : ∃ k, n = k + 1 := ⟨n - 1, by omega⟩
    rw [Tr.text] at hat ⊢
    obtain ⟨e, h5⟩ := node ⟨op, x, 0, 0, 0⟩ [a.text] k p many o1 h1 o3 o4 hat (by omega)
    rw [e, if_neg (by show ¬ nc op = 0; omega)]
    simp only [List.map_cons, List.map_nil, List.flatten_cons, List.flatten_nil, List.append_nil, List.append_assoc] at h5
    have h6 := h5.right
    simp only [List.length_singleton] at h6
    have h7 := h6.right
    rw [pastP_at h5.left, PR.bind_ok, ih oka k _ _ h6.left (by omega) (by omega) (fun c hc => by rw [h7.get] at hc; injection hc with hc; subst hc; rfl), PR.bind_ok, if_pos (show nc op = 1 from o2)]
    simp only [closeP, if_true]
    rw [pastP_at h7, PR.bind_ok]
    rw [fmtNode_eq]
    have hlen : ((((occ ⟨op, x, 0, 0, 0⟩).map varB).map ([32] ++ ·)).flatten).length = 2 * (occ ⟨op, x, 0, 0, 0⟩).length := by
      generalize occ ⟨op, x, 0, 0, 0⟩ = l
      induction l with
      | nil => rfl
      | cons a l ih => simp only [List.map_cons, List.flatten_cons, List.length_append, ih, List.length_cons, varB, List.length_nil]; omega
    congr 1
    · simp only [List.map_append, List.flatten_append, List.length_append, hlen, List.length_singleton, List.map_cons, List.map_nil, List.flatten_cons, List.flatten_nil, List.append_nil]
      omega
    · congr 1; omega
  | bin op a b iha ihb =>
    intro ok n p many hat hm hn hb
    obtain ⟨o2, oka, okb⟩ := ok
    obtain ⟨v0, o1⟩ := nv_of_nc2 op o2
    have h1 : op ≠ 1 := op1_nc (by omega)
    simp only [Tr.size] at hm ⊢
    have hp := a.size_pos
    have hq := b.size_pos
    obtain ⟨k, rfl⟩ : ∃ k, n = k + 1 := ⟨n - 1, by omega⟩
    rw [Tr.text] at hat ⊢
    obtain ⟨e, h5⟩ := node ⟨op, 0, 0, 0, 0⟩ [a.text, b.text] k p many o1 h1 (by simp [within, v0]) (by simp [spare]) hat (by omega)
    rw [e, if_neg (by show ¬ nc op = 0; omega)]
    simp only [List.map_cons, List.map_nil, List.flatten_cons, List.flatten_nil, List.append_nil, List.append_assoc] at h5
    have h6 := h5.right
    simp only [List.length_singleton] at h6
    have h7 := h6.right
    have h8 := h7.right
    simp only [List.length_singleton] at h8
    have h9 := h8.right
    rw [pastP_at h5.left, PR.bind_ok, iha oka k _ _ h6.left (by omega) (by omega) (fun c hc => by rw [h7.left.get] at hc; injection hc with hc; subst hc; rfl), PR.bind_ok, if_neg (by show ¬ nc op = 1; omega),
      pastP_at h7.left, PR.bind_ok, ihb okb k _ _ h8.left (by dsimp only; omega) (by dsimp only; omega) (fun c hc => by rw [h9.get] at hc; injection hc with hc; subst hc; rfl), PR.bind_ok]
    simp only [closeP, if_true]
    rw [pastP_at h9, PR.bind_ok]
    rw [fmtNode_eq, occ0 (m := ⟨op, 0, 0, 0, 0⟩) v0]
    congr 1
    · simp only [List.length_append, List.length_singleton, List.map_cons, List.map_nil, List.flatten_cons, List.flatten_nil, List.append_nil, List.nil_append, List.length_nil]
      omega
    · congr 1; omega

-- what is parsed is a text
/-- An error lies at a byte, but for 3, which lies at the end. -/
def ErrAt (s : List UInt8) (p : Nat) (e : Int) : Prop := p ≤ s.length ∧ 1 ≤ e ∧ e ≤ 7 ∧ (e = 3 ↔ p = s.length)
def PR.good {α : Type} (s : List UInt8) (x : PR α) (R : Nat → α → Prop) : Prop :=
  match x with
  | .ok p v => R p v
  | .err p e => ErrAt s p e
theorem PR.good_bind {α β : Type} {s : List UInt8} {x : PR α} {f : Nat → α → PR β} {R : Nat → α → Prop} {T : Nat → β → Prop} (h : x.good s R) (k : ∀ p v, R p v → (f p v).good s T) : (x.bind f).good s T := by
  cases x with
  | ok p v => exact k p v h
  | err p e => exact h
theorem get_none {s : List UInt8} {p : Nat} (h : s[p]? = none) (hp : p ≤ s.length) : ErrAt s p 3 := by
  have := List.getElem?_eq_none_iff.1 h
  exact ⟨hp, by omega, by omega, by omega⟩
theorem get_some {s : List UInt8} {p : Nat} {c : UInt8} (h : s[p]? = some c) (e : Int) (h1 : 1 ≤ e) (h2 : e ≤ 7) (h3 : e ≠ 3) : ErrAt s p e := by
  have := (List.getElem?_eq_some_iff.1 h).1
  exact ⟨by omega, h1, h2, by omega⟩
theorem pastP_good {s : List UInt8} {p : Nat} (c : UInt8) (hp : p ≤ s.length) : (pastP s c p).good s fun q _ => q = p + 1 ∧ q ≤ s.length ∧ At s p [c] := by
  unfold pastP
  split
  · rename_i h; exact get_none h hp
  · rename_i d h
    split
    · rename_i hd
      subst hd
      exact ⟨rfl, (List.getElem?_eq_some_iff.1 h).1, At.mk_one h⟩
    · exact get_some h 2 (by omega) (by omega) (by omega)
theorem varP_good {s : List UInt8} {p : Nat} (hp : p ≤ s.length) : (varP s p).good s fun q x => q = p + 2 ∧ q ≤ s.length ∧ 0 ≤ x ∧ x < 6 ∧ At s p ([32] ++ varB x) := by
  unfold varP
  refine PR.good_bind (pastP_good 32 hp) fun q _ hq => ?_
  obtain ⟨rfl, h1, h2⟩ := hq
  split
  · rename_i h; exact get_none h h1
  · rename_i d h
    split
    · rename_i hd
      refine ⟨rfl, (List.getElem?_eq_some_iff.1 h).1, by omega, by omega, h2.app ?_⟩
      have e : varB ((d.toNat : Int) - 65) = [d] := by
        unfold varB
        congr 1
        have : 65 + ((d.toNat : Int) - 65).toNat = d.toNat := by omega
        rw [this]
        simp
      rw [e]
      exact At.mk_one h
    · exact get_some h 7 (by omega) (by omega) (by omega)
theorem optVar_good {s : List UInt8} {p : Nat} (b : Bool) (hp : p ≤ s.length) : (optVar b s p).good s fun q x => q ≤ s.length ∧ (if b then q = p + 2 ∧ 0 ≤ x ∧ x < 6 ∧ At s p ([32] ++ varB x) else q = p ∧ x = 0) := by
  unfold optVar
  cases b with
  | false => exact ⟨hp, rfl, rfl⟩
  | true =>
    have h := varP_good hp
    cases hx : varP s p with
    | ok q x => rw [hx] at h; exact ⟨h.2.1, h.1, h.2.2⟩
    | err q e => rw [hx] at h; exact h
theorem nameP_good {s : List UInt8} {p : Nat} (inside : Bool) (hp : p ≤ s.length) : (nameP s inside p).good s fun q op => q = p + (nm op).length ∧ q ≤ s.length ∧ nm op ≠ [] ∧ decide (op ≠ 1) = inside ∧ At s p (nm op) := by
  unfold nameP
  split
  · rename_i h; exact get_none h hp
  · rename_i c h
    split
    · rename_i hc
      have hw : ∃ l r, (s.drop p).takeWhile low = c :: l ∧ s.drop p = (c :: l) ++ r := by
        have hp' := (List.getElem?_eq_some_iff.1 h).1
        have e1 : (s.drop p).takeWhile low = c :: (s.drop (p + 1)).takeWhile low := by
          rw [List.drop_eq_getElem_cons hp', (List.getElem?_eq_some_iff.1 h).2, List.takeWhile_cons, hc]; rfl
        refine ⟨((s.drop (p + 1)).takeWhile low), (s.drop p).dropWhile low, e1, ?_⟩
        rw [← e1]
        exact (List.takeWhile_append_dropWhile (p := low) (l := s.drop p)).symm
      obtain ⟨l, r, hw1, hw2⟩ := hw
      split
      · rename_i k hk
        obtain ⟨k1, k2, k3, k4⟩ := opFrom_some _ _ _ hk
        rw [← k3] at hw1 ⊢
        have hat : At s p (nm (k : Int)) := ⟨r, by rw [hw2, ← hw1]⟩
        refine ⟨rfl, hat.le hp, by rw [hw1]; simp, ?_, hat⟩
        rw [← k4]
        congr 1
        simp; omega
      · exact get_some h 6 (by omega) (by omega) (by omega)
    · exact get_some h 2 (by omega) (by omega) (by omega)

theorem leaf_text {op x y : Int} (h : op ≠ 1) : (Tr.leaf op x y).text = fmtNode ⟨op, x, y, 0, 0⟩ [] := by rw [Tr.text, if_neg h]
theorem nc_one {op : Int} (h : nm op ≠ []) (h1 : op = 1) : nc op = 0 ∧ nv op = 0 := by subst h1; exact ⟨rfl, rfl⟩

/-- The variables of a node, from what was read. -/
theorem vars_good {s : List UInt8} {p q r : Nat} {op x y : Int} (hq : q ≤ s.length ∧ (if decide (0 < nv op) then q = p + 2 ∧ 0 ≤ x ∧ x < 6 ∧ At s p ([32] ++ varB x) else q = p ∧ x = 0))
    (hr : r ≤ s.length ∧ (if decide (1 < nv op) then r = q + 2 ∧ 0 ≤ y ∧ y < 6 ∧ At s q ([32] ++ varB y) else r = q ∧ y = 0)) (a b : Int) :
    within ⟨op, x, y, a, b⟩ 6 = true ∧ spare ⟨op, x, y, a, b⟩ = true ∧ r = p + 2 * (occ ⟨op, x, y, a, b⟩).length ∧ At s p (((occ ⟨op, x, y, a, b⟩).map varB).map ([32] ++ ·)).flatten := by
  obtain ⟨_, hq⟩ := hq
  obtain ⟨_, hr⟩ := hr
  simp only [decide_eq_true_eq] at hq hr
  rcases nv_cases op with h0 | h0 | h0
  · rw [if_neg (by omega)] at hq hr
    rw [occ0 (m := ⟨op, x, y, a, b⟩) h0]
    refine ⟨by simp [within, h0], by simp [spare, hq.2, hr.2], by simp only [List.length_nil]; omega, ⟨s.drop p, rfl⟩⟩
  · rw [if_pos (by omega)] at hq
    rw [if_neg (by omega)] at hr
    rw [occ1 (m := ⟨op, x, y, a, b⟩) h0]
    refine ⟨by simp [within, h0, hq.2.1, hq.2.2.1], by simp [spare, h0, hr.2], by simp only [List.length_singleton]; omega, by simpa using hq.2.2.2⟩
  · rw [if_pos (by omega)] at hq hr
    rw [occ2 (m := ⟨op, x, y, a, b⟩) h0]
    refine ⟨by simp [within, hq.2.1, hq.2.2.1, hr.2.1, hr.2.2.1], by simp [spare, h0], by simp only [List.length_cons, List.length_nil]; omega, ?_⟩
    have h9 : At s (p + ([32] ++ varB x).length) ([32] ++ varB y) := by
      have := hr.2.2.2
      rw [hq.1] at this
      exact this
    simpa using hq.2.2.2.app h9

theorem form_good (s : List UInt8) : ∀ n p many, p ≤ s.length → 65 ≤ n + many → many ≤ 64 → (form s n p many).good s fun q a => q = p + a.2.text.length ∧ q ≤ s.length ∧ a.2.ok ∧ a.1 = many + a.2.size ∧ a.1 ≤ 64 ∧ At s p a.2.text := by
  intro n
  induction n with
  | zero => intro p many hp h1 h2; omega
  | succ n ih =>
    intro p many hp h1 h2
    rw [form]
    split
    · rename_i h; exact get_none h hp
    rename_i c hc
    have hlt := (List.getElem?_eq_some_iff.1 hc).1
    split
    case isFalse => exact get_some hc 2 (by omega) (by omega) (by omega)
    rename_i hcl
    split
    · exact get_some hc 4 (by omega) (by omega) (by omega)
    rename_i hm
    have hp2 : (if c = 40 then p + 1 else p) ≤ s.length := by split <;> omega
    refine PR.good_bind (nameP_good (decide (c = 40)) hp2) fun p1 op h3 => ?_
    obtain ⟨e1, l1, o1, hin, at1⟩ := h3
    refine PR.good_bind (optVar_good _ l1) fun p2 x h4 => ?_
    refine PR.good_bind (optVar_good _ h4.1) fun p3 y h5 => ?_
    obtain ⟨w1, w2, w3, w4⟩ := vars_good h4 h5 0 0
    have l3 := h5.1
    by_cases c40 : c = 40
    · subst c40
      have hop : op ≠ 1 := by simpa using hin
      simp only [if_true] at e1 at1 hp2 ⊢
      have head : At s p ([40] ++ nm op ++ (((occ ⟨op, x, y, 0, 0⟩).map varB).map ([32] ++ ·)).flatten) := by
        rw [List.append_assoc]
        refine (At.mk_one hc).app (At.app (p := p + 1) at1 ?_)
        rw [← e1]
        exact w4
      have hlen : ((((occ ⟨op, x, y, 0, 0⟩).map varB).map ([32] ++ ·)).flatten).length = 2 * (occ ⟨op, x, y, 0, 0⟩).length := by
        generalize occ ⟨op, x, y, 0, 0⟩ = l
        induction l with
        | nil => rfl
        | cons a l ih => simp only [List.map_cons, List.flatten_cons, List.length_append, ih, List.length_cons, varB, List.length_nil]; omega
      have hend : p + ([40] ++ nm op ++ (((occ ⟨op, x, y, 0, 0⟩).map varB).map ([32] ++ ·)).flatten).length = p3 := by
        simp only [List.length_append, hlen, List.length_singleton]; omega
      split
      · rename_i n0
        simp only [decide_true, closeP, if_true]
        refine PR.good_bind (pastP_good 41 l3) fun p4 _ h6 => ?_
        obtain ⟨e4, l4, at4⟩ := h6
        have et := leaf_text (x := x) (y := y) hop
        rw [fmtNode_eq] at et
        simp only [List.append_nil] at et
        have hat : At s p (Tr.leaf op x y).text := by
          rw [et]; exact head.app (by rw [hend]; exact at4)
        exact ⟨by rw [et, List.length_append, List.length_singleton]; omega, l4, ⟨o1, n0, w1, w2⟩, rfl, by simp only; omega, hat⟩
      · rename_i n0
        refine PR.good_bind (pastP_good 32 l3) fun p4 _ h6 => ?_
        obtain ⟨e4, l4, at4⟩ := h6
        refine PR.good_bind (ih p4 (many + 1) l4 (by omega) (by omega)) fun p5 a h7 => ?_
        obtain ⟨e5, l5, ok5, sz5, m5, at5⟩ := h7
        split
        · rename_i n1
          simp only [decide_true, closeP, if_true]
          refine PR.good_bind (pastP_good 41 l5) fun p6 _ h8 => ?_
          obtain ⟨e6, l6, at6⟩ := h8
          have hy : y = 0 := by
            have := nv_of_nc1 op n1
            obtain ⟨_, h5⟩ := h5
            rw [if_neg (by simp; omega)] at h5
            exact h5.2
          subst hy
          have et : (Tr.un op x a.2).text = ([40] ++ nm op ++ (((occ ⟨op, x, 0, 0, 0⟩).map varB).map ([32] ++ ·)).flatten) ++ ([32] ++ (a.2.text ++ [41])) := by
            rw [Tr.text, fmtNode_eq]
            simp [List.append_assoc]
          have hat : At s p (Tr.un op x a.2).text := by
            rw [et]
            refine head.app ?_
            rw [hend]
            refine at4.app ?_
            rw [List.length_singleton, ← e4]
            exact at5.app (by rw [← e5]; exact at6)
          refine ⟨?_, l6, ⟨⟨o1, n1, w1, w2⟩, ok5⟩, by simp only [Tr.size]; omega, m5, hat⟩
          have hl := hend
          rw [et]
          simp only [List.length_append, List.length_singleton] at hl ⊢
          omega
        · rename_i n1
          have n2 : nc op = 2 := by rcases nc_cases op with h | h | h <;> omega
          obtain ⟨v0, _⟩ := nv_of_nc2 op n2
          refine PR.good_bind (pastP_good 32 l5) fun p6 _ h8 => ?_
          obtain ⟨e6, l6, at6⟩ := h8
          refine PR.good_bind (ih p6 a.1 l6 (by omega) m5) fun p7 b h9 => ?_
          obtain ⟨e7, l7, ok7, sz7, m7, at7⟩ := h9
          simp only [decide_true, closeP, if_true]
          refine PR.good_bind (pastP_good 41 l7) fun p8 _ h10 => ?_
          obtain ⟨e8, l8, at8⟩ := h10
          have hxy : x = 0 ∧ y = 0 := by
            obtain ⟨_, h4⟩ := h4
            obtain ⟨_, h5⟩ := h5
            rw [if_neg (by simp; omega)] at h4 h5
            exact ⟨h4.2, h5.2⟩
          obtain ⟨rfl, rfl⟩ := hxy
          have et : (Tr.bin op a.2 b.2).text = ([40] ++ nm op ++ (((occ ⟨op, 0, 0, 0, 0⟩).map varB).map ([32] ++ ·)).flatten) ++ ([32] ++ (a.2.text ++ ([32] ++ (b.2.text ++ [41])))) := by
            rw [Tr.text, fmtNode_eq]
            simp [List.append_assoc]
          have hat : At s p (Tr.bin op a.2 b.2).text := by
            rw [et]
            refine head.app ?_
            rw [hend]
            refine at4.app ?_
            rw [List.length_singleton, ← e4]
            refine at5.app ?_
            rw [← e5]
            refine at6.app ?_
            rw [List.length_singleton, ← e6]
            exact at7.app (by rw [← e7]; exact at8)
          refine ⟨?_, l8, ⟨n2, ok5, ok7⟩, by simp only [Tr.size]; omega, m7, hat⟩
          have hl := hend
          rw [et]
          simp only [List.length_append, List.length_singleton] at hl ⊢
          omega
    · have hop : op = 1 := by simpa [c40] using hin
      subst hop
      simp only [if_neg c40] at e1 at1 hp2 ⊢
      have v1 : decide (0 < nv 1) = false := rfl
      have v2 : decide (1 < nv 1) = false := rfl
      obtain ⟨_, h4⟩ := h4
      obtain ⟨_, h5⟩ := h5
      rw [v1] at h4
      rw [v2] at h5
      obtain ⟨rfl, rfl⟩ := h4
      obtain ⟨rfl, rfl⟩ := h5
      rw [if_pos (show nc 1 = 0 from rfl)]
      simp only [c40, decide_false, closeP, Bool.false_eq_true, if_false]
      exact ⟨e1, l3, ⟨o1, rfl, w1, w2⟩, rfl, by simp only; omega, at1⟩
end Go.Proofs.YtcjblbhmajdmjaaDoor

namespace Go.Proofs.YtcjblbhmajdmjaaDoor

def Tr.sz : Tr → List Nat
  | .leaf _ _ _ => [1]
  | .un _ _ a => a.sz ++ [a.size + 1]
  | .bin _ a b => a.sz ++ (b.sz ++ [a.size + b.size + 1])
theorem Tr.sz_len (t : Tr) : t.sz.length = t.size := by
  induction t with
  | leaf op x y => rfl
  | un op x a ih => simp [Tr.sz, Tr.size, ih]
  | bin op a b iha ihb => simp [Tr.sz, Tr.size, iha, ihb]; omega
theorem Tr.sz_last (t : Tr) : t.sz[t.size - 1]? = some t.size := by
  cases t with
  | leaf op x y => rfl
  | un op x a =>
    simp only [Tr.sz, Tr.size]
    rw [List.getElem?_append_right (by rw [Tr.sz_len]; omega), Tr.sz_len]
    simp
  | bin op a b =>
    simp only [Tr.sz, Tr.size]
    rw [List.getElem?_append_right (by rw [Tr.sz_len]; omega), Tr.sz_len, List.getElem?_append_right (by rw [Tr.sz_len]; omega), Tr.sz_len]
    have e : a.size + b.size + 1 - 1 - a.size - b.size = 0 := by omega
    rw [e]; rfl
theorem Tr.sz_pos (t : Tr) : ∀ i, i < t.size → t.sz.getD i 0 ≠ 0 := by
  have h : ∀ t : Tr, ∀ x ∈ t.sz, x ≠ 0 := by
    intro t
    induction t with
    | leaf op x y => simp [Tr.sz]
    | un op x a ih =>
      intro x hx
      simp only [Tr.sz, List.mem_append, List.mem_singleton] at hx
      rcases hx with hx | hx
      · exact ih x hx
      · omega
    | bin op a b iha ihb =>
      intro x hx
      simp only [Tr.sz, List.mem_append, List.mem_singleton] at hx
      rcases hx with hx | hx | hx
      · exact iha x hx
      · exact ihb x hx
      · omega
  intro i hi
  rw [List.getD_eq_getElem?_getD, List.getElem?_eq_getElem (by rw [Tr.sz_len]; exact hi)]
  exact h t _ (List.getElem_mem _)

theorem enc_szs (t : Tr) : t.ok → ∀ (acc : List Nat) (p : Nat), acc.length = p → (t.enc p).foldl (fun acc m => acc ++ [blk acc m]) acc = acc ++ t.sz := by
  induction t with
  | leaf op x y =>
    intro ok acc p hp
    have h0 : nc op = 0 := ok.2.1
    simp [Tr.enc, Tr.sz, blk, h0]
  | un op x a ih =>
    intro ok acc p hp
    have h0 : nc op = 1 := ok.1.2.1
    have hs := a.size_pos
    rw [Tr.enc, List.foldl_append, ih ok.2 acc p hp]
    simp only [List.foldl_cons, List.foldl_nil, Tr.sz, List.append_assoc]
    have hl : (acc ++ a.sz).length = p + a.size := by rw [List.length_append, Tr.sz_len, hp]
    have h1 : (acc ++ a.sz).getD (p + a.size - 1) 0 = a.size := by
      rw [List.getD_eq_getElem?_getD, List.getElem?_append_right (by omega), hp, show p + a.size - 1 - p = a.size - 1 by omega, Tr.sz_last]; rfl
    congr 2
    unfold blk
    simp only [h0, hl, h1]
    rw [if_neg (by omega), if_neg (by omega), if_neg (by omega), if_pos trivial, if_pos ⟨by omega, trivial⟩, Nat.add_comm]
  | bin op a b iha ihb =>
    intro ok acc p hp
    have h0 : nc op = 2 := ok.1
    have hs := a.size_pos
    have hs2 := b.size_pos
    rw [Tr.enc, List.foldl_append, iha ok.2.1 acc p hp, List.foldl_append, ihb ok.2.2 (acc ++ a.sz) (p + a.size) (by rw [List.length_append, Tr.sz_len, hp])]
    simp only [List.foldl_cons, List.foldl_nil, Tr.sz, List.append_assoc]
    have hl : (acc ++ (a.sz ++ b.sz)).length = p + a.size + b.size := by rw [List.length_append, List.length_append, Tr.sz_len, Tr.sz_len, hp]; omega
    have h1 : (acc ++ (a.sz ++ b.sz)).getD (p + a.size + b.size - 1) 0 = b.size := by
      rw [List.getD_eq_getElem?_getD, List.getElem?_append_right (by omega), List.getElem?_append_right (by rw [Tr.sz_len]; omega), hp, Tr.sz_len, show p + a.size + b.size - 1 - p - a.size = b.size - 1 by omega, Tr.sz_last]; rfl
    have h2 : (acc ++ (a.sz ++ b.sz)).getD (p + a.size + b.size - b.size - 1) 0 = a.size := by
      rw [List.getD_eq_getElem?_getD, List.getElem?_append_right (by omega), List.getElem?_append_left (by rw [Tr.sz_len]; omega), hp, show p + a.size + b.size - b.size - 1 - p = a.size - 1 by omega, Tr.sz_last]; rfl
    congr 3
    unfold blk
    simp only [h0, hl, h1, h2]
    rw [if_neg (by omega), if_neg (by omega), if_neg (by omega), if_neg (by omega), if_neg (by omega), if_neg (by omega), if_pos ⟨by omega, by omega⟩]
    congr 1
    omega
theorem szs_enc (t : Tr) (ok : t.ok) : szs (t.enc 0) = t.sz := by simpa [szs] using enc_szs t ok [] 0 rfl

theorem chkList_of (vars : Int) (known : Int → Bool) : ∀ (f : List Mk) (ss : List Nat), (∀ i m, f[i]? = some m → i < ss.length → chkNode vars known m (ss.getD i 0) = 0) → chkList vars known f ss = 0
  | [], _, _ => by simp [chkList]
  | m :: f, [], _ => by simp [chkList]
  | m :: f, s :: ss, h => by
    rw [chkList, if_pos (by simpa using h 0 m rfl (by simp))]
    exact chkList_of vars known f ss fun i a ha hi => by simpa using h (i + 1) a (by simpa using ha) (by simpa using hi)
theorem chkNode_mk {vars : Int} {known : Int → Bool} {m : Mk} {s : Nat} (h1 : nm m.op ≠ []) (h2 : known m.op = true) (h3 : within m vars = true) (h4 : spare m = true) (h5 : s ≠ 0) : chkNode vars known m s = 0 := by
  unfold chkNode
  rw [if_neg h1, if_neg (by simp [h2]), if_neg (by simp [h3]), if_neg (by simp [h4]), if_neg h5]
theorem Tr.enc_node (t : Tr) : t.ok → ∀ p, ∀ m ∈ t.enc p, nm m.op ≠ [] ∧ within m 6 = true ∧ spare m = true := by
  induction t with
  | leaf op x y => intro ok p m hm; simp only [Tr.enc, List.mem_singleton] at hm; subst hm; exact ⟨ok.1, ok.2.2.1, ok.2.2.2⟩
  | un op x a ih =>
    intro ok p m hm
    simp only [Tr.enc, List.mem_append, List.mem_singleton] at hm
    rcases hm with hm | hm
    · exact ih ok.2 p m hm
    · subst hm; exact ⟨ok.1.1, ok.1.2.2.1, ok.1.2.2.2⟩
  | bin op a b iha ihb =>
    intro ok p m hm
    simp only [Tr.enc, List.mem_append, List.mem_singleton] at hm
    rcases hm with hm | hm | hm
    · exact iha ok.2.1 p m hm
    · exact ihb ok.2.2 _ m hm
    · subst hm
      obtain ⟨v0, o1⟩ := nv_of_nc2 op ok.1
      exact ⟨o1, by simp [within, v0], by simp [spare]⟩
theorem chk_enc (t : Tr) (ok : t.ok) (hs : t.size ≤ 64) (vars : Int) (known : Int → Bool) (hk : ∀ m ∈ t.enc 0, known m.op = true) (hw : ∀ m ∈ t.enc 0, within m vars = true) : chk (t.enc 0) vars known = 0 := by
  have hp := t.size_pos
  unfold chk
  rw [Tr.enc_len, if_neg (by omega), if_neg (by omega), szs_enc t ok]
  rw [if_pos]
  · rw [List.getD_eq_getElem?_getD, Tr.sz_last]; simp
  · refine chkList_of _ _ _ _ fun i m hm hi => ?_
    have hmem := List.mem_of_getElem? hm
    obtain ⟨a, b, c⟩ := t.enc_node ok 0 m hmem
    exact chkNode_mk a (hk m hmem) (hw m hmem) c (t.sz_pos i (by rw [← Tr.sz_len]; exact hi))
theorem formed_enc (t : Tr) (ok : t.ok) (hs : t.size ≤ 64) : formedS (t.enc 0) = true :=
  decide_eq_true (chk_enc t ok hs 6 _ (fun _ _ => rfl) fun m hm => (t.enc_node ok 0 m hm).2.1)

/-- The text of a formula, as Format builds it. -/
def textS (f : List Mk) : List UInt8 := (stk f f.length).headD []
theorem text_enc (t : Tr) (ok : t.ok) : textS (t.enc 0) = t.text := by
  unfold textS stk
  rw [List.take_length, (t.enc_fmt ok 0 []).2]; rfl
theorem formed_is (f : List Mk) (hf : formedS f = true) : ∃ t : Tr, t.ok ∧ t.size ≤ 64 ∧ f = t.enc 0 ∧ textS f = t.text := by
  obtain ⟨hl, t, ok, hs, he⟩ := formed_tree f hf
  exact ⟨t, ok, by omega, he, by rw [he, text_enc t ok]⟩

theorem sum_ones : ∀ l : List Int, (l.map fun _ => 1).sum = l.length
  | [] => rfl
  | _ :: l => by simp only [List.map_cons, List.sum_cons, sum_ones l, List.length_cons]; omega
theorem Tr.text_len (t : Tr) : t.ok → t.text.length ≤ 20 * t.size := by
  induction t with
  | leaf op x y =>
    intro ok
    have h1 := nm_len op
    rw [Tr.text]
    split
    · simp only [Tr.size]; omega
    · have h2 := join_len (nm op :: (occ ⟨op, x, y, 0, 0⟩).map varB ++ [])
      have h3 := occ_len ⟨op, x, y, 0, 0⟩
      have e : ((nm op :: (occ ⟨op, x, y, 0, 0⟩).map varB ++ ([] : List (List UInt8)))).length = 1 + (occ ⟨op, x, y, 0, 0⟩).length := by simp; omega
      have e2 : tot (nm op :: (occ ⟨op, x, y, 0, 0⟩).map varB ++ ([] : List (List UInt8))) = (nm op).length + (occ ⟨op, x, y, 0, 0⟩).length := by
        generalize occ ⟨op, x, y, 0, 0⟩ = l
        simp only [tot, List.append_nil, List.map_cons, List.sum_cons, List.map_map, Function.comp_def, varB, List.length_singleton, sum_ones]
      simp only [fmtNode, List.length_append, List.length_singleton, Tr.size]
      omega
  | un op x a ih =>
    intro ok
    have h0 := ih ok.2
    have h1 := nm_len op
    have h2 := join_len (nm op :: (occ ⟨op, x, 0, 0, 0⟩).map varB ++ [a.text])
    have h3 := occ_len ⟨op, x, 0, 0, 0⟩
    have h4 : (occ ⟨op, x, 0, 0, 0⟩).length ≤ 1 := by
      have := nv_of_nc1 op ok.1.2.1
      unfold occ
      rw [List.length_take]
      simp only
      omega
    have e : ((nm op :: (occ ⟨op, x, 0, 0, 0⟩).map varB ++ [a.text])).length = 2 + (occ ⟨op, x, 0, 0, 0⟩).length := by simp; omega
    have e2 : tot (nm op :: (occ ⟨op, x, 0, 0, 0⟩).map varB ++ [a.text]) = (nm op).length + (occ ⟨op, x, 0, 0, 0⟩).length + a.text.length := by
      generalize occ ⟨op, x, 0, 0, 0⟩ = l
      simp only [tot, List.map_append, List.sum_append, List.map_cons, List.sum_cons, List.map_map, Function.comp_def, varB, List.length_singleton, sum_ones]
      simp <;> omega
    rw [Tr.text]
    simp only [fmtNode, List.length_append, List.length_singleton, Tr.size]
    omega
  | bin op a b iha ihb =>
    intro ok
    have h0 := iha ok.2.1
    have h0' := ihb ok.2.2
    have h1 := nm_len op
    have h2 := join_len (nm op :: (occ ⟨op, 0, 0, 0, 0⟩).map varB ++ [a.text, b.text])
    have h4 : occ ⟨op, 0, 0, 0, 0⟩ = [] := occ0 (nv_of_nc2 op ok.1).1
    rw [h4] at h2
    have e2 : tot (nm op :: ([] : List Int).map varB ++ [a.text, b.text]) = (nm op).length + a.text.length + b.text.length := by
      simp [tot]; omega
    have e3 : (nm op :: ([] : List Int).map varB ++ [a.text, b.text]).length = 3 := rfl
    rw [Tr.text]
    simp only [fmtNode, h4, List.length_append, List.length_singleton, Tr.size]
    omega

/-- The stage's theorem: Parse inverts Format. -/
theorem parse_text (f : List Mk) (hf : formedS f = true) : parseS (textS f) = (f, 0, 0) := by
  obtain ⟨t, ok, hs, he, ht⟩ := formed_is f hf
  have hl := t.text_len ok
  unfold parseS
  rw [ht, if_neg (by omega), form_text t.text t ok 65 0 0 ⟨[], by simp⟩ (by omega) (by omega) (fun c hc => by simp at hc)]
  simp only [Nat.zero_add]
  rw [if_neg (by omega), ← he]
/-- What is parsed is a formed formula with that text; an error lies in the text. -/
theorem parse_exact (s : List UInt8) : (((parseS s).2.2 = 0 ∧ formedS (parseS s).1 = true ∧ textS (parseS s).1 = s ∧ (parseS s).2.1 = 0) ∨
    ((parseS s).1 = [] ∧ (parseS s).2.2 ≠ 0 ∧ (parseS s).2.1 ≤ s.length ∧ (s.length ≤ 4096 → ((parseS s).2.2 = 3 ↔ (parseS s).2.1 = s.length)))) := by
  unfold parseS
  by_cases h : 4096 < s.length
  · rw [if_pos h]
    exact .inr ⟨rfl, by simp, by simp, by omega⟩
  rw [if_neg h]
  have g := form_good s 65 0 0 (by omega) (by omega) (by omega)
  cases hf : form s 65 0 0 with
  | err p e =>
    rw [hf] at g
    obtain ⟨g1, g2, g3, g4⟩ := g
    exact .inr ⟨rfl, by simp only; omega, g1, fun _ => g4⟩
  | ok p a =>
    rw [hf] at g
    obtain ⟨g1, g2, ok, g3, g4, g5⟩ := g
    simp only
    by_cases hp : p < s.length
    · rw [if_pos hp]
      exact .inr ⟨rfl, by simp, by simp only; omega, fun _ => by simp only; omega⟩
    · rw [if_neg hp]
      refine .inl ⟨rfl, formed_enc a.2 ok (by omega), ?_, rfl⟩
      simp only
      rw [text_enc a.2 ok]
      obtain ⟨r, hr⟩ := g5
      rw [List.drop_zero] at hr
      have : r = [] := by
        apply List.eq_nil_of_length_eq_zero
        have := congrArg List.length hr
        rw [List.length_append] at this
        omega
      rw [hr, this, List.append_nil]
end Go.Proofs.YtcjblbhmajdmjaaDoor
