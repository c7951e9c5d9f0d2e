/- Plain laws for ModelExists: quantifiers are changes of the bits of their variable. No program in sight. -/
import Derived.Test.YtdlibehffgfhlaaDoorMBoP
set_option linter.unusedSimpArgs false
set_option linter.unusedVariables false
namespace Go.Proofs.YtdlibehffgfhlaaDoor

/-- A letter with another bit x. -/
def chgL (x c b : Nat) : Nat := (c - c / 2 ^ x % 2 * 2 ^ x) + b * 2 ^ x
theorem chgL_bits : ∀ x, x < 3 → ∀ c, c < 8 → ∀ b, b < 2 → chgL x c b < 8 ∧ ∀ v, v < 6 → chgL x c b / 2 ^ v % 2 = if v = x then b else c / 2 ^ v % 2 := by decide +kernel
def chgW (x n : Nat) (l : List Nat) : List Nat := l.zipIdx.map fun p => chgL x p.1 (n / 2 ^ p.2 % 2)
theorem chgW_len (x n : Nat) (l : List Nat) : (chgW x n l).length = l.length := by simp [chgW]
theorem chgW_snoc (x n : Nat) (l : List Nat) (c : Nat) : chgW x n (l ++ [c]) = chgW x n l ++ [chgL x c (n / 2 ^ l.length % 2)] := by
  unfold chgW; rw [List.zipIdx_append]; simp
theorem chgW_get (x n : Nat) (l : List Nat) (k c : Nat) (h : l[k]? = some c) : (chgW x n l)[k]? = some (chgL x c (n / 2 ^ k % 2)) := by
  unfold chgW
  rw [List.getElem?_map, List.getElem?_zipIdx, h]
  simp
theorem chgW_lt (x n : Nat) (hx : x < 3) (l : List Nat) (h8 : ∀ c ∈ l, c < 8) : ∀ c ∈ chgW x n l, c < 8 := fun c hc => by
  obtain ⟨k, hk⟩ := List.getElem?_of_mem hc
  have hkl : k < l.length := by have := (List.getElem?_eq_some_iff.1 hk).1; rwa [chgW_len] at this
  rw [chgW_get x n l k l[k] (List.getElem?_eq_getElem hkl)] at hk
  cases hk
  exact (chgL_bits x hx _ (h8 _ (List.getElem_mem hkl)) _ (Nat.mod_lt _ (by omega))).1
/-- The first k letters changed. -/
def chgP (x n : Nat) (l : List Nat) (k : Nat) : List Nat := chgW x n (l.take k) ++ l.drop k
theorem chgP_zero (x n : Nat) (l : List Nat) : chgP x n l 0 = l := by simp [chgP, chgW]
theorem chgP_all (x n : Nat) (l : List Nat) : chgP x n l l.length = chgW x n l := by simp [chgP]
theorem chgP_len (x n : Nat) (l : List Nat) (k : Nat) : (chgP x n l k).length = l.length := by simp [chgP, chgW_len]; omega
theorem chgP_at (x n : Nat) {l : List Nat} {k c : Nat} (h : l[k]? = some c) : (chgP x n l k)[k]? = some c := by
  have hk := (List.getElem?_eq_some_iff.1 h).1
  unfold chgP
  rw [List.getElem?_append_right (by rw [chgW_len]; simp; omega), chgW_len, List.length_take, Nat.min_eq_left (by omega), Nat.sub_self, List.getElem?_drop, Nat.add_zero, h]
theorem chgP_step (x n : Nat) {l : List Nat} {k c : Nat} (h : l[k]? = some c) : (chgP x n l k).set k (chgL x c (n / 2 ^ k % 2)) = chgP x n l (k + 1) := by
  have hk := (List.getElem?_eq_some_iff.1 h).1
  have hc := (List.getElem?_eq_some_iff.1 h).2
  unfold chgP
  rw [List.set_append_right _ _ (by rw [chgW_len]; simp; omega), chgW_len, List.length_take, Nat.min_eq_left (by omega), Nat.sub_self, List.drop_eq_getElem_cons hk, hc, List.set_cons_zero, List.take_add_one, h]
  simp only [Option.toList_some]
  rw [chgW_snoc, List.length_take, Nat.min_eq_left (by omega)]
  simp

theorem givenV_chg (x n v : Nat) (hx : x < 3) (hv : v < 6) (l : List Nat) (h8 : ∀ c ∈ l, c < 8) : givenV (chgW x n l) v = if v = x then n % 2 ^ l.length else givenV l v := by
  have key : ∀ k, k ≤ l.length → givenV (chgW x n (l.take k)) v = if v = x then n % 2 ^ k else givenV (l.take k) v := by
    intro k
    induction k with
    | zero => intro _; simp [chgW, givenV, Nat.mod_one]
    | succ k ih =>
      intro hk
      have h := ih (by omega)
      obtain ⟨c, hc⟩ : ∃ c, l[k]? = some c := ⟨l[k], List.getElem?_eq_getElem (by omega)⟩
      rw [List.take_add_one, hc]
      simp only [Option.toList_some]
      rw [chgW_snoc, givenV_snoc, givenV_snoc, h, chgW_len, List.length_take, Nat.min_eq_left (by omega)]
      have hb := (chgL_bits x hx c (h8 c (List.mem_of_getElem? hc)) (n / 2 ^ k % 2) (Nat.mod_lt _ (by omega))).2 v hv
      rw [hb]
      by_cases e : v = x
      · simp only [if_pos e]
        rw [Nat.mod_pow_succ, Nat.mul_comm]
      · simp only [if_neg e]
  have := key l.length (Nat.le_refl _)
  rwa [List.take_length] at this
theorem givenS_chg (x n : Nat) (hx : x < 3) (l : List Nat) (h8 : ∀ c ∈ l, c < 8) (hn : n < 2 ^ l.length) : givenS (chgW x n l) = setV (givenS l) x n := by
  have g := fun v hv => givenV_chg x n v hx hv l h8
  rw [Nat.mod_eq_of_lt hn] at g
  rw [givenS_eq, givenS_eq, g 0 (by omega), g 1 (by omega), g 2 (by omega), g 3 (by omega), g 4 (by omega), g 5 (by omega)]
  have hx3 : x = 0 ∨ x = 1 ∨ x = 2 := by omega
  rcases hx3 with rfl | rfl | rfl <;> simp [setV]

/-- The number of ones among the first k bits. -/
def onesK (n : Nat) : Nat → Nat
  | 0 => 0
  | k + 1 => onesK n k + n / 2 ^ k % 2
theorem onesK_le (n k : Nat) : onesK n k ≤ k := by
  induction k with
  | zero => simp [onesK]
  | succ k ih => simp only [onesK]; omega
theorem ones_one : ∀ len, len < 5 → ∀ n, n < 16 → n < 2 ^ len → decide (onesK n len = 1) = (List.range len).any (fun p => decide (n = 2 ^ p)) := by decide +kernel
def someX (T : Nat → Bool) (n : Nat) : Bool := (List.range n).any T
def everyX (T : Nat → Bool) (n : Nat) : Bool := (List.range n).all T
def oneX (T : Nat → Bool) (len n : Nat) : Bool := (List.range n).any fun s => decide (onesK s len = 1) && T s
def eachX (T : Nat → Bool) (len n : Nat) : Bool := (List.range n).all fun s => !decide (onesK s len = 1) || T s
theorem someX_succ (T : Nat → Bool) (n : Nat) : someX T (n + 1) = (someX T n || T n) := by simp [someX, List.range_succ]
theorem everyX_succ (T : Nat → Bool) (n : Nat) : everyX T (n + 1) = (everyX T n && T n) := by simp [everyX, List.range_succ]
theorem oneX_succ (T : Nat → Bool) (len n : Nat) : oneX T len (n + 1) = (oneX T len n || (decide (onesK n len = 1) && T n)) := by simp [oneX, List.range_succ]
theorem eachX_succ (T : Nat → Bool) (len n : Nat) : eachX T len (n + 1) = (eachX T len n && (!decide (onesK n len = 1) || T n)) := by simp [eachX, List.range_succ]
theorem pow_le16 {len : Nat} (h : len ≤ 4) : 2 ^ len ≤ 16 := Nat.pow_le_pow_right (by omega) h
theorem oneX_any (T : Nat → Bool) (len : Nat) (h : len ≤ 4) : oneX T len (2 ^ len) = (List.range len).any fun p => T (2 ^ p) := by
  have h16 := pow_le16 h
  rw [Bool.eq_iff_iff]
  simp only [oneX, List.any_eq_true, List.mem_range, Bool.and_eq_true]
  constructor
  · rintro ⟨s, hs, h1, h2⟩
    rw [ones_one len (by omega) s (by omega) hs] at h1
    simp only [List.any_eq_true, List.mem_range, decide_eq_true_eq] at h1
    obtain ⟨p, hp, rfl⟩ := h1
    exact ⟨p, hp, h2⟩
  · rintro ⟨p, hp, h2⟩
    have hlt : 2 ^ p < 2 ^ len := Nat.pow_lt_pow_right (by omega) hp
    refine ⟨2 ^ p, hlt, ?_, h2⟩
    rw [ones_one len (by omega) (2 ^ p) (by omega) hlt]
    simp only [List.any_eq_true, List.mem_range, decide_eq_true_eq]
    exact ⟨p, hp, rfl⟩
theorem eachX_all (T : Nat → Bool) (len : Nat) (h : len ≤ 4) : eachX T len (2 ^ len) = (List.range len).all fun p => T (2 ^ p) := by
  have h1 := oneX_any (fun s => !T s) len h
  have e1 : eachX T len (2 ^ len) = !(oneX (fun s => !T s) len (2 ^ len)) := by
    unfold eachX oneX
    rw [List.not_any_eq_all_not]
    congr 1
    funext s
    cases decide (onesK s len = 1) <;> simp
  have e2 : ((List.range len).all fun p => T (2 ^ p)) = !((List.range len).any fun p => !T (2 ^ p)) := by
    rw [List.not_any_eq_all_not]; simp
  rw [e1, e2, h1]

def truthX (a : List Mk) (l : List Nat) (x n : Nat) : Bool := holdsT (stcWord l.length) (treeOf a) (setV (givenS l) x n)
def wantX (a : List Mk) (l : List Nat) (x : Nat) (k : Nat) : Bool :=
  if k = 0 then someX (truthX a l x) (2 ^ l.length) else if k = 1 then everyX (truthX a l x) (2 ^ l.length) else if k = 2 then oneX (truthX a l x) l.length (2 ^ l.length) else eachX (truthX a l x) l.length (2 ^ l.length)

theorem bad8x {l : List Nat} (h : ∀ x ∈ l, x < 8) : l.any (badL 3) = false := by
  rw [List.any_eq_false]
  intro x hx
  have := h x hx
  simp only [badL, ne_eq, decide_eq_true_eq, Decidable.not_not]
  have e : (2 : Int) ^ (3 : Int).toNat = 8 := by decide
  rw [e]; omega
/-- The law: either no changed word is judged, or all are, and the quantified formulas have the wanted truth values. -/
theorem exists_law (a : List Mk) (l : List Nat) (x : Nat) (hx : x < 3) (ha : a.length ≤ 30) (hl : l.length ≤ 4) (h8 : ∀ c ∈ l, c < 8) :
    (∃ e : Int, e ≠ 0 ∧ ∀ n, wordS a 3 (chgW x n l) = (false, e)) ∨
    ((∀ n, n < 2 ^ l.length → wordS a 3 (chgW x n l) = (truthX a l x n, 0)) ∧
      ∀ k : Nat, k < 4 → ∃ g, bindS (12 + (k : Int)) x a = (g, 0) ∧ (wordS g 3 l = (false, 10) ∨ wordS g 3 l = (wantX a l x k, 0))) := by
  by_cases hc : checkS a 3 false = 0
  · have hw := fun n => wordS_at (f := a) (vars := 3) (l := chgW x n l) (t := treeOf a) hc (by rw [chgW_len]; omega) (bad8x (chgW_lt x n hx l h8)) rfl
    simp only [chgW_len] at hw
    by_cases hcost : 65536 < costT l.length (treeOf a)
    · exact .inl ⟨10, by omega, fun n => by rw [hw n, if_pos hcost]⟩
    · right
      refine ⟨fun n hn => by rw [hw n, if_neg hcost, givenS_chg x n hx l h8 hn]; rfl, fun k hk => ?_⟩
      obtain ⟨_, hf, hn⟩ := (check_iff a 3 false).1 hc
      obtain ⟨_, ok, hs, he⟩ := treeOf_ok hf
      have hT : truthX a l x = fun n => holdsT (stcWord l.length) (treeOf a) (setV (givenS l) x n) := rfl
      generalize treeOf a = t at *
      have hq : isQ (12 + (k : Int)) = true := by
        have : k = 0 ∨ k = 1 ∨ k = 2 ∨ k = 3 := by omega
        rcases this with rfl | rfl | rfl | rfl <;> rfl
      have hw2 := wrap_enc t ok (12 + (k : Int)) x (by omega)
      rw [← he] at hw2
      refine ⟨_, (by unfold bindS; rw [if_neg (by simp [hq]), if_neg (by omega)]; exact hw2), ?_⟩
      have okn : (Tr.un (12 + (k : Int)) x t).ok := un_ok (.inr ⟨by omega, by omega, by omega, by omega⟩) ok
      have hck : checkS ((Tr.un (12 + (k : Int)) x t).enc 0) 3 false = 0 := by
        refine (check_iff _ _ _).2 ⟨by simp, formed_enc _ okn (by simp only [Tr.size]; omega), fun m hm => ?_⟩
        simp only [Tr.enc, List.mem_append, List.mem_singleton] at hm
        rcases hm with hm | rfl
        · exact hn m (by rw [he]; exact hm)
        · have hk4 : k = 0 ∨ k = 1 ∨ k = 2 ∨ k = 3 := by omega
          have hx4 : x = 0 ∨ x = 1 ∨ x = 2 := by omega
          rcases hk4 with rfl | rfl | rfl | rfl <;> rcases hx4 with rfl | rfl | rfl <;> simp [knows, within, nv]
      rw [wordS_at hck (by omega) (bad8x h8) (treeOf_eq _ okn)]
      split
      · exact .inl rfl
      · right
        have hset : setN l.length = 2 ^ l.length := by
          unfold setN
          have := pow_le16 hl
          exact Nat.mod_eq_of_lt (by omega)
        have hsn : (stcWord l.length).n = l.length := rfl
        have hk4 : k = 0 ∨ k = 1 ∨ k = 2 ∨ k = 3 := by omega
        rcases hk4 with rfl | rfl | rfl | rfl
        · simp [holdsT, wantX, hsn, hset, someX, hT]
        · simp [holdsT, wantX, hsn, hset, everyX, hT]
        · simp only [wantX]
          rw [oneX_any _ _ hl, hT]
          simp [holdsT, hsn]
        · simp only [wantX]
          rw [eachX_all _ _ hl, hT]
          simp [holdsT, hsn]
  · left
    refine ⟨checkS a 3 false, hc, fun n => ?_⟩
    unfold wordS
    rw [if_pos hc]

/-- The byte that the program stores. -/
theorem byte_chg : ∀ x, x < 3 → ∀ c, c < 8 → ∀ b, b < 2 → ((c &&& (255 - 2 ^ x)) ||| (b * 2 ^ x)) = chgL x c b := by decide +kernel
end Go.Proofs.YtdlibehffgfhlaaDoor
