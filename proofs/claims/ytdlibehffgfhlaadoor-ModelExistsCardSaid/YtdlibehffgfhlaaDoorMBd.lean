/- ModelBound: for every formula and words the law returns true. (Printed by gen_bound.py.) -/
import Derived.Test.YtdlibehffgfhlaaDoorMdlG
import Derived.Test.YtdlibehffgfhlaaDoorMBoP
import Derived.Test.YtdlibehffgfhlaaDoorFree
import Derived.Test.YtdlibehffgfhlaaDoorKit
set_option linter.unusedSimpArgs false
set_option linter.unusedVariables false
namespace Go.Proofs.YtdlibehffgfhlaaDoor
open Go.RowKit

/-- The marks of a tree lie in f from place p on. -/
def Lies (f : List Mk) (p : Nat) (t : Tr) : Prop := ∀ j m, (t.enc p)[j]? = some m → f[p + j]? = some m
theorem Lies.self (t : Tr) : Lies (t.enc 0) 0 t := fun j m h => by rw [Nat.zero_add]; exact h
theorem Lies.leaf {f : List Mk} {p : Nat} {op x y : Int} (h : Lies f p (.leaf op x y)) : f[p]? = some ⟨op, x, y, 0, 0⟩ := h 0 _ rfl
theorem Lies.un {f : List Mk} {p : Nat} {op x : Int} {a : Tr} (h : Lies f p (.un op x a)) : Lies f p a ∧ f[p + a.size]? = some ⟨op, x, 0, ((p + a.size - 1 : Nat) : Int), 0⟩ := by
  constructor
  · intro j m hj
    refine h j m ?_
    rw [Tr.enc, List.getElem?_append_left (List.getElem?_eq_some_iff.1 hj).1]; exact hj
  · refine h a.size _ ?_
    rw [Tr.enc, List.getElem?_append_right (by rw [Tr.enc_len]; omega), Tr.enc_len]; simp
theorem Lies.bin {f : List Mk} {p : Nat} {op : Int} {a b : Tr} (h : Lies f p (.bin op a b)) : Lies f p a ∧ Lies f (p + a.size) b ∧ f[p + a.size + b.size]? = some ⟨op, 0, 0, ((p + a.size - 1 : Nat) : Int), ((p + a.size + b.size - 1 : Nat) : Int)⟩ := by
  refine ⟨?_, ?_, ?_⟩
  · intro j m hj
    refine h j m ?_
    rw [Tr.enc, List.getElem?_append_left (List.getElem?_eq_some_iff.1 hj).1]; exact hj
  · intro j m hj
    rw [Nat.add_assoc]
    refine h (a.size + j) m ?_
    rw [Tr.enc, List.getElem?_append_right (by rw [Tr.enc_len]; omega), Tr.enc_len, Nat.add_sub_cancel_left, List.getElem?_append_left (List.getElem?_eq_some_iff.1 hj).1]; exact hj
  · rw [Nat.add_assoc]
    refine h (a.size + b.size) _ ?_
    rw [Tr.enc, List.getElem?_append_right (by rw [Tr.enc_len]; omega), Tr.enc_len, List.getElem?_append_right (by rw [Tr.enc_len]; omega), Tr.enc_len]; simp; omega
theorem Lies.last {f : List Mk} {p : Nat} {t : Tr} (h : Lies f p t) : p + t.size - 1 < f.length := by
  have hp := t.size_pos
  have hl := t.enc_len p
  obtain ⟨m, hm⟩ : ∃ m, (t.enc p)[t.size - 1]? = some m := ⟨(t.enc p)[t.size - 1]'(by omega), List.getElem?_eq_getElem _⟩
  have := (List.getElem?_eq_some_iff.1 (h _ m hm)).1
  omega
def frT (v : Int) : Tr → Bool
  | .leaf op x y => (decide (0 < nv op) && (x == v)) || (decide (1 < nv op) && (y == v))
  | .un op x a => if 12 ≤ op then (x != v) && frT v a else frT v a
  | .bin _ a b => frT v a || frT v b
theorem bit_orv (ab : List Int) (s : Nat) (u v : Int) (hu : 0 ≤ u) (hv : 0 ≤ v) : (orv ab s u).testBit v.toNat = (s.testBit v.toNat || ((u == v) && !ab.contains v)) := by
  unfold orv
  by_cases h : ab.contains u = true
  · rw [if_pos h]
    by_cases e : u = v
    · subst e; rw [h]; simp
    · simp [e]
  · rw [if_neg h, Nat.testBit_or, Nat.one_shiftLeft, Nat.testBit_two_pow]
    by_cases e : u = v
    · subst e
      have h' : ab.contains u = false := by simpa using h
      rw [h']; simp
    · have : ¬ u.toNat = v.toNat := by omega
      simp [e, this]
theorem isQ_of {op : Int} (h : nm op ≠ []) : isQ op = decide (12 ≤ op) := by
  have := nm_range h
  unfold isQ
  rw [Bool.eq_iff_iff]; simp; omega
theorem contains_snoc (ab : List Int) (z v : Int) : (ab ++ [z]).contains v = (ab.contains v || (z == v)) := by
  rw [Bool.eq_iff_iff, Bool.or_eq_true, List.contains_iff_mem, List.contains_iff_mem, List.mem_append, List.mem_singleton, beq_iff_eq]
  exact ⟨fun h => h.elim .inl fun e => .inr e.symm, fun h => h.elim .inl fun e => .inr e.symm⟩
theorem has1 (u x : Int) : [u].contains x = (u == x) := by
  rw [Bool.eq_iff_iff, List.contains_iff_mem, List.mem_singleton, beq_iff_eq]
  exact eq_comm
theorem has2 (u v x : Int) : [u, v].contains x = ((u == x) || (v == x)) := by
  rw [Bool.eq_iff_iff, Bool.or_eq_true, List.contains_iff_mem, List.mem_cons, List.mem_singleton, beq_iff_eq, beq_iff_eq]
  exact ⟨fun h => h.elim (fun e => .inl e.symm) fun e => .inr e.symm, fun h => h.elim (fun e => .inl e.symm) fun e => .inr e.symm⟩
theorem bl1 : ∀ c b1 b2 b3 b4 : Bool, (c || b1 && (b2 || b3) || b4) = (c || true && b1 && b2 || (b3 && b1 || b4)) := by decide
theorem bl2 : ∀ c b1 b2 b3 b4 b5 : Bool, (c || b1 && b3 || b4 || b2 && b3 || b5) = (c || (b1 || b2) && b3 || (b4 || b5)) := by decide
theorem trav_free (f : List Mk) (v : Int) (hv : 0 ≤ v) (t : Tr) : t.ok → ∀ p ab s, Lies f p t → (trav (stepF f) p ab t s).testBit v.toNat = (s.testBit v.toNat || (frT v t && !ab.contains v)) := by
  induction t with
  | leaf op x y =>
    intro ok p ab s hl
    have hm := hl.leaf
    have hw := ok.2.2.1
    simp only [within, Bool.and_eq_true, Bool.or_eq_true, decide_eq_true_eq] at hw
    simp only [trav, stepF, hm, frT]
    rcases nv_cases op with h | h | h
    · rw [occ0 (by exact h), h]; simp
    · rw [occ1 (by exact h), h]
      simp only [List.foldl_cons, List.foldl_nil]
      rw [bit_orv _ _ _ _ (by omega) hv]
      simp
    · rw [occ2 (by exact h), h]
      simp only [List.foldl_cons, List.foldl_nil]
      rw [bit_orv _ _ _ _ (by omega) hv, bit_orv _ _ _ _ (by omega) hv]
      generalize s.testBit v.toNat = b1
      generalize (x == v) = b2
      generalize (y == v) = b3
      generalize ab.contains v = b4
      simp only [show decide ((0 : Int) < 2) = true from rfl, show decide ((1 : Int) < 2) = true from rfl]
      revert b1 b2 b3 b4; decide
  | un op x a ih =>
    intro ok p ab s hl
    obtain ⟨h1, h2⟩ := hl.un
    simp only [trav, frT]
    rw [ih ok.2 p _ s h1, isQ_of ok.1.1]
    by_cases h12 : 12 ≤ op
    · rw [if_pos (by simpa using h12), if_pos h12, contains_snoc]
      simp only [bne]
      generalize s.testBit v.toNat = b1
      generalize (x == v) = b2
      generalize frT v a = b3
      generalize ab.contains v = b4
      revert b1 b2 b3 b4; decide
    · rw [if_neg (by simpa using h12), if_neg h12]
  | bin op a b iha ihb =>
    intro ok p ab s hl
    obtain ⟨h1, h2, _⟩ := hl.bin
    simp only [trav, frT]
    rw [ihb ok.2.2 _ _ _ h2, iha ok.2.1 _ _ _ h1]
    generalize s.testBit v.toNat = b1
    generalize frT v a = b2
    generalize frT v b = b3
    generalize ab.contains v = b4
    revert b1 b2 b3 b4; decide


theorem frT_free (v : Nat) : ∀ t : Tr, t.ok → freeT v t = frT (v : Int) t := by
  intro t
  induction t with
  | leaf op x y =>
    intro ok
    obtain ⟨⟨X, rfl, _⟩, ⟨Y, rfl, _⟩⟩ := leaf_vars ok
    simp only [freeT, frT, Int.toNat_natCast]
    have e1 : ((X : Int) == v) = decide (X = v) := by rw [Bool.eq_iff_iff]; simp; omega
    have e2 : ((Y : Int) == v) = decide (Y = v) := by rw [Bool.eq_iff_iff]; simp; omega
    rw [e1, e2]
  | un op x a ih =>
    intro ok
    obtain ⟨X, rfl, _⟩ := un_var ok.1
    simp only [freeT, frT, Int.toNat_natCast]
    have e1 : ((X : Int) != v) = decide (X ≠ v) := by rw [Bool.eq_iff_iff]; simp; omega
    have h5 := nc1_op ok.1.2.1
    rw [ih ok.2, e1]
    by_cases h9 : op = 9
    · rw [if_pos h9, if_neg (by omega)]
    · rw [if_neg h9, if_pos (by omega)]
  | bin op a b iha ihb =>
    intro ok
    simp only [freeT, frT]
    rw [iha ok.2.1, ihb ok.2.2]
/-- A free variable's bit stands in the word of Free. -/
theorem free_bit {f : List Mk} (hf : formedS f = true) (v : Nat) : (freeS f (treeOf f)).testBit v = freeT v (treeOf f) := by
  obtain ⟨_, ok, hs, he⟩ := treeOf_ok hf
  have hl : Lies f 0 (treeOf f) := by
    intro j m hj
    rw [Nat.zero_add]
    conv => lhs; rw [he]
    exact hj
  have := trav_free f v (by omega) (treeOf f) ok 0 [] 0 hl
  rw [frT_free v _ ok]
  unfold freeS
  simpa using this
theorem free_small {f : List Mk} (hc : checkS f 3 false = 0) (v : Nat) (h : freeT v (treeOf f) = true) : v < 3 := by
  obtain ⟨_, hf, hn⟩ := (check_iff f 3 false).1 hc
  obtain ⟨_, ok, hs, he⟩ := treeOf_ok hf
  have key : ∀ (t : Tr) (p : Nat), t.ok → (∀ m ∈ t.enc p, within m 3 = true) → freeT v t = true → v < 3 := by
    intro t
    induction t with
    | leaf op x y =>
      intro p ok hm hv
      have hw := hm ⟨op, x, y, 0, 0⟩ (by simp [Tr.enc])
      simp only [freeT, Bool.or_eq_true, Bool.and_eq_true, decide_eq_true_eq] at hv
      simp only [within, Bool.and_eq_true, Bool.or_eq_true, decide_eq_true_eq] at hw
      omega
    | un op x a ih =>
      intro p ok hm hv
      simp only [freeT] at hv
      have ha := ih p ok.2 (fun m h => hm m (by simp only [Tr.enc, List.mem_append]; exact .inl h))
      by_cases h9 : op = 9
      · rw [if_pos h9] at hv; exact ha hv
      · rw [if_neg h9, Bool.and_eq_true] at hv; exact ha hv.2
    | bin op a b iha ihb =>
      intro p ok hm hv
      simp only [freeT, Bool.or_eq_true] at hv
      rcases hv with hv | hv
      · exact iha p ok.2.1 (fun m h => hm m (by simp only [Tr.enc, List.mem_append]; exact .inl h)) hv
      · exact ihb _ ok.2.2 (fun m h => hm m (by simp only [Tr.enc, List.mem_append]; exact .inr (.inl h))) hv
  exact key _ 0 ok (fun m hm => (hn m (by rw [he]; exact hm)).2) h
def mixB (m x y : Nat) : Nat := (x &&& m) ||| (y &&& (255 - m))
theorem mix_bits : ∀ m, m < 8 → ∀ x, x < 8 → ∀ y, y < 8 → mixB m x y < 8 ∧ ∀ v, v < 3 → m / 2 ^ v % 2 = 1 → mixB m x y / 2 ^ v % 2 = x / 2 ^ v % 2 := by decide +kernel
def mixL (m : Nat) : List Nat → List Nat → List Nat
  | x :: xs, y :: ys => mixB m x y :: mixL m xs ys
  | xs, _ => xs
theorem mixL_len (m : Nat) : ∀ xs ys, (mixL m xs ys).length = xs.length
  | [], ys => by cases ys <;> rfl
  | x :: xs, [] => rfl
  | x :: xs, y :: ys => by simp [mixL, mixL_len m xs ys]
theorem mixL_lt (m : Nat) (hm : m < 8) : ∀ xs ys, (∀ x ∈ xs, x < 8) → (∀ y ∈ ys, y < 8) → ∀ z ∈ mixL m xs ys, z < 8
  | [], ys, _, _, z, hz => by cases ys <;> simp [mixL] at hz
  | x :: xs, [], hx, _, z, hz => hx z hz
  | x :: xs, y :: ys, hx, hy, z, hz => by
    simp only [mixL, List.mem_cons] at hz
    rcases hz with rfl | hz
    · exact (mix_bits m hm x (hx x (by simp)) y (hy y (by simp))).1
    · exact mixL_lt m hm xs ys (fun a h => hx a (by simp [h])) (fun a h => hy a (by simp [h])) z hz
theorem mixL_bits (m v : Nat) (hm : m < 8) (hv : v < 3) (hb : m / 2 ^ v % 2 = 1) : ∀ xs ys, (∀ x ∈ xs, x < 8) → (∀ y ∈ ys, y < 8) → (mixL m xs ys).map (fun x => x / 2 ^ v % 2) = xs.map (fun x => x / 2 ^ v % 2)
  | [], ys, _, _ => by cases ys <;> rfl
  | x :: xs, [], _, _ => rfl
  | x :: xs, y :: ys, hx, hy => by
    simp only [mixL, List.map_cons]
    rw [(mix_bits m hm x (hx x (by simp)) y (hy y (by simp))).2 v hv hb, mixL_bits m v hm hv hb xs ys (fun a h => hx a (by simp [h])) (fun a h => hy a (by simp [h]))]
/-- The list when the first k elements are mixed. -/
theorem mixL_step (m : Nat) : ∀ (xs ys : List Nat) (k x y : Nat), xs[k]? = some x → ys[k]? = some y → (mixL m xs (ys.take k)).set k (mixB m x y) = mixL m xs (ys.take (k + 1))
  | [], ys, k, x, y, h, _ => by simp at h
  | a :: xs, [], k, x, y, _, h => by simp at h
  | a :: xs, b :: ys, 0, x, y, h, g => by
    simp at h g; subst h; subst g
    first | (simp [mixL]; done) | (simp [mixL]; cases xs <;> rfl)
  | a :: xs, b :: ys, k + 1, x, y, h, g => by
    simp only [List.getElem?_cons_succ] at h g
    simp only [List.take_succ_cons, mixL, List.set_cons_succ, mixL_step m xs ys k x y h g]
theorem mixL_zero (m : Nat) (xs ys : List Nat) : mixL m xs (ys.take 0) = xs := by cases xs <;> rfl
theorem mixL_all (m : Nat) : ∀ (xs ys : List Nat) (k : Nat), xs.length ≤ k ∨ ys.length ≤ k → mixL m xs (ys.take k) = mixL m xs ys
  | [], ys, k, _ => by cases ys <;> cases k <;> rfl
  | x :: xs, [], k, _ => by simp
  | x :: xs, y :: ys, 0, h => by simp at h
  | x :: xs, y :: ys, k + 1, h => by
    simp only [List.take_succ_cons, mixL]
    rw [mixL_all m xs ys k (by simpa using h)]
theorem givenV_map {l l' : List Nat} {v : Nat} (h : l.map (fun x => x / 2 ^ v % 2) = l'.map (fun x => x / 2 ^ v % 2)) : givenV l v = givenV l' v := by
  have key : ∀ l : List Nat, givenV l v = ((l.map (fun x => x / 2 ^ v % 2)).zipIdx.map fun p => p.1 * 2 ^ p.2).sum := fun l => by
    unfold givenV
    rw [List.zipIdx_map]
    simp [Function.comp_def]
  rw [key l, key l', h]
theorem bad8 {l : List Nat} (h : ∀ x ∈ l, x < 8) : l.any (badL 3) = false := by
  rw [List.any_eq_false]
  intro x hx
  have := h x hx
  simp only [badL, ne_eq, decide_eq_true_eq, Decidable.not_not]
  have e : (2 : Int) ^ (3 : Int).toNat = 8 := by decide
  rw [e]; omega
theorem bound_law (a : List Mk) (xs ys : List Nat) (hx : ∀ x ∈ xs, x < 8) (hy : ∀ y ∈ ys, y < 8) (hl : xs.length ≤ 7) (m : Nat) (hm : m < 8) (hf : formedS a = true → m = freeS a (treeOf a) % 8) : wordS a 3 xs = wordS a 3 (mixL m xs ys) := by
  by_cases hc : checkS a 3 false = 0
  · have hfa := check_formed_of hc
    have hmm := hf hfa
    rw [wordS_at hc (by omega) (bad8 hx) rfl, wordS_at hc (by rw [mixL_len]; omega) (bad8 (mixL_lt m hm xs ys hx hy)) rfl, mixL_len]
    have hag := holds_agree (stcWord xs.length) (treeOf a) (givenS xs) (givenS (mixL m xs ys)) (treeOf_ok hfa).2.1 (by simp [givenS]) (fun v hv => by
      have h3 := free_small hc v hv
      have hb := free_bit hfa v
      rw [hv, Nat.testBit_eq_decide_div_mod_eq, decide_eq_true_eq] at hb
      have hmb : m / 2 ^ v % 2 = 1 := by
        rw [hmm]
        have hv3 : v = 0 ∨ v = 1 ∨ v = 2 := by omega
        rcases hv3 with rfl | rfl | rfl <;> simp at hb ⊢ <;> omega
      have e := givenV_map (mixL_bits m v hm h3 hmb xs ys hx hy)
      have hv3 : v = 0 ∨ v = 1 ∨ v = 2 := by omega
      rcases hv3 with rfl | rfl | rfl <;> simp [givenS_eq, e])
    rw [hag]
  · unfold wordS
    rw [if_pos hc, if_pos hc]

theorem byte_mix (m x y : Nat) (hm : m < 256) (hx : x < 256) (hy : y < 256) : bits BinOp.or IntKind.u8 (bits BinOp.and IntKind.u8 (x : Int) (m : Int)) (bits BinOp.andNot IntKind.u8 (y : Int) (m : Int)) = ((mixB m x y : Nat) : Int) := by
  rw [u8_and_nat x m hx hm, u8_andNot_nat y m hy hm]
  have h1 : x &&& m < 256 := Nat.lt_of_le_of_lt Nat.and_le_left hx
  have h2 : y &&& (255 - m) < 256 := Nat.lt_of_le_of_lt Nat.and_le_left hy
  rw [u8_or_nat _ _ h1 h2]; rfl
/-- A store into a row of bytes of the call's own. -/
theorem set_byte {w : World} {B g n cap : Nat} {l : List Nat} (h : YO w B (.slice (some ⟨g, 0, none⟩) n cap) l) (hn : l.length = n) (j x : Nat) : YO (w.setCell ⟨g, j, none⟩ (byV x)) B (.slice (some ⟨g, 0, none⟩) n cap) (l.set j x) := by
  subst hn
  have hs := (World.ownsRow.stored h j (byV x)).1
  unfold YO
  have e : ycells (l.set j x) = (ycells l).set j (byV x) := by simp [ycells, List.map_set]
  rw [e, List.length_set]
  exact hs

theorem two_shape {w : World} {B : Nat} {v : Value} {l : List Nat} (h : YO w B v l) : (l = [] ∧ ∃ A c, v = .slice A 0 c) ∨ ∃ g cap, v = .slice (some ⟨g, 0, none⟩) l.length cap ∧ B ≤ g ∧ l.length ≤ cap ∧ cap ≤ 9223372036854775807 ∧ g < w.heap.size := by
  rcases h.2 with ⟨hv, hn⟩ | ⟨g, cap, cur, hv, hB, hg, hnc, hcm, _⟩
  · exact .inl ⟨List.eq_nil_of_length_eq_zero hn, none, 0, hv⟩
  · exact .inr ⟨g, cap, hv, hB, hnc, by simp only [maxLen] at hcm; omega, lt_of_block hg⟩

set_option maxRecDepth 100000 in
set_option maxHeartbeats 4000000 in
theorem bound_walk (f : List Mk) (l1 l2 : List Nat) (v u z : Value) (w : World) (hv : MS w v f) (hu : YS w u l1) (h1 : ∀ x ∈ l1, x < 256) (hz : YS w z l2) (h2 : ∀ x ∈ l2, x < 256) (hdb : DB w) :
    Calls Tryd.prog 10 #[v, u, z] w fun e w' => e = .returned (.bool true) ∧ Below w.heap.size w w' := by
  have HV := Lib.hid hv; have HU := Lib.hid hu; have HZ := Lib.hid hz; have HDB := Lib.hid hdb
  obtain ⟨_, A, c, rfl, hc1, hc2, _⟩ := hv
  obtain ⟨n, hn⟩ : ∃ n, n = f.length := ⟨_, rfl⟩
  rw [← hn] at hc1 HV ⊢
  have hcp := fun W (hW : MS W (.slice A n c) f) => copy_any (f.take (min (n : Int) 40).toNat) _ W (hW.cut (min (n : Int) 40).toNat (by omega) A (fun _ => rfl)) (by rw [List.length_take]; omega)
  rw [show (40 : Int) = ((40 : Nat) : Int) from rfl, take_min f n 40 hn] at hcp
  obtain ⟨a, ha⟩ : ∃ a, a = f.take 40 := ⟨_, rfl⟩
  rw [← ha] at hcp
  have HCP := Lib.hid hcp
  have HL1 := Lib.hid (fun W (hW : YS W u l1) => letters_3 l1 u W hW h1)
  have HL2 := Lib.hid (fun W (hW : YS W z l2) => letters_3 l2 z W hW h2)
  have b8 : ∀ l : List Nat, ∀ x ∈ lettersS l 3, x < 8 := fun l x hx => by
    simp only [lettersS, List.mem_map] at hx
    obtain ⟨y, _, rfl⟩ := hx
    omega
  have hx8 := b8 l1; have hy8 := b8 l2
  have hxl := letters_len l1 3; have hyl := letters_len l2 3
  obtain ⟨fs, hfs⟩ : ∃ fs : List Nat, (∀ W v, MS W v a → Calls Tryd.prog 37 #[v] W (RetWS W fs)) ∧ (fs = [] ∨ ∃ s, fs = [s]) ∧ (formedS a = true → fs.headD 0 = freeS a (treeOf a)) := by
    cases hf : formedS a
    · exact ⟨[], fun W v h => Free_no a v W h hf, .inl rfl, fun h => by cases h⟩
    · obtain ⟨_, ok, hs, he⟩ := treeOf_ok hf
      refine ⟨setOf (freeS a (treeOf a)), fun W v h => Free_yes a _ v W h hf he ok hs, ?_, fun _ => ?_⟩
      · unfold setOf; split; exact .inl rfl; exact .inr ⟨_, rfl⟩
      · unfold setOf; split
        · rename_i h0; rw [h0]; rfl
        · rfl
  obtain ⟨hfr, hfs2, hfs3⟩ := hfs
  obtain ⟨m, hm⟩ : ∃ m, m = fs.headD 0 % 8 := ⟨_, rfl⟩
  have hm8 : m < 8 := by omega
  have hlaw := bound_law a (lettersS l1 3) (lettersS l2 3) hx8 hy8 hxl m hm8 (fun h => by rw [hm, hfs3 h])
  have hmx := mixL_lt m hm8 (lettersS l1 3) (lettersS l2 3) hx8 hy8
  generalize lettersS l1 3 = xs at *
  generalize lettersS l2 3 = ys at *
  obtain ⟨R, hR⟩ : ∃ R, R = wordS a 3 xs := ⟨_, rfl⟩
  rw [← hR] at hlaw
  have HW1 := Lib.hid (fun v W z (h : MS W v a) (h2 : YS W z xs) (h3 : DB W) => (show Calls Tryd.prog 22 #[v, .int .i64 3, z] W fun e w' => e = .returned (.tuple #[.bool R.1, .int .i64 R.2]) ∧ Below W.heap.size W w' from by have q := Word_any a v z 3 xs W h h2 (fun x hx => by have := hx8 x hx; omega) h3; rw [← hR] at q; exact q))
  have HW2 := Lib.hid (fun v W z (h : MS W v a) (h2 : YS W z (mixL m xs ys)) (h3 : DB W) => (show Calls Tryd.prog 22 #[v, .int .i64 3, z] W fun e w' => e = .returned (.tuple #[.bool R.1, .int .i64 R.2]) ∧ Below W.heap.size W w' from by have q := Word_any a v z 3 (mixL m xs ys) W h h2 (fun x hx => by have := hmx x hx; omega) h3; rw [← hlaw] at q; exact q))
  have HFR := Lib.hid hfr; have HX8 := Lib.hid hx8; have HY8 := Lib.hid hy8; have HMM := Lib.hid hm; have HF2 := Lib.hid hfs2
  have j1 : (0 : Int) ≤ min (n : Int) 40 := by omega
  have j2 : min (n : Int) 40 ≤ (c : Int) := by omega
  have HB : Hid (Below w.heap.size w w) := Below.refl _ _
  obtain ⟨r1, r2⟩ := R
  clear hcp hfr hx8 hy8 hm hfs2 hfs3 hlaw hmx hR ha hn h1 h2 hdb b8
  go_enter Tryd.func10, Tryd.ntmps10
  go_upto_region 5 with (first
    | (go_at_call 13; go_must (refine (HCP.out _ HV.out).mono ?_; rintro e wl ⟨va, rfl, hb, ho⟩; have HA := Lib.hid ho.ms; clear ho; replace HB := Lib.hid (HB.out.trans (hb.mono HB.out.size)); clear hb))
    | (go_at_call 34; (with_reducible refine (HL1.out _ (HU.out.below HB.out (Nat.le_refl _))).mono ?_); rintro e wl ⟨v1, rfl, hb, ho⟩; have H1 := Lib.hid ho.ys; clear ho; replace HA := Lib.hid (HA.out.below hb (Nat.le_refl _)); replace HB := Lib.hid (HB.out.trans (hb.mono HB.out.size)); clear hb)
    | (go_at_call 34; (with_reducible refine (HL2.out _ (HZ.out.below HB.out (Nat.le_refl _))).mono ?_); rintro e wl ⟨v2, rfl, hb, ho⟩; have H2 := Lib.hid ho.ys; clear ho; replace HA := Lib.hid (HA.out.below hb (Nat.le_refl _)); replace H1 := Lib.hid (H1.out.below hb (Nat.le_refl _)); replace HB := Lib.hid (HB.out.trans (hb.mono HB.out.size)); clear hb)
    | (go_at_call 37; go_must (refine (HFR.out _ _ HA.out).mono ?_; rintro e wf ⟨vf, rfl, hb, ho⟩; have HO := Lib.hid ho; clear ho; replace HA := Lib.hid (HA.out.below hb (Nat.le_refl _)); replace H1 := Lib.hid (H1.out.below hb (Nat.le_refl _)); replace H2 := Lib.hid (H2.out.below hb (Nat.le_refl _)); replace HB := Lib.hid (HB.out.trans (hb.mono HB.out.size)); clear hb)))
  rcases HF2.out with hf0 | ⟨s, hf0⟩
  all_goals
    subst hf0
  · obtain ⟨Af, cf, rfl⟩ := over_nil_shape HO.out
    have hm0 : m = 0 := by rw [HMM.out]; rfl
    subst hm0
    clear HO
    go_upto_region 7 with (fail)
    have HC0 := Lib.hid HA.out
    obtain ⟨b8, hb8⟩ : ∃ b8, b8 = wf.heap.size := ⟨_, rfl⟩
    refine wp_abs (fun W => MS W va a ∧ YS W v1 xs ∧ YS W v2 ys ∧ Below w.heap.size w W) ⟨HA.out, H1.out, H2.out, HB.out⟩ ?_
    clear HA H1 H2 HB HC0 hb8
    rintro wc ⟨ha, h1, h2, hb⟩
    have HA := Lib.hid ha; have H1 := Lib.hid h1; have H2 := Lib.hid h2; have HB := Lib.hid hb
    clear ha hb
    obtain ⟨A1, c1, rfl, d1, d2, d3⟩ := h1
    obtain ⟨A2, c2, rfl, e1, e2, e3⟩ := h2
    obtain ⟨nx, hnx⟩ : ∃ nx, nx = xs.length := ⟨_, rfl⟩
    obtain ⟨ny, hny⟩ : ∃ ny, ny = ys.length := ⟨_, rfl⟩
    rw [← hnx] at d1 d3 H1 hxl
    rw [← hny] at e1 e3 H2 hyl
    have HNX := Lib.hid hnx; have HNY := Lib.hid hny; have HD3 := Lib.hid d3; have HE3 := Lib.hid e3
    clear d3 e3
    rw [← hnx, ← hny]
    clear hnx hny
    go_wp2_with (go_at_call 21; go_must (refine (copy_bytes xs _ _ H1.out (by rw [← HNX.out]; omega)).mono ?_; rintro e wm ⟨vm, rfl, hb, ho⟩))
    have HY := Lib.hid ho; have HCB := Lib.hid hb
    rcases two_shape ho with ⟨hx0, Am, cm, rfl⟩ | ⟨g, cap, rfl, q1, q2, q3, q4⟩
    · have hnx0 : nx = 0 := by rw [HNX.out, hx0]; rfl
      subst hnx0
      clear ho hb
      have hfin : xs = mixL 0 xs ys := by rw [hx0]; cases ys <;> rfl
      have HYM : Hid (YS wm (.slice Am 0 cm) (mixL 0 xs ys)) := by rw [← hfin]; exact HY.out.ys
      clear hfin hx0
      refine wp_loop_rounds 1 ?_
      rw [rounds_succ]
      go_wp2_with (first
        | (go_at_call 22; (with_reducible refine (HW1.out _ _ _ (HA.out.below HCB.out (Nat.le_refl _)) (H1.out.below HCB.out (Nat.le_refl _)) (HDB.out.below (HB.out.trans (HCB.out.mono HB.out.size)) (Nat.le_refl _))).mono ?_); rintro e wl ⟨rfl, hb⟩; have HA1 := Lib.hid ((HA.out.below HCB.out (Nat.le_refl _)).below hb (Nat.le_refl _)); replace HYM := Lib.hid (HYM.out.below hb (Nat.le_refl _)); have HBW := Lib.hid ((HB.out.trans (HCB.out.mono HB.out.size)).trans (hb.mono (HB.out.trans (HCB.out.mono HB.out.size)).size)); clear hb)
        | (go_at_call 22; (with_reducible refine (HW2.out _ _ _ HA1.out HYM.out (HDB.out.below HBW.out (Nat.le_refl _))).mono ?_); rintro e wl ⟨rfl, hb⟩; replace HBW := Lib.hid (HBW.out.trans (hb.mono HBW.out.size)); clear hb)
        | (go_at_call 28; go_must (refine (awake16 _ (HDB.out.below HBW.out (Nat.le_refl _))).mono ?_; rintro e wl ⟨rfl, hb⟩; replace HBW := Lib.hid (HBW.out.trans (hb.mono HBW.out.size)); clear hb)))
      go_returns
      exact ⟨rfl, HBW.out⟩
    · clear ho hb
      rw [← HNX.out] at HY q2 ⊢
      go_loopg [13] nx (fun gk v wr => ∃ k : Nat, k ≤ nx ∧ k ≤ ny ∧ gk = nx - k ∧ v = .int .i64 k ∧ Below wc.heap.size wc wr ∧ YO wr wc.heap.size (.slice (some ⟨g, 0, none⟩) nx cap) (mixL 0 xs (ys.take k)))
      case atStart => exact ⟨0, by omega, by omega, rfl, rfl, HCB.out, by rw [mixL_zero]; exact HY.out⟩
      case round =>
        obtain ⟨k, hk1, hk2, rfl, rfl, hbe, hown⟩ := hrel
        have HBK := Lib.hid hbe; have HOK := Lib.hid hown
        clear hbe hown
        have hlenm : (mixL 0 xs (ys.take k)).length = nx := by rw [mixL_len, ← HNX.out]
        by_cases hlt : k < nx ∧ k < ny
        · obtain ⟨hlt, hlt2⟩ := hlt
          obtain ⟨x, hx⟩ : ∃ x, xs[k]? = some x := ⟨xs[k]'(by rw [← HNX.out]; exact hlt), List.getElem?_eq_getElem _⟩
          obtain ⟨y, hy⟩ : ∃ y, ys[k]? = some y := ⟨ys[k]'(by rw [← HNY.out]; exact hlt2), List.getElem?_eq_getElem _⟩
          obtain ⟨b1, o1, rfl, p1, p2⟩ := HD3.out (by omega)
          obtain ⟨b2, o2, rfl, p3, p4⟩ := HE3.out (by omega)
          have cx : wr.cell? ⟨b1, o1 + k, none⟩ = some (.int .u8 x) := (HBK.out.cell (p := ⟨b1, _, none⟩) p1).trans (p2 k x hx)
          have cy : wr.cell? ⟨b2, o2 + k, none⟩ = some (.int .u8 y) := (HBK.out.cell (p := ⟨b2, _, none⟩) p3).trans (p4 k y hy)
          have hx8 := HX8.out x (List.mem_of_getElem? hx)
          have hy8 := HY8.out y (List.mem_of_getElem? hy)
          have em := byte_mix 0 x y (by omega) (by omega) (by omega)
          rw [Int.natCast_zero] at em
          have hstep := mixL_step 0 xs ys k x y hx hy
          obtain ⟨zc, hzc⟩ : ∃ zc, wr.cell? ⟨g, k, none⟩ = some zc := by
            obtain ⟨g', cap', cs, hv', _, hr', hsz, _⟩ := own_row HOK.out (by omega)
            cases hv'
            exact row_some hr' (by omega)
          have hzf : wr.frozen? ⟨g, k, none⟩ = false := by
            obtain ⟨g', cap', cs, hv', _, hr', hsz, _⟩ := own_row HOK.out (by omega)
            cases hv'
            exact hr'.free k
          have hzs := HBK.out.size
          have hset := set_byte HOK.out hlenm k (mixB 0 x y)
          rw [hstep] at hset
          have HSET := Lib.hid hset
          clear p2 p4 hx hy hstep hset hlenm
          go_wp2
          first | go_region | fail
          go_wp2
          go_roundg (nx - (k + 1))
          case rel => exact ⟨k + 1, by omega, by omega, rfl, by go_num, by have h1 := HBK.out; have h2 := h1.setCell (p := ⟨g, k, none⟩) q1 (byV (mixB 0 x y)); first | exact h2.drew | exact h2, by first | exact HSET.out | exact HSET.out.below (B' := wr.heap.size) (by go_grown) (by simp)⟩
          case measure => omega
        · have hfin : mixL 0 xs (ys.take k) = mixL 0 xs ys := mixL_all 0 xs ys k (by rw [← HNX.out, ← HNY.out]; omega)
          have HYM : Hid (YS wr (.slice (some ⟨g, 0, none⟩) nx cap) (mixL 0 xs ys)) := by rw [← hfin]; exact HOK.out.ys
          clear hfin hlenm HY
          by_cases hkx : k < nx
          all_goals
            have hky : k < nx → ¬ k < ny := fun a b => hlt ⟨a, b⟩
            clear hlt
            go_wp2_with (first
              | (go_at_call 22; (with_reducible refine (HW1.out _ _ _ (HA.out.below HBK.out (Nat.le_refl _)) (H1.out.below HBK.out (Nat.le_refl _)) (HDB.out.below (HB.out.trans (HBK.out.mono HB.out.size)) (Nat.le_refl _))).mono ?_); rintro e wl ⟨rfl, hb⟩; have HA1 := Lib.hid ((HA.out.below HBK.out (Nat.le_refl _)).below hb (Nat.le_refl _)); replace HYM := Lib.hid (HYM.out.below hb (Nat.le_refl _)); have HBW := Lib.hid ((HB.out.trans (HBK.out.mono HB.out.size)).trans (hb.mono (HB.out.trans (HBK.out.mono HB.out.size)).size)); clear hb)
              | (go_at_call 22; (with_reducible refine (HW2.out _ _ _ HA1.out HYM.out (HDB.out.below HBW.out (Nat.le_refl _))).mono ?_); rintro e wl ⟨rfl, hb⟩; replace HBW := Lib.hid (HBW.out.trans (hb.mono HBW.out.size)); clear hb)
              | (go_at_call 28; go_must (refine (awake16 _ (HDB.out.below HBW.out (Nat.le_refl _))).mono ?_; rintro e wl ⟨rfl, hb⟩; replace HBW := Lib.hid (HBW.out.trans (hb.mono HBW.out.size)); clear hb)))
            go_returns
            exact ⟨rfl, HBW.out⟩
  · obtain ⟨Af, cf, rfl, u1, u2, u3⟩ := HO.out.us
    obtain ⟨bf, of, rfl, u4, u5⟩ := u3 (by simp)
    have cf0 : wf.cell? ⟨bf, of, none⟩ = some (.int .u64 s) := by have := u5 0 s rfl; simpa using this
    have hms : m = s % 8 := by rw [HMM.out]; rfl
    have hs1 : (s : Int) % 8 = m := by omega
    have hs2 : IntKind.u8.wrap (m : Int) = m := IntWalk.u8_in _ ⟨by omega, by omega⟩
    clear HO u3 u5 hms
    go_upto_region 7 with (fail)
    have HC0 := Lib.hid HA.out
    obtain ⟨b8, hb8⟩ : ∃ b8, b8 = wf.heap.size := ⟨_, rfl⟩
    refine wp_abs (fun W => MS W va a ∧ YS W v1 xs ∧ YS W v2 ys ∧ Below w.heap.size w W) ⟨HA.out, H1.out, H2.out, HB.out⟩ ?_
    clear HA H1 H2 HB HC0 hb8
    rintro wc ⟨ha, h1, h2, hb⟩
    have HA := Lib.hid ha; have H1 := Lib.hid h1; have H2 := Lib.hid h2; have HB := Lib.hid hb
    clear ha hb
    obtain ⟨A1, c1, rfl, d1, d2, d3⟩ := h1
    obtain ⟨A2, c2, rfl, e1, e2, e3⟩ := h2
    obtain ⟨nx, hnx⟩ : ∃ nx, nx = xs.length := ⟨_, rfl⟩
    obtain ⟨ny, hny⟩ : ∃ ny, ny = ys.length := ⟨_, rfl⟩
    rw [← hnx] at d1 d3 H1 hxl
    rw [← hny] at e1 e3 H2 hyl
    have HNX := Lib.hid hnx; have HNY := Lib.hid hny; have HD3 := Lib.hid d3; have HE3 := Lib.hid e3
    clear d3 e3
    rw [← hnx, ← hny]
    clear hnx hny
    go_wp2_with (go_at_call 21; go_must (refine (copy_bytes xs _ _ H1.out (by rw [← HNX.out]; omega)).mono ?_; rintro e wm ⟨vm, rfl, hb, ho⟩))
    have HY := Lib.hid ho; have HCB := Lib.hid hb
    rcases two_shape ho with ⟨hx0, Am, cm, rfl⟩ | ⟨g, cap, rfl, q1, q2, q3, q4⟩
    · have hnx0 : nx = 0 := by rw [HNX.out, hx0]; rfl
      subst hnx0
      clear ho hb
      have hfin : xs = mixL m xs ys := by rw [hx0]; cases ys <;> rfl
      have HYM : Hid (YS wm (.slice Am 0 cm) (mixL m xs ys)) := by rw [← hfin]; exact HY.out.ys
      clear hfin hx0
      refine wp_loop_rounds 1 ?_
      rw [rounds_succ]
      go_wp2_with (first
        | (go_at_call 22; (with_reducible refine (HW1.out _ _ _ (HA.out.below HCB.out (Nat.le_refl _)) (H1.out.below HCB.out (Nat.le_refl _)) (HDB.out.below (HB.out.trans (HCB.out.mono HB.out.size)) (Nat.le_refl _))).mono ?_); rintro e wl ⟨rfl, hb⟩; have HA1 := Lib.hid ((HA.out.below HCB.out (Nat.le_refl _)).below hb (Nat.le_refl _)); replace HYM := Lib.hid (HYM.out.below hb (Nat.le_refl _)); have HBW := Lib.hid ((HB.out.trans (HCB.out.mono HB.out.size)).trans (hb.mono (HB.out.trans (HCB.out.mono HB.out.size)).size)); clear hb)
        | (go_at_call 22; (with_reducible refine (HW2.out _ _ _ HA1.out HYM.out (HDB.out.below HBW.out (Nat.le_refl _))).mono ?_); rintro e wl ⟨rfl, hb⟩; replace HBW := Lib.hid (HBW.out.trans (hb.mono HBW.out.size)); clear hb)
        | (go_at_call 28; go_must (refine (awake16 _ (HDB.out.below HBW.out (Nat.le_refl _))).mono ?_; rintro e wl ⟨rfl, hb⟩; replace HBW := Lib.hid (HBW.out.trans (hb.mono HBW.out.size)); clear hb)))
      go_returns
      exact ⟨rfl, HBW.out⟩
    · clear ho hb
      rw [← HNX.out] at HY q2 ⊢
      go_loopg [13] nx (fun gk v wr => ∃ k : Nat, k ≤ nx ∧ k ≤ ny ∧ gk = nx - k ∧ v = .int .i64 k ∧ Below wc.heap.size wc wr ∧ YO wr wc.heap.size (.slice (some ⟨g, 0, none⟩) nx cap) (mixL m xs (ys.take k)))
      case atStart => exact ⟨0, by omega, by omega, rfl, rfl, HCB.out, by rw [mixL_zero]; exact HY.out⟩
      case round =>
        obtain ⟨k, hk1, hk2, rfl, rfl, hbe, hown⟩ := hrel
        have HBK := Lib.hid hbe; have HOK := Lib.hid hown
        clear hbe hown
        have hlenm : (mixL m xs (ys.take k)).length = nx := by rw [mixL_len, ← HNX.out]
        by_cases hlt : k < nx ∧ k < ny
        · obtain ⟨hlt, hlt2⟩ := hlt
          obtain ⟨x, hx⟩ : ∃ x, xs[k]? = some x := ⟨xs[k]'(by rw [← HNX.out]; exact hlt), List.getElem?_eq_getElem _⟩
          obtain ⟨y, hy⟩ : ∃ y, ys[k]? = some y := ⟨ys[k]'(by rw [← HNY.out]; exact hlt2), List.getElem?_eq_getElem _⟩
          obtain ⟨b1, o1, rfl, p1, p2⟩ := HD3.out (by omega)
          obtain ⟨b2, o2, rfl, p3, p4⟩ := HE3.out (by omega)
          have cx : wr.cell? ⟨b1, o1 + k, none⟩ = some (.int .u8 x) := (HBK.out.cell (p := ⟨b1, _, none⟩) p1).trans (p2 k x hx)
          have cy : wr.cell? ⟨b2, o2 + k, none⟩ = some (.int .u8 y) := (HBK.out.cell (p := ⟨b2, _, none⟩) p3).trans (p4 k y hy)
          have hx8 := HX8.out x (List.mem_of_getElem? hx)
          have hy8 := HY8.out y (List.mem_of_getElem? hy)
          have em := byte_mix m x y (by omega) (by omega) (by omega)
          have hstep := mixL_step m xs ys k x y hx hy
          obtain ⟨zc, hzc⟩ : ∃ zc, wr.cell? ⟨g, k, none⟩ = some zc := by
            obtain ⟨g', cap', cs, hv', _, hr', hsz, _⟩ := own_row HOK.out (by omega)
            cases hv'
            exact row_some hr' (by omega)
          have hzf : wr.frozen? ⟨g, k, none⟩ = false := by
            obtain ⟨g', cap', cs, hv', _, hr', hsz, _⟩ := own_row HOK.out (by omega)
            cases hv'
            exact hr'.free k
          have hzs := HBK.out.size
          have hset := set_byte HOK.out hlenm k (mixB m x y)
          rw [hstep] at hset
          have HSET := Lib.hid hset
          clear p2 p4 hx hy hstep hset hlenm
          go_wp2
          first | go_region | fail
          go_wp2
          go_roundg (nx - (k + 1))
          case rel => exact ⟨k + 1, by omega, by omega, rfl, by go_num, by have h1 := HBK.out; have h2 := h1.setCell (p := ⟨g, k, none⟩) q1 (byV (mixB m x y)); first | exact h2.drew | exact h2, by first | exact HSET.out | exact HSET.out.below (B' := wr.heap.size) (by go_grown) (by simp)⟩
          case measure => omega
        · have hfin : mixL m xs (ys.take k) = mixL m xs ys := mixL_all m xs ys k (by rw [← HNX.out, ← HNY.out]; omega)
          have HYM : Hid (YS wr (.slice (some ⟨g, 0, none⟩) nx cap) (mixL m xs ys)) := by rw [← hfin]; exact HOK.out.ys
          clear hfin hlenm HY
          by_cases hkx : k < nx
          all_goals
            have hky : k < nx → ¬ k < ny := fun a b => hlt ⟨a, b⟩
            clear hlt
            go_wp2_with (first
              | (go_at_call 22; (with_reducible refine (HW1.out _ _ _ (HA.out.below HBK.out (Nat.le_refl _)) (H1.out.below HBK.out (Nat.le_refl _)) (HDB.out.below (HB.out.trans (HBK.out.mono HB.out.size)) (Nat.le_refl _))).mono ?_); rintro e wl ⟨rfl, hb⟩; have HA1 := Lib.hid ((HA.out.below HBK.out (Nat.le_refl _)).below hb (Nat.le_refl _)); replace HYM := Lib.hid (HYM.out.below hb (Nat.le_refl _)); have HBW := Lib.hid ((HB.out.trans (HBK.out.mono HB.out.size)).trans (hb.mono (HB.out.trans (HBK.out.mono HB.out.size)).size)); clear hb)
              | (go_at_call 22; (with_reducible refine (HW2.out _ _ _ HA1.out HYM.out (HDB.out.below HBW.out (Nat.le_refl _))).mono ?_); rintro e wl ⟨rfl, hb⟩; replace HBW := Lib.hid (HBW.out.trans (hb.mono HBW.out.size)); clear hb)
              | (go_at_call 28; go_must (refine (awake16 _ (HDB.out.below HBW.out (Nat.le_refl _))).mono ?_; rintro e wl ⟨rfl, hb⟩; replace HBW := Lib.hid (HBW.out.trans (hb.mono HBW.out.size)); clear hb)))
            go_returns
            exact ⟨rfl, HBW.out⟩
end Go.Proofs.YtdlibehffgfhlaaDoor
