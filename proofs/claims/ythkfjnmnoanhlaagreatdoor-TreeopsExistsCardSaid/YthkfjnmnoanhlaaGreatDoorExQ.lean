/- Plain law: the variants of a tree, by the bits of a number; Exists accepts exactly the trees some variant of which is accepted. No program in sight. -/
import Derived.Test.YthkfjnmnoanhlaaGreatDoorSmQ
set_option linter.unusedSimpArgs false
set_option linter.unusedVariables false
namespace Go.Proofs.YthkfjnmnoanhlaaGreatDoor

def chB (v : Nat) (b : Bool) (x : Int) : Int := ((if b then hiV v x.toNat else loV v x.toNat : Nat) : Int)
/-- The leaves with the bits f of variable v. -/
def chL (v : Nat) : (Nat → Bool) → List Lf → List Lf
  | _, [] => []
  | f, m :: l => ⟨chB v (f 0) m.label, m.left, m.right⟩ :: chL v (fun i => f (i + 1)) l
theorem chL_len (v : Nat) : ∀ (l : List Lf) (f : Nat → Bool), (chL v f l).length = l.length
  | [], _ => rfl
  | m :: l, f => by simp [chL, chL_len v l]
theorem chL_at (v : Nat) : ∀ (l : List Lf) (f : Nat → Bool) (i : Nat) (m : Lf), l[i]? = some m → (chL v f l)[i]? = some ⟨chB v (f i) m.label, m.left, m.right⟩
  | [], _, i, m, h => by simp at h
  | a :: l, f, 0, m, h => by simp at h; subst h; rfl
  | a :: l, f, i + 1, m, h => by
    have := chL_at v l (fun i => f (i + 1)) i m (by simpa using h)
    simpa [chL] using this
theorem chL_app (v : Nat) : ∀ (a b : List Lf) (f : Nat → Bool), chL v f (a ++ b) = chL v f a ++ chL v (fun i => f (i + a.length)) b
  | [], b, f => by simp [chL]
  | m :: a, b, f => by
    simp only [List.cons_append, chL, chL_app v a b, List.length_cons]
    congr 3
theorem chL_congr (v : Nat) : ∀ (l : List Lf) (f g : Nat → Bool), (∀ i, i < l.length → f i = g i) → chL v f l = chL v g l
  | [], _, _, _ => rfl
  | m :: l, f, g, h => by
    simp only [chL]
    rw [h 0 (by simp), chL_congr v l _ (fun i => g (i + 1)) fun i hi => h (i + 1) (by simp; omega)]
theorem varV_size {v : Nat} : ∀ {t u : Bt}, VarV v t u → u.size = t.size
  | .nil, .nil, _ => rfl
  | .node a l r, .node b l' r', h => by
    simp only [VarV, VarT] at h
    simp only [Bt.size, varV_size (v := v) (t := l) (u := l') h.2.2.1, varV_size (v := v) (t := r) (u := r') h.2.2.2]
  | .nil, .node _ _ _, h => by simp [VarV, VarT] at h
  | .node _ _ _, .nil, h => by simp [VarV, VarT] at h
theorem at_size {t u : Bt} (h : u.size = t.size) (p : Nat) : u.at p = t.at p := by unfold Bt.at; rw [h]
theorem var_of (v : Nat) : ∀ (t : Bt) (f : Nat → Bool), ∃ u, VarV v t u ∧ ∀ p, u.enc p = chL v f (t.enc p)
  | .nil, f => ⟨.nil, by simp [VarV, VarT], fun p => rfl⟩
  | .node a l r, f => by
    obtain ⟨ul, h1, h2⟩ := var_of v l (fun i => f (i + 1))
    obtain ⟨ur, h3, h4⟩ := var_of v r (fun i => f (i + l.size + 1))
    refine ⟨.node (chB v (f 0) a) ul ur, ?_, fun p => ?_⟩
    · simp only [VarV, VarT]
      refine ⟨?_, by unfold chB; omega, h1, h3⟩
      unfold chB
      cases f 0 <;> simp
    · simp only [Bt.enc, chL, chL_app]
      rw [h2, varV_size h1, h4, at_size (varV_size h1), at_size (varV_size h3), Bt.enc_len]
theorem var_is (v : Nat) : ∀ (t u : Bt), VarV v t u → ∃ f : Nat → Bool, ∀ p, u.enc p = chL v f (t.enc p)
  | .nil, .nil, _ => ⟨fun _ => false, fun p => rfl⟩
  | .nil, .node _ _ _, h => by simp [VarV, VarT] at h
  | .node _ _ _, .nil, h => by simp [VarV, VarT] at h
  | .node a l r, .node b l' r', h => by
    simp only [VarV, VarT] at h
    obtain ⟨h1, h0, h2, h3⟩ := h
    obtain ⟨f, hf⟩ := var_is v l l' h2
    obtain ⟨g, hg⟩ := var_is v r r' h3
    have hb : ∃ c : Bool, b = chB v c a := by
      rcases h1 with h1 | h1
      · exact ⟨false, by unfold chB; simp; omega⟩
      · exact ⟨true, by unfold chB; simp; omega⟩
    obtain ⟨c, hc⟩ := hb
    refine ⟨fun i => if i = 0 then c else if i ≤ l.size then f (i - 1) else g (i - 1 - l.size), fun p => ?_⟩
    simp only [Bt.enc, chL, chL_app, if_true]
    rw [hf, varV_size h2, hg, at_size (varV_size h2), at_size (varV_size h3), Bt.enc_len, ← hc]
    congr 1
    congr 1
    · refine chL_congr v _ _ _ fun i hi => ?_
      rw [Bt.enc_len] at hi
      rw [if_neg (by omega), if_pos (by omega)]; rfl
    · refine chL_congr v _ _ _ fun i hi => ?_
      rw [if_neg (by omega), if_neg (by omega)]
      congr 1
      omega
/-- A number with these bits. -/
theorem bits_num (f : Nat → Bool) : ∀ k, ∃ n, n < 2 ^ k ∧ ∀ i, i < k → n.testBit i = f i
  | 0 => ⟨0, by simp, fun i h => by omega⟩
  | k + 1 => by
    obtain ⟨n, h1, h2⟩ := bits_num f k
    by_cases hf : f k = true
    · refine ⟨2 ^ k + n, by rw [Nat.pow_succ]; omega, fun i hi => ?_⟩
      by_cases e : i = k
      · subst e
        rw [Nat.testBit_two_pow_add_eq, Nat.testBit_lt_two_pow h1, hf]; rfl
      · rw [Nat.testBit_two_pow_add_gt (by omega), h2 i (by omega)]
    · refine ⟨n, by rw [Nat.pow_succ]; omega, fun i hi => ?_⟩
      by_cases e : i = k
      · subst e
        rw [Nat.testBit_lt_two_pow h1]; simpa using hf
      · exact h2 i (by omega)
theorem exists_law {D : Dta} {v V : Nat} (hD : D.Fit V) (hv : v < V) {tl : List Lf} (hlb : ∀ m ∈ tl, 0 ≤ m.label) (hc : checkT tl (V : Int) = 0) :
    (∀ f, checkT (chL v f tl) (V : Int) = 0) ∧ (existsM D v).fin ((existsM D v).run (btOf tl)) = (List.range (2 ^ tl.length)).any fun n => D.fin (D.run (btOf (chL v n.testBit tl))) := by
  obtain ⟨h1, h2, h3⟩ := formed_small hD hlb hc
  have h31 := (check_zero hD.v3 hlb hc).2.1
  have henc := (btOf_ok h1).2.2.2
  refine ⟨fun f => ?_, ?_⟩
  · obtain ⟨u, hu1, hu2⟩ := var_of v (btOf tl) f
    have := hu2 0
    rw [← henc] at this
    rw [← this]
    exact check_of hD.v3 (by rw [varV_size hu1]; omega) (varV_lb hv h3 hu1)
  · rw [Bool.eq_iff_iff, exists_iff hD.ok hD.n64 hD.L hv _ (by rw [hD.L]; exact h3), List.any_eq_true]
    constructor
    · rintro ⟨u, hu, hf⟩
      obtain ⟨f, hf2⟩ := var_is v _ u hu
      obtain ⟨n, hn, hb⟩ := bits_num f tl.length
      refine ⟨n, List.mem_range.2 hn, ?_⟩
      have := hf2 0
      rw [← henc] at this
      rw [chL_congr v tl n.testBit f hb, ← this, btOf_enc]
      exact hf
    · rintro ⟨n, _, hf⟩
      obtain ⟨u, hu1, hu2⟩ := var_of v (btOf tl) n.testBit
      have := hu2 0
      rw [← henc] at this
      rw [← this, btOf_enc] at hf
      exact ⟨u, hu1, hf⟩
end Go.Proofs.YthkfjnmnoanhlaaGreatDoor
