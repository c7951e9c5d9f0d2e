/- Contract: Substitute of the package mso. -/
import Derived.Test.YtcjblbhmajdmjaaDoorSubB
import Derived.Test.YtcjblbhmajdmjaaDoorMsoD
set_option linter.unusedSimpArgs false
set_option linter.unusedVariables false
namespace Go.Proofs.YtcjblbhmajdmjaaDoor
open Go.RowKit

theorem subst1_any (gf gx gy gc gob gr n cap B : Nat) (f : List Mk) (v : Value) (x y : Int) (hl : f.length ≤ 64) (hn : n = f.length) (ha : Away (fun b => b = gc ∨ b = gr) v)
    (hd : gf ≠ gc ∧ gf ≠ gr ∧ gx ≠ gc ∧ gx ≠ gr ∧ gy ≠ gc ∧ gy ≠ gr ∧ gob ≠ gc ∧ gob ≠ gr ∧ gc ≠ gr) :
    ∀ (j : Nat) (m : Mk) (ab : List Int) (abv : Value) (s : List Mk × Bool) (W : World), f[j]? = some m → okLeaf m.op m.x m.y → MS W v f → IS W abv ab → Away (fun b => b = gc ∨ b = gr) abv → SubInv gf gx gy gc gob gr n cap B f v x y s W →
      Calls Tryd.prog 52 #[.int .i64 j, abv, .pointer (some ⟨gf, 0, none⟩), .pointer (some ⟨gx, 0, none⟩), .pointer (some ⟨gc, 0, none⟩), .pointer (some ⟨gy, 0, none⟩), .pointer (some ⟨gob, 0, none⟩)] W
        (Done (fun b => b = gc ∨ b = gr) W (SubInv gf gx gy gc gob gr n cap B f v x y (stepS f x y j ab s))) := by
  intro j m ab abv s W hm hok hv hab haw hs
  have hj : j < s.1.length := by rw [hs.len, hn]; exact (List.getElem?_eq_some_iff.1 hm).1
  have hsm : s.1[j]? = some s.1[j] := List.getElem?_eq_getElem hj
  rcases bool_cases ((occ m).contains x) with h1 | h1
  · rcases bool_cases (ab.contains x) with h2 | h2
    · exact subst1_b gf gx gy gc gob gr n cap B f v x y j m _ ab abv s W hm hok hv ha hab haw hl hn hs hsm hd h1.symm h2.symm
    · exact subst1_c gf gx gy gc gob gr n cap B f v x y j m _ ab abv s W hm hok hv ha hab haw hl hn hs hsm hd h1.symm h2.symm
  · exact subst1_a gf gx gy gc gob gr n cap B f v x y j m _ ab abv s W hm hok hv ha hab haw hl hn hs hsm hd h1.symm

def rangeBad (x y : Int) : Prop := x < 0 ∨ 6 ≤ x ∨ y < 0 ∨ 6 ≤ y

set_option maxRecDepth 100000 in
set_option maxHeartbeats 2000000 in
theorem Subst_range (f : List Mk) (v : Value) (x y : Int) (w : World) (hv : MS w v f) (h : rangeBad x y) : Calls Tryd.prog 19 #[v, .int .i64 x, .int .i64 y] w (RetFE w [] 7) := by
  obtain ⟨_, A, c, rfl, _⟩ := hv
  have done : ∀ w', Below w.heap.size w w' → RetFE w [] 7 (.returned (.tuple #[.slice none 0 0, .int .i64 7])) w' := fun w' hb => ⟨_, rfl, hb, MO.nil _ _⟩
  have HD := Lib.hid done; clear done
  by_cases h1 : x < 0
  · go_enter Tryd.func19, Tryd.ntmps19
    go_wp2
    go_returns
    exact HD.out _ (by go_grown)
  by_cases h2 : 6 ≤ x
  · go_enter Tryd.func19, Tryd.ntmps19
    go_wp2
    go_returns
    exact HD.out _ (by go_grown)
  by_cases h3 : y < 0
  · go_enter Tryd.func19, Tryd.ntmps19
    go_wp2
    go_returns
    exact HD.out _ (by go_grown)
  have h4 : 6 ≤ y := by unfold rangeBad at h; omega
  go_enter Tryd.func19, Tryd.ntmps19
  go_wp2
  go_returns
  exact HD.out _ (by go_grown)

theorem MO.shape {w : World} {B n : Nat} {v : Value} {f : List Mk} (h : MO w B v f) (hn : n = f.length) (hp : 0 < n) : ∃ g cap, v = .slice (some ⟨g, 0, none⟩) n cap ∧ B ≤ g ∧ g < w.heap.size := by
  subst hn
  rcases h.2.2 with ⟨_, h0⟩ | ⟨g, cap, cur, hv, hB, hg, _⟩
  · omega
  · exact ⟨g, cap, hv, hB, lt_of_block hg⟩

theorem MO.lt_own {w : World} {B g n cap : Nat} {f : List Mk} (h : MO w B (.slice (some ⟨g, 0, none⟩) n cap) f) (hp : 0 < f.length) : g < w.heap.size := by
  rcases h.2.2 with ⟨h', _⟩ | ⟨g', cap', cur, h', _, hg, _⟩
  · simp at h'
  · simp only [Value.slice.injEq, Option.some.injEq, Addr.mk.injEq, and_true, true_and] at h'
    rw [h'.1]; exact lt_of_block hg
theorem Row.litd2 {w : World} {t : TypeId} {cs : Array Value} {g : Nat} (h : g = w.heap.size) : Row (w.alloc (.cells cs t)) g t cs := h ▸ Row.new w t cs

theorem after3 {w w1 : World} {cs ds es : Array Value} {t u r : TypeId} (h : Below (((w.alloc (.cells cs t)).alloc (.cells ds u)).alloc (.cells es r)).heap.size (((w.alloc (.cells cs t)).alloc (.cells ds u)).alloc (.cells es r)) w1) :
    Row w1 w.heap.size t cs ∧ Row w1 (w.heap.size + 1) u ds ∧ Row w1 (w.heap.size + 2) r es ∧ w.heap.size + 2 < w1.heap.size ∧ Hid (Below w.heap.size w w1) := by
  have r1 := (Row.alloc (Row.alloc (Row.new w t cs) (.cells ds u)) (.cells es r)).below h (by simp only [World.size_alloc]; omega)
  have r2 := (Row.alloc (Row.new (w.alloc (.cells cs t)) u ds) (.cells es r)).below h (by simp only [World.size_alloc]; omega)
  have r3 := (Row.new ((w.alloc (.cells cs t)).alloc (.cells ds u)) r es).below h (by simp only [World.size_alloc]; omega)
  simp only [World.size_alloc] at r2 r3
  exact ⟨r1, r2, r3, r3.lt, (((Below.alloc (Below.refl _ _) (Nat.le_refl _) _).alloc (by simp only [World.size_alloc]; omega) _).alloc (by simp only [World.size_alloc]; omega) _).trans (h.mono (by simp only [World.size_alloc]; omega))⟩

set_option maxRecDepth 100000 in
set_option maxHeartbeats 2000000 in
theorem Subst_form (f : List Mk) (v : Value) (x y : Int) (w : World) (h0 : 0 ≤ x) (h1 : x < 6) (h2 : 0 ≤ y) (h3 : y < 6) (hv : MS w v f) (hf : formedS f = false) : Calls Tryd.prog 19 #[v, .int .i64 x, .int .i64 y] w (RetFE w [] 2) := by
  have HF := Lib.hid hf; clear hf
  have HV := Lib.hid hv
  obtain ⟨_, A, c, rfl, _⟩ := hv
  go_enter Tryd.func19, Tryd.ntmps19
  go_wp2_with (go_at_call 43; go_must (refine (formed_any f _ _ (HV.out.below (B := w.heap.size) (by go_grown) (Nat.le_refl _))).mono ?_; rintro e w1 ⟨rfl, hb1⟩; rw [HF.out]; obtain ⟨_, _, _, _, HB1⟩ := after3 hb1; clear hb1))
  go_returns
  exact ⟨.slice none 0 0, rfl, HB1.out, MO.nil _ _⟩

def substT (f : List Mk) (t : Tr) (x y : Int) : List Mk × Bool := trav (stepS f x y) 0 [] t (f, false)
def substR (f : List Mk) (t : Tr) (x y : Int) : List Mk × Int := if (substT f t x y).2 = true ∧ x ≠ y then ([], 16) else ((substT f t x y).1, 0)

set_option maxRecDepth 100000 in
set_option maxHeartbeats 4000000 in
theorem Subst_yes (f : List Mk) (t : Tr) (v : Value) (x y : Int) (w : World) (h0 : 0 ≤ x) (h1 : x < 6) (h2 : 0 ≤ y) (h3 : y < 6) (hv : MS w v f) (hf : formedS f = true) (ht : f = t.enc 0) (hok : t.ok) (hsz : t.size = f.length) :
    Calls Tryd.prog 19 #[v, .int .i64 x, .int .i64 y] w (RetFE w (substR f t x y).1 (substR f t x y).2) := by
  have hl := formed_len f hf
  have HF := Lib.hid hf; clear hf
  have HV := Lib.hid hv
  have HT := Lib.hid ht; clear ht
  have HOK := Lib.hid hok; clear hok
  obtain ⟨_, A, c, rfl, hc1, hc2, hcell⟩ := hv
  obtain ⟨b, o, rfl, hb, _⟩ := hcell (by omega)
  clear hcell
  obtain ⟨n, hn⟩ : ∃ n, n = f.length := ⟨_, rfl⟩
  rw [← hn] at hl hc1 hsz HV ⊢
  have HN := Lib.hid hn; clear hn
  obtain ⟨hl1, hl2⟩ := hl
  have HSZ := Lib.hid hsz; clear hsz
  go_enter Tryd.func19, Tryd.ntmps19
  go_wp2_with (first
    | (go_at_call 43; go_must (refine (formed_any f _ _ (HV.out.below (B := w.heap.size) (by go_grown) (Nat.le_refl _))).mono ?_; rintro e w1 ⟨rfl, hb1⟩; rw [HF.out]; obtain ⟨r1, r2, r3, hz1, HB1⟩ := after3 hb1; clear hb1; have x0 := r1.cell; have R1 := Lib.hid r1; have R2 := Lib.hid r2; have R3 := Lib.hid r3; clear r1 r2 r3))
    | (go_at_call 51; go_must (refine (clone_any f _ _ (HV.out.below HB1.out (Nat.le_refl _)) (by rw [← HN.out]; omega)).mono ?_; rintro e w2 ⟨v1, rfl, hb2, ho1⟩; obtain ⟨gr, cap, rfl, hgr1, hgr2⟩ := ho1.shape HN.out (by omega); have hz3 : w.heap.size < w2.heap.size := (by have := hb2.size; omega); have hz4 : w.heap.size < w2.heap.size + 1 := (by omega); have y0 := (R1.out.below hb2 R1.out.lt).cell; have HB2 := Lib.hid hb2; have HO1 := Lib.hid ho1; clear hb2 ho1)))
  have hz2 := HB2.out.size
  have HBX : Hid (Below w2.heap.size w2 ((w2.alloc (.cells #[.slice (some ⟨gr, 0, none⟩) n cap] 25)).alloc (.cells #[.bool false] 4))) := (Below.alloc (Below.refl _ _) (Nat.le_refl _) _).alloc (by simp only [World.size_alloc]; omega) _
  have HD : Hid (w.heap.size ≠ w2.heap.size + 1 ∧ w.heap.size ≠ gr ∧ w.heap.size + 1 ≠ w2.heap.size + 1 ∧ w.heap.size + 1 ≠ gr ∧ w.heap.size + 2 ≠ w2.heap.size + 1 ∧ w.heap.size + 2 ≠ gr ∧ w2.heap.size ≠ w2.heap.size + 1 ∧ w2.heap.size ≠ gr ∧ w2.heap.size + 1 ≠ gr) := by
    unfold Hid; omega
  have HAW : Hid (Away (fun k => k = w2.heap.size + 1 ∨ k = gr) (.slice (some ⟨b, o, none⟩) n c)) := by
    intro bb hbb hx
    simp only [Value.ownBlock, Option.some.injEq] at hbb
    omega
  have HV2 := Lib.hid (((HV.out.below HB1.out (Nat.le_refl _)).below HB2.out (Nat.le_refl _)).below HBX.out (Nat.le_refl _))
  have HR2 := Lib.hid ((R1.out.below HB2.out R1.out.lt).below HBX.out (by have := R1.out.lt; omega))
  have HR3 := Lib.hid ((R2.out.below HB2.out R2.out.lt).below HBX.out (by have := R2.out.lt; omega))
  have HR4 := Lib.hid ((R3.out.below HB2.out R3.out.lt).below HBX.out (by have := R3.out.lt; omega))
  have HO2 := Lib.hid (HO1.out.below HBX.out (Nat.le_refl _))
  rw [show ((n : Int) - 1) = ((n - 1 : Nat) : Int) by omega]
  refine (visit_subst _ _ _ _ _ (fun k => k = w2.heap.size + 1 ∨ k = gr) f _ (stepS f x y) (SubInv w.heap.size (w.heap.size + 1) (w.heap.size + 2) (w2.heap.size + 1) w2.heap.size gr n cap w1.heap.size f _ x y) HAW.out
    (fun s W W' h hb => h.below hb) (fun s W h bb hbb => by rcases hbb with rfl | rfl; exact h.rc.lt; exact MO.lt_own h.own (by rw [h.len]; omega))
    (subst1_any _ _ _ _ _ _ _ _ _ f _ x y (by rw [← HN.out]; exact hl2) HN.out HAW.out HD.out) t 0 (n - 1) [] (.slice none 0 0) (f, false) _ HOK.out (by rw [HSZ.out]; omega) (by omega) (by rw [← HN.out]; exact hl2)
    (fun j hj => by rw [HT.out, Nat.zero_add]) HV2.out (IS.nil _) (by intro bb hbb; simp [Value.ownBlock] at hbb) (by rw [HSZ.out]; simp; omega)
    ⟨HR2.out, HR3.out, HR4.out, Row.litd2 (by simp), (Row.new _ _ _).alloc _, HO2.out, HN.out.symm⟩).mono ?_
  rintro e w5 ⟨rfl, hk5, hs5⟩
  have hz5 := hk5.size
  have hbw : Below w.heap.size w w5 := (HB1.out.trans (HB2.out.mono HB1.out.size)).trans ((HBX.out.mono (by omega)).trans (hk5.below (by simp only [World.size_alloc]; omega) (fun k hk hx => by omega)))
  have HBW := Lib.hid hbw
  clear hbw hk5 x0 y0
  have hfs : trav (stepS f x y) 0 [] t (f, false) = substT f t x y := rfl
  rw [hfs] at hs5
  clear hfs
  have hres : substR f t x y = if (substT f t x y).2 = true ∧ x ≠ y then ([], 16) else ((substT f t x y).1, 0) := rfl
  generalize substT f t x y = s at *
  have HRES := Lib.hid hres; clear hres
  have z0 := hs5.rc.cell; have z1 := hs5.rx.cell; have z2 := hs5.ry.cell; have z3 := hs5.ro.cell
  have HS5 := Lib.hid hs5; clear hs5
  simp only [World.size_alloc] at hz5
  have fin0 : ∀ (v' : Value), v' = .slice (some ⟨gr, 0, none⟩) n cap → substR f t x y = (s.1, 0) → RetFE w (substR f t x y).1 (substR f t x y).2 (.returned (.tuple #[v', .int .i64 0])) w5 := by
    rintro v' rfl he
    rw [he]
    exact ⟨_, rfl, HBW.out, HS5.out.own.mono (by omega)⟩
  have FIN := Lib.hid fin0; clear fin0
  rcases bool_cases s.2 with hs2 | hs2
  · rw [hs2] at z0
    by_cases hxy : x = y
    · have hxy' : (x != y) = false := by simp [hxy]
      have HXY := Lib.hid hxy; clear hxy
      have HS2 := Lib.hid hs2; clear hs2
      go_wp2
      go_returns
      exact FIN.out _ rfl (by rw [HRES.out, if_neg (by simp [HXY.out])])
    · have hxy' : (x != y) = true := by simp [hxy]
      have HXY := Lib.hid hxy; clear hxy
      have HS2 := Lib.hid hs2; clear hs2
      go_wp2
      go_returns
      have he : substR f t x y = ([], 16) := by rw [HRES.out, if_pos ⟨HS2.out, HXY.out⟩]
      exact ⟨.slice none 0 0, by rw [he]; rfl, HBW.out, by rw [he]; exact MO.nil _ _⟩
  · rw [hs2] at z0
    have HS2 := Lib.hid hs2; clear hs2
    go_wp2
    go_returns
    exact FIN.out _ rfl (by rw [HRES.out, if_neg (by simp [HS2.out])])
end Go.Proofs.YtcjblbhmajdmjaaDoor
