/- Contracts: the closure of Free, and Free, of the package mso. -/
import Derived.Test.YtcjblbhmajdmjaaDoorVisit
set_option linter.unusedSimpArgs false
set_option linter.unusedVariables false
namespace Go.Proofs.YtcjblbhmajdmjaaDoor
open Go.RowKit

def orv (ab : List Int) (s : Nat) (v : Int) : Nat := if ab.contains v then s else s ||| (1 <<< v.toNat)
def stepF (f : List Mk) (j : Nat) (ab : List Int) (s : Nat) : Nat := match f[j]? with
  | some m => (occ m).foldl (orv ab) s
  | none => s

theorem row_one {w : World} {g : Nat} {t : TypeId} {x : Value} {k : IntKind} {a b : Int} (h : Row w g t #[x]) (e : a = b) : Row (w.setCell ⟨g, 0, none⟩ (.int k a)) g t #[.int k b] := e ▸ h.set 0 (.int k a)

def FreeInv (gf g : Nat) (v : Value) (s : Nat) (W : World) : Prop := Row W gf 25 #[v] ∧ Row W g 63 #[.int .u64 s] ∧ s < 64 ∧ gf ≠ g

theorem occ_bound (m : Mk) (h : within m 6 = true) : ∀ x ∈ occ m, 0 ≤ x ∧ x < 6 := by
  intro x hx
  simp only [within, Bool.and_eq_true, Bool.or_eq_true, decide_eq_true_eq] at h
  unfold occ at hx
  rcases nv_cases m.op with hv | hv | hv <;> rw [hv] at hx h <;> simp at hx <;> omega
theorem orv_lt (ab : List Int) (s : Nat) (v : Int) (hs : s < 64) (h0 : 0 ≤ v) (h1 : v < 6) : orv ab s v < 64 := by
  unfold orv
  split
  · exact hs
  · have : 1 <<< v.toNat < 64 := by
      have : v.toNat = 0 ∨ v.toNat = 1 ∨ v.toNat = 2 ∨ v.toNat = 3 ∨ v.toNat = 4 ∨ v.toNat = 5 := by omega
      rcases this with h | h | h | h | h | h <;> rw [h] <;> decide
    exact Nat.or_lt_two_pow (n := 6) hs this

set_option maxRecDepth 100000 in
set_option maxHeartbeats 2000000 in
theorem free1 (gf g : Nat) (f : List Mk) (v : Value) (j : Nat) (m : Mk) (ab : List Int) (abv : Value) (s : Nat) (w : World) (hm : f[j]? = some m) (hok : okLeaf m.op m.x m.y) (hv : MS w v f) (ha : Away (· = g) v) (hab : IS w abv ab) (haw : Away (· = g) abv) (hl : f.length ≤ 64) (hs : FreeInv gf g v s w) :
    Calls Tryd.prog 45 #[.int .i64 j, abv, .pointer (some ⟨gf, 0, none⟩), .pointer (some ⟨g, 0, none⟩)] w (Done (· = g) w (FreeInv gf g v (stepF f j ab s))) := by
  obtain ⟨r1, r2, hs64, hne⟩ := hs
  have hjl : j < f.length := (List.getElem?_eq_some_iff.1 hm).1
  have hob := occ_bound m (by have := hok.2.2.1; simpa [within] using this)
  have HV := Lib.hid hv
  obtain ⟨hop, A, c, rfl, hc, hc2, hcell⟩ := hv
  obtain ⟨b, o, rfl, hb, hcell⟩ := hcell (by omega)
  obtain ⟨c0, c1, c2, c3, c4⟩ := hcell j _ hm
  obtain ⟨m1, m2⟩ := hop _ (List.mem_of_getElem? hm)
  clear hcell hop
  have hstep : stepF f j ab s = (occ m).foldl (orv ab) s := by rw [stepF, hm]
  have HST := Lib.hid hstep; clear hstep
  have HM := Lib.hid hm; clear hm
  have HOK := Lib.hid hok; clear hok
  have HAB := Lib.hid hab; clear hab
  have HAW := Lib.hid haw; clear haw
  have HA := Lib.hid ha; clear ha
  have x0 := r1.cell
  have R1 := Lib.hid r1; have R2 := Lib.hid r2
  clear r1 r2
  have HOB := Lib.hid hob; clear hob
  go_enter Tryd.func45, Tryd.ntmps45
  obtain ⟨n, hn⟩ : ∃ n, n = (occ m).length := ⟨_, rfl⟩
  have hn2 : n ≤ 2 := by rw [hn, occ, List.length_take]; simp; omega
  have HN := Lib.hid hn; clear hn
  go_wp2_with (go_at_call 46; go_must (refine (occurs_any m _ m1 m2).mono ?_; rintro e w2 ⟨v1, rfl, hb2, hfr2, hi2⟩; have HFR := Lib.hid hfr2; clear hfr2; obtain ⟨A1, k1, rfl, hk1, hk2, hcell1⟩ := hi2; rw [← HN.out] at hk1 hcell1 ⊢; have HC1 := Lib.hid hcell1; clear hcell1; have HB2 := Lib.hid hb2; clear hb2))
  go_loopg [14] n (fun gk q wr => ∃ (k : Nat) (s' : Nat), k ≤ n ∧ gk = n - k ∧ q = .int .i64 k ∧ Keep (· = g) w2 wr ∧ Row wr g 63 #[.int .u64 s'] ∧ s' < 64 ∧ ((occ m).drop k).foldl (orv ab) s' = stepF f j ab s)
  case atStart => exact ⟨0, s, Nat.zero_le _, rfl, rfl, Keep.refl _ _, R2.out.below HB2.out R2.out.lt, hs64, by rw [List.drop_zero, HST.out]⟩
  case round =>
    obtain ⟨k, s', hk, rfl, rfl, hkp, hrow, hs', hfold⟩ := hrel
    have HKP := Lib.hid hkp; clear hkp
    have hK2 : Hid (Keep (· = g) w wr) := (Keep.of_below HB2.out (Nat.le_refl _)).trans HKP.out
    by_cases hlt : k < n
    · obtain ⟨y, hy⟩ : ∃ y, (occ m)[k]? = some y := ⟨(occ m)[k]'(by rw [← HN.out]; exact hlt), List.getElem?_eq_getElem _⟩
      obtain ⟨y0, y1⟩ := HOB.out y (List.mem_of_getElem? hy)
      obtain ⟨b1, o1, rfl, hb1, hc1⟩ := HC1.out (by omega)
      have d0 := hc1 k y hy
      clear hc1
      have hg : g < w.heap.size := R2.out.lt
      have hb1w : w.heap.size ≤ b1 := HFR.out b1 rfl
      rw [← HKP.out.cell hb1 (by omega)] at d0
      have hcons : (occ m).drop k = y :: (occ m).drop (k + 1) := by
        have hk' : k < (occ m).length := (List.getElem?_eq_some_iff.1 hy).1
        rw [List.drop_eq_getElem_cons hk', (List.getElem?_eq_some_iff.1 hy).2]
      rw [hcons, List.foldl_cons] at hfold
      have HF := Lib.hid hfold; clear hfold hcons hy
      have z0 := hrow.cell
      have z1 := hrow.free
      have HR := Lib.hid hrow; clear hrow
      obtain ⟨t, ht⟩ : ∃ t, t = ab.contains y := ⟨_, rfl⟩
      have HT := Lib.hid ht; clear ht
      cases t with
      | true =>
        go_wp2_with (go_at_call 47; go_must (refine (contains_ints ab _ y _ (HAB.out.keep HAW.out hK2.out)).mono ?_; rintro e w3 ⟨rfl, rfl⟩; rw [← HT.out]))
        go_roundg (n - (k + 1))
        case rel => exact ⟨k + 1, s', by omega, rfl, by go_num, HKP.out, HR.out, hs', by rw [← HF.out, orv, if_pos HT.out.symm]⟩
        case measure => omega
      | false =>
        have hval : Hid (orv ab s' y = s' ||| 1 <<< y.toNat) := by unfold Hid; rw [orv, if_neg (by rw [← HT.out]; simp)]
        have hlt2 : Hid (orv ab s' y < 64) := orv_lt ab s' y hs' y0 y1
        have hy6 : y = 0 ∨ y = 1 ∨ y = 2 ∨ y = 3 ∨ y = 4 ∨ y = 5 := by omega
        rcases hy6 with rfl | rfl | rfl | rfl | rfl | rfl
        all_goals
          go_wp2_with (go_at_call 47; go_must (refine (contains_ints ab _ _ _ (HAB.out.keep HAW.out hK2.out)).mono ?_; rintro e w3 ⟨rfl, rfl⟩; rw [← HT.out]))
          go_region
          go_wp2
          go_roundg (n - (k + 1))
          case measure => omega
          case rel =>
            refine ⟨k + 1, orv ab s' _, by omega, rfl, by go_num, HKP.out.drew.set (.inl rfl) _, ?_, hlt2.out, by rw [← HF.out]⟩
            refine row_one HR.out.drew ?_
            rw [hval.out]
            exact bits_or_u64_nat s' _ (by omega) (by decide)
    · have hkn : k = n := by omega
      rw [hkn, HN.out, List.drop_length, List.foldl_nil] at hfold
      have HF := Lib.hid hfold; clear hfold
      go_wp2
      go_returns
      exact ⟨rfl, hK2.out, hK2.out.row R1.out (by simpa using hne), by rw [← HF.out]; exact hrow, by rw [← HF.out]; exact hs', hne⟩

theorem free1_hyp (gf g : Nat) (f : List Mk) (v : Value) (hl : f.length ≤ 64) (ha : Away (· = g) v) :
    ∀ (j : Nat) (m : Mk) (ab : List Int) (abv : Value) (s : Nat) (W : World), f[j]? = some m → okLeaf m.op m.x m.y → MS W v f → IS W abv ab → Away (· = g) abv → FreeInv gf g v s W →
      Calls Tryd.prog 45 #[.int .i64 j, abv, .pointer (some ⟨gf, 0, none⟩), .pointer (some ⟨g, 0, none⟩)] W (Done (· = g) W (FreeInv gf g v (stepF f j ab s))) :=
  fun j m ab abv s W hm hok hv hab haw hs => free1 gf g f v j m ab abv s W hm hok hv ha hab haw hl hs

/-- The set of the free variables, as a word. -/
def freeS (f : List Mk) (t : Tr) : Nat := trav (stepF f) 0 [] t 0
/-- A slice of words: a set in canonical form. -/
def WS (w : World) (B : Nat) (v : Value) (l : List Nat) : Prop := w.ownsRow B 63 1 v l.length (l.map fun s : Nat => Value.int .u64 s)
def setOf (s : Nat) : List Nat := if s = 0 then [] else [s]
def RetWS (w : World) (l : List Nat) (e : Ending) (w' : World) : Prop := ∃ v, e = .returned v ∧ Below w.heap.size w w' ∧ WS w' w.heap.size v l

set_option maxRecDepth 100000 in
set_option maxHeartbeats 2000000 in
theorem Free_no (f : List Mk) (v : Value) (w : World) (hv : MS w v f) (hf : formedS f = false) : Calls Tryd.prog 14 #[v] w (RetWS w []) := by
  have HV := Lib.hid hv; clear hv
  have HF := Lib.hid hf; clear hf
  have HB : Hid (Below w.heap.size w (w.alloc (.cells #[v] 25))) := Below.alloc (Below.refl _ _) (Nat.le_refl _) _
  obtain ⟨hop, A, c, hvv, _⟩ := HV.out
  clear hop
  subst hvv
  go_enter Tryd.func14, Tryd.ntmps14
  go_wp2_with (go_at_call 43; go_must (refine (formed_any f _ _ (HV.out.below HB.out (Nat.le_refl _))).mono ?_; rintro e w1 ⟨rfl, hb1⟩; rw [HF.out]))
  go_returns
  exact ⟨_, rfl, HB.out.trans (hb1.mono (by simp)), World.ownsRow_nil _ _ _ _⟩

set_option maxRecDepth 100000 in
set_option maxHeartbeats 2000000 in
theorem Free_yes (f : List Mk) (t : Tr) (v : Value) (w : World) (hv : MS w v f) (hf : formedS f = true) (ht : f = t.enc 0) (hok : t.ok) (hsz : t.size = f.length) : Calls Tryd.prog 14 #[v] w (RetWS w (setOf (freeS f t))) := by
  have HV := Lib.hid hv; clear hv
  have hl := formed_len f hf
  have HF := Lib.hid hf; clear hf
  have HT := Lib.hid ht; clear ht
  have HOK := Lib.hid hok; clear hok
  have HB : Hid (Below w.heap.size w (w.alloc (.cells #[v] 25))) := Below.alloc (Below.refl _ _) (Nat.le_refl _) _
  obtain ⟨hop, A, c, hvv, hc1, hc2, hcell⟩ := HV.out
  subst hvv
  obtain ⟨b, o, rfl, hb, _⟩ := hcell (by omega)
  clear hop hcell
  obtain ⟨n, hn⟩ : ∃ n, n = f.length := ⟨_, rfl⟩
  rw [← hn] at hl hc1 hsz HV HB ⊢
  have HN := Lib.hid hn; clear hn
  obtain ⟨hl1, hl2⟩ := hl
  have HSZ := Lib.hid hsz; clear hsz
  go_enter Tryd.func14, Tryd.ntmps14
  go_wp2_with (go_at_call 43; go_must (refine (formed_any f _ _ (HV.out.below HB.out (Nat.le_refl _))).mono ?_; rintro e w1 ⟨rfl, hb1⟩; rw [HF.out]; have R := Lib.hid ((Row.new w _ _).below hb1 (by simp only [World.size_alloc]; omega)); obtain ⟨x0, x1, hz1, HB1⟩ := after1 hb1; clear hb1))
  have hb1w : b < w1.heap.size := by omega
  have hgf : w.heap.size ≠ w1.heap.size := by omega
  have HAW : Hid (Away (· = w1.heap.size) (.slice (some ⟨b, o, none⟩) n c)) := by
    intro bb hbb hx
    simp only [Value.ownBlock, Option.some.injEq] at hbb
    omega
  have HBA : Hid (Below w1.heap.size w1 (w1.alloc (.cells #[.int .u64 0] 63))) := Below.alloc (Below.refl _ _) (Nat.le_refl _) _
  have HV1 := Lib.hid ((HV.out.below HB1.out (Nat.le_refl _)).below HBA.out (Nat.le_refl _))
  rw [show ((n : Int) - 1) = ((n - 1 : Nat) : Int) by omega]
  refine (visit_free (.pointer (some ⟨w.heap.size, 0, none⟩)) (.pointer (some ⟨w1.heap.size, 0, none⟩)) (· = w1.heap.size) f _ (stepF f) (FreeInv w.heap.size w1.heap.size _) HAW.out
    (fun s W W' h hb => ⟨h.1.below hb h.1.lt, h.2.1.below hb h.2.1.lt, h.2.2.1, h.2.2.2⟩) (fun s W h bb hbb => by rw [hbb]; exact h.2.1.lt)
    (free1_hyp w.heap.size w1.heap.size f _ (by rw [← HN.out]; exact hl2) HAW.out) t 0 (n - 1) [] (.slice none 0 0) 0 _ HOK.out (by rw [HSZ.out]; omega) (by omega) (by rw [← HN.out]; exact hl2)
    (fun j hj => by rw [HT.out, Nat.zero_add]) HV1.out (IS.nil _) (by intro bb hbb; simp [Value.ownBlock] at hbb) (by rw [HSZ.out]; simp; omega) ⟨(R.out.alloc _), Row.new _ _ _, by omega, hgf⟩).mono ?_
  rintro e w5 ⟨rfl, hk5, r1, r2, hs5, _⟩
  have hz5 := hk5.size
  have hbw : Below w.heap.size w w5 := (HB1.out.alloc (by omega) _).trans (hk5.below (by simp only [World.size_alloc]; omega) (fun k hk hx => by omega))
  have HBW := Lib.hid hbw
  clear hbw hk5 x0 x1
  have hfs : trav (stepF f) 0 [] t 0 = freeS f t := rfl
  rw [hfs] at r2 hs5
  clear hfs
  generalize freeS f t = s at *
  have z0 := r2.cell
  have R1 := Lib.hid r1; have R2 := Lib.hid r2
  clear r1 r2
  simp only [World.size_alloc] at hz5
  by_cases h0 : s = 0
  · have h0' : ((s : Int) == 0) = true := by simp [h0]
    have H0 := Lib.hid h0; clear h0
    go_wp2
    go_returns
    exact ⟨.slice none 0 0, rfl, HBW.out, by rw [setOf, if_pos H0.out]; exact World.ownsRow_nil _ _ _ _⟩
  · have h0' : ((s : Int) == 0) = false := by simp [h0]
    have H0 := Lib.hid h0; clear h0
    go_wp2
    go_returns
    refine ⟨.slice (some ⟨w5.heap.size, 0, none⟩) 1 1, rfl, HBW.out.alloc HBW.out.size _, ?_⟩
    rw [setOf, if_neg H0.out]
    exact World.ownsRow_lit (base := w.heap.size) (e := 63) (size := 1) w5 #[.int .u64 s] 1 HBW.out.size (by simp [maxLen]) rfl
end Go.Proofs.YtcjblbhmajdmjaaDoor
