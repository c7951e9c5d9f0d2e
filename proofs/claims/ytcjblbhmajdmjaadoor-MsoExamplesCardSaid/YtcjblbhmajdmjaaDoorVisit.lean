/- Contract: visit of the package mso, for each of the two functions that it calls. -/
import Derived.Test.YtcjblbhmajdmjaaDoorMsoC
import Derived.Test.YtcjblbhmajdmjaaDoorKeep
set_option linter.unusedSimpArgs false
set_option linter.unusedVariables false
namespace Go.Proofs.YtcjblbhmajdmjaaDoor
open Go.RowKit

def Done (S : Nat → Prop) (w : World) (I : World → Prop) (e : Ending) (w' : World) : Prop := e = .returned (.tuple #[]) ∧ Keep S w w' ∧ I w'

set_option maxRecDepth 100000 in
set_option maxHeartbeats 2000000 in
theorem visit_free {σ : Type} (k1 k2 : Value) (S : Nat → Prop) (f : List Mk) (v : Value) (step : Nat → List Int → σ → σ) (I : σ → World → Prop)
    (hS : Away S v) (hI : ∀ s W W', I s W → Below W.heap.size W W' → I s W') (hIS : ∀ s W, I s W → ∀ b, S b → b < W.heap.size)
    (hatom : ∀ (j : Nat) (m : Mk) (ab : List Int) (abv : Value) (s : σ) (W : World), f[j]? = some m → okLeaf m.op m.x m.y → MS W v f → IS W abv ab → Away S abv → I s W →
      Calls Tryd.prog 45 #[.int .i64 j, abv, k1, k2] W (Done S W (I (step j ab s)))) :
    ∀ (t : Tr) (p i : Nat) (ab : List Int) (abv : Value) (s : σ) (w : World), t.ok → i + 1 = p + t.size → i < 64 → f.length ≤ 64 → (∀ j, j < t.size → f[p + j]? = (t.enc p)[j]?) → MS w v f → IS w abv ab → Away S abv → ab.length + t.size ≤ 100 → I s w →
      Calls Tryd.prog 44 #[v, .int .i64 i, abv, .func (.func 45) #[] #[k1, k2]] w (Done S w (I (trav step p ab t s))) := by
  intro t
  have HAT := Lib.hid hatom; clear hatom
  have HI := Lib.hid hI; clear hI
  have HIS := Lib.hid hIS; clear hIS
  have HSS := Lib.hid hS; clear hS
  have hfd := fld_form2
  induction t with
  | leaf op x y =>
    intro p i ab abv s w hok hi h64 hfl hseg hv hab haw hlen hs
    have hip : i = p := by simp [Tr.size] at hi; omega
    subst hip
    have hm : f[i]? = some ⟨op, x, y, 0, 0⟩ := by have := hseg 0 (by simp [Tr.size]); simpa [Tr.enc] using this
    clear hseg hi
    have HV := Lib.hid hv
    obtain ⟨hop, A, c, rfl, hc, hc2, hcell⟩ := hv
    have hil : i < f.length := (List.getElem?_eq_some_iff.1 hm).1
    obtain ⟨b, o, rfl, hb, hcell⟩ := hcell (by omega)
    obtain ⟨c0, c1, c2, c3, c4⟩ := hcell i _ hm
    obtain ⟨m1, m2⟩ := hop _ (List.mem_of_getElem? hm)
    simp only at c0 c1 c2 c3 c4 m1 m2
    clear hcell hop
    have hnc : nc op = 0 := hok.2.1
    have HM := Lib.hid hm; clear hm
    have HOK := Lib.hid hok; clear hok
    have HAB := Lib.hid hab; clear hab
    have HAW := Lib.hid haw; clear haw
    have HS := Lib.hid hs; clear hs
    go_enter Tryd.func44, Tryd.ntmps44
    go_wp2_with (first
      | (go_at_call 53; go_must (refine (forms_any _ _ m1 m2).mono ?_; rintro e w2 ⟨rfl, hb2⟩; rw [hnc]; obtain ⟨x0, x1, hz1, HB2⟩ := after1 hb2; clear hb2))
      | (go_at_call 45; go_must (refine (HAT.out i _ ab abv s _ HM.out HOK.out (HV.out.below HB2.out (Nat.le_refl _)) (HAB.out.below HB2.out (Nat.le_refl _)) HAW.out (HI.out _ _ _ HS.out HB2.out)).mono ?_; rintro e w3 ⟨rfl, hk3, hs3⟩)))
    go_returns
    exact ⟨rfl, (Keep.of_below HB2.out (Nat.le_refl _)).trans hk3, hs3⟩
  | un op x a ih =>
    intro p i ab abv s w hok hi h64 hfl hseg hv hab haw hlen hs
    have hip : i = p + a.size := by simp [Tr.size] at hi; omega
    have hpos := a.size_pos
    have hm : f[i]? = some ⟨op, x, 0, ((p + a.size - 1 : Nat) : Int), 0⟩ := by
      have := hseg a.size (by simp [Tr.size])
      rw [hip, this, Tr.enc, List.getElem?_append_right (by rw [Tr.enc_len]; exact Nat.le_refl _), Tr.enc_len]; simp
    have hsega : ∀ j, j < a.size → f[p + j]? = (a.enc p)[j]? := fun j hj => by
      rw [hseg j (by simp [Tr.size]; omega), Tr.enc, List.getElem?_append_left (by rw [Tr.enc_len]; exact hj)]
    clear hseg
    have HV := Lib.hid hv
    obtain ⟨hop, A, c, rfl, hc, hc2, hcell⟩ := hv
    have hil : i < f.length := (List.getElem?_eq_some_iff.1 hm).1
    obtain ⟨b, o, rfl, hb, hcell⟩ := hcell (by omega)
    obtain ⟨c0, c1, c2, c3, c4⟩ := hcell i _ hm
    obtain ⟨m1, m2⟩ := hop _ (List.mem_of_getElem? hm)
    simp only at c0 c1 c2 c3 c4 m1 m2
    clear hcell hop
    have hnc : nc op = 1 := hok.1.2.1
    have hq : isQ op = true ∨ isQ op = false := by cases isQ op <;> simp
    have hl2 : ab.length + 1 + a.size ≤ 100 := by simp [Tr.size] at hlen; omega
    have hj1 : p + a.size - 1 + 1 = p + a.size := by omega
    have hj2 : p + a.size - 1 < 64 := by omega
    have HJ1 := Lib.hid hj1; clear hj1
    have HIH := Lib.hid ih; clear ih
    have HM := Lib.hid hm; clear hm
    have HOK := Lib.hid hok; clear hok
    have HAB := Lib.hid hab; clear hab
    have HAW := Lib.hid haw; clear haw
    have HS := Lib.hid hs; clear hs
    have HSEG := Lib.hid hsega; clear hsega
    have HI2 := Lib.hid hi; clear hi
    have HIP := Lib.hid hip; clear hip
    generalize hJ : p + a.size - 1 = J at *
    have HJ := Lib.hid hJ; clear hJ
    rcases hq with hq | hq
    · go_enter Tryd.func44, Tryd.ntmps44
      go_wp2_with (first
        | (go_at_call 53; go_must (refine (forms_any _ _ m1 m2).mono ?_; rintro e w2 ⟨rfl, hb2⟩; rw [hnc]; have R := Lib.hid ((Row.new w _ _).below hb2 (by simp only [World.size_alloc]; omega)); obtain ⟨x0, x1, hz1, HB2⟩ := after1 hb2; clear hb2))
        | (go_at_call 50; go_must (refine (quant_any op _).mono ?_; rintro e w3 ⟨rfl, rfl⟩; rw [hq])))
      have hlen2 : ab.length ≤ 1000 := by omega
      go_region_law (first
        | (go_simp; go_at_call 75; refine (clone_ints ab _ _ (HAB.out.below (B := w.heap.size) (by have hh := HB2.out; go_grown) (Nat.le_refl _)) (by omega)).mono ?_; rintro e w4 ⟨v1, rfl, hb4, ho1⟩; replace ho1 : OWI w4 (w.heap.size + 1) v1 ab := OWI.mono ho1 (by have := HB2.out.size; simp only [World.size_alloc, World.size_setCell, World.size_drew]; omega); have hz2 : w.heap.size < w4.heap.size := (by have h1 := hb4.size; simp only [World.size_alloc, World.size_setCell, World.size_drew] at h1; omega); have hbw : Hid (Below w.heap.size w w4) := (Below.trans (by have hh := HB2.out; go_grown) (hb4.mono (by have := HB2.out.size; simp only [World.size_alloc, World.size_setCell, World.size_drew]; omega))); have y0 : ∀ j, w4.cell? ⟨w.heap.size, j, none⟩ = #[Value.int .u8 op, .int .i64 x, .int .i64 0, .int .i64 J, .int .i64 0][j]? := (Row.below (by first | exact R.out | exact R.out.drew | exact R.out.drew.alloc _ | exact (R.out.alloc _).drew) hb4 (by simp only [World.size_alloc, World.size_setCell, World.size_drew]; omega)).cell; try go_simp)
        | (refine step_append_is rfl (.tmp 41) (.tmp 44) rfl (w.heap.size + 1) v1 ab rfl (ho1.below (B' := w4.heap.size) (by go_grown) (Nat.le_refl _)) _ [x] rfl (IS.lit 1 1 _ (by first | exact Row.new _ _ _ | exact (Row.litd (by simp)).below hb4 (by simp only [World.size_alloc, World.size_setCell, World.size_drew]; omega)) rfl (by omega) (by omega) (by intro i y hy; cases i with | zero => simpa using hy | succ i => simp at hy)) (by simp only [List.length_cons, List.length_nil]; omega) (by first | exact hz2 | (simp only [World.size_alloc, World.size_setCell, World.size_drew]; omega)) ?_; intro v3 w3 ho3 hg3 ht3))
      all_goals
        have HB3 : Hid (Below w.heap.size w w3) := (by have hh := hbw.out; refine Below.grown (w := _) (by first | exact hh | exact hh.alloc (Nat.le_of_lt hz2) _) hg3 (by first | exact Nat.le_of_lt hz2 | (simp only [World.size_alloc, World.size_setCell, World.size_drew]; omega)) (fun k hk => Nat.le_of_succ_le (World.ownsRow.lt ho1 k hk).1))
        have y3 : w3.cell? ⟨w.heap.size, 3, none⟩ = some (.int .i64 J) := (by
          refine (hg3.cell (a := ⟨w.heap.size, 3, none⟩) (v := .int .i64 J) ?_ ?_)
          · first | exact y0 3 | (go_simp)
          · intro hc
            have : w.heap.size + 1 ≤ w.heap.size := (World.ownsRow.lt ho1 _ hc.symm).1
            omega)
        have HO3 := Lib.hid ho3; clear ho3
        clear hg3 ht3 ho1 hb4 hbw y0 x0 x1 c0 c1 c2 c3 c4
        go_wp2_with (go_at_call 44; go_must (refine (HIH.out p J (ab ++ [x]) _ s _ HOK.out.2 (by rw [HJ1.out]) hj2 hfl HSEG.out (HV.out.below HB3.out (Nat.le_refl _)) HO3.out.is ?_ (by simp; omega) (HI.out _ _ _ HS.out HB3.out)).mono ?_))
        · intro bb hbb hSb
          have h1 := (World.ownsRow.lt HO3.out _ hbb).1
          have h2 := HIS.out s w HS.out bb hSb
          omega
        rintro e w5 ⟨rfl, hk5, hs5⟩
        go_wp2
        go_returns
        exact ⟨rfl, (Keep.of_below HB3.out (Nat.le_refl _)).trans hk5, by simpa [trav, hq] using hs5⟩
    · go_enter Tryd.func44, Tryd.ntmps44
      go_wp2_with (first
        | (go_at_call 53; go_must (refine (forms_any _ _ m1 m2).mono ?_; rintro e w2 ⟨rfl, hb2⟩; rw [hnc]; obtain ⟨x0, x1, hz1, HB2⟩ := after1 hb2; clear hb2))
        | (go_at_call 50; go_must (refine (quant_any op _).mono ?_; rintro e w3 ⟨rfl, rfl⟩; rw [hq]))
        | (go_at_call 44; go_must (refine (HIH.out p J ab _ s _ HOK.out.2 (by rw [HJ1.out]) hj2 hfl HSEG.out (HV.out.below HB2.out (Nat.le_refl _)) (HAB.out.below HB2.out (Nat.le_refl _)) HAW.out (by omega) (HI.out _ _ _ HS.out HB2.out)).mono ?_; rintro e w5 ⟨rfl, hk5, hs5⟩)))
      go_returns
      exact ⟨rfl, (Keep.of_below HB2.out (Nat.le_refl _)).trans hk5, by simpa [trav, hq] using hs5⟩
  | bin op a b iha ihb =>
    intro p i ab abv s w hok hi h64 hfl hseg hv hab haw hlen hs
    have hip : i = p + a.size + b.size := by simp [Tr.size] at hi; omega
    have hposa := a.size_pos
    have hposb := b.size_pos
    have hm : f[i]? = some ⟨op, 0, 0, ((p + a.size - 1 : Nat) : Int), ((p + a.size + b.size - 1 : Nat) : Int)⟩ := by
      have := hseg (a.size + b.size) (by simp [Tr.size])
      rw [hip, Nat.add_assoc, this, Tr.enc, List.getElem?_append_right (by rw [Tr.enc_len]; omega), Tr.enc_len, List.getElem?_append_right (by rw [Tr.enc_len]; omega), Tr.enc_len]; simp; omega
    have hsega : ∀ j, j < a.size → f[p + j]? = (a.enc p)[j]? := fun j hj => by
      rw [hseg j (by simp [Tr.size]; omega), Tr.enc, List.getElem?_append_left (by rw [Tr.enc_len]; exact hj)]
    have hsegb : ∀ j, j < b.size → f[p + a.size + j]? = (b.enc (p + a.size))[j]? := fun j hj => by
      have := hseg (a.size + j) (by simp [Tr.size]; omega)
      rw [Nat.add_assoc, this, Tr.enc, List.getElem?_append_right (by rw [Tr.enc_len]; omega), Tr.enc_len, List.getElem?_append_left (by rw [Tr.enc_len]; omega)]
      congr 1; omega
    clear hseg
    have HV := Lib.hid hv
    obtain ⟨hop, A, c, rfl, hc, hc2, hcell⟩ := hv
    have hil : i < f.length := (List.getElem?_eq_some_iff.1 hm).1
    obtain ⟨bb, o, rfl, hb, hcell⟩ := hcell (by omega)
    obtain ⟨c0, c1, c2, c3, c4⟩ := hcell i _ hm
    obtain ⟨m1, m2⟩ := hop _ (List.mem_of_getElem? hm)
    simp only at c0 c1 c2 c3 c4 m1 m2
    clear hcell hop
    have hnc : nc op = 2 := hok.1
    have hla : ab.length + a.size ≤ 100 := by simp [Tr.size] at hlen; omega
    have hlb : ab.length + b.size ≤ 100 := by simp [Tr.size] at hlen; omega
    have hj1 : p + a.size - 1 + 1 = p + a.size := by omega
    have hj2 : p + a.size - 1 < 64 := by omega
    have hj3 : p + a.size + b.size - 1 + 1 = p + a.size + b.size := by omega
    have hj4 : p + a.size + b.size - 1 < 64 := by omega
    have HJ1 := Lib.hid hj1; clear hj1
    have HJ3 := Lib.hid hj3; clear hj3
    have HIA := Lib.hid iha; clear iha
    have HIB := Lib.hid ihb; clear ihb
    have HM := Lib.hid hm; clear hm
    have HOK := Lib.hid hok; clear hok
    have HAB := Lib.hid hab; clear hab
    have HAW := Lib.hid haw; clear haw
    have HS := Lib.hid hs; clear hs
    have HSA := Lib.hid hsega; clear hsega
    have HSB := Lib.hid hsegb; clear hsegb
    have HI2 := Lib.hid hi; clear hi
    have HIP := Lib.hid hip; clear hip
    obtain ⟨J, hJ⟩ : ∃ J, J = p + a.size - 1 := ⟨_, rfl⟩
    obtain ⟨K, hK⟩ : ∃ K, K = p + a.size + b.size - 1 := ⟨_, rfl⟩
    rw [← hJ] at c3 hj2 HJ1
    rw [← hK] at c4 hj4 HJ3
    clear hJ hK
    go_enter Tryd.func44, Tryd.ntmps44
    go_wp2_with (go_at_call 53; go_must (refine (forms_any _ _ m1 m2).mono ?_; rintro e w2 ⟨rfl, hb2⟩; rw [hnc]; obtain ⟨x0, x1, hz1, HB2⟩ := after1 hb2; clear hb2))
    refine (HIA.out p J ab _ s _ HOK.out.2.1 HJ1.out hj2 hfl HSA.out (HV.out.below HB2.out (Nat.le_refl _)) (HAB.out.below HB2.out (Nat.le_refl _)) HAW.out hla (HI.out _ _ _ HS.out HB2.out)).mono ?_
    rintro e w5 ⟨rfl, hk5, hs5⟩
    have HK : Hid (Keep S w w5) := (Keep.of_below HB2.out (Nat.le_refl _)).trans hk5
    have y5 : ∀ j, w5.cell? ⟨w.heap.size, j, none⟩ = #[Value.int .u8 op, .int .i64 0, .int .i64 0, .int .i64 J, .int .i64 K][j]? := fun j => (hk5.cell hz1 (fun hh => by have := HIS.out s w HS.out _ hh; omega) j).trans (x0 j)
    clear hk5 x0 x1
    go_wp2_with fail
    refine (HIB.out (p + a.size) K ab _ _ _ HOK.out.2.2 HJ3.out hj4 hfl HSB.out (HV.out.keep HSS.out HK.out) (HAB.out.keep HAW.out HK.out) HAW.out hlb hs5).mono ?_
    rintro e w6 ⟨rfl, hk6, hs6⟩
    go_wp2
    go_returns
    exact ⟨rfl, HK.out.trans hk6, hs6⟩

set_option maxRecDepth 100000 in
set_option maxHeartbeats 2000000 in
theorem visit_subst {σ : Type} (k1 k2 k3 k4 k5 : Value) (S : Nat → Prop) (f : List Mk) (v : Value) (step : Nat → List Int → σ → σ) (I : σ → World → Prop)
    (hS : Away S v) (hI : ∀ s W W', I s W → Below W.heap.size W W' → I s W') (hIS : ∀ s W, I s W → ∀ b, S b → b < W.heap.size)
    (hatom : ∀ (j : Nat) (m : Mk) (ab : List Int) (abv : Value) (s : σ) (W : World), f[j]? = some m → okLeaf m.op m.x m.y → MS W v f → IS W abv ab → Away S abv → I s W →
      Calls Tryd.prog 52 #[.int .i64 j, abv, k1, k2, k3, k4, k5] W (Done S W (I (step j ab s)))) :
    ∀ (t : Tr) (p i : Nat) (ab : List Int) (abv : Value) (s : σ) (w : World), t.ok → i + 1 = p + t.size → i < 64 → f.length ≤ 64 → (∀ j, j < t.size → f[p + j]? = (t.enc p)[j]?) → MS w v f → IS w abv ab → Away S abv → ab.length + t.size ≤ 100 → I s w →
      Calls Tryd.prog 44 #[v, .int .i64 i, abv, .func (.func 52) #[] #[k1, k2, k3, k4, k5]] w (Done S w (I (trav step p ab t s))) := by
  intro t
  have HAT := Lib.hid hatom; clear hatom
  have HI := Lib.hid hI; clear hI
  have HIS := Lib.hid hIS; clear hIS
  have HSS := Lib.hid hS; clear hS
  have hfd := fld_form2
  induction t with
  | leaf op x y =>
    intro p i ab abv s w hok hi h64 hfl hseg hv hab haw hlen hs
    have hip : i = p := by simp [Tr.size] at hi; omega
    subst hip
    have hm : f[i]? = some ⟨op, x, y, 0, 0⟩ := by have := hseg 0 (by simp [Tr.size]); simpa [Tr.enc] using this
    clear hseg hi
    have HV := Lib.hid hv
    obtain ⟨hop, A, c, rfl, hc, hc2, hcell⟩ := hv
    have hil : i < f.length := (List.getElem?_eq_some_iff.1 hm).1
    obtain ⟨b, o, rfl, hb, hcell⟩ := hcell (by omega)
    obtain ⟨c0, c1, c2, c3, c4⟩ := hcell i _ hm
    obtain ⟨m1, m2⟩ := hop _ (List.mem_of_getElem? hm)
    simp only at c0 c1 c2 c3 c4 m1 m2
    clear hcell hop
    have hnc : nc op = 0 := hok.2.1
    have HM := Lib.hid hm; clear hm
    have HOK := Lib.hid hok; clear hok
    have HAB := Lib.hid hab; clear hab
    have HAW := Lib.hid haw; clear haw
    have HS := Lib.hid hs; clear hs
    go_enter Tryd.func44, Tryd.ntmps44
    go_wp2_with (first
      | (go_at_call 53; go_must (refine (forms_any _ _ m1 m2).mono ?_; rintro e w2 ⟨rfl, hb2⟩; rw [hnc]; obtain ⟨x0, x1, hz1, HB2⟩ := after1 hb2; clear hb2))
      | (go_at_call 52; go_must (refine (HAT.out i _ ab abv s _ HM.out HOK.out (HV.out.below HB2.out (Nat.le_refl _)) (HAB.out.below HB2.out (Nat.le_refl _)) HAW.out (HI.out _ _ _ HS.out HB2.out)).mono ?_; rintro e w3 ⟨rfl, hk3, hs3⟩)))
    go_returns
    exact ⟨rfl, (Keep.of_below HB2.out (Nat.le_refl _)).trans hk3, hs3⟩
  | un op x a ih =>
    intro p i ab abv s w hok hi h64 hfl hseg hv hab haw hlen hs
    have hip : i = p + a.size := by simp [Tr.size] at hi; omega
    have hpos := a.size_pos
    have hm : f[i]? = some ⟨op, x, 0, ((p + a.size - 1 : Nat) : Int), 0⟩ := by
      have := hseg a.size (by simp [Tr.size])
      rw [hip, this, Tr.enc, List.getElem?_append_right (by rw [Tr.enc_len]; exact Nat.le_refl _), Tr.enc_len]; simp
    have hsega : ∀ j, j < a.size → f[p + j]? = (a.enc p)[j]? := fun j hj => by
      rw [hseg j (by simp [Tr.size]; omega), Tr.enc, List.getElem?_append_left (by rw [Tr.enc_len]; exact hj)]
    clear hseg
    have HV := Lib.hid hv
    obtain ⟨hop, A, c, rfl, hc, hc2, hcell⟩ := hv
    have hil : i < f.length := (List.getElem?_eq_some_iff.1 hm).1
    obtain ⟨b, o, rfl, hb, hcell⟩ := hcell (by omega)
    obtain ⟨c0, c1, c2, c3, c4⟩ := hcell i _ hm
    obtain ⟨m1, m2⟩ := hop _ (List.mem_of_getElem? hm)
    simp only at c0 c1 c2 c3 c4 m1 m2
    clear hcell hop
    have hnc : nc op = 1 := hok.1.2.1
    have hq : isQ op = true ∨ isQ op = false := by cases isQ op <;> simp
    have hl2 : ab.length + 1 + a.size ≤ 100 := by simp [Tr.size] at hlen; omega
    have hj1 : p + a.size - 1 + 1 = p + a.size := by omega
    have hj2 : p + a.size - 1 < 64 := by omega
    have HJ1 := Lib.hid hj1; clear hj1
    have HIH := Lib.hid ih; clear ih
    have HM := Lib.hid hm; clear hm
    have HOK := Lib.hid hok; clear hok
    have HAB := Lib.hid hab; clear hab
    have HAW := Lib.hid haw; clear haw
    have HS := Lib.hid hs; clear hs
    have HSEG := Lib.hid hsega; clear hsega
    have HI2 := Lib.hid hi; clear hi
    have HIP := Lib.hid hip; clear hip
    generalize hJ : p + a.size - 1 = J at *
    have HJ := Lib.hid hJ; clear hJ
    rcases hq with hq | hq
    · go_enter Tryd.func44, Tryd.ntmps44
      go_wp2_with (first
        | (go_at_call 53; go_must (refine (forms_any _ _ m1 m2).mono ?_; rintro e w2 ⟨rfl, hb2⟩; rw [hnc]; have R := Lib.hid ((Row.new w _ _).below hb2 (by simp only [World.size_alloc]; omega)); obtain ⟨x0, x1, hz1, HB2⟩ := after1 hb2; clear hb2))
        | (go_at_call 50; go_must (refine (quant_any op _).mono ?_; rintro e w3 ⟨rfl, rfl⟩; rw [hq])))
      have hlen2 : ab.length ≤ 1000 := by omega
      go_region_law (first
        | (go_simp; go_at_call 75; refine (clone_ints ab _ _ (HAB.out.below (B := w.heap.size) (by have hh := HB2.out; go_grown) (Nat.le_refl _)) (by omega)).mono ?_; rintro e w4 ⟨v1, rfl, hb4, ho1⟩; replace ho1 : OWI w4 (w.heap.size + 1) v1 ab := OWI.mono ho1 (by have := HB2.out.size; simp only [World.size_alloc, World.size_setCell, World.size_drew]; omega); have hz2 : w.heap.size < w4.heap.size := (by have h1 := hb4.size; simp only [World.size_alloc, World.size_setCell, World.size_drew] at h1; omega); have hbw : Hid (Below w.heap.size w w4) := (Below.trans (by have hh := HB2.out; go_grown) (hb4.mono (by have := HB2.out.size; simp only [World.size_alloc, World.size_setCell, World.size_drew]; omega))); have y0 : ∀ j, w4.cell? ⟨w.heap.size, j, none⟩ = #[Value.int .u8 op, .int .i64 x, .int .i64 0, .int .i64 J, .int .i64 0][j]? := (Row.below (by first | exact R.out | exact R.out.drew | exact R.out.drew.alloc _ | exact (R.out.alloc _).drew) hb4 (by simp only [World.size_alloc, World.size_setCell, World.size_drew]; omega)).cell; try go_simp)
        | (refine step_append_is rfl (.tmp 41) (.tmp 44) rfl (w.heap.size + 1) v1 ab rfl (ho1.below (B' := w4.heap.size) (by go_grown) (Nat.le_refl _)) _ [x] rfl (IS.lit 1 1 _ (by first | exact Row.new _ _ _ | exact (Row.litd (by simp)).below hb4 (by simp only [World.size_alloc, World.size_setCell, World.size_drew]; omega)) rfl (by omega) (by omega) (by intro i y hy; cases i with | zero => simpa using hy | succ i => simp at hy)) (by simp only [List.length_cons, List.length_nil]; omega) (by first | exact hz2 | (simp only [World.size_alloc, World.size_setCell, World.size_drew]; omega)) ?_; intro v3 w3 ho3 hg3 ht3))
      all_goals
        have HB3 : Hid (Below w.heap.size w w3) := (by have hh := hbw.out; refine Below.grown (w := _) (by first | exact hh | exact hh.alloc (Nat.le_of_lt hz2) _) hg3 (by first | exact Nat.le_of_lt hz2 | (simp only [World.size_alloc, World.size_setCell, World.size_drew]; omega)) (fun k hk => Nat.le_of_succ_le (World.ownsRow.lt ho1 k hk).1))
        have y3 : w3.cell? ⟨w.heap.size, 3, none⟩ = some (.int .i64 J) := (by
          refine (hg3.cell (a := ⟨w.heap.size, 3, none⟩) (v := .int .i64 J) ?_ ?_)
          · first | exact y0 3 | (go_simp)
          · intro hc
            have : w.heap.size + 1 ≤ w.heap.size := (World.ownsRow.lt ho1 _ hc.symm).1
            omega)
        have HO3 := Lib.hid ho3; clear ho3
        clear hg3 ht3 ho1 hb4 hbw y0 x0 x1 c0 c1 c2 c3 c4
        go_wp2_with (go_at_call 44; go_must (refine (HIH.out p J (ab ++ [x]) _ s _ HOK.out.2 (by rw [HJ1.out]) hj2 hfl HSEG.out (HV.out.below HB3.out (Nat.le_refl _)) HO3.out.is ?_ (by simp; omega) (HI.out _ _ _ HS.out HB3.out)).mono ?_))
        · intro bb hbb hSb
          have h1 := (World.ownsRow.lt HO3.out _ hbb).1
          have h2 := HIS.out s w HS.out bb hSb
          omega
        rintro e w5 ⟨rfl, hk5, hs5⟩
        go_wp2
        go_returns
        exact ⟨rfl, (Keep.of_below HB3.out (Nat.le_refl _)).trans hk5, by simpa [trav, hq] using hs5⟩
    · go_enter Tryd.func44, Tryd.ntmps44
      go_wp2_with (first
        | (go_at_call 53; go_must (refine (forms_any _ _ m1 m2).mono ?_; rintro e w2 ⟨rfl, hb2⟩; rw [hnc]; obtain ⟨x0, x1, hz1, HB2⟩ := after1 hb2; clear hb2))
        | (go_at_call 50; go_must (refine (quant_any op _).mono ?_; rintro e w3 ⟨rfl, rfl⟩; rw [hq]))
        | (go_at_call 44; go_must (refine (HIH.out p J ab _ s _ HOK.out.2 (by rw [HJ1.out]) hj2 hfl HSEG.out (HV.out.below HB2.out (Nat.le_refl _)) (HAB.out.below HB2.out (Nat.le_refl _)) HAW.out (by omega) (HI.out _ _ _ HS.out HB2.out)).mono ?_; rintro e w5 ⟨rfl, hk5, hs5⟩)))
      go_returns
      exact ⟨rfl, (Keep.of_below HB2.out (Nat.le_refl _)).trans hk5, by simpa [trav, hq] using hs5⟩
  | bin op a b iha ihb =>
    intro p i ab abv s w hok hi h64 hfl hseg hv hab haw hlen hs
    have hip : i = p + a.size + b.size := by simp [Tr.size] at hi; omega
    have hposa := a.size_pos
    have hposb := b.size_pos
    have hm : f[i]? = some ⟨op, 0, 0, ((p + a.size - 1 : Nat) : Int), ((p + a.size + b.size - 1 : Nat) : Int)⟩ := by
      have := hseg (a.size + b.size) (by simp [Tr.size])
      rw [hip, Nat.add_assoc, this, Tr.enc, List.getElem?_append_right (by rw [Tr.enc_len]; omega), Tr.enc_len, List.getElem?_append_right (by rw [Tr.enc_len]; omega), Tr.enc_len]; simp; omega
    have hsega : ∀ j, j < a.size → f[p + j]? = (a.enc p)[j]? := fun j hj => by
      rw [hseg j (by simp [Tr.size]; omega), Tr.enc, List.getElem?_append_left (by rw [Tr.enc_len]; exact hj)]
    have hsegb : ∀ j, j < b.size → f[p + a.size + j]? = (b.enc (p + a.size))[j]? := fun j hj => by
      have := hseg (a.size + j) (by simp [Tr.size]; omega)
      rw [Nat.add_assoc, this, Tr.enc, List.getElem?_append_right (by rw [Tr.enc_len]; omega), Tr.enc_len, List.getElem?_append_left (by rw [Tr.enc_len]; omega)]
      congr 1; omega
    clear hseg
    have HV := Lib.hid hv
    obtain ⟨hop, A, c, rfl, hc, hc2, hcell⟩ := hv
    have hil : i < f.length := (List.getElem?_eq_some_iff.1 hm).1
    obtain ⟨bb, o, rfl, hb, hcell⟩ := hcell (by omega)
    obtain ⟨c0, c1, c2, c3, c4⟩ := hcell i _ hm
    obtain ⟨m1, m2⟩ := hop _ (List.mem_of_getElem? hm)
    simp only at c0 c1 c2 c3 c4 m1 m2
    clear hcell hop
    have hnc : nc op = 2 := hok.1
    have hla : ab.length + a.size ≤ 100 := by simp [Tr.size] at hlen; omega
    have hlb : ab.length + b.size ≤ 100 := by simp [Tr.size] at hlen; omega
    have hj1 : p + a.size - 1 + 1 = p + a.size := by omega
    have hj2 : p + a.size - 1 < 64 := by omega
    have hj3 : p + a.size + b.size - 1 + 1 = p + a.size + b.size := by omega
    have hj4 : p + a.size + b.size - 1 < 64 := by omega
    have HJ1 := Lib.hid hj1; clear hj1
    have HJ3 := Lib.hid hj3; clear hj3
    have HIA := Lib.hid iha; clear iha
    have HIB := Lib.hid ihb; clear ihb
    have HM := Lib.hid hm; clear hm
    have HOK := Lib.hid hok; clear hok
    have HAB := Lib.hid hab; clear hab
    have HAW := Lib.hid haw; clear haw
    have HS := Lib.hid hs; clear hs
    have HSA := Lib.hid hsega; clear hsega
    have HSB := Lib.hid hsegb; clear hsegb
    have HI2 := Lib.hid hi; clear hi
    have HIP := Lib.hid hip; clear hip
    obtain ⟨J, hJ⟩ : ∃ J, J = p + a.size - 1 := ⟨_, rfl⟩
    obtain ⟨K, hK⟩ : ∃ K, K = p + a.size + b.size - 1 := ⟨_, rfl⟩
    rw [← hJ] at c3 hj2 HJ1
    rw [← hK] at c4 hj4 HJ3
    clear hJ hK
    go_enter Tryd.func44, Tryd.ntmps44
    go_wp2_with (go_at_call 53; go_must (refine (forms_any _ _ m1 m2).mono ?_; rintro e w2 ⟨rfl, hb2⟩; rw [hnc]; obtain ⟨x0, x1, hz1, HB2⟩ := after1 hb2; clear hb2))
    refine (HIA.out p J ab _ s _ HOK.out.2.1 HJ1.out hj2 hfl HSA.out (HV.out.below HB2.out (Nat.le_refl _)) (HAB.out.below HB2.out (Nat.le_refl _)) HAW.out hla (HI.out _ _ _ HS.out HB2.out)).mono ?_
    rintro e w5 ⟨rfl, hk5, hs5⟩
    have HK : Hid (Keep S w w5) := (Keep.of_below HB2.out (Nat.le_refl _)).trans hk5
    have y5 : ∀ j, w5.cell? ⟨w.heap.size, j, none⟩ = #[Value.int .u8 op, .int .i64 0, .int .i64 0, .int .i64 J, .int .i64 K][j]? := fun j => (hk5.cell hz1 (fun hh => by have := HIS.out s w HS.out _ hh; omega) j).trans (x0 j)
    clear hk5 x0 x1
    go_wp2_with fail
    refine (HIB.out (p + a.size) K ab _ _ _ HOK.out.2.2 HJ3.out hj4 hfl HSB.out (HV.out.keep HSS.out HK.out) (HAB.out.keep HAW.out HK.out) HAW.out hlb hs5).mono ?_
    rintro e w6 ⟨rfl, hk6, hs6⟩
    go_wp2
    go_returns
    exact ⟨rfl, HK.out.trans hk6, hs6⟩
end Go.Proofs.YtcjblbhmajdmjaaDoor
