/- TreeLists: for all numbers and every tree the law returns true. -/
import Derived.Test.YtahimlnddelnbaaDoorTLa
import Derived.OrdersHeld
set_option linter.unusedSimpArgs false
set_option linter.unusedVariables false
namespace Go.Proofs.YtahimlnddelnbaaDoor
open Go.RowKit

set_option maxRecDepth 100000 in
set_option maxHeartbeats 16000000 in
theorem tlists_good (haw : CAwake) (a0 n0 : Int) (l a : List Lf) (L : List (List Lf)) (v : Value) (w : World) (hv : TS w v l) (V N na n : Nat) (k0 : Int) (f0 q1 q2 : Bool)
    (hV : ((a0.tmod 4 + 4).tmod 4) = V) (hN : ((n0.tmod 5 + 5).tmod 5) = N) (ha0 : -9223372036854775808 ≤ a0) (ha1 : a0 ≤ 9223372036854775807) (hn0 : -9223372036854775808 ≤ n0) (hn1 : n0 ≤ 9223372036854775807)
    (HFL : Hid (CFew l a)) (HNA : Hid (RetN a na)) (HAL : Hid (∀ W, Calls Tryd.prog 44 #[.int .i64 (V : Int), .int .i64 (N : Int)] W (AllE W (L, 0)))) (HLn : Hid (L.length = n)) (hn4 : n ≤ 4096)
    (HC0 : Hid (CChk a V k0)) (hq1 : (k0 != 0) = q1) (hq2 : ((na : Int) != (N : Int)) = q2) (hq : f0 = (q1 || q2))
    (HCX : Hid (∀ x ∈ L, x.length = N ∧ CChk x V 0)) (HCP : Hid (∀ (i : Nat) (x y : List Lf), L[i]? = some x → L[i + 1]? = some y → CCmp x y (-1))) (HEQ : Hid (∀ x ∈ L, CEqB x a (decide (x = a)))) (F : Nat → Bool) (HF0 : Hid (F 0 = f0)) (HFs : Hid (∀ (k : Nat) (x : List Lf), L[k]? = some x → F (k + 1) = (F k || decide (x = a)))) (HEnd : Hid (F n = true)) :
    Calls Tryd.prog 14 #[.int .i64 a0, .int .i64 n0, v] w fun e w' => e = .returned (.bool true) ∧ Below w.heap.size w w' := by
  have HAW := Lib.hid haw
  have HV := Lib.hid hv
  have HB := Lib.hid (Below.refl w.heap.size w)
  obtain ⟨A0, c0, rfl⟩ := hv.form
  obtain ⟨l9, hl9⟩ : ∃ k, k = l.length := ⟨_, rfl⟩
  rw [← hl9] at HV ⊢
  obtain ⟨h1, h2⟩ := tmod_bd a0 4 (by omega)
  obtain ⟨h3, h4⟩ := tmod_bd n0 5 (by omega)
  have HRA := Lib.hid (fun (W W' : World) (e : Ending) (h : AllE W (L, 0) e W') => AR.of h n HLn.out)
  clear hv hl9 haw
  have hcase : (q1 = true ∧ f0 = true) ∨ (q1 = false ∧ q2 = true ∧ f0 = true) ∨ (q1 = false ∧ q2 = false ∧ f0 = false) := by cases q1 <;> cases q2 <;> simp_all
  clear hq
  rcases hcase with ⟨rfl, rfl⟩ | ⟨rfl, rfl, rfl⟩ | ⟨rfl, rfl, rfl⟩
  all_goals
    go_enter Tryd.func14, Tryd.ntmps14
    go_wp2_with (first
      | (go_at_call 44; (with_reducible refine (HAL.out _).mono ?_); rintro e wx hx; obtain ⟨A1, c1, vs, rfl, hb, hq⟩ := HRA.out _ _ _ hx; have HR := Lib.hid hq; replace HV := Lib.hid (HV.out.to hb); replace HB := Lib.hid hb; clear hx hb hq)
      | (go_at_call 22; (with_reducible refine (HFL.out _ _ HV.out).mono ?_); rintro e wx hx; obtain ⟨A2, c2, rfl, hb, hq⟩ := HNA.out _ _ _ hx; have HA := Lib.hid hq; replace HR := Lib.hid (HR.out.to hb); replace HB := Lib.hid (HB.out.trans (hb.mono HB.out.size)); clear hx hb hq HV)
      | (go_at_call 23; (with_reducible refine (HC0.out _ _ HA.out).mono ?_); rintro e wx ⟨rfl, hb⟩; replace HA := Lib.hid (HA.out.to hb); replace HR := Lib.hid (HR.out.to hb); replace HB := Lib.hid (HB.out.trans (hb.mono HB.out.size)); clear hb))
    clear HFL HNA HAL HC0 HRA h1 h2 h3 h4 hq1 hq2 hV hN ha0 ha1 hn0 hn1
    obtain ⟨wc, hwc⟩ : ∃ x, x = wx := ⟨_, rfl⟩
    subst hwc
    go_loopg [10, 11] n (fun gk s q wr => ∃ k : Nat, k ≤ n ∧ gk = n - k ∧ q = .int .i64 k ∧ s = .bool (F k) ∧ Below wc.heap.size wc wr)
    case atStart => exact ⟨0, Nat.zero_le _, rfl, rfl, by rw [HF0.out], Below.refl _ _⟩
    case round =>
      obtain ⟨k, hk, rfl, rfl, rfl, hbe⟩ := hrel
      have HBW := Lib.hid hbe
      replace HB := Lib.hid (HB.out.trans (hbe.mono HB.out.size))
      replace HA := Lib.hid (HA.out.to hbe)
      replace HR := Lib.hid (HR.out.to hbe)
      clear hbe
      by_cases hlt : k < n
      · obtain ⟨x, hx⟩ : ∃ x, L[k]? = some x := ⟨L[k]'(by rw [HLn.out]; exact hlt), List.getElem?_eq_getElem _⟩
        have hxm := List.mem_of_getElem? hx
        obtain ⟨hxl, hcx⟩ := HCX.out x hxm
        have HX := Lib.hid hcx
        have HE := Lib.hid (HEQ.out x hxm)
        have hsn := HFs.out k x hx
        obtain ⟨A3, c3, hv3⟩ := HR.out.at hx
        rw [hxl] at hv3
        obtain ⟨b, o, rfl, hbl⟩ := HR.out.addr hv3
        have r1 := HR.out.cell hv3
        have hki : (k : Int) < n := by omega
        have HT3 := Lib.hid (HR.out.2.2 k _ x hv3 hx)
        obtain ⟨d, hd⟩ : ∃ d, d = decide (x = a) := ⟨_, rfl⟩
        obtain ⟨p, hp⟩ : ∃ p, p = F k := ⟨_, rfl⟩
        rw [← hd] at HE hsn
        rw [← hp] at hsn ⊢
        have HSN := Lib.hid hsn
        cases k with
        | zero =>
          simp only [Nat.add_zero, Int.natCast_zero] at r1 ⊢
          have hn0 : (0 : Int) < n := by omega
          have hn1 : 0 < n := hlt
          clear hx hxm hcx hsn hv3 hd hp hki hlt
          go_upto_region 10 with (fail)
          refine wp_region_held_drew (S := fun W => W.cell? ⟨b, o, none⟩ = some (.slice A3 N c3)) (by kernel_rfl) (r1) (fun hHeld => ?_)
          refine wpAnyH_take (i := 0) (oi := ⟨some 64, _, _, _, _, _⟩) (v := ?_) rfl (by kernel_rfl) (by kernel_rfl) (by kernel_rfl) (fun _ _ _ h => h) (Or.inl ⟨by rfl, ?_⟩) (by assumption) ?_
          rotate_left 1
          · (intro w hSw; (try dsimp only at hSw); (first | (go_simp; done) | (go_simp; with_reducible rfl)))
          try simp only [Act.put, List.setIfInBounds_toArray, List.set_cons_zero, List.set_cons_succ]
          refine wpAnyH_take (i := 1) (oi := ⟨some 65, _, _, _, _, _⟩) (v := ?_) rfl (by kernel_rfl) (by kernel_rfl) (by kernel_rfl) (fun _ _ _ h => h) (Or.inl ⟨by rfl, ?_⟩) (by assumption) ?_
          rotate_left 1
          · (intro w hSw; (try dsimp only at hSw); (first | (go_simp; done) | (go_simp; with_reducible rfl)))
          try simp only [Act.put, List.setIfInBounds_toArray, List.set_cons_zero, List.set_cons_succ]
          refine wpAnyH_take (i := 2) (oi := ⟨some 66, _, _, _, _, _⟩) (v := ?_) rfl (by kernel_rfl) (by kernel_rfl) (by kernel_rfl) (fun _ _ _ h => h) (Or.inl ⟨by rfl, ?_⟩) (by assumption) ?_
          rotate_left 1
          · (intro w hSw; (try dsimp only at hSw); (first | (go_simp; done) | (go_simp; with_reducible rfl)))
          try simp only [Act.put, List.setIfInBounds_toArray, List.set_cons_zero, List.set_cons_succ]
          refine wpAnyH_take (i := 3) (oi := ⟨some 67, _, _, _, _, _⟩) (v := ?_) rfl (by kernel_rfl) (by kernel_rfl) (by kernel_rfl) (fun _ _ _ h => h) (Or.inl ⟨by rfl, ?_⟩) (by assumption) ?_
          rotate_left 1
          · (intro w hSw; (try dsimp only at hSw); (first | (go_simp; done) | (go_simp; with_reducible rfl)))
          try simp only [Act.put, List.setIfInBounds_toArray, List.set_cons_zero, List.set_cons_succ]
          refine wpAnyH_take (i := 4) (oi := ⟨some 68, _, _, _, _, _⟩) (v := ?_) rfl (by kernel_rfl) (by kernel_rfl) (by kernel_rfl) (fun _ _ _ h => h) (Or.inl ⟨by rfl, ?_⟩) (by assumption) ?_
          rotate_left 1
          · (intro w hSw; (try dsimp only at hSw); (first | (go_simp; done) | (go_simp; with_reducible rfl)))
          try simp only [Act.put, List.setIfInBounds_toArray, List.set_cons_zero, List.set_cons_succ]
          refine wpAnyH_ready (rs := [5]) (by kernel_rfl) (by simp) ?_
          refine AllReadyH.cons rfl (fun K hK => ?_) AllReadyH.nil
          go_simp
          (go_at_call 23; refine (HX.out _ _ (by exact HT3.out)).mono ?_; rintro e w2 ⟨rfl, hb2⟩; have HB2 : Hid (Below wr.heap.size wr w2) := (⟨hb2.os, hb2.tape, hb2.output, hb2.size, hb2.block⟩ : Below wr.heap.size wr w2); clear hb2)
          refine hK.out _ _ ((HB2.out.cell (p := ⟨b, _, none⟩) hbl).trans r1) (fun hHeld1 => ?_)
          clear hK K hHeld
          try simp only [Act.put, List.setIfInBounds_toArray, List.set_cons_zero, List.set_cons_succ]
          refine wpAnyH_take (i := 6) (oi := ⟨some 70, _, _, _, _, _⟩) (v := ?_) rfl (by kernel_rfl) (by kernel_rfl) (by kernel_rfl) (fun _ _ _ h => h) (Or.inl ⟨by rfl, ?_⟩) (by assumption) ?_
          rotate_left 1
          · (intro w hSw; (try dsimp only at hSw); (first | (go_simp; done) | (go_simp; with_reducible rfl)))
          try simp only [Act.put, List.setIfInBounds_toArray, List.set_cons_zero, List.set_cons_succ]
          refine wpAnyH_take (i := 7) (oi := ⟨some 71, _, _, _, _, _⟩) (v := ?_) rfl (by kernel_rfl) (by kernel_rfl) (by kernel_rfl) (fun _ _ _ h => h) (Or.inl ⟨by rfl, ?_⟩) (by assumption) ?_
          rotate_left 1
          · (intro w hSw; (try dsimp only at hSw); (first | (go_simp; done) | (go_simp; with_reducible rfl)))
          try simp only [Act.put, List.setIfInBounds_toArray, List.set_cons_zero, List.set_cons_succ]
          refine wpAnyH_take (i := 8) (oi := ⟨some 72, _, _, _, _, _⟩) (v := ?_) rfl (by kernel_rfl) (by kernel_rfl) (by kernel_rfl) (fun _ _ _ h => h) (Or.inl ⟨by rfl, ?_⟩) (by assumption) ?_
          rotate_left 1
          · (intro w hSw; (try dsimp only at hSw); (first | (go_simp; done) | (go_simp; with_reducible rfl)))
          try simp only [Act.put, List.setIfInBounds_toArray, List.set_cons_zero, List.set_cons_succ]
          refine wpAnyH_take (i := 9) (oi := ⟨some 73, _, _, _, _, _⟩) (v := ?_) rfl (by kernel_rfl) (by kernel_rfl) (by kernel_rfl) (fun _ _ _ h => h) (Or.inl ⟨by rfl, ?_⟩) (by assumption) ?_
          rotate_left 1
          · (intro w hSw; (try dsimp only at hSw); (first | (go_simp; done) | (go_simp; with_reducible rfl)))
          try simp only [Act.put, List.setIfInBounds_toArray, List.set_cons_zero, List.set_cons_succ]
          refine wpAnyH_take (i := 10) (oi := ⟨some 74, _, _, _, _, _⟩) (v := ?_) rfl (by kernel_rfl) (by kernel_rfl) (by kernel_rfl) (fun _ _ _ h => h) (Or.inl ⟨by rfl, ?_⟩) (by assumption) ?_
          rotate_left 1
          · (intro w hSw; (try dsimp only at hSw); (first | (go_simp; done) | (go_simp; with_reducible rfl)))
          try simp only [Act.put, List.setIfInBounds_toArray, List.set_cons_zero, List.set_cons_succ]
          refine wpAnyH_take (i := 11) (oi := ⟨some 75, _, _, _, _, _⟩) (v := ?_) rfl (by kernel_rfl) (by kernel_rfl) (by kernel_rfl) (fun _ _ _ h => h) (Or.inl ⟨by rfl, ?_⟩) (by assumption) ?_
          rotate_left 1
          · (intro w hSw; (try dsimp only at hSw); (first | (go_simp; done) | (go_simp; with_reducible rfl)))
          try simp only [Act.put, List.setIfInBounds_toArray, List.set_cons_zero, List.set_cons_succ]
          refine wpAnyH_take (i := 12) (oi := ⟨some 76, _, _, _, _, _⟩) (v := ?_) rfl (by kernel_rfl) (by kernel_rfl) (by kernel_rfl) (fun _ _ _ h => h) (Or.inl ⟨by rfl, ?_⟩) (by assumption) ?_
          rotate_left 1
          · (intro w hSw; (try dsimp only at hSw); (first | (go_simp; done) | (go_simp; with_reducible rfl)))
          try simp only [Act.put, List.setIfInBounds_toArray, List.set_cons_zero, List.set_cons_succ]
          refine wpAnyH_take (i := 13) (oi := ⟨some 77, _, _, _, _, _⟩) (v := ?_) rfl (by kernel_rfl) (by kernel_rfl) (by kernel_rfl) (fun _ _ _ h => h) (Or.inl ⟨by rfl, ?_⟩) (by assumption) ?_
          rotate_left 1
          · (intro w hSw; (try dsimp only at hSw); (first | (go_simp; done) | (go_simp; with_reducible rfl)))
          try simp only [Act.put, List.setIfInBounds_toArray, List.set_cons_zero, List.set_cons_succ]
          refine wpAnyH_take (i := 14) (oi := ⟨some 78, _, _, _, _, _⟩) (v := ?_) rfl (by kernel_rfl) (by kernel_rfl) (by kernel_rfl) (fun _ _ _ h => h) (Or.inl ⟨by rfl, ?_⟩) (by assumption) ?_
          rotate_left 1
          · (intro w hSw; (try dsimp only at hSw); (first | (go_simp; done) | (go_simp; with_reducible rfl)))
          try simp only [Act.put, List.setIfInBounds_toArray, List.set_cons_zero, List.set_cons_succ]
          refine wpAnyH_take (i := 15) (oi := ⟨some 79, _, _, _, _, _⟩) (v := ?_) rfl (by kernel_rfl) (by kernel_rfl) (by kernel_rfl) (fun _ _ _ h => h) (Or.inl ⟨by rfl, ?_⟩) (by assumption) ?_
          rotate_left 1
          · (intro w hSw; (try dsimp only at hSw); (first | (go_simp; done) | (go_simp; with_reducible rfl)))
          try simp only [Act.put, List.setIfInBounds_toArray, List.set_cons_zero, List.set_cons_succ]
          refine wpAnyH_take (i := 16) (oi := ⟨some 80, _, _, _, _, _⟩) (v := ?_) rfl (by kernel_rfl) (by kernel_rfl) (by kernel_rfl) (fun _ _ _ h => h) (Or.inl ⟨by rfl, ?_⟩) (by assumption) ?_
          rotate_left 1
          · (intro w hSw; (try dsimp only at hSw); (first | (go_simp; done) | (go_simp; with_reducible rfl)))
          try simp only [Act.put, List.setIfInBounds_toArray, List.set_cons_zero, List.set_cons_succ]
          refine wpAnyH_take (i := 17) (oi := ⟨some 81, _, _, _, _, _⟩) (v := ?_) rfl (by kernel_rfl) (by kernel_rfl) (by kernel_rfl) (fun _ _ _ h => h) (Or.inl ⟨by rfl, ?_⟩) (by assumption) ?_
          rotate_left 1
          · (intro w hSw; (try dsimp only at hSw); (first | (go_simp; done) | (go_simp; with_reducible rfl)))
          try simp only [Act.put, List.setIfInBounds_toArray, List.set_cons_zero, List.set_cons_succ]
          refine wpAnyH_take (i := 18) (oi := ⟨some 82, _, _, _, _, _⟩) (v := ?_) rfl (by kernel_rfl) (by kernel_rfl) (by kernel_rfl) (fun _ _ _ h => h) (Or.inl ⟨by rfl, ?_⟩) (by assumption) ?_
          rotate_left 1
          · (intro w hSw; (try dsimp only at hSw); (first | (go_simp; done) | (go_simp; with_reducible rfl)))
          try simp only [Act.put, List.setIfInBounds_toArray, List.set_cons_zero, List.set_cons_succ]
          refine wpAnyH_take (i := 19) (oi := ⟨some 83, _, _, _, _, _⟩) (v := ?_) rfl (by kernel_rfl) (by kernel_rfl) (by kernel_rfl) (fun _ _ _ h => h) (Or.inl ⟨by rfl, ?_⟩) (by assumption) ?_
          rotate_left 1
          · (intro w hSw; (try dsimp only at hSw); (first | (go_simp; done) | (go_simp; with_reducible rfl)))
          try simp only [Act.put, List.setIfInBounds_toArray, List.set_cons_zero, List.set_cons_succ]
          refine wpAnyH_take (i := 20) (oi := ⟨some 84, _, _, _, _, _⟩) rfl (by kernel_rfl) (by kernel_rfl) (by kernel_rfl) (fun _ _ _ h => h) (Or.inr ⟨by rfl, rfl⟩) (by assumption) ?_
          try simp only [Act.put, List.setIfInBounds_toArray, List.set_cons_zero, List.set_cons_succ]
          refine wpAnyH_take (i := 21) (oi := ⟨some 85, _, _, _, _, _⟩) rfl (by kernel_rfl) (by kernel_rfl) (by kernel_rfl) (fun _ _ _ h => h) (Or.inr ⟨by rfl, rfl⟩) (by assumption) ?_
          try simp only [Act.put, List.setIfInBounds_toArray, List.set_cons_zero, List.set_cons_succ]
          refine wpAnyH_take (i := 22) (oi := ⟨some 86, _, _, _, _, _⟩) rfl (by kernel_rfl) (by kernel_rfl) (by kernel_rfl) (fun _ _ _ h => h) (Or.inr ⟨by rfl, rfl⟩) (by assumption) ?_
          try simp only [Act.put, List.setIfInBounds_toArray, List.set_cons_zero, List.set_cons_succ]
          refine wpAnyH_take (i := 23) (oi := ⟨some 87, _, _, _, _, _⟩) rfl (by kernel_rfl) (by kernel_rfl) (by kernel_rfl) (fun _ _ _ h => h) (Or.inr ⟨by rfl, rfl⟩) (by assumption) ?_
          try simp only [Act.put, List.setIfInBounds_toArray, List.set_cons_zero, List.set_cons_succ]
          refine wpAnyH_take (i := 24) (oi := ⟨some 88, _, _, _, _, _⟩) rfl (by kernel_rfl) (by kernel_rfl) (by kernel_rfl) (fun _ _ _ h => h) (Or.inr ⟨by rfl, rfl⟩) (by assumption) ?_
          try simp only [Act.put, List.setIfInBounds_toArray, List.set_cons_zero, List.set_cons_succ]
          refine wpAnyH_take (i := 25) (oi := ⟨some 89, _, _, _, _, _⟩) rfl (by kernel_rfl) (by kernel_rfl) (by kernel_rfl) (fun _ _ _ h => h) (Or.inr ⟨by rfl, rfl⟩) (by assumption) ?_
          try simp only [Act.put, List.setIfInBounds_toArray, List.set_cons_zero, List.set_cons_succ]
          refine wpAnyH_take (i := 26) (oi := ⟨some 90, _, _, _, _, _⟩) rfl (by kernel_rfl) (by kernel_rfl) (by kernel_rfl) (fun _ _ _ h => h) (Or.inr ⟨by rfl, rfl⟩) (by assumption) ?_
          try simp only [Act.put, List.setIfInBounds_toArray, List.set_cons_zero, List.set_cons_succ]
          refine wpAnyH_take (i := 27) (oi := ⟨some 91, _, _, _, _, _⟩) rfl (by kernel_rfl) (by kernel_rfl) (by kernel_rfl) (fun _ _ _ h => h) (Or.inr ⟨by rfl, rfl⟩) (by assumption) ?_
          try simp only [Act.put, List.setIfInBounds_toArray, List.set_cons_zero, List.set_cons_succ]
          refine wpAnyH_take (i := 28) (oi := ⟨some 92, _, _, _, _, _⟩) rfl (by kernel_rfl) (by kernel_rfl) (by kernel_rfl) (fun _ _ _ h => h) (Or.inr ⟨by rfl, rfl⟩) (by assumption) ?_
          try simp only [Act.put, List.setIfInBounds_toArray, List.set_cons_zero, List.set_cons_succ]
          refine wpAnyH_take (i := 29) (oi := ⟨some 93, _, _, _, _, _⟩) rfl (by kernel_rfl) (by kernel_rfl) (by kernel_rfl) (fun _ _ _ h => h) (Or.inr ⟨by rfl, rfl⟩) (by assumption) ?_
          try simp only [Act.put, List.setIfInBounds_toArray, List.set_cons_zero, List.set_cons_succ]
          refine wpAnyH_take (i := 30) (oi := ⟨some 94, _, _, _, _, _⟩) rfl (by kernel_rfl) (by kernel_rfl) (by kernel_rfl) (fun _ _ _ h => h) (Or.inr ⟨by rfl, rfl⟩) (by assumption) ?_
          try simp only [Act.put, List.setIfInBounds_toArray, List.set_cons_zero, List.set_cons_succ]
          refine wpAnyH_take (i := 31) (oi := ⟨some 95, _, _, _, _, _⟩) (v := ?_) rfl (by kernel_rfl) (by kernel_rfl) (by kernel_rfl) (fun _ _ _ h => h) (Or.inl ⟨by rfl, ?_⟩) (by assumption) ?_
          rotate_left 1
          · (intro w hSw; (try dsimp only at hSw); (first | (go_simp; done) | (go_simp; with_reducible rfl)))
          try simp only [Act.put, List.setIfInBounds_toArray, List.set_cons_zero, List.set_cons_succ]
          refine wpAnyH_take (i := 32) (oi := ⟨some 96, _, _, _, _, _⟩) (v := ?_) rfl (by kernel_rfl) (by kernel_rfl) (by kernel_rfl) (fun _ _ _ h => h) (Or.inl ⟨by rfl, ?_⟩) (by assumption) ?_
          rotate_left 1
          · (intro w hSw; (try dsimp only at hSw); (first | (go_simp; done) | (go_simp; with_reducible rfl)))
          try simp only [Act.put, List.setIfInBounds_toArray, List.set_cons_zero, List.set_cons_succ]
          refine wpAnyH_done (by kernel_rfl) ?_ _
          have r3 := (HB2.out.cell (p := ⟨b, _, none⟩) hbl).trans r1
          clear r1
          cases p with
          | true =>
            go_wp2_with fail
            go_roundg (n - (0 + 1))
            case rel => exact ⟨0 + 1, by omega, rfl, by go_num, by rw [HSN.out]; rfl, HBW.out.trans (HB2.out.mono HBW.out.size)⟩
            case measure => omega
          | false =>
            go_wp2_with (go_at_call 33; (with_reducible refine (HE.out _ _ _ (HT3.out.to HB2.out) (HA.out.to HB2.out)).mono ?_); rintro e w4 ⟨rfl, hb4⟩; have HB4 : Hid (Below wr.heap.size wr w4) := HB2.out.trans (hb4.mono HB2.out.size); clear hb4)
            go_roundg (n - (0 + 1))
            case rel => exact ⟨0 + 1, by omega, rfl, by go_num, by rw [HSN.out]; rfl, HBW.out.trans (HB4.out.mono HBW.out.size)⟩
            case measure => omega
        | succ j =>
          obtain ⟨y, hy⟩ : ∃ y, L[j]? = some y := ⟨L[j]'(by rw [HLn.out]; omega), List.getElem?_eq_getElem _⟩
          obtain ⟨hyl, _⟩ := HCX.out y (List.mem_of_getElem? hy)
          have HP := Lib.hid (HCP.out j y x hy hx)
          obtain ⟨A4, c4, hv4⟩ := HR.out.at hy
          rw [hyl] at hv4
          have r2 := HR.out.cell hv4
          have HT4 := Lib.hid (HR.out.2.2 j _ y hv4 hy)
          have j1 := wrap_pred j (by omega)
          have j2 : (0 : Int) ≤ (j : Int) + 1 := by omega
          have j3 : (j : Int) + 1 < n := by omega
          have j4 : ((j : Int) + 1).toNat = j + 1 := by omega
          have j5 : (0 : Int) < (j : Int) + 1 := by omega
          have j6 : (j : Int) < n := by omega
          have j7 : (0 : Int) ≤ (j : Int) := by omega
          have j8 : IntKind.i64.wrap (j : Int) = j := IntWalk.i64_in _ (by omega)
          have hcn : (n : Int) ≤ c1 := by have := HR.out.1.len; omega
          rw [Int.natCast_add, Int.natCast_one]
          clear hx hy hxm hcx hsn hv3 hv4 hd hp hyl hxl hlt hki
          go_upto_region 10 with (fail)
          first
          | go_region_held3 (fun W => W.cell? ⟨b, o + (j + 1), none⟩ = some (.slice A3 N c3) ∧ W.cell? ⟨b, o + j, none⟩ = some (.slice A4 N c4)) (first | exact ⟨(HB3.out.cell (p := ⟨b, _, none⟩) hbl).trans r1, (HB3.out.cell (p := ⟨b, _, none⟩) hbl).trans r2⟩ | exact ⟨(HB2.out.cell (p := ⟨b, _, none⟩) hbl).trans r1, (HB2.out.cell (p := ⟨b, _, none⟩) hbl).trans r2⟩ | exact ⟨r1, r2⟩) (first
            | (go_at_call 23; refine (HX.out _ _ (by exact HT3.out)).mono ?_; rintro e w2 ⟨rfl, hb2⟩; have HB2 : Hid (Below wr.heap.size wr w2) := (⟨hb2.os, hb2.tape, hb2.output, hb2.size, hb2.block⟩ : Below wr.heap.size wr w2); clear hb2)
            | (go_at_call 38; (with_reducible refine (HP.out _ _ _ (HT4.out.to HB2.out) (HT3.out.to HB2.out)).mono ?_); rintro e w3 ⟨rfl, hb3⟩; have HB3 : Hid (Below wr.heap.size wr w3) := HB2.out.trans (hb3.mono HB2.out.size); clear hb3))
          | fail
          clear j1 j2 j4 j7 j8
          have r3 := (HB3.out.cell (p := ⟨b, _, none⟩) hbl).trans r1
          clear r1 r2
          cases p with
          | true =>
            go_wp2_with fail
            go_roundg (n - (j + 1 + 1))
            case rel => exact ⟨j + 1 + 1, by omega, rfl, by go_num, by rw [HSN.out]; rfl, HBW.out.trans (HB3.out.mono HBW.out.size)⟩
            case measure => omega
          | false =>
            go_wp2_with (go_at_call 33; (with_reducible refine (HE.out _ _ _ (HT3.out.to HB3.out) (HA.out.to HB3.out)).mono ?_); rintro e w4 ⟨rfl, hb4⟩; have HB4 : Hid (Below wr.heap.size wr w4) := HB3.out.trans (hb4.mono HB3.out.size); clear hb4)
            go_roundg (n - (j + 1 + 1))
            case rel => exact ⟨j + 1 + 1, by omega, rfl, by go_num, by rw [HSN.out]; rfl, HBW.out.trans (HB4.out.mono HBW.out.size)⟩
            case measure => omega
      · have hkn : k = n := by omega
        have hFn : F k = true := by rw [hkn]; exact HEnd.out
        rw [hFn]
        clear hkn hFn
        go_wp2_with (go_at_call 35; (with_reducible refine (HAW.out _).mono ?_); rintro e wy ⟨rfl, hb⟩; replace HB := Lib.hid (HB.out.trans (hb.mono HB.out.size)); clear hb)
        go_returns
        exact ⟨rfl, HB.out⟩
theorem tlists_any (haw : CAwake) (a0 n0 : Int) (l : List Lf) (v : Value) (w : World) (hv : TS w v l) (ha0 : -9223372036854775808 ≤ a0) (ha1 : a0 ≤ 9223372036854775807) (hn0 : -9223372036854775808 ≤ n0) (hn1 : n0 ≤ 9223372036854775807) :
    Calls Tryd.prog 14 #[.int .i64 a0, .int .i64 n0, v] w fun e w' => e = .returned (.bool true) ∧ Below w.heap.size w w' := by
  have hm : ∀ (x n : Int), 0 < n → ∃ V : Nat, (x.tmod n + n).tmod n = V ∧ (V : Int) < n := fun x n h => by
    obtain ⟨h1, h2⟩ := tmod_bd x n h
    refine ⟨((x.tmod n + n).tmod n).toNat, ?_, ?_⟩
    · rw [Int.toNat_of_nonneg]
      exact Int.tmod_nonneg _ (by omega)
    · rw [Int.toNat_of_nonneg (Int.tmod_nonneg _ (by omega))]
      exact Int.tmod_lt_of_pos _ h
  obtain ⟨V, hV, hV4⟩ := hm a0 4 (by omega)
  obtain ⟨N, hN, hN5⟩ := hm n0 5 (by omega)
  have hV4' : V < 4 := by omega
  have hN5' : N < 5 := by omega
  by_cases hbad : V = 3 ∧ N = 4
  · exact tlists_none haw a0 n0 l v w hv V N hV4' hN5' hV hN ha0 ha1 hn0 hn1 hbad
  · have h2 : (allS V N).2 = 0 := by rw [all_e V N hV4' hN5', if_neg hbad]
    have hpair : allS V N = ((allS V N).1, 0) := by rw [← h2]
    have hll := list_len V N hV4' hN5'
    have hmem := fun x hx => list_mem (x := x) hV4' hN5' h2 hx
    have hnx := fun i x y => list_next (i := i) (x := x) (y := y) hV4' hN5' h2
    have hlb : ∀ m ∈ l.take 40, 0 ≤ m.label := fun m hm => (hv.lb m (List.mem_of_mem_take hm)).1
    have hin : ∀ a : List Lf, (∀ m ∈ a, 0 ≤ m.label) → checkT a V = 0 → a.length = N → a ∈ (allS V N).1 := fun a => list_has hV4' hN5' h2
    have hal : ∀ W, Calls Tryd.prog 44 #[.int .i64 (V : Int), .int .i64 (N : Int)] W (AllE W ((allS V N).1, 0)) := fun W => by have q := All_any V N W; rw [hpair] at q; exact q
    generalize (allS V N).1 = L at *
    obtain ⟨a, ha⟩ : ∃ a, a = l.take 40 := ⟨_, rfl⟩
    rw [← ha] at hlb
    refine tlists_good haw a0 n0 l a L v w hv V N a.length L.length (checkT a V) _ _ _ hV hN ha0 ha1 hn0 hn1 (Lib.hid fun W v h => by have q := few15_any l v W h; rw [← ha] at q; exact q) (Lib.hid fun W e W' h => ret_to _ rfl h) (Lib.hid hal) (Lib.hid rfl) hll
      (Lib.hid fun W v h => TreeCheck_any a v V W h) rfl rfl rfl (Lib.hid fun x hx => ⟨(hmem x hx).2.1, fun W v h => by have q := TreeCheck_any x v V W h; rw [(hmem x hx).1] at q; exact q⟩)
      (Lib.hid fun i x y hx hy W v u h1 h2 => by have q := Compare_any x y v u W h1 h2; rw [hnx i x y hx hy] at q; exact q)
      (Lib.hid fun x hx W v u h1 h2 => equalTree x a v u W h1 h2 (by have := (hmem x hx).2.1; omega)) (fnd _ L a) (Lib.hid (fnd_zero _ _ _)) (Lib.hid fun k x hx => fnd_succ hx) (Lib.hid (fnd_end ?_))
    by_cases hc : checkT a V = 0
    · by_cases hl : a.length = N
      · exact .inr (hin a hlb hc hl)
      · refine .inl ?_
        have : ((a.length : Int) != (N : Int)) = true := by simp; omega
        rw [this, Bool.or_true]
    · refine .inl ?_
      have : (checkT a V != 0) = true := by simp [hc]
      rw [this, Bool.true_or]
end Go.Proofs.YtahimlnddelnbaaDoor
