/- MsoExamples: the walk. (Printed by gen_exa.py.) -/
import Derived.Test.YtcjblbhmajdmjaaDoorExaH
import Derived.Deep.RegionHeld3
import Derived.Test.YtcjblbhmajdmjaaDoorTextM
import Derived.Test.YtcjblbhmajdmjaaDoorOver
set_option linter.unusedSimpArgs false
set_option linter.unusedVariables false
namespace Go.Proofs.YtcjblbhmajdmjaaDoor
open Go.RowKit

/-- Loops 1 to 4: what stands at each round's head. -/
structure Hold (w0 : World) (gl : Nat) (w : World) : Prop where
  below : Below w0.heap.size w0 w
  leaf : Row w gl 23 #[.int .u8 1, .int .i64 0, .int .i64 0, .int .i64 0, .int .i64 0]
  new : w0.heap.size ≤ gl
theorem Hold.alloc {w0 w : World} {gl : Nat} (h : Hold w0 gl w) (o : Obj) : Hold w0 gl (w.alloc o) := ⟨Below.alloc h.below h.below.size o, h.leaf.alloc o, h.new⟩
theorem Hold.to {w0 w w' : World} {gl : Nat} (h : Hold w0 gl w) (hb : Below w.heap.size w w') : Hold w0 gl w' := ⟨h.below.trans (hb.mono h.below.size), h.leaf.below hb h.leaf.lt, h.new⟩
theorem fields_made {w0 w : World} {gl : Nat} (K : Nat) (hK : K < 18) (h : Hold w0 gl w) :
    let x : Mk := ⟨K, 0, 0, 0, 0⟩
    let l : Mk := ⟨1, 0, 0, 0, 0⟩
    let w1 := w.alloc (.cells (fcells [x]).toArray 23)
    let w2 := w1.alloc (.cells (fcells [x]).toArray 23)
    let w3 := w2.alloc (.cells (fcells [l, x]).toArray 23)
    let w4 := w3.alloc (.cells (fcells [l, l, x]).toArray 23)
    let w5 := w4.alloc (.cells (fcells [l, ⟨9, 0, 0, 0, 0⟩, l, x]).toArray 23)
    let w6 := w5.alloc (.cells #[.slice (some ⟨w.heap.size + 1, 0, none⟩) 1 1, .slice (some ⟨w.heap.size + 1 + 1, 0, none⟩) 2 2, .slice (some ⟨w.heap.size + 1 + 1 + 1, 0, none⟩) 3 3, .slice (some ⟨w.heap.size + 1 + 1 + 1 + 1, 0, none⟩) 4 4] 25)
    Hold w0 gl w6 ∧ Fields w6 (w.heap.size + 1 + 1 + 1 + 1 + 1) (.slice (some ⟨w.heap.size + 1, 0, none⟩) 1 1) (.slice (some ⟨w.heap.size + 1 + 1, 0, none⟩) 2 2) (.slice (some ⟨w.heap.size + 1 + 1 + 1, 0, none⟩) 3 3) (.slice (some ⟨w.heap.size + 1 + 1 + 1 + 1, 0, none⟩) 4 4) := by
  intro x l w1 w2 w3 w4 w5 w6
  have r2 : Row w2 (w.heap.size + 1) 23 (fcells [x]).toArray := Row.lit (by simp [w1])
  have r3 : Row w3 (w.heap.size + 1 + 1) 23 (fcells [l, x]).toArray := Row.lit (by simp [w1, w2])
  have r4 : Row w4 (w.heap.size + 1 + 1 + 1) 23 (fcells [l, l, x]).toArray := Row.lit (by simp [w1, w2, w3])
  have r5 : Row w5 (w.heap.size + 1 + 1 + 1 + 1) 23 (fcells [l, ⟨9, 0, 0, 0, 0⟩, l, x]).toArray := Row.lit (by simp [w1, w2, w3, w4])
  have r6 : Row w6 (w.heap.size + 1 + 1 + 1 + 1 + 1) 25 _ := Row.lit (by simp [w1, w2, w3, w4, w5])
  refine ⟨(((((h.alloc _).alloc _).alloc _).alloc _).alloc _).alloc _, r6, ?_, ?_, ?_, ?_⟩
  · exact ⟨[x], MS.lit ((((r2.alloc _).alloc _).alloc _).alloc _) 1 rfl rfl (by simp [OpOk, x]; omega) (by omega), by simp, by simp⟩
  · exact ⟨[l, x], MS.lit (((r3.alloc _).alloc _).alloc _) 2 rfl rfl (by simp [OpOk, x, l]; omega) (by omega), by simp, by simp⟩
  · exact ⟨[l, l, x], MS.lit ((r4.alloc _).alloc _) 3 rfl rfl (by simp [OpOk, x, l]; omega) (by omega), by simp, by simp⟩
  · exact ⟨[l, ⟨9, 0, 0, 0, 0⟩, l, x], MS.lit (r5.alloc _) 4 rfl rfl (by simp [OpOk, x, l]; omega) (by omega), by simp, by simp⟩
set_option maxRecDepth 100000 in
set_option maxHeartbeats 8000000 in
theorem exa_walk (w : World) : Calls Tryd.prog 3 #[] w fun e w' => e = .returned (.bool true) ∧ Below w.heap.size w w' := by
  have HMAT := Lib.hid mat_any; have HTXT := Lib.hid textm_any; have HJOI := Lib.hid joinm_any
  go_enter Tryd.func3, Tryd.ntmps3
  have HL0 : Hid (Row (w.alloc (.cells #[.int .u8 1, .int .i64 0, .int .i64 0, .int .i64 0, .int .i64 0] 23)) w.heap.size 23 #[.int .u8 1, .int .i64 0, .int .i64 0, .int .i64 0, .int .i64 0]) := Row.new w _ _
  go_wp2_with fail
  go_loopg [2] 18 (fun gk q wr => ∃ K : Nat, K ≤ 18 ∧ gk = 18 - K ∧ q = .int .i64 K ∧ Hold w w.heap.size wr)
  case atStart => exact ⟨0, by omega, rfl, rfl, ⟨Below.alloc (Below.refl _ _) (Nat.le_refl _) _, HL0.out, Nat.le_refl _⟩⟩
  case round =>
    obtain ⟨K, hK, rfl, rfl, hh⟩ := hrel
    have HH := Lib.hid hh; clear hh
    by_cases hlt : K < 18
    · have hKi : (K : Int) < 18 := by omega
      have HK0 := Lib.hid (show (0 : Int) ≤ (K : Int) by omega); have HK1 := Lib.hid (show (K : Int) ≤ 255 by omega)
      go_wp2_with fail
      go_loopg [3] 8 (fun gk q wr => ∃ J : Nat, J ≤ 8 ∧ gk = 8 - J ∧ q = .int .i64 ((J : Int) - 1) ∧ Hold w w.heap.size wr)
      case atStart => exact ⟨0, by omega, rfl, rfl, HH.out⟩
      case round =>
        obtain ⟨J, hJ, rfl, rfl, hh⟩ := hrel
        replace HH := Lib.hid hh; clear hh
        by_cases hlt2 : J < 8
        · have hj : (J : Int) - 1 < 7 := by omega
          have rn := HH.out.leaf.cell; have rl := HH.out.leaf.lt
          have rl1 : w.heap.size < wr.heap.size + 1 := by omega
          have rl2 : w.heap.size < wr.heap.size + 1 + 1 := by omega
          have rl3 : w.heap.size < wr.heap.size + 1 + 1 + 1 := by omega
          have rl4 : w.heap.size < wr.heap.size + 1 + 1 + 1 + 1 := by omega
          have rm2 : w.heap.size < wr.heap.size + 2 := by omega
          have rm3 : w.heap.size < wr.heap.size + 3 := by omega
          have rm4 : w.heap.size < wr.heap.size + 4 := by omega
          go_upto_region 10 with (fail)
          refine wp_abs (fun W => Hold w w.heap.size W ∧ Fields W (wr.heap.size + 1 + 1 + 1 + 1 + 1) (.slice (some ⟨wr.heap.size + 1, 0, none⟩) 1 1) (.slice (some ⟨wr.heap.size + 1 + 1, 0, none⟩) 2 2) (.slice (some ⟨wr.heap.size + 1 + 1 + 1, 0, none⟩) 3 3) (.slice (some ⟨wr.heap.size + 1 + 1 + 1 + 1, 0, none⟩) 4 4)) ?_ ?_
          · exact fields_made K hlt HH.out
          clear rn rl rl1 rl2 rl3 rl4 rm2 rm3 rm4 hj
          rintro wf ⟨hh, hf⟩
          replace HH := Lib.hid hh
          have HF := Lib.hid hf
          clear hh hf
          generalize wr.heap.size + 1 + 1 + 1 + 1 + 1 = gf at *
          obtain ⟨s0, hs0⟩ : ∃ s, s = Value.slice (some ⟨wr.heap.size + 1, 0, none⟩) 1 1 := ⟨_, rfl⟩
          obtain ⟨s1, hs1⟩ : ∃ s, s = Value.slice (some ⟨wr.heap.size + 1 + 1, 0, none⟩) 2 2 := ⟨_, rfl⟩
          obtain ⟨s2, hs2⟩ : ∃ s, s = Value.slice (some ⟨wr.heap.size + 1 + 1 + 1, 0, none⟩) 3 3 := ⟨_, rfl⟩
          obtain ⟨s3, hs3⟩ : ∃ s, s = Value.slice (some ⟨wr.heap.size + 1 + 1 + 1 + 1, 0, none⟩) 4 4 := ⟨_, rfl⟩
          rw [← hs0, ← hs1, ← hs2, ← hs3] at HF
          clear hs0 hs1 hs2 hs3
          go_wp2_with fail
          go_loopg [6] 4 (fun gk q wr => ∃ I : Nat, I ≤ 4 ∧ gk = 4 - I ∧ q = .int .i64 I ∧ Hold w w.heap.size wr ∧ Fields wr gf s0 s1 s2 s3)
          case atStart => exact ⟨0, by omega, rfl, rfl, HH.out, HF.out⟩
          case round =>
            obtain ⟨I, hI, rfl, rfl, hh, hf⟩ := hrel
            replace HH := Lib.hid hh; replace HF := Lib.hid hf; clear hh hf
            by_cases hlt3 : I < 4
            · have hIi : (I : Int) < 4 := by omega
              obtain ⟨s, hc, F, hm, p1, p2⟩ := HF.out.at I hlt3
              obtain ⟨_, A, c, rfl, c1, c2, _⟩ := id hm
              have HM := Lib.hid hm
              obtain ⟨n, hn⟩ : ∃ n, n = F.length := ⟨_, rfl⟩
              have HNN := Lib.hid hn
              rw [← hn] at hc HM p1 p2 c1
              clear hm hn
              have n1 : (1 : Int) ≤ n := by omega
              have n2 : IntKind.i64.wrap ((n : Int) - 1) = (n : Int) - 1 := IntWalk.i64_in _ ⟨by omega, by omega⟩
              go_wp2_with fail
              go_loopg [9] 5 (fun gk q wr => ∃ D : Nat, D ≤ 5 ∧ gk = 5 - D ∧ q = .int .i64 D ∧ Hold w w.heap.size wr ∧ Fields wr gf s0 s1 s2 s3 ∧ MS wr (.slice A n c) F)
              case atStart => exact ⟨0, by omega, rfl, rfl, HH.out, HF.out, HM.out⟩
              case round =>
                obtain ⟨D, hD, rfl, rfl, hh, hf, hm⟩ := hrel
                replace HH := Lib.hid hh; replace HF := Lib.hid hf; replace HM := Lib.hid hm; clear hh hf hm
                by_cases hlt4 : D < 5
                · have hDi : (D : Int) < 5 := by omega
                  go_upto_region 19 with (go_at_call 4; go_must (refine (copy_any F _ _ HM.out (by have := HNN.out; omega)).mono ?_; rintro e wy ⟨vy, rfl, hb, ho⟩))
                  obtain ⟨g, cap, rfl, hg1, hg2⟩ := ho.shape HNN.out p1
                  have HO := Lib.hid ho; have HB := Lib.hid hb; clear ho hb
                  have hD5 : D = 0 ∨ D = 1 ∨ D = 2 ∨ D = 3 ∨ D = 4 := by omega
                  have n3 : ((n : Int) - 1).toNat = n - 1 := by omega
                  have n4 : (n : Int) - 1 < n := by omega
                  have n5 : (0 : Int) ≤ (n : Int) - 1 := by omega
                  have g0 := own_cells HO.out HNN.out.symm; have g1 := own_free HO.out
                  obtain ⟨z1, d1⟩ := g0 ((n - 1) * 5 + 1) (by omega)
                  obtain ⟨z2, d2⟩ := g0 ((n - 1) * 5 + 2) (by omega)
                  obtain ⟨z3, d3⟩ := g0 ((n - 1) * 5 + 3) (by omega)
                  obtain ⟨z4, d4⟩ := g0 ((n - 1) * 5 + 4) (by omega)
                  clear g0
                  rcases hD5 with rfl | rfl | rfl | rfl | rfl
                  · go_upto_region 29 with (fail)
                    obtain ⟨F', hl', hs'⟩ := last_set HO.out HNN.out.symm p1 1 (by omega) (by omega) ((J : Int) - 1)
                    refine wp_abs (fun W => Below wr.heap.size wr W ∧ MS W (.slice (some ⟨g, 0, none⟩) n cap) F') ⟨(HB.out.setCell (p := ⟨g, _, none⟩) hg1 _), hs'.ms⟩ ?_
                    clear z1 d1 z2 d2 z3 d3 z4 d4 g1 HB HO hs' hl' n3 n4 n5
                    rintro W1 ⟨hb1, hm1⟩
                    have HB1 := Lib.hid hb1; have HM1 := Lib.hid hm1
                    clear hb1 hm1
                    go_wp2_with (first
                      | (go_at_call 5; (with_reducible refine (HMAT.out F' _ _ _ _ _ HM1.out HK0.out HK1.out).mono ?_); rintro e W2 ⟨rfl, hb2⟩; have HB2 := Lib.hid (HB1.out.trans (hb2.mono HB1.out.size)); have HM2 := Lib.hid (HM1.out.below hb2 (Nat.le_refl _)); have HX1 := HB1; clear hb2 HB1 HM1)
                      | (go_at_call 5; (with_reducible refine (HMAT.out F' _ _ _ _ _ HM2.out HK0.out HK1.out).mono ?_); rintro e W2 ⟨rfl, hb2⟩; have HB3 := Lib.hid (HB2.out.trans (hb2.mono HB2.out.size)); clear hb2))
                    go_roundg (5 - (0 + 1))
                    case rel => exact ⟨0 + 1, by omega, rfl, by first | rfl | go_num, HH.out.to HB3.out, HF.out.below HB3.out (Nat.le_refl _), HM.out.below HB3.out (Nat.le_refl _)⟩
                    case measure => omega
                  · go_upto_region 29 with (fail)
                    obtain ⟨F', hl', hs'⟩ := last_set HO.out HNN.out.symm p1 2 (by omega) (by omega) ((J : Int) - 1)
                    refine wp_abs (fun W => Below wr.heap.size wr W ∧ MS W (.slice (some ⟨g, 0, none⟩) n cap) F') ⟨(HB.out.setCell (p := ⟨g, _, none⟩) hg1 _), hs'.ms⟩ ?_
                    clear z1 d1 z2 d2 z3 d3 z4 d4 g1 HB HO hs' hl' n3 n4 n5
                    rintro W1 ⟨hb1, hm1⟩
                    have HB1 := Lib.hid hb1; have HM1 := Lib.hid hm1
                    clear hb1 hm1
                    go_wp2_with (first
                      | (go_at_call 5; (with_reducible refine (HMAT.out F' _ _ _ _ _ HM1.out HK0.out HK1.out).mono ?_); rintro e W2 ⟨rfl, hb2⟩; have HB2 := Lib.hid (HB1.out.trans (hb2.mono HB1.out.size)); have HM2 := Lib.hid (HM1.out.below hb2 (Nat.le_refl _)); have HX1 := HB1; clear hb2 HB1 HM1)
                      | (go_at_call 5; (with_reducible refine (HMAT.out F' _ _ _ _ _ HM2.out HK0.out HK1.out).mono ?_); rintro e W2 ⟨rfl, hb2⟩; have HB3 := Lib.hid (HB2.out.trans (hb2.mono HB2.out.size)); clear hb2))
                    go_roundg (5 - (1 + 1))
                    case rel => exact ⟨1 + 1, by omega, rfl, by first | rfl | go_num, HH.out.to HB3.out, HF.out.below HB3.out (Nat.le_refl _), HM.out.below HB3.out (Nat.le_refl _)⟩
                    case measure => omega
                  · go_upto_region 29 with (fail)
                    obtain ⟨F', hl', hs'⟩ := last_set HO.out HNN.out.symm p1 3 (by omega) (by omega) ((J : Int) - 1)
                    refine wp_abs (fun W => Below wr.heap.size wr W ∧ MS W (.slice (some ⟨g, 0, none⟩) n cap) F') ⟨(HB.out.setCell (p := ⟨g, _, none⟩) hg1 _), hs'.ms⟩ ?_
                    clear z1 d1 z2 d2 z3 d3 z4 d4 g1 HB HO hs' hl' n3 n4 n5
                    rintro W1 ⟨hb1, hm1⟩
                    have HB1 := Lib.hid hb1; have HM1 := Lib.hid hm1
                    clear hb1 hm1
                    go_wp2_with (first
                      | (go_at_call 5; (with_reducible refine (HMAT.out F' _ _ _ _ _ HM1.out HK0.out HK1.out).mono ?_); rintro e W2 ⟨rfl, hb2⟩; have HB2 := Lib.hid (HB1.out.trans (hb2.mono HB1.out.size)); have HM2 := Lib.hid (HM1.out.below hb2 (Nat.le_refl _)); have HX1 := HB1; clear hb2 HB1 HM1)
                      | (go_at_call 5; (with_reducible refine (HMAT.out F' _ _ _ _ _ HM2.out HK0.out HK1.out).mono ?_); rintro e W2 ⟨rfl, hb2⟩; have HB3 := Lib.hid (HB2.out.trans (hb2.mono HB2.out.size)); clear hb2))
                    go_roundg (5 - (2 + 1))
                    case rel => exact ⟨2 + 1, by omega, rfl, by first | rfl | go_num, HH.out.to HB3.out, HF.out.below HB3.out (Nat.le_refl _), HM.out.below HB3.out (Nat.le_refl _)⟩
                    case measure => omega
                  · go_upto_region 29 with (fail)
                    obtain ⟨F', hl', hs'⟩ := last_set HO.out HNN.out.symm p1 4 (by omega) (by omega) ((J : Int) - 1)
                    refine wp_abs (fun W => Below wr.heap.size wr W ∧ MS W (.slice (some ⟨g, 0, none⟩) n cap) F') ⟨(HB.out.setCell (p := ⟨g, _, none⟩) hg1 _), hs'.ms⟩ ?_
                    clear z1 d1 z2 d2 z3 d3 z4 d4 g1 HB HO hs' hl' n3 n4 n5
                    rintro W1 ⟨hb1, hm1⟩
                    have HB1 := Lib.hid hb1; have HM1 := Lib.hid hm1
                    clear hb1 hm1
                    go_wp2_with (first
                      | (go_at_call 5; (with_reducible refine (HMAT.out F' _ _ _ _ _ HM1.out HK0.out HK1.out).mono ?_); rintro e W2 ⟨rfl, hb2⟩; have HB2 := Lib.hid (HB1.out.trans (hb2.mono HB1.out.size)); have HM2 := Lib.hid (HM1.out.below hb2 (Nat.le_refl _)); have HX1 := HB1; clear hb2 HB1 HM1)
                      | (go_at_call 5; (with_reducible refine (HMAT.out F' _ _ _ _ _ HM2.out HK0.out HK1.out).mono ?_); rintro e W2 ⟨rfl, hb2⟩; have HB3 := Lib.hid (HB2.out.trans (hb2.mono HB2.out.size)); clear hb2))
                    go_roundg (5 - (3 + 1))
                    case rel => exact ⟨3 + 1, by omega, rfl, by first | rfl | go_num, HH.out.to HB3.out, HF.out.below HB3.out (Nat.le_refl _), HM.out.below HB3.out (Nat.le_refl _)⟩
                    case measure => omega
                  · go_upto_region 29 with (fail)
                    obtain ⟨F1, hl1, hs1⟩ := last_set HO.out HNN.out.symm p1 3 (by omega) (by omega) ((J : Int) - 1)
                    obtain ⟨F', hl', hs'⟩ := last_set hs1 hl1 p1 4 (by omega) (by omega) ((n : Int) - 1 - 1)
                    refine wp_abs (fun W => Below wr.heap.size wr W ∧ MS W (.slice (some ⟨g, 0, none⟩) n cap) F') ⟨((HB.out.setCell (p := ⟨g, _, none⟩) hg1 _).setCell (p := ⟨g, _, none⟩) hg1 _), hs'.ms⟩ ?_
                    clear z1 d1 z2 d2 z3 d3 z4 d4 g1 HB HO hs' hl' n3 n4 n5 hs1 hl1
                    rintro W1 ⟨hb1, hm1⟩
                    have HB1 := Lib.hid hb1; have HM1 := Lib.hid hm1
                    clear hb1 hm1
                    go_wp2_with (first
                      | (go_at_call 5; (with_reducible refine (HMAT.out F' _ _ _ _ _ HM1.out HK0.out HK1.out).mono ?_); rintro e W2 ⟨rfl, hb2⟩; have HB2 := Lib.hid (HB1.out.trans (hb2.mono HB1.out.size)); have HM2 := Lib.hid (HM1.out.below hb2 (Nat.le_refl _)); have HX1 := HB1; clear hb2 HB1 HM1)
                      | (go_at_call 5; (with_reducible refine (HMAT.out F' _ _ _ _ _ HM2.out HK0.out HK1.out).mono ?_); rintro e W2 ⟨rfl, hb2⟩; have HB3 := Lib.hid (HB2.out.trans (hb2.mono HB2.out.size)); clear hb2))
                    go_roundg (5 - (4 + 1))
                    case rel => exact ⟨4 + 1, by omega, rfl, by first | rfl | go_num, HH.out.to HB3.out, HF.out.below HB3.out (Nat.le_refl _), HM.out.below HB3.out (Nat.le_refl _)⟩
                    case measure => omega
                · obtain rfl : D = 5 := by omega
                  have hDi : ¬ ((5 : Nat) : Int) < 5 := by omega
                  go_wp2
                  go_roundg (4 - (I + 1))
                  case rel => exact ⟨I + 1, by omega, rfl, by go_num, HH.out, HF.out⟩
                  case measure => omega
            · obtain rfl : I = 4 := by omega
              have hIi : ¬ ((4 : Nat) : Int) < 4 := by omega
              go_wp2
              go_roundg (8 - (J + 1))
              case rel => exact ⟨J + 1, by omega, rfl, by first | go_num | (congr 1; omega), HH.out⟩
              case measure => omega
        · obtain rfl : J = 8 := by omega
          have hj : ¬ ((8 : Nat) : Int) - 1 < 7 := by omega
          go_wp2
          go_roundg (18 - (K + 1))
          case rel => exact ⟨K + 1, by omega, rfl, by go_num, HH.out⟩
          case measure => omega
    · obtain rfl : K = 18 := by omega
      have HB := Lib.hid HH.out.below
      clear HH HL0 hlt hK
      go_wp2
      go_loopg [11, 12] 63 (fun gk q11 q12 wx => ∃ (i : Nat) (s : ByteArray), i ≤ 63 ∧ gk = 63 - i ∧ q11 = .string s ∧ s.size = 4 + 6 * i ∧ q12 = .int .i64 i ∧ Below w.heap.size w wx)
      case atStart => exact ⟨0, _, by omega, rfl, rfl, rfl, rfl, HB.out⟩
      case round =>
        clear HB
        obtain ⟨i, s, hi, rfl, rfl, hs, rfl, hb⟩ := hrel
        have HB := Lib.hid hb; have HS := Lib.hid hs
        clear hb
        have hlt1 : ¬ 9223372036854775807 < 5 + s.size := by omega
        have hlt2 : ¬ 9223372036854775807 < 5 + s.size + 1 := by omega
        clear hs
        by_cases hlt : i < 63
        · have hlti : (i : Int) < 63 := by omega
          go_wp2
          go_roundg (63 - (i + 1))
          case rel => exact ⟨i + 1, _, by omega, rfl, rfl, by simp only [ByteArray.size_append, HS.out]; show 5 + (4 + 6 * i) + 1 = _; omega, by go_num, HB.out⟩
          case measure => omega
        · obtain rfl : i = 63 := by omega
          have hlti : ¬ ((63 : Nat) : Int) < 63 := by omega
          obtain ⟨w1, rfl⟩ : ∃ w1 : World, w1 = wr := ⟨_, rfl⟩
          go_wp2
          refine wp_abs (fun W => TxF W w1.heap.size ∧ Below w.heap.size w W) ⟨TxF.of (Row.new _ _ _) (by rw [HS.out]; omega) (by simp only [ByteArray.size_append, HS.out]; decide) (by decide) (by decide) (by decide) (by decide) (by decide), by have h1 := HB.out; have h2 := h1.size; go_grown⟩ ?_
          clear hlt1 hlt2 hlti hlt hi HS HB
          generalize w1.heap.size = gt
          rintro W1 ⟨htx, hb⟩
          have HTX := Lib.hid htx; have HB := Lib.hid hb
          clear htx hb
          go_loopg [14] 7 (fun gk q14 wx => ∃ i : Nat, i ≤ 7 ∧ gk = 7 - i ∧ q14 = .int .i64 i ∧ TxF wx gt ∧ Below w.heap.size w wx)
          case atStart => exact ⟨0, by omega, rfl, rfl, HTX.out, HB.out⟩
          case round =>
            clear HTX HB
            obtain ⟨i, hi, rfl, rfl, htx, hb⟩ := hrel
            have HTX := Lib.hid htx; have HB := Lib.hid hb
            clear htx hb
            obtain ⟨w6, rfl⟩ : ∃ w6 : World, w6 = wr := ⟨_, rfl⟩
            by_cases hlt : i < 7
            · obtain ⟨s, hc, hs⟩ := HTX.out.2 i hlt
              have hp := fun W => RParse_any s W
              generalize parseS (bts s) = r at hp
              obtain ⟨fm, at_, pe⟩ := r
              have HP := Lib.hid hp
              have HT1 := Lib.hid (fun V u (h : MS V u fm) => HTXT.out fm s u V h (str_ok s (by omega)))
              clear hp
              have hlt1 : ¬ 9223372036854775807 < s.size + 1 := by omega
              have HB6 := Lib.hid (Below.refl w6.heap.size w6)
              go_wp2_with (first
                | (go_at_call 6; (with_reducible refine (HP.out _).mono ?_); rintro e W2 ⟨vf, rfl, hb2, ho2⟩; obtain ⟨_, A2, c2, rfl, _⟩ := id ho2.ms; have HF := Lib.hid ho2.ms; replace HB6 := Lib.hid (HB6.out.trans hb2); clear hb2 ho2 hc)
                | (go_at_call 7; (with_reducible refine (HT1.out _ _ HF.out).mono ?_); rintro e W3 ⟨rfl, hb3⟩; replace HF := Lib.hid (HF.out.below hb3 (Nat.le_refl _)); replace HB6 := Lib.hid (HB6.out.trans (hb3.mono HB6.out.size)); clear hb3)
                | (go_at_call 7; refine (HTXT.out [] _ _ _ (MS.nil _) (str_ok _ (by simp only [ByteArray.size_append]; show s.size + 1 ≤ 10000; omega))).mono ?_; rintro e W3 ⟨rfl, hb3⟩; replace HF := Lib.hid (HF.out.below hb3 (Nat.le_refl _)); replace HB6 := Lib.hid (HB6.out.trans (hb3.mono HB6.out.size)); clear hb3)
                | (go_at_call 8; (with_reducible refine (HJOI.out _ fm fm _ _ _ HF.out HF.out (by decide) (by decide)).mono ?_); rintro e W3 ⟨rfl, hb3⟩; replace HF := Lib.hid (HF.out.below hb3 (Nat.le_refl _)); replace HB6 := Lib.hid (HB6.out.trans (hb3.mono HB6.out.size)); clear hb3)
                | (go_at_call 5; (with_reducible refine (HMAT.out fm _ _ _ _ _ HF.out (by decide) (by decide)).mono ?_); rintro e W3 ⟨rfl, hb3⟩; replace HF := Lib.hid (HF.out.below hb3 (Nat.le_refl _)); replace HB6 := Lib.hid (HB6.out.trans (hb3.mono HB6.out.size)); clear hb3))
              clear HT1 HP HF
              obtain ⟨m, hm⟩ : ∃ m, m = min s.size 40 := ⟨_, rfl⟩
              have HMM := Lib.hid hm
              clear hm
              have HSZ := Lib.hid hs
              clear hs hlt1
              go_loopg [19] m (fun gk q19 wx => ∃ k : Nat, k ≤ m ∧ gk = m - k ∧ q19 = .int .i64 k ∧ Below w6.heap.size w6 wx)
              case atStart => exact ⟨0, by omega, rfl, rfl, HB6.out⟩
              case round =>
                clear HB6
                obtain ⟨k, hk, rfl, rfl, hb⟩ := hrel
                have HB7 := Lib.hid hb
                clear hb
                by_cases hkm : k < m
                · have hk1 : (k : Int) < (s.size : Int) := by have := HMM.out; omega
                  have hk2 : (k : Int) < 40 := by have := HMM.out; omega
                  obtain ⟨w7, rfl⟩ : ∃ w7 : World, w7 = wr := ⟨_, rfl⟩
                  have cv := Go.Lib.run_convert_bytes_const (P := Tryd.prog) w7 36 5 #[.int .u8 40, .int .u8 41, .int .u8 32, .int .u8 97, .int .u8 101, .int .u8 65, .int .u8 70, .int .u8 71, .int .u8 45] 9 9 (by kernel_rfl) (by kernel_rfl)
                  go_wp2
                  clear cv
                  refine wp_abs (fun W => ByF W w7.heap.size ∧ Below w6.heap.size w6 W) ⟨ByF.of (heap_alloc_new _ _), by have h1 := HB7.out; have h2 := h1.size; go_grown⟩ ?_
                  clear HB7
                  generalize w7.heap.size = gb
                  rintro W8 ⟨hby, hb⟩
                  have HBY := Lib.hid hby; have HB8 := Lib.hid hb
                  clear hby hb
                  go_loopg [202] 9 (fun gk q202 wx => ∃ c : Nat, c ≤ 9 ∧ gk = 9 - c ∧ q202 = .int .i64 c ∧ ByF wx gb ∧ Below w6.heap.size w6 wx)
                  case atStart => exact ⟨0, by omega, rfl, rfl, HBY.out, HB8.out⟩
                  case round =>
                    clear HBY HB8
                    obtain ⟨c, hc9, rfl, rfl, hby, hb⟩ := hrel
                    have HBY := Lib.hid hby; have HB8 := Lib.hid hb
                    clear hby hb
                    by_cases hct : c < 9
                    · obtain ⟨b, hcb, hb256⟩ := HBY.out.2 c hct
                      obtain ⟨Z, hZ, hcv⟩ := cv_one b hb256
                      have HCV := Lib.hid hcv; have HZ := Lib.hid hZ
                      clear hcv hb256 hZ
                      have hk3 : (k : Int) ≤ (s.size : Int) := by omega
                      have hk4 : IntKind.i64.wrap ((k : Int) + 1) = (k : Int) + 1 := IntWalk.i64_in _ ⟨by omega, by omega⟩
                      have hk5 : (k : Int) + 1 ≤ (s.size : Int) := by omega
                      have hcti : (c : Int) < 9 := by omega
                      have hz1 : ¬ 9223372036854775807 < (s.extract 0 k).size + Z.size := by have := ext_le s 0 k; have := HZ.out; have := HSZ.out; omega
                      have hz2 : ¬ 9223372036854775807 < (s.extract 0 k).size + Z.size + (s.extract (k + 1) s.size).size := by have := ext_le s 0 k; have := ext_le s (k + 1) s.size; have := HZ.out; have := HSZ.out; omega
                      have cv0 := HCV.out (wr.alloc (.cells #[.int .u8 (b : Int)] 5)) wr.heap.size (Row.new _ _ _)
                      have cv1 := HCV.out (wr.alloc (.cells #[.int .u8 (b : Int)] 5)).drew wr.heap.size (Row.litd rfl)
                      have cv2 := HCV.out (wr.drew.alloc (.cells #[.int .u8 (b : Int)] 5)) wr.heap.size (Row.lit (by simp))
                      have hk6 : (0 : Int) ≤ (k : Int) + 1 := by omega
                      have hk7 : ((k : Int) + 1).toNat = k + 1 := by omega
                      have HZ2 := Lib.hid (show ((s.extract 0 k) ++ Z ++ (s.extract (k + 1) s.size)).size ≤ 10000 by have := ext_le s 0 k; have := ext_le s (k + 1) s.size; have := HZ.out; have := HSZ.out; simp only [ByteArray.size_append]; omega)
                      have hz3 : ¬ 9223372036854775807 < min k s.size + Z.size := by have := HZ.out; have := HSZ.out; omega
                      have hz4 : ¬ 9223372036854775807 < min k s.size + Z.size + (s.size - (k + 1)) := by have := HZ.out; have := HSZ.out; omega
                      go_upto_region 50 with fail
                      refine wp_region_held_drew (S := fun X => True) (by kernel_rfl) trivial (fun hHeld => ?_)
                      refine wpAnyH_take (i := 0) (oi := ⟨some 206, _, _, _, _, _⟩) (v := ?_) rfl (by kernel_rfl) (by kernel_rfl) (by kernel_rfl) (fun _ _ _ h => h) (Or.inl ⟨by rfl, ?_⟩) (by assumption) ?_
                      rotate_left 1
                      · (intro w hSw; (try dsimp only at hSw); (first | (go_simp; done) | (go_simp; with_reducible rfl)))
                      try simp only [Act.put, List.setIfInBounds_toArray, List.set_cons_zero, List.set_cons_succ]
                      refine wpAnyH_take (i := 1) (oi := ⟨some 207, _, _, _, _, _⟩) (v := ?_) rfl (by kernel_rfl) (by kernel_rfl) (by kernel_rfl) (fun _ _ _ h => h) (Or.inl ⟨by rfl, ?_⟩) (by assumption) ?_
                      rotate_left 1
                      · (intro w hSw; (try dsimp only at hSw); (first | (go_simp; done) | (go_simp; with_reducible rfl)))
                      try simp only [Act.put, List.setIfInBounds_toArray, List.set_cons_zero, List.set_cons_succ]
                      refine wpAnyH_take (i := 2) (oi := ⟨some 208, _, _, _, _, _⟩) (v := ?_) rfl (by kernel_rfl) (by kernel_rfl) (by kernel_rfl) (fun _ _ _ h => h) (Or.inl ⟨by rfl, ?_⟩) (by assumption) ?_
                      rotate_left 1
                      · (intro w hSw; (try dsimp only at hSw); (first | (go_simp; done) | (go_simp; with_reducible rfl)))
                      try simp only [Act.put, List.setIfInBounds_toArray, List.set_cons_zero, List.set_cons_succ]
                      refine wpAnyH_take (i := 3) (oi := ⟨some 209, _, _, _, _, _⟩) (v := ?_) rfl (by kernel_rfl) (by kernel_rfl) (by kernel_rfl) (fun _ _ _ h => h) (Or.inl ⟨by rfl, ?_⟩) (by assumption) ?_
                      rotate_left 1
                      · (intro w hSw; (try dsimp only at hSw); (first | (go_simp; done) | (go_simp; with_reducible rfl)))
                      try simp only [Act.put, List.setIfInBounds_toArray, List.set_cons_zero, List.set_cons_succ]
                      refine wpAnyH_take (i := 7) (oi := ⟨some 213, _, _, _, _, _⟩) (v := ?_) rfl (by kernel_rfl) (by kernel_rfl) (by kernel_rfl) (fun _ _ _ h => h) (Or.inl ⟨by rfl, ?_⟩) (by assumption) ?_
                      rotate_left 1
                      · (intro w hSw; (try dsimp only at hSw); (first | (go_simp; done) | (go_simp; with_reducible rfl)))
                      try simp only [Act.put, List.setIfInBounds_toArray, List.set_cons_zero, List.set_cons_succ]
                      refine wpAnyH_take (i := 8) (oi := ⟨some 214, _, _, _, _, _⟩) (v := ?_) rfl (by kernel_rfl) (by kernel_rfl) (by kernel_rfl) (fun _ _ _ h => h) (Or.inl ⟨by rfl, ?_⟩) (by assumption) ?_
                      rotate_left 1
                      · (intro w hSw; (try dsimp only at hSw); (first | (go_simp; done) | (go_simp; with_reducible rfl)))
                      try simp only [Act.put, List.setIfInBounds_toArray, List.set_cons_zero, List.set_cons_succ]
                      refine wpAnyH_take (i := 9) (oi := ⟨some 215, _, _, _, _, _⟩) (v := ?_) rfl (by kernel_rfl) (by kernel_rfl) (by kernel_rfl) (fun _ _ _ h => h) (Or.inl ⟨by rfl, ?_⟩) (by assumption) ?_
                      rotate_left 1
                      · (intro w hSw; (try dsimp only at hSw); (first | (go_simp; done) | (go_simp; with_reducible rfl)))
                      try simp only [Act.put, List.setIfInBounds_toArray, List.set_cons_zero, List.set_cons_succ]
                      refine wpAnyH_take (i := 10) (oi := ⟨some 216, _, _, _, _, _⟩) (v := ?_) rfl (by kernel_rfl) (by kernel_rfl) (by kernel_rfl) (fun _ _ _ h => h) (Or.inl ⟨by rfl, ?_⟩) (by assumption) ?_
                      rotate_left 1
                      · (intro w hSw; (try dsimp only at hSw); (first | (go_simp; done) | (go_simp; with_reducible rfl)))
                      try simp only [Act.put, List.setIfInBounds_toArray, List.set_cons_zero, List.set_cons_succ]
                      refine wpAnyH_ready (rs := [4]) (by kernel_rfl) (by simp) ?_
                      refine AllReadyH.cons rfl (fun K hK => ?_) AllReadyH.nil
                      go_simp
                      refine hK.out _ _ trivial (fun hHeld1 => ?_)
                      clear hK K hHeld
                      try simp only [Act.put, List.setIfInBounds_toArray, List.set_cons_zero, List.set_cons_succ]
                      refine wpAnyH_ready (rs := [5]) (by kernel_rfl) (by simp) ?_
                      refine AllReadyH.cons rfl (fun K hK => ?_) AllReadyH.nil
                      go_simp
                      refine hK.out _ _ trivial (fun hHeld2 => ?_)
                      clear hK K hHeld1
                      try simp only [Act.put, List.setIfInBounds_toArray, List.set_cons_zero, List.set_cons_succ]
                      refine wpAnyH_take (i := 6) (oi := ⟨some 212, _, _, _, _, _⟩) (v := ?_) rfl (by kernel_rfl) (by kernel_rfl) (by kernel_rfl) (fun _ _ _ h => h) (Or.inl ⟨by rfl, ?_⟩) (by assumption) ?_
                      rotate_left 1
                      · (intro w hSw; (try dsimp only at hSw); (first | (go_simp; done) | (go_simp; with_reducible rfl)))
                      try simp only [Act.put, List.setIfInBounds_toArray, List.set_cons_zero, List.set_cons_succ]
                      refine wpAnyH_take (i := 11) (oi := ⟨some 217, _, _, _, _, _⟩) (v := ?_) rfl (by kernel_rfl) (by kernel_rfl) (by kernel_rfl) (fun _ _ _ h => h) (Or.inl ⟨by rfl, ?_⟩) (by assumption) ?_
                      rotate_left 1
                      · (intro w hSw; (try dsimp only at hSw); (first | (go_simp; done) | (go_simp; with_reducible rfl)))
                      try simp only [Act.put, List.setIfInBounds_toArray, List.set_cons_zero, List.set_cons_succ]
                      refine wpAnyH_ready (rs := [12]) (by kernel_rfl) (by simp) ?_
                      refine AllReadyH.cons rfl (fun K hK => ?_) AllReadyH.nil
                      go_simp
                      (go_at_call 7; refine (HTXT.out [] _ _ _ (MS.nil _) (str_ok _ HZ2.out)).mono ?_; rintro e W3 ⟨rfl, hb3⟩; have HX9 : Hid (Below wr.heap.size wr W3) := (Below.alloc (Below.refl wr.heap.size wr).drew (Nat.le_refl _) (.cells #[.int .u8 (b : Int)] 5)).trans (hb3.mono (by simp only [World.size_drew, World.size_alloc]; omega)); clear hb3)
                      refine hK.out _ _ trivial (fun hHeld3 => ?_)
                      clear hK K hHeld2
                      try simp only [Act.put, List.setIfInBounds_toArray, List.set_cons_zero, List.set_cons_succ]
                      refine wpAnyH_take (i := 13) (oi := ⟨some 219, _, _, _, _, _⟩) (v := ?_) rfl (by kernel_rfl) (by kernel_rfl) (by kernel_rfl) (fun _ _ _ h => h) (Or.inl ⟨by rfl, ?_⟩) (by assumption) ?_
                      rotate_left 1
                      · (intro w hSw; (try dsimp only at hSw); (first | (go_simp; done) | (go_simp; with_reducible rfl)))
                      try simp only [Act.put, List.setIfInBounds_toArray, List.set_cons_zero, List.set_cons_succ]
                      refine wpAnyH_done (by kernel_rfl) ?_ _
                      clear hHeld3
                      clear cv0 cv1 cv2 hz1 hz2 hz3 hz4 hk3 hk4 hk5 hk6 hk7 HZ2 HCV HZ hcb
                      go_wp2
                      go_roundg (9 - (c + 1))
                      case rel => exact ⟨c + 1, by omega, rfl, by go_num, HBY.out.below HX9.out, HB8.out.trans (HX9.out.mono HB8.out.size)⟩
                      case measure => omega
                    · obtain rfl : c = 9 := by omega
                      have hct9 : ¬ ((9 : Nat) : Int) < 9 := by omega
                      have hk3 : (k : Int) ≤ (s.size : Int) := by omega
                      have HX8 := Lib.hid (Below.refl wr.heap.size wr)
                      go_wp2_with (first
                        | (go_at_call 7; refine (HTXT.out [] _ _ _ (MS.nil _) (str_ok _ (Nat.le_trans (ext_le _ _ _) (by have := HSZ.out; omega)))).mono ?_; rintro e W3 ⟨rfl, hb3⟩; replace HX8 := Lib.hid hb3; clear hb3)
                        | fail)
                      go_roundg (m - (k + 1))
                      case rel => exact ⟨k + 1, by omega, rfl, by go_num, HB8.out.trans (HX8.out.mono HB8.out.size)⟩
                      case measure => omega
                · obtain rfl : k = m := by omega
                  have hcs : (¬ (k : Int) < (s.size : Int)) ∨ ((k : Int) < (s.size : Int) ∧ ¬ (k : Int) < 40) := by have := HMM.out; omega
                  rcases hcs with h1 | ⟨h1, h2⟩
                  all_goals (go_wp2; go_roundg (7 - (i + 1)))
                  all_goals first
                    | (case rel => exact ⟨i + 1, by omega, rfl, by go_num, HTX.out.below HB7.out, HB.out.trans (HB7.out.mono HB.out.size)⟩)
                    | omega
            · obtain rfl : i = 7 := by omega
              obtain ⟨C, Z, hZ, hmk, hcv⟩ := mk_zeros 4093 (by omega)
              rw [show ((4093 : Nat) : Int) = 4093 from rfl] at hmk
              have HCV := Lib.hid hcv
              have cv := hcv (w6.alloc (.cells C 5)) w6.heap.size (Row.new _ _ _)
              have hz1 : ¬ 9223372036854775807 < 4 + Z.size := by omega
              have HZ := Lib.hid hZ
              clear hcv hZ
              have HX6 := Lib.hid (Below.refl w6.heap.size w6)
              go_wp2_with (first
                | (go_at_call 9; (refine (Parse_long _ _ (by simp only [ByteArray.size_append, HZ.out]; decide)).mono ?_); rintro e W2 ⟨vf, rfl, hb2, ho2⟩; replace HX6 := Lib.hid ((by go_grown : Below w6.heap.size w6 (w6.alloc (.cells C 5))).trans (hb2.mono (by simp only [World.size_alloc]; omega))); clear hb2 ho2 cv)
                | (go_at_call 5; (refine (HMAT.out [] _ _ _ _ _ (MS.nil _) (by decide) (by decide)).mono ?_); rintro e W3 ⟨rfl, hb3⟩; replace HX6 := Lib.hid (HX6.out.trans (hb3.mono HX6.out.size)); clear hb3)
                | (go_at_call 10; (refine (awake_any _).mono ?_); rintro e W3 ⟨rfl, hb3⟩; replace HX6 := Lib.hid (HX6.out.trans (hb3.mono HX6.out.size)); clear hb3)
                | fail)
              go_returns
              exact ⟨rfl, HB.out.trans (HX6.out.mono HB.out.size)⟩
end Go.Proofs.YtcjblbhmajdmjaaDoor
