/- Contract: sub of the statements of chapter 20. -/
import Derived.Test.YthkfjnmnoanhlaaGreatDoorAwP
import Derived.Test.YthkfjnmnoanhlaaGreatDoorDtG
import Derived.Deep.RegionLaw
import Derived.Deep.RegionHeld3
set_option linter.unusedSimpArgs false
set_option linter.unusedVariables false
namespace Go.Proofs.YthkfjnmnoanhlaaGreatDoor
open Go.RowKit

def OkRow (n L : Nat) (row : List Int) : Prop := row.length = L ∧ ∀ s ∈ row, 0 ≤ s ∧ s < (n : Int)
def OkRows (n L : Nat) (rows : List (List Int)) : Prop := ∀ row ∈ rows, OkRow n L row
def OkAll (n L : Nat) (l : List (List (List Int))) : Prop := ∀ rows ∈ l, rows.length = n ∧ OkRows n L rows
theorem sub_fit {V n : Nat} {E : Int} {l : List (List (List Int))} {f : List Bool} (hV : V ≤ 3) (h1 : 1 ≤ n) (h2 : n ≤ 64) (hE : 0 ≤ E ∧ E < (n : Int)) (hl : l.length = n) (hf : f.length = n) (hk : OkAll n (2 ^ V) l) :
    ∃ D : Dta, D.Fit V ∧ D.n = n ∧ (⟨V, E, l, f⟩ : Raw) = D.raw V := by
  have hc : (⟨V, E, l, f⟩ : Raw).check = 0 := by
    unfold Raw.check
    simp only []
    rw [if_neg (by omega), if_neg (by omega), if_neg (by omega), if_neg (by omega), if_neg (by omega), hl]
    rw [firstE_zero]
    intro rows hr
    obtain ⟨k1, k2⟩ := hk rows hr
    unfold rowsE
    rw [if_pos k1, firstE_zero]
    intro row hw
    obtain ⟨k3, k4⟩ := k2 row hw
    unfold rowE
    rw [if_pos (by rw [k3]; simp), firstE_zero]
    intro s hs
    unfold stateE
    rw [if_pos (k4 s hs)]
  obtain ⟨V', h3, h4⟩ := Raw.check_ok hc
  have h5 : (V : Int) = (V' : Int) := congrArg Raw.vars h4
  have h6 : V = V' := by omega
  subst h6
  exact ⟨_, h3, hl, h4⟩
theorem mod_in (s : Int) {n : Nat} (h1 : 1 ≤ n) (h2 : n ≤ 64) : wrap64 (s.tmod n + n) = s.tmod n + n ∧ 0 ≤ (s.tmod n + n).tmod n ∧ (s.tmod n + n).tmod n < (n : Int) := by
  have a1 := Int.lt_tmod_of_pos s (b := (n : Int)) (by omega)
  have a2 := Int.tmod_lt_of_pos s (b := (n : Int)) (by omega)
  have a3 : 0 ≤ (s.tmod n + n).tmod n := Int.tmod_nonneg _ (by omega)
  have a4 := Int.tmod_lt_of_pos (s.tmod n + n) (b := (n : Int)) (by omega)
  exact ⟨IntWalk.wrap64_in _ ⟨by omega, by omega⟩, a3, a4⟩
theorem N3.get {w : World} {A : Option Addr} {n c i : Nat} {l : List (List (List Int))} (h : N3 w (.slice A n c) l) (hi : i < l.length) : ∃ b o u, A = some ⟨b, o, none⟩ ∧ b < w.heap.size ∧ w.cell? ⟨b, o + i, none⟩ = some u ∧ N2 w u l[i] := by
  obtain ⟨A', c', e, _, _, h3⟩ := h.open
  simp only [Value.slice.injEq] at e
  obtain ⟨rfl, _, rfl⟩ := e
  exact h3 i _ (List.getElem?_eq_getElem hi)
theorem N2.get {w : World} {A : Option Addr} {n c i : Nat} {l : List (List Int)} (h : N2 w (.slice A n c) l) (hi : i < l.length) : ∃ b o u, A = some ⟨b, o, none⟩ ∧ b < w.heap.size ∧ w.cell? ⟨b, o + i, none⟩ = some u ∧ N1 w u l[i] := by
  obtain ⟨A', c', e, _, _, h3⟩ := h.open
  simp only [Value.slice.injEq] at e
  obtain ⟨rfl, _, rfl⟩ := e
  exact h3 i _ (List.getElem?_eq_getElem hi)
theorem N1.get {w : World} {A : Option Addr} {n c i : Nat} {l : List Int} (h : N1 w (.slice A n c) l) (hi : i < l.length) : ∃ b o, A = some ⟨b, o, none⟩ ∧ b < w.heap.size ∧ w.cell? ⟨b, o + i, none⟩ = some (.int .i64 l[i]) := by
  obtain ⟨A', c', e, _, _, h3⟩ := h.open
  simp only [Value.slice.injEq] at e
  obtain ⟨rfl, _, rfl⟩ := e
  exact h3 i _ (List.getElem?_eq_getElem hi)
theorem NB.get {w : World} {A : Option Addr} {n c i : Nat} {l : List Bool} (h : NB w (.slice A n c) l) (hi : i < l.length) : ∃ b o, A = some ⟨b, o, none⟩ ∧ b < w.heap.size ∧ w.cell? ⟨b, o + i, none⟩ = some (.bool l[i]) := by
  obtain ⟨A', c', e, _, _, h3⟩ := h.open
  simp only [Value.slice.injEq] at e
  obtain ⟨rfl, _, rfl⟩ := e
  exact h3 i _ (List.getElem?_eq_getElem hi)
theorem VO.drewd {E : TypeId} {w : World} {B : Nat} {v : Value} {l : List Value} (h : VO E w B v l) : VO E w.drew B v l := VO.below h (Below.drew (Below.refl w.heap.size w)) (Nat.le_refl _)
theorem OkRow.set {n L x : Nat} {row : List Int} {s : Int} (h : OkRow n L row) (hs : 0 ≤ s ∧ s < (n : Int)) : OkRow n L (row.set x s) :=
  ⟨by rw [List.length_set]; exact h.1, fun y hy => by rcases List.mem_or_eq_of_mem_set hy with h1 | h1; exact h.2 y h1; rw [h1]; exact hs⟩
set_option maxRecDepth 100000 in
set_option maxHeartbeats 16000000 in
theorem sub_any (N V : Nat) (hN1 : 1 ≤ N) (hN : N ≤ 64) (hV : V ≤ 3) (r : Raw) (va : Value) (w : World) (hva : TD w va r) :
    Calls Tryz.prog 29 #[va, .int .i64 (N : Int), .int .i64 (V : Int)] w fun e w' => ∃ D : Dta, D.Fit V ∧ D.n ≤ N ∧ ∃ v, e = .returned v ∧ Below w.heap.size w w' ∧ TDO w' w.heap.size v (D.raw V) := by
  have hsh := shl_i64 V hV
  obtain ⟨L, hL⟩ : ∃ L, L = 2 ^ V := ⟨_, rfl⟩
  rw [← hL] at hsh
  have hL8 : L ≤ 8 := by rw [hL]; exact Nat.pow_le_pow_right (by omega) hV
  have hV3' : (V : Int) ≤ 3 := by omega
  have hmk := run_make_vs eI L (by omega)
  have HA := Lib.hid hva
  obtain ⟨vn, vf, rfl, hnn, hff⟩ := hva
  obtain ⟨A1, c1, rfl, k1, k2, k3⟩ := hnn.open
  obtain ⟨A2, c2, rfl, k4, k5, k6⟩ := hff.open
  obtain ⟨n1, hn1⟩ : ∃ n, n = r.next.length := ⟨_, rfl⟩
  obtain ⟨n2, hn2⟩ : ∃ n, n = r.fin.length := ⟨_, rfl⟩
  obtain ⟨E0, hE0⟩ : ∃ n, n = r.empty := ⟨_, rfl⟩
  obtain ⟨V0, hV0⟩ : ∃ n, n = r.vars := ⟨_, rfl⟩
  have HN3 := Lib.hid hnn; have HNF := Lib.hid hff
  rw [← hn1] at HN3 k1 ⊢
  rw [← hn2] at HNF k4 ⊢
  rw [← hE0, ← hV0]
  have HNL := Lib.hid hn1; have HFL := Lib.hid hn2; have HLL := Lib.hid hL
  clear hnn hff k3 k6 hn1 hn2 hE0 hV0 HA hL
  obtain ⟨n, hn⟩ : ∃ n : Nat, n = max (min N n1) 1 := ⟨_, rfl⟩
  have hnI : (n : Int) = max (min (N : Int) (n1 : Int)) 1 := by omega
  have hnn1 : 1 ≤ n := by omega
  have hnN : n ≤ N := by omega
  have HM := Lib.hid (fun s => mod_in s hnn1 (by omega))
  clear hn
  go_enter Tryz.func29, Tryz.ntmps29
  go_upto_region 2 with fail
  rw [← hnI]
  clear hnI
  have m0 := HM.out E0
  have hw0 := m0.1
  go_upto_region 3 with fail
  rw [hw0]
  obtain ⟨E, hE⟩ : ∃ E : Int, E = (E0.tmod n + n).tmod n := ⟨_, rfl⟩
  have hE1 : 0 ≤ E ∧ E < (n : Int) := by rw [hE]; exact m0.2
  rw [← hE]
  refine wp_abs (fun X => Below w.heap.size w X ∧ Row X w.heap.size 25 #[.int .i64 V0, .int .i64 E0, .slice A1 n1 c1, .slice A2 n2 c2] ∧ Row X (w.heap.size + 1) 25 #[.int .i64 0, .int .i64 0, .slice none 0 0, .slice none 0 0] ∧ Row X (w.heap.size + 1 + 1) 25 #[.int .i64 (V : Int), .int .i64 E, .slice none 0 0, .slice none 0 0])
    ⟨by go_grown, by (repeat (first | (refine Row.lit ?_; simp only [World.size_alloc] <;> omega) | apply Row.alloc)), by (repeat (first | (refine Row.lit ?_; simp only [World.size_alloc] <;> omega) | apply Row.alloc)), by (repeat (first | (refine Row.lit ?_; simp only [World.size_alloc] <;> omega) | apply Row.alloc))⟩ ?_
  rintro X ⟨hb, r0, r6, r7⟩
  have HB := Lib.hid hb; have R0 := Lib.hid r0; have R6 := Lib.hid r6; have R7 := Lib.hid r7
  clear hb r0 r6 r7 m0 hw0 hE
  go_wp2
  go_loopg [8] n (fun gk q8 wr => ∃ (l : Nat) (vn vf : Value) (L3 : List (List (List Int))) (lf : List Bool), l ≤ n ∧ gk = n - l ∧ q8 = .int .i64 l ∧ Below w.heap.size w wr ∧ Row wr w.heap.size 25 #[.int .i64 V0, .int .i64 E0, .slice A1 n1 c1, .slice A2 n2 c2] ∧ Row wr (w.heap.size + 1) 25 #[.int .i64 0, .int .i64 0, .slice none 0 0, .slice none 0 0] ∧ Row wr (w.heap.size + 1 + 1) 25 #[.int .i64 (V : Int), .int .i64 E, vn, vf] ∧
    O3 wr w.heap.size vn L3 ∧ L3.length = l ∧ OkAll n L L3 ∧ OB wr w.heap.size vf lf ∧ lf.length = l)
  case atStart => exact ⟨0, _, _, [], [], by omega, rfl, rfl, HB.out, R0.out, R6.out, R7.out, ⟨[], VO.nil _ _ _, rfl, fun i u h => by simp at h⟩, rfl, fun _ h => by simp at h, VO.nil _ _ _, rfl⟩
  case round =>
    clear HB R0 R6 R7
    obtain ⟨l, vn, vf, L3, lf, hl, rfl, rfl, hb, r0, r6, r7, hon, hl3, hok, hof, hlf⟩ := hrel
    obtain ⟨wl, hwl⟩ : ∃ x, x = wr := ⟨_, rfl⟩
    subst hwl
    have HB := Lib.hid hb; have R0 := Lib.hid r0; have R6 := Lib.hid r6; have R7 := Lib.hid r7; have ON := Lib.hid hon; have OF := Lib.hid hof; have OK := Lib.hid hok; have HL3 := Lib.hid hl3; have HLF := Lib.hid hlf
    clear hb r0 r6 r7 hon hof hok hl3 hlf
    by_cases hlt : l < n
    · go_wp2
      go_loopg [9, 10] n (fun gk q9 q10 wr2 => ∃ (k : Nat) (L2 : List (List Int)), k ≤ n ∧ gk = n - k ∧ q10 = .int .i64 k ∧ Below wl.heap.size wl wr2 ∧ O2 wr2 wl.heap.size q9 L2 ∧ L2.length = k ∧ OkRows n L L2)
      case atStart => exact ⟨0, [], Nat.zero_le _, rfl, rfl, Below.refl _ _, ⟨[], VO.nil _ _ _, rfl, fun i u h => by simp at h⟩, rfl, fun _ h => by simp at h⟩
      case round =>
        obtain ⟨k, L2, hk, rfl, rfl, hbl, ho2, hl2, hok2⟩ := hrel
        obtain ⟨wx, hwx⟩ : ∃ x, x = wr := ⟨_, rfl⟩
        subst hwx
        obtain ⟨vs, hv1, hv2⟩ := ho2
        obtain ⟨A9, c9, rfl⟩ := VO.formN (n := k) hv1 (by rw [hv2.1, hl2])
        have HBL := Lib.hid hbl; have HV1 := Lib.hid hv1; have HV2 := Lib.hid hv2; have HL2 := Lib.hid hl2; have OK2 := Lib.hid hok2
        clear hbl hv1 hv2 hl2 hok2
        by_cases hkt : k < n
        · go_wp2
          refine wp_abs (fun W => ∃ g, g = wx.heap.size ∧ Below wx.heap.size wx W ∧ VO 3 W wx.heap.size (.slice (some ⟨g, 0, none⟩) L L) (iL (List.replicate L 0)))
            ⟨_, rfl, by go_grown, by
              have := VO.lit (E := 3) (w := wx) (n := L) (iL (List.replicate L 0)) (by simp [iL]) (by omega) (iL_one _)
              simpa [iL] using this⟩ ?_
          rintro wy ⟨g, hg, hb, hvo⟩
          rw [← hg]
          have HBX := Lib.hid hb; have HVO := Lib.hid hvo; have HG := Lib.hid hg
          clear hb hvo hg
          go_loopg [12] L (fun gk q W => ∃ (x : Nat) (row : List Int), x ≤ L ∧ gk = L - x ∧ q = .int .i64 x ∧ Below wx.heap.size wx W ∧ VO 3 W wx.heap.size (.slice (some ⟨g, 0, none⟩) L L) (iL row) ∧ OkRow n L row)
          case atStart => exact ⟨0, List.replicate L 0, Nat.zero_le _, rfl, rfl, HBX.out, HVO.out, by simp, fun s hs => by rw [List.eq_of_mem_replicate hs]; omega⟩
          case round =>
            clear HBX HVO
            obtain ⟨x, row, hx, rfl, rfl, hb, hvo, hrw⟩ := hrel
            obtain ⟨W, hW⟩ : ∃ x, x = wr := ⟨_, rfl⟩
            subst hW
            have HBX := Lib.hid hb; have HVO := Lib.hid hvo; have HRW := Lib.hid hrw
            clear hb hvo hrw
            by_cases hxt : x < L
            · have y0 := (((R0.out.below HBL.out R0.out.lt)).below HBX.out (Nat.lt_of_lt_of_le R0.out.lt HBL.out.size)).cell
              have hWb := (HB.out.trans (HBL.out.mono HB.out.size)).trans (HBX.out.mono (Nat.le_trans HB.out.size HBL.out.size))
              have NW := Lib.hid (HN3.out.below hWb (Nat.le_refl _))
              clear hWb
              by_cases h1 : l < n1
              · obtain ⟨b1, o1, u1, rfl, hb1, hc1, hn2⟩ := NW.out.get (i := l) (by rw [← HNL.out]; exact h1)
                obtain ⟨A3, c3, rfl, k5, k6, _⟩ := hn2.open
                obtain ⟨rows, hrows⟩ : ∃ y, y = r.next[l]'(by rw [← HNL.out]; exact h1) := ⟨_, rfl⟩
                rw [← hrows] at hn2 hc1 k5
                obtain ⟨n3, hn3⟩ : ∃ n, n = rows.length := ⟨_, rfl⟩
                rw [← hn3] at hn2 hc1 k5
                have HN2 := Lib.hid hn2; have HN3L := Lib.hid hn3
                clear hn2 hrows hn3
                by_cases h2 : k < n3
                · obtain ⟨b3, o3, u3, rfl, hb3, hc3, hn1⟩ := HN2.out.get (i := k) (by rw [← HN3L.out]; exact h2)
                  obtain ⟨A5, c5, rfl, k7, k8, _⟩ := hn1.open
                  obtain ⟨rw0, hrw0⟩ : ∃ y, y = rows[k]'(by rw [← HN3L.out]; exact h2) := ⟨_, rfl⟩
                  rw [← hrw0] at hn1 hc3 k7
                  obtain ⟨n5, hn5⟩ : ∃ n, n = rw0.length := ⟨_, rfl⟩
                  rw [← hn5] at hn1 hc3 k7
                  have HN1 := Lib.hid hn1; have HN5L := Lib.hid hn5
                  clear hn1 hrw0 hn5
                  by_cases h3 : x < n5
                  · obtain ⟨b5, o5, rfl, hb5, hc5⟩ := HN1.out.get (i := x) (by rw [← HN5L.out]; exact h3)
                    obtain ⟨s, hs⟩ : ∃ s, s = rw0[x]'(by rw [← HN5L.out]; exact h3) := ⟨_, rfl⟩
                    rw [← hs] at hc5
                    have hm := HM.out s
                    have hw1 := hm.1
                    have HM2 := Lib.hid hm.2
                    obtain ⟨g3, cap3, cs3, he3, hg3, hrow3, _⟩ := VO.row HVO.out (by rw [iL_len, HRW.out.1]; omega)
                    simp only [Value.slice.injEq, Option.some.injEq, Addr.mk.injEq, and_true, true_and] at he3
                    obtain ⟨rfl, -⟩ := he3
                    have f0 := hrow3.free x
                    have e0 : W.cell? ⟨g, x, none⟩ = some (.int .i64 (row[x]'(by rw [HRW.out.1]; exact hxt))) := by
                      have := VS.at (HVO.out.vs) (i := x) (iL_at (List.getElem?_eq_getElem (by rw [HRW.out.1]; exact hxt)))
                      rwa [Nat.zero_add] at this
                    have hgW := hrow3.lt
                    clear hs hm hrow3 hg3 NW
                    go_wp2
                    go_roundg (L - (x + 1))
                    case rel => exact ⟨x + 1, row.set x ((s.tmod n + n).tmod n), by omega, rfl, by go_num, HBX.out.setCell (p := ⟨g, x, none⟩) (by rw [HG.out]; exact Nat.le_refl _) _, by
                        have := set_val HVO.out (by rw [iL_len, HRW.out.1]) x (.int .i64 ((s.tmod n + n).tmod n)) rfl
                        rwa [iL_set] at this, HRW.out.set HM2.out⟩
                    case measure => omega
                  · clear NW
                    go_wp2
                    go_roundg (L - (x + 1))
                    case rel => exact ⟨x + 1, row, by omega, rfl, by go_num, HBX.out, HVO.out, HRW.out⟩
                    case measure => omega
                · clear NW
                  go_wp2
                  go_roundg (L - (x + 1))
                  case rel => exact ⟨x + 1, row, by omega, rfl, by go_num, HBX.out, HVO.out, HRW.out⟩
                  case measure => omega
              · clear NW
                go_wp2
                go_roundg (L - (x + 1))
                case rel => exact ⟨x + 1, row, by omega, rfl, by go_num, HBX.out, HVO.out, HRW.out⟩
                case measure => omega
            · have hxe : x = L := by omega
              have HV1W := Lib.hid (HV1.out.below HBX.out (Nat.le_refl _))
              have HV2W := Lib.hid (V1.below HV2.out HBX.out (Nat.le_refl _))
              have hrg : row.length = L := HRW.out.1
              clear hxe
              go_wp2_with (at_builtin; refine wpList_append_vs eII rfl (.tmp 96) (.tmp 98) rfl wl.heap.size _ _ rfl (VO.allocd HV1W.out _) _ [.slice (some ⟨g, 0, none⟩) L L] rfl (VS.one (Row.new _ _ _)) (by intro u hu; simp at hu; subst hu; rfl) (by rw [HV2.out.1, HL2.out]; simp; omega) (by simp only [World.size_alloc]; have := HBX.out.size; have := HBL.out.size; omega) ?_; intro v4 w4 ho4 hg4 _; obtain ⟨A4, c4, rfl⟩ := VO.formN (n := k + 1) ho4 (by rw [List.length_append, HV2.out.1, HL2.out]; rfl); have HO4 := Lib.hid ho4; have HG4 := Lib.hid hg4; clear ho4 hg4)
              have hV24 := V1.far (V1.below HV2W.out (Below.alloc (Below.refl W.heap.size W) (Nat.le_refl _) _) (Nat.le_refl _)) (by decide) (VO.allocd HV1W.out _) HG4.out
              have hO14 := O1.far (O1.below (show O1 W wx.heap.size _ _ from HVO.out) (Below.alloc (Below.refl W.heap.size W) (Nat.le_refl _) _) (Nat.le_refl _)) (by decide) (VO.allocd HV1W.out _) HG4.out
              have hB4 : Below wl.heap.size wl w4 := own_below_v (w := wl) ((HBL.out.trans (HBX.out.mono HBL.out.size)).alloc (by have := HBX.out.size; have := HBL.out.size; omega) _) (VO.allocd HV1W.out _) HG4.out (by simp only [World.size_alloc]; have := HBX.out.size; have := HBL.out.size; omega)
              have hV5 := hV24.snoc (hO14.mono HBL.out.size)
              have H4 := Lib.hid hV5; have HB4 := Lib.hid hB4
              clear hV24 hO14 hB4 hV5
              go_wp2
              go_roundg (n - (k + 1))
              case rel => exact ⟨k + 1, L2 ++ [row], by omega, rfl, by go_num, HB4.out, ⟨_, HO4.out, H4.out⟩, by rw [List.length_append, HL2.out]; rfl, fun y hy => by rcases List.mem_append.1 hy with h | h; exact OK2.out y h; (simp at h; subst h; exact HRW.out)⟩
              case measure => omega
        · have hke : n = k := by omega
          subst hke
          have hbs := HB.out.size
          have ON2 := Lib.hid (ON.out.below HBL.out (Nat.le_refl _)); have OF2 := Lib.hid (OF.out.below HBL.out (Nat.le_refl _))
          have R02 := Lib.hid (R0.out.below HBL.out R0.out.lt); have R62 := Lib.hid (R6.out.below HBL.out R6.out.lt); have R72 := Lib.hid (R7.out.below HBL.out R7.out.lt)
          have HB2 := Lib.hid (HB.out.trans (HBL.out.mono HB.out.size))
          have O2X := Lib.hid (show O2 wx wl.heap.size (.slice A9 n c9) L2 from ⟨vs, HV1.out, HV2.out⟩)
          obtain ⟨vsn, hvn, hvn2⟩ := ON2.out
          obtain ⟨An, cn, rfl⟩ := VO.formN (n := l) hvn (by rw [hvn2.1, HL3.out])
          obtain ⟨Af, cf, rfl⟩ := VO.formN (n := l) OF2.out (by rw [bL_len, HLF.out])
          have VN := Lib.hid hvn; have VN2 := Lib.hid hvn2
          have z0 := R72.out.cell; have z1 := R72.out.free
          clear hvn hvn2
          go_wp2_with (at_builtin; refine wpList_append_vs eIII rfl (.tmp 101) (.tmp 103) rfl w.heap.size _ _ rfl (VO.allocd VN.out _) _ [.slice A9 n c9] rfl (VS.one (Row.new _ _ _)) (by intro u hu; simp at hu; subst hu; rfl) (by rw [VN2.out.1, HL3.out]; simp; omega) (by simp only [World.size_alloc]; have := HB2.out.size; omega) ?_; intro v4 w4 ho4 hg4 _; obtain ⟨A4, c4, rfl⟩ := VO.formN (n := l + 1) ho4 (by rw [List.length_append, VN2.out.1, HL3.out]; rfl); have HO4 := Lib.hid ho4; have HG4 := Lib.hid hg4; have R74 := Lib.hid ((Row.alloc R72.out _).far_own (by decide) (VO.allocd VN.out _).2 hg4); have z2 := R74.out.cell; have z3 := R74.out.free; clear ho4 hg4)
          have hA := Below.alloc (Below.refl wx.heap.size wx) (Nat.le_refl _) (.cells #[.slice A9 n c9] 54)
          have hV24 := V2.far (V2.below VN2.out hA (Nat.le_refl _)) (by decide) (by decide) (VO.allocd VN.out _) HG4.out
          have hO24 := O2.far (O2.below O2X.out hA (Nat.le_refl _)) (by decide) (by decide) (VO.allocd VN.out _) HG4.out
          have hF4 := OB.far (OB.below OF2.out hA (Nat.le_refl _)) (by decide) (VO.allocd VN.out _) HG4.out
          have hB4 : Below w.heap.size w w4 := own_below_v (w := w) (HB2.out.alloc (by have := HB2.out.size; omega) _) (VO.allocd VN.out _) HG4.out (by simp only [World.size_alloc]; have := HB2.out.size; omega)
          have hR04 := (Row.alloc R02.out (.cells #[.slice A9 n c9] 54)).far_own (by decide) (VO.allocd VN.out _).2 HG4.out
          have hR64 := (Row.alloc R62.out (.cells #[.slice A9 n c9] 54)).far_own (by decide) (VO.allocd VN.out _).2 HG4.out
          have hO34 : O3 w4 w.heap.size (.slice A4 (l + 1) c4) (L3 ++ [L2]) := ⟨_, HO4.out, hV24.snoc (hO24.mono hbs)⟩
          refine wp_abs (fun W => Below w.heap.size w W ∧ Row W w.heap.size 25 #[.int .i64 V0, .int .i64 E0, .slice A1 n1 c1, .slice A2 n2 c2] ∧ Row W (w.heap.size + 1) 25 #[.int .i64 0, .int .i64 0, .slice none 0 0, .slice none 0 0] ∧ Row W (w.heap.size + 1 + 1) 25 #[.int .i64 (V : Int), .int .i64 E, .slice A4 (l + 1) c4, .slice Af l cf] ∧
            O3 W w.heap.size (.slice A4 (l + 1) c4) (L3 ++ [L2]) ∧ OB W w.heap.size (.slice Af l cf) lf)
            ⟨hB4.setCell (p := ⟨w.heap.size + 1 + 1, 2, none⟩) (by show w.heap.size ≤ w.heap.size + 1 + 1; omega) _, hR04.far (by show w.heap.size ≠ w.heap.size + 1 + 1; omega) _, hR64.far (by show w.heap.size + 1 ≠ w.heap.size + 1 + 1; omega) _, R74.out.set 2 _, hO34.setRow R74.out (by decide) (by decide) (by decide) 2 _, hF4.setRow R74.out (by decide) 2 _⟩ ?_
          clear hA hV24 hO24 hF4 hB4 hR04 hR64 hO34 z0 z1 z2 z3 R74 HO4 HG4 R0 R6 R7 R02 R62 R72 HB2 HB ON OF ON2 OF2 VN VN2 O2X HV1 HV2 hmk
          rintro W ⟨hb, r0, r6, r7, hon, hof⟩
          have HB := Lib.hid hb; have R0 := Lib.hid r0; have R6 := Lib.hid r6; have R7 := Lib.hid r7; have ON := Lib.hid hon; have OF := Lib.hid hof
          have y0 := r0.cell; have y7 := r7.cell; have f7 := r7.free; have l7 := r7.lt
          clear hb r0 r6 r7 hon hof
          by_cases h1 : l < n2
          · obtain ⟨b1, o1, rfl, hbw, hcw⟩ := HNF.out.get (i := l) (by rw [← HFL.out]; exact h1)
            obtain ⟨s, hs⟩ : ∃ s, s = r.fin[l]'(by rw [← HFL.out]; exact h1) := ⟨_, rfl⟩
            rw [← hs] at hcw
            have hb1 : b1 < W.heap.size := Nat.lt_of_lt_of_le hbw HB.out.size
            have hc1 := (HB.out.cell (p := ⟨b1, o1 + l, none⟩) hbw).trans hcw
            clear hs
            have h1i : (l : Int) < (n2 : Int) := by omega
            refine wp_region_held_drew (S := fun X => X.cell? ⟨w.heap.size, 3, none⟩ = some (.slice (some ⟨b1, o1, none⟩) n2 c2) ∧ X.cell? ⟨b1, o1 + l, none⟩ = some (.bool s)) (by kernel_rfl) (⟨y0 3, hc1⟩) (fun hHeld => ?_)
            refine wpAnyH_take (i := 0) (oi := ⟨some 106, _, _, _, _, _⟩) (v := ?_) rfl (by kernel_rfl) (by kernel_rfl) (by kernel_rfl) (fun _ _ _ h => h) (Or.inl ⟨by rfl, ?_⟩) (by assumption) ?_
            rotate_left 1
            · (intro w hSw; (try dsimp only at hSw); (first | (go_simp; done) | (go_simp; with_reducible rfl)))
            try simp only [Act.put, List.setIfInBounds_toArray, List.set_cons_zero, List.set_cons_succ]
            refine wpAnyH_take (i := 2) (oi := ⟨some 108, _, _, _, _, _⟩) (v := ?_) rfl (by kernel_rfl) (by kernel_rfl) (by kernel_rfl) (fun _ _ _ h => h) (Or.inl ⟨by rfl, ?_⟩) (by assumption) ?_
            rotate_left 1
            · (intro w hSw; (try dsimp only at hSw); (first | (go_simp; done) | (go_simp; with_reducible rfl)))
            try simp only [Act.put, List.setIfInBounds_toArray, List.set_cons_zero, List.set_cons_succ]
            refine wpAnyH_take (i := 3) (oi := ⟨some 109, _, _, _, _, _⟩) (v := ?_) rfl (by kernel_rfl) (by kernel_rfl) (by kernel_rfl) (fun _ _ _ h => h) (Or.inl ⟨by rfl, ?_⟩) (by assumption) ?_
            rotate_left 1
            · (intro w hSw; (try dsimp only at hSw); (first | (go_simp; done) | (go_simp; with_reducible rfl)))
            try simp only [Act.put, List.setIfInBounds_toArray, List.set_cons_zero, List.set_cons_succ]
            refine wpAnyH_take (i := 4) (oi := ⟨some 110, _, _, _, _, _⟩) (v := ?_) rfl (by kernel_rfl) (by kernel_rfl) (by kernel_rfl) (fun _ _ _ h => h) (Or.inl ⟨by rfl, ?_⟩) (by assumption) ?_
            rotate_left 1
            · (intro w hSw; (try dsimp only at hSw); (first | (go_simp; done) | (go_simp; with_reducible rfl)))
            try simp only [Act.put, List.setIfInBounds_toArray, List.set_cons_zero, List.set_cons_succ]
            refine wpAnyH_take (i := 5) (oi := ⟨some 111, _, _, _, _, _⟩) (v := ?_) rfl (by kernel_rfl) (by kernel_rfl) (by kernel_rfl) (fun _ _ _ h => h) (Or.inl ⟨by rfl, ?_⟩) (by assumption) ?_
            rotate_left 1
            · (intro w hSw; (try dsimp only at hSw); (first | (go_simp; done) | (go_simp; with_reducible rfl)))
            try simp only [Act.put, List.setIfInBounds_toArray, List.set_cons_zero, List.set_cons_succ]
            refine wpAnyH_take (i := 6) (oi := ⟨some 112, _, _, _, _, _⟩) (v := ?_) rfl (by kernel_rfl) (by kernel_rfl) (by kernel_rfl) (fun _ _ _ h => h) (Or.inl ⟨by rfl, ?_⟩) (by assumption) ?_
            rotate_left 1
            · (intro w hSw; (try dsimp only at hSw); (first | (go_simp; done) | (go_simp; with_reducible rfl)))
            try simp only [Act.put, List.setIfInBounds_toArray, List.set_cons_zero, List.set_cons_succ]
            refine wpAnyH_take (i := 7) (oi := ⟨some 113, _, _, _, _, _⟩) (v := ?_) rfl (by kernel_rfl) (by kernel_rfl) (by kernel_rfl) (fun _ _ _ h => h) (Or.inl ⟨by rfl, ?_⟩) (by assumption) ?_
            rotate_left 1
            · (intro w hSw; (try dsimp only at hSw); (first | (go_simp; done) | (go_simp; with_reducible rfl)))
            try simp only [Act.put, List.setIfInBounds_toArray, List.set_cons_zero, List.set_cons_succ]
            refine wpAnyH_take (i := 8) (oi := ⟨some 114, _, _, _, _, _⟩) (v := ?_) rfl (by kernel_rfl) (by kernel_rfl) (by kernel_rfl) (fun _ _ _ h => h) (Or.inl ⟨by rfl, ?_⟩) (by assumption) ?_
            rotate_left 1
            · (intro w hSw; (try dsimp only at hSw); (first | (go_simp; done) | (go_simp; with_reducible rfl)))
            try simp only [Act.put, List.setIfInBounds_toArray, List.set_cons_zero, List.set_cons_succ]
            refine wpAnyH_take (i := 9) (oi := ⟨some 115, _, _, _, _, _⟩) (v := ?_) rfl (by kernel_rfl) (by kernel_rfl) (by kernel_rfl) (fun _ _ _ h => h) (Or.inl ⟨by rfl, ?_⟩) (by assumption) ?_
            rotate_left 1
            · (intro w hSw; (try dsimp only at hSw); (first | (go_simp; done) | (go_simp; with_reducible rfl)))
            try simp only [Act.put, List.setIfInBounds_toArray, List.set_cons_zero, List.set_cons_succ]
            refine wpAnyH_take (i := 10) (oi := ⟨some 116, _, _, _, _, _⟩) (v := ?_) rfl (by kernel_rfl) (by kernel_rfl) (by kernel_rfl) (fun _ _ _ h => h) (Or.inl ⟨by rfl, ?_⟩) (by assumption) ?_
            rotate_left 1
            · (intro w hSw; (try dsimp only at hSw); (first | (go_simp; done) | (go_simp; with_reducible rfl)))
            try simp only [Act.put, List.setIfInBounds_toArray, List.set_cons_zero, List.set_cons_succ]
            refine wpAnyH_take (i := 11) (oi := ⟨some 117, _, _, _, _, _⟩) (v := ?_) rfl (by kernel_rfl) (by kernel_rfl) (by kernel_rfl) (fun _ _ _ h => h) (Or.inl ⟨by rfl, ?_⟩) (by assumption) ?_
            rotate_left 1
            · (intro w hSw; (try dsimp only at hSw); (first | (go_simp; done) | (go_simp; with_reducible rfl)))
            try simp only [Act.put, List.setIfInBounds_toArray, List.set_cons_zero, List.set_cons_succ]
            refine wpAnyH_take (i := 12) (oi := ⟨some 118, _, _, _, _, _⟩) (v := ?_) rfl (by kernel_rfl) (by kernel_rfl) (by kernel_rfl) (fun _ _ _ h => h) (Or.inl ⟨by rfl, ?_⟩) (by assumption) ?_
            rotate_left 1
            · (intro w hSw; (try dsimp only at hSw); (first | (go_simp; done) | (go_simp; with_reducible rfl)))
            try simp only [Act.put, List.setIfInBounds_toArray, List.set_cons_zero, List.set_cons_succ]
            refine wpAnyH_take (i := 13) (oi := ⟨some 119, _, _, _, _, _⟩) (v := ?_) rfl (by kernel_rfl) (by kernel_rfl) (by kernel_rfl) (fun _ _ _ h => h) (Or.inl ⟨by rfl, ?_⟩) (by assumption) ?_
            rotate_left 1
            · (intro w hSw; (try dsimp only at hSw); (first | (go_simp; done) | (go_simp; with_reducible rfl)))
            try simp only [Act.put, List.setIfInBounds_toArray, List.set_cons_zero, List.set_cons_succ]
            have hal := Below.alloc (Below.refl W.drew.heap.size W.drew) (Nat.le_refl _) (.cells #[.bool s] 4)
            have r7A := (R7.out.drew).below hal (R7.out.drew).lt
            have hA3 := (R0.out.drew.below hal R0.out.drew.lt).cell 3
            have hAe := (hal.cell (p := ⟨b1, o1 + l, none⟩) hb1).trans hc1
            refine wpAnyH_ready (rs := [1, 14]) (by kernel_rfl) (by simp) ?_
            refine AllReadyH.cons rfl (fun K hK => ?_) (AllReadyH.cons rfl (fun K hK => ?_) AllReadyH.nil)
            · go_simp
              refine hK.out _ _ (⟨y0 3, hc1⟩) (fun hHeld1 => ?_)
              clear hK K hHeld1
              try simp only [Act.put, List.setIfInBounds_toArray, List.set_cons_zero, List.set_cons_succ]
              refine wpAnyH_ready (rs := [14]) (by kernel_rfl) (by simp) ?_
              refine AllReadyH.cons rfl (fun K hK => ?_) AllReadyH.nil
              go_simp
              refine hK.out _ _ (⟨hA3, hAe⟩) (fun hHeld2 => ?_)
              clear hK K
              try simp only [Act.put, List.setIfInBounds_toArray, List.set_cons_zero, List.set_cons_succ]
              refine wpAnyH_ready (rs := [15]) (by kernel_rfl) (by simp) ?_
              refine AllReadyH.cons rfl (fun K hK => ?_) AllReadyH.nil
              (refine step_append_vs eB rfl (.tmp 107) (.tmp 120) rfl w.heap.size _ _ rfl (VO.allocd (VO.below OF.out (Below.refl W.heap.size W).drew (Nat.le_refl _)) _) _ [.bool s] rfl (VS.one (by first | exact Row.new _ _ _ | exact Row.lit rfl | exact Row.litd rfl)) (by intro u hu; simp at hu; subst hu; rfl) (by rw [bL_len, HLF.out]; simp; omega) (by have := HB.out.size; go_grown) ?_; intro v4 w4 ho4 hg4 _; obtain ⟨A5, c5, rfl⟩ := VO.formN (n := l + 1) ho4 (by rw [List.length_append, bL_len, HLF.out]; rfl); have HO5 := Lib.hid ho4; have HG5 := Lib.hid hg4; clear ho4 hg4)
              have R75 := Lib.hid (r7A.far_own (by decide) (VO.allocd (VO.below OF.out (Below.refl W.heap.size W).drew (Nat.le_refl _)) (.cells #[.bool s] 4)).2 HG5.out)
              have H2 := Lib.hid ((R0.out.drew.below hal R0.out.drew.lt).far_own (by decide) (VO.allocd (VO.below OF.out (Below.refl W.heap.size W).drew (Nat.le_refl _)) (.cells #[.bool s] 4)).2 HG5.out)
              have H3 := Lib.hid ((R6.out.drew.below hal R6.out.drew.lt).far_own (by decide) (VO.allocd (VO.below OF.out (Below.refl W.heap.size W).drew (Nat.le_refl _)) (.cells #[.bool s] 4)).2 HG5.out)
              have H1 : Hid (Below w.heap.size w w4) := own_below_v (w := w) (HB.out.drew.trans (hal.mono HB.out.size)) (VO.allocd (VO.below OF.out (Below.refl W.heap.size W).drew (Nat.le_refl _)) (.cells #[.bool s] 4)) HG5.out (by have := HB.out.size; go_grown)
              have H4 := Lib.hid (O3.far (O3.below (O3.below ON.out (Below.refl W.heap.size W).drew (Nat.le_refl _)) hal (Nat.le_refl _)) (by decide) (by decide) (by decide) (VO.allocd (VO.below OF.out (Below.refl W.heap.size W).drew (Nat.le_refl _)) (.cells #[.bool s] 4)) HG5.out)
              have z2 := R75.out.cell; have z3 := R75.out.free; have z4 := R75.out.lt
              have hAe4 := (H1.out.cell (p := ⟨b1, o1 + l, none⟩) hbw).trans hcw
              refine hK.out _ _ (⟨H2.out.cell 3, hAe4⟩) (fun hHeld3 => ?_)
              clear hK K hHeld2
              try simp only [Act.put, List.setIfInBounds_toArray, List.set_cons_zero, List.set_cons_succ]
              refine wpAnyH_take (i := 16) (oi := ⟨some 122, _, _, _, _, _⟩) (v := ?_) rfl (by kernel_rfl) (by kernel_rfl) (by kernel_rfl) (fun _ _ _ h => h) (Or.inl ⟨by rfl, ?_⟩) (by assumption) ?_
              rotate_left 1
              · (intro w hSw; (try dsimp only at hSw); (first | (go_simp; done) | (go_simp; with_reducible rfl)))
              try simp only [Act.put, List.setIfInBounds_toArray, List.set_cons_zero, List.set_cons_succ]
              clear hHeld3
              refine wpAnyH_ready (rs := [17]) (by kernel_rfl) (by simp) ?_
              refine AllReadyH.cons rfl (fun K hK => ?_) AllReadyH.nil
              go_simp
              refine hK.out _ _ (⟨(H2.out.far (by show w.heap.size ≠ w.heap.size + 1 + 1; omega) _).cell 3, ((Below.setCell (p := ⟨w.heap.size + 1 + 1, 3, none⟩) H1.out (by show w.heap.size ≤ w.heap.size + 1 + 1; omega) _).cell (p := ⟨b1, o1 + l, none⟩) hbw).trans hcw⟩) (fun hHeld4 => ?_)
              clear hK K hHeld4
              try simp only [Act.put, List.setIfInBounds_toArray, List.set_cons_zero, List.set_cons_succ]
              refine wpAnyH_done (by kernel_rfl) ?_ _
              clear hal r7A hA3 z2 z3 z4 y0 y7 f7 l7 HG5 hAe hAe4
              go_wp2
              go_roundg (n - (l + 1))
              case rel => exact ⟨l + 1, _, _, L3 ++ [L2], lf ++ [s], by omega, rfl, by go_num, H1.out.setCell (p := ⟨w.heap.size + 1 + 1, 3, none⟩) (by show w.heap.size ≤ w.heap.size + 1 + 1; omega) _, H2.out.far (by show w.heap.size ≠ w.heap.size + 1 + 1; omega) _, H3.out.far (by show w.heap.size + 1 ≠ w.heap.size + 1 + 1; omega) _, R75.out.set 3 _, H4.out.setRow R75.out (by decide) (by decide) (by decide) 3 _, by rw [List.length_append, HL3.out]; rfl, fun y hy => (by rcases List.mem_append.1 hy with h | h; exact OK.out y h; (simp at h; subst h; exact ⟨HL2.out, OK2.out⟩)), OB.setRow (l := lf ++ [s]) (by have := HO5.out; rw [show bL lf ++ [Value.bool s] = bL (lf ++ [s]) from by simp [bL]] at this; exact this) R75.out (by decide) 3 _, by rw [List.length_append, HLF.out]; rfl⟩
              case measure => omega
            · go_simp
              refine hK.out _ _ (⟨hA3, hAe⟩) (fun hHeld1 => ?_)
              clear hK K hHeld1
              try simp only [Act.put, List.setIfInBounds_toArray, List.set_cons_zero, List.set_cons_succ]
              have y9 := r7A.cell
              refine wpAnyH_ready (rs := [1]) (by kernel_rfl) (by simp) ?_
              refine AllReadyH.cons rfl (fun K hK => ?_) AllReadyH.nil
              go_simp
              refine hK.out _ _ (⟨hA3, hAe⟩) (fun hHeld2 => ?_)
              clear hK K
              try simp only [Act.put, List.setIfInBounds_toArray, List.set_cons_zero, List.set_cons_succ]
              clear y9
              refine wpAnyH_ready (rs := [15]) (by kernel_rfl) (by simp) ?_
              refine AllReadyH.cons rfl (fun K hK => ?_) AllReadyH.nil
              (refine step_append_vs eB rfl (.tmp 107) (.tmp 120) rfl w.heap.size _ _ rfl (VO.allocd (VO.below OF.out (Below.refl W.heap.size W).drew (Nat.le_refl _)) _) _ [.bool s] rfl (VS.one (by first | exact Row.new _ _ _ | exact Row.lit rfl | exact Row.litd rfl)) (by intro u hu; simp at hu; subst hu; rfl) (by rw [bL_len, HLF.out]; simp; omega) (by have := HB.out.size; go_grown) ?_; intro v4 w4 ho4 hg4 _; obtain ⟨A5, c5, rfl⟩ := VO.formN (n := l + 1) ho4 (by rw [List.length_append, bL_len, HLF.out]; rfl); have HO5 := Lib.hid ho4; have HG5 := Lib.hid hg4; clear ho4 hg4)
              have R75 := Lib.hid (r7A.far_own (by decide) (VO.allocd (VO.below OF.out (Below.refl W.heap.size W).drew (Nat.le_refl _)) (.cells #[.bool s] 4)).2 HG5.out)
              have H2 := Lib.hid ((R0.out.drew.below hal R0.out.drew.lt).far_own (by decide) (VO.allocd (VO.below OF.out (Below.refl W.heap.size W).drew (Nat.le_refl _)) (.cells #[.bool s] 4)).2 HG5.out)
              have H3 := Lib.hid ((R6.out.drew.below hal R6.out.drew.lt).far_own (by decide) (VO.allocd (VO.below OF.out (Below.refl W.heap.size W).drew (Nat.le_refl _)) (.cells #[.bool s] 4)).2 HG5.out)
              have H1 : Hid (Below w.heap.size w w4) := own_below_v (w := w) (HB.out.drew.trans (hal.mono HB.out.size)) (VO.allocd (VO.below OF.out (Below.refl W.heap.size W).drew (Nat.le_refl _)) (.cells #[.bool s] 4)) HG5.out (by have := HB.out.size; go_grown)
              have H4 := Lib.hid (O3.far (O3.below (O3.below ON.out (Below.refl W.heap.size W).drew (Nat.le_refl _)) hal (Nat.le_refl _)) (by decide) (by decide) (by decide) (VO.allocd (VO.below OF.out (Below.refl W.heap.size W).drew (Nat.le_refl _)) (.cells #[.bool s] 4)) HG5.out)
              have z2 := R75.out.cell; have z3 := R75.out.free; have z4 := R75.out.lt
              have hAe4 := (H1.out.cell (p := ⟨b1, o1 + l, none⟩) hbw).trans hcw
              refine hK.out _ _ (⟨H2.out.cell 3, hAe4⟩) (fun hHeld3 => ?_)
              clear hK K hHeld2
              try simp only [Act.put, List.setIfInBounds_toArray, List.set_cons_zero, List.set_cons_succ]
              refine wpAnyH_take (i := 16) (oi := ⟨some 122, _, _, _, _, _⟩) (v := ?_) rfl (by kernel_rfl) (by kernel_rfl) (by kernel_rfl) (fun _ _ _ h => h) (Or.inl ⟨by rfl, ?_⟩) (by assumption) ?_
              rotate_left 1
              · (intro w hSw; (try dsimp only at hSw); (first | (go_simp; done) | (go_simp; with_reducible rfl)))
              try simp only [Act.put, List.setIfInBounds_toArray, List.set_cons_zero, List.set_cons_succ]
              clear hHeld3
              refine wpAnyH_ready (rs := [17]) (by kernel_rfl) (by simp) ?_
              refine AllReadyH.cons rfl (fun K hK => ?_) AllReadyH.nil
              go_simp
              refine hK.out _ _ (⟨(H2.out.far (by show w.heap.size ≠ w.heap.size + 1 + 1; omega) _).cell 3, ((Below.setCell (p := ⟨w.heap.size + 1 + 1, 3, none⟩) H1.out (by show w.heap.size ≤ w.heap.size + 1 + 1; omega) _).cell (p := ⟨b1, o1 + l, none⟩) hbw).trans hcw⟩) (fun hHeld4 => ?_)
              clear hK K hHeld4
              try simp only [Act.put, List.setIfInBounds_toArray, List.set_cons_zero, List.set_cons_succ]
              refine wpAnyH_done (by kernel_rfl) ?_ _
              clear hal r7A hA3 z2 z3 z4 y0 y7 f7 l7 HG5 hAe hAe4
              go_wp2
              go_roundg (n - (l + 1))
              case rel => exact ⟨l + 1, _, _, L3 ++ [L2], lf ++ [s], by omega, rfl, by go_num, H1.out.setCell (p := ⟨w.heap.size + 1 + 1, 3, none⟩) (by show w.heap.size ≤ w.heap.size + 1 + 1; omega) _, H2.out.far (by show w.heap.size ≠ w.heap.size + 1 + 1; omega) _, H3.out.far (by show w.heap.size + 1 ≠ w.heap.size + 1 + 1; omega) _, R75.out.set 3 _, H4.out.setRow R75.out (by decide) (by decide) (by decide) 3 _, by rw [List.length_append, HL3.out]; rfl, fun y hy => (by rcases List.mem_append.1 hy with h | h; exact OK.out y h; (simp at h; subst h; exact ⟨HL2.out, OK2.out⟩)), OB.setRow (l := lf ++ [s]) (by have := HO5.out; rw [show bL lf ++ [Value.bool s] = bL (lf ++ [s]) from by simp [bL]] at this; exact this) R75.out (by decide) 3 _, by rw [List.length_append, HLF.out]; rfl⟩
              case measure => omega
          · have h1i : ¬ ((l : Int) < (n2 : Int)) := by omega
            refine wp_region_held_drew (S := fun X => X.cell? ⟨w.heap.size, 3, none⟩ = some (.slice A2 n2 c2) ∧ True) (by kernel_rfl) (⟨y0 3, trivial⟩) (fun hHeld => ?_)
            refine wpAnyH_take (i := 0) (oi := ⟨some 106, _, _, _, _, _⟩) (v := ?_) rfl (by kernel_rfl) (by kernel_rfl) (by kernel_rfl) (fun _ _ _ h => h) (Or.inl ⟨by rfl, ?_⟩) (by assumption) ?_
            rotate_left 1
            · (intro w hSw; (try dsimp only at hSw); (first | (go_simp; done) | (go_simp; with_reducible rfl)))
            try simp only [Act.put, List.setIfInBounds_toArray, List.set_cons_zero, List.set_cons_succ]
            refine wpAnyH_take (i := 2) (oi := ⟨some 108, _, _, _, _, _⟩) (v := ?_) rfl (by kernel_rfl) (by kernel_rfl) (by kernel_rfl) (fun _ _ _ h => h) (Or.inl ⟨by rfl, ?_⟩) (by assumption) ?_
            rotate_left 1
            · (intro w hSw; (try dsimp only at hSw); (first | (go_simp; done) | (go_simp; with_reducible rfl)))
            try simp only [Act.put, List.setIfInBounds_toArray, List.set_cons_zero, List.set_cons_succ]
            refine wpAnyH_take (i := 3) (oi := ⟨some 109, _, _, _, _, _⟩) (v := ?_) rfl (by kernel_rfl) (by kernel_rfl) (by kernel_rfl) (fun _ _ _ h => h) (Or.inl ⟨by rfl, ?_⟩) (by assumption) ?_
            rotate_left 1
            · (intro w hSw; (try dsimp only at hSw); (first | (go_simp; done) | (go_simp; with_reducible rfl)))
            try simp only [Act.put, List.setIfInBounds_toArray, List.set_cons_zero, List.set_cons_succ]
            refine wpAnyH_take (i := 4) (oi := ⟨some 110, _, _, _, _, _⟩) (v := ?_) rfl (by kernel_rfl) (by kernel_rfl) (by kernel_rfl) (fun _ _ _ h => h) (Or.inl ⟨by rfl, ?_⟩) (by assumption) ?_
            rotate_left 1
            · (intro w hSw; (try dsimp only at hSw); (first | (go_simp; done) | (go_simp; with_reducible rfl)))
            try simp only [Act.put, List.setIfInBounds_toArray, List.set_cons_zero, List.set_cons_succ]
            refine wpAnyH_take (i := 5) (oi := ⟨some 111, _, _, _, _, _⟩) (v := ?_) rfl (by kernel_rfl) (by kernel_rfl) (by kernel_rfl) (fun _ _ _ h => h) (Or.inl ⟨by rfl, ?_⟩) (by assumption) ?_
            rotate_left 1
            · (intro w hSw; (try dsimp only at hSw); (first | (go_simp; done) | (go_simp; with_reducible rfl)))
            try simp only [Act.put, List.setIfInBounds_toArray, List.set_cons_zero, List.set_cons_succ]
            refine wpAnyH_take (i := 6) (oi := ⟨some 112, _, _, _, _, _⟩) (v := ?_) rfl (by kernel_rfl) (by kernel_rfl) (by kernel_rfl) (fun _ _ _ h => h) (Or.inl ⟨by rfl, ?_⟩) (by assumption) ?_
            rotate_left 1
            · (intro w hSw; (try dsimp only at hSw); (first | (go_simp; done) | (go_simp; with_reducible rfl)))
            try simp only [Act.put, List.setIfInBounds_toArray, List.set_cons_zero, List.set_cons_succ]
            refine wpAnyH_take (i := 7) (oi := ⟨some 113, _, _, _, _, _⟩) (v := ?_) rfl (by kernel_rfl) (by kernel_rfl) (by kernel_rfl) (fun _ _ _ h => h) (Or.inl ⟨by rfl, ?_⟩) (by assumption) ?_
            rotate_left 1
            · (intro w hSw; (try dsimp only at hSw); (first | (go_simp; done) | (go_simp; with_reducible rfl)))
            try simp only [Act.put, List.setIfInBounds_toArray, List.set_cons_zero, List.set_cons_succ]
            refine wpAnyH_take (i := 8) (oi := ⟨some 114, _, _, _, _, _⟩) rfl (by kernel_rfl) (by kernel_rfl) (by kernel_rfl) (fun _ _ _ h => h) (Or.inr ⟨by rfl, rfl⟩) (by assumption) ?_
            try simp only [Act.put, List.setIfInBounds_toArray, List.set_cons_zero, List.set_cons_succ]
            refine wpAnyH_take (i := 9) (oi := ⟨some 115, _, _, _, _, _⟩) rfl (by kernel_rfl) (by kernel_rfl) (by kernel_rfl) (fun _ _ _ h => h) (Or.inr ⟨by rfl, rfl⟩) (by assumption) ?_
            try simp only [Act.put, List.setIfInBounds_toArray, List.set_cons_zero, List.set_cons_succ]
            refine wpAnyH_take (i := 10) (oi := ⟨some 116, _, _, _, _, _⟩) rfl (by kernel_rfl) (by kernel_rfl) (by kernel_rfl) (fun _ _ _ h => h) (Or.inr ⟨by rfl, rfl⟩) (by assumption) ?_
            try simp only [Act.put, List.setIfInBounds_toArray, List.set_cons_zero, List.set_cons_succ]
            refine wpAnyH_take (i := 11) (oi := ⟨some 117, _, _, _, _, _⟩) rfl (by kernel_rfl) (by kernel_rfl) (by kernel_rfl) (fun _ _ _ h => h) (Or.inr ⟨by rfl, rfl⟩) (by assumption) ?_
            try simp only [Act.put, List.setIfInBounds_toArray, List.set_cons_zero, List.set_cons_succ]
            refine wpAnyH_take (i := 12) (oi := ⟨some 118, _, _, _, _, _⟩) rfl (by kernel_rfl) (by kernel_rfl) (by kernel_rfl) (fun _ _ _ h => h) (Or.inr ⟨by rfl, rfl⟩) (by assumption) ?_
            try simp only [Act.put, List.setIfInBounds_toArray, List.set_cons_zero, List.set_cons_succ]
            refine wpAnyH_take (i := 13) (oi := ⟨some 119, _, _, _, _, _⟩) (v := ?_) rfl (by kernel_rfl) (by kernel_rfl) (by kernel_rfl) (fun _ _ _ h => h) (Or.inl ⟨by rfl, ?_⟩) (by assumption) ?_
            rotate_left 1
            · (intro w hSw; (try dsimp only at hSw); (first | (go_simp; done) | (go_simp; with_reducible rfl)))
            try simp only [Act.put, List.setIfInBounds_toArray, List.set_cons_zero, List.set_cons_succ]
            have hal := Below.alloc (Below.refl W.drew.heap.size W.drew) (Nat.le_refl _) (.cells #[.bool false] 4)
            have r7A := (R7.out.drew).below hal (R7.out.drew).lt
            have hA3 := (R0.out.drew.below hal R0.out.drew.lt).cell 3
            refine wpAnyH_ready (rs := [1, 14]) (by kernel_rfl) (by simp) ?_
            refine AllReadyH.cons rfl (fun K hK => ?_) (AllReadyH.cons rfl (fun K hK => ?_) AllReadyH.nil)
            · go_simp
              refine hK.out _ _ (⟨y0 3, trivial⟩) (fun hHeld1 => ?_)
              clear hK K hHeld1
              try simp only [Act.put, List.setIfInBounds_toArray, List.set_cons_zero, List.set_cons_succ]
              refine wpAnyH_ready (rs := [14]) (by kernel_rfl) (by simp) ?_
              refine AllReadyH.cons rfl (fun K hK => ?_) AllReadyH.nil
              go_simp
              refine hK.out _ _ (⟨hA3, trivial⟩) (fun hHeld2 => ?_)
              clear hK K
              try simp only [Act.put, List.setIfInBounds_toArray, List.set_cons_zero, List.set_cons_succ]
              refine wpAnyH_ready (rs := [15]) (by kernel_rfl) (by simp) ?_
              refine AllReadyH.cons rfl (fun K hK => ?_) AllReadyH.nil
              (refine step_append_vs eB rfl (.tmp 107) (.tmp 120) rfl w.heap.size _ _ rfl (VO.allocd (VO.below OF.out (Below.refl W.heap.size W).drew (Nat.le_refl _)) _) _ [.bool false] rfl (VS.one (by first | exact Row.new _ _ _ | exact Row.lit rfl | exact Row.litd rfl)) (by intro u hu; simp at hu; subst hu; rfl) (by rw [bL_len, HLF.out]; simp; omega) (by have := HB.out.size; go_grown) ?_; intro v4 w4 ho4 hg4 _; obtain ⟨A5, c5, rfl⟩ := VO.formN (n := l + 1) ho4 (by rw [List.length_append, bL_len, HLF.out]; rfl); have HO5 := Lib.hid ho4; have HG5 := Lib.hid hg4; clear ho4 hg4)
              have R75 := Lib.hid (r7A.far_own (by decide) (VO.allocd (VO.below OF.out (Below.refl W.heap.size W).drew (Nat.le_refl _)) (.cells #[.bool false] 4)).2 HG5.out)
              have H2 := Lib.hid ((R0.out.drew.below hal R0.out.drew.lt).far_own (by decide) (VO.allocd (VO.below OF.out (Below.refl W.heap.size W).drew (Nat.le_refl _)) (.cells #[.bool false] 4)).2 HG5.out)
              have H3 := Lib.hid ((R6.out.drew.below hal R6.out.drew.lt).far_own (by decide) (VO.allocd (VO.below OF.out (Below.refl W.heap.size W).drew (Nat.le_refl _)) (.cells #[.bool false] 4)).2 HG5.out)
              have H1 : Hid (Below w.heap.size w w4) := own_below_v (w := w) (HB.out.drew.trans (hal.mono HB.out.size)) (VO.allocd (VO.below OF.out (Below.refl W.heap.size W).drew (Nat.le_refl _)) (.cells #[.bool false] 4)) HG5.out (by have := HB.out.size; go_grown)
              have H4 := Lib.hid (O3.far (O3.below (O3.below ON.out (Below.refl W.heap.size W).drew (Nat.le_refl _)) hal (Nat.le_refl _)) (by decide) (by decide) (by decide) (VO.allocd (VO.below OF.out (Below.refl W.heap.size W).drew (Nat.le_refl _)) (.cells #[.bool false] 4)) HG5.out)
              have z2 := R75.out.cell; have z3 := R75.out.free; have z4 := R75.out.lt
              refine hK.out _ _ (⟨H2.out.cell 3, trivial⟩) (fun hHeld3 => ?_)
              clear hK K hHeld2
              try simp only [Act.put, List.setIfInBounds_toArray, List.set_cons_zero, List.set_cons_succ]
              refine wpAnyH_take (i := 16) (oi := ⟨some 122, _, _, _, _, _⟩) (v := ?_) rfl (by kernel_rfl) (by kernel_rfl) (by kernel_rfl) (fun _ _ _ h => h) (Or.inl ⟨by rfl, ?_⟩) (by assumption) ?_
              rotate_left 1
              · (intro w hSw; (try dsimp only at hSw); (first | (go_simp; done) | (go_simp; with_reducible rfl)))
              try simp only [Act.put, List.setIfInBounds_toArray, List.set_cons_zero, List.set_cons_succ]
              clear hHeld3
              refine wpAnyH_ready (rs := [17]) (by kernel_rfl) (by simp) ?_
              refine AllReadyH.cons rfl (fun K hK => ?_) AllReadyH.nil
              go_simp
              refine hK.out _ _ (⟨(H2.out.far (by show w.heap.size ≠ w.heap.size + 1 + 1; omega) _).cell 3, trivial⟩) (fun hHeld4 => ?_)
              clear hK K hHeld4
              try simp only [Act.put, List.setIfInBounds_toArray, List.set_cons_zero, List.set_cons_succ]
              refine wpAnyH_done (by kernel_rfl) ?_ _
              clear hal r7A hA3 z2 z3 z4 y0 y7 f7 l7 HG5
              go_wp2
              go_roundg (n - (l + 1))
              case rel => exact ⟨l + 1, _, _, L3 ++ [L2], lf ++ [false], by omega, rfl, by go_num, H1.out.setCell (p := ⟨w.heap.size + 1 + 1, 3, none⟩) (by show w.heap.size ≤ w.heap.size + 1 + 1; omega) _, H2.out.far (by show w.heap.size ≠ w.heap.size + 1 + 1; omega) _, H3.out.far (by show w.heap.size + 1 ≠ w.heap.size + 1 + 1; omega) _, R75.out.set 3 _, H4.out.setRow R75.out (by decide) (by decide) (by decide) 3 _, by rw [List.length_append, HL3.out]; rfl, fun y hy => (by rcases List.mem_append.1 hy with h | h; exact OK.out y h; (simp at h; subst h; exact ⟨HL2.out, OK2.out⟩)), OB.setRow (l := lf ++ [false]) (by have := HO5.out; rw [show bL lf ++ [Value.bool false] = bL (lf ++ [false]) from by simp [bL]] at this; exact this) R75.out (by decide) 3 _, by rw [List.length_append, HLF.out]; rfl⟩
              case measure => omega
            · go_simp
              refine hK.out _ _ (⟨hA3, trivial⟩) (fun hHeld1 => ?_)
              clear hK K hHeld1
              try simp only [Act.put, List.setIfInBounds_toArray, List.set_cons_zero, List.set_cons_succ]
              have y9 := r7A.cell
              refine wpAnyH_ready (rs := [1]) (by kernel_rfl) (by simp) ?_
              refine AllReadyH.cons rfl (fun K hK => ?_) AllReadyH.nil
              go_simp
              refine hK.out _ _ (⟨hA3, trivial⟩) (fun hHeld2 => ?_)
              clear hK K
              try simp only [Act.put, List.setIfInBounds_toArray, List.set_cons_zero, List.set_cons_succ]
              clear y9
              refine wpAnyH_ready (rs := [15]) (by kernel_rfl) (by simp) ?_
              refine AllReadyH.cons rfl (fun K hK => ?_) AllReadyH.nil
              (refine step_append_vs eB rfl (.tmp 107) (.tmp 120) rfl w.heap.size _ _ rfl (VO.allocd (VO.below OF.out (Below.refl W.heap.size W).drew (Nat.le_refl _)) _) _ [.bool false] rfl (VS.one (by first | exact Row.new _ _ _ | exact Row.lit rfl | exact Row.litd rfl)) (by intro u hu; simp at hu; subst hu; rfl) (by rw [bL_len, HLF.out]; simp; omega) (by have := HB.out.size; go_grown) ?_; intro v4 w4 ho4 hg4 _; obtain ⟨A5, c5, rfl⟩ := VO.formN (n := l + 1) ho4 (by rw [List.length_append, bL_len, HLF.out]; rfl); have HO5 := Lib.hid ho4; have HG5 := Lib.hid hg4; clear ho4 hg4)
              have R75 := Lib.hid (r7A.far_own (by decide) (VO.allocd (VO.below OF.out (Below.refl W.heap.size W).drew (Nat.le_refl _)) (.cells #[.bool false] 4)).2 HG5.out)
              have H2 := Lib.hid ((R0.out.drew.below hal R0.out.drew.lt).far_own (by decide) (VO.allocd (VO.below OF.out (Below.refl W.heap.size W).drew (Nat.le_refl _)) (.cells #[.bool false] 4)).2 HG5.out)
              have H3 := Lib.hid ((R6.out.drew.below hal R6.out.drew.lt).far_own (by decide) (VO.allocd (VO.below OF.out (Below.refl W.heap.size W).drew (Nat.le_refl _)) (.cells #[.bool false] 4)).2 HG5.out)
              have H1 : Hid (Below w.heap.size w w4) := own_below_v (w := w) (HB.out.drew.trans (hal.mono HB.out.size)) (VO.allocd (VO.below OF.out (Below.refl W.heap.size W).drew (Nat.le_refl _)) (.cells #[.bool false] 4)) HG5.out (by have := HB.out.size; go_grown)
              have H4 := Lib.hid (O3.far (O3.below (O3.below ON.out (Below.refl W.heap.size W).drew (Nat.le_refl _)) hal (Nat.le_refl _)) (by decide) (by decide) (by decide) (VO.allocd (VO.below OF.out (Below.refl W.heap.size W).drew (Nat.le_refl _)) (.cells #[.bool false] 4)) HG5.out)
              have z2 := R75.out.cell; have z3 := R75.out.free; have z4 := R75.out.lt
              refine hK.out _ _ (⟨H2.out.cell 3, trivial⟩) (fun hHeld3 => ?_)
              clear hK K hHeld2
              try simp only [Act.put, List.setIfInBounds_toArray, List.set_cons_zero, List.set_cons_succ]
              refine wpAnyH_take (i := 16) (oi := ⟨some 122, _, _, _, _, _⟩) (v := ?_) rfl (by kernel_rfl) (by kernel_rfl) (by kernel_rfl) (fun _ _ _ h => h) (Or.inl ⟨by rfl, ?_⟩) (by assumption) ?_
              rotate_left 1
              · (intro w hSw; (try dsimp only at hSw); (first | (go_simp; done) | (go_simp; with_reducible rfl)))
              try simp only [Act.put, List.setIfInBounds_toArray, List.set_cons_zero, List.set_cons_succ]
              clear hHeld3
              refine wpAnyH_ready (rs := [17]) (by kernel_rfl) (by simp) ?_
              refine AllReadyH.cons rfl (fun K hK => ?_) AllReadyH.nil
              go_simp
              refine hK.out _ _ (⟨(H2.out.far (by show w.heap.size ≠ w.heap.size + 1 + 1; omega) _).cell 3, trivial⟩) (fun hHeld4 => ?_)
              clear hK K hHeld4
              try simp only [Act.put, List.setIfInBounds_toArray, List.set_cons_zero, List.set_cons_succ]
              refine wpAnyH_done (by kernel_rfl) ?_ _
              clear hal r7A hA3 z2 z3 z4 y0 y7 f7 l7 HG5
              go_wp2
              go_roundg (n - (l + 1))
              case rel => exact ⟨l + 1, _, _, L3 ++ [L2], lf ++ [false], by omega, rfl, by go_num, H1.out.setCell (p := ⟨w.heap.size + 1 + 1, 3, none⟩) (by show w.heap.size ≤ w.heap.size + 1 + 1; omega) _, H2.out.far (by show w.heap.size ≠ w.heap.size + 1 + 1; omega) _, H3.out.far (by show w.heap.size + 1 ≠ w.heap.size + 1 + 1; omega) _, R75.out.set 3 _, H4.out.setRow R75.out (by decide) (by decide) (by decide) 3 _, by rw [List.length_append, HL3.out]; rfl, fun y hy => (by rcases List.mem_append.1 hy with h | h; exact OK.out y h; (simp at h; subst h; exact ⟨HL2.out, OK2.out⟩)), OB.setRow (l := lf ++ [false]) (by have := HO5.out; rw [show bL lf ++ [Value.bool false] = bL (lf ++ [false]) from by simp [bL]] at this; exact this) R75.out (by decide) 3 _, by rw [List.length_append, HLF.out]; rfl⟩
              case measure => omega
    · have hle : n = l := by omega
      subst hle
      obtain ⟨vsn, hvn, hvn2⟩ := ON.out
      obtain ⟨An, cn, rfl⟩ := VO.formN (n := n) hvn (by rw [hvn2.1, HL3.out])
      obtain ⟨Af, cf, rfl⟩ := VO.formN (n := n) OF.out (by rw [bL_len, HLF.out])
      have hT : Hid (TDO wl w.heap.size (.agg #[.int .i64 (V : Int), .int .i64 E, .slice An n cn, .slice Af n cf]) ⟨V, E, L3, lf⟩) := ⟨_, _, rfl, ON.out, OF.out⟩
      have HD := Lib.hid (sub_fit (V := V) (n := n) (E := E) hV hnn1 (by omega) hE1 HL3.out HLF.out (by rw [← HLL.out]; exact OK.out))
      clear ON OF hvn hvn2
      have a0 := R7.out.cell; have a3 := R7.out.lt
      have b0 := R6.out.cell; have b1 := R6.out.free; have b3 := R6.out.lt
      have q0 := b0 0; have q1 := b0 1; have q2 := b0 2; have q3 := b0 3
      have p0 := a0 0; have p1 := a0 1; have p2 := a0 2; have p3 := a0 3
      simp only [List.getElem?_toArray, List.getElem?_cons_zero, List.getElem?_cons_succ] at q0 q1 q2 q3 p0 p1 p2 p3
      clear a0 b0
      go_wp2
      refine post_abs2 (fun W => Row W (w.heap.size + 1) 25 #[.int .i64 (V : Int), .int .i64 E, (.slice An n cn), (.slice Af n cf)] ∧ TDO W w.heap.size (.agg #[.int .i64 (V : Int), .int .i64 E, .slice An n cn, .slice Af n cf]) ⟨V, E, L3, lf⟩ ∧ Below w.heap.size w W) (store4 R6.out hT.out HB.out (by omega)) ?_
      clear q0 q1 q2 q3 p0 p1 p2 p3 a3 b1 b3 R0 R6 R7 hT HB
      rintro W ⟨r0, hT, hb⟩
      have b0 := r0.cell
      have q0 := b0 0; have q1 := b0 1; have q2 := b0 2; have q3 := b0 3
      simp only [List.getElem?_toArray, List.getElem?_cons_zero, List.getElem?_cons_succ] at q0 q1 q2 q3
      have HT := Lib.hid hT; have HBB := Lib.hid hb
      clear b0 r0 hT hb
      refine bodyPost_ret (v := .agg #[.int .i64 (V : Int), .int .i64 E, .slice An n cn, .slice Af n cf]) (by simp [results, Tryz.results29, go_sem, q0, q1, q2, q3]) rfl ?_
      obtain ⟨D, hD1, hD2, hD3⟩ := HD.out
      exact ⟨D, hD1, by omega, _, rfl, HBB.out, by rw [← hD3]; exact HT.out⟩
end Go.Proofs.YthkfjnmnoanhlaaGreatDoor
