/- Contract: labelled of the statements of chapter 20. -/
import Derived.Test.YthkfjnmnoanhlaaGreatDoorAwP
import Derived.Test.YthkfjnmnoanhlaaGreatDoorLfA
import Derived.Test.YthkfjnmnoanhlaaGreatDoorTrC
import Derived.Test.YthkfjnmnoanhlaaGreatDoorNMap
import Derived.Deep.RegionLaw
set_option linter.unusedSimpArgs false
set_option linter.unusedVariables false
namespace Go.Proofs.YthkfjnmnoanhlaaGreatDoor
open Go.RowKit
def modL (V : Nat) (t : List Lf) : List Lf := t.map fun m => ⟨m.label.tmod ((2 ^ V : Nat) : Int), m.left, m.right⟩
theorem shl_u8 (V : Nat) (hV : V ≤ 3) : IntKind.u8.wrap (2 ^ V) = ((2 ^ V : Nat) : Int) := by
  have : V = 0 ∨ V = 1 ∨ V = 2 ∨ V = 3 := by omega
  rcases this with rfl | rfl | rfl | rfl <;> decide
set_option maxRecDepth 100000 in
set_option maxHeartbeats 16000000 in
theorem labelled_any (V : Nat) (hV : V ≤ 3) (t : List Lf) (va : Value) (w : World) (hva : TS w va t) :
    Calls Tryz.prog 42 #[va, .int .i64 (V : Int)] w (RetTO w (modL V (t.take 15))) := by
  have hsh := shl_u8 V hV
  have hpos : 0 < 2 ^ V := Nat.two_pow_pos V
  obtain ⟨L, hL⟩ : ∃ L, L = 2 ^ V := ⟨_, rfl⟩
  rw [← hL] at hsh hpos
  have hL8 : L ≤ 8 := by rw [hL]; exact Nat.pow_le_pow_right (by omega) hV
  have hV3' : (V : Int) ≤ 3 := by omega
  have HV := Lib.hid hva; have HLL := Lib.hid hL
  obtain ⟨A, c, rfl⟩ := hva.form
  obtain ⟨n, hn⟩ : ∃ n, n = t.length := ⟨_, rfl⟩
  have HN := Lib.hid hn
  rw [← hn] at HV ⊢
  clear hva hn hL
  go_enter Tryz.func42, Tryz.ntmps42
  go_wp2
  go_loopg [5, 6] n (fun gk q5 q6 wr => ∃ i : Nat, i ≤ n ∧ i ≤ 15 ∧ gk = n - i ∧ q6 = .int .i64 i ∧ Below w.heap.size w wr ∧ TO wr w.heap.size q5 (modL V (t.take i)))
  case atStart => exact ⟨0, by omega, by omega, rfl, rfl, Below.refl _ _, TO.nil _ _⟩
  case round =>
    obtain ⟨i, hi, hi15, rfl, rfl, hb, ho⟩ := hrel
    obtain ⟨wl, hwl⟩ : ∃ x, x = wr := ⟨_, rfl⟩
    subst hwl
    obtain ⟨A5, c5, hv5⟩ := TS.form ho.ts
    have hlen : (modL V (t.take i)).length = i := by unfold modL; rw [List.length_map, List.length_take, ← HN.out]; omega
    rw [hlen] at hv5
    subst hv5
    have HB := Lib.hid hb; have HO := Lib.hid ho; have HLN := Lib.hid hlen
    clear hb ho hlen
    by_cases hlt : i < n
    · by_cases hi2 : i < 15
      · obtain ⟨m, hm⟩ : ∃ m, m = t[i]'(by rw [← HN.out]; exact hlt) := ⟨_, rfl⟩
        have hmi : t[i]? = some m := by rw [hm, List.getElem?_eq_getElem]
        have hV2 := HV.out.below HB.out (Nat.le_refl _)
        obtain ⟨b, o, rfl⟩ := hV2.addr (by rw [← HN.out]; omega)
        obtain ⟨e0, e1, e2⟩ := hV2.at3 hmi
        have hlb := hV2.1 m (List.mem_of_getElem? hmi)
        have HM := Lib.hid hmi; have HLB := Lib.hid hlb
        have hz1 : 0 ≤ m.label.tmod (L : Int) := Int.tmod_nonneg _ hlb.1
        have hz2 : m.label.tmod (L : Int) < L := Int.tmod_lt_of_pos _ (by omega)
        clear hm hmi hV2 hlb
        have hi15' : (i : Int) < 15 := by omega
        go_wp2
        refine wp_abs (fun X => ∃ g, g = wl.heap.size ∧ Below wl.heap.size wl X ∧ Row X g 61 #[.int .u8 m.label, .int .i64 m.left, .int .i64 m.right]) ⟨_, rfl, by go_grown, Row.new _ _ _⟩ ?_
        rintro X ⟨g, hg, hb, hr⟩
        rw [← hg]
        have HX := Lib.hid hb; have HR := Lib.hid hr; have HG := Lib.hid hg
        have y0 := hr.cell; have y1 := hr.free
        have hl0 : (L : Int) ≠ 0 := by omega
        have hw : IntKind.u8.wrap (m.label.tmod (L : Int)) = m.label.tmod (L : Int) := IntWalk.u8_in _ ⟨by omega, by omega⟩
        clear hb hr hg e0 e1 e2
        go_region
        all_goals
          have hb := (HX.out.setCell (p := ⟨g, 0, none⟩) (by rw [HG.out]; exact Nat.le_refl _) (.int .u8 (m.label.tmod (L : Int)))).drew
          have hr := Row.drew (HR.out.set 0 (.int .u8 (m.label.tmod (L : Int))))
          clear y0 y1 HX HR
          generalize (X.setCell ⟨g, 0, none⟩ (.int .u8 (m.label.tmod (L : Int)))).drew = Y at hb hr ⊢
          replace hr : Row Y g 61 #[.int .u8 (m.label.tmod (L : Int)), .int .i64 m.left, .int .i64 m.right] := hr
          have HX := Lib.hid hb; have HR := Lib.hid hr
          have y0 := hr.cell
          clear hb hr
          go_wp2_with (at_builtin; go_loud (refine wpList_append_ts rfl (.tmp 28) (.tmp 30) rfl w.heap.size _ _ rfl (HO.out.below (HX.out.alloc (Nat.le_trans (Nat.le_refl _) HX.out.size) _) (Nat.le_refl _)) _ [⟨m.label.tmod (L : Int), m.left, m.right⟩] rfl (TS.one (by exact Row.lit rfl) (by omega) (by omega)) (by rw [HLN.out]; simp only [List.length_cons, List.length_nil]; omega) (by have := HB.out.size; have := HX.out.size; go_grown) ?_; intro v4 w4 ho4 hg4 _; obtain ⟨A4, c4, hv4⟩ := TS.form ho4.ts; rw [List.length_append, HLN.out] at hv4; subst hv4; have HO4 := Lib.hid ho4; have HG4 := Lib.hid hg4; clear ho4 hg4))
          have hB4 : Below w.heap.size w w4 := own_below_t (w := w) (v' := .slice A4 (i + 1) c4) (g := []) (HB.out.trans ((HX.out.alloc HX.out.size _).mono HB.out.size)) (HO.out.below (HX.out.alloc (Nat.le_trans (Nat.le_refl _) HX.out.size) _) (Nat.le_refl _)) HG4.out (by have := HB.out.size; have := HX.out.size; go_grown)
          have hO4 : TO w4 w.heap.size (.slice A4 (i + 1) c4) (modL V (t.take (i + 1))) := by
            have := HO4.out
            rw [List.take_add_one, HM.out]
            unfold modL at this ⊢
            rw [List.map_append]
            rw [HLL.out] at this
            exact this
          have H1 := Lib.hid hB4; have H2 := Lib.hid hO4
          clear hB4 hO4
          go_wp2
          go_roundg (n - (i + 1))
          case rel => exact ⟨i + 1, by omega, by omega, rfl, by go_num, H1.out, H2.out⟩
          case measure => omega
      · have hi3 : 15 = i := by omega
        subst hi3
        go_wp2
        go_returns
        exact ⟨_, rfl, HB.out, HO.out⟩
    · have hie : i = n := by omega
      have hfin : Hid (TO wl w.heap.size (.slice A5 i c5) (modL V (t.take 15))) := by
        have := HO.out
        rw [List.take_of_length_le (by rw [← HN.out]; omega)] at this
        unfold Hid
        rw [List.take_of_length_le (by rw [← HN.out]; omega)]
        exact this
      clear hie
      go_wp2
      go_returns
      exact ⟨_, rfl, HB.out, hfin.out⟩
end Go.Proofs.YthkfjnmnoanhlaaGreatDoor
