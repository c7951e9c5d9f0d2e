/- Contracts of the package tree: moved, shift, join, block, mirror, Mirror; slices.Clone, Grow, Concat at leaves. (Printed by gen_trc.py.) -/
/- Contracts of the package tree: join, mirror, Mirror. -/
import Derived.Test.YthkfjnmnoanhlaaGreatDoorTrB
import Derived.Test.YthkfjnmnoanhlaaGreatDoorBtM
import Derived.Lib.AppendZeros
import Derived.Deep.RegionHeld3
import Derived.Deep.RegionLaw
set_option linter.unusedSimpArgs false
set_option linter.unusedVariables false
namespace Go.Proofs.YthkfjnmnoanhlaaGreatDoor
open Go.RowKit

theorem set_leaf {w : World} {B g n cap : Nat} {f : List Lf} {m m' : Lf} {j : Nat} (h : TO w B (.slice (some ⟨g, 0, none⟩) n cap) f) (hn : f.length = n) (hj : f[j]? = some m) (q : Nat) (u : Value)
    (hm : 0 ≤ m'.label ∧ m'.label ≤ 255) (hc : m'.cells = m.cells.set q u) (hq : q < 3) :
    TO (w.setCell ⟨g, j * 3 + q, none⟩ u) B (.slice (some ⟨g, 0, none⟩) n cap) (f.set j m') := by
  obtain ⟨h0, h1⟩ := h
  subst hn
  have hs := (h1.stored (j * 3 + q) u).1
  have hl : (f.set j m').length = f.length := by simp
  have hjl : j < f.length := (List.getElem?_eq_some_iff.1 hj).1
  refine ⟨fun a ha => ?_, ?_⟩
  · rcases List.mem_or_eq_of_mem_set ha with h | h
    · exact h0 a h
    · rw [h]; exact hm
  · rw [hl]
    have e : lcells (f.set j m') = (lcells f).set (j * 3 + q) u := by
      apply List.ext_getElem?
      intro i
      have hi : i = i / 3 * 3 + i % 3 := by omega
      by_cases hil : i < f.length * 3
      · have h5 : i / 3 < f.length := by omega
        by_cases hij : i / 3 = j
        · have e1 : (f.set j m')[i / 3]? = some m' := by rw [hij, List.getElem?_set_self hjl]
          have e2 := lcells_get (f.set j m') (i / 3) m' e1 (i % 3) (by omega)
          rw [← hi] at e2
          rw [e2, hc, List.getElem?_set, List.getElem?_set]
          have hml : m.cells.length = 3 := rfl
          have hfl := lcells_len f
          by_cases hqq : q = i % 3
          · rw [if_pos hqq, if_pos (by omega), if_pos (by omega), if_pos (by omega)]
          · rw [if_neg hqq, if_neg (by omega)]
            have e3 := lcells_get f (i / 3) m (by rw [hij]; exact hj) (i % 3) (by omega)
            rw [← hi] at e3
            exact e3.symm
        · obtain ⟨a, ha⟩ : ∃ a, f[i / 3]? = some a := ⟨f[i / 3], List.getElem?_eq_getElem h5⟩
          have e1 : (f.set j m')[i / 3]? = some a := by rw [List.getElem?_set_ne (by omega)]; exact ha
          have e2 := lcells_get (f.set j m') (i / 3) a e1 (i % 3) (by omega)
          have e3 := lcells_get f (i / 3) a ha (i % 3) (by omega)
          rw [← hi] at e2 e3
          rw [e2, List.getElem?_set_ne (by omega), e3]
      · rw [List.getElem?_eq_none (by rw [lcells_len, hl]; omega), List.getElem?_eq_none (by rw [List.length_set, lcells_len]; omega)]
    rw [e]; exact hs

theorem TO.shape {w : World} {B n : Nat} {v : Value} {f : List Lf} (h : TO w B v f) (hn : n = f.length) (hp : 0 < n) : ∃ g cap, v = .slice (some ⟨g, 0, none⟩) n cap ∧ B ≤ g ∧ g < w.heap.size := by
  subst hn
  rcases h.2.2 with ⟨_, h0⟩ | ⟨g, cap, cur, hv, hB, hg, _⟩
  · omega
  · exact ⟨g, cap, hv, hB, lt_of_block hg⟩

theorem own_free_t {w : World} {B g n cap : Nat} {f : List Lf} (h : TO w B (.slice (some ⟨g, 0, none⟩) n cap) f) : ∀ i, w.frozen? ⟨g, i, none⟩ = false := by
  intro i
  rcases h.2.2 with ⟨h', _⟩ | ⟨g', cap', cur, h', _, hg, _⟩
  · simp at h'
  · simp only [Value.slice.injEq, Option.some.injEq, Addr.mk.injEq, and_true, true_and] at h'
    obtain ⟨rfl, _, _⟩ := h'
    exact frozen_of_row w g i cur _ hg
theorem set_same_t {f : List Lf} {j : Nat} {m : Lf} (h : f[j]? = some m) : f.set j m = f := by
  apply List.ext_getElem?
  intro i
  by_cases hij : j = i
  · subst hij; rw [List.getElem?_set_self (List.getElem?_eq_some_iff.1 h).1, h]
  · rw [List.getElem?_set_ne hij]

theorem TO.made {w : World} {n : Nat} (c : Array Value) (hc : c.size = n * 3) (hn : n ≤ 1000000) : TO (w.alloc (.cells c 61)) w.heap.size (.slice (some ⟨w.heap.size, 0, none⟩) 0 n) [] :=
  ⟨by simp [LbOk], World.ownsRow_made w c n (Nat.le_refl _) (by simp only [maxLen]; omega) hc⟩

set_option maxRecDepth 100000 in
set_option maxHeartbeats 400000 in
theorem clone_tree (f : List Lf) (v : Value) (w : World) (hv : TS w v f) (hl : f.length ≤ 1000000) : Calls Tryz.prog 67 #[v] w (RetTO w f) := by
  have hnil := fun (W : World) (A : Option Addr) (n c : Nat) => Lib.run_eql_slice_nil (P := Tryz.prog) W 34 61 A n c 0 0 Tryz.underlying34
  have HV := Lib.hid hv
  obtain ⟨hop, A, c, rfl, hc, hc2, hcell⟩ := hv
  cases A with
  | none =>
    have hf : f = [] := by
      cases f with
      | nil => rfl
      | cons m f => obtain ⟨_, _, h, _⟩ := hcell (by simp); cases h
    subst hf
    clear hcell
    go_enter Tryz.func67, Tryz.ntmps67
    go_wp2
    go_returns
    exact ⟨_, rfl, Below.refl _ _, TO.nil _ _⟩
  | some ad =>
    clear hcell
    go_enter Tryz.func67, Tryz.ntmps67
    go_wp2_with (at_builtin; go_must (refine wpList_append_ts rfl (.tmp 5) (.tmp 6) rfl w.heap.size _ [] rfl (TO.made #[] rfl (by omega)) _ f rfl (HV.out.below (Below.alloc (Below.refl _ _) (Nat.le_refl _) _) (Nat.le_refl _)) (by simpa using hl) (by simp) ?_; intro v1 w1 ho1 hg1 _))
    go_returns
    exact ⟨v1, rfl, own_below_t (v' := v1) (g := f) (Below.alloc (Below.refl _ _) (Nat.le_refl _) _) (TO.made #[] rfl (by omega)) hg1 (by simp), ho1⟩
theorem TO.made2 {w : World} {n : Nat} (c : Array Value) (hc : c.size = n * 3) (hn : n ≤ maxLen) : TO (w.drew.alloc (.cells c 61)) w.heap.size (.slice (some ⟨w.heap.size, 0, none⟩) 0 n) [] :=
  ⟨by simp [LbOk], World.ownsRow_made w.drew c n (Nat.le_refl _) hn hc⟩

theorem zeroCells_len_t (cs : Array Value) (n : Nat) : (Builtin.zeroCells cs n).size = n * cs.size := by
  simp [Builtin.zeroCells]

theorem run_grow_ts (n : Nat) (h0 : 0 < n) (hn : n ≤ 1000000) (w : World) (ty : TypeId) :
    ∃ cap w1, (Builtin.append_ #[34, 3] ty #[.slice none 0 0, .int .i64 n]).run Tryz.prog w = .ok (.slice (some ⟨w.heap.size, 0, none⟩) n cap) w1 ∧ n ≤ cap ∧ TO w1 w.heap.size (.slice (some ⟨w.heap.size, 0, none⟩) 0 cap) [] ∧ Below w.heap.size w w1 := by
  have hh := info_leaf
  cases hi : Tryz.prog.info? 61 with
  | none => rw [hi] at hh; cases hh
  | some i =>
    rw [hi] at hh
    simp only [Option.map_some, Option.some.injEq, Prod.mk.injEq] at hh
    obtain ⟨hz, hs, hby⟩ := hh
    have hr := Lib.run_append_nil_zeros (P := Tryz.prog) w 34 3 ty 61 i _ .i64 .i64 Tryz.underlying34 Tryz.underlying3 hi hz n h0 (by omega) (by omega) (by rw [hby]; omega)
    refine ⟨_, _, hr, grownCap_ge _ _ _ _, TO.made2 _ ?_ (grownCap_le_maxLen _ _ _ _ (by simp only [maxLen]; omega)), by go_grown⟩
    have hge := grownCap_ge w n 0 61
    rw [Array.size_append, zeroCells_len_t, zeroCells_len_t]
    have e : (Value.cells (.agg #[.int .u8 0, .int .i64 0, .int .i64 0])).size = 3 := by rfl
    rw [e]; omega

set_option maxRecDepth 100000 in
set_option maxHeartbeats 1000000 in
theorem grow_nil_t (n : Nat) (h0 : 0 < n) (hn : n ≤ 1000000) (w : World) :
    Calls Tryz.prog 157 #[.slice none 0 0, .int .i64 n] w fun e w' => ∃ cap, e = .returned (.slice (some ⟨w.heap.size, 0, none⟩) 0 cap) ∧ Below w.heap.size w w' ∧ TO w' w.heap.size (.slice (some ⟨w.heap.size, 0, none⟩) 0 cap) [] := by
  obtain ⟨cap, w1, hr, hcap, ho, hb⟩ := run_grow_ts n h0 hn w 34
  have HO := Lib.hid ho; clear ho
  have HB := Lib.hid hb; clear hb
  have HR := Lib.hid hr; clear hr
  go_enter Tryz.func157, Tryz.ntmps157
  go_wp2_with (at_builtin; refine Lib.wpList_append_run _ rfl _ _ _ _ rfl _ _ rfl rfl _ _ HR.out ?_)
  go_returns
  exact ⟨_, rfl, HB.out, HO.out⟩


set_option maxRecDepth 100000 in
set_option maxHeartbeats 2000000 in
theorem concat_three (f h l : List Lf) (v u z : Value) (gs : Nat) (w : World) (hv : TS w v f) (hu : TS w u h) (hz : TS w z l) (hr : Row w gs 34 #[v, u, z]) (h1 : 1 ≤ f.length) (hl : f.length + h.length + l.length ≤ 1000) :
    Calls Tryz.prog 151 #[.slice (some ⟨gs, 0, none⟩) 3 3] w (RetTO w (f ++ h ++ l)) := by
  have HV := Lib.hid hv
  have HU := Lib.hid hu
  have HZ := Lib.hid hz
  obtain ⟨_, A, c, rfl, _, _, _⟩ := hv
  obtain ⟨_, A2, c2, rfl, _, _, _⟩ := hu
  obtain ⟨_, A3, c3, rfl, _, _, _⟩ := hz
  obtain ⟨n, hn⟩ : ∃ n, n = f.length := ⟨_, rfl⟩
  obtain ⟨k, hk⟩ : ∃ k, k = h.length := ⟨_, rfl⟩
  obtain ⟨m, hm⟩ : ∃ m, m = l.length := ⟨_, rfl⟩
  rw [← hn, ← hk, ← hm] at hl
  rw [← hn] at HV h1 hr
  rw [← hk] at HU hr
  rw [← hm] at HZ hr
  have HN := Lib.hid hn; clear hn
  have HK := Lib.hid hk; clear hk
  have HM := Lib.hid hm; clear hm
  have rc := hr.cell
  have rl := hr.lt
  have HR := Lib.hid hr; clear hr
  obtain ⟨T, hT⟩ : ∃ T : Nat → Nat, T 0 = 0 ∧ T 1 = n ∧ T 2 = n + k ∧ T 3 = n + k + m := ⟨fun j => if j = 0 then 0 else if j = 1 then n else if j = 2 then n + k else n + k + m, rfl, rfl, rfl, rfl⟩
  have HT := Lib.hid hT; clear hT
  go_enter Tryz.func151, Tryz.ntmps151
  go_wp2
  go_loopg [3, 11] 3 (fun gk s q wr => ∃ j : Nat, j ≤ 3 ∧ gk = 3 - j ∧ q = .int .i64 j ∧ s = .int .i64 (T j) ∧ wr = w)
  case atStart => exact ⟨0, by omega, rfl, rfl, by rw [HT.out.1]; rfl, rfl⟩
  case round =>
    obtain ⟨j, hj, rfl, rfl, rfl, hw⟩ := hrel
    have hw2 := hw.symm
    clear hw
    subst hw2
    have hj2 : j = 0 ∨ j = 1 ∨ j = 2 ∨ j = 3 := by omega
    rcases hj2 with rfl | rfl | rfl | rfl
    · rw [HT.out.1]
      go_wp2
      go_roundg 2
      case rel => exact ⟨1, by omega, rfl, rfl, by rw [HT.out.2.1], rfl⟩
      case measure => omega
    · rw [HT.out.2.1]
      go_wp2
      go_roundg 1
      case rel => exact ⟨2, by omega, rfl, rfl, by rw [HT.out.2.2.1]; go_num, rfl⟩
      case measure => omega
    · rw [HT.out.2.2.1]
      go_wp2
      go_roundg 0
      case rel => exact ⟨3, by omega, rfl, rfl, by rw [HT.out.2.2.2]; go_num, rfl⟩
      case measure => omega
    · rw [HT.out.2.2.2]
      have hgr : Calls Tryz.prog 157 #[.slice none 0 0, .int .i64 ((n : Int) + (k : Int) + (m : Int))] w (fun e w' => ∃ cap, e = .returned (.slice (some ⟨w.heap.size, 0, none⟩) 0 cap) ∧ Below w.heap.size w w' ∧ TO w' w.heap.size (.slice (some ⟨w.heap.size, 0, none⟩) 0 cap) []) := by
        have q := grow_nil_t (n + k + m) (by omega) (by omega) w
        rw [Int.natCast_add, Int.natCast_add] at q
        exact q
      have HGR := Lib.hid hgr; clear hgr
      go_wp2_with (go_at_call 157; go_must (refine HGR.out.mono ?_; rintro e w1 ⟨cap, rfl, hb1, ho1⟩))
      have rc1 := (HR.out.below hb1 rl).cell
      have HB1 := Lib.hid hb1; clear hb1
      have HO1 := Lib.hid ho1; clear ho1
      go_loopg [6, 27] 3 (fun gk s q wx => ∃ j : Nat, j ≤ 3 ∧ gk = 3 - j ∧ q = .int .i64 j ∧ TO wx w.heap.size s (if j = 0 then [] else if j = 1 then f else if j = 2 then f ++ h else f ++ h ++ l) ∧ Below w.heap.size w wx)
      case atStart => exact ⟨0, by omega, rfl, rfl, HO1.out, HB1.out⟩
      case round =>
        obtain ⟨j, hj, rfl, rfl, ho, hb⟩ := hrel
        have hj2 : j = 0 ∨ j = 1 ∨ j = 2 ∨ j = 3 := by omega
        have rc2 := (HR.out.below hb rl).cell
        clear rc1 rc
        have HB := Lib.hid hb; clear hb
        rcases hj2 with rfl | rfl | rfl | rfl
        · go_wp2_with (at_builtin; go_must (refine wpList_append_ts rfl (.tmp 31) (.tmp 32) rfl w.heap.size _ [] rfl ho _ f rfl (HV.out.below HB.out (Nat.le_refl _)) (by rw [← HN.out, List.length_nil]; omega) HB.out.size ?_; intro v3 w3 ho3 hg3 ht3))
          go_roundg 2
          case rel => exact ⟨1, by omega, rfl, by go_num, ho3, own_below_t (v' := v3) (g := f) HB.out ho hg3 HB.out.size⟩
          case measure => omega
        · go_wp2_with (at_builtin; go_must (refine wpList_append_ts rfl (.tmp 31) (.tmp 32) rfl w.heap.size _ f rfl ho _ h rfl (HU.out.below HB.out (Nat.le_refl _)) (by rw [← HN.out, ← HK.out]; omega) HB.out.size ?_; intro v3 w3 ho3 hg3 ht3))
          go_roundg 1
          case rel => exact ⟨2, by omega, rfl, by go_num, ho3, own_below_t (v' := v3) (g := f) HB.out ho hg3 HB.out.size⟩
          case measure => omega
        · go_wp2_with (at_builtin; go_must (refine wpList_append_ts rfl (.tmp 31) (.tmp 32) rfl w.heap.size _ (f ++ h) rfl ho _ l rfl (HZ.out.below HB.out (Nat.le_refl _)) (by rw [List.length_append, ← HN.out, ← HK.out, ← HM.out]; omega) HB.out.size ?_; intro v3 w3 ho3 hg3 ht3))
          go_roundg 0
          case rel => exact ⟨3, by omega, rfl, by go_num, ho3, own_below_t (v' := v3) (g := f) HB.out ho hg3 HB.out.size⟩
          case measure => omega
        · go_wp2
          go_returns
          exact ⟨_, rfl, HB.out, ho⟩

theorem moved_i (c d : Int) (w : World) (h0 : -4000000 ≤ c + d) (h1 : c + d ≤ 4000000) : Calls Tryz.prog 158 #[.int .i64 c, .int .i64 d] w fun e w' => e = .returned (.int .i64 (mvd c d)) ∧ w = w' := by
  by_cases hc : c = -1
  · have e : mvd c d = -1 := by unfold mvd; rw [if_pos hc]
    rw [e]
    subst hc
    clear e
    go_enter Tryz.func158, Tryz.ntmps158
    go_wp2
    go_returns
    exact ⟨rfl, rfl⟩
  · have e : mvd c d = c + d := by unfold mvd; rw [if_neg hc]
    have hb : (c == -1) = false := by simp [hc]
    rw [e]
    clear e
    go_enter Tryz.func158, Tryz.ntmps158
    go_wp2
    go_returns
    exact ⟨rfl, rfl⟩
def SmallT (t : List Lf) : Prop := ∀ m ∈ t, -1000000 ≤ m.left ∧ m.left ≤ 1000000 ∧ -1000000 ≤ m.right ∧ m.right ≤ 1000000
theorem sh_step (d : Int) (f : List Lf) (k : Nat) (m : Lf) (h : f[k]? = some m) : ((f.take k).map (shL d) ++ f.drop k).set k (shL d m) = (f.take (k + 1)).map (shL d) ++ f.drop (k + 1) := by
  have hk : k < f.length := (List.getElem?_eq_some_iff.1 h).1
  have hm : f[k] = m := (List.getElem?_eq_some_iff.1 h).2
  have hl : ((f.take k).map (shL d)).length = k := by rw [List.length_map, List.length_take]; omega
  rw [List.set_append_right _ _ (by omega), hl, Nat.sub_self, List.drop_eq_getElem_cons hk, hm, List.set_cons_zero, List.take_succ_eq_append_getElem hk, hm]
  simp
theorem sh_get (d : Int) (f : List Lf) (k : Nat) (m : Lf) (h : f[k]? = some m) : ((f.take k).map (shL d) ++ f.drop k)[k]? = some m := by
  have hk : k < f.length := (List.getElem?_eq_some_iff.1 h).1
  have hl : ((f.take k).map (shL d)).length = k := by rw [List.length_map, List.length_take]; omega
  rw [List.getElem?_append_right (by omega), hl, Nat.sub_self, List.getElem?_drop, Nat.add_zero, h]
theorem own_nil_t {w : World} {B : Nat} {v : Value} {f : List Lf} (h : TO w B v f) (h0 : f.length = 0) : ∃ A c, v = .slice A 0 c := by
  rcases h.2.2 with ⟨hv, _⟩ | ⟨g, cap, cur, hv, _⟩
  · exact ⟨none, 0, hv⟩
  · exact ⟨_, cap, by rw [hv, h0]⟩

set_option maxRecDepth 100000 in
set_option maxHeartbeats 2000000 in
theorem shift_any (f : List Lf) (v : Value) (d : Int) (w : World) (hv : TS w v f) (hl : f.length ≤ 1000) (hs : SmallT f) (hd0 : -1000 ≤ d) (hd1 : d ≤ 1000) :
    Calls Tryz.prog 152 #[v, .int .i64 d] w (RetTO w (shiftS d f)) := by
  have HV := Lib.hid hv
  have HSM := Lib.hid hs; clear hs
  obtain ⟨hop, A, c, rfl, hc1, hc2, _⟩ := hv
  obtain ⟨n, hn⟩ : ∃ n, n = f.length := ⟨_, rfl⟩
  rw [← hn] at hc1 HV hl ⊢
  have HN := Lib.hid hn; clear hn
  have HOP := Lib.hid hop; clear hop
  by_cases hp : n = 0
  · subst hp
    go_enter Tryz.func152, Tryz.ntmps152
    go_wp2_with (go_at_call 67; go_must (refine (clone_tree f _ _ HV.out (by rw [← HN.out]; omega)).mono ?_; rintro e w1 ⟨v1, rfl, hb1, ho1⟩; obtain ⟨A1, cc, rfl⟩ := own_nil_t ho1 HN.out.symm; have HB1 := Lib.hid hb1; have HO1 := Lib.hid ho1; clear hb1 ho1))
    refine wp_loop_rounds 1 ?_
    rw [rounds_succ]
    go_wp2
    go_returns
    have hf : f = [] := List.eq_nil_of_length_eq_zero HN.out.symm
    exact ⟨_, rfl, HB1.out, by have := HO1.out; rw [hf] at this ⊢; exact this⟩
  have hp' : 1 ≤ n := by omega
  clear hp
  go_enter Tryz.func152, Tryz.ntmps152
  go_wp2_with (go_at_call 67; go_must (refine (clone_tree f _ _ HV.out (by rw [← HN.out]; omega)).mono ?_; rintro e w1 ⟨v1, rfl, hb1, ho1⟩; obtain ⟨g, cap, rfl, hg1, hg2⟩ := ho1.shape HN.out (by omega); have HB1 := Lib.hid hb1; have HO1 := Lib.hid ho1; clear hb1 ho1))
  go_loopg [12] n (fun gk q wr => ∃ k : Nat, k ≤ n ∧ gk = n - k ∧ q = .int .i64 k ∧ Below w.heap.size w wr ∧ g < wr.heap.size ∧ TO wr w.heap.size (.slice (some ⟨g, 0, none⟩) n cap) ((f.take k).map (shL d) ++ f.drop k))
  case atStart => exact ⟨0, Nat.zero_le _, rfl, rfl, HB1.out, hg2, by simpa using HO1.out⟩
  case round =>
    obtain ⟨k, hk, rfl, rfl, hb, hgw, ho⟩ := hrel
    have HB := Lib.hid hb; clear hb
    have HO := Lib.hid ho; clear ho
    by_cases hlt : k < n
    · obtain ⟨m, hm⟩ : ∃ m, f[k]? = some m := ⟨f[k]'(by rw [← HN.out]; exact hlt), List.getElem?_eq_getElem _⟩
      obtain ⟨m1, m2⟩ := HOP.out m (List.mem_of_getElem? hm)
      obtain ⟨s1, s2, s3, s4⟩ := HSM.out m (List.mem_of_getElem? hm)
      have hget := sh_get d f k m hm
      have hstep := sh_step d f k m hm
      have hlen : ((f.take k).map (shL d) ++ f.drop k).length = n := by rw [List.length_append, List.length_map, List.length_take, List.length_drop, ← HN.out]; omega
      have HG := Lib.hid hget; clear hget
      have HST := Lib.hid hstep; clear hstep
      have HL := Lib.hid hlen; clear hlen
      generalize (f.take k).map (shL d) ++ f.drop k = L at *
      obtain ⟨c0, c1, c2⟩ := HO.out.ts.at3 HG.out
      simp only [Nat.zero_add] at c0 c1 c2
      have HM := Lib.hid hm; clear hm
      have f1 := own_free_t HO.out (k * 3 + 1)
      have f2 := own_free_t HO.out (k * 3 + 2)
      have hk3 : k * 3 + 1 < n * 3 ∧ k * 3 + 2 < n * 3 := by omega
      have q1 := set_leaf (m' := { m with left := mvd m.left d }) HO.out HL.out HG.out 1 (.int .i64 (mvd m.left d)) ⟨m1, m2⟩ rfl (by omega)
      have q2 := set_leaf (m' := shL d m) q1 (by rw [List.length_set]; exact HL.out) (List.getElem?_set_self (by rw [HL.out]; exact hlt)) 2 (.int .i64 (mvd m.right d)) ⟨m1, m2⟩ rfl (by omega)
      rw [List.set_set, HST.out] at q2
      have HQ2 := Lib.hid q2
      clear q1 q2 HST HG HL HM
      obtain ⟨lb, ml, mr⟩ := m
      simp only at c0 c1 c2 m1 m2 s1 s2 s3 s4
      go_wp2
      first | go_region_law (go_simp; go_at_call 158; refine (moved_i _ _ _ (by omega) (by omega)).mono ?_; rintro e w2 ⟨rfl, rfl⟩; try go_simp) | fail
      all_goals
        go_wp2
        go_roundg (n - (k + 1))
        case rel => exact ⟨k + 1, hlt, rfl, by go_num, by have hb := HB.out; go_grown, by simp; omega, HQ2.out.below (B' := wr.heap.size) (by go_grown) (by simp)⟩
        case measure => omega
    · go_wp2
      go_returns
      have e : k = n := by omega
      have q := HO.out
      rw [e, List.take_of_length_le (by rw [← HN.out]; exact Nat.le_refl _), List.drop_eq_nil_of_le (by rw [← HN.out]; exact Nat.le_refl _), List.append_nil] at q
      exact ⟨_, rfl, HB.out, q⟩

theorem TS.mid {w : World} {b o n c : Nat} {f : List Lf} (h : TS w (.slice (some ⟨b, o, none⟩) n c) f) (lo hi : Nat) (h1 : lo < hi) (h2 : hi ≤ n) : TS w (.slice (some ⟨b, o + lo * 3, none⟩) (hi - lo) (c - lo)) ((f.drop lo).take (hi - lo)) := by
  obtain ⟨h0, A1, c1, hv, g1, g2, g3⟩ := h
  simp only [Value.slice.injEq] at hv
  obtain ⟨rfl, rfl, rfl⟩ := hv
  have hl : ((f.drop lo).take (hi - lo)).length = hi - lo := by rw [List.length_take, List.length_drop]; omega
  refine ⟨fun m hm => h0 m (List.mem_of_mem_drop (List.mem_of_mem_take hm)), _, c - lo, by rw [hl], by omega, by omega, fun hp => ?_⟩
  obtain ⟨b', o', hA, hb, hm⟩ := g3 (by omega)
  simp only [Option.some.injEq, Addr.mk.injEq] at hA
  obtain ⟨rfl, rfl, _⟩ := hA
  refine ⟨_, _, rfl, hb, fun i m hi2 => ?_⟩
  rw [List.getElem?_take] at hi2
  by_cases hik : i < hi - lo
  · rw [if_pos hik, List.getElem?_drop] at hi2
    have := hm (lo + i) m hi2
    rw [show o + lo * 3 + i * 3 = o + (lo + i) * 3 by omega]; exact this
  · rw [if_neg hik] at hi2; cases hi2
theorem small_part {f : List Lf} (h : SmallT f) (i k : Nat) : SmallT ((f.drop i).take k) := fun m hm => h m (List.mem_of_mem_drop (List.mem_of_mem_take hm))
theorem formed_smallT {t : List Lf} (h : formedT t = true) : SmallT t := by
  have h31 := (formedT_bt h).1
  have hk := kids_ok h
  intro m hm
  obtain ⟨i, hi⟩ := List.getElem?_of_mem hm
  have := hk i m hi
  omega

end Go.Proofs.YthkfjnmnoanhlaaGreatDoor

namespace Go.Proofs.YthkfjnmnoanhlaaGreatDoor
open Go.RowKit

theorem undrawn_t {w W : World} (h : Below w.drew.heap.size w.drew W) : Below w.heap.size w W := ⟨h.os, h.tape, h.output, h.size, h.block⟩
theorem drawn_t {w : World} : Hid (Below w.heap.size w w.drew) := (⟨rfl, rfl, rfl, Nat.le_refl _, fun _ _ => rfl⟩ : Below w.heap.size w w.drew)
theorem TS.one {w : World} {g : Nat} {a b c : Int} (h : Row w g 61 #[.int .u8 a, .int .i64 b, .int .i64 c]) (h0 : 0 ≤ a) (h1 : a ≤ 255) : TS w (.slice (some ⟨g, 0, none⟩) 1 1) [⟨a, b, c⟩] := by
  refine ⟨by simpa [LbOk] using ⟨h0, h1⟩, some ⟨g, 0, none⟩, 1, rfl, by simp, by omega, fun _ => ⟨g, 0, rfl, h.lt, fun i m' hi => ?_⟩⟩
  cases i with
  | succ i => simp at hi
  | zero =>
    simp only [List.getElem?_cons_zero, Option.some.injEq] at hi
    subst hi
    have c := h.cell
    exact ⟨by rw [c]; rfl, by rw [c]; rfl, by rw [c]; rfl⟩
theorem TS.lb {w : World} {v : Value} {f : List Lf} (h : TS w v f) : LbOk f := h.1
theorem joinT_eq (lab X Y : Int) (f h : List Lf) (hX : X = if f.length = 0 then -1 else 1) (hY : Y = if h.length = 0 then -1 else 1 + (f.length : Int)) : [⟨lab, X, Y⟩] ++ shiftS 1 f ++ shiftS (1 + (f.length : Int)) h = joinT lab f h := by
  unfold joinT
  rw [hX, hY]
  simp

theorem TS.form {w : World} {v : Value} {f : List Lf} (h : TS w v f) : ∃ A c, v = .slice A f.length c := by
  obtain ⟨_, A, c, rfl, _⟩ := h
  exact ⟨A, c, rfl⟩
theorem row_new2 (w : World) (o : Obj) (t : TypeId) (cs : Array Value) : Row ((w.alloc o).alloc (.cells cs t)) (w.heap.size + 1) t cs := by
  have q := Row.new (w.alloc o) t cs
  rwa [World.size_alloc] at q
theorem cells3 {W : World} {g : Nat} {t : TypeId} {a b c : Value} (h : Row W g t #[a, b, c]) : W.cell? ⟨g, 0, none⟩ = some a ∧ W.cell? ⟨g, 1, none⟩ = some b ∧ W.cell? ⟨g, 2, none⟩ = some c := ⟨h.cell 0, h.cell 1, h.cell 2⟩

set_option maxRecDepth 100000 in
set_option maxHeartbeats 4000000 in
theorem join_t (lab : Int) (f h : List Lf) (v u : Value) (w : World) (hv : TS w v f) (hu : TS w u h) (h0 : 0 ≤ lab) (h1 : lab ≤ 255) (sf : SmallT f) (sh : SmallT h) (hl : f.length + h.length ≤ 100) :
    Calls Tryz.prog 135 #[.int .u8 lab, v, u] w (RetTO w (joinT lab f h)) := by
  have HV := Lib.hid hv; have HU := Lib.hid hu
  obtain ⟨_, A, c, rfl, hc1, hc2, _⟩ := hv
  obtain ⟨_, A2, d, rfl, hd1, hd2, _⟩ := hu
  obtain ⟨X, hX⟩ : ∃ X : Int, X = if f.length = 0 then -1 else 1 := ⟨_, rfl⟩
  obtain ⟨Y, hY⟩ : ∃ Y : Int, Y = if h.length = 0 then -1 else 1 + (f.length : Int) := ⟨_, rfl⟩
  have HJ := Lib.hid (joinT_eq lab X Y f h hX hY)
  obtain ⟨n, hn⟩ : ∃ n, n = f.length := ⟨_, rfl⟩
  obtain ⟨k, hk⟩ : ∃ k, k = h.length := ⟨_, rfl⟩
  have HS1 := Lib.hid (fun W (hW : TS W (.slice A f.length c) f) => shift_any f _ 1 W hW (by omega) sf (by omega) (by omega))
  obtain ⟨D, hD⟩ : ∃ D : Int, D = 1 + (f.length : Int) := ⟨_, rfl⟩
  have HS2 := Lib.hid (fun W (hW : TS W (.slice A2 h.length d) h) => shift_any h _ D W hW (by omega) sh (by omega) (by omega))
  have HSL : Hid ((shiftS 1 f).length = n ∧ (shiftS D h).length = k) := ⟨by rw [shiftS_len, hn], by rw [shiftS_len, hk]⟩
  rw [← hD] at HJ
  rw [← hn] at hX hY hD hl hc1 HV HS1 ⊢
  rw [← hk] at hY hl hd1 HU HS2
  obtain ⟨F1, hF1⟩ : ∃ F1, F1 = shiftS 1 f := ⟨_, rfl⟩
  obtain ⟨F2, hF2⟩ : ∃ F2, F2 = shiftS D h := ⟨_, rfl⟩
  rw [← hF1] at HS1 HSL HJ
  rw [← hF2] at HS2 HSL HJ
  rw [← HJ.out, ← hk]
  clear hn hk sf sh hF1 hF2
  rcases Nat.eq_zero_or_pos n with hn0 | hn0 <;> rcases Nat.eq_zero_or_pos k with hk0 | hk0
  all_goals
    have e : X = (if n = 0 then -1 else 1) ∧ Y = (if k = 0 then -1 else D) ∧ D = 1 + (n : Int) := ⟨hX, by rw [hD]; exact hY, hD⟩
    clear hX hY hD
    first | (have e1 : X = -1 := by rw [e.1, if_pos hn0]) | (have e1 : X = 1 := by rw [e.1, if_neg (by omega)])
    first | (have e2 : Y = -1 := by rw [e.2.1, if_pos hk0]) | (have e2 : Y = D := by rw [e.2.1, if_neg (by omega)])
    first | (have e3 : D = 1 := by rw [e.2.2, hn0]; rfl) | have e3 := e.2.2
    clear e
    have hDw : D = IntKind.i64.wrap D := (IntWalk.i64_in _ ⟨by omega, by omega⟩).symm
    rw [hDw, e3] at HS2
    clear hDw
    first | rw [e3] at e2 | skip
    have HE := Lib.hid e1; have HE2 := Lib.hid e2
    clear e1 e2 e3 D
    first | subst hn0 | skip
    first | subst hk0 | skip
    go_enter Tryz.func135, Tryz.ntmps135
    go_upto_region 6 with (fail)
    refine wp_abs (fun W => Row W w.heap.size 61 #[.int .u8 lab, .int .i64 X, .int .i64 Y] ∧ Below w.heap.size w W) ⟨by rw [HE.out, HE2.out]; first | exact (Row.new _ _ _) | exact ((Row.new _ _ _).set _ _) | exact (((Row.new _ _ _).set _ _).set _ _), by go_grown⟩ ?_
    rintro wc ⟨hr, hb⟩
    have HR := Lib.hid hr; have HB := Lib.hid hb
    have rl := hr.lt
    clear hr hb HE HE2 HJ
    go_region_held3 (fun W => W.cell? ⟨w.heap.size, 0, none⟩ = some (.int .u8 lab) ∧ W.cell? ⟨w.heap.size, 1, none⟩ = some (.int .i64 X) ∧ W.cell? ⟨w.heap.size, 2, none⟩ = some (.int .i64 Y)) (first | exact cells3 HR.out | exact cells3 HR.out.drew | exact cells3 (HR.out.alloc _) | exact cells3 (HR.out.alloc _).drew | exact cells3 (HR.out.drew.alloc _) | exact cells3 ((HR.out.alloc _).alloc _)) (first
      | (go_at_call 152; (with_reducible refine (HS1.out _ (HV.out.below (HB.out.alloc HB.out.size _).drew (Nat.le_refl _))).mono ?_); rintro e w1 ⟨v1, rfl, hb1, ho1⟩; obtain ⟨A1, c1, rfl⟩ := ho1.ts.form; have HQ := Lib.hid ((Row.new wc _ _).drew.below hb1 (by simp)); replace HR := Lib.hid ((HR.out.alloc _).drew.below hb1 (by have := HR.out.lt; simp; omega)); have H1 := Lib.hid ho1.ts; replace HB : Hid (Below w.heap.size w w1) := Below.trans (HB.out.alloc HB.out.size _).drew (hb1.mono (by have := HB.out.size; simp; omega)); clear hb1 ho1)
      | (go_at_call 152; (with_reducible refine (HS1.out _ (HV.out.below HB.out.drew (Nat.le_refl _))).mono ?_); rintro e w1 ⟨v1, rfl, hb1, ho1⟩; obtain ⟨A1, c1, rfl⟩ := ho1.ts.form; replace HR := Lib.hid (HR.out.drew.below hb1 (by have := HR.out.lt; simp; omega)); have H1 := Lib.hid ho1.ts; replace HB : Hid (Below w.heap.size w w1) := Below.trans HB.out.drew (hb1.mono (by have := HB.out.size; simp; omega)); clear hb1 ho1)
      | (go_at_call 152; (with_reducible refine (HS2.out _ (HU.out.below HB.out (Nat.le_refl _))).mono ?_); rintro e w2 ⟨v2, rfl, hb2, ho2⟩; obtain ⟨A3, c3, rfl⟩ := ho2.ts.form; (first | (replace HQ := Lib.hid (HQ.out.below hb2 HQ.out.lt)) | skip); replace HR := Lib.hid (HR.out.below hb2 HR.out.lt); replace H1 := Lib.hid (H1.out.below hb2 (Nat.le_refl _)); have H2 := Lib.hid ho2.ts; replace HB := Lib.hid (HB.out.trans (hb2.mono HB.out.size)); clear hb2 ho2)
      | (go_at_call 152; (with_reducible refine (HS2.out _ (HU.out.below (HB.out.alloc HB.out.size _) (Nat.le_refl _))).mono ?_); rintro e w2 ⟨v2, rfl, hb2, ho2⟩; obtain ⟨A3, c3, rfl⟩ := ho2.ts.form; have HQ := Lib.hid ((Row.new w1 _ _).below hb2 (by simp)); replace HR := Lib.hid ((HR.out.alloc _).below hb2 (by have := HR.out.lt; simp; omega)); replace H1 := Lib.hid ((H1.out.below (Below.alloc (Below.refl _ _) (Nat.le_refl _) _) (Nat.le_refl _)).below hb2 (Nat.le_refl _)); have H2 := Lib.hid ho2.ts; replace HB : Hid (Below w.heap.size w w2) := Below.trans (HB.out.alloc HB.out.size _) (hb2.mono (by have := HB.out.size; simp; omega)); clear hb2 ho2)
      | (go_at_call 151; have hal : ∀ o, Below w2.heap.size w2 (w2.alloc o) := (fun o => Below.alloc (Below.refl _ _) (Nat.le_refl _) o); (with_reducible refine (concat_three [⟨lab, X, Y⟩] F1 F2 _ _ _ _ _ ((TS.one HQ.out h0 h1).below (hal _) (Nat.le_refl _)) (H1.out.below (hal _) (Nat.le_refl _)) (H2.out.below (hal _) (Nat.le_refl _)) (Row.new _ _ _) (by simp) (by simp only [List.length_singleton]; have := HSL.out; omega)).mono ?_); rintro e w4 ⟨v4, rfl, hb4, ho4⟩; have HBF : Hid (Below w.heap.size w w4) := (HB.out.trans ((hal _).mono HB.out.size)).trans (hb4.mono (by have := HB.out.size; simp; omega)); have H4 := Lib.hid (ho4.mono (B' := w.heap.size) (by have := HB.out.size; simp; omega)); replace HR := Lib.hid ((HR.out.alloc _).below hb4 (by have := HR.out.lt; simp; omega)); clear hb4 ho4)
      | (go_at_call 151; have hal : ∀ o p, Below w2.heap.size w2 ((w2.alloc o).alloc p) := (fun o p => Below.alloc (Below.alloc (Below.refl _ _) (Nat.le_refl _) o) (by simp) p); (with_reducible refine (concat_three [⟨lab, X, Y⟩] F1 F2 _ _ _ _ _ (TS.one ((Row.new w2 _ _).alloc _) h0 h1) (H1.out.below (hal _ _) (Nat.le_refl _)) (H2.out.below (hal _ _) (Nat.le_refl _)) (row_new2 _ _ _ _) (by simp) (by simp only [List.length_singleton]; have := HSL.out; omega)).mono ?_); rintro e w4 ⟨v4, rfl, hb4, ho4⟩; have HBF : Hid (Below w.heap.size w w4) := (HB.out.trans ((hal _ _).mono HB.out.size)).trans (hb4.mono (by have := HB.out.size; simp; omega)); have H4 := Lib.hid (ho4.mono (B' := w.heap.size) (by have := HB.out.size; simp; omega)); replace HR := Lib.hid (((HR.out.alloc _).alloc _).below hb4 (by have := HR.out.lt; simp; omega)); clear hb4 ho4))
    all_goals
      go_wp2_with fail
      go_returns
      exact ⟨v4, rfl, HBF.out, H4.out⟩

theorem lb_shift {f : List Lf} (h : LbOk f) (d : Int) : LbOk (shiftS d f) := fun m hm => by
  simp only [shiftS, List.mem_map] at hm
  obtain ⟨y, hy, rfl⟩ := hm
  exact h y hy

def RetTT (w : World) (t : List Lf) (e : Int) (en : Ending) (w' : World) : Prop := ∃ v, en = .returned (.tuple #[v, .int .i64 e]) ∧ Below w.heap.size w w' ∧ TO w' w.heap.size v t
def mirrorE (t : List Lf) : List Lf × Int := if formedT t = false then ([], 2) else (mirrorS t, 0)

end Go.Proofs.YthkfjnmnoanhlaaGreatDoor
