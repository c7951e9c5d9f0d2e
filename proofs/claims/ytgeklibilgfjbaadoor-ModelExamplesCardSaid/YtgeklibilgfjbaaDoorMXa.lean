/- ModelExamples: the law returns true. -/
import Derived.Test.YtgeklibilgfjbaaDoorMWo
import Derived.Test.YtgeklibilgfjbaaDoorMTr
set_option linter.unusedSimpArgs false
set_option linter.unusedVariables false
namespace Go.Proofs.YtgeklibilgfjbaaDoor
open Go.RowKit

theorem elt_words : Elt 38 36 (.slice none 0 0) 24 := ⟨by kernel_rfl, by kernel_rfl, by omega, rfl⟩
theorem YO.vo {w : World} {B : Nat} {v : Value} {l : List Nat} (h : YO w B v l) : VO 5 w B v (l.map byV) := by
  refine ⟨fun u hu => ?_, by rw [List.length_map]; exact h⟩
  obtain ⟨x, _, rfl⟩ := List.mem_map.1 hu; rfl
theorem VS.ys {w : World} {v : Value} {l : List Nat} (h : VS w v (l.map byV)) : YS w v l := by
  obtain ⟨A, c, hv, h1, h2, h3⟩ := h
  rw [List.length_map] at hv h1 h3
  refine ⟨A, c, hv, h1, h2, fun hp => ?_⟩
  obtain ⟨b, o, hA, hb, hc⟩ := h3 hp
  exact ⟨b, o, hA, hb, fun i x hx => hc i (byV x) (by rw [List.getElem?_map, hx]; rfl)⟩
/-- Words, each in a block of its own kind; the i-th has at most i letters. -/
def WdsO (w : World) (B : Nat) (rows : List Value) : Prop := ∀ (i : Nat) r, rows[i]? = some r → ∃ l : List Nat, VO 5 w B r (l.map byV) ∧ (∀ x ∈ l, x < 256) ∧ l.length ≤ i
theorem WdsO.below {w w' : World} {B B' : Nat} {rows : List Value} (h : WdsO w B rows) (hb : Below B' w w') (hB : w.heap.size ≤ B') : WdsO w' B rows := fun i r hr => by
  obtain ⟨l, h1, h2⟩ := h i r hr
  exact ⟨l, h1.below hb hB, h2⟩
theorem WdsO.far {E' : TypeId} {w w' : World} {B B' : Nat} {rows : List Value} {u : Value} {xs : List Value} {size n : Nat} (h : WdsO w B rows) (hne : 5 ≠ E') (h2 : w.ownsRow B' E' size u n xs) (hg : w.grownBy w' u.ownBlock) : WdsO w' B rows := fun i r hr => by
  obtain ⟨l, h1, h3⟩ := h i r hr
  exact ⟨l, h1.far hne h2 hg, h3⟩
theorem WdsO.snoc {w : World} {B : Nat} {rows : List Value} (h : WdsO w B rows) {v : Value} {l : List Nat} (hv : VO 5 w B v (l.map byV)) (h2 : ∀ x ∈ l, x < 256) (hl : l.length ≤ rows.length) : WdsO w B (rows ++ [v]) := fun i r hr => by
  by_cases e : i < rows.length
  · rw [List.getElem?_append_left e] at hr
    exact h i r hr
  · rw [List.getElem?_append_right (by omega)] at hr
    have e2 : i - rows.length = 0 := by have := (List.getElem?_eq_some_iff.1 hr).1; simp at this; omega
    rw [e2] at hr
    simp at hr
    subst hr
    exact ⟨l, hv, h2, by omega⟩
theorem WdsO.at {w : World} {B : Nat} {rows : List Value} (h : WdsO w B rows) {i : Nat} (hi : i < rows.length) : ∃ A c, ∃ l : List Nat, rows[i]? = some (.slice A l.length c) ∧ YS w (.slice A l.length c) l ∧ (∀ x ∈ l, x < 256) ∧ l.length ≤ i := by
  obtain ⟨r, hr⟩ : ∃ r, rows[i]? = some r := ⟨rows[i], List.getElem?_eq_getElem hi⟩
  obtain ⟨l, h1, h2, h3⟩ := h i r hr
  obtain ⟨A, c, rfl⟩ := h1.form
  have hy := h1.vs.ys
  rw [List.length_map] at hy hr
  exact ⟨A, c, l, hr, hy, h2, h3⟩

def TsF (W : World) (g : Nat) : Prop := g < W.heap.size ∧ ∀ i : Nat, i < 4 → ∃ A n c t, W.cell? ⟨g, i, none⟩ = some (.slice A n c) ∧ TS W (.slice A n c) t
theorem TsF.of {W : World} {g : Nat} {A1 A2 A3 : Option Addr} {n1 n2 n3 d1 d2 d3 : Nat} {t1 t2 t3 : List Lf} (hr : Row W g 44 #[.slice none 0 0, .slice A1 n1 d1, .slice A2 n2 d2, .slice A3 n3 d3]) (h1 : TS W (.slice A1 n1 d1) t1) (h2 : TS W (.slice A2 n2 d2) t2) (h3 : TS W (.slice A3 n3 d3) t3) : TsF W g := ⟨hr.lt, fun i hi => by
  have e := hr.cell i
  match i, hi, e with
  | 0, _, e => exact ⟨_, _, _, _, e, TS.nil W⟩
  | 1, _, e => exact ⟨_, _, _, _, e, h1⟩
  | 2, _, e => exact ⟨_, _, _, _, e, h2⟩
  | 3, _, e => exact ⟨_, _, _, _, e, h3⟩⟩
theorem TsF.below {w w' : World} {g : Nat} (h : TsF w g) (hb : Below w.heap.size w w') : TsF w' g := ⟨Nat.lt_of_lt_of_le h.1 hb.size, fun i hi => by
  obtain ⟨A, n, c, t, h1, h2⟩ := h.2 i hi
  exact ⟨A, n, c, t, (Below.cell hb (by exact h.1)).trans h1, h2.below hb (Nat.le_refl _)⟩⟩

theorem mo_lit1 (w : World) (m : Mk) (h0 : 0 ≤ m.op) (h1 : m.op ≤ 255) : MO (w.alloc (.cells #[.int .u8 m.op, .int .i64 m.x, .int .i64 m.y, .int .i64 m.a, .int .i64 m.b] 23)) w.heap.size (.slice (some ⟨w.heap.size, 0, none⟩) 1 1) [m] :=
  ⟨by intro y hy; simp only [List.mem_singleton] at hy; subst hy; exact ⟨h0, h1⟩, World.ownsRow_lit (size := 5) w _ 1 (Nat.le_refl _) (by simp [maxLen]) rfl⟩
theorem elt_bytes : Elt 36 5 (.int .u8 0) 1 := ⟨by kernel_rfl, by kernel_rfl, by omega, rfl⟩
/-- make of n bytes: the cells under a name. -/
theorem mk_bytes (n : Nat) (hn : n ≤ 1000) : ∃ C : Array Value, (∀ W : World, (Instr.makeSlice 36 (.int .i64 (n : Int)) (.int .i64 (n : Int))).run Tryd.prog W = .ok (.slice (some ⟨W.heap.size, 0, none⟩) n n) (W.alloc (.cells C 5))) ∧
    ∀ (W : World) (g : Nat), Row W g 5 C → YS W (.slice (some ⟨g, 0, none⟩) n n) (List.replicate n 0) := by
  refine ⟨(List.replicate n (.int .u8 0)).toArray, fun W => run_make_vs elt_bytes n (by omega) W, fun W g h => ?_⟩
  refine YS.lit n n _ h (by simp) (Nat.le_refl _) (by omega) fun i x hi => ?_
  rw [List.getElem?_replicate] at hi
  split at hi
  · cases hi; simp [byV, *]
  · cases hi
theorem lt_rep (n : Nat) : ∀ x ∈ List.replicate n 0, x < 256 := fun x hx => by rw [List.eq_of_mem_replicate hx]; omega
set_option maxRecDepth 100000 in
set_option maxHeartbeats 8000000 in
theorem exa16_walk (w : World) (hdb : DB w) : Calls Tryd.prog 4 #[] w fun e w' => e = .returned (.bool true) ∧ Below w.heap.size w w' := by
  have HDB := Lib.hid hdb; clear hdb
  have HMW := Lib.hid (fun f z l v u W (h1 : MS W v f) (h2 : YS W u l) (h3 : ∀ x ∈ l, x < 256) (h4 : DB W) => words_walk f z l v u W h1 h2 h3 h4)
  have HMT := Lib.hid (fun f z t v u W (h1 : MS W v f) (h2 : TS W u t) (h4 : DB W) => trees_walk f z t v u W h1 h2 h4)
  go_enter Tryd.func4, Tryd.ntmps4
  go_wp2
  go_loopg [1, 2] 21 (fun gk q1 q2 wr => ∃ (i : Nat) (rows : List Value), i ≤ 21 ∧ gk = 21 - i ∧ q2 = .int .i64 i ∧ rows.length = 4 * i + 1 ∧ VO 36 wr w.heap.size q1 rows ∧ WdsO wr w.heap.size rows ∧ Below w.heap.size w wr)
  case atStart =>
    refine ⟨0, [.slice none 0 0], by omega, rfl, rfl, rfl, VO.lit (E := 36) [.slice none 0 0] rfl (by omega) (by simp [Value.oneCell']), fun i r hr => ?_, by go_grown⟩
    cases i with
    | zero => simp at hr; subst hr; exact ⟨[], VO.nil _ _ _, by simp, by simp⟩
    | succ i => simp at hr
  case round =>
    obtain ⟨i, rows, him, rfl, rfl, hrl, hO, hW, hb⟩ := hrel
    have HO := Lib.hid hO; have HW := Lib.hid hW; have HB := Lib.hid hb
    obtain ⟨A1, c1, rfl⟩ := hO.form
    clear hO hW hb
    obtain ⟨m, hm⟩ : ∃ m, m = rows.length := ⟨_, rfl⟩
    rw [← hm] at hrl HO ⊢
    by_cases hlt : i < 21
    · have h85 : 4 * (i : Int) + 1 < 85 := by omega
      go_wp2
      go_loopg [1, 3] 4 (fun gk q1 q3 wx => ∃ (x : Nat) (rs : List Value), x ≤ 4 ∧ gk = 4 - x ∧ q3 = .int .i64 x ∧ rs.length = 4 * i + 1 + x ∧ VO 36 wx w.heap.size q1 rs ∧ WdsO wx w.heap.size rs ∧ Below w.heap.size w wx)
      case atStart => exact ⟨0, rows, by omega, rfl, rfl, by omega, by rw [← hrl]; exact HO.out, HW.out, HB.out⟩
      case round =>
        clear HO HW HB hm hrl
        obtain ⟨x, rs, hx4, rfl, rfl, hrl, hO, hW, hb⟩ := hrel
        have HO := Lib.hid hO; have HW := Lib.hid hW; have HB := Lib.hid hb
        obtain ⟨A2, c2, rfl⟩ := hO.form
        clear hO hW hb
        rw [hrl] at HO ⊢
        have hzs := HB.out.size
        by_cases hlx : x < 4
        · obtain ⟨A3, c3, l, hr, hy, h256, hli⟩ := HW.out.at (i := i) (by omega)
          obtain ⟨A9, c9, hv9, d1, d2, d3⟩ := HO.out.vs
          simp only [Value.slice.injEq] at hv9
          obtain ⟨b, o, hA, hbs, hc⟩ := d3 (by omega)
          have ca := hc i _ hr
          rw [← hv9.1] at hA
          subst hA
          rw [hrl, ← hv9.2.2] at d1
          rw [← hv9.2.2] at d2
          have HY := Lib.hid hy; have H256 := Lib.hid h256; have HRL := Lib.hid hrl
          clear hy h256 hc d3 hr hrl hv9
          go_wp2_with (first
            | (go_at_call 22; go_must (refine (copy_bytes l _ _ (HY.out.below (by go_grown) (Nat.le_refl _)) (by omega)).mono ?_; rintro e wm ⟨vm, rfl, hb, ho⟩; have HBM := Lib.hid hb; have HVM := Lib.hid ho; have hzm := hb.size; clear hb ho))
            | (at_builtin; refine wpList_append_ys rfl (.tmp 38) (.tmp 41) rfl wr.heap.size vm l rfl (HVM.out.below (B' := wm.heap.size) (by go_grown) (Nat.le_refl _)) _ [x] rfl (YS.lit 1 1 #[.int .u8 x] (by first | exact Row.new _ _ _ | exact Row.lit (by simp only [World.size_alloc])) rfl (by omega) (by omega) (by intro i y hy; cases i with | zero => (simp at hy; subst hy; rfl) | succ i => simp at hy)) (by simp only [List.length_cons, List.length_nil]; omega) (by simp only [World.size_alloc]; omega) ?_; intro v3 w3 ho3 hg3 _; have HB3 := Lib.hid (own_below_y (w := wr) (by have h1 := HBM.out; have h2 := h1.size; go_grown) (HVM.out.below (B' := wm.heap.size) (by go_grown) (Nat.le_refl _)) hg3 (by simp only [World.size_alloc]; omega)); have HV3 := Lib.hid ho3.vo; have hz3 := HB3.out.size; obtain ⟨A4, c4, h4⟩ := ho3.vo.form; have hm4 : ((l ++ [x]).map byV).length = l.length + 1 := (by simp); rw [hm4] at h4; subst h4; clear ho3 hg3 hm4)
            | (at_builtin; go_must (refine wpList_append_vs elt_words rfl (.tmp 33) (.tmp 43) rfl w.heap.size (.slice (some ⟨b, o, none⟩) (4 * i + 1 + x) c2) rs rfl (HO.out.below (B' := wr.heap.size) (by have h1 := HB3.out; have h2 := h1.size; go_grown) (Nat.le_refl _)) _ [Value.slice A4 (l.length + 1) c4] rfl (VS.lit (E := 36) (l := [Value.slice A4 (l.length + 1) c4]) (by first | exact Row.new _ _ _ | exact Row.lit (by simp only [World.size_alloc])) (by simp)) (by simp [Value.oneCell']) (by simp only [List.length_cons, List.length_nil]; rw [HRL.out]; omega) (by simp only [World.size_alloc]; omega) ?_; intro v5 w5 ho5 hg5 _)))
          have hal : Below wr.heap.size wr (w3.alloc (.cells #[Value.slice A4 (l.length + 1) c4] 36)) := by have h1 := HB3.out; have h2 := h1.size; go_grown
          have hal3 : Below w3.heap.size w3 (w3.alloc (.cells #[Value.slice A4 (l.length + 1) c4] 36)) := by go_grown
          have HB5 := Lib.hid (own_below_v (w := w) (HB.out.trans (hal.mono HB.out.size)) (HO.out.below hal (Nat.le_refl _)) hg5 (by simp only [World.size_alloc]; omega))
          have hsn := (HW.out.below hal (Nat.le_refl _)).snoc ((HV3.out.mono (B' := w.heap.size) HB.out.size).below hal3 (Nat.le_refl _)) (fun y hy => by
            rcases List.mem_append.1 hy with h | h
            · exact H256.out y h
            · simp only [List.mem_singleton] at h; omega) (by rw [HRL.out]; simp only [List.length_append, List.length_cons, List.length_nil]; omega)
          have HW5 := Lib.hid (hsn.far (by decide) (HO.out.below hal (Nat.le_refl _)).2 hg5)
          have HO5 := Lib.hid ho5
          clear ho5 hg5 hal hal3 hsn
          go_roundg (4 - (x + 1))
          case rel => exact ⟨x + 1, _, by omega, rfl, by go_num, by simp [HRL.out]; omega, HO5.out, HW5.out, HB5.out⟩
          case measure => omega
        · have hx : x = 4 := by omega
          subst hx
          go_wp2
          go_roundg (21 - (i + 1))
          case rel => exact ⟨i + 1, rs, by omega, rfl, by go_num, by omega, HO.out, HW.out, HB.out⟩
          case measure => omega
    have hi21 : i = 21 := by omega
    subst hi21
    have hr85 : rows.length = 85 := by omega
    have hm85 : m = 85 := by omega
    rw [hm85] at HO ⊢
    obtain ⟨w1, rfl⟩ : ∃ w1 : World, w1 = wr := ⟨_, rfl⟩
    have HRL := Lib.hid hr85
    clear hm hrl hr85 him hlt
    go_wp2
    go_loopg [4] 8 (fun gk q4 wx => ∃ op : Nat, 1 ≤ op ∧ op ≤ 9 ∧ gk = 9 - op ∧ q4 = .int .u8 op ∧ Below w1.heap.size w1 wx)
    case atStart => exact ⟨1, by omega, by omega, rfl, rfl, Below.refl _ _⟩
    case round =>
      obtain ⟨op, ho1, ho9, rfl, rfl, hb⟩ := hrel
      have HB1 := Lib.hid hb; clear hb
      by_cases hop : op ≤ 8
      · have hop2 : (op : Int) ≤ 8 := by omega
        go_wp2
        go_loopg [5] 4 (fun gk q5 wx => ∃ k : Nat, k ≤ 4 ∧ gk = 4 - k ∧ q5 = .int .i64 k ∧ Below w1.heap.size w1 wx)
        case atStart => exact ⟨0, by omega, rfl, rfl, HB1.out⟩
        case round =>
          clear HB1
          obtain ⟨k, hk4, rfl, rfl, hb⟩ := hrel
          have HB1 := Lib.hid hb; clear hb
          by_cases hk : k < 4
          · have hk2 : (k : Int) < 4 := by omega
            have hcase : (((op : Int) == 1) = true ∧ ((op : Int) != 1) = false ∧ ((op : Int) == 2) = false ∧ decide (5 ≤ (op : Int)) = false) ∨ (((op : Int) == 1) = false ∧ ((op : Int) != 1) = true ∧ ((op : Int) == 2) = true ∧ decide (5 ≤ (op : Int)) = false) ∨
                (((op : Int) == 1) = false ∧ ((op : Int) != 1) = true ∧ ((op : Int) == 2) = false ∧ decide (5 ≤ (op : Int)) = false) ∨ (((op : Int) == 1) = false ∧ ((op : Int) != 1) = true ∧ ((op : Int) == 2) = false ∧ decide (5 ≤ (op : Int)) = true) := by
              simp only [beq_eq_false_iff_ne, beq_iff_eq, bne_iff_ne, bne_eq_false_iff_eq, decide_eq_true_eq, decide_eq_false_iff_not, ne_eq]
              omega
            rcases hcase with ⟨e1, e2, e3, e4⟩ | ⟨e1, e2, e3, e4⟩ | ⟨e1, e2, e3, e4⟩ | ⟨e1, e2, e3, e4⟩
            all_goals go_wp2
            all_goals (refine wp_abs (fun W => (∃ f, MS W (.slice (some ⟨wr.heap.size + 1, 0, none⟩) 1 1) f) ∧ Below w1.heap.size w1 W) ⟨⟨_, ms_one5 (by first | exact Row.new _ _ _ | exact Row.lit (by simp only [World.size_alloc])) (by omega) (by omega)⟩, by have h1 := HB1.out; have h2 := h1.size; go_grown⟩ ?_)
            all_goals (clear HB1; rintro w2 ⟨⟨f, hf⟩, hb⟩; have HF := Lib.hid hf; have HB1 := Lib.hid hb; clear hf hb)
            all_goals
              go_loopg [8] 85 (fun gk q8 wx => ∃ i : Nat, i ≤ 85 ∧ gk = 85 - i ∧ q8 = .int .i64 i ∧ Below w2.heap.size w2 wx)
              case atStart => exact ⟨0, by omega, rfl, rfl, Below.refl _ _⟩
              case round =>
                obtain ⟨i, hi, rfl, rfl, hb⟩ := hrel
                have HB2 := Lib.hid hb; clear hb
                have hz1 := HB1.out.size
                by_cases hi8 : i < 85
                · obtain ⟨A3, c3, l, hr, hy, h256, hli⟩ := HW.out.at (i := i) (by rw [HRL.out]; omega)
                  obtain ⟨A9, c9, hv9, d1, d2, d3⟩ := HO.out.vs
                  simp only [Value.slice.injEq] at hv9
                  obtain ⟨b, o, hA, hbs, hc⟩ := d3 (by rw [HRL.out]; omega)
                  have ca := hc i _ hr
                  rw [← hv9.1] at hA
                  subst hA
                  rw [HRL.out, ← hv9.2.2] at d1
                  rw [← hv9.2.2] at d2
                  have ca2 := (Below.cell (HB1.out.trans (HB2.out.mono HB1.out.size)) (by exact hbs)).trans ca
                  have HY := Lib.hid hy; have H256 := Lib.hid h256
                  clear hy h256 hc d3 hr hv9 ca
                  go_wp2_with (go_at_call 23; go_must (refine (HMW.out f 2 l _ _ _ (HF.out.below HB2.out (Nat.le_refl _)) (HY.out.below (HB1.out.trans (HB2.out.mono HB1.out.size)) (Nat.le_refl _)) H256.out (HDB.out.below (HB.out.trans ((HB1.out.trans (HB2.out.mono HB1.out.size)).mono HB.out.size)) (Nat.le_refl _))).mono ?_; rintro e wl ⟨rfl, hb⟩; have HB3 := Lib.hid (HB2.out.trans (hb.mono HB2.out.size)); clear hb))
                  go_roundg (85 - (i + 1))
                  case rel => exact ⟨i + 1, by omega, rfl, by go_num, HB3.out⟩
                  case measure => omega
                · have hi85 : i = 85 := by omega
                  subst hi85
                  rw [show ((85 : Nat) : Int) = 85 from rfl]
                  have HBA := Lib.hid (HB1.out.trans (HB2.out.mono HB1.out.size))
                  have HF2 := Lib.hid (HF.out.below HB2.out (Nat.le_refl _))
                  clear HB1 HB2 HF hz1
                  go_wp2
                  go_loopg [9] 64 (fun gk q9 wx => ∃ j : Nat, j ≤ 64 ∧ gk = 64 - j ∧ q9 = .int .i64 j ∧ Below wr.heap.size wr wx)
                  case atStart => exact ⟨0, by omega, rfl, rfl, Below.refl _ _⟩
                  case round =>
                    obtain ⟨w3, rfl⟩ : ∃ w3 : World, w3 = wr := ⟨_, rfl⟩
                    obtain ⟨j, hj, rfl, rfl, hb⟩ := hrel
                    have HB3 := Lib.hid hb; clear hb
                    by_cases hj64 : j < 64
                    · have hj2 : (j : Int) < 64 := by omega
                      go_wp2
                      refine wp_abs (fun W => TsF W (w3.heap.size + 1 + 1 + 1) ∧ Below wr.heap.size wr W) ⟨TsF.of (by first | exact Row.new _ _ _ | exact Row.lit (by simp only [World.size_alloc])) (TS.litL [⟨(j : Int) % 4, -1, -1⟩] (by simp) (by simp [LbOk]; omega) ((((Row.new _ _ _).alloc _).alloc _).alloc _)) (TS.litL [⟨(j : Int) % 4, 1, 2⟩, ⟨(j : Int) / 4 % 4, -1, -1⟩, ⟨(j : Int) / 16, -1, -1⟩] (by simp) (by simp [LbOk]; omega) (((Row.lit (by simp only [World.size_alloc])).alloc _).alloc _)) (TS.litL [⟨(j : Int) % 4, -1, 1⟩, ⟨(j : Int) / 4 % 4, 2, -1⟩, ⟨(j : Int) / 16, -1, -1⟩] (by simp) (by simp [LbOk]; omega) ((Row.lit (by simp only [World.size_alloc])).alloc _)), by have h1 := HB3.out; have h2 := h1.size; go_grown⟩ ?_
                      clear HB3
                      rintro w4 ⟨htf, hb⟩
                      have HTF := Lib.hid htf; have HB3 := Lib.hid hb; clear htf hb
                      go_loopg [14] 4 (fun gk q14 wx => ∃ i : Nat, i ≤ 4 ∧ gk = 4 - i ∧ q14 = .int .i64 i ∧ Below w4.heap.size w4 wx)
                      case atStart => exact ⟨0, by omega, rfl, rfl, Below.refl _ _⟩
                      case round =>
                        obtain ⟨i7, hi7, rfl, rfl, hb⟩ := hrel
                        have HB4 := Lib.hid hb; clear hb
                        have HBT := Lib.hid (HB3.out.trans (HB4.out.mono HB3.out.size))
                        by_cases hi74 : i7 < 4
                        · obtain ⟨A7, n7, c7, t, hc, ht⟩ := HTF.out.2 i7 hi74
                          have ca := (Below.cell HB4.out (by exact HTF.out.1)).trans hc
                          have HT := Lib.hid ht
                          clear hc ht
                          go_wp2_with (go_at_call 24; go_must (refine (HMT.out f 2 t _ _ _ (HF2.out.below HBT.out (Nat.le_refl _)) (HT.out.below HB4.out (Nat.le_refl _)) (HDB.out.below (HB.out.trans ((HBA.out.trans (HBT.out.mono HBA.out.size)).mono HB.out.size)) (Nat.le_refl _))).mono ?_; rintro e wl ⟨rfl, hb⟩; have HB5 := Lib.hid (HB4.out.trans (hb.mono HB4.out.size)); clear hb))
                          go_roundg (4 - (i7 + 1))
                          case rel => exact ⟨i7 + 1, by omega, rfl, by go_num, HB5.out⟩
                          case measure => omega
                        · have hi4 : i7 = 4 := by omega
                          subst hi4
                          go_wp2
                          go_roundg (64 - (j + 1))
                          case rel => exact ⟨j + 1, by omega, rfl, by go_num, HBT.out⟩
                          case measure => omega
                    · have hj4 : j = 64 := by omega
                      subst hj4
                      go_wp2
                      try rw [show Value.int IntKind.u8 2 = Value.int IntKind.u8 (op : Int) from by congr 1; omega]
                      go_roundg (4 - (k + 1))
                      case rel => exact ⟨k + 1, by omega, rfl, by go_num, HBA.out.trans (HB3.out.mono HBA.out.size)⟩
                      case measure => omega
          · have hk4' : k = 4 := by omega
            subst hk4'
            go_wp2
            go_roundg (9 - (op + 1))
            case rel => exact ⟨op + 1, by omega, by omega, rfl, by go_num, HB1.out⟩
            case measure => omega
      · have ho : op = 9 := by omega
        subst ho
        have HBW : Hid (Below w.heap.size w wr) := HB.out.trans (HB1.out.mono HB.out.size)
        have hzz := HBW.out.size
        clear HB1 HO HW HRL
        go_wp2
        refine wp_abs (fun W => MO W w.heap.size (.slice (some ⟨wr.heap.size, 0, none⟩) 1 1) [⟨6, 0, 1, 0, 0⟩] ∧ Below w.heap.size w W) ⟨(mo_lit1 _ ⟨6, 0, 1, 0, 0⟩ (by decide) (by decide)).mono hzz, by have h1 := HBW.out; go_grown⟩ ?_
        rintro w2 ⟨ho2, hb2⟩
        have HO2 := Lib.hid ho2; have HB2 := Lib.hid hb2
        clear ho2 hb2 HBW hzz HB
        go_loopg [15, 16] 62 (fun gk q15 q16 wx => ∃ (i : Nat) (f : List Mk), i ≤ 62 ∧ gk = 62 - i ∧ q16 = .int .i64 i ∧ f.length = i + 1 ∧ MO wx w.heap.size q15 f ∧ Below w.heap.size w wx)
        case atStart => exact ⟨0, _, by omega, rfl, rfl, rfl, HO2.out, HB2.out⟩
        case round =>
          clear HO2 HB2
          obtain ⟨i, f, hi, rfl, rfl, hfl, ho, hb⟩ := hrel
          have HO := Lib.hid ho; have HB := Lib.hid hb; have HFL := Lib.hid hfl
          obtain ⟨A1, c1, rfl⟩ := ho.form
          rw [hfl] at HO ⊢
          clear ho hb hfl
          have hzz := HB.out.size
          by_cases hi62 : i < 62
          · have hii : (i : Int) < 62 := by omega
            obtain ⟨C12, hmk, hC⟩ := mk_bytes 12 (by omega)
            have HC := Lib.hid hC
            rw [show ((12 : Nat) : Int) = 12 from rfl] at hmk
            clear hC
            by_cases hi4 : i < 4
            · have hi4i : (i : Int) < 4 := by omega
              go_wp2_with (first
                | (at_builtin; refine wpList_append_ms rfl (.tmp 135) (.tmp 146) rfl w.heap.size (.slice A1 (i + 1) c1) f rfl (HO.out.below (B' := wr.heap.size) (by go_grown) (Nat.le_refl _)) _ [⟨12 + (i : Int) % 4, (i : Int) % 2, 0, i, 0⟩] rfl (ms_one5 (Row.new _ _ _) (by omega) (by omega)) (by rw [HFL.out]; simp only [List.length_cons, List.length_nil]; omega) (by simp only [World.size_alloc]; omega) ?_; intro v3 w3 ho3 hg3 _; have HB3 := Lib.hid (own_below (w := w) (v' := v3) (g := f) (by have h1 := HB.out; go_grown) (HO.out.below (B' := wr.heap.size) (by go_grown) (Nat.le_refl _)) hg3 (by simp only [World.size_alloc]; omega)); have HO3 := Lib.hid ho3; have hz3 := HB3.out.size; clear ho3 hg3)
                | (go_at_call 23; refine (HMW.out _ 2 [0, 1, 2, 3] _ _ _ (HO3.out.ms.below (B := w3.heap.size) (by go_grown) (Nat.le_refl _)) (YS.litL [0, 1, 2, 3] (by simp) (Row.lit rfl)) (by decide) (HDB.out.below (B := w.heap.size) (by have h1 := HB3.out; go_grown) (Nat.le_refl _))).mono ?_; rintro e w4 ⟨rfl, hb4⟩; have hal := (by go_grown : Below w3.heap.size w3 (w3.alloc (.cells #[Value.int .u8 0, .int .u8 1, .int .u8 2, .int .u8 3] 5))); have hb5 := hal.trans (hb4.mono hal.size); have HB4 := Lib.hid (HB3.out.trans (hb5.mono hz3)); have HO4 := Lib.hid (HO3.out.below hb5 (Nat.le_refl _)); have hz4 := HB4.out.size; clear hb4 hb5 hal HB3 HO3)
                | (go_at_call 23; refine (HMW.out _ 2 (List.replicate 12 0) _ _ _ (HO4.out.ms.below (B := w4.heap.size) (by go_grown) (Nat.le_refl _)) (HC.out _ _ (Row.lit rfl)) (lt_rep 12) (HDB.out.below (B := w.heap.size) (by have h1 := HB4.out; go_grown) (Nat.le_refl _))).mono ?_; rintro e w5 ⟨rfl, hb4⟩; have hal := (by go_grown : Below w4.heap.size w4 (w4.alloc (.cells C12 5))); have hb5 := hal.trans (hb4.mono hal.size); have HB5 := Lib.hid (HB4.out.trans (hb5.mono hz4)); have HO5 := Lib.hid (HO4.out.below hb5 (Nat.le_refl _)); have hz5 := HB5.out.size; clear hb4 hb5 hal HB4 HO4)
                | (go_at_call 24; refine (HMT.out _ 2 [⟨0, 1, -1⟩, ⟨0, -1, -1⟩] _ _ _ (HO5.out.ms.below (B := w5.heap.size) (by go_grown) (Nat.le_refl _)) (TS.litL [⟨0, 1, -1⟩, ⟨0, -1, -1⟩] (by simp) (by simp [LbOk]) (Row.lit rfl)) (HDB.out.below (B := w.heap.size) (by have h1 := HB5.out; go_grown) (Nat.le_refl _))).mono ?_; rintro e w6 ⟨rfl, hb4⟩; have hb5 := hb4; have HB6 := Lib.hid (by have h1 := HB5.out; have h2 := hb5.size; exact h1.trans (Below.trans (by go_grown : Below w.heap.size w5 _) (hb5.mono (by simp only [World.size_alloc]; omega)))); have HO6 := Lib.hid (HO5.out.below (B' := w5.heap.size) (Below.trans (by go_grown : Below w5.heap.size w5 _) (hb5.mono (by simp only [World.size_alloc]; omega))) (Nat.le_refl _)); clear hb4 hb5))
              go_roundg (62 - (i + 1))
              case rel => exact ⟨i + 1, _, by omega, rfl, by go_num, by rw [List.length_append, HFL.out]; rfl, HO6.out, HB6.out⟩
              case measure => omega
            · have hi4i : (4 : Int) ≤ (i : Int) := by omega
              go_wp2_with (at_builtin; refine wpList_append_ms rfl (.tmp 135) (.tmp 146) rfl w.heap.size (.slice A1 (i + 1) c1) f rfl (HO.out.below (B' := wr.heap.size) (by go_grown) (Nat.le_refl _)) _ [⟨12 + (i : Int) % 4, (i : Int) % 2, 0, i, 0⟩] rfl (ms_one5 (Row.new _ _ _) (by omega) (by omega)) (by rw [HFL.out]; simp only [List.length_cons, List.length_nil]; omega) (by simp only [World.size_alloc]; omega) ?_; intro v3 w3 ho3 hg3 _; have HB3 := Lib.hid (own_below (w := w) (v' := v3) (g := f) (by have h1 := HB.out; go_grown) (HO.out.below (B' := wr.heap.size) (by go_grown) (Nat.le_refl _)) hg3 (by simp only [World.size_alloc]; omega)); have HO3 := Lib.hid ho3; have hz3 := HB3.out.size; clear ho3 hg3)
              go_roundg (62 - (i + 1))
              case rel => exact ⟨i + 1, _, by omega, rfl, by go_num, by rw [List.length_append, HFL.out]; rfl, HO3.out, HB3.out⟩
              case measure => omega
          · have hi62' : i = 62 := by omega
            subst hi62'
            rw [show (62 + 1 : Nat) = 63 from rfl] at HO ⊢
            obtain ⟨C64, hmk, hC⟩ := mk_bytes 64 (by omega)
            obtain ⟨C65, hmk2, hC2⟩ := mk_bytes 65 (by omega)
            have HC := Lib.hid hC; have HC2 := Lib.hid hC2
            rw [show ((64 : Nat) : Int) = 64 from rfl] at hmk
            rw [show ((65 : Nat) : Int) = 65 from rfl] at hmk2
            clear hC hC2
            go_wp2_with fail
            (with_reducible refine (HMW.out f 2 [] _ _ _ HO.out.ms (YS.nil _) (by simp) (HDB.out.below HB.out (Nat.le_refl _))).mono ?_)
            rintro e w3 ⟨rfl, hb3⟩
            have HO3 := Lib.hid (HO.out.below hb3 (Nat.le_refl _)); have HB3 := Lib.hid (HB.out.trans (hb3.mono hzz)); have hz3 := HB3.out.size
            clear HO HB hb3 hzz
            go_wp2_with fail
            refine (HMW.out f 2 (List.replicate 64 0) _ _ _ (HO3.out.ms.below (B := w3.heap.size) (by go_grown) (Nat.le_refl _)) (HC.out _ _ (Row.lit rfl)) (lt_rep 64) (HDB.out.below (B := w.heap.size) (by have h1 := HB3.out; go_grown) (Nat.le_refl _))).mono ?_
            rintro e w4 ⟨rfl, hb4⟩
            have hal := (by go_grown : Below w3.heap.size w3 (w3.alloc (.cells C64 5))); have hb5 := hal.trans (hb4.mono hal.size)
            have HB4 := Lib.hid (HB3.out.trans (hb5.mono hz3)); have HO4 := Lib.hid (HO3.out.below hb5 (Nat.le_refl _)); have hz4 := HB4.out.size
            clear hb4 hb5 hal HB3 HO3 hz3
            go_wp2_with fail
            refine (HMW.out f 2 (List.replicate 65 0) _ _ _ (HO4.out.ms.below (B := w4.heap.size) (by go_grown) (Nat.le_refl _)) (HC2.out _ _ (Row.lit rfl)) (lt_rep 65) (HDB.out.below (B := w.heap.size) (by have h1 := HB4.out; go_grown) (Nat.le_refl _))).mono ?_
            rintro e w5 ⟨rfl, hb5⟩
            have hal := (by go_grown : Below w4.heap.size w4 (w4.alloc (.cells C65 5))); have hb6 := hal.trans (hb5.mono hal.size)
            have HB5 := Lib.hid (HB4.out.trans (hb6.mono hz4)); have HO5 := Lib.hid (HO4.out.below hb6 (Nat.le_refl _)); have hz5 := HB5.out.size
            clear hb5 hb6 hal HB4 HO4 hz4
            go_wp2_with fail
            (with_reducible refine (HMT.out f 3 [] _ _ _ HO5.out.ms (TS.nil _) (HDB.out.below HB5.out (Nat.le_refl _))).mono ?_)
            rintro e w6 ⟨rfl, hb6⟩
            have HO6 := Lib.hid (HO5.out.below hb6 (Nat.le_refl _)); have HB6 := Lib.hid (HB5.out.trans (hb6.mono hz5)); have hz6 := HB6.out.size
            clear HO5 HB5 hb6 hz5
            go_wp2_with fail
            (with_reducible refine (HMT.out f 4 [] _ _ _ HO6.out.ms (TS.nil _) (HDB.out.below HB6.out (Nat.le_refl _))).mono ?_)
            rintro e w7 ⟨rfl, hb7⟩
            have HB7 := Lib.hid (HB6.out.trans (hb7.mono hz6)); have hz7 := HB7.out.size
            clear HO6 HB6 hb7 hz6
            go_wp2_with fail
            (with_reducible refine (HMW.out [] (-1) [] _ _ _ (MS.nil _) (YS.nil _) (by simp) (HDB.out.below HB7.out (Nat.le_refl _))).mono ?_)
            rintro e w8 ⟨rfl, hb8⟩
            have HB8 := Lib.hid (HB7.out.trans (hb8.mono hz7)); have hz8 := HB8.out.size
            clear HB7 hb8 hz7
            go_wp2_with fail
            (with_reducible refine (awake16 _ (HDB.out.below HB8.out (Nat.le_refl _))).mono ?_)
            rintro e w9 ⟨rfl, hb9⟩
            have HB9 := Lib.hid (HB8.out.trans (hb9.mono hz8))
            clear HB8 hb9
            go_wp2_with fail
            go_returns
            exact ⟨rfl, HB9.out⟩
end Go.Proofs.YtgeklibilgfjbaaDoor
