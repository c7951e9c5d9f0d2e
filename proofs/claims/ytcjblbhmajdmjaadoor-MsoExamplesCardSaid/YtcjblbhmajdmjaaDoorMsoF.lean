/- Contracts: forms of the package mso. -/
/- Contracts: quantifier, spare, within, sizes of the package mso. -/
/- Contract: sizes of the package mso. -/
import Derived.Test.YtcjblbhmajdmjaaDoorBase
set_option linter.unusedSimpArgs false
set_option linter.unusedVariables false
namespace Go.Proofs.YtcjblbhmajdmjaaDoor
open Go.RowKit

theorem idx4 (W : World) (a b c d : Value) : (Instr.index 96 (.agg #[a, b, c, d]) (.int .u8 0)).run Tryd.prog W = .ok a W ∧ (Instr.index 96 (.agg #[a, b, c, d]) (.int .u8 1)).run Tryd.prog W = .ok b W ∧
    (Instr.index 96 (.agg #[a, b, c, d]) (.int .u8 2)).run Tryd.prog W = .ok c W ∧ (Instr.index 96 (.agg #[a, b, c, d]) (.int .u8 3)).run Tryd.prog W = .ok d W := by
  refine ⟨?_, ?_, ?_, ?_⟩ <;> kernel_rfl
theorem idx9 (W : World) (a b c d e f g h i : Value) : (Instr.index 97 (.agg #[a, b, c, d, e, f, g, h, i]) (.int .i64 0)).run Tryd.prog W = .ok a W ∧ (Instr.index 97 (.agg #[a, b, c, d, e, f, g, h, i]) (.int .i64 1)).run Tryd.prog W = .ok b W ∧
    (Instr.index 97 (.agg #[a, b, c, d, e, f, g, h, i]) (.int .i64 2)).run Tryd.prog W = .ok c W ∧ (Instr.index 97 (.agg #[a, b, c, d, e, f, g, h, i]) (.int .i64 3)).run Tryd.prog W = .ok d W ∧
    (Instr.index 97 (.agg #[a, b, c, d, e, f, g, h, i]) (.int .i64 4)).run Tryd.prog W = .ok e W ∧ (Instr.index 97 (.agg #[a, b, c, d, e, f, g, h, i]) (.int .i64 5)).run Tryd.prog W = .ok f W ∧
    (Instr.index 97 (.agg #[a, b, c, d, e, f, g, h, i]) (.int .i64 6)).run Tryd.prog W = .ok g W ∧ (Instr.index 97 (.agg #[a, b, c, d, e, f, g, h, i]) (.int .i64 7)).run Tryd.prog W = .ok h W ∧
    (Instr.index 97 (.agg #[a, b, c, d, e, f, g, h, i]) (.int .i64 8)).run Tryd.prog W = .ok i W := by
  refine ⟨?_, ?_, ?_, ?_, ?_, ?_, ?_, ?_, ?_⟩ <;> kernel_rfl

def FormsPost (op : Int) (w : World) (e : Ending) (w' : World) : Prop := e = .returned (.agg #[.string ⟨(nm op).toArray⟩, .int .i64 (nv op), .int .i64 (nc op)]) ∧ Below w.heap.size w w'

set_option maxRecDepth 100000 in
set_option maxHeartbeats 1000000 in
theorem forms_low (op : Int) (w : World) (h : op = 1 ∨ op = 3 ∨ op = 4 ∨ op = 9 ∨ op = 10 ∨ op = 11 ∨ op = 12 ∨ op = 13 ∨ op = 14 ∨ op = 15) : Calls Tryd.prog 53 #[.int .u8 op] w (FormsPost op w) := by
  have i0 := fun W a b c d => (idx4 W a b c d).1
  have i1 := fun W a b c d => (idx4 W a b c d).2.1
  have i2 := fun W a b c d => (idx4 W a b c d).2.2.1
  have i3 := fun W a b c d => (idx4 W a b c d).2.2.2
  rcases h with rfl | rfl | rfl | rfl | rfl | rfl | rfl | rfl | rfl | rfl
  all_goals
    go_enter Tryd.func53, Tryd.ntmps53
    go_wp2
    go_returns
    exact ⟨rfl, by go_grown⟩

set_option maxRecDepth 100000 in
set_option maxHeartbeats 2000000 in
theorem forms_mid (op : Int) (w : World) (h : op = 2 ∨ op = 5 ∨ op = 6 ∨ op = 7 ∨ op = 8) : Calls Tryd.prog 53 #[.int .u8 op] w (FormsPost op w) := by
  obtain ⟨i0, i1, i2, i3, i4, i5, i6, i7, i8⟩ : _ ∧ _ ∧ _ ∧ _ ∧ _ ∧ _ ∧ _ ∧ _ ∧ _ := ⟨fun W a b c d e f g h i => (idx9 W a b c d e f g h i).1, fun W a b c d e f g h i => (idx9 W a b c d e f g h i).2.1, fun W a b c d e f g h i => (idx9 W a b c d e f g h i).2.2.1, fun W a b c d e f g h i => (idx9 W a b c d e f g h i).2.2.2.1,
    fun W a b c d e f g h i => (idx9 W a b c d e f g h i).2.2.2.2.1, fun W a b c d e f g h i => (idx9 W a b c d e f g h i).2.2.2.2.2.1, fun W a b c d e f g h i => (idx9 W a b c d e f g h i).2.2.2.2.2.2.1, fun W a b c d e f g h i => (idx9 W a b c d e f g h i).2.2.2.2.2.2.2.1, fun W a b c d e f g h i => (idx9 W a b c d e f g h i).2.2.2.2.2.2.2.2⟩
  rcases h with rfl | rfl | rfl | rfl | rfl
  all_goals
    go_enter Tryd.func53, Tryd.ntmps53
    go_wp2
    go_rounds 10
    go_returns
    exact ⟨rfl, by go_grown⟩

set_option maxRecDepth 100000 in
set_option maxHeartbeats 2000000 in
theorem forms_out (op : Int) (w : World) (h : op = 0 ∨ (16 ≤ op ∧ op ≤ 255)) : Calls Tryd.prog 53 #[.int .u8 op] w (FormsPost op w) := by
  obtain ⟨i0, i1, i2, i3, i4, i5, i6, i7, i8⟩ : _ ∧ _ ∧ _ ∧ _ ∧ _ ∧ _ ∧ _ ∧ _ ∧ _ := ⟨fun W a b c d e f g h i => (idx9 W a b c d e f g h i).1, fun W a b c d e f g h i => (idx9 W a b c d e f g h i).2.1, fun W a b c d e f g h i => (idx9 W a b c d e f g h i).2.2.1, fun W a b c d e f g h i => (idx9 W a b c d e f g h i).2.2.2.1,
    fun W a b c d e f g h i => (idx9 W a b c d e f g h i).2.2.2.2.1, fun W a b c d e f g h i => (idx9 W a b c d e f g h i).2.2.2.2.2.1, fun W a b c d e f g h i => (idx9 W a b c d e f g h i).2.2.2.2.2.2.1, fun W a b c d e f g h i => (idx9 W a b c d e f g h i).2.2.2.2.2.2.2.1, fun W a b c d e f g h i => (idx9 W a b c d e f g h i).2.2.2.2.2.2.2.2⟩
  rcases h with rfl | ⟨h1, h2⟩
  · go_enter Tryd.func53, Tryd.ntmps53
    go_wp2
    go_rounds 10
    go_returns
    exact ⟨rfl, by go_grown⟩
  · have e : nm op = [] ∧ nv op = 0 ∧ nc op = 0 := by
      unfold nm nv nc
      refine ⟨?_, ?_, ?_⟩ <;> repeat (first | rfl | rw [if_neg (by omega)])
    go_enter Tryd.func53, Tryd.ntmps53
    go_wp2
    go_rounds 10
    go_returns
    exact ⟨by rw [e.1, e.2.1, e.2.2], by go_grown⟩

theorem forms_any (op : Int) (w : World) (h0 : 0 ≤ op) (h1 : op ≤ 255) : Calls Tryd.prog 53 #[.int .u8 op] w (FormsPost op w) := by
  by_cases h : op = 2 ∨ op = 5 ∨ op = 6 ∨ op = 7 ∨ op = 8
  · exact forms_mid op w h
  · by_cases h' : op = 0 ∨ (16 ≤ op ∧ op ≤ 255)
    · exact forms_out op w h'
    · exact forms_low op w (by omega)

end Go.Proofs.YtcjblbhmajdmjaaDoor

namespace Go.Proofs.YtcjblbhmajdmjaaDoor
open Go.RowKit

def isQ (op : Int) : Bool := decide (12 ≤ op) && decide (op ≤ 15)
set_option maxHeartbeats 400000 in
theorem quant_any (op : Int) (w : World) : Calls Tryd.prog 50 #[.int .u8 op] w fun e w' => e = .returned (.bool (isQ op)) ∧ w = w' := by
  by_cases h1 : 12 ≤ op
  all_goals
    go_enter Tryd.func50, Tryd.ntmps50
    go_wp2
    go_returns
    exact ⟨by simp [isQ]; omega, rfl⟩

set_option maxRecDepth 100000 in
set_option maxHeartbeats 1000000 in
theorem spare_any (m : Mk) (w : World) (h0 : 0 ≤ m.op) (h1 : m.op ≤ 255) : Calls Tryd.prog 73 #[.agg #[.int .u8 m.op, .int .i64 m.x, .int .i64 m.y, .int .i64 m.a, .int .i64 m.b]] w fun e w' => e = .returned (.bool (spare m)) ∧ Below w.heap.size w w' := by
  have f1 := fld_form1
  rcases nv_cases m.op with hv | hv | hv
  all_goals
    go_enter Tryd.func73, Tryd.ntmps73
    go_wp2_with (go_at_call 53; go_must (refine (forms_any _ _ h0 h1).mono ?_; rintro e w1 ⟨rfl, hb1⟩; obtain ⟨bc1, bc2, bc3, hb2⟩ := after1 hb1; clear hb1))
    all_goals
      go_returns
      refine ⟨ret_bool ?_, hb2.out⟩
      first | (simp [spare, hv]; done) | (simp [spare, hv, *]; done) | (simp [spare, hv]; omega) | (simp [spare, hv, *]; omega)

set_option maxRecDepth 100000 in
set_option maxHeartbeats 1000000 in
theorem within_any (m : Mk) (v : Int) (w : World) (h0 : 0 ≤ m.op) (h1 : m.op ≤ 255) : Calls Tryd.prog 72 #[.agg #[.int .u8 m.op, .int .i64 m.x, .int .i64 m.y, .int .i64 m.a, .int .i64 m.b], .int .i64 v] w fun e w' => e = .returned (.bool (within m v)) ∧ Below w.heap.size w w' := by
  have f1 := fld_form1
  rcases nv_cases m.op with hv | hv | hv
  all_goals
    go_enter Tryd.func72, Tryd.ntmps72
    go_wp2_with (go_at_call 53; go_must (refine (forms_any _ _ h0 h1).mono ?_; rintro e w1 ⟨rfl, hb1⟩; obtain ⟨bc1, bc2, bc3, hb2⟩ := after1 hb1; clear hb1))
    all_goals
      go_returns
      refine ⟨ret_bool ?_, hb2.out⟩
      first | (simp [within, hv]; done) | (simp [within, hv, *]; done) | (simp [within, hv]; omega) | (simp [within, hv, *]; omega)
end Go.Proofs.YtcjblbhmajdmjaaDoor

namespace Go.Proofs.YtcjblbhmajdmjaaDoor
open Go.RowKit

def outc (n : Nat) (l : List Nat) : Array Value := ((l ++ List.replicate (n - l.length) 0).map fun s : Nat => Value.int .i64 s).toArray
theorem outc_get (n : Nat) (l : List Nat) (j : Nat) (h : j < n) (hl : l.length ≤ n) : (outc n l)[j]? = some (.int .i64 (l.getD j 0 : Nat)) := by
  simp only [outc, List.getElem?_toArray, List.getElem?_map]
  by_cases hj : j < l.length
  · rw [List.getElem?_append_left hj, List.getElem?_eq_getElem hj]
    simp [List.getD, List.getElem?_eq_getElem hj]
  · rw [List.getElem?_append_right (by omega), List.getElem?_replicate, if_pos (by omega)]
    simp [List.getD, List.getElem?_eq_none (by omega : l.length ≤ j)]
theorem outc_zero (n : Nat) (l : List Nat) (h : l.length < n) : outc n (l ++ [0]) = outc n l := by
  unfold outc
  obtain ⟨d, hd⟩ : ∃ d, n - l.length = d + 1 := ⟨n - l.length - 1, by omega⟩
  have hd2 : n - (l ++ [0]).length = d := by simp; omega
  rw [hd, hd2, List.replicate_succ, List.append_assoc]
  rfl
theorem outc_set (n : Nat) (l : List Nat) (v : Nat) (h : l.length < n) : (outc n l).setIfInBounds l.length (.int .i64 v) = outc n (l ++ [v]) := by
  unfold outc
  obtain ⟨d, hd⟩ : ∃ d, n - l.length = d + 1 := ⟨n - l.length - 1, by omega⟩
  have hd2 : n - (l ++ [v]).length = d := by simp; omega
  rw [hd, hd2, List.replicate_succ, List.append_assoc]
  simp only [List.map_append, List.map_cons, List.setIfInBounds_toArray]
  rw [List.set_append_right _ _ (by simp)]
  simp
theorem outc_made (n : Nat) : madeCells #[.int .i64 0] n = outc n [] := by
  apply Array.ext'
  rw [toList_madeCells_one]
  simp [outc]

set_option maxRecDepth 100000 in
set_option maxHeartbeats 2000000 in
theorem sizes_any (f : List Mk) (v : Value) (w : World) (hv : MS w v f) (hn2 : f.length ≤ 100) :
    Calls Tryd.prog 71 #[v] w fun e w' => e = .returned (.slice (some ⟨w.heap.size, 0, none⟩) f.length f.length) ∧ Below w.heap.size w w' ∧ Row w' w.heap.size 3 (outc f.length (szs f)) := by
  obtain ⟨hop, A, c, rfl, hc, hc2, hcell⟩ := hv
  have hfd := fld_form2
  obtain ⟨n, hn⟩ : ∃ n, n = f.length := ⟨_, rfl⟩
  rw [← hn] at hn2 hc hcell ⊢
  have H1 := Lib.hid hn; clear hn
  have H2 := Lib.hid hcell; clear hcell
  have H3 := Lib.hid hop; clear hop
  have hmk := fun W => run_make_ints n (by omega) W
  go_enter Tryd.func71, Tryd.ntmps71
  go_wp2
  go_loopg [14] n (fun gk v wr => ∃ k : Nat, k ≤ n ∧ gk = n - k ∧ v = .int .i64 k ∧ Below w.heap.size w wr ∧ Row wr w.heap.size 3 (outc n (szs (f.take k))))
  case atStart =>
    exact ⟨0, Nat.zero_le _, rfl, rfl, by go_grown, by rw [outc_made]; exact Row.new w _ _⟩
  case round =>
    obtain ⟨k, hk, rfl, rfl, hbe, hout⟩ := hrel
    by_cases hlt : k < n
    · obtain ⟨m, hm⟩ : ∃ m, f[k]? = some m := ⟨f[k]'(by rw [← H1.out]; exact hlt), List.getElem?_eq_getElem _⟩
      obtain ⟨b, o, rfl, hb, hcell⟩ := H2.out (by omega)
      obtain ⟨c0, c1, c2, c3, c4⟩ := hcell k m hm
      clear hcell
      obtain ⟨m1, m2⟩ := H3.out m (List.mem_of_getElem? hm)
      rw [← hbe.cell (p := ⟨b, _, none⟩) hb] at c0 c1 c2 c3 c4
      have hz : w.heap.size < wr.heap.size := hout.lt
      have hb' : b < wr.heap.size := by omega
      have hsl : (szs (f.take k)).length = k := by rw [szs_len, List.length_take, ← H1.out]; omega
      have hsz := szs_le (f.take k)
      have hst := szs_take f k m hm
      have HSL := Lib.hid hsl; clear hsl
      have HSZ := Lib.hid hsz; clear hsz
      have HST := Lib.hid hst; clear hst
      have HB := Lib.hid hbe; clear hbe
      have HO := Lib.hid hout; clear hout
      have HM := Lib.hid hm; clear hm
      go_wp2_with (go_at_call 53; go_must (refine (forms_any _ _ m1 m2).mono ?_; rintro e w1 ⟨rfl, hb1⟩; have hb2 := hb1; obtain ⟨x0, x1, y0, y1, hz1, HB1⟩ := after2 hb1; clear hb1))
      have X := Lib.hid ((Row.alloc (Row.new wr _ _) _).below hb2 (by simp only [World.size_alloc]; omega))
      have Y := ((Row.new _ _ _).below hb2 (by simp only [World.size_alloc]; omega))
      simp only [World.size_alloc] at Y
      have Y := Lib.hid Y
      have Z := ((Row.alloc (Row.alloc HO.out _) _).below hb2 (by simp only [World.size_alloc]; omega))
      have HW : Hid (Below w.heap.size w w1) := HB.out.trans (HB1.out.mono (by omega))
      clear hb2 c0 c1 c2 c3 c4
      have o1 := Z.free
      have o0 : ∀ j, j < n → w1.cell? ⟨w.heap.size, j, none⟩ = some (.int .i64 ((szs (f.take k)).getD j 0 : Nat)) := fun j hj => (Z.cell j).trans (outc_get _ _ _ hj (by rw [HSL.out]; omega))
      have Z := Lib.hid Z
      have HN := Lib.hid (nc_cases m.op)
      generalize szs (f.take k) = L at *
      have O0 := Lib.hid o0; clear o0
      have ok := O0.out k hlt
      have hs1 := HSZ.out (k - 1)
      have hs2 := HSZ.out (k - L.getD (k - 1) 0 - 1)
      generalize e1 : L.getD (k - 1) 0 = s1 at *
      generalize e2 : L.getD (k - s1 - 1) 0 = s2 at *
      have E1 := Lib.hid e1; clear e1
      have E2 := Lib.hid e2; clear e2
      have D0 : Hid (blk L m = 0 → ∀ w2, Row w2 w.heap.size 3 (outc n L) → Row w2 w.heap.size 3 (outc n (szs (f.take (k + 1))))) := fun hb w2 hr => by
        rw [HST.out, hb, outc_zero _ _ (by rw [HSL.out]; exact hlt)]; exact hr
      have DV : Hid (∀ (v : Nat) (V : Int) (w2 : World), V = v → blk L m = v → Row w2 w.heap.size 3 (outc n L) → Row (w2.setCell ⟨w.heap.size, k, none⟩ (.int .i64 V)) w.heap.size 3 (outc n (szs (f.take (k + 1))))) := by
        rintro v V w2 rfl hb hr
        have h := hr.set k (.int .i64 (v : Int))
        have e := outc_set n L v (by rw [HSL.out]; exact hlt)
        rw [HSL.out] at e
        rw [e] at h
        rw [HST.out, hb]; exact h
      have hzz := hz
      by_cases hk0 : k = 0
      · have hk1 : ((k : Int) == 0) = true := by simp [hk0]
        have HK := Lib.hid hk0; clear hk0
        rcases HN.out with hnc | hnc | hnc
        · rw [hnc]; have HN := Lib.hid hnc; clear hnc
          go_rounds 1
          · go_roundg (n - (k + 1))
            case rel => exact ⟨k + 1, by omega, rfl, by go_num, HW.out.setCell (by simp) _, DV.out 1 1 _ rfl (by simp [blk, HN.out, *]) Z.out⟩
            case measure => omega
          all_goals
            go_roundg (n - (k + 1))
            case rel => exact ⟨k + 1, by omega, rfl, by go_num, HW.out, D0.out (by simp [blk, HN.out, *]) _ Z.out⟩
            case measure => omega
        all_goals
          rw [hnc]; have HN := Lib.hid hnc; clear hnc
          go_rounds 1
          go_roundg (n - (k + 1))
          case rel => exact ⟨k + 1, by omega, rfl, by go_num, HW.out, D0.out (by simp [blk, HN.out, HSL.out, HK.out]) _ Z.out⟩
          case measure => omega
      · have hk1 : ((k : Int) == 0) = false := by simp [hk0]
        have hk2 : 1 ≤ k := by omega
        have HK := Lib.hid hk0; clear hk0
        have ok1 := O0.out (k - 1) (by omega)
        rw [E1.out] at ok1
        rcases HN.out with hnc | hnc | hnc
        · rw [hnc]; have HN := Lib.hid hnc; clear hnc
          go_rounds 1
          · go_roundg (n - (k + 1))
            case rel => exact ⟨k + 1, by omega, rfl, by go_num, HW.out.setCell (by simp) _, DV.out 1 1 _ rfl (by simp [blk, HN.out, *]) Z.out⟩
            case measure => omega
          all_goals
            go_roundg (n - (k + 1))
            case rel => exact ⟨k + 1, by omega, rfl, by go_num, HW.out, D0.out (by simp [blk, HN.out, *]) _ Z.out⟩
            case measure => omega
        all_goals
          rw [hnc]; have HN := Lib.hid hnc; clear hnc
          by_cases hs0 : s1 = 0
          · have hs0' : ((s1 : Int) == 0) = true := by simp [hs0]
            have HS0 := Lib.hid hs0; clear hs0
            go_rounds 1
            go_roundg (n - (k + 1))
            case rel => exact ⟨k + 1, by omega, rfl, by go_num, HW.out, D0.out (by simp only [blk, HSL.out]; rw [E1.out, HN.out]; simp [HK.out, HS0.out]) _ Z.out⟩
            case measure => omega
          have hs0' : ((s1 : Int) == 0) = false := by simp [hs0]
          have hs3 : 1 ≤ s1 := by omega
          have HS0 := Lib.hid hs0; clear hs0
        · go_rounds 2
          · go_roundg (n - (k + 1))
            case rel => exact ⟨k + 1, by omega, rfl, by go_num, ((HW.out.setCell (by simp; omega) _).setCell (by simp; omega) _).setCell (by simp) _, DV.out (1 + s1) _ _ (by omega) (by simp only [blk, HSL.out]; rw [E1.out, HN.out]; first | (simp [HK.out, HS0.out, *]; done) | (simp [HK.out, HS0.out, *]; omega)) ((Z.out.far (by simp; omega) _).far (by simp; omega) _)⟩
            case measure => omega
          all_goals
            go_roundg (n - (k + 1))
            case rel => exact ⟨k + 1, by omega, rfl, by go_num, ((HW.out.setCell (by simp; omega) _).setCell (by simp; omega) _), D0.out (by simp only [blk, HSL.out]; rw [E1.out, HN.out]; first | (simp [HK.out, HS0.out, *]; done) | (simp [HK.out, HS0.out]; omega)) _ ((Z.out.far (by simp; omega) _).far (by simp; omega) _)⟩
            case measure => omega
        · by_cases hs4 : k - s1 = 0
          · have hs4' : ((k : Int) - (s1 : Int) == 0) = true := by rw [beq_iff_eq]; omega
            have HS4 := Lib.hid hs4; clear hs4
            go_rounds 2
            go_roundg (n - (k + 1))
            case rel => exact ⟨k + 1, by omega, rfl, by go_num, ((HW.out.setCell (by simp; omega) _).setCell (by simp; omega) _), D0.out (by simp only [blk, HSL.out]; rw [E1.out, HN.out]; simp [HK.out, HS0.out, HS4.out]) _ ((Z.out.far (by simp; omega) _).far (by simp; omega) _)⟩
            case measure => omega
          have hs4' : ((k : Int) - (s1 : Int) == 0) = false := by rw [beq_eq_false_iff_ne]; omega
          have hs5 : 1 ≤ k - s1 := by omega
          have HS4 := Lib.hid hs4; clear hs4
          have ok2 := O0.out (k - s1 - 1) (by omega)
          rw [E2.out] at ok2
          by_cases hs6 : s2 = 0
          · have hs6' : ((s2 : Int) == 0) = true := by simp [hs6]
            have HS6 := Lib.hid hs6; clear hs6
            go_rounds 2
            go_roundg (n - (k + 1))
            case rel => exact ⟨k + 1, by omega, rfl, by go_num, ((HW.out.setCell (by simp; omega) _).setCell (by simp; omega) _), D0.out (by simp only [blk, HSL.out]; rw [E1.out, HN.out, E2.out]; simp [HK.out, HS0.out, HS4.out, HS6.out]) _ ((Z.out.far (by simp; omega) _).far (by simp; omega) _)⟩
            case measure => omega
          have hs6' : ((s2 : Int) == 0) = false := by simp [hs6]
          have HS6 := Lib.hid hs6; clear hs6
          refine wp_loop_rounds 3 ?_
          rw [rounds_succ]
          go_wp2
          rw [rounds_succ]
          go_wp2
          refine rounds_abs (fun W => Row W wr.heap.size 23 #[.int .u8 m.op, .int .i64 m.x, .int .i64 m.y, .int .i64 m.a, .int .i64 m.b] ∧ Row W (wr.heap.size + 1) 23 #[.int .u8 m.op, .int .i64 m.x, .int .i64 m.y, .int .i64 ((k : Int) - s1 - 1), .int .i64 ((k : Int) - 1)] ∧ Row W w.heap.size 3 (outc n L) ∧ Below w.heap.size w W) ?_ ?_
          · refine ⟨(((X.out.far (by simp) _).far (by simp) _).far (by simp) _).far (by simp) _, (((Y.out.set 3 _).set 4 _).set 3 _).set 4 _, (((Z.out.far (by simp; omega) _).far (by simp; omega) _).far (by simp; omega) _).far (by simp; omega) _, (((HW.out.setCell (by simp; omega) _).setCell (by simp; omega) _).setCell (by simp; omega) _).setCell (by simp; omega) _⟩
          rintro w2 ⟨X2, Y2, Z2, HW2⟩
          clear x0 x1 y0 y1 o1 ok ok1 ok2 hz1
          have x0 := X2.cell; have y0 := Y2.cell; have o0 := Z2.cell; have o1 := Z2.free
          have ok := (o0 k).trans (outc_get _ _ _ hlt (by rw [HSL.out]; omega))
          have HO2 := Lib.hid o0; clear o0
          have X2 := Lib.hid X2; have Y2 := Lib.hid Y2; have Z2 := Lib.hid Z2; have HW2 := Lib.hid HW2
          rw [rounds_succ]
          go_wp2
          · go_roundg (n - (k + 1))
            case rel => exact ⟨k + 1, by omega, rfl, by go_num, HW2.out.setCell (by simp) _, DV.out (1 + s1 + s2) _ _ (by omega) (by simp only [blk, HSL.out]; rw [E1.out, HN.out, E2.out]; simp [HK.out, HS0.out, HS4.out, HS6.out, *]; omega) Z2.out⟩
            case measure => omega
          all_goals
            go_roundg (n - (k + 1))
            case rel => exact ⟨k + 1, by omega, rfl, by go_num, HW2.out, D0.out (by simp only [blk, HSL.out]; rw [E1.out, HN.out, E2.out]; simp [HK.out, HS0.out, HS4.out, HS6.out]; omega) _ Z2.out⟩
            case measure => omega
    · go_wp2
      go_returns
      have : k = n := by omega
      subst this
      rw [List.take_of_length_le (by rw [← H1.out]; omega)] at hout
      exact ⟨rfl, hbe, hout⟩
end Go.Proofs.YtcjblbhmajdmjaaDoor
