/- OverMSO and OverSet turn nothing but the row that they are given. -/
/- MsoMatches: for every formula, operator and pair of numbers the law returns true. -/
import Derived.Test.YtcjblbhmajdmjaaDoorKit
import Derived.Test.YtcjblbhmajdmjaaDoorKeep
import Derived.Test.YtcjblbhmajdmjaaDoorRefJ
import Derived.Test.YtcjblbhmajdmjaaDoorRefL
import Derived.Test.YtcjblbhmajdmjaaDoorRow
import Derived.Deep.RegionHeld3
set_option linter.unusedSimpArgs false
set_option linter.unusedVariables false
namespace Go.Proofs.YtcjblbhmajdmjaaDoor
open Go.RowKit

set_option maxRecDepth 100000 in
set_option maxHeartbeats 1000000 in
theorem over_mk (f : List Mk) (v : Value) (B : Nat) (w : World) (hv : MO w B v f) :
    Calls Tryd.prog 25 #[v] w fun e w' => e = .returned (.tuple #[]) ∧ Keep (fun b => v.ownBlock = some b) w w' := by
  have hbd := agg99
  obtain ⟨n, hn⟩ : ∃ n, n = f.length := ⟨_, rfl⟩
  have hv2 := hv.2
  rw [← hn] at hv2
  clear hv hn
  by_cases h0 : n = 0
  · subst h0
    obtain ⟨A, c, rfl⟩ := over_nil_shape hv2
    clear hv2
    go_enter Tryd.func25, Tryd.ntmps25
    go_wp2
    go_rounds 1
    refine bodyPost_end (results_none rfl _ _ _) rfl ?_
    exact ⟨rfl, Keep.refl _ _⟩
  · obtain ⟨g, cap, cs, rfl, hBg, hr, hsz, hnm⟩ := own_row hv2 (by omega)
    clear hv2
    have HR0 := Lib.hid hr; clear hr
    have hS : (Value.slice (some ⟨g, 0, none⟩) n cap).ownBlock = some g := rfl
    rw [hS]
    clear hS
    go_enter Tryd.func25, Tryd.ntmps25
    go_wp2
    go_loopg [2] n (fun gk q wr => ∃ (k : Nat) (cs' : Array Value), k ≤ n ∧ gk = n - k ∧ q = .int .i64 k ∧ Keep (fun b => some g = some b) w wr ∧ Row wr g 23 cs' ∧ n * 5 ≤ cs'.size)
    case atStart => exact ⟨0, cs, Nat.zero_le _, rfl, rfl, Keep.refl _ _, HR0.out, hsz⟩
    case round =>
      obtain ⟨k, cs', hk, rfl, rfl, hb, hr, hs⟩ := hrel
      have HB := Lib.hid hb; clear hb
      by_cases hlt : k < n
      · obtain ⟨u0, c0⟩ := row_some hr (i := k * 5) (by omega)
        obtain ⟨u1, c1⟩ := row_some hr (i := k * 5 + 1) (by omega)
        obtain ⟨u2, c2⟩ := row_some hr (i := k * 5 + 2) (by omega)
        obtain ⟨u3, c3⟩ := row_some hr (i := k * 5 + 3) (by omega)
        obtain ⟨u4, c4⟩ := row_some hr (i := k * 5 + 4) (by omega)
        have fr := hr.free
        have HR := Lib.hid hr; clear hr
        go_wp2
        go_roundg (n - (k + 1))
        case rel => exact ⟨k + 1, _, by omega, rfl, by go_num, ((((HB.out.set (p := ⟨g, _, none⟩) (.inl rfl) _).set (p := ⟨g, _, none⟩) (.inl rfl) _).set (p := ⟨g, _, none⟩) (.inl rfl) _).set (p := ⟨g, _, none⟩) (.inl rfl) _).set (p := ⟨g, _, none⟩) (.inl rfl) _, ((((HR.out.set _ _).set _ _).set _ _).set _ _).set _ _, by simpa using hs⟩
        case measure => omega
      · go_wp2
        refine bodyPost_end (results_none rfl _ _ _) rfl ?_
        exact ⟨rfl, HB.out⟩

set_option maxRecDepth 100000 in
set_option maxHeartbeats 1000000 in
theorem over_sk (f : List Nat) (v : Value) (B : Nat) (w : World) (hv : WS w B v f) :
    Calls Tryd.prog 24 #[v] w fun e w' => e = .returned (.tuple #[]) ∧ Keep (fun b => v.ownBlock = some b) w w' := by
  obtain ⟨n, hn⟩ : ∃ n, n = f.length := ⟨_, rfl⟩
  have hv2 : w.ownsRow B 63 1 v f.length (f.map fun s : Nat => Value.int .u64 s) := hv
  rw [← hn] at hv2
  clear hv hn
  by_cases h0 : n = 0
  · subst h0
    obtain ⟨A, c, rfl⟩ := over_nil_shape hv2
    clear hv2
    go_enter Tryd.func24, Tryd.ntmps24
    go_wp2
    go_rounds 1
    refine bodyPost_end (results_none rfl _ _ _) rfl ?_
    exact ⟨rfl, Keep.refl _ _⟩
  · obtain ⟨g, cap, cs, rfl, hBg, hr, hsz, hnm⟩ := own_row hv2 (by omega)
    clear hv2
    have HR0 := Lib.hid hr; clear hr
    have hS : (Value.slice (some ⟨g, 0, none⟩) n cap).ownBlock = some g := rfl
    rw [hS]
    clear hS
    go_enter Tryd.func24, Tryd.ntmps24
    go_wp2
    go_loopg [2] n (fun gk q wr => ∃ (k : Nat) (cs' : Array Value), k ≤ n ∧ gk = n - k ∧ q = .int .i64 k ∧ Keep (fun b => some g = some b) w wr ∧ Row wr g 63 cs' ∧ n * 1 ≤ cs'.size)
    case atStart => exact ⟨0, cs, Nat.zero_le _, rfl, rfl, Keep.refl _ _, HR0.out, hsz⟩
    case round =>
      obtain ⟨k, cs', hk, rfl, rfl, hb, hr, hs⟩ := hrel
      have HB := Lib.hid hb; clear hb
      by_cases hlt : k < n
      · obtain ⟨u0, c0⟩ := row_some hr (i := k) (by omega)
        have fr := hr.free
        have HR := Lib.hid hr; clear hr
        go_wp2
        go_roundg (n - (k + 1))
        case rel => exact ⟨k + 1, _, by omega, rfl, by go_num, HB.out.set (p := ⟨g, _, none⟩) (.inl rfl) _, HR.out.set _ _, by simpa using hs⟩
        case measure => omega
      · go_wp2
        refine bodyPost_end (results_none rfl _ _ _) rfl ?_
        exact ⟨rfl, HB.out⟩

theorem equal_mk (f : List Mk) (hl : f.length ≤ 1000000) : ∀ W u x, MS W u f → MS W x f → Calls Tryd.prog 23 #[u, x] W fun e w' => e = .returned (.bool true) ∧ Below W.heap.size W w' := fun W u x h1 h2 => by
  have q := equalMSO f f u x W h1 h2 hl
  rw [decide_eq_true (rfl : f = f)] at q
  exact q
theorem MO.kept {S : Nat → Prop} {w w' : World} {B : Nat} {v : Value} {f : List Mk} (h : MO w B v f) (hk : Keep S w w') (hs : ∀ b, v.ownBlock = some b → ¬ S b) : MO w' B v f := by
  obtain ⟨h0, h1, h2⟩ := h
  refine ⟨h0, h1, ?_⟩
  rcases h2 with h2 | ⟨g, cap, cur, hv, hB, hg, r⟩
  · exact .inl h2
  · exact .inr ⟨g, cap, cur, hv, hB, (hk.block g (lt_of_block hg) (hs g (by rw [hv]; rfl))).trans hg, r⟩
theorem MO.within {w : World} {B : Nat} {v : Value} {f : List Mk} (h : MO w B v f) : ∀ b, v.ownBlock = some b → B ≤ b ∧ b < w.heap.size := World.ownsRow.lt h.2
theorem WS.within {w : World} {B : Nat} {v : Value} {l : List Nat} (h : WS w B v l) : ∀ b, v.ownBlock = some b → B ≤ b ∧ b < w.heap.size := World.ownsRow.lt h
theorem Keep.under {S : Nat → Prop} {a b : World} (h : Keep S a b) {B : Nat} (hB : B ≤ a.heap.size) (hS : ∀ k, S k → B ≤ k) : Below B a b := h.below hB fun k hk hs => by have := hS k hs; omega
end Go.Proofs.YtcjblbhmajdmjaaDoor

namespace Go.Proofs.YtcjblbhmajdmjaaDoor
open Go.RowKit

theorem cells_two : Tryd.prog.cellsOf 29 = 2 := by kernel_rfl
set_option maxRecDepth 100000 in
/-- An argument that is a pair of numbers, opened. -/
theorem open_two {H : Type} {enc : TypeId × Value → H} {W : World} {d : DataW H} {p : List MemPlace} {v : Value} (h : DataW.Trod enc Tryd.prog W 0 (fun _ => true) true 29 v d p) (hval : Value.okWide Tryd.prog W .any 0 29 v) : ∃ a b : Int, v = .agg #[.int .i64 a, .int .i64 b] := by
  obtain ⟨cs, rfl, hsz, _⟩ : ∃ cs, v = .agg cs ∧ cs.size = Tryd.prog.cellsOf 29 ∧ Row.okWide Tryd.prog W .any 0 29 cs := by
    simpa [Value.okWide, Tryd.underlying29] using hval
  rw [cells_two] at hsz
  obtain ⟨l⟩ := cs
  have hl : l.length = 2 := hsz
  match l, hl with
  | [c0, c1], _ =>
    obtain ⟨fuel, hf⟩ := h
    obtain ⟨xs, m, _, _, _, hxl, hx⟩ := DataW.trod_array Tryd.underlying29 hf
    have g0 := hx 0 (by omega)
    have g1 := hx 1 (by omega)
    rw [cells_int, List.getElem?_eq_getElem (by omega)] at g0 g1
    obtain ⟨i0, e0, _, _⟩ := DataW.trod_int Tryd.underlying3 g0
    obtain ⟨i1, e1, _, _⟩ := DataW.trod_int Tryd.underlying3 g1
    have e0' : c0 = .int .i64 i0 := by simpa [Value.cells] using e0
    have e1' : c1 = .int .i64 i1 := by simpa [Value.cells] using e1
    exact ⟨i0, i1, by rw [e0', e1']⟩
theorem wrapS_len (f : List Mk) (m : Mk) (hf : f.length ≤ 70) : (wrapS f m).1.length ≤ 1000000 := by
  unfold wrapS
  split
  · split
    · simp
    · simp only [List.length_append, List.length_singleton]; omega
  · simp
theorem bindS_len (op x : Int) (f : List Mk) (hf : f.length ≤ 70) : (bindS op x f).1.length ≤ 1000000 := by
  unfold bindS
  split
  · simp
  · split
    · simp
    · exact wrapS_len _ _ hf
theorem equalSet_yes (l : List Nat) (hl : l.length ≤ 1000000) : ∀ W u x, US W u l → US W x l → Calls Tryd.prog 21 #[u, x] W fun e w' => e = .returned (.bool true) ∧ Below W.heap.size W w' := fun W u x h1 h2 => by
  have q := equalSet l l u x W h1 h2 hl
  rw [decide_eq_true (rfl : l = l)] at q
  exact q

/-- Four results of calls made one after the other, each in a block of its own. -/
structure Four (w0 : World) (vs va vc vx : Value) (l : List Nat) (r1 r2 r3 : List Mk) (W : World) : Prop where
  s : WS W w0.heap.size vs l
  a : MO W w0.heap.size va r1
  c : MO W w0.heap.size vc r2
  x : MO W w0.heap.size vx r3
  sa : ∀ b, va.ownBlock = some b → ¬ vs.ownBlock = some b
  sc : ∀ b, vc.ownBlock = some b → ¬ vs.ownBlock = some b
  sx : ∀ b, vx.ownBlock = some b → ¬ vs.ownBlock = some b
  ac : ∀ b, vc.ownBlock = some b → ¬ va.ownBlock = some b
  ax : ∀ b, vx.ownBlock = some b → ¬ va.ownBlock = some b
  cx : ∀ b, vx.ownBlock = some b → ¬ vc.ownBlock = some b
theorem Four.below {w0 W W' : World} {vs va vc vx : Value} {l : List Nat} {r1 r2 r3 : List Mk} (h : Four w0 vs va vc vx l r1 r2 r3 W) (hb : Below W.heap.size W W') : Four w0 vs va vc vx l r1 r2 r3 W' :=
  ⟨h.s.below hb (Nat.le_refl _), h.a.below hb (Nat.le_refl _), h.c.below hb (Nat.le_refl _), h.x.below hb (Nat.le_refl _), h.sa, h.sc, h.sx, h.ac, h.ax, h.cx⟩

set_option maxRecDepth 100000 in
set_option maxHeartbeats 8000000 in
theorem mat_any (f : List Mk) (op x y : Int) (v : Value) (w : World) (hv : MS w v f) (h0 : 0 ≤ op) (h1 : op ≤ 255) :
    Calls Tryd.prog 5 #[v, .int .u8 op, .agg #[.int .i64 x, .int .i64 y]] w fun e w' => e = .returned (.bool true) ∧ Below w.heap.size w w' := by
  have hff := fun W (hb : Below w.heap.size w W) => few_any f v W (hv.below hb (Nat.le_refl _))
  have hlf : (f.take 70).length ≤ 70 := by rw [List.length_take]; omega
  generalize f.take 70 = F at *
  have hck := fun W u (tr : Bool) (h : MS W u F) => Check_any F u x tr W h
  have hrck := fun W u (tr : Bool) (h : MS W u F) => RCheck_any F u x tr W h
  generalize checkS F x = ck at *
  have hnot := fun W u (h : MS W u F) => Not_any F u W h
  have hrnot := fun W u (h : MS W u F) => RNot_any F u W h
  have hl1 := wrapS_len F ⟨9, 0, 0, 0, 0⟩ hlf
  generalize (wrapS F ⟨9, 0, 0, 0, 0⟩).1 = r1 at *
  generalize (wrapS F ⟨9, 0, 0, 0, 0⟩).2 = e1 at *
  have hbind := fun W u (h : MS W u F) => Bind_any op x F u W h h0 h1
  have hrbind := fun W u (h : MS W u F) => RBind_any op x F u W h h0 h1
  have hl2 := bindS_len op x F hlf
  generalize (bindS op x F).1 = r2 at *
  generalize (bindS op x F).2 = e2 at *
  obtain ⟨r3, e3, hl3, hsub, hrsub⟩ := sub_pair F x y
  obtain ⟨l, hll, hfree, hrfree⟩ := free_pair F
  have HFF := Lib.hid hff; have HCK := Lib.hid hck; have HRCK := Lib.hid hrck; have HNOT := Lib.hid hnot; have HRNOT := Lib.hid hrnot; have HBI := Lib.hid hbind; have HRBI := Lib.hid hrbind
  have HSU := Lib.hid hsub; have HRSU := Lib.hid hrsub; have HFR := Lib.hid hfree; have HRFR := Lib.hid hrfree
  have HE1 := Lib.hid (equal_mk r1 hl1); have HE2 := Lib.hid (equal_mk r2 hl2); have HE3 := Lib.hid (equal_mk r3 (by omega)); have HEF := Lib.hid (equal_mk F (by omega)); have HES := Lib.hid (equalSet_yes l (by omega))
  clear hff hck hrck hnot hrnot hbind hrbind hsub hrsub hfree hrfree hl1 hl2 hl3 hll hlf
  obtain ⟨_, A, c, rfl, _⟩ := hv
  go_enter Tryd.func5, Tryd.ntmps5
  have HN0 := Lib.hid (Row.new w 29 #[.int .i64 x, .int .i64 y])
  have HB0 : Hid (Below w.heap.size w (w.alloc (.cells #[.int .i64 x, .int .i64 y] 29))) := Below.alloc (Below.refl _ _) (Nat.le_refl _) _
  go_wp2_with (go_at_call 11; go_must ((with_reducible refine (HFF.out _ HB0.out).mono ?_); rintro e w1 ⟨va, rfl, hb, ho⟩; have H7 := Lib.hid ho.ms; have HN := Lib.hid (HN0.out.below hb HN0.out.lt); have HB := Lib.hid (HB0.out.trans (hb.mono HB0.out.size)); clear hb ho))
  clear HN0 HB0
  go_loopg [8] 2 (fun gk q wr => ∃ j : Nat, j ≤ 2 ∧ gk = 2 - j ∧ q = .int .i64 j ∧ Below w.heap.size w wr ∧ MS wr va F ∧ Row wr w.heap.size 29 #[.int .i64 x, .int .i64 y])
  case atStart => exact ⟨0, by omega, rfl, rfl, HB.out, H7.out, HN.out⟩
  case round =>
    obtain ⟨j, hj, rfl, rfl, hb, h7, hn⟩ := hrel
    clear H7 HN HB
    have HBW := Lib.hid hb; have H7 := Lib.hid h7; have HN := Lib.hid hn
    have rn := hn.cell; have rl := hn.lt
    clear hb h7 hn
    by_cases hlt : j < 2
    · go_upto_region 5 with (fail)
      first
      | go_region_held3 (fun W => W.cell? ⟨w.heap.size, 0, none⟩ = some (.int .i64 x)) (first | exact rn3 0 | exact rn2 0 | exact rn 0) (first
        | (go_at_call 12; refine (HCK.out _ _ _ (by exact H7.out)).mono ?_; rintro e w2 ⟨rfl, hb2⟩; have HB2 : Hid (Below wr.heap.size wr w2) := (⟨hb2.os, hb2.tape, hb2.output, hb2.size, hb2.block⟩ : Below wr.heap.size wr w2); have HN2 := Lib.hid (HN.out.below HB2.out HN.out.lt); have rn2 := HN2.out.cell; have H72 := Lib.hid (H7.out.below HB2.out (Nat.le_refl _)); clear hb2)
        | (go_at_call 13; refine (HRCK.out _ _ _ (by exact H72.out)).mono ?_; rintro e w3 ⟨rfl, hb3⟩; have HB3 : Hid (Below wr.heap.size wr w3) := HB2.out.trans (hb3.mono HB2.out.size); have HN3 := Lib.hid (HN2.out.below hb3 HN2.out.lt); have rn3 := HN3.out.cell; have H73 := Lib.hid (H72.out.below hb3 (Nat.le_refl _)); clear hb3))
      | fail
      go_wp2_with fail
      go_roundg (2 - (j + 1))
      case rel => exact ⟨j + 1, by omega, rfl, by go_num, HBW.out.trans (HB3.out.mono HBW.out.size), H73.out, HN3.out⟩
      case measure => omega
    · go_wp2_with fail
      have HB := Lib.hid HBW.out
      go_loopg [9] 2 (fun gk q wr => ∃ j : Nat, j ≤ 2 ∧ gk = 2 - j ∧ q = .int .i64 j ∧ Below w.heap.size w wr ∧ MS wr va F ∧ Row wr w.heap.size 29 #[.int .i64 x, .int .i64 y])
      case atStart => exact ⟨0, by omega, rfl, rfl, HB.out, H7.out, HN.out⟩
      case round =>
        clear rn rl HBW
        obtain ⟨j, hj, rfl, rfl, hb, h7, hn⟩ := hrel
        clear H7 HN HB
        have HBW := Lib.hid hb; have H7 := Lib.hid h7; have HN := Lib.hid hn
        have rn := hn.cell; have rl := hn.lt
        clear hb h7 hn
        have HBR : Hid (Below wr.heap.size wr wr) := Below.refl _ _
        have H7w := Lib.hid H7.out; have HNw := Lib.hid HN.out
        by_cases hlt : j < 2
        · go_wp2_with (first
            | (go_at_call 14; (with_reducible refine (HFR.out _ _ H7.out).mono ?_); rintro e wvs ⟨vs, rfl, hb, ho⟩; replace H7 := Lib.hid (H7.out.below hb (Nat.le_refl _)); replace HN := Lib.hid (HN.out.below hb HN.out.lt); have HS := Lib.hid (ho.mono HBR.out.size); replace HBR := Lib.hid (HBR.out.trans (hb.mono HBR.out.size)); have rn := HN.out.cell; have rl := HN.out.lt; clear hb ho)
            | (go_at_call 15; (with_reducible refine (HNOT.out _ _ H7.out).mono ?_); rintro e wvA ⟨vA, rfl, hb, ho⟩; have A_vA_vs : Hid (∀ b, vA.ownBlock = some b → ¬ vs.ownBlock = some b) := fun b h1 h2 => (by have h3 := (ho.within b h1).1; have h4 := (HS.out.within b h2).2; omega); replace H7 := Lib.hid (H7.out.below hb (Nat.le_refl _)); replace HN := Lib.hid (HN.out.below hb HN.out.lt); replace HS := Lib.hid (HS.out.below hb (Nat.le_refl _)); have HA := Lib.hid (ho.mono HBR.out.size); replace HBR := Lib.hid (HBR.out.trans (hb.mono HBR.out.size)); have rn := HN.out.cell; have rl := HN.out.lt; clear hb ho)
            | (go_at_call 16; (with_reducible refine (HRNOT.out _ _ H7.out).mono ?_); rintro e wvB ⟨vB, rfl, hb, ho⟩; replace H7 := Lib.hid (H7.out.below hb (Nat.le_refl _)); replace HN := Lib.hid (HN.out.below hb HN.out.lt); replace HS := Lib.hid (HS.out.below hb (Nat.le_refl _)); replace HA := Lib.hid (HA.out.below hb (Nat.le_refl _)); have HBb := Lib.hid ho.ms; replace HBR := Lib.hid (HBR.out.trans (hb.mono HBR.out.size)); have rn := HN.out.cell; have rl := HN.out.lt; clear hb ho)
            | (go_at_call 17; (with_reducible refine (HBI.out _ _ H7.out).mono ?_); rintro e wvC ⟨vC, rfl, hb, ho⟩; have A_vC_vs : Hid (∀ b, vC.ownBlock = some b → ¬ vs.ownBlock = some b) := fun b h1 h2 => (by have h3 := (ho.within b h1).1; have h4 := (HS.out.within b h2).2; omega); have A_vC_vA : Hid (∀ b, vC.ownBlock = some b → ¬ vA.ownBlock = some b) := fun b h1 h2 => (by have h3 := (ho.within b h1).1; have h4 := (HA.out.within b h2).2; omega); replace H7 := Lib.hid (H7.out.below hb (Nat.le_refl _)); replace HN := Lib.hid (HN.out.below hb HN.out.lt); replace HS := Lib.hid (HS.out.below hb (Nat.le_refl _)); replace HA := Lib.hid (HA.out.below hb (Nat.le_refl _)); replace HBb := Lib.hid (HBb.out.below hb (Nat.le_refl _)); have HC := Lib.hid (ho.mono HBR.out.size); replace HBR := Lib.hid (HBR.out.trans (hb.mono HBR.out.size)); have rn := HN.out.cell; have rl := HN.out.lt; clear hb ho)
            | (go_at_call 18; (with_reducible refine (HRBI.out _ _ H7.out).mono ?_); rintro e wvD ⟨vD, rfl, hb, ho⟩; replace H7 := Lib.hid (H7.out.below hb (Nat.le_refl _)); replace HN := Lib.hid (HN.out.below hb HN.out.lt); replace HS := Lib.hid (HS.out.below hb (Nat.le_refl _)); replace HA := Lib.hid (HA.out.below hb (Nat.le_refl _)); replace HBb := Lib.hid (HBb.out.below hb (Nat.le_refl _)); replace HC := Lib.hid (HC.out.below hb (Nat.le_refl _)); have HD := Lib.hid ho.ms; replace HBR := Lib.hid (HBR.out.trans (hb.mono HBR.out.size)); have rn := HN.out.cell; have rl := HN.out.lt; clear hb ho)
            | (go_at_call 19; (with_reducible refine (HSU.out _ _ H7.out).mono ?_); rintro e wvX ⟨vX, rfl, hb, ho⟩; have A_vX_vs : Hid (∀ b, vX.ownBlock = some b → ¬ vs.ownBlock = some b) := fun b h1 h2 => (by have h3 := (ho.within b h1).1; have h4 := (HS.out.within b h2).2; omega); have A_vX_vA : Hid (∀ b, vX.ownBlock = some b → ¬ vA.ownBlock = some b) := fun b h1 h2 => (by have h3 := (ho.within b h1).1; have h4 := (HA.out.within b h2).2; omega); have A_vX_vC : Hid (∀ b, vX.ownBlock = some b → ¬ vC.ownBlock = some b) := fun b h1 h2 => (by have h3 := (ho.within b h1).1; have h4 := (HC.out.within b h2).2; omega); replace H7 := Lib.hid (H7.out.below hb (Nat.le_refl _)); replace HN := Lib.hid (HN.out.below hb HN.out.lt); replace HS := Lib.hid (HS.out.below hb (Nat.le_refl _)); replace HA := Lib.hid (HA.out.below hb (Nat.le_refl _)); replace HBb := Lib.hid (HBb.out.below hb (Nat.le_refl _)); replace HC := Lib.hid (HC.out.below hb (Nat.le_refl _)); replace HD := Lib.hid (HD.out.below hb (Nat.le_refl _)); have HX := Lib.hid (ho.mono HBR.out.size); replace HBR := Lib.hid (HBR.out.trans (hb.mono HBR.out.size)); have rn := HN.out.cell; have rl := HN.out.lt; clear hb ho)
            | (go_at_call 20; (with_reducible refine (HRSU.out _ _ H7.out).mono ?_); rintro e wvY ⟨vY, rfl, hb, ho⟩; replace H7 := Lib.hid (H7.out.below hb (Nat.le_refl _)); replace HN := Lib.hid (HN.out.below hb HN.out.lt); replace HS := Lib.hid (HS.out.below hb (Nat.le_refl _)); replace HA := Lib.hid (HA.out.below hb (Nat.le_refl _)); replace HBb := Lib.hid (HBb.out.below hb (Nat.le_refl _)); replace HC := Lib.hid (HC.out.below hb (Nat.le_refl _)); replace HD := Lib.hid (HD.out.below hb (Nat.le_refl _)); replace HX := Lib.hid (HX.out.below hb (Nat.le_refl _)); have HY := Lib.hid ho.ms; replace HBR := Lib.hid (HBR.out.trans (hb.mono HBR.out.size)); have rn := HN.out.cell; have rl := HN.out.lt; clear hb ho)
            | (go_at_call 22; (with_reducible refine (HRFR.out _ _ H7.out).mono ?_); rintro e wvG ⟨vG, rfl, hb, ho⟩; replace H7 := Lib.hid (H7.out.below hb (Nat.le_refl _)); replace HN := Lib.hid (HN.out.below hb HN.out.lt); replace HS := Lib.hid (HS.out.below hb (Nat.le_refl _)); replace HA := Lib.hid (HA.out.below hb (Nat.le_refl _)); replace HBb := Lib.hid (HBb.out.below hb (Nat.le_refl _)); replace HC := Lib.hid (HC.out.below hb (Nat.le_refl _)); replace HD := Lib.hid (HD.out.below hb (Nat.le_refl _)); replace HX := Lib.hid (HX.out.below hb (Nat.le_refl _)); replace HY := Lib.hid (HY.out.below hb (Nat.le_refl _)); have HG := Lib.hid ho.us; replace HBR := Lib.hid (HBR.out.trans (hb.mono HBR.out.size)); have rn := HN.out.cell; have rl := HN.out.lt; clear hb ho)
            | (go_at_call 21; (with_reducible refine (HES.out _ _ _ HS.out.us HG.out).mono ?_); rintro e wE ⟨rfl, hb⟩; replace H7 := Lib.hid (H7.out.below hb (Nat.le_refl _)); replace HN := Lib.hid (HN.out.below hb HN.out.lt); replace HS := Lib.hid (HS.out.below hb (Nat.le_refl _)); replace HA := Lib.hid (HA.out.below hb (Nat.le_refl _)); replace HBb := Lib.hid (HBb.out.below hb (Nat.le_refl _)); replace HC := Lib.hid (HC.out.below hb (Nat.le_refl _)); replace HD := Lib.hid (HD.out.below hb (Nat.le_refl _)); replace HX := Lib.hid (HX.out.below hb (Nat.le_refl _)); replace HY := Lib.hid (HY.out.below hb (Nat.le_refl _)); replace HG := Lib.hid (HG.out.below hb (Nat.le_refl _)); replace HBR := Lib.hid (HBR.out.trans (hb.mono HBR.out.size)); have rn := HN.out.cell; have rl := HN.out.lt; clear hb)
            | (go_at_call 23; (with_reducible refine (HE1.out _ _ _ HA.out.ms HBb.out).mono ?_); rintro e wE ⟨rfl, hb⟩; replace H7 := Lib.hid (H7.out.below hb (Nat.le_refl _)); replace HN := Lib.hid (HN.out.below hb HN.out.lt); replace HS := Lib.hid (HS.out.below hb (Nat.le_refl _)); replace HA := Lib.hid (HA.out.below hb (Nat.le_refl _)); replace HBb := Lib.hid (HBb.out.below hb (Nat.le_refl _)); replace HC := Lib.hid (HC.out.below hb (Nat.le_refl _)); replace HD := Lib.hid (HD.out.below hb (Nat.le_refl _)); replace HX := Lib.hid (HX.out.below hb (Nat.le_refl _)); replace HY := Lib.hid (HY.out.below hb (Nat.le_refl _)); replace HG := Lib.hid (HG.out.below hb (Nat.le_refl _)); replace HBR := Lib.hid (HBR.out.trans (hb.mono HBR.out.size)); have rn := HN.out.cell; have rl := HN.out.lt; clear hb)
            | (go_at_call 23; (with_reducible refine (HE2.out _ _ _ HC.out.ms HD.out).mono ?_); rintro e wE ⟨rfl, hb⟩; replace H7 := Lib.hid (H7.out.below hb (Nat.le_refl _)); replace HN := Lib.hid (HN.out.below hb HN.out.lt); replace HS := Lib.hid (HS.out.below hb (Nat.le_refl _)); replace HA := Lib.hid (HA.out.below hb (Nat.le_refl _)); replace HBb := Lib.hid (HBb.out.below hb (Nat.le_refl _)); replace HC := Lib.hid (HC.out.below hb (Nat.le_refl _)); replace HD := Lib.hid (HD.out.below hb (Nat.le_refl _)); replace HX := Lib.hid (HX.out.below hb (Nat.le_refl _)); replace HY := Lib.hid (HY.out.below hb (Nat.le_refl _)); replace HG := Lib.hid (HG.out.below hb (Nat.le_refl _)); replace HBR := Lib.hid (HBR.out.trans (hb.mono HBR.out.size)); have rn := HN.out.cell; have rl := HN.out.lt; clear hb)
            | (go_at_call 23; (with_reducible refine (HE3.out _ _ _ HX.out.ms HY.out).mono ?_); rintro e wE ⟨rfl, hb⟩; replace H7 := Lib.hid (H7.out.below hb (Nat.le_refl _)); replace HN := Lib.hid (HN.out.below hb HN.out.lt); replace HS := Lib.hid (HS.out.below hb (Nat.le_refl _)); replace HA := Lib.hid (HA.out.below hb (Nat.le_refl _)); replace HBb := Lib.hid (HBb.out.below hb (Nat.le_refl _)); replace HC := Lib.hid (HC.out.below hb (Nat.le_refl _)); replace HD := Lib.hid (HD.out.below hb (Nat.le_refl _)); replace HX := Lib.hid (HX.out.below hb (Nat.le_refl _)); replace HY := Lib.hid (HY.out.below hb (Nat.le_refl _)); replace HG := Lib.hid (HG.out.below hb (Nat.le_refl _)); replace HBR := Lib.hid (HBR.out.trans (hb.mono HBR.out.size)); have rn := HN.out.cell; have rl := HN.out.lt; clear hb)
            | (go_at_call 11; (with_reducible refine (HFF.out _ (HBW.out.trans (HBR.out.mono HBW.out.size))).mono ?_); rintro e wF ⟨vF, rfl, hb, ho⟩; replace H7 := Lib.hid (H7.out.below hb (Nat.le_refl _)); replace HN := Lib.hid (HN.out.below hb HN.out.lt); replace HS := Lib.hid (HS.out.below hb (Nat.le_refl _)); replace HA := Lib.hid (HA.out.below hb (Nat.le_refl _)); replace HBb := Lib.hid (HBb.out.below hb (Nat.le_refl _)); replace HC := Lib.hid (HC.out.below hb (Nat.le_refl _)); replace HD := Lib.hid (HD.out.below hb (Nat.le_refl _)); replace HX := Lib.hid (HX.out.below hb (Nat.le_refl _)); replace HY := Lib.hid (HY.out.below hb (Nat.le_refl _)); replace HG := Lib.hid (HG.out.below hb (Nat.le_refl _)); have HF2 := Lib.hid ho.ms; replace HBR := Lib.hid (HBR.out.trans (hb.mono HBR.out.size)); have rn := HN.out.cell; have rl := HN.out.lt; clear hb ho)
            | (go_at_call 23; (with_reducible refine (HEF.out _ _ _ H7.out HF2.out).mono ?_); rintro e wE ⟨rfl, hb⟩; replace H7 := Lib.hid (H7.out.below hb (Nat.le_refl _)); replace HN := Lib.hid (HN.out.below hb HN.out.lt); replace HS := Lib.hid (HS.out.below hb (Nat.le_refl _)); replace HA := Lib.hid (HA.out.below hb (Nat.le_refl _)); replace HBb := Lib.hid (HBb.out.below hb (Nat.le_refl _)); replace HC := Lib.hid (HC.out.below hb (Nat.le_refl _)); replace HD := Lib.hid (HD.out.below hb (Nat.le_refl _)); replace HX := Lib.hid (HX.out.below hb (Nat.le_refl _)); replace HY := Lib.hid (HY.out.below hb (Nat.le_refl _)); replace HG := Lib.hid (HG.out.below hb (Nat.le_refl _)); replace HBR := Lib.hid (HBR.out.trans (hb.mono HBR.out.size)); have rn := HN.out.cell; have rl := HN.out.lt; clear hb)
            | (go_at_call 24; (with_reducible refine (over_sk l vs _ _ HS.out).mono ?_); rintro e wO ⟨rfl, hk⟩; replace HA := Lib.hid (HA.out.kept hk A_vA_vs.out); replace HC := Lib.hid (HC.out.kept hk A_vC_vs.out); replace HX := Lib.hid (HX.out.kept hk A_vX_vs.out); replace HBR := Lib.hid (HBR.out.trans (hk.under HBR.out.size fun b hb => (HS.out.within b hb).1)); clear hk)
            | (go_at_call 25; (with_reducible refine (over_mk r1 vA _ _ HA.out).mono ?_); rintro e wO ⟨rfl, hk⟩; replace HC := Lib.hid (HC.out.kept hk A_vC_vA.out); replace HX := Lib.hid (HX.out.kept hk A_vX_vA.out); replace HBR := Lib.hid (HBR.out.trans (hk.under HBR.out.size fun b hb => (HA.out.within b hb).1)); clear hk)
            | (go_at_call 25; (with_reducible refine (over_mk r2 vC _ _ HC.out).mono ?_); rintro e wO ⟨rfl, hk⟩; replace HX := Lib.hid (HX.out.kept hk A_vX_vC.out); replace HBR := Lib.hid (HBR.out.trans (hk.under HBR.out.size fun b hb => (HC.out.within b hb).1)); clear hk)
            | (go_at_call 25; (with_reducible refine (over_mk r3 vX _ _ HX.out).mono ?_); rintro e wO ⟨rfl, hk⟩; replace HBR := Lib.hid (HBR.out.trans (hk.under HBR.out.size fun b hb => (HX.out.within b hb).1)); clear hk))
          go_roundg (2 - (j + 1))
          case rel => exact ⟨j + 1, by omega, rfl, by go_num, HBW.out.trans (HBR.out.mono HBW.out.size), H7w.out.below HBR.out (Nat.le_refl _), HNw.out.below HBR.out HNw.out.lt⟩
          case measure => omega
        · go_wp2_with (go_at_call 10; go_must (refine (awake_any _).mono ?_; rintro e w11 ⟨rfl, hb⟩; replace HBW := Lib.hid (HBW.out.trans (hb.mono HBW.out.size)); clear hb))
          go_returns
          exact ⟨rfl, HBW.out⟩
end Go.Proofs.YtcjblbhmajdmjaaDoor
