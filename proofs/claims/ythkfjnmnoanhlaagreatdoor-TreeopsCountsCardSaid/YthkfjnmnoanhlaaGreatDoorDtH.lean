/- Contract: renumber of the package treedet. -/
/- Contract: Renumber of the package treedet. -/
/- A slice of bytes that []byte(s) made (its row bears a mark behind its end): two bytes appended at a time, and read as a string again. -/
/- Contracts: strconv.FormatBool, and the function note of classes. -/
import Derived.Test.YthkfjnmnoanhlaaGreatDoorDtG
import Derived.Laws.IdiomStrings
import Derived.Laws.BytesArg
import Derived.Test.YthkfjnmnoanhlaaGreatDoorDtP
set_option linter.unusedSimpArgs false
set_option linter.unusedVariables false
namespace Go.Proofs.YthkfjnmnoanhlaaGreatDoor
open Go.RowKit

theorem NM.new {α : Type} [DecidableEq α] {k : TypeId} {lit : α → Lit} {w : World} {b : Nat} (h : b = w.heap.size) : NM k lit (w.alloc (.map #[] 0)) b ([] : List α) := h ▸ NM.made k lit w
/-- Reading an automaton's successors. -/
structure Nx (w : World) (v : Value) (n L : Nat) (f : Nat → Nat → Nat → Nat) (b3 o3 c3 : Nat) : Prop where
  form : v = .slice (some ⟨b3, o3, none⟩) n c3
  cap : n ≤ c3 ∧ c3 ≤ 9223372036854775807
  at3 : ∀ l r x, l < n → r < n → x < L → ∃ b2 o2 c2 b1 o1 c1, b3 < w.heap.size ∧ w.cell? ⟨b3, o3 + l, none⟩ = some (.slice (some ⟨b2, o2, none⟩) n c2) ∧ n ≤ c2 ∧ b2 < w.heap.size ∧ w.cell? ⟨b2, o2 + r, none⟩ = some (.slice (some ⟨b1, o1, none⟩) L c1) ∧ L ≤ c1 ∧
    b1 < w.heap.size ∧ w.cell? ⟨b1, o1 + x, none⟩ = some (.int .i64 (f l r x : Int))
theorem N3.nx {w : World} {v : Value} {n L : Nat} {f : Nat → Nat → Nat → Nat} (h : N3 w v (nx3 n L f)) (hn : 1 ≤ n) (hL : 1 ≤ L) : ∃ b3 o3 c3, Nx w v n L f b3 o3 c3 := by
  obtain ⟨A3, c3, rfl, hA1, hA2, hA⟩ := h.open
  have hlen : (nx3 n L f).length = n := by simp [nx3]
  rw [hlen] at hA1
  obtain ⟨e1, _, _⟩ := nx3_at (f := f) (show 0 < n by omega) (show 0 < n by omega) (show 0 < L by omega)
  obtain ⟨b3, o3, _, hA3, hb3, _⟩ := hA 0 _ e1
  subst hA3
  refine ⟨b3, o3, c3, by rw [hlen], ⟨hA1, hA2⟩, fun l r x hl hr hx => ?_⟩
  obtain ⟨e1, e2, e3⟩ := nx3_at (f := f) hl hr hx
  obtain ⟨b3', o3', u, he, hb3, c0, hN2⟩ := hA l _ e1
  simp only [Option.some.injEq, Addr.mk.injEq, and_true] at he
  obtain ⟨rfl, rfl⟩ := he
  obtain ⟨A2, c2, rfl, hB1, hB2, hB⟩ := hN2.open
  obtain ⟨b2, o2, u, rfl, hb2, d0, hN1⟩ := hB r _ e2
  obtain ⟨A1, c1, rfl, hC1, hC2, hC⟩ := hN1.open
  obtain ⟨b1, o1, rfl, hb1, f0⟩ := hC x _ e3
  simp only [List.length_map, List.length_range] at hB1 hC1 c0 d0
  exact ⟨b2, o2, c2, b1, o1, c1, hb3, c0, hB1, hb2, d0, hC1, hb1, f0⟩

set_option maxRecDepth 100000 in
set_option maxHeartbeats 4000000 in
theorem renumber2 (d : Dta) (V : Nat) (hd : d.Fit V) (w0 wc : World) (gd go gn bm : Nat) (vn vf : Value) (hn : N3 w0 vn (nx3 d.n d.L d.nx)) (hi : RnI w0 gd go gn bm #[.int .i64 (V : Int), .int .i64 (d.e : Int), vn, vf] d.order wc) :
    Cb3R d.order.length d.L d.renum.nx (.pointer (some ⟨gn, 0, none⟩)) (.pointer (some ⟨gd, 0, none⟩)) (.pointer (some ⟨go, 0, none⟩)) wc := by
  intro l r x W hl hr hx hbw
  replace hi := hi.keep hbw
  have h64 := hd.n64
  obtain ⟨b3, o3, c3, hN⟩ := hn.nx hd.pos hd.L8.1
  obtain ⟨a, ha⟩ : ∃ a, d.order[l]? = some a := ⟨d.order[l]'hl, List.getElem?_eq_getElem _⟩
  obtain ⟨b, hb⟩ : ∃ b, d.order[r]? = some b := ⟨d.order[r]'hr, List.getElem?_eq_getElem _⟩
  have hao := (d.order_acc a (List.mem_of_getElem? ha)).lt hd.ok
  have hbo := (d.order_acc b (List.mem_of_getElem? hb)).lt hd.ok
  have hal : d.order.getD l 0 = a := by rw [List.getD_eq_getElem?_getD, ha]; rfl
  have hbl : d.order.getD r 0 = b := by rw [List.getD_eq_getElem?_getD, hb]; rfl
  have hmem : d.nx a b x ∈ d.order := d.order_closed hd.ok a b x (List.mem_of_getElem? ha) (List.mem_of_getElem? hb) hx
  have hres : d.renum.nx l r x = d.order.idxOf (d.nx a b x) := by show d.order.idxOf (d.nx (d.order.getD l 0) (d.order.getD r 0) x) = _; rw [hal, hbl]
  rw [hres]
  obtain ⟨b2, o2, c2, b1, o1, c1, hb3, c0, hB1, hb2, d0, hC1, hb1, f0⟩ := hN.at3 a b x hao hbo hx
  obtain rfl := hN.form
  have hA1 := hN.cap.1
  rw [← hi.below.cell (p := ⟨b3, _, none⟩) hb3] at c0
  rw [← hi.below.cell (p := ⟨b2, _, none⟩) hb2] at d0
  rw [← hi.below.cell (p := ⟨b1, _, none⟩) hb1] at f0
  have hsn := hd.ok.hn a b x hao hbo hx
  obtain ⟨s, hs⟩ : ∃ s, s = d.nx a b x := ⟨_, rfl⟩
  rw [← hs] at f0 hsn hmem ⊢
  obtain ⟨o, ho⟩ : ∃ o, o = d.order := ⟨_, rfl⟩
  rw [← ho] at hi ha hb hmem hl hr ⊢
  obtain ⟨n, hnn⟩ : ∃ n, n = d.n := ⟨_, rfl⟩
  obtain ⟨L, hLL⟩ : ∃ L, L = d.L := ⟨_, rfl⟩
  rw [← hnn] at hA1 hB1 c0 hi hao hbo h64 hsn
  rw [← hLL] at hC1 d0 hx
  have hp : 0 < o.length := by omega
  obtain ⟨ov, h1, h2⟩ := hi.ro
  obtain ⟨g, cap, cs, rfl, hBg, hrow, hcl, hcm, hcell⟩ := VO.row h2 (by rw [iL_len, oI_len]; exact hp)
  rw [iL_len, oI_len] at hcl h1 h2
  have q0 := hcell l _ (iL_at (oI_at ha))
  have q1 := hcell r _ (iL_at (oI_at hb))
  obtain ⟨m, hm⟩ : ∃ m, m = o.length := ⟨_, rfl⟩
  rw [← hm] at hcl h1 h2 hl hr hp
  have z1 := hi.rd.cell; have z2 := hi.rn.cell; have z3 := h1.cell
  have k1 := hi.nm.look keyed_int under_mii s hmem _ (key_int s (by omega))
  have k2 := hi.nm.drew.look keyed_int under_mii s hmem _ (key_int s (by omega))
  clear hi hm h1 h2 hcell ha hb hs hnn hLL hal hbl hres hmem hN hn ho hrow hb1 hb2 hb3
  go_enter Tryz.func121, Tryz.ntmps121
  go_wp2
  first | go_region | fail
  go_wp2
  go_returns
  exact ⟨rfl, by go_grown⟩
set_option maxRecDepth 100000 in
set_option maxHeartbeats 4000000 in
theorem renumber3 (d : Dta) (V : Nat) (hd : d.Fit V) (w0 wc : World) (gd go gn bm : Nat) (vn vf : Value) (hf : NB w0 vf ((List.range d.n).map d.fin)) (hi : RnI w0 gd go gn bm #[.int .i64 (V : Int), .int .i64 (d.e : Int), vn, vf] d.order wc) :
    Cb1R d.order.length d.renum.fin (.pointer (some ⟨gd, 0, none⟩)) (.pointer (some ⟨go, 0, none⟩)) wc := by
  intro l W hl hbw
  replace hi := hi.keep hbw
  have h64 := hd.n64
  obtain ⟨a, ha⟩ : ∃ a, d.order[l]? = some a := ⟨d.order[l]'hl, List.getElem?_eq_getElem _⟩
  have hao := (d.order_acc a (List.mem_of_getElem? ha)).lt hd.ok
  rw [d.renum_fin ha]
  obtain ⟨Af, cf, rfl, hA1, hA2, hA⟩ := hf.open
  simp only [List.length_map, List.length_range] at hA1 hi
  obtain ⟨b1, o1, rfl, hb1, f0⟩ := hA a (d.fin a) (by rw [List.getElem?_map, List.getElem?_range hao]; rfl)
  rw [← hi.below.cell (p := ⟨b1, _, none⟩) hb1] at f0
  obtain ⟨s, hs⟩ : ∃ s, s = d.fin a := ⟨_, rfl⟩
  rw [← hs] at f0 ⊢
  obtain ⟨o, ho⟩ : ∃ o, o = d.order := ⟨_, rfl⟩
  rw [← ho] at hi ha hl
  obtain ⟨n, hnn⟩ : ∃ n, n = d.n := ⟨_, rfl⟩
  rw [← hnn] at hA1 hi hao h64
  have hp : 0 < o.length := by omega
  obtain ⟨ov, h1, h2⟩ := hi.ro
  obtain ⟨g, cap, cs, rfl, hBg, hrow, hcl, hcm, hcell⟩ := VO.row h2 (by rw [iL_len, oI_len]; exact hp)
  rw [iL_len, oI_len] at hcl h1 h2
  have q0 := hcell l _ (iL_at (oI_at ha))
  obtain ⟨m, hm⟩ : ∃ m, m = o.length := ⟨_, rfl⟩
  rw [← hm] at hcl h1 h2 hl hp
  have z1 := hi.rd.cell; have z3 := h1.cell
  clear hi hm h1 h2 hcell ha hs hnn hf hA ho hrow hb1
  go_enter Tryz.func122, Tryz.ntmps122
  go_wp2
  first | go_region | fail
  go_wp2
  go_returns
  exact ⟨rfl, by go_grown⟩

set_option maxRecDepth 100000 in
set_option maxHeartbeats 4000000 in
theorem renumber_any (d : Dta) (V : Nat) (hd : d.Fit V) (v : Value) (w : World) (hv : TD w v (d.raw V)) :
    Calls Tryz.prog 82 #[v] w fun e w' => ∃ v', e = .returned v' ∧ Below w.heap.size w w' ∧ TDO w' w.heap.size v' (d.renum.raw V) := by
  obtain ⟨vn, vf, rfl, hn, hf⟩ := hv
  have hr2 := fun wc go gn bm h => renumber2 d V hd w wc w.heap.size go gn bm vn vf hn h
  have hr3 := fun wc go gn bm h => renumber3 d V hd w wc w.heap.size go gn bm vn vf hf h
  have hr1 := fun go gn bm => explore_any d V hd (.pointer (some ⟨w.heap.size, 0, none⟩)) (.pointer (some ⟨go, 0, none⟩)) (.pointer (some ⟨gn, 0, none⟩)) (RnI w w.heap.size go gn bm #[.int .i64 (V : Int), .int .i64 (d.e : Int), vn, vf]) (fun o W W' h hb => RnI.keep h hb) (renumber1 d V hd w w.heap.size go gn bm vn vf hn)
  obtain ⟨A3, c3, rfl, _⟩ := hn.open
  obtain ⟨Af, cf, rfl, _⟩ := hf.open
  have hlen : (d.raw V).next.length = d.n := by simp [Dta.raw, nx3]
  have hlenf : (d.raw V).fin.length = d.n := by simp [Dta.raw]
  rw [hlen] at hr1 hr2 hr3 ⊢
  rw [hlenf] at hr1 hr2 hr3 ⊢
  have hvars : (d.raw V).vars = (V : Int) := rfl
  have hemp : (d.raw V).empty = (d.e : Int) := rfl
  rw [hvars, hemp]
  have hbu := fun (k1 k2 k3 j1 j2 : Value) (W : World) => built_R V d.order.length d.L hd.v3 hd.L (Nat.le_trans (d.order_len hd.ok) hd.n64) d.renum.nx d.renum.fin k1 k2 k3 j1 j2 W
  have hen := hd.ok.he
  have h64 := hd.n64
  have R1 := Lib.hid hr1; have R2 := Lib.hid hr2; have R3 := Lib.hid hr3; have BU := Lib.hid hbu
  have hord := d.order_pos
  obtain ⟨o, ho⟩ : ∃ o, o = d.order := ⟨_, rfl⟩
  rw [← ho] at hord
  have HO := Lib.hid ho
  have hmm := @run_makeMap Tryz.prog
  obtain ⟨E, hE⟩ : ∃ E, E = d.e := ⟨_, rfl⟩
  obtain ⟨n, hN⟩ : ∃ n, n = d.n := ⟨_, rfl⟩
  have HE := Lib.hid hE; have HN := Lib.hid hN
  rw [← hE] at hen ⊢
  rw [← hN] at hen h64 ⊢
  have hE6 : E ≤ 1000000 := by omega
  clear hn hf hr1 hr2 hr3 hbu ho hlen hlenf hvars hemp hE hN
  go_enter Tryz.func82, Tryz.ntmps82
  go_upto_region 3 with (refine wpList_nm_put (ks := ([] : List Nat)) kl_int keyed_int rfl (.tmp 5) (.tmp 7) _ _ (.inr rfl) under_mii rfl (NM.new (by simp)) (by simp) E (by simp) _ rfl (key_int E hE6) rfl ?_; intro w1 hm1 hg1; have RD := Lib.hid (Row.grown (((Row.new w 25 #[.int .i64 (V : Int), .int .i64 (E : Int), .slice A3 n c3, .slice Af n cf]).alloc (.cells #[.int .i64 0, .int .i64 0, .slice none 0 0, .slice none 0 0] 25)).alloc (.map #[] 0)) hg1 (by simp; omega)); have RR := Lib.hid (Row.grown ((Row.lit (w := w.alloc (.cells #[.int .i64 (V : Int), .int .i64 (E : Int), .slice A3 n c3, .slice Af n cf] 25)) (g := w.heap.size + 1) (t := 25) (cs := #[.int .i64 0, .int .i64 0, .slice none 0 0, .slice none 0 0]) (by simp)).alloc (.map #[] 0)) hg1 (by simp)); have HM1 := Lib.hid hm1; have HB1 := Lib.hid (Below.grown (w := _) (a := w) (B := w.heap.size) (by go_grown) hg1 (by simp; omega) (fun k hk => by simp at hk; omega)); have hz := RD.out.lt; have y0 := RD.out.cell; have y1 := fun X => (RD.out.alloc X).cell; have y2 := fun X Y => ((RD.out.alloc X).alloc Y).cell; clear hm1 hg1)
  refine wp_abs (fun W => RnI w w.heap.size (w1.heap.size + 1 + 1) w1.heap.size (w.heap.size + 1 + 1) #[.int .i64 (V : Int), .int .i64 (E : Int), .slice A3 n c3, .slice Af n cf] [E] W) ⟨by have h1 := HB1.out; have h2 := h1.size; go_grown, ((RD.out.alloc _).alloc _).alloc _, ((RR.out.alloc _).alloc _).alloc _, ((Row.new w1 _ _).alloc _).alloc _, ((HM1.out.alloc _).alloc _).alloc _,
    ⟨_, Row.lit (by simp), VO.allocd (by
      have h := VO.lit (E := 3) (w := w1.alloc (.cells #[.map (some (w.heap.size + 1 + 1))] 147)) (n := 1) [.int .i64 (E : Int)] rfl (by omega) (by intro u hu; simp at hu; subst hu; rfl)
      rw [World.size_alloc] at h
      exact h.mono (by have h1 := HB1.out.size; omega)) _⟩, by have h1 := HB1.out.size; omega⟩ ?_
  clear RD RR HM1 HB1 hz y0 y1 y2
  rintro W hi
  generalize w1.heap.size + 1 + 1 = go at *
  generalize w1.heap.size = gn at *
  generalize w.heap.size + 1 + 1 = bm at *
  have z0 := hi.rd.cell
  rw [HE.out] at hi
  have HI := Lib.hid hi; clear hi
  go_upto_region 4 with (go_at_call 119; (have hx := R1.out go gn bm W (by rw [← HE.out, ← HN.out] at *; exact HI.out)); refine hx.mono ?_; rintro e w3 ⟨rfl, hi3⟩; have HI3 := Lib.hid hi3; clear hi3 hx)
  obtain ⟨m, hm⟩ : ∃ m, m = d.order.length := ⟨_, rfl⟩
  obtain ⟨ov, h1, h2⟩ := HI3.out.ro
  obtain ⟨Ao, co, rfl⟩ := VO.formN (n := m) h2 (by rw [iL_len, oI_len, hm])
  have z0 := HI3.out.rd.cell
  have z3 := h1.cell
  have hbu := BU.out _ _ _ _ _ w3 (R2.out w3 go gn bm HI3.out) (R3.out w3 go gn bm HI3.out)
  rw [← hm] at hbu
  have HBU := Lib.hid hbu
  have HB3 := Lib.hid HI3.out.below; have RR := Lib.hid HI3.out.rr
  have HM := Lib.hid hm
  clear hbu h1 h2 R1 R2 R3 BU HI3 hm
  go_wp2_with (go_at_call 84; refine HBU.out.mono ?_; rintro e w4 ⟨v4, rfl, hb4, ht4⟩; have HB4 := Lib.hid hb4; have HT := Lib.hid ht4; obtain ⟨vn4, vf4, rfl, ⟨vs4, hn4, _⟩, hf4⟩ := ht4; obtain ⟨A5, c5, rfl⟩ := hn4.form; obtain ⟨A6, c6, rfl⟩ := VO.form hf4; have RR4 := Lib.hid (RR.out.below hb4 RR.out.lt); have b0 := RR4.out.cell; have b1 := RR4.out.free; clear hb4 hn4 hf4)
  refine post_abs2 (fun W => Row W (w.heap.size + 1) 25 #[.int .i64 (V : Int), .int .i64 0, .slice A5 vs4.length c5, .slice A6 (bL (List.map d.renum.fin (List.range m))).length c6] ∧ TDO W w3.heap.size (.agg #[.int .i64 (V : Int), .int .i64 0, .slice A5 vs4.length c5, .slice A6 (bL (List.map d.renum.fin (List.range m))).length c6]) (d.renum.raw V) ∧ Below w.heap.size w W)
    (by have ht := HT.out; rw [HM.out] at ht ⊢; exact store4 RR4.out ht (HB3.out.trans (HB4.out.mono HB3.out.size)) (by omega)) ?_
  clear b0 b1 RR4 HT z0 z3
  rintro W5 ⟨r0, hT, hb⟩
  have b0 := r0.cell
  have q0 := b0 0; have q1 := b0 1; have q2 := b0 2; have q3 := b0 3
  simp only [List.getElem?_toArray, List.getElem?_cons_zero, List.getElem?_cons_succ] at q0 q1 q2 q3
  have HT := Lib.hid (hT.mono HB3.out.size); have HB := Lib.hid hb
  clear b0 r0 hT hb
  exact bodyPost_ret (v := .agg #[.int .i64 (V : Int), .int .i64 0, .slice A5 vs4.length c5, .slice A6 (bL (List.map d.renum.fin (List.range m))).length c6]) (by simp [results, Tryz.results82, go_sem, q0, q1, q2, q3]) rfl ⟨_, rfl, HB.out, HT.out⟩
end Go.Proofs.YthkfjnmnoanhlaaGreatDoor

namespace Go.Proofs.YthkfjnmnoanhlaaGreatDoor
open Go.RowKit

theorem two_rows {w w2 : World} {cs ds : Array Value} {t u : TypeId} (h : Below ((w.alloc (.cells cs t)).alloc (.cells ds u)).heap.size ((w.alloc (.cells cs t)).alloc (.cells ds u)) w2) :
    Below w.heap.size w w2 ∧ Row w2 w.heap.size t cs ∧ Row w2 (w.heap.size + 1) u ds := by
  have r := (Row.alloc (Row.new w t cs) (.cells ds u)).below h (by simp only [World.size_alloc]; omega)
  have q := (Row.new (w.alloc (.cells cs t)) u ds).below h (by simp only [World.size_alloc]; omega)
  simp only [World.size_alloc] at q
  exact ⟨((Below.alloc (Below.refl _ _) (Nat.le_refl _) _).alloc (by simp only [World.size_alloc]; omega) _).trans (h.mono (by simp only [World.size_alloc]; omega)), r, q⟩
def zeroR : Raw := ⟨0, 0, [], []⟩
def zeroV : Value := .agg #[.int .i64 0, .int .i64 0, .slice none 0 0, .slice none 0 0]
theorem zeroV_tdo (w : World) (B : Nat) : TDO w B zeroV zeroR := ⟨_, _, rfl, ⟨[], VO.nil _ _ _, rfl, fun i u h => by simp at h⟩, VO.nil _ _ _⟩
/-- What a function on valid automata gives for any automaton. -/
def resR (f : Dta → Dta) (r : Raw) : Raw := if r.check = 0 then (f r.dta).raw r.vars.toNat else zeroR
theorem resR_ok {f : Dta → Dta} {D : Dta} {V : Nat} {r : Raw} (h : r.check = 0) (hV : r.vars = V) : resR f r = (f r.dta).raw V := by
  unfold resR; rw [if_pos h, hV]; rfl
theorem resR_bad {f : Dta → Dta} {r : Raw} (h : r.check ≠ 0) : resR f r = zeroR := if_neg h
theorem TD.form {w : World} {v : Value} {r : Raw} (h : TD w v r) : ∃ A c Af cf, v = .agg #[.int .i64 r.vars, .int .i64 r.empty, .slice A r.next.length c, .slice Af r.fin.length cf] := by
  obtain ⟨vn, vf, rfl, hn, hf⟩ := h
  obtain ⟨A, c, rfl, _⟩ := hn.open
  obtain ⟨Af, cf, rfl, _⟩ := hf.open
  exact ⟨_, _, _, _, rfl⟩
theorem TDO.form {w : World} {B : Nat} {v : Value} {r : Raw} (h : TDO w B v r) : ∃ A c Af cf, v = .agg #[.int .i64 r.vars, .int .i64 r.empty, .slice A r.next.length c, .slice Af r.fin.length cf] := h.td.form
def RetR (w : World) (r : Raw) (k : Nat) (e : Ending) (w' : World) : Prop := ∃ v', e = .returned (.tuple #[v', .int .i64 (k : Int)]) ∧ Below w.heap.size w w' ∧ TDO w' w.heap.size v' r
abbrev Small (r : Raw) : Prop := r.next.length ≤ 1000000 ∧ r.fin.length ≤ 1000000

set_option maxRecDepth 100000 in
set_option maxHeartbeats 4000000 in
theorem Renumber_any (r : Raw) (v : Value) (w : World) (hv : TD w v r) (hs : Small r) : Calls Tryz.prog 70 #[v] w (RetR w (resR Dta.renum r) r.check) := by
  have hck := fun W (h : Below w.heap.size w W) => det_check r v W (hv.below h (Nat.le_refl _)) hs
  have hrn : r.check = 0 → ∀ W, Below w.heap.size w W → Calls Tryz.prog 82 #[v] W fun e w' => ∃ v', e = .returned v' ∧ Below W.heap.size W w' ∧ TDO w' W.heap.size v' (resR Dta.renum r) := by
    intro h W hb
    obtain ⟨V, hd, hr⟩ := Raw.check_ok h
    have hV : r.vars = V := by rw [hr]; rfl
    rw [resR_ok (D := r.dta) h hV]
    exact renumber_any r.dta V hd v W (by rw [← hr]; exact hv.below hb (Nat.le_refl _))
  obtain ⟨A, c, Af, cf, rfl⟩ := hv.form
  have HC := Lib.hid hck; have HR := Lib.hid hrn
  obtain ⟨k, hk⟩ : ∃ k, k = r.check := ⟨_, rfl⟩
  rw [← hk] at HC ⊢
  obtain ⟨n, hn⟩ : ∃ n, n = r.next.length := ⟨_, rfl⟩
  obtain ⟨m, hm⟩ : ∃ m, m = r.fin.length := ⟨_, rfl⟩
  obtain ⟨V, hV⟩ : ∃ V, V = r.vars := ⟨_, rfl⟩
  obtain ⟨E, hE⟩ : ∃ V, V = r.empty := ⟨_, rfl⟩
  rw [← hn, ← hm, ← hV, ← hE] at HC HR ⊢
  have HK := Lib.hid hk
  clear hck hrn hv hk hn hm hV hE hs
  by_cases h0 : k = 0
  · have h0' : ((k : Int) != 0) = false := by rw [h0]; rfl
    have HRN := Lib.hid (HR.out (by rw [← HK.out]; exact h0))
    have H0 := Lib.hid h0
    clear h0
    go_enter Tryz.func70, Tryz.ntmps70
    go_wp2_with (first
      | (go_at_call 50; refine (HC.out _ (by go_grown)).mono ?_; rintro e w2 ⟨rfl, hb2⟩; have X := two_rows hb2; have HB2 := Lib.hid X.1; have R1 := Lib.hid X.2.1; have RR := Lib.hid X.2.2; have y0 := X.2.1.cell; have y2 := X.2.2.cell; have y3 := X.2.2.free; clear hb2 X)
      | (go_at_call 82; refine (HRN.out _ HB2.out).mono ?_; rintro e w4 ⟨v4, rfl, hb4, ht4⟩; obtain ⟨A4, c4, A5, c5, rfl⟩ := ht4.form; have HT := Lib.hid ht4; have HB4 := Lib.hid hb4; have RR4 := Lib.hid (RR.out.below hb4 RR.out.lt); have b0 := RR4.out.cell; have b1 := RR4.out.free; clear hb4 ht4 y0 y2 y3))
    refine post_abs2 (fun W => Row W (w.heap.size + 1) 25 #[.int .i64 (resR Dta.renum r).vars, .int .i64 (resR Dta.renum r).empty, .slice A4 (resR Dta.renum r).next.length c4, .slice A5 (resR Dta.renum r).fin.length c5] ∧ TDO W w2.heap.size (.agg #[.int .i64 (resR Dta.renum r).vars, .int .i64 (resR Dta.renum r).empty, .slice A4 (resR Dta.renum r).next.length c4, .slice A5 (resR Dta.renum r).fin.length c5]) (resR Dta.renum r) ∧ Below w.heap.size w W)
      (store4 RR4.out HT.out (HB2.out.trans (HB4.out.mono HB2.out.size)) (by omega)) ?_
    clear b0 b1 RR4 HT
    rintro W5 ⟨r0, hT, hb⟩
    have b0 := r0.cell
    have q0 := b0 0; have q1 := b0 1; have q2 := b0 2; have q3 := b0 3
    simp only [List.getElem?_toArray, List.getElem?_cons_zero, List.getElem?_cons_succ] at q0 q1 q2 q3
    have HT := Lib.hid (hT.mono HB2.out.size); have HB := Lib.hid hb
    clear b0 r0 hT hb
    refine bodyPost_ret (v := .tuple #[.agg #[.int .i64 (resR Dta.renum r).vars, .int .i64 (resR Dta.renum r).empty, .slice A4 (resR Dta.renum r).next.length c4, .slice A5 (resR Dta.renum r).fin.length c5], .int .i64 0]) (by simp [results, Tryz.results70, go_sem, q0, q1, q2, q3]) rfl ⟨_, ?_, HB.out, HT.out⟩
    rw [H0.out]; rfl
  · have h0' : ((k : Int) != 0) = true := by rw [bne_iff_ne]; omega
    have HZ := Lib.hid (show resR Dta.renum r = zeroR from resR_bad (by rw [← HK.out]; exact h0))
    rw [HZ.out]
    clear h0 HR
    go_enter Tryz.func70, Tryz.ntmps70
    go_wp2_with (go_at_call 50; refine (HC.out _ (by go_grown)).mono ?_; rintro e w2 ⟨rfl, hb2⟩; have X := two_rows hb2; have HB2 := Lib.hid X.1; have R1 := Lib.hid X.2.1; have RR := Lib.hid X.2.2; have y0 := X.2.1.cell; have y2 := X.2.2.cell; have y3 := X.2.2.free; clear hb2 X)
    refine post_abs2 (fun W => Row W (w.heap.size + 1) 25 #[.int .i64 0, .int .i64 0, .slice none 0 0, .slice none 0 0] ∧ TDO W w2.heap.size zeroV zeroR ∧ Below w.heap.size w W) (store4 RR.out (zeroV_tdo _ _) HB2.out (by omega)) ?_
    clear y0 y2 y3
    rintro W5 ⟨r0, hT, hb⟩
    have b0 := r0.cell
    have q0 := b0 0; have q1 := b0 1; have q2 := b0 2; have q3 := b0 3
    simp only [List.getElem?_toArray, List.getElem?_cons_zero, List.getElem?_cons_succ] at q0 q1 q2 q3
    have HB := Lib.hid hb
    clear b0 r0 hT hb
    exact bodyPost_ret (v := .tuple #[zeroV, .int .i64 (k : Int)]) (by simp [results, Tryz.results70, go_sem, q0, q1, q2, q3, zeroV]) rfl ⟨_, rfl, HB.out, zeroV_tdo _ _⟩
end Go.Proofs.YthkfjnmnoanhlaaGreatDoor

namespace Go.Proofs.YthkfjnmnoanhlaaGreatDoor
open Go.RowKit

def yL (l : List Nat) : List Value := l.map fun (x : Nat) => Value.int .u8 (x : Int)
theorem yL_len (l : List Nat) : (yL l).length = l.length := by simp [yL]
theorem yL_at {l : List Nat} {i x : Nat} (h : l[i]? = some x) : (yL l)[i]? = some (.int .u8 (x : Int)) := by rw [yL, List.getElem?_map, h]; rfl
theorem eY : Elt 150 5 (.int .u8 0) 1 := ⟨by kernel_rfl, by kernel_rfl, by omega, rfl⟩
/-- v lies in a row of its own from B on, and reads as l. -/
def YT (w : World) (B : Nat) (v : Value) (l : List Nat) : Prop :=
  ∃ g cap cs fr, v = .slice (some ⟨g, 0, none⟩) l.length cap ∧ B ≤ g ∧ w.heap[g]? = some (.cells cs 5 fr) ∧ cs.size = cap ∧ l.length ≤ cap ∧ cap ≤ 9223372036854775807 ∧ (∀ j, j < cap → (decide (fr.1 ≤ j) && decide (j < fr.2)) = false) ∧
    ∀ (i x : Nat), l[i]? = some x → cs[i]? = some (Value.int .u8 (x : Int))
theorem YT.heap {w w' : World} {B : Nat} {v : Value} {l : List Nat} (h : YT w B v l) (hh : ∀ g, v.ownBlock = some g → w'.heap[g]? = w.heap[g]?) : YT w' B v l := by
  obtain ⟨g, cap, cs, fr, rfl, h1, h2, h3⟩ := h
  exact ⟨g, cap, cs, fr, rfl, h1, (hh g rfl).trans h2, h3⟩
theorem YT.lt {w : World} {B : Nat} {v : Value} {l : List Nat} (h : YT w B v l) {g : Nat} (hg : v.ownBlock = some g) : B ≤ g ∧ g < w.heap.size := by
  obtain ⟨g', cap, cs, fr, rfl, h1, h2, h3⟩ := h
  simp only [Value.ownBlock, Option.some.injEq] at hg
  subst hg
  exact ⟨h1, (Array.getElem?_eq_some_iff.1 h2).1⟩
theorem YT.below {w w' : World} {B B' : Nat} {v : Value} {l : List Nat} (h : YT w B v l) (hb : Below B' w w') (hB : w.heap.size ≤ B') : YT w' B v l :=
  h.heap fun g hg => hb.block g (Nat.lt_of_lt_of_le (h.lt hg).2 hB)
theorem YT.allocd {w : World} {B : Nat} {v : Value} {l : List Nat} (h : YT w B v l) (X : Obj) : YT (w.alloc X) B v l := h.heap fun g hg => Below.heap_alloc w X g (h.lt hg).2
theorem YT.ne_row {w : World} {B g : Nat} {v : Value} {l : List Nat} {E : TypeId} {cs : Array Value} (h : YT w B v l) (hr : Row w g E cs) (hne : 5 ≠ E) : v.ownBlock ≠ some g := by
  intro e
  obtain ⟨g', cap, cs', fr, rfl, h1, h2, h3⟩ := h
  simp only [Value.ownBlock, Option.some.injEq] at e
  subst e
  unfold Row at hr
  rw [hr] at h2
  simp only [Option.some.injEq, Obj.cells.injEq] at h2
  exact hne h2.2.1.symm
theorem YT.setFar {w : World} {B g : Nat} {v : Value} {l : List Nat} {E : TypeId} {cs : Array Value} (h : YT w B v l) (hr : Row w g E cs) (hne : 5 ≠ E) (i : Nat) (u : Value) : YT (w.setCell ⟨g, i, none⟩ u) B v l :=
  h.heap fun k hk => Below.heap_setCell w ⟨g, i, none⟩ u k (fun e => h.ne_row hr hne (by rw [hk, e]))
theorem YT.made (w : World) (B : Nat) (hB : B ≤ w.heap.size) (s : ByteArray) (cap : Nat) (l : List Nat) (hl : l = s.data.toList.map (·.toNat)) (hc : s.size ≤ cap) (hm : cap ≤ 9223372036854775807) :
    YT (w.alloc (.cells (bytesRow s cap) 5 ((bytesRow s cap).size, (bytesRow s cap).size + 1))) B (.slice (some ⟨w.heap.size, 0, none⟩) s.size cap) l := by
  have hsz : (bytesRow s cap).size = cap := by
    unfold bytesRow
    simp only [Array.size_append, Array.size_map, Array.size_replicate]
    have : s.data.size = s.size := rfl
    omega
  have hll : l.length = s.size := by rw [hl]; simp
  refine ⟨w.heap.size, cap, bytesRow s cap, _, by rw [hll], hB, heap_alloc_new w _, hsz, by omega, hm, fun j hj => ?_, fun i x hi => ?_⟩
  · rw [hsz]; simp; omega
  · rw [hl, List.getElem?_map] at hi
    have hi2 : i < s.data.size := by
      rcases Nat.lt_or_ge i s.data.size with h | h
      · exact h
      · rw [List.getElem?_eq_none (by simpa using h)] at hi; cases hi
    rw [bytesRow_at s cap i hi2]
    rw [List.getElem?_eq_getElem (by simpa using hi2)] at hi
    simp only [Option.map_some, Option.some.injEq, Array.getElem_toList] at hi
    rw [hi]
theorem grown_le (w : World) (n old : Nat) (e : TypeId) (hn : n ≤ 1000000) : n ≤ grownCap w n old e ∧ grownCap w n old e ≤ 9223372036854775807 := by
  have h1 := grownCap_ge w n old e
  have h2 := grownCap_le_maxLen w n old e (by simp only [maxLen]; omega)
  simp only [maxLen] at h2
  exact ⟨h1, by omega⟩
theorem u8_info : ∃ i, Tryz.prog.info? 5 = some i ∧ i.zero = some (.int .u8 0) ∧ i.size = 1 ∧ i.bytes = 1 := by
  obtain ⟨i, hi, hz, h1, h2⟩ := info_parts eY.info
  exact ⟨i, hi, hz, h1, h2⟩
/-- Two bytes are appended. -/
theorem run_append_yt (w : World) (B : Nat) (v : Value) (l : List Nat) (h : YT w B v l) (b : Nat) (c : Nat) (x y : Nat) (h0 : w.cell? ⟨b, 0, none⟩ = some (.int .u8 (x : Int))) (h1 : w.cell? ⟨b, 1, none⟩ = some (.int .u8 (y : Int))) (ty : TypeId) (hl : l.length ≤ 100000) (hB : B ≤ w.heap.size) :
    ∃ v' w', (Builtin.append_ #[150, 150] ty #[v, .slice (some ⟨b, 0, none⟩) 2 c]).run Tryz.prog w = .ok v' w' ∧ YT w' B v' (l ++ [x, y]) ∧ w.grownBy w' v.ownBlock := by
  obtain ⟨i, hi, hz, hs1, hs2⟩ := u8_info
  obtain ⟨g, cap, cs, fr, rfl, hBg, hg, hcs, hlc, hcm, hfr, hat⟩ := h
  have hadd : ∀ j, (⟨b, 0, none⟩ : Addr).add j = ⟨b, j, none⟩ := fun j => by unfold Addr.add; split <;> simp_all
  have haddg : ∀ o j, (⟨g, o, none⟩ : Addr).add j = ⟨g, o + j, none⟩ := fun o j => by unfold Addr.add; split <;> simp_all
  have hnews : ∀ j u, [Value.int .u8 (x : Int), .int .u8 (y : Int)][j]? = some u → w.cell? ((⟨b, 0, none⟩ : Addr).add j) = some u := by
    intro j u hj
    rw [hadd]
    match j with
    | 0 => simp at hj; rw [← hj]; exact h0
    | 1 => simp at hj; rw [← hj]; exact h1
    | j + 2 => simp at hj
  have hgl : g < w.heap.size := (Array.getElem?_eq_some_iff.1 hg).1
  have hlen2 : (l ++ [x, y]).length = l.length + 2 := by simp
  by_cases hroom : l.length + 2 ≤ cap
  · have hf := run_firstCells_some (P := Tryz.prog) w i.size 2 ⟨b, 0, none⟩ 2 c [Value.int .u8 (x : Int), .int .u8 (y : Int)] (by rw [hs1]; rfl) hnews
    have hg1 : (w.setCell ⟨g, l.length, none⟩ (.int .u8 (x : Int))).heap[g]? = some (.cells (cs.setIfInBounds l.length (.int .u8 (x : Int))) 5 fr) := by
      simp [World.setCell, Array.getElem?_modify, hg]
    have hg2 : ((w.setCell ⟨g, l.length, none⟩ (.int .u8 (x : Int))).setCell ⟨g, l.length + 1, none⟩ (.int .u8 (y : Int))).heap[g]? = some (.cells ((cs.setIfInBounds l.length (.int .u8 (x : Int))).setIfInBounds (l.length + 1) (.int .u8 (y : Int))) 5 fr) := by
      have := hg1
      simp only [World.setCell] at this ⊢
      rw [Array.getElem?_modify, if_pos rfl, this]
      simp
    have hc0 : w.cell? ⟨g, l.length, none⟩ = some cs[l.length] := by rw [cell_of_row w g _ cs _ fr hg]; exact Array.getElem?_eq_getElem (by omega)
    have hf0 : w.frozen? ⟨g, l.length, none⟩ = false := by
      have := hfr l.length (by omega)
      unfold World.frozen?
      rw [hg]
      exact this
    have hc1 : (w.setCell ⟨g, l.length, none⟩ (.int .u8 (x : Int))).cell? ⟨g, l.length + 1, none⟩ = some ((cs.setIfInBounds l.length (.int .u8 (x : Int)))[l.length + 1]'(by simp; omega)) := by
      rw [cell_of_row _ g _ _ _ fr hg1]; exact Array.getElem?_eq_getElem (by simp; omega)
    have hf1 : (w.setCell ⟨g, l.length, none⟩ (.int .u8 (x : Int))).frozen? ⟨g, l.length + 1, none⟩ = false := by
      have := hfr (l.length + 1) (by omega)
      unfold World.frozen?
      rw [hg1]
      exact this
    have hst : (storeCells ⟨g, l.length, none⟩ [Value.int .u8 (x : Int), .int .u8 (y : Int)] 0).run Tryz.prog w = .ok () ((w.setCell ⟨g, l.length, none⟩ (.int .u8 (x : Int))).setCell ⟨g, l.length + 1, none⟩ (.int .u8 (y : Int))) := by
      have e0 : (store (⟨g, l.length, none⟩ : Addr) (.int .u8 (x : Int))).run Tryz.prog w = .ok () (w.setCell ⟨g, l.length, none⟩ (.int .u8 (x : Int))) := by
        rw [run_store _ w _ _ _ rfl, hc0]; simp [hf0]
      have e1 : (store (⟨g, l.length + 1, none⟩ : Addr) (.int .u8 (y : Int))).run Tryz.prog (w.setCell ⟨g, l.length, none⟩ (.int .u8 (x : Int))) = .ok () ((w.setCell ⟨g, l.length, none⟩ (.int .u8 (x : Int))).setCell ⟨g, l.length + 1, none⟩ (.int .u8 (y : Int))) := by
        rw [run_store _ _ _ _ _ rfl, hc1]; simp [hf1]
      simp only [storeCells, haddg, Nat.add_zero, Nat.zero_add, Sem.run_bind, e0, e1, Result.andThen_ok, Sem.run_pure]
    refine ⟨.slice (some ⟨g, 0, none⟩) (l.length + 2) cap, _, ?_, ⟨g, cap, _, fr, by rw [hlen2], hBg, hg2, by simp [hcs], by omega, hcm, hfr, fun k z hk => ?_⟩, ⟨rfl, rfl, rfl, by simp [World.setCell], fun k _ hk => ?_⟩⟩
    · rw [hs1] at hf
      simp [Builtin.append_, run_underlying eY.under, sizeOf, typeInfo, hi, hs1, Builtin.lenOf, hroom, hf, Addr.add_lit, hst, haddg]
    · rw [Array.getElem?_setIfInBounds, Array.getElem?_setIfInBounds]
      rcases Nat.lt_or_ge k l.length with hk1 | hk1
      · rw [if_neg (by omega), if_neg (by omega)]
        exact hat k z (by rw [← hk, List.getElem?_append_left hk1])
      · rw [List.getElem?_append_right hk1] at hk
        have hk2 : k - l.length = 0 ∨ k - l.length = 1 := by
          have := (List.getElem?_eq_some_iff.1 hk).1
          simp at this; omega
        rcases hk2 with hk2 | hk2
        · rw [hk2] at hk
          have : k = l.length := by omega
          subst this
          simp at hk
          rw [if_neg (by omega), if_pos rfl, if_pos (by omega), hk]
        · rw [hk2] at hk
          have : k = l.length + 1 := by omega
          subst this
          simp at hk
          rw [if_pos rfl, if_pos (by simp; omega), hk]
    · have hk' : k ≠ g := fun e => hk (by simp [Value.ownBlock, e])
      rw [Below.heap_setCell _ _ _ _ (by exact hk'), Below.heap_setCell _ _ _ _ (by exact hk')]
  · have holds : ∀ j u, (yL l)[j]? = some u → w.cell? ((⟨g, 0, none⟩ : Addr).add j) = some u := by
      intro j u hj
      rw [haddg, Nat.zero_add, cell_of_row w g _ cs _ fr hg]
      unfold yL at hj
      rw [List.getElem?_map] at hj
      cases e : l[j]? with
      | none => rw [e] at hj; cases hj
      | some z => rw [e] at hj; cases hj; exact hat j z e
    have hr := run_append_grow (P := Tryz.prog) w 150 ty 5 i (.int .u8 0) eY.under hi hz ⟨g, 0, none⟩ l.length cap (yL l) (by rw [yL_len, hs1, Nat.mul_one]) holds ⟨b, 0, none⟩ 2 c [Value.int .u8 (x : Int), .int .u8 (y : Int)] (by rw [hs1]; rfl) hnews (by omega) (by omega) (growslice_fits (by omega) (by rw [hs2]; omega))
    obtain ⟨q1, q2⟩ := grown_le w (l.length + 2) cap 5 (by omega)
    refine ⟨_, _, hr, ⟨w.heap.size, _, _, (0, 0), by rw [hlen2], hB, heap_alloc_new w.drew _, ?_, by rw [hlen2]; exact q1, q2, by simp, fun k z hk => ?_⟩, ⟨rfl, rfl, rfl, by simp, fun k hk _ => Below.heap_alloc w.drew _ k hk⟩⟩
    · simp [size_zeroCells, yL_len, Value.cells]; omega
    · have hkl : k < l.length + 2 := by have := (List.getElem?_eq_some_iff.1 hk).1; simp at this; omega
      rw [Array.getElem?_append_left (by simp [yL_len]; omega)]
      have : (yL l).toArray ++ [Value.int .u8 (x : Int), .int .u8 (y : Int)].toArray = (yL (l ++ [x, y])).toArray := by simp [yL]
      rw [this]
      have := yL_at hk
      simpa using this

/-- The bytes, read as a string. -/
theorem run_string_yt (w : World) (B : Nat) (v : Value) (l : List Nat) (h : YT w B v l) : (convert 150 9 v).run Tryz.prog w = .ok (.string (strOfNums (l.map fun (x : Nat) => (x : Int)))) w := by
  obtain ⟨g, cap, cs, fr, rfl, hBg, hg, hcs, hlc, hcm, hfr, hat⟩ := h
  refine run_convert_bytes_arg w 150 5 eY.under (by kernel_rfl) g 0 l.length cap _ (by simp) (fun i hi => ?_) 9 (by kernel_rfl)
  obtain ⟨x, hx⟩ : ∃ x, l[i]? = some x := ⟨l[i], List.getElem?_eq_getElem hi⟩
  rw [Nat.zero_add, cell_of_row w g _ cs _ fr hg, hat i x hx]
  simp [List.getD_eq_getElem?_getD, hx]
end Go.Proofs.YthkfjnmnoanhlaaGreatDoor

namespace Go.Proofs.YthkfjnmnoanhlaaGreatDoor
open Go.RowKit

def boolS (b : Bool) : ByteArray := ⟨((fb b).map fun (x : Nat) => UInt8.ofNat x).toArray⟩
set_option maxRecDepth 100000 in
theorem formatBool0 (b : Bool) (w : World) : Calls Tryz.prog 149 #[.bool b] w fun e w' => e = .returned (.string (boolS b)) ∧ w = w' := by
  cases b <;> (go_enter Tryz.func149, Tryz.ntmps149; go_wp2; go_returns; exact ⟨rfl, rfl⟩)
set_option maxRecDepth 100000 in
theorem formatBool (b : Bool) (w : World) : Calls Tryz.prog 123 #[.bool b] w fun e w' => e = .returned (.string (boolS b)) ∧ w = w' := by
  go_enter Tryz.func123, Tryz.ntmps123
  go_wp2_with (go_at_call 149; refine (formatBool0 b _).mono ?_; rintro e w2 ⟨rfl, rfl⟩)
  go_returns
  exact ⟨rfl, rfl⟩
theorem step_append_run {T : TypeId} {ops : Array Oper} {o : Oper} {a : Act} {w : World} {K : Act → World → Prop} {Q : Exit → Act → World → Prop} {X : Prop} (hgd : o.guard = none) (s x : Operand)
    (ho : o.op = .call { callee := .builtin .append, args := #[s, x], argTypes := #[T, T] }) {v y v' : Value} {w' : World} (hs : a.eval s = v) (hx : a.eval x = y)
    (hrun : (Builtin.append_ #[T, T] o.type #[v, y]).run Tryz.prog w = .ok v' w') (h : K (a.put o.dst v') w') : if Region.wanted o (yielded ops a.tmps) = true then Oper.wp Tryz.prog o a w K Q else X := by
  have hw : Region.wanted o (yielded ops a.tmps) = true := by simp [Region.wanted, hgd]
  rw [if_pos hw]
  unfold Oper.wp execOp
  simp only [ho, resolve, invoke, builtin, Sem.run_bind, Sem.run_pure, Result.andThen_ok, List.map_toArray, List.map_cons, List.map_nil, hs, hx, hrun]
  exact h
/-- The row of bytes in its variable. -/
structure RowB (wS : World) (gr : Nat) (bs : List Nat) (W : World) : Prop where
  below : Below wS.heap.size wS W
  lo : wS.heap.size ≤ gr
  ro : ∃ rv, Row W gr 150 #[rv] ∧ YT W wS.heap.size rv bs
theorem YT.formN {w : World} {B n : Nat} {v : Value} {l : List Nat} (h : YT w B v l) (hn : l.length = n) : ∃ g cap, v = .slice (some ⟨g, 0, none⟩) n cap := by
  obtain ⟨g, cap, cs, fr, rfl, _⟩ := h
  exact ⟨g, cap, by rw [hn]⟩
theorem u8_wrap (c : Nat) (h : c < 256) : IntKind.u8.wrap (c : Int) = c := by
  simp only [IntKind.wrap, IntKind.bits, IntKind.signed]
  simp
  omega
theorem YT.far {w w' : World} {B : Nat} {v : Value} {l : List Nat} {g : Nat} {E : TypeId} {cs : Array Value} (h : YT w B v l) (hr : Row w g E cs) (hne : 5 ≠ E) (hg : w.grownBy w' v.ownBlock) : Row w' g E cs :=
  hr.grown hg (fun e => h.ne_row hr hne e.symm)

set_option maxRecDepth 100000 in
set_option maxHeartbeats 4000000 in
theorem note_any (wS : World) (gr gc n : Nat) (cv : Value) (cl : Nat → Nat) (hc : Row wS gc 53 #[cv]) (hcv : N1 wS cv (oI ((List.range n).map cl))) (t : Nat) (ht : t < n) (hn : n ≤ 64) (hcl : cl t < 256) (bs : List Nat) (hbs : bs.length ≤ 99990) (W : World) (h : RowB wS gr bs W) :
    Calls Tryz.prog 124 #[.int .i64 (t : Int), .pointer (some ⟨gr, 0, none⟩), .pointer (some ⟨gc, 0, none⟩)] W fun e w' => e = .returned (.tuple #[]) ∧ RowB wS gr (bs ++ nb (cl t)) w' := by
  obtain ⟨A, c, rfl, hc1, hc2, hat⟩ := hcv.open
  rw [oI_len, List.length_map, List.length_range] at hc1 hc
  obtain ⟨b, o, rfl, hb, c0⟩ := hat t _ (oI_at (by rw [List.getElem?_map, List.getElem?_range ht]; rfl))
  rw [← h.below.cell (p := ⟨b, _, none⟩) hb] at c0
  have r1 := hc.below h.below hc.lt
  obtain ⟨rv, hr, hy⟩ := h.ro
  obtain ⟨m, hm⟩ : ∃ m, m = bs.length := ⟨_, rfl⟩
  obtain ⟨g, cap, rfl⟩ := hy.formN hm.symm
  obtain ⟨q, hq⟩ : ∃ q, q = cl t := ⟨_, rfl⟩
  rw [← hq] at c0 hcl ⊢
  have hw := u8_wrap q hcl
  have HY := Lib.hid hy; have HR := Lib.hid hr; have HH := Lib.hid h; have HM := Lib.hid hm
  have hmm : m ≤ 99990 := by omega
  have z0 := r1.cell; have z1 := hr.cell; have z2 := hr.free; have z3 := hr.lt
  clear hcl hq hat hc hb h hy hr r1 hm hbs hcv
  obtain ⟨v4, w4, hrun, hy4, hg4⟩ := run_append_yt ((W.alloc (.cells #[.int .u8 32, .int .u8 (q : Int)] 5)).drew) wS.heap.size _ bs (show YT (W.alloc (.cells #[.int .u8 32, .int .u8 (q : Int)] 5)).drew wS.heap.size _ bs from YT.allocd HY.out _) W.heap.size 2 32 q
    ((Row.new W 5 #[.int .u8 32, .int .u8 (q : Int)]).drew.cell 0) ((Row.new W 5 #[.int .u8 32, .int .u8 (q : Int)]).drew.cell 1) 150 (by rw [← HM.out]; omega) (by show wS.heap.size ≤ (W.alloc _).heap.size; simp only [World.size_alloc]; have := HH.out.below.size; omega)
  obtain ⟨g4, cap4, rfl⟩ := hy4.formN (n := m + 2) (by rw [List.length_append, HM.out]; rfl)
  replace hg4 : (W.alloc (.cells #[.int .u8 32, .int .u8 (q : Int)] 5)).grownBy w4 (Value.slice (some ⟨g, 0, none⟩) m cap).ownBlock := ⟨hg4.os, hg4.tape, hg4.output, hg4.size, hg4.block⟩
  have HY4 := Lib.hid hy4; have HR4 := Lib.hid (YT.far (YT.allocd HY.out _) (Row.alloc HR.out _) (by decide) hg4)
  have HB4 := Lib.hid (Below.grown (a := wS) (B := wS.heap.size) (by have h1 := HH.out.below; have h2 := h1.size; go_grown) hg4 (by have := HH.out.below.size; simp only [World.size_alloc]; omega) (fun k hk => (HY.out.lt hk).1))
  have y0 := HR4.out.cell; have y1 := HR4.out.free
  have HRUN := Lib.hid hrun
  clear hy4 hg4 hrun
  go_enter Tryz.func124, Tryz.ntmps124
  go_wp2
  first
  | go_region_law (refine step_append_run rfl (.tmp 4) (.tmp 10) rfl rfl rfl HRUN.out ?_)
  | fail
  all_goals
    go_wp2
    go_returns
    exact ⟨rfl, HB4.out.setCell (p := ⟨gr, 0, none⟩) HH.out.lo _, HH.out.lo, _, HR4.out.set 0 _, HY4.out.setFar HR4.out (by decide) 0 _⟩
end Go.Proofs.YthkfjnmnoanhlaaGreatDoor
