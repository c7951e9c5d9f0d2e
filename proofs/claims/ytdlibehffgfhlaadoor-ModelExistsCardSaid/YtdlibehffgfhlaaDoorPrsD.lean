/- Walks of the parser's function formula (written by gen_formula.py). -/
import Derived.Test.YtdlibehffgfhlaaDoorPrsC
set_option linter.unusedSimpArgs false
set_option linter.unusedVariables false
namespace Go.Proofs.YtdlibehffgfhlaaDoor
open Go.RowKit

theorem FI.start {S : ByteArray} {w w2 w3 : World} {B g p many : Nat} {lv : Value} {l : List Mk} {xm om : Array Value} (hK : Keep (· = g) w w2) (hr2 : Row w2 g 89 #[.string S, .int .i64 p, lv, .int .i64 many]) (ho : MO w B lv l) (hap : ∀ b, lv.ownBlock = some b → b ≠ g)
    (hb3 : Below (w2.alloc (.cells xm 23)).heap.size (w2.alloc (.cells xm 23)) w3) : FI S w B g w2.heap.size w3.heap.size lv p many lv l xm om (w3.alloc (.cells om 123)) := by
  have hx := (Row.new w2 23 xm).below hb3 (by simp only [World.size_alloc]; omega)
  have hbb : Below w2.heap.size w2 w3 := (Below.alloc (Below.refl _ _) (Nat.le_refl _) _).trans (hb3.mono (by simp only [World.size_alloc]; omega))
  have h3 := hbb.size
  have hl := hr2.lt
  have hxl := hx.lt
  have hks := hK.size
  refine ⟨(hr2.below hbb hl).alloc _, hx.alloc _, Row.new _ _ _, ?_, ?_, ⟨by omega, by omega, by omega, by omega, by omega⟩, fun b hb => ?_⟩
  · exact (((ho.keep hK hap).below hbb (Nat.le_refl _))).below (B' := w3.heap.size) (Below.alloc (Below.refl _ _) (Nat.le_refl _) _) (Nat.le_refl _)
  · refine Keep.alloc ?_ _
    exact ⟨hbb.os.trans hK.os, hbb.tape.trans hK.tape, hbb.output.trans hK.output, Nat.le_trans hK.size hbb.size, fun i hi hs => (hbb.block i (by omega)).trans (hK.block i hi fun e => hs (.inl e))⟩
  · have := (ho.own_lt b hb).2
    exact ⟨hap b hb, by omega, by omega, .inl hb⟩
theorem FI.err_step {S : ByteArray} {w0 : World} {B g X O : Nat} {lv0 : Value} {p many : Nat} {lv : Value} {l : List Mk} {xm om : Array Value} {W W' : World} (h : FI S w0 B g X O lv0 p many lv l xm om W) (hB : B ≤ g) (ho : ∀ b, lv0.ownBlock = some b → B ≤ b) (hs : B ≤ w0.heap.size) (hk : Keep (· = g) W W') : Below B w0 W' :=
  h.below hB ho hs (hk.below_le (by have := h.k.size; omega) fun k hk => by subst hk; exact hB)


set_option maxRecDepth 100000 in
set_option maxHeartbeats 4000000 in
theorem formula_00 (S : ByteArray) (B g n p many p1 : Nat) (l : List Mk) (lv : Value) (op : Int) (c : UInt8) (w : World) (hih : FormHyp S B g n) (hr : Row w g 89 #[.string S, .int .i64 p, lv, .int .i64 many]) (ho : MO w B lv l) (hB : B ≤ g)
    (hp : p ≤ S.size) (hS : S.size ≤ 1000000) (hm : many < 64) (hn : 64 ≤ n + many) (hl : l.length ≤ many) (hc : needP (bts S) (40 :: bts smallB) 2 p = .ok p c) (h40 : c ≠ 40) (hname : nameP (bts S) false p = .ok p1 op) (hp1 : p1 ≤ S.size) (h1 : 0 ≤ op) (h2 : op ≤ 255) (hv : nv op = 0) (hcc : nc op = 0) :
    Calls Tryd.prog 57 #[.pointer (some ⟨g, 0, none⟩)] w (FormPost S B g lv l (form (bts S) (n + 1) p many) w) := by
  obtain ⟨x, hx⟩ : ∃ x, x = form (bts S) (n + 1) p many := ⟨_, rfl⟩
  rw [← hx]
  have hx2 : x = .ok p1 (many + 1, .leaf op 0 0) := by
    rw [hx, form_need, hc, PR.bind_ok, if_neg (by omega)]
    simp only [h40, decide_false, if_false]
    rw [hname, PR.bind_ok]
    simp only [hv, hcc]
    rfl
  clear hx
  have hneed := fun W h => need_any S { data := #[40, 97, 98, 99, 100, 101, 102, 103, 104, 105, 106, 107, 108, 109, 110, 111, 112, 113, 114, 115, 116, 117, 118, 119, 120, 121, 122] } g p lv (.int .i64 many) 2 W h hp hS
  have e0 : bts { data := #[40, 97, 98, 99, 100, 101, 102, 103, 104, 105, 106, 107, 108, 109, 110, 111, 112, 113, 114, 115, 116, 117, 118, 119, 120, 121, 122] } = 40 :: bts smallB := rfl
  rw [e0, hc] at hneed
  clear e0
  have hnm := fun W h => name_any S false g (p) lv (.int .i64 ((many + 1 : Nat) : Int)) W h (hp) hS
  rw [hname] at hnm
  have hin : ((c.toNat : Int) == 40) = false := by
    rw [beq_eq_false_iff_ne]
    intro h
    apply h40
    have : c.toNat = 40 := by omega
    exact UInt8.toNat_inj.1 this
  have hm64 : ((many : Int) == 64) = false := by simp; omega
  have hap := ho.apart hr (by decide)
  have hlb : ∀ b, lv.ownBlock = some b → B ≤ b := fun b hb => (ho.own_lt b hb).1
  have hBw : B ≤ w.heap.size := by have := hr.lt; omega
  have HN := Lib.hid hneed; have HM := Lib.hid hnm; have HX := Lib.hid hx2; have HR := Lib.hid hr; have HO := Lib.hid ho; have HAP := Lib.hid hap; have HLB := Lib.hid hlb; have HV := Lib.hid hv; have HC := Lib.hid hcc; have HIH := Lib.hid hih
  clear hneed hnm hx2 hr ho hap hlb hv hcc hc h40 hname hih
  have rc := HR.out.cell
  have rf := HR.out.free
  have rl := HR.out.lt
  have hfd := fld_form2
  go_enter Tryd.func57, Tryd.ntmps57
  go_wp2_with (first
    | (go_at_call 103; refine (HN.out _ HR.out).mono ?_; rintro e w1 ⟨hb1, rfl⟩; have HB1 := Lib.hid hb1; clear hb1; have HR1 := Lib.hid (HR.out.below HB1.out HR.out.lt); have rc := HR1.out.cell; have rf := HR1.out.free; have rl := HR1.out.lt)
    | (go_at_call 104; refine (HM.out _ (HR1.out.set 3 (.int .i64 ((many : Int) + 1)))).mono ?_; rintro e w2 ⟨hk2, rfl, hr2⟩; have HK2 : Hid (Keep (· = g) w w2) := (Keep.set (S := (· = g)) (Keep.of_below HB1.out (Nat.le_refl _)) (p := ⟨g, 3, none⟩) (.inl rfl) _).trans hk2; have HR2 := Lib.hid hr2; clear hk2 hr2 rc rf rl)
    | (go_at_call 91; refine (forms_any op _ h1 h2).mono ?_; rintro e w3 ⟨rfl, hb3⟩; rw [HV.out, HC.out]; have hi := FI.start (S := S) (om := #[.string { data := (nm op).toArray }, .int .i64 0, .int .i64 0]) HK2.out HR2.out HO.out HAP.out hb3; obtain ⟨x0, x1, hz1, HB3⟩ := after1 hb3; have hr3 := HR2.out.below HB3.out HR2.out.lt; have rc := hr3.cell; have rf := hr3.free; have rl := hr3.lt; clear hr3 hb3; have HI := Lib.hid hi; clear hi))
  all_goals first
    | exact ⟨rfl, FormPost.err HERR.out HBE.out⟩
    | skip
  go_region_law (refine step_append_msl rfl (.tmp 77) (.tmp 79) rfl B _ l rfl ((HI.out).own.below (by go_grown) (Nat.le_refl _)) _ [⟨op, 0, 0, 0, 0⟩] rfl (MS.one (by first | exact Row.new _ _ _ | exact Row.litd (by simp)) h1 h2) (by simp only [List.length_append, Tr.enc_len, List.length_singleton]; omega) (by simp only [World.size_alloc, World.size_drew]; have := (HI.out).r.lt; omega) (l.length + 1) (by simp only [List.length_append, Tr.enc_len, List.length_singleton]) ?_; intro A6 c6 w6 ho6 hg6 ht6; have hr6 := (HI.out).mid (by go_grown) hg6; have y0 := hr6.cell; have y1 := hr6.free; have y2 := hr6.lt)
  all_goals
    go_wp2
    go_returns
    obtain ⟨f1, f2, f3, f4⟩ := (HI.out).finish (by go_grown) hg6 ho6 ht6
    refine FormPost.ok (q := p1) (a := (many + 1, .leaf op 0 0)) HX.out ?_ f1 f2 f3 f4
    exact ret_int (by simp only [List.length_append, Tr.enc_len, Tr.size]; omega)

set_option maxRecDepth 100000 in
set_option maxHeartbeats 4000000 in
theorem formula_10 (S : ByteArray) (B g n p many p1 : Nat) (l : List Mk) (lv : Value) (op : Int) (c : UInt8) (w : World) (hih : FormHyp S B g n) (hr : Row w g 89 #[.string S, .int .i64 p, lv, .int .i64 many]) (ho : MO w B lv l) (hB : B ≤ g)
    (hp : p ≤ S.size) (hS : S.size ≤ 1000000) (hm : many < 64) (hn : 64 ≤ n + many) (hl : l.length ≤ many) (hc : needP (bts S) (40 :: bts smallB) 2 p = .ok p c) (h40 : c = 40) (hname : nameP (bts S) true (p + 1) = .ok p1 op) (hp1 : p1 ≤ S.size) (h1 : 0 ≤ op) (h2 : op ≤ 255) (hv : nv op = 1) (hcc : nc op = 0) :
    Calls Tryd.prog 57 #[.pointer (some ⟨g, 0, none⟩)] w (FormPost S B g lv l (form (bts S) (n + 1) p many) w) := by
  obtain ⟨x, hx⟩ : ∃ x, x = form (bts S) (n + 1) p many := ⟨_, rfl⟩
  rw [← hx]
  have hx2 : x = (varP (bts S) p1).bind fun p x => (pastP (bts S) 41 p).bind fun p _ => .ok p (many + 1, .leaf op x 0) := by
    rw [hx, form_need, hc, PR.bind_ok, if_neg (by omega)]
    subst h40
    simp only [decide_true, if_true]
    rw [hname, PR.bind_ok]
    simp only [hv, hcc]
    rfl
  clear hx
  have hneed := fun W h => need_any S { data := #[40, 97, 98, 99, 100, 101, 102, 103, 104, 105, 106, 107, 108, 109, 110, 111, 112, 113, 114, 115, 116, 117, 118, 119, 120, 121, 122] } g p lv (.int .i64 many) 2 W h hp hS
  have e0 : bts { data := #[40, 97, 98, 99, 100, 101, 102, 103, 104, 105, 106, 107, 108, 109, 110, 111, 112, 113, 114, 115, 116, 117, 118, 119, 120, 121, 122] } = 40 :: bts smallB := rfl
  rw [e0, hc] at hneed
  clear e0
  have hnm := fun W h => name_any S true g (p + 1) lv (.int .i64 ((many + 1 : Nat) : Int)) W h (by
    have := (needP_pos hc).2.1
    have := (List.getElem?_eq_some_iff.1 this).1
    rw [bts_len] at this
    omega) hS
  rw [hname] at hnm
  have hin : ((c.toNat : Int) == 40) = true := by subst h40; rfl
  have hm64 : ((many : Int) == 64) = false := by simp; omega
  have hap := ho.apart hr (by decide)
  have hlb : ∀ b, lv.ownBlock = some b → B ≤ b := fun b hb => (ho.own_lt b hb).1
  have hBw : B ≤ w.heap.size := by have := hr.lt; omega
  have HN := Lib.hid hneed; have HM := Lib.hid hnm; have HX := Lib.hid hx2; have HR := Lib.hid hr; have HO := Lib.hid ho; have HAP := Lib.hid hap; have HLB := Lib.hid hlb; have HV := Lib.hid hv; have HC := Lib.hid hcc; have HIH := Lib.hid hih
  clear hneed hnm hx2 hr ho hap hlb hv hcc hc h40 hname hih
  have rc := HR.out.cell
  have rf := HR.out.free
  have rl := HR.out.lt
  have hfd := fld_form2
  go_enter Tryd.func57, Tryd.ntmps57
  go_wp2_with (first
    | (go_at_call 103; refine (HN.out _ HR.out).mono ?_; rintro e w1 ⟨hb1, rfl⟩; have HB1 := Lib.hid hb1; clear hb1; have HR1 := Lib.hid (HR.out.below HB1.out HR.out.lt); have rc := HR1.out.cell; have rf := HR1.out.free; have rl := HR1.out.lt)
    | (go_at_call 104; refine (HM.out _ ((HR1.out.set 3 (.int .i64 ((many : Int) + 1))).set 1 (.int .i64 ((p : Int) + 1)))).mono ?_; rintro e w2 ⟨hk2, rfl, hr2⟩; have HK2 : Hid (Keep (· = g) w w2) := (Keep.set (S := (· = g)) (Keep.set (S := (· = g)) (Keep.of_below HB1.out (Nat.le_refl _)) (p := ⟨g, 3, none⟩) (.inl rfl) _) (p := ⟨g, 1, none⟩) (.inl rfl) _).trans hk2; have HR2 := Lib.hid hr2; clear hk2 hr2 rc rf rl)
    | (go_at_call 91; refine (forms_any op _ h1 h2).mono ?_; rintro e w3 ⟨rfl, hb3⟩; rw [HV.out, HC.out]; have hi := FI.start (S := S) (om := #[.string { data := (nm op).toArray }, .int .i64 1, .int .i64 0]) HK2.out HR2.out HO.out HAP.out hb3; obtain ⟨x0, x1, hz1, HB3⟩ := after1 hb3; have hr3 := HR2.out.below HB3.out HR2.out.lt; have rc := hr3.cell; have rf := hr3.free; have rl := hr3.lt; clear hr3 hb3; have HI := Lib.hid hi; clear hi)
    | (go_at_call 105; (with_reducible refine (variable_any S g _ _ _ _ (HI.out).r hp1 hS).mono ?_); intro e w4 hpost; rcases hpost.split with ⟨q4, vx, hx4, rfl, hk, hr⟩ | ⟨q4, k, hx4, rfl, hk⟩ <;> first | (have HI4 := Lib.hid ((HI.out).step hk hr); clear rc rf rl x0 x1; have rc := HI4.out.r.cell; have rf := HI4.out.r.free; have rl := HI4.out.r.lt; have x0 := HI4.out.x.cell; have x1 := HI4.out.x.free; have o0 := HI4.out.o.cell; have o1 := HI4.out.o.lt; have o2 := HI4.out.x.lt; have HI4q : q4 ≤ S.size := (by have h := varP_good (s := bts S) (p := p1) (by rw [bts_len]; assumption); rw [hx4, bts_len] at h; exact h.2.1); have hx := HX.out; rw [hx4, PR.bind_ok] at hx; clear HX; have HX := Lib.hid hx; clear hx hx4 hk hr) | (have HERR : Hid (x = .err q4 k) := (by unfold Hid; rw [HX.out, hx4]; rfl); have HBE := Lib.hid ((HI.out).err_step hB HLB.out hBw hk)))
    | (go_at_call 106; (with_reducible refine (past_any S 41 g _ _ _ _ ((HI4.out.set 1 (.int .i64 vx))).r HI4q hS).mono ?_); intro e w5 hpost; rcases hpost.split with ⟨q5, _, hx5, rfl, hk, hr⟩ | ⟨q5, k, hx5, rfl, hk⟩ <;> first | (have HI5 := Lib.hid (((HI4.out.set 1 (.int .i64 vx))).step hk hr); clear rc rf rl x0 x1 o0 o1 o2; have rc := HI5.out.r.cell; have rf := HI5.out.r.free; have rl := HI5.out.r.lt; have x0 := HI5.out.x.cell; have x1 := HI5.out.x.free; have o0 := HI5.out.o.cell; have o1 := HI5.out.o.lt; have o2 := HI5.out.x.lt; have HI5q : q5 ≤ S.size := (by have h := pastP_good (s := bts S) 41 (p := q4) (by rw [bts_len]; assumption); rw [hx5, bts_len] at h; exact h.2.1); have hx := HX.out; rw [hx5, PR.bind_ok] at hx; clear HX; have HX := Lib.hid hx; clear hx hx5 hk hr) | (have HERR : Hid (x = .err q5 k) := (by unfold Hid; rw [HX.out, hx5]; rfl); have HBE := Lib.hid (((HI4.out.set 1 (.int .i64 vx))).err_step hB HLB.out hBw hk))))
  all_goals first
    | exact ⟨rfl, FormPost.err HERR.out HBE.out⟩
    | skip
  go_region_law (refine step_append_msl rfl (.tmp 77) (.tmp 79) rfl B _ l rfl ((HI5.out).own.below (by go_grown) (Nat.le_refl _)) _ [⟨op, vx, 0, 0, 0⟩] rfl (MS.one (by first | exact Row.new _ _ _ | exact Row.litd (by simp)) h1 h2) (by simp only [List.length_append, Tr.enc_len, List.length_singleton]; omega) (by simp only [World.size_alloc, World.size_drew]; have := (HI5.out).r.lt; omega) (l.length + 1) (by simp only [List.length_append, Tr.enc_len, List.length_singleton]) ?_; intro A6 c6 w6 ho6 hg6 ht6; have hr6 := (HI5.out).mid (by go_grown) hg6; have y0 := hr6.cell; have y1 := hr6.free; have y2 := hr6.lt)
  all_goals
    go_wp2
    go_returns
    obtain ⟨f1, f2, f3, f4⟩ := (HI5.out).finish (by go_grown) hg6 ho6 ht6
    refine FormPost.ok (q := q5) (a := (many + 1, .leaf op vx 0)) HX.out ?_ f1 f2 f3 f4
    exact ret_int (by simp only [List.length_append, Tr.enc_len, Tr.size]; omega)

set_option maxRecDepth 100000 in
set_option maxHeartbeats 4000000 in
theorem formula_20 (S : ByteArray) (B g n p many p1 : Nat) (l : List Mk) (lv : Value) (op : Int) (c : UInt8) (w : World) (hih : FormHyp S B g n) (hr : Row w g 89 #[.string S, .int .i64 p, lv, .int .i64 many]) (ho : MO w B lv l) (hB : B ≤ g)
    (hp : p ≤ S.size) (hS : S.size ≤ 1000000) (hm : many < 64) (hn : 64 ≤ n + many) (hl : l.length ≤ many) (hc : needP (bts S) (40 :: bts smallB) 2 p = .ok p c) (h40 : c = 40) (hname : nameP (bts S) true (p + 1) = .ok p1 op) (hp1 : p1 ≤ S.size) (h1 : 0 ≤ op) (h2 : op ≤ 255) (hv : nv op = 2) (hcc : nc op = 0) :
    Calls Tryd.prog 57 #[.pointer (some ⟨g, 0, none⟩)] w (FormPost S B g lv l (form (bts S) (n + 1) p many) w) := by
  obtain ⟨x, hx⟩ : ∃ x, x = form (bts S) (n + 1) p many := ⟨_, rfl⟩
  rw [← hx]
  have hx2 : x = (varP (bts S) p1).bind fun p x => (varP (bts S) p).bind fun p y => (pastP (bts S) 41 p).bind fun p _ => .ok p (many + 1, .leaf op x y) := by
    rw [hx, form_need, hc, PR.bind_ok, if_neg (by omega)]
    subst h40
    simp only [decide_true, if_true]
    rw [hname, PR.bind_ok]
    simp only [hv, hcc]
    rfl
  clear hx
  have hneed := fun W h => need_any S { data := #[40, 97, 98, 99, 100, 101, 102, 103, 104, 105, 106, 107, 108, 109, 110, 111, 112, 113, 114, 115, 116, 117, 118, 119, 120, 121, 122] } g p lv (.int .i64 many) 2 W h hp hS
  have e0 : bts { data := #[40, 97, 98, 99, 100, 101, 102, 103, 104, 105, 106, 107, 108, 109, 110, 111, 112, 113, 114, 115, 116, 117, 118, 119, 120, 121, 122] } = 40 :: bts smallB := rfl
  rw [e0, hc] at hneed
  clear e0
  have hnm := fun W h => name_any S true g (p + 1) lv (.int .i64 ((many + 1 : Nat) : Int)) W h (by
    have := (needP_pos hc).2.1
    have := (List.getElem?_eq_some_iff.1 this).1
    rw [bts_len] at this
    omega) hS
  rw [hname] at hnm
  have hin : ((c.toNat : Int) == 40) = true := by subst h40; rfl
  have hm64 : ((many : Int) == 64) = false := by simp; omega
  have hap := ho.apart hr (by decide)
  have hlb : ∀ b, lv.ownBlock = some b → B ≤ b := fun b hb => (ho.own_lt b hb).1
  have hBw : B ≤ w.heap.size := by have := hr.lt; omega
  have HN := Lib.hid hneed; have HM := Lib.hid hnm; have HX := Lib.hid hx2; have HR := Lib.hid hr; have HO := Lib.hid ho; have HAP := Lib.hid hap; have HLB := Lib.hid hlb; have HV := Lib.hid hv; have HC := Lib.hid hcc; have HIH := Lib.hid hih
  clear hneed hnm hx2 hr ho hap hlb hv hcc hc h40 hname hih
  have rc := HR.out.cell
  have rf := HR.out.free
  have rl := HR.out.lt
  have hfd := fld_form2
  go_enter Tryd.func57, Tryd.ntmps57
  go_wp2_with (first
    | (go_at_call 103; refine (HN.out _ HR.out).mono ?_; rintro e w1 ⟨hb1, rfl⟩; have HB1 := Lib.hid hb1; clear hb1; have HR1 := Lib.hid (HR.out.below HB1.out HR.out.lt); have rc := HR1.out.cell; have rf := HR1.out.free; have rl := HR1.out.lt)
    | (go_at_call 104; refine (HM.out _ ((HR1.out.set 3 (.int .i64 ((many : Int) + 1))).set 1 (.int .i64 ((p : Int) + 1)))).mono ?_; rintro e w2 ⟨hk2, rfl, hr2⟩; have HK2 : Hid (Keep (· = g) w w2) := (Keep.set (S := (· = g)) (Keep.set (S := (· = g)) (Keep.of_below HB1.out (Nat.le_refl _)) (p := ⟨g, 3, none⟩) (.inl rfl) _) (p := ⟨g, 1, none⟩) (.inl rfl) _).trans hk2; have HR2 := Lib.hid hr2; clear hk2 hr2 rc rf rl)
    | (go_at_call 91; refine (forms_any op _ h1 h2).mono ?_; rintro e w3 ⟨rfl, hb3⟩; rw [HV.out, HC.out]; have hi := FI.start (S := S) (om := #[.string { data := (nm op).toArray }, .int .i64 2, .int .i64 0]) HK2.out HR2.out HO.out HAP.out hb3; obtain ⟨x0, x1, hz1, HB3⟩ := after1 hb3; have hr3 := HR2.out.below HB3.out HR2.out.lt; have rc := hr3.cell; have rf := hr3.free; have rl := hr3.lt; clear hr3 hb3; have HI := Lib.hid hi; clear hi)
    | (go_at_call 105; (with_reducible refine (variable_any S g _ _ _ _ (HI.out).r hp1 hS).mono ?_); intro e w4 hpost; rcases hpost.split with ⟨q4, vx, hx4, rfl, hk, hr⟩ | ⟨q4, k, hx4, rfl, hk⟩ <;> first | (have HI4 := Lib.hid ((HI.out).step hk hr); clear rc rf rl x0 x1; have rc := HI4.out.r.cell; have rf := HI4.out.r.free; have rl := HI4.out.r.lt; have x0 := HI4.out.x.cell; have x1 := HI4.out.x.free; have o0 := HI4.out.o.cell; have o1 := HI4.out.o.lt; have o2 := HI4.out.x.lt; have HI4q : q4 ≤ S.size := (by have h := varP_good (s := bts S) (p := p1) (by rw [bts_len]; assumption); rw [hx4, bts_len] at h; exact h.2.1); have hx := HX.out; rw [hx4, PR.bind_ok] at hx; clear HX; have HX := Lib.hid hx; clear hx hx4 hk hr) | (have HERR : Hid (x = .err q4 k) := (by unfold Hid; rw [HX.out, hx4]; rfl); have HBE := Lib.hid ((HI.out).err_step hB HLB.out hBw hk)))
    | (go_at_call 105; (with_reducible refine (variable_any S g _ _ _ _ ((HI4.out.set 1 (.int .i64 vx))).r HI4q hS).mono ?_); intro e w5 hpost; rcases hpost.split with ⟨q5, vy, hx5, rfl, hk, hr⟩ | ⟨q5, k, hx5, rfl, hk⟩ <;> first | (have HI5 := Lib.hid (((HI4.out.set 1 (.int .i64 vx))).step hk hr); clear rc rf rl x0 x1 o0 o1 o2; have rc := HI5.out.r.cell; have rf := HI5.out.r.free; have rl := HI5.out.r.lt; have x0 := HI5.out.x.cell; have x1 := HI5.out.x.free; have o0 := HI5.out.o.cell; have o1 := HI5.out.o.lt; have o2 := HI5.out.x.lt; have HI5q : q5 ≤ S.size := (by have h := varP_good (s := bts S) (p := q4) (by rw [bts_len]; assumption); rw [hx5, bts_len] at h; exact h.2.1); have hx := HX.out; rw [hx5, PR.bind_ok] at hx; clear HX; have HX := Lib.hid hx; clear hx hx5 hk hr) | (have HERR : Hid (x = .err q5 k) := (by unfold Hid; rw [HX.out, hx5]; rfl); have HBE := Lib.hid (((HI4.out.set 1 (.int .i64 vx))).err_step hB HLB.out hBw hk)))
    | (go_at_call 106; (with_reducible refine (past_any S 41 g _ _ _ _ ((HI5.out.set 2 (.int .i64 vy))).r HI5q hS).mono ?_); intro e w6 hpost; rcases hpost.split with ⟨q6, _, hx6, rfl, hk, hr⟩ | ⟨q6, k, hx6, rfl, hk⟩ <;> first | (have HI6 := Lib.hid (((HI5.out.set 2 (.int .i64 vy))).step hk hr); clear rc rf rl x0 x1 o0 o1 o2; have rc := HI6.out.r.cell; have rf := HI6.out.r.free; have rl := HI6.out.r.lt; have x0 := HI6.out.x.cell; have x1 := HI6.out.x.free; have o0 := HI6.out.o.cell; have o1 := HI6.out.o.lt; have o2 := HI6.out.x.lt; have HI6q : q6 ≤ S.size := (by have h := pastP_good (s := bts S) 41 (p := q5) (by rw [bts_len]; assumption); rw [hx6, bts_len] at h; exact h.2.1); have hx := HX.out; rw [hx6, PR.bind_ok] at hx; clear HX; have HX := Lib.hid hx; clear hx hx6 hk hr) | (have HERR : Hid (x = .err q6 k) := (by unfold Hid; rw [HX.out, hx6]; rfl); have HBE := Lib.hid (((HI5.out.set 2 (.int .i64 vy))).err_step hB HLB.out hBw hk))))
  all_goals first
    | exact ⟨rfl, FormPost.err HERR.out HBE.out⟩
    | skip
  go_region_law (refine step_append_msl rfl (.tmp 77) (.tmp 79) rfl B _ l rfl ((HI6.out).own.below (by go_grown) (Nat.le_refl _)) _ [⟨op, vx, vy, 0, 0⟩] rfl (MS.one (by first | exact Row.new _ _ _ | exact Row.litd (by simp)) h1 h2) (by simp only [List.length_append, Tr.enc_len, List.length_singleton]; omega) (by simp only [World.size_alloc, World.size_drew]; have := (HI6.out).r.lt; omega) (l.length + 1) (by simp only [List.length_append, Tr.enc_len, List.length_singleton]) ?_; intro A6 c6 w6 ho6 hg6 ht6; have hr6 := (HI6.out).mid (by go_grown) hg6; have y0 := hr6.cell; have y1 := hr6.free; have y2 := hr6.lt)
  all_goals
    go_wp2
    go_returns
    obtain ⟨f1, f2, f3, f4⟩ := (HI6.out).finish (by go_grown) hg6 ho6 ht6
    refine FormPost.ok (q := q6) (a := (many + 1, .leaf op vx vy)) HX.out ?_ f1 f2 f3 f4
    exact ret_int (by simp only [List.length_append, Tr.enc_len, Tr.size]; omega)

set_option maxRecDepth 100000 in
set_option maxHeartbeats 4000000 in
theorem formula_01 (S : ByteArray) (B g n p many p1 : Nat) (l : List Mk) (lv : Value) (op : Int) (c : UInt8) (w : World) (hih : FormHyp S B g n) (hr : Row w g 89 #[.string S, .int .i64 p, lv, .int .i64 many]) (ho : MO w B lv l) (hB : B ≤ g)
    (hp : p ≤ S.size) (hS : S.size ≤ 1000000) (hm : many < 64) (hn : 64 ≤ n + many) (hl : l.length ≤ many) (hc : needP (bts S) (40 :: bts smallB) 2 p = .ok p c) (h40 : c = 40) (hname : nameP (bts S) true (p + 1) = .ok p1 op) (hp1 : p1 ≤ S.size) (h1 : 0 ≤ op) (h2 : op ≤ 255) (hv : nv op = 0) (hcc : nc op = 1) :
    Calls Tryd.prog 57 #[.pointer (some ⟨g, 0, none⟩)] w (FormPost S B g lv l (form (bts S) (n + 1) p many) w) := by
  obtain ⟨x, hx⟩ : ∃ x, x = form (bts S) (n + 1) p many := ⟨_, rfl⟩
  rw [← hx]
  have hx2 : x = (pastP (bts S) 32 p1).bind fun p _ => (form (bts S) n p (many + 1)).bind fun p a => (pastP (bts S) 41 p).bind fun p _ => .ok p (a.1, .un op 0 a.2) := by
    rw [hx, form_need, hc, PR.bind_ok, if_neg (by omega)]
    subst h40
    simp only [decide_true, if_true]
    rw [hname, PR.bind_ok]
    simp only [hv, hcc]
    rfl
  clear hx
  have hneed := fun W h => need_any S { data := #[40, 97, 98, 99, 100, 101, 102, 103, 104, 105, 106, 107, 108, 109, 110, 111, 112, 113, 114, 115, 116, 117, 118, 119, 120, 121, 122] } g p lv (.int .i64 many) 2 W h hp hS
  have e0 : bts { data := #[40, 97, 98, 99, 100, 101, 102, 103, 104, 105, 106, 107, 108, 109, 110, 111, 112, 113, 114, 115, 116, 117, 118, 119, 120, 121, 122] } = 40 :: bts smallB := rfl
  rw [e0, hc] at hneed
  clear e0
  have hnm := fun W h => name_any S true g (p + 1) lv (.int .i64 ((many + 1 : Nat) : Int)) W h (by
    have := (needP_pos hc).2.1
    have := (List.getElem?_eq_some_iff.1 this).1
    rw [bts_len] at this
    omega) hS
  rw [hname] at hnm
  have hin : ((c.toNat : Int) == 40) = true := by subst h40; rfl
  have hm64 : ((many : Int) == 64) = false := by simp; omega
  have hap := ho.apart hr (by decide)
  have hlb : ∀ b, lv.ownBlock = some b → B ≤ b := fun b hb => (ho.own_lt b hb).1
  have hBw : B ≤ w.heap.size := by have := hr.lt; omega
  have HN := Lib.hid hneed; have HM := Lib.hid hnm; have HX := Lib.hid hx2; have HR := Lib.hid hr; have HO := Lib.hid ho; have HAP := Lib.hid hap; have HLB := Lib.hid hlb; have HV := Lib.hid hv; have HC := Lib.hid hcc; have HIH := Lib.hid hih
  clear hneed hnm hx2 hr ho hap hlb hv hcc hc h40 hname hih
  have rc := HR.out.cell
  have rf := HR.out.free
  have rl := HR.out.lt
  have hfd := fld_form2
  go_enter Tryd.func57, Tryd.ntmps57
  go_wp2_with (first
    | (go_at_call 103; refine (HN.out _ HR.out).mono ?_; rintro e w1 ⟨hb1, rfl⟩; have HB1 := Lib.hid hb1; clear hb1; have HR1 := Lib.hid (HR.out.below HB1.out HR.out.lt); have rc := HR1.out.cell; have rf := HR1.out.free; have rl := HR1.out.lt)
    | (go_at_call 104; refine (HM.out _ ((HR1.out.set 3 (.int .i64 ((many : Int) + 1))).set 1 (.int .i64 ((p : Int) + 1)))).mono ?_; rintro e w2 ⟨hk2, rfl, hr2⟩; have HK2 : Hid (Keep (· = g) w w2) := (Keep.set (S := (· = g)) (Keep.set (S := (· = g)) (Keep.of_below HB1.out (Nat.le_refl _)) (p := ⟨g, 3, none⟩) (.inl rfl) _) (p := ⟨g, 1, none⟩) (.inl rfl) _).trans hk2; have HR2 := Lib.hid hr2; clear hk2 hr2 rc rf rl)
    | (go_at_call 91; refine (forms_any op _ h1 h2).mono ?_; rintro e w3 ⟨rfl, hb3⟩; rw [HV.out, HC.out]; have hi := FI.start (S := S) (om := #[.string { data := (nm op).toArray }, .int .i64 0, .int .i64 1]) HK2.out HR2.out HO.out HAP.out hb3; obtain ⟨x0, x1, hz1, HB3⟩ := after1 hb3; have hr3 := HR2.out.below HB3.out HR2.out.lt; have rc := hr3.cell; have rf := hr3.free; have rl := hr3.lt; clear hr3 hb3; have HI := Lib.hid hi; clear hi)
    | (go_at_call 106; (with_reducible refine (past_any S 32 g _ _ _ _ (HI.out).r hp1 hS).mono ?_); intro e w4 hpost; rcases hpost.split with ⟨q4, _, hx4, rfl, hk, hr⟩ | ⟨q4, k, hx4, rfl, hk⟩ <;> first | (have HI4 := Lib.hid ((HI.out).step hk hr); clear rc rf rl x0 x1; have rc := HI4.out.r.cell; have rf := HI4.out.r.free; have rl := HI4.out.r.lt; have x0 := HI4.out.x.cell; have x1 := HI4.out.x.free; have o0 := HI4.out.o.cell; have o1 := HI4.out.o.lt; have o2 := HI4.out.x.lt; have HI4q : q4 ≤ S.size := (by have h := pastP_good (s := bts S) 32 (p := p1) (by rw [bts_len]; assumption); rw [hx4, bts_len] at h; exact h.2.1); have hx := HX.out; rw [hx4, PR.bind_ok] at hx; clear HX; have HX := Lib.hid hx; clear hx hx4 hk hr) | (have HERR : Hid (x = .err q4 k) := (by unfold Hid; rw [HX.out, hx4]; rfl); have HBE := Lib.hid ((HI.out).err_step hB HLB.out hBw hk)))
    | (go_at_call 57; (with_reducible refine (HIH.out _ _ _ _ _ (HI4.out).r (HI4.out).own HI4q (by omega) (by omega) (by omega)).mono ?_); intro e w5 hpost; rcases hpost.split with ⟨q5, a, lv5, hx5, rfl, hk, hr, ho, hlo⟩ | ⟨q5, k, hx5, rfl, hb⟩ <;> first | (have HI5 := Lib.hid ((HI4.out).child hk hr ho hlo); clear rc rf rl x0 x1 o0 o1 o2; have rc := HI5.out.r.cell; have rf := HI5.out.r.free; have rl := HI5.out.r.lt; have x0 := HI5.out.x.cell; have x1 := HI5.out.x.free; have o0 := HI5.out.o.cell; have o1 := HI5.out.o.lt; have o2 := HI5.out.x.lt; have hg := form_good (bts S) n _ (many + 1) (by rw [bts_len]; exact HI4q) (by omega) (by omega); rw [hx5, bts_len] at hg; obtain ⟨_, HI5q, HI5k, HI5m, HI5l, _⟩ := hg; have HI5s := a.2.size_pos; have HX0 := HX.out; rw [hx5, PR.bind_ok] at HX0; clear HX; have HX := Lib.hid HX0; have HI5K := Lib.hid HI5k; clear HX0 hx5 hk hr ho hlo HI5k) | (have HERR : Hid (x = .err q5 k) := (by unfold Hid; rw [HX.out, hx5]; rfl); have HBE := Lib.hid ((HI4.out).below hB HLB.out hBw hb)))
    | (go_at_call 106; (with_reducible refine (past_any S 41 g _ _ _ _ ((HI5.out.set 3 (.int .i64 ((l.length : Int) + a.2.size - 1)))).r HI5q hS).mono ?_); intro e w6 hpost; rcases hpost.split with ⟨q6, _, hx6, rfl, hk, hr⟩ | ⟨q6, k, hx6, rfl, hk⟩ <;> first | (have HI6 := Lib.hid (((HI5.out.set 3 (.int .i64 ((l.length : Int) + a.2.size - 1)))).step hk hr); clear rc rf rl x0 x1 o0 o1 o2; have rc := HI6.out.r.cell; have rf := HI6.out.r.free; have rl := HI6.out.r.lt; have x0 := HI6.out.x.cell; have x1 := HI6.out.x.free; have o0 := HI6.out.o.cell; have o1 := HI6.out.o.lt; have o2 := HI6.out.x.lt; have HI6q : q6 ≤ S.size := (by have h := pastP_good (s := bts S) 41 (p := q5) (by rw [bts_len]; assumption); rw [hx6, bts_len] at h; exact h.2.1); have hx := HX.out; rw [hx6, PR.bind_ok] at hx; clear HX; have HX := Lib.hid hx; clear hx hx6 hk hr) | (have HERR : Hid (x = .err q6 k) := (by unfold Hid; rw [HX.out, hx6]; rfl); have HBE := Lib.hid (((HI5.out.set 3 (.int .i64 ((l.length : Int) + a.2.size - 1)))).err_step hB HLB.out hBw hk))))
  all_goals first
    | exact ⟨rfl, FormPost.err HERR.out HBE.out⟩
    | skip
  go_region_law (refine step_append_msl rfl (.tmp 77) (.tmp 79) rfl B _ (l ++ a.2.enc l.length) rfl ((HI6.out).own.below (by go_grown) (Nat.le_refl _)) _ [⟨op, 0, 0, ((l.length : Int) + a.2.size - 1), 0⟩] rfl (MS.one (by first | exact Row.new _ _ _ | exact Row.litd (by simp)) h1 h2) (by simp only [List.length_append, Tr.enc_len, List.length_singleton]; omega) (by simp only [World.size_alloc, World.size_drew]; have := (HI6.out).r.lt; omega) (l.length + a.2.size + 1) (by simp only [List.length_append, Tr.enc_len, List.length_singleton]) ?_; intro A6 c6 w6 ho6 hg6 ht6; have hr6 := (HI6.out).mid (by go_grown) hg6; have y0 := hr6.cell; have y1 := hr6.free; have y2 := hr6.lt)
  all_goals
    go_wp2
    go_returns
    obtain ⟨f1, f2, f3, f4⟩ := (HI6.out).finish (by go_grown) hg6 ho6 ht6
    refine FormPost.ok (q := q6) (a := (a.1, .un op 0 a.2)) HX.out ?_ f1 f2 (by have e : ((l.length : Int) + a.2.size - 1) = ((l.length + a.2.size - 1 : Nat) : Int) := (by have := a.2.size_pos; omega); rw [e, List.append_assoc] at f3; exact f3) f4
    exact ret_int (by simp only [List.length_append, Tr.enc_len, Tr.size]; omega)

set_option maxRecDepth 100000 in
set_option maxHeartbeats 4000000 in
theorem formula_11 (S : ByteArray) (B g n p many p1 : Nat) (l : List Mk) (lv : Value) (op : Int) (c : UInt8) (w : World) (hih : FormHyp S B g n) (hr : Row w g 89 #[.string S, .int .i64 p, lv, .int .i64 many]) (ho : MO w B lv l) (hB : B ≤ g)
    (hp : p ≤ S.size) (hS : S.size ≤ 1000000) (hm : many < 64) (hn : 64 ≤ n + many) (hl : l.length ≤ many) (hc : needP (bts S) (40 :: bts smallB) 2 p = .ok p c) (h40 : c = 40) (hname : nameP (bts S) true (p + 1) = .ok p1 op) (hp1 : p1 ≤ S.size) (h1 : 0 ≤ op) (h2 : op ≤ 255) (hv : nv op = 1) (hcc : nc op = 1) :
    Calls Tryd.prog 57 #[.pointer (some ⟨g, 0, none⟩)] w (FormPost S B g lv l (form (bts S) (n + 1) p many) w) := by
  obtain ⟨x, hx⟩ : ∃ x, x = form (bts S) (n + 1) p many := ⟨_, rfl⟩
  rw [← hx]
  have hx2 : x = (varP (bts S) p1).bind fun p x => (pastP (bts S) 32 p).bind fun p _ => (form (bts S) n p (many + 1)).bind fun p a => (pastP (bts S) 41 p).bind fun p _ => .ok p (a.1, .un op x a.2) := by
    rw [hx, form_need, hc, PR.bind_ok, if_neg (by omega)]
    subst h40
    simp only [decide_true, if_true]
    rw [hname, PR.bind_ok]
    simp only [hv, hcc]
    rfl
  clear hx
  have hneed := fun W h => need_any S { data := #[40, 97, 98, 99, 100, 101, 102, 103, 104, 105, 106, 107, 108, 109, 110, 111, 112, 113, 114, 115, 116, 117, 118, 119, 120, 121, 122] } g p lv (.int .i64 many) 2 W h hp hS
  have e0 : bts { data := #[40, 97, 98, 99, 100, 101, 102, 103, 104, 105, 106, 107, 108, 109, 110, 111, 112, 113, 114, 115, 116, 117, 118, 119, 120, 121, 122] } = 40 :: bts smallB := rfl
  rw [e0, hc] at hneed
  clear e0
  have hnm := fun W h => name_any S true g (p + 1) lv (.int .i64 ((many + 1 : Nat) : Int)) W h (by
    have := (needP_pos hc).2.1
    have := (List.getElem?_eq_some_iff.1 this).1
    rw [bts_len] at this
    omega) hS
  rw [hname] at hnm
  have hin : ((c.toNat : Int) == 40) = true := by subst h40; rfl
  have hm64 : ((many : Int) == 64) = false := by simp; omega
  have hap := ho.apart hr (by decide)
  have hlb : ∀ b, lv.ownBlock = some b → B ≤ b := fun b hb => (ho.own_lt b hb).1
  have hBw : B ≤ w.heap.size := by have := hr.lt; omega
  have HN := Lib.hid hneed; have HM := Lib.hid hnm; have HX := Lib.hid hx2; have HR := Lib.hid hr; have HO := Lib.hid ho; have HAP := Lib.hid hap; have HLB := Lib.hid hlb; have HV := Lib.hid hv; have HC := Lib.hid hcc; have HIH := Lib.hid hih
  clear hneed hnm hx2 hr ho hap hlb hv hcc hc h40 hname hih
  have rc := HR.out.cell
  have rf := HR.out.free
  have rl := HR.out.lt
  have hfd := fld_form2
  go_enter Tryd.func57, Tryd.ntmps57
  go_wp2_with (first
    | (go_at_call 103; refine (HN.out _ HR.out).mono ?_; rintro e w1 ⟨hb1, rfl⟩; have HB1 := Lib.hid hb1; clear hb1; have HR1 := Lib.hid (HR.out.below HB1.out HR.out.lt); have rc := HR1.out.cell; have rf := HR1.out.free; have rl := HR1.out.lt)
    | (go_at_call 104; refine (HM.out _ ((HR1.out.set 3 (.int .i64 ((many : Int) + 1))).set 1 (.int .i64 ((p : Int) + 1)))).mono ?_; rintro e w2 ⟨hk2, rfl, hr2⟩; have HK2 : Hid (Keep (· = g) w w2) := (Keep.set (S := (· = g)) (Keep.set (S := (· = g)) (Keep.of_below HB1.out (Nat.le_refl _)) (p := ⟨g, 3, none⟩) (.inl rfl) _) (p := ⟨g, 1, none⟩) (.inl rfl) _).trans hk2; have HR2 := Lib.hid hr2; clear hk2 hr2 rc rf rl)
    | (go_at_call 91; refine (forms_any op _ h1 h2).mono ?_; rintro e w3 ⟨rfl, hb3⟩; rw [HV.out, HC.out]; have hi := FI.start (S := S) (om := #[.string { data := (nm op).toArray }, .int .i64 1, .int .i64 1]) HK2.out HR2.out HO.out HAP.out hb3; obtain ⟨x0, x1, hz1, HB3⟩ := after1 hb3; have hr3 := HR2.out.below HB3.out HR2.out.lt; have rc := hr3.cell; have rf := hr3.free; have rl := hr3.lt; clear hr3 hb3; have HI := Lib.hid hi; clear hi)
    | (go_at_call 105; (with_reducible refine (variable_any S g _ _ _ _ (HI.out).r hp1 hS).mono ?_); intro e w4 hpost; rcases hpost.split with ⟨q4, vx, hx4, rfl, hk, hr⟩ | ⟨q4, k, hx4, rfl, hk⟩ <;> first | (have HI4 := Lib.hid ((HI.out).step hk hr); clear rc rf rl x0 x1; have rc := HI4.out.r.cell; have rf := HI4.out.r.free; have rl := HI4.out.r.lt; have x0 := HI4.out.x.cell; have x1 := HI4.out.x.free; have o0 := HI4.out.o.cell; have o1 := HI4.out.o.lt; have o2 := HI4.out.x.lt; have HI4q : q4 ≤ S.size := (by have h := varP_good (s := bts S) (p := p1) (by rw [bts_len]; assumption); rw [hx4, bts_len] at h; exact h.2.1); have hx := HX.out; rw [hx4, PR.bind_ok] at hx; clear HX; have HX := Lib.hid hx; clear hx hx4 hk hr) | (have HERR : Hid (x = .err q4 k) := (by unfold Hid; rw [HX.out, hx4]; rfl); have HBE := Lib.hid ((HI.out).err_step hB HLB.out hBw hk)))
    | (go_at_call 106; (with_reducible refine (past_any S 32 g _ _ _ _ ((HI4.out.set 1 (.int .i64 vx))).r HI4q hS).mono ?_); intro e w5 hpost; rcases hpost.split with ⟨q5, _, hx5, rfl, hk, hr⟩ | ⟨q5, k, hx5, rfl, hk⟩ <;> first | (have HI5 := Lib.hid (((HI4.out.set 1 (.int .i64 vx))).step hk hr); clear rc rf rl x0 x1 o0 o1 o2; have rc := HI5.out.r.cell; have rf := HI5.out.r.free; have rl := HI5.out.r.lt; have x0 := HI5.out.x.cell; have x1 := HI5.out.x.free; have o0 := HI5.out.o.cell; have o1 := HI5.out.o.lt; have o2 := HI5.out.x.lt; have HI5q : q5 ≤ S.size := (by have h := pastP_good (s := bts S) 32 (p := q4) (by rw [bts_len]; assumption); rw [hx5, bts_len] at h; exact h.2.1); have hx := HX.out; rw [hx5, PR.bind_ok] at hx; clear HX; have HX := Lib.hid hx; clear hx hx5 hk hr) | (have HERR : Hid (x = .err q5 k) := (by unfold Hid; rw [HX.out, hx5]; rfl); have HBE := Lib.hid (((HI4.out.set 1 (.int .i64 vx))).err_step hB HLB.out hBw hk)))
    | (go_at_call 57; (with_reducible refine (HIH.out _ _ _ _ _ (HI5.out).r (HI5.out).own HI5q (by omega) (by omega) (by omega)).mono ?_); intro e w6 hpost; rcases hpost.split with ⟨q6, a, lv6, hx6, rfl, hk, hr, ho, hlo⟩ | ⟨q6, k, hx6, rfl, hb⟩ <;> first | (have HI6 := Lib.hid ((HI5.out).child hk hr ho hlo); clear rc rf rl x0 x1 o0 o1 o2; have rc := HI6.out.r.cell; have rf := HI6.out.r.free; have rl := HI6.out.r.lt; have x0 := HI6.out.x.cell; have x1 := HI6.out.x.free; have o0 := HI6.out.o.cell; have o1 := HI6.out.o.lt; have o2 := HI6.out.x.lt; have hg := form_good (bts S) n _ (many + 1) (by rw [bts_len]; exact HI5q) (by omega) (by omega); rw [hx6, bts_len] at hg; obtain ⟨_, HI6q, HI6k, HI6m, HI6l, _⟩ := hg; have HI6s := a.2.size_pos; have HX0 := HX.out; rw [hx6, PR.bind_ok] at HX0; clear HX; have HX := Lib.hid HX0; have HI6K := Lib.hid HI6k; clear HX0 hx6 hk hr ho hlo HI6k) | (have HERR : Hid (x = .err q6 k) := (by unfold Hid; rw [HX.out, hx6]; rfl); have HBE := Lib.hid ((HI5.out).below hB HLB.out hBw hb)))
    | (go_at_call 106; (with_reducible refine (past_any S 41 g _ _ _ _ ((HI6.out.set 3 (.int .i64 ((l.length : Int) + a.2.size - 1)))).r HI6q hS).mono ?_); intro e w7 hpost; rcases hpost.split with ⟨q7, _, hx7, rfl, hk, hr⟩ | ⟨q7, k, hx7, rfl, hk⟩ <;> first | (have HI7 := Lib.hid (((HI6.out.set 3 (.int .i64 ((l.length : Int) + a.2.size - 1)))).step hk hr); clear rc rf rl x0 x1 o0 o1 o2; have rc := HI7.out.r.cell; have rf := HI7.out.r.free; have rl := HI7.out.r.lt; have x0 := HI7.out.x.cell; have x1 := HI7.out.x.free; have o0 := HI7.out.o.cell; have o1 := HI7.out.o.lt; have o2 := HI7.out.x.lt; have HI7q : q7 ≤ S.size := (by have h := pastP_good (s := bts S) 41 (p := q6) (by rw [bts_len]; assumption); rw [hx7, bts_len] at h; exact h.2.1); have hx := HX.out; rw [hx7, PR.bind_ok] at hx; clear HX; have HX := Lib.hid hx; clear hx hx7 hk hr) | (have HERR : Hid (x = .err q7 k) := (by unfold Hid; rw [HX.out, hx7]; rfl); have HBE := Lib.hid (((HI6.out.set 3 (.int .i64 ((l.length : Int) + a.2.size - 1)))).err_step hB HLB.out hBw hk))))
  all_goals first
    | exact ⟨rfl, FormPost.err HERR.out HBE.out⟩
    | skip
  go_region_law (refine step_append_msl rfl (.tmp 77) (.tmp 79) rfl B _ (l ++ a.2.enc l.length) rfl ((HI7.out).own.below (by go_grown) (Nat.le_refl _)) _ [⟨op, vx, 0, ((l.length : Int) + a.2.size - 1), 0⟩] rfl (MS.one (by first | exact Row.new _ _ _ | exact Row.litd (by simp)) h1 h2) (by simp only [List.length_append, Tr.enc_len, List.length_singleton]; omega) (by simp only [World.size_alloc, World.size_drew]; have := (HI7.out).r.lt; omega) (l.length + a.2.size + 1) (by simp only [List.length_append, Tr.enc_len, List.length_singleton]) ?_; intro A6 c6 w6 ho6 hg6 ht6; have hr6 := (HI7.out).mid (by go_grown) hg6; have y0 := hr6.cell; have y1 := hr6.free; have y2 := hr6.lt)
  all_goals
    go_wp2
    go_returns
    obtain ⟨f1, f2, f3, f4⟩ := (HI7.out).finish (by go_grown) hg6 ho6 ht6
    refine FormPost.ok (q := q7) (a := (a.1, .un op vx a.2)) HX.out ?_ f1 f2 (by have e : ((l.length : Int) + a.2.size - 1) = ((l.length + a.2.size - 1 : Nat) : Int) := (by have := a.2.size_pos; omega); rw [e, List.append_assoc] at f3; exact f3) f4
    exact ret_int (by simp only [List.length_append, Tr.enc_len, Tr.size]; omega)

set_option maxRecDepth 100000 in
set_option maxHeartbeats 4000000 in
theorem formula_02 (S : ByteArray) (B g n p many p1 : Nat) (l : List Mk) (lv : Value) (op : Int) (c : UInt8) (w : World) (hih : FormHyp S B g n) (hr : Row w g 89 #[.string S, .int .i64 p, lv, .int .i64 many]) (ho : MO w B lv l) (hB : B ≤ g)
    (hp : p ≤ S.size) (hS : S.size ≤ 1000000) (hm : many < 64) (hn : 64 ≤ n + many) (hl : l.length ≤ many) (hc : needP (bts S) (40 :: bts smallB) 2 p = .ok p c) (h40 : c = 40) (hname : nameP (bts S) true (p + 1) = .ok p1 op) (hp1 : p1 ≤ S.size) (h1 : 0 ≤ op) (h2 : op ≤ 255) (hv : nv op = 0) (hcc : nc op = 2) :
    Calls Tryd.prog 57 #[.pointer (some ⟨g, 0, none⟩)] w (FormPost S B g lv l (form (bts S) (n + 1) p many) w) := by
  obtain ⟨x, hx⟩ : ∃ x, x = form (bts S) (n + 1) p many := ⟨_, rfl⟩
  rw [← hx]
  have hx2 : x = (pastP (bts S) 32 p1).bind fun p _ => (form (bts S) n p (many + 1)).bind fun p a => (pastP (bts S) 32 p).bind fun p _ => (form (bts S) n p a.1).bind fun p b => (pastP (bts S) 41 p).bind fun p _ => .ok p (b.1, .bin op a.2 b.2) := by
    rw [hx, form_need, hc, PR.bind_ok, if_neg (by omega)]
    subst h40
    simp only [decide_true, if_true]
    rw [hname, PR.bind_ok]
    simp only [hv, hcc]
    rfl
  clear hx
  have hneed := fun W h => need_any S { data := #[40, 97, 98, 99, 100, 101, 102, 103, 104, 105, 106, 107, 108, 109, 110, 111, 112, 113, 114, 115, 116, 117, 118, 119, 120, 121, 122] } g p lv (.int .i64 many) 2 W h hp hS
  have e0 : bts { data := #[40, 97, 98, 99, 100, 101, 102, 103, 104, 105, 106, 107, 108, 109, 110, 111, 112, 113, 114, 115, 116, 117, 118, 119, 120, 121, 122] } = 40 :: bts smallB := rfl
  rw [e0, hc] at hneed
  clear e0
  have hnm := fun W h => name_any S true g (p + 1) lv (.int .i64 ((many + 1 : Nat) : Int)) W h (by
    have := (needP_pos hc).2.1
    have := (List.getElem?_eq_some_iff.1 this).1
    rw [bts_len] at this
    omega) hS
  rw [hname] at hnm
  have hin : ((c.toNat : Int) == 40) = true := by subst h40; rfl
  have hm64 : ((many : Int) == 64) = false := by simp; omega
  have hap := ho.apart hr (by decide)
  have hlb : ∀ b, lv.ownBlock = some b → B ≤ b := fun b hb => (ho.own_lt b hb).1
  have hBw : B ≤ w.heap.size := by have := hr.lt; omega
  have HN := Lib.hid hneed; have HM := Lib.hid hnm; have HX := Lib.hid hx2; have HR := Lib.hid hr; have HO := Lib.hid ho; have HAP := Lib.hid hap; have HLB := Lib.hid hlb; have HV := Lib.hid hv; have HC := Lib.hid hcc; have HIH := Lib.hid hih
  clear hneed hnm hx2 hr ho hap hlb hv hcc hc h40 hname hih
  have rc := HR.out.cell
  have rf := HR.out.free
  have rl := HR.out.lt
  have hfd := fld_form2
  go_enter Tryd.func57, Tryd.ntmps57
  go_wp2_with (first
    | (go_at_call 103; refine (HN.out _ HR.out).mono ?_; rintro e w1 ⟨hb1, rfl⟩; have HB1 := Lib.hid hb1; clear hb1; have HR1 := Lib.hid (HR.out.below HB1.out HR.out.lt); have rc := HR1.out.cell; have rf := HR1.out.free; have rl := HR1.out.lt)
    | (go_at_call 104; refine (HM.out _ ((HR1.out.set 3 (.int .i64 ((many : Int) + 1))).set 1 (.int .i64 ((p : Int) + 1)))).mono ?_; rintro e w2 ⟨hk2, rfl, hr2⟩; have HK2 : Hid (Keep (· = g) w w2) := (Keep.set (S := (· = g)) (Keep.set (S := (· = g)) (Keep.of_below HB1.out (Nat.le_refl _)) (p := ⟨g, 3, none⟩) (.inl rfl) _) (p := ⟨g, 1, none⟩) (.inl rfl) _).trans hk2; have HR2 := Lib.hid hr2; clear hk2 hr2 rc rf rl)
    | (go_at_call 91; refine (forms_any op _ h1 h2).mono ?_; rintro e w3 ⟨rfl, hb3⟩; rw [HV.out, HC.out]; have hi := FI.start (S := S) (om := #[.string { data := (nm op).toArray }, .int .i64 0, .int .i64 2]) HK2.out HR2.out HO.out HAP.out hb3; obtain ⟨x0, x1, hz1, HB3⟩ := after1 hb3; have hr3 := HR2.out.below HB3.out HR2.out.lt; have rc := hr3.cell; have rf := hr3.free; have rl := hr3.lt; clear hr3 hb3; have HI := Lib.hid hi; clear hi)
    | (go_at_call 106; (with_reducible refine (past_any S 32 g _ _ _ _ (HI.out).r hp1 hS).mono ?_); intro e w4 hpost; rcases hpost.split with ⟨q4, _, hx4, rfl, hk, hr⟩ | ⟨q4, k, hx4, rfl, hk⟩ <;> first | (have HI4 := Lib.hid ((HI.out).step hk hr); clear rc rf rl x0 x1; have rc := HI4.out.r.cell; have rf := HI4.out.r.free; have rl := HI4.out.r.lt; have x0 := HI4.out.x.cell; have x1 := HI4.out.x.free; have o0 := HI4.out.o.cell; have o1 := HI4.out.o.lt; have o2 := HI4.out.x.lt; have HI4q : q4 ≤ S.size := (by have h := pastP_good (s := bts S) 32 (p := p1) (by rw [bts_len]; assumption); rw [hx4, bts_len] at h; exact h.2.1); have hx := HX.out; rw [hx4, PR.bind_ok] at hx; clear HX; have HX := Lib.hid hx; clear hx hx4 hk hr) | (have HERR : Hid (x = .err q4 k) := (by unfold Hid; rw [HX.out, hx4]; rfl); have HBE := Lib.hid ((HI.out).err_step hB HLB.out hBw hk)))
    | (go_at_call 57; (with_reducible refine (HIH.out _ _ _ _ _ (HI4.out).r (HI4.out).own HI4q (by omega) (by omega) (by omega)).mono ?_); intro e w5 hpost; rcases hpost.split with ⟨q5, a, lv5, hx5, rfl, hk, hr, ho, hlo⟩ | ⟨q5, k, hx5, rfl, hb⟩ <;> first | (have HI5 := Lib.hid ((HI4.out).child hk hr ho hlo); clear rc rf rl x0 x1 o0 o1 o2; have rc := HI5.out.r.cell; have rf := HI5.out.r.free; have rl := HI5.out.r.lt; have x0 := HI5.out.x.cell; have x1 := HI5.out.x.free; have o0 := HI5.out.o.cell; have o1 := HI5.out.o.lt; have o2 := HI5.out.x.lt; have hg := form_good (bts S) n _ (many + 1) (by rw [bts_len]; exact HI4q) (by omega) (by omega); rw [hx5, bts_len] at hg; obtain ⟨_, HI5q, HI5k, HI5m, HI5l, _⟩ := hg; have HI5s := a.2.size_pos; have HX0 := HX.out; rw [hx5, PR.bind_ok] at HX0; clear HX; have HX := Lib.hid HX0; have HI5K := Lib.hid HI5k; clear HX0 hx5 hk hr ho hlo HI5k) | (have HERR : Hid (x = .err q5 k) := (by unfold Hid; rw [HX.out, hx5]; rfl); have HBE := Lib.hid ((HI4.out).below hB HLB.out hBw hb)))
    | (go_at_call 106; (with_reducible refine (past_any S 32 g _ _ _ _ ((HI5.out.set 3 (.int .i64 ((l.length : Int) + a.2.size - 1)))).r HI5q hS).mono ?_); intro e w6 hpost; rcases hpost.split with ⟨q6, _, hx6, rfl, hk, hr⟩ | ⟨q6, k, hx6, rfl, hk⟩ <;> first | (have HI6 := Lib.hid (((HI5.out.set 3 (.int .i64 ((l.length : Int) + a.2.size - 1)))).step hk hr); clear rc rf rl x0 x1 o0 o1 o2; have rc := HI6.out.r.cell; have rf := HI6.out.r.free; have rl := HI6.out.r.lt; have x0 := HI6.out.x.cell; have x1 := HI6.out.x.free; have o0 := HI6.out.o.cell; have o1 := HI6.out.o.lt; have o2 := HI6.out.x.lt; have HI6q : q6 ≤ S.size := (by have h := pastP_good (s := bts S) 32 (p := q5) (by rw [bts_len]; assumption); rw [hx6, bts_len] at h; exact h.2.1); have hx := HX.out; rw [hx6, PR.bind_ok] at hx; clear HX; have HX := Lib.hid hx; clear hx hx6 hk hr) | (have HERR : Hid (x = .err q6 k) := (by unfold Hid; rw [HX.out, hx6]; rfl); have HBE := Lib.hid (((HI5.out.set 3 (.int .i64 ((l.length : Int) + a.2.size - 1)))).err_step hB HLB.out hBw hk)))
    | (go_at_call 57; (with_reducible refine (HIH.out _ _ _ _ _ (HI6.out).r (HI6.out).own HI6q (by omega) (by omega) (by rw [List.length_append, Tr.enc_len]; omega)).mono ?_); intro e w7 hpost; rcases hpost.split with ⟨q7, b, lv7, hx7, rfl, hk, hr, ho, hlo⟩ | ⟨q7, k, hx7, rfl, hb⟩ <;> first | (have HI7 := Lib.hid ((HI6.out).child hk hr ho hlo); clear rc rf rl x0 x1 o0 o1 o2; have rc := HI7.out.r.cell; have rf := HI7.out.r.free; have rl := HI7.out.r.lt; have x0 := HI7.out.x.cell; have x1 := HI7.out.x.free; have o0 := HI7.out.o.cell; have o1 := HI7.out.o.lt; have o2 := HI7.out.x.lt; have hg := form_good (bts S) n _ (a.1) (by rw [bts_len]; exact HI6q) (by omega) (by omega); rw [hx7, bts_len] at hg; obtain ⟨_, HI7q, HI7k, HI7m, HI7l, _⟩ := hg; have HI7s := b.2.size_pos; have HX0 := HX.out; rw [hx7, PR.bind_ok] at HX0; clear HX; have HX := Lib.hid HX0; have HI7K := Lib.hid HI7k; clear HX0 hx7 hk hr ho hlo HI7k) | (have HERR : Hid (x = .err q7 k) := (by unfold Hid; rw [HX.out, hx7]; rfl); have HBE := Lib.hid ((HI6.out).below hB HLB.out hBw hb)))
    | (go_at_call 106; (with_reducible refine (past_any S 41 g _ _ _ _ ((HI7.out.set 4 (.int .i64 ((l.length : Int) + ((a.2.enc l.length).length : Int) + b.2.size - 1)))).r HI7q hS).mono ?_); intro e w8 hpost; rcases hpost.split with ⟨q8, _, hx8, rfl, hk, hr⟩ | ⟨q8, k, hx8, rfl, hk⟩ <;> first | (have HI8 := Lib.hid (((HI7.out.set 4 (.int .i64 ((l.length : Int) + ((a.2.enc l.length).length : Int) + b.2.size - 1)))).step hk hr); clear rc rf rl x0 x1 o0 o1 o2; have rc := HI8.out.r.cell; have rf := HI8.out.r.free; have rl := HI8.out.r.lt; have x0 := HI8.out.x.cell; have x1 := HI8.out.x.free; have o0 := HI8.out.o.cell; have o1 := HI8.out.o.lt; have o2 := HI8.out.x.lt; have HI8q : q8 ≤ S.size := (by have h := pastP_good (s := bts S) 41 (p := q7) (by rw [bts_len]; assumption); rw [hx8, bts_len] at h; exact h.2.1); have hx := HX.out; rw [hx8, PR.bind_ok] at hx; clear HX; have HX := Lib.hid hx; clear hx hx8 hk hr) | (have HERR : Hid (x = .err q8 k) := (by unfold Hid; rw [HX.out, hx8]; rfl); have HBE := Lib.hid (((HI7.out.set 4 (.int .i64 ((l.length : Int) + ((a.2.enc l.length).length : Int) + b.2.size - 1)))).err_step hB HLB.out hBw hk))))
  all_goals first
    | exact ⟨rfl, FormPost.err HERR.out HBE.out⟩
    | skip
  go_region_law (refine step_append_msl rfl (.tmp 77) (.tmp 79) rfl B _ ((l ++ a.2.enc l.length) ++ b.2.enc (l ++ a.2.enc l.length).length) rfl ((HI8.out).own.below (by go_grown) (Nat.le_refl _)) _ [⟨op, 0, 0, ((l.length : Int) + a.2.size - 1), ((l.length : Int) + ((a.2.enc l.length).length : Int) + b.2.size - 1)⟩] rfl (MS.one (by first | exact Row.new _ _ _ | exact Row.litd (by simp)) h1 h2) (by simp only [List.length_append, Tr.enc_len, List.length_singleton]; omega) (by simp only [World.size_alloc, World.size_drew]; have := (HI8.out).r.lt; omega) (l.length + a.2.size + b.2.size + 1) (by simp only [List.length_append, Tr.enc_len, List.length_singleton]) ?_; intro A6 c6 w6 ho6 hg6 ht6; have hr6 := (HI8.out).mid (by go_grown) hg6; have y0 := hr6.cell; have y1 := hr6.free; have y2 := hr6.lt)
  all_goals
    go_wp2
    go_returns
    obtain ⟨f1, f2, f3, f4⟩ := (HI8.out).finish (by go_grown) hg6 ho6 ht6
    refine FormPost.ok (q := q8) (a := (b.1, .bin op a.2 b.2)) HX.out ?_ f1 f2 (by have s1 := a.2.size_pos; have s2 := b.2.size_pos; have e : ((l.length : Int) + a.2.size - 1) = ((l.length + a.2.size - 1 : Nat) : Int) := (by omega); have e2 : ((l.length : Int) + ((a.2.enc l.length).length : Int) + b.2.size - 1) = ((l.length + a.2.size + b.2.size - 1 : Nat) : Int) := (by simp only [Tr.enc_len]; omega); rw [e2, e, List.length_append, Tr.enc_len, List.append_assoc, List.append_assoc] at f3; exact f3) f4
    exact ret_int (by simp only [List.length_append, Tr.enc_len, Tr.size]; omega)
end Go.Proofs.YtdlibehffgfhlaaDoor
