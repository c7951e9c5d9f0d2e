/- Walks of the reference reader's formula (written by gen_reader.py). -/
/- Contracts of the reference's reader: formula; Parse. -/
/- Contract of the reference: Parse. -/
import Derived.Test.YtcjblbhmajdmjaaDoorRdrD
import Derived.Test.YtcjblbhmajdmjaaDoorPrsD
set_option linter.unusedSimpArgs false
set_option linter.unusedVariables false
namespace Go.Proofs.YtcjblbhmajdmjaaDoor
open Go.RowKit

/-- The state of formula: the reader in block g, its node in block X. -/
structure FR (S : ByteArray) (w0 : World) (B g X : Nat) (lv0 : Value) (p many : Nat) (e : Int) (lv : Value) (l : List Mk) (xm : Array Value) (W : World) : Prop where
  r : Row W g 52 #[.string S, .int .i64 p, lv, .int .i64 many, .int .i64 e]
  x : Row W X 23 xm
  own : MO W B lv l
  k : Keep (fun b => b = g ∨ lv0.ownBlock = some b) w0 W
  d : X ≠ g ∧ w0.heap.size ≤ X
  lo : ∀ b, lv.ownBlock = some b → b ≠ g ∧ b ≠ X ∧ (lv0.ownBlock = some b ∨ w0.heap.size ≤ b)
theorem FR.set {S : ByteArray} {w0 : World} {B g X : Nat} {lv0 : Value} {p many : Nat} {e : Int} {lv : Value} {l : List Mk} {xm : Array Value} {W : World} (h : FR S w0 B g X lv0 p many e lv l xm W) (i : Nat) (v : Value) :
    FR S w0 B g X lv0 p many e lv l (xm.setIfInBounds i v) (W.setCell ⟨X, i, none⟩ v) :=
  ⟨h.r.far h.d.1.symm _, h.x.set i v, h.own.far (fun e => (h.lo X e).2.1 rfl) _, h.k.set (.inr h.d.2) _, h.d, h.lo⟩
theorem FR.step {S : ByteArray} {w0 : World} {B g X : Nat} {lv0 : Value} {p q many : Nat} {e e' : Int} {lv : Value} {l : List Mk} {xm : Array Value} {W W' : World} (h : FR S w0 B g X lv0 p many e lv l xm W) (hk : Keep (· = g) W W')
    (hr : Row W' g 52 #[.string S, .int .i64 q, lv, .int .i64 many, .int .i64 e']) : FR S w0 B g X lv0 q many e' lv l xm W' :=
  ⟨hr, hk.row h.x h.d.1, h.own.keep hk fun b hb => (h.lo b hb).1, ⟨hk.os.trans h.k.os, hk.tape.trans h.k.tape, hk.output.trans h.k.output, Nat.le_trans h.k.size hk.size, fun i hi hs => (hk.block i (Nat.lt_of_lt_of_le hi h.k.size) fun e => hs (.inl e)).trans (h.k.block i hi hs)⟩, h.d, h.lo⟩
theorem FR.child {S : ByteArray} {w0 : World} {B g X : Nat} {lv0 : Value} {p q many many' : Nat} {e e' : Int} {lv lv' : Value} {l l' : List Mk} {xm : Array Value} {W W' : World} (h : FR S w0 B g X lv0 p many e lv l xm W) (hk : Keep (fun b => b = g ∨ lv.ownBlock = some b) W W')
    (hr : Row W' g 52 #[.string S, .int .i64 q, lv', .int .i64 many', .int .i64 e']) (ho : MO W' B lv' l') (hl : ∀ b, lv'.ownBlock = some b → lv.ownBlock = some b ∨ W.heap.size ≤ b) : FR S w0 B g X lv0 q many' e' lv' l' xm W' := by
  have hx : ¬ (X = g ∨ lv.ownBlock = some X) := fun e => e.elim h.d.1 fun e => (h.lo X e).2.1 rfl
  refine ⟨hr, hk.row h.x hx, ho, ⟨hk.os.trans h.k.os, hk.tape.trans h.k.tape, hk.output.trans h.k.output, Nat.le_trans h.k.size hk.size, fun i hi hs => ?_⟩, h.d, fun b hb => ?_⟩
  · refine (hk.block i (Nat.lt_of_lt_of_le hi h.k.size) fun e => ?_).trans (h.k.block i hi hs)
    rcases e with e | e
    · exact hs (.inl e)
    · rcases (h.lo i e).2.2 with e2 | e2
      · exact hs (.inr e2)
      · omega
  · rcases hl b hb with e | e
    · exact h.lo b e
    · have a1 := h.r.lt
      have a2 := h.x.lt
      have a4 := h.k.size
      exact ⟨by omega, by omega, .inr (by omega)⟩
theorem FR.start {S : ByteArray} {w w2 : World} {B g p many : Nat} {e : Int} {lv : Value} {l : List Mk} {xm : Array Value} (hK : Keep (· = g) w w2) (hr2 : Row w2 g 52 #[.string S, .int .i64 p, lv, .int .i64 many, .int .i64 e]) (ho : MO w B lv l) (hap : ∀ b, lv.ownBlock = some b → b ≠ g) :
    FR S w B g w2.heap.size lv p many e lv l xm (w2.alloc (.cells xm 23)) := by
  have hl := hr2.lt
  have hks := hK.size
  refine ⟨hr2.alloc _, Row.new _ _ _, (ho.keep hK hap).below (B' := w2.heap.size) (Below.alloc (Below.refl _ _) (Nat.le_refl _) _) (Nat.le_refl _), ?_, ⟨by omega, hks⟩, fun b hb => ?_⟩
  · exact Keep.alloc ⟨hK.os, hK.tape, hK.output, hK.size, fun i hi hs => hK.block i hi fun e => hs (.inl e)⟩ _
  · have := (ho.own_lt b hb).2
    exact ⟨hap b hb, by omega, .inl hb⟩
theorem FR.mid {S : ByteArray} {w0 : World} {B g X : Nat} {lv0 : Value} {p many : Nat} {e : Int} {lv : Value} {l : List Mk} {xm : Array Value} {W W' w6 : World} (h : FR S w0 B g X lv0 p many e lv l xm W) (hb : Below W.heap.size W W') (hg : W'.grownBy w6 lv.ownBlock) :
    Row w6 g 52 #[.string S, .int .i64 p, lv, .int .i64 many, .int .i64 e] := (h.r.below hb h.r.lt).grown hg fun e => (h.lo g e.symm).1 rfl
theorem FR.finish {S : ByteArray} {w0 : World} {B g X : Nat} {lv0 : Value} {p many : Nat} {e : Int} {lv v6 : Value} {l l' : List Mk} {xm : Array Value} {W W' w6 : World} (h : FR S w0 B g X lv0 p many e lv l xm W) (hb : Below W.heap.size W W') (hg : W'.grownBy w6 lv.ownBlock)
    (ho : MO w6 B v6 l') (ht : v6.ownBlock = lv.ownBlock ∨ v6.ownBlock = some W'.heap.size) :
    Keep (fun b => b = g ∨ lv0.ownBlock = some b) w0 (w6.setCell ⟨g, 2, none⟩ v6) ∧ Row (w6.setCell ⟨g, 2, none⟩ v6) g 52 #[.string S, .int .i64 p, v6, .int .i64 many, .int .i64 e] ∧ MO (w6.setCell ⟨g, 2, none⟩ v6) B v6 l' ∧ (∀ b, v6.ownBlock = some b → lv0.ownBlock = some b ∨ w0.heap.size ≤ b) := by
  have hks := h.k.size
  have hbs := hb.size
  have hgl := h.r.lt
  have hv : ∀ b, v6.ownBlock = some b → lv.ownBlock = some b ∨ W'.heap.size ≤ b := fun b e => by
    rcases ht with t | t
    · exact .inl (t.symm.trans e)
    · rw [t] at e; injection e with e; exact .inr (by omega)
  have hgs := hg.size
  refine ⟨?_, (h.mid hb hg).set 2 v6, ho.far (fun e => ?_) _, fun b e => ?_⟩
  · refine Keep.set ?_ (.inl (.inl rfl)) _
    refine ⟨hg.os.trans (hb.os.trans h.k.os), hg.tape.trans (hb.tape.trans h.k.tape), hg.output.trans (hb.output.trans h.k.output), by omega, fun i hi hs => ?_⟩
    refine (hg.block i (by omega) fun e => ?_).trans ((hb.block i (by omega)).trans (h.k.block i hi hs))
    rcases (h.lo i e.symm).2.2 with e2 | e2
    · exact hs (.inr e2)
    · omega
  · rcases hv g e with e2 | e2
    · exact (h.lo g e2).1 rfl
    · omega
  · rcases hv b e with e2 | e2
    · exact (h.lo b e2).2.2
    · exact .inr (by omega)
theorem low_at {S : ByteArray} {p : Nat} (h : p < S.size) : lowAt (bts S) p = low S[p] := by rw [lowAt, bts_get S p h]
theorem formF_node {s : List UInt8} {n p many q : Nat} {L : List Mk} {op : Int} {c : UInt8} (hs : s[p]? = some c) (hc : c = 40 ∨ low c = true) (hm : many < 64) (hname : nameP s (decide (c = 40)) (if c = 40 then p + 1 else p) = .ok q op) :
    formF s (n + 1) ⟨p, L, many, 0⟩ = nodeF (formF s n) s (decide (c = 40)) op ⟨q, L, many + 1, 0⟩ := by
  rw [formF, if_neg (by simp)]
  dsimp only
  rw [hs]
  dsimp only
  rw [if_pos hc, if_neg (by omega), hname]


set_option maxRecDepth 100000 in
set_option maxHeartbeats 4000000 in
theorem rnode_000 (S : ByteArray) (B g n p q many : Nat) (L : List Mk) (lv : Value) (op : Int) (w : World) (hih : RHyp S n) (hr : Row w g 52 #[.string S, .int .i64 p, lv, .int .i64 many, .int .i64 0]) (ho : MO w B lv L) (hB : B ≤ w.heap.size)
    (hp : p < S.size) (hS : S.size ≤ 1000000) (hm : many < 64) (hn : 64 ≤ n + many) (hl : L.length ≤ many) (hc : S[p] ≠ 40 ∧ low S[p] = true) (hname : nameP (bts S) false p = .ok q op) (h1 : 0 ≤ op) (h2 : op ≤ 255) (hv : nv op = 0) (hcc : nc op = 0) :
    Calls Tryd.prog 26 #[.pointer (some ⟨g, 0, none⟩)] w (RPost S B g lv (formF (bts S) (n + 1) ⟨p, L, many, 0⟩) (.tuple #[]) w) := by
  obtain ⟨x, hx⟩ : ∃ x, x = formF (bts S) (n + 1) ⟨p, L, many, 0⟩ := ⟨_, rfl⟩
  rw [← hx]
  rw [formF_node (c := S[p]) (q := q) (op := op) (bts_get S p hp) (.inr hc.2) hm (by rw [if_neg hc.1, decide_eq_false hc.1]; exact hname), decide_eq_false hc.1] at hx
  unfold nodeF at hx
  simp only [hv, hcc, RSt.pe, RSt.at, optF] at hx
  have hap := ho.apart hr (by decide)
  have hok : RSt.okay ⟨q, L, many + 1, 0⟩ := ⟨by simp only; omega, by simp only; omega, fun _ => by simp only; omega⟩
  have hrx := fun W => RUsesX_any op W h1 h2
  have hry := fun W => RUsesY_any op W h1 h2
  have hrc := fun W => RChildren_any op W h1 h2
  rw [hv] at hrx hry
  rw [hcc] at hrc
  simp only [Int.lt_irrefl, decide_false, show ¬ ((1 : Int) < 0) by omega, Bool.false_eq_true, if_false] at hx
  skip
  have hk0 : RSt.okay (⟨q, L, many + 1, 0⟩ : RSt) := ⟨by simp only; omega, by simp only; omega, fun _ => by simp only; omega⟩
  have hlen : L.length ≤ 65 := by have h3 := hk0.1; have h4 := hk0.2.1; (try simp only at h3 h4); omega
  have hnm := fun W h => Rname_any S g p lv (.int .i64 ((many + 1 : Nat) : Int)) false W h hS
  rw [hname] at hnm
  simp only [ofPR] at hnm
  have hq40 : ((S[p].toNat : Int) == 40) = false := by rw [beq_eq_false_iff_ne]; intro h; exact hc.1 (UInt8.toNat_inj.1 (by show S[p].toNat = 40; omega))
  have hlo : lowAt (bts S) p = true := by rw [low_at hp]; exact hc.2
  have hlw := fun W h => Rlower_any S g p lv (.int .i64 (many : Int)) 0 W h hS
  rw [hlo] at hlw
  have hge : decide ((S.size : Int) ≤ p) = false := by simp; omega
  have h64 : decide ((64 : Int) < (many : Int) + 1) = false := by simp; omega
  have hmc : ((many : Int) + 1) = ((many + 1 : Nat) : Int) := by omega
  have HNM := Lib.hid hnm
  have HXX := Lib.hid hx
  have HR := Lib.hid hr
  have HO := Lib.hid ho
  have HAP := Lib.hid hap
  have HMC := Lib.hid hmc
  have HX := Lib.hid hrx
  have HY := Lib.hid hry
  have HC := Lib.hid hrc
  have HLW := Lib.hid hlw
  have rc := hr.cell; have rf := hr.free; have rl := hr.lt
  clear hnm hx hr ho hap hmc hc hname hih hok hn hv hcc hk0 hrx hry hrc hlw hlo
  go_enter Tryd.func26, Tryd.ntmps26
  go_wp2_with fail
  go_quiet (fail)
  go_wp2_with fail
  go_quiet (fail)
  go_wp2_with (first
    | (go_at_call 57; refine (HLW.out _ (by exact HR.out)).mono ?_; rintro e w1 ⟨rfl, n1, rfl⟩)
    | (go_at_call 58; refine (HNM.out _ (by have h := HR.out.set 3 (.int .i64 ((many + 1 : Nat) : Int)); exact h)).mono ?_; rintro e w2 ⟨rfl, hk2, hr2⟩; have hK2 : Keep (· = g) w w2 := Keep.trans (by exact Keep.set (S := (· = g)) (drewN_keep _ w _) (p := ⟨g, 3, none⟩) (.inl rfl) _) hk2; have HI := Lib.hid (FR.start (xm := #[.int .u8 op, .int .i64 0, .int .i64 0, .int .i64 0, .int .i64 0]) hK2 hr2 HO.out HAP.out); have rc := hr2.cell; have rf := hr2.free; have rl := hr2.lt; clear hk2 hr2 hK2)
    | (go_at_call 40; go_must ((with_reducible refine (HX.out _).mono ?_); rintro e w3 ⟨rfl, rfl⟩))
    | (go_at_call 41; go_must ((with_reducible refine (HY.out _).mono ?_); rintro e w3 ⟨rfl, rfl⟩))
    | (go_at_call 60; go_must ((with_reducible refine (HC.out _).mono ?_); rintro e w3 ⟨rfl, rfl⟩)))
  first
  | go_region_law (refine step_append_msl rfl (.tmp 109) (.tmp 111) rfl B _ L rfl ((HI.out).own.below (by go_grown) (Nat.le_refl _)) _ [⟨op, 0, 0, 0, 0⟩] rfl (MS.one (by first | exact Row.new _ _ _ | exact Row.litd (by simp)) h1 h2) (by simp only [List.length_singleton]; omega) (by have h9 := (HI.out).k.size; (try simp only [World.size_alloc, World.size_drew] at h9); simp only [World.size_alloc, World.size_drew]; omega) (L.length + 1) (by simp only [List.length_singleton]) ?_; intro A6 c6 w6 ho6 hg6 ht6; have hr6 := (HI.out).mid (by go_grown) hg6; have y0 := hr6.cell; have y1 := hr6.free; have y2 := hr6.lt)
  | fail
  all_goals
    go_wp2
    go_returns
    obtain ⟨f1, f2, f3, f4⟩ := (HI.out).finish (by go_grown) hg6 ho6 ht6
    rw [HXX.out]
    exact ⟨rfl, _, f1, f2, f3, f4⟩

set_option maxRecDepth 100000 in
set_option maxHeartbeats 4000000 in
theorem rnode_110 (S : ByteArray) (B g n p q many : Nat) (L : List Mk) (lv : Value) (op : Int) (w : World) (hih : RHyp S n) (hr : Row w g 52 #[.string S, .int .i64 p, lv, .int .i64 many, .int .i64 0]) (ho : MO w B lv L) (hB : B ≤ w.heap.size)
    (hp : p < S.size) (hS : S.size ≤ 1000000) (hm : many < 64) (hn : 64 ≤ n + many) (hl : L.length ≤ many) (hc : S[p] = 40) (hname : nameP (bts S) true (p + 1) = .ok q op) (h1 : 0 ≤ op) (h2 : op ≤ 255) (hv : nv op = 1) (hcc : nc op = 0) :
    Calls Tryd.prog 26 #[.pointer (some ⟨g, 0, none⟩)] w (RPost S B g lv (formF (bts S) (n + 1) ⟨p, L, many, 0⟩) (.tuple #[]) w) := by
  obtain ⟨x, hx⟩ : ∃ x, x = formF (bts S) (n + 1) ⟨p, L, many, 0⟩ := ⟨_, rfl⟩
  rw [← hx]
  rw [formF_node (c := S[p]) (q := q) (op := op) (bts_get S p hp) (.inl hc) hm (by rw [hc]; exact hname), hc] at hx
  unfold nodeF at hx
  simp only [hv, hcc, RSt.pe, RSt.at, optF] at hx
  have hap := ho.apart hr (by decide)
  have hok : RSt.okay ⟨q, L, many + 1, 0⟩ := ⟨by simp only; omega, by simp only; omega, fun _ => by simp only; omega⟩
  have hrx := fun W => RUsesX_any op W h1 h2
  have hry := fun W => RUsesY_any op W h1 h2
  have hrc := fun W => RChildren_any op W h1 h2
  rw [hv] at hrx hry
  rw [hcc] at hrc
  obtain ⟨r1, hr1⟩ : ∃ r, r = varF (bts S) (q, (0 : Int)) := ⟨_, rfl⟩
  have hv1 := fun W h => Rvariable_any S g q lv (.int .i64 ((many + 1 : Nat) : Int)) 0 W h hS
  rw [← hr1] at hv1
  simp only [show (0 : Int) < 1 by omega, show (1 : Int) < 2 by omega, decide_true, if_true, decide_false, Bool.false_eq_true, if_false, Int.lt_irrefl, ← hr1] at hx
  obtain ⟨a1, v1⟩ := r1
  simp only at hv1 hx
  try simp only [show ¬ ((1 : Int) < 0) by omega, show (0 : Int) < 1 by omega, show (0 : Int) < 2 by omega, show (1 : Int) < 2 by omega, Int.lt_irrefl, decide_true, decide_false, Bool.false_eq_true, if_true, if_false] at hx
  have hk0 : RSt.okay (⟨a1.1, L, many + 1, a1.2⟩ : RSt) := ⟨by simp only; omega, by simp only; omega, fun _ => by simp only; omega⟩
  obtain ⟨z, hz⟩ : ∃ z, z = mustF (bts S) 41 (a1.1, a1.2) := ⟨_, rfl⟩
  have hmu := fun lv W h => Rmust_at S g a1.1 lv (.int .i64 ((many + 1 : Nat) : Int)) a1.2 41 41 rfl W h hS
  rw [← hz] at hmu
  simp only [← hz] at hx
  have hlen : L.length ≤ 65 := by have h3 := hk0.1; have h4 := hk0.2.1; (try simp only at h3 h4); omega
  have hnm := fun W h => Rname_any S g (p + 1) lv (.int .i64 ((many + 1 : Nat) : Int)) true W h hS
  rw [hname] at hnm
  simp only [ofPR] at hnm
  have hq40 : ((S[p].toNat : Int) == 40) = true := by rw [hc]; rfl
  have hge : decide ((S.size : Int) ≤ p) = false := by simp; omega
  have h64 : decide ((64 : Int) < (many : Int) + 1) = false := by simp; omega
  have hmc : ((many : Int) + 1) = ((many + 1 : Nat) : Int) := by omega
  have HNM := Lib.hid hnm
  have HXX := Lib.hid hx
  have HR := Lib.hid hr
  have HO := Lib.hid ho
  have HAP := Lib.hid hap
  have HMC := Lib.hid hmc
  have HX := Lib.hid hrx
  have HY := Lib.hid hry
  have HC := Lib.hid hrc
  have HV1 := Lib.hid hv1
  have HMU := Lib.hid hmu
  have rc := hr.cell; have rf := hr.free; have rl := hr.lt
  clear hnm hx hr ho hap hmc hc hname hih hok hn hv hcc hk0 hrx hry hrc hv1 hr1 hmu hz
  go_enter Tryd.func26, Tryd.ntmps26
  go_wp2_with fail
  go_quiet (fail)
  go_wp2_with fail
  go_quiet (fail)
  go_wp2_with (first
    | (go_at_call 58; refine (HNM.out _ (by have h := (HR.out.set 3 (.int .i64 ((many + 1 : Nat) : Int))).set 1 (.int .i64 ((p + 1 : Nat) : Int)); exact h)).mono ?_; rintro e w2 ⟨rfl, hk2, hr2⟩; have hK2 : Keep (· = g) w w2 := Keep.trans (by exact Keep.set (S := (· = g)) (Keep.set (S := (· = g)) (drewN_keep _ w _) (p := ⟨g, 3, none⟩) (.inl rfl) _) (p := ⟨g, 1, none⟩) (.inl rfl) _) hk2; have HI := Lib.hid (FR.start (xm := #[.int .u8 op, .int .i64 0, .int .i64 0, .int .i64 0, .int .i64 0]) hK2 hr2 HO.out HAP.out); have rc := hr2.cell; have rf := hr2.free; have rl := hr2.lt; clear hk2 hr2 hK2)
    | (go_at_call 40; go_must ((with_reducible refine (HX.out _).mono ?_); rintro e w3 ⟨rfl, rfl⟩))
    | (go_at_call 41; go_must ((with_reducible refine (HY.out _).mono ?_); rintro e w3 ⟨rfl, rfl⟩))
    | (go_at_call 60; go_must ((with_reducible refine (HC.out _).mono ?_); rintro e w3 ⟨rfl, rfl⟩))
    | (go_at_call 59; (with_reducible refine (HV1.out _ (HI.out).r).mono ?_); rintro e w4 ⟨rfl, hk, hr⟩; have HJ4 := Lib.hid ((HI.out).step hk hr); clear rc rf rl; have rc := HJ4.out.r.cell; have rf := HJ4.out.r.free; have rl := HJ4.out.r.lt; have x0 := HJ4.out.x.cell; have x1 := HJ4.out.x.free; have x2 := HJ4.out.x.lt; clear hk hr)
    | (go_at_call 62; (with_reducible refine (HMU.out _ _ ((HJ4.out.set 1 (.int .i64 v1))).r).mono ?_); rintro e w5 ⟨rfl, hk, hr⟩; have HJ5 := Lib.hid (((HJ4.out.set 1 (.int .i64 v1))).step hk hr); clear rc rf rl x0 x1 x2; have rc := HJ5.out.r.cell; have rf := HJ5.out.r.free; have rl := HJ5.out.r.lt; have x0 := HJ5.out.x.cell; have x1 := HJ5.out.x.free; have x2 := HJ5.out.x.lt; clear hk hr))
  first
  | go_region_law (refine step_append_msl rfl (.tmp 109) (.tmp 111) rfl B _ L rfl ((HJ5.out).own.below (by go_grown) (Nat.le_refl _)) _ [⟨op, v1, 0, 0, 0⟩] rfl (MS.one (by first | exact Row.new _ _ _ | exact Row.litd (by simp)) h1 h2) (by simp only [List.length_singleton]; omega) (by have h9 := (HJ5.out).k.size; (try simp only [World.size_alloc, World.size_drew] at h9); simp only [World.size_alloc, World.size_drew]; omega) (L.length + 1) (by simp only [List.length_singleton]) ?_; intro A6 c6 w6 ho6 hg6 ht6; have hr6 := (HJ5.out).mid (by go_grown) hg6; have y0 := hr6.cell; have y1 := hr6.free; have y2 := hr6.lt)
  | fail
  all_goals
    go_wp2
    go_returns
    obtain ⟨f1, f2, f3, f4⟩ := (HJ5.out).finish (by go_grown) hg6 ho6 ht6
    rw [HXX.out]
    exact ⟨rfl, _, f1, f2, f3, f4⟩

set_option maxRecDepth 100000 in
set_option maxHeartbeats 4000000 in
theorem rnode_120 (S : ByteArray) (B g n p q many : Nat) (L : List Mk) (lv : Value) (op : Int) (w : World) (hih : RHyp S n) (hr : Row w g 52 #[.string S, .int .i64 p, lv, .int .i64 many, .int .i64 0]) (ho : MO w B lv L) (hB : B ≤ w.heap.size)
    (hp : p < S.size) (hS : S.size ≤ 1000000) (hm : many < 64) (hn : 64 ≤ n + many) (hl : L.length ≤ many) (hc : S[p] = 40) (hname : nameP (bts S) true (p + 1) = .ok q op) (h1 : 0 ≤ op) (h2 : op ≤ 255) (hv : nv op = 2) (hcc : nc op = 0) :
    Calls Tryd.prog 26 #[.pointer (some ⟨g, 0, none⟩)] w (RPost S B g lv (formF (bts S) (n + 1) ⟨p, L, many, 0⟩) (.tuple #[]) w) := by
  obtain ⟨x, hx⟩ : ∃ x, x = formF (bts S) (n + 1) ⟨p, L, many, 0⟩ := ⟨_, rfl⟩
  rw [← hx]
  rw [formF_node (c := S[p]) (q := q) (op := op) (bts_get S p hp) (.inl hc) hm (by rw [hc]; exact hname), hc] at hx
  unfold nodeF at hx
  simp only [hv, hcc, RSt.pe, RSt.at, optF] at hx
  have hap := ho.apart hr (by decide)
  have hok : RSt.okay ⟨q, L, many + 1, 0⟩ := ⟨by simp only; omega, by simp only; omega, fun _ => by simp only; omega⟩
  have hrx := fun W => RUsesX_any op W h1 h2
  have hry := fun W => RUsesY_any op W h1 h2
  have hrc := fun W => RChildren_any op W h1 h2
  rw [hv] at hrx hry
  rw [hcc] at hrc
  obtain ⟨r1, hr1⟩ : ∃ r, r = varF (bts S) (q, (0 : Int)) := ⟨_, rfl⟩
  have hv1 := fun W h => Rvariable_any S g q lv (.int .i64 ((many + 1 : Nat) : Int)) 0 W h hS
  rw [← hr1] at hv1
  simp only [show (0 : Int) < 2 by omega, show (1 : Int) < 2 by omega, decide_true, if_true, decide_false, Bool.false_eq_true, if_false, Int.lt_irrefl, ← hr1] at hx
  obtain ⟨a1, v1⟩ := r1
  simp only at hv1 hx
  obtain ⟨r2, hr2⟩ : ∃ r, r = varF (bts S) a1 := ⟨_, rfl⟩
  have hv2 := fun W h => Rvariable_any S g a1.1 lv (.int .i64 ((many + 1 : Nat) : Int)) a1.2 W h hS
  have hz2 : r2.1.2 = 0 → a1.2 = 0 := fun h => varF_zero (s := bts S) (a := a1) (by rw [← hr2]; exact h)
  rw [← hr2] at hv2
  simp only [show (0 : Int) < 2 by omega, show (1 : Int) < 2 by omega, decide_true, if_true, decide_false, Bool.false_eq_true, if_false, Int.lt_irrefl, ← hr2] at hx
  obtain ⟨a2, v2⟩ := r2
  simp only at hv2 hx hz2
  try simp only [show ¬ ((1 : Int) < 0) by omega, show (0 : Int) < 1 by omega, show (0 : Int) < 2 by omega, show (1 : Int) < 2 by omega, Int.lt_irrefl, decide_true, decide_false, Bool.false_eq_true, if_true, if_false] at hx
  have hk0 : RSt.okay (⟨a2.1, L, many + 1, a2.2⟩ : RSt) := ⟨by simp only; omega, by simp only; omega, fun _ => by simp only; omega⟩
  obtain ⟨z, hz⟩ : ∃ z, z = mustF (bts S) 41 (a2.1, a2.2) := ⟨_, rfl⟩
  have hmu := fun lv W h => Rmust_at S g a2.1 lv (.int .i64 ((many + 1 : Nat) : Int)) a2.2 41 41 rfl W h hS
  rw [← hz] at hmu
  simp only [← hz] at hx
  have hlen : L.length ≤ 65 := by have h3 := hk0.1; have h4 := hk0.2.1; (try simp only at h3 h4); omega
  have hnm := fun W h => Rname_any S g (p + 1) lv (.int .i64 ((many + 1 : Nat) : Int)) true W h hS
  rw [hname] at hnm
  simp only [ofPR] at hnm
  have hq40 : ((S[p].toNat : Int) == 40) = true := by rw [hc]; rfl
  have hge : decide ((S.size : Int) ≤ p) = false := by simp; omega
  have h64 : decide ((64 : Int) < (many : Int) + 1) = false := by simp; omega
  have hmc : ((many : Int) + 1) = ((many + 1 : Nat) : Int) := by omega
  have HNM := Lib.hid hnm
  have HXX := Lib.hid hx
  have HR := Lib.hid hr
  have HO := Lib.hid ho
  have HAP := Lib.hid hap
  have HMC := Lib.hid hmc
  have HX := Lib.hid hrx
  have HY := Lib.hid hry
  have HC := Lib.hid hrc
  have HV1 := Lib.hid hv1
  have HV2 := Lib.hid hv2
  have HMU := Lib.hid hmu
  have rc := hr.cell; have rf := hr.free; have rl := hr.lt
  clear hnm hx hr ho hap hmc hc hname hih hok hn hv hcc hk0 hrx hry hrc hv1 hr1 hv2 hr2 hmu hz
  go_enter Tryd.func26, Tryd.ntmps26
  go_wp2_with fail
  go_quiet (fail)
  go_wp2_with fail
  go_quiet (fail)
  go_wp2_with (first
    | (go_at_call 58; refine (HNM.out _ (by have h := (HR.out.set 3 (.int .i64 ((many + 1 : Nat) : Int))).set 1 (.int .i64 ((p + 1 : Nat) : Int)); exact h)).mono ?_; rintro e w2 ⟨rfl, hk2, hr2⟩; have hK2 : Keep (· = g) w w2 := Keep.trans (by exact Keep.set (S := (· = g)) (Keep.set (S := (· = g)) (drewN_keep _ w _) (p := ⟨g, 3, none⟩) (.inl rfl) _) (p := ⟨g, 1, none⟩) (.inl rfl) _) hk2; have HI := Lib.hid (FR.start (xm := #[.int .u8 op, .int .i64 0, .int .i64 0, .int .i64 0, .int .i64 0]) hK2 hr2 HO.out HAP.out); have rc := hr2.cell; have rf := hr2.free; have rl := hr2.lt; clear hk2 hr2 hK2)
    | (go_at_call 40; go_must ((with_reducible refine (HX.out _).mono ?_); rintro e w3 ⟨rfl, rfl⟩))
    | (go_at_call 41; go_must ((with_reducible refine (HY.out _).mono ?_); rintro e w3 ⟨rfl, rfl⟩))
    | (go_at_call 60; go_must ((with_reducible refine (HC.out _).mono ?_); rintro e w3 ⟨rfl, rfl⟩))
    | (go_at_call 59; (with_reducible refine (HV1.out _ (HI.out).r).mono ?_); rintro e w4 ⟨rfl, hk, hr⟩; have HJ4 := Lib.hid ((HI.out).step hk hr); clear rc rf rl; have rc := HJ4.out.r.cell; have rf := HJ4.out.r.free; have rl := HJ4.out.r.lt; have x0 := HJ4.out.x.cell; have x1 := HJ4.out.x.free; have x2 := HJ4.out.x.lt; clear hk hr)
    | (go_at_call 59; (with_reducible refine (HV2.out _ ((HJ4.out.set 1 (.int .i64 v1))).r).mono ?_); rintro e w5 ⟨rfl, hk, hr⟩; have HJ5 := Lib.hid (((HJ4.out.set 1 (.int .i64 v1))).step hk hr); clear rc rf rl x0 x1 x2; have rc := HJ5.out.r.cell; have rf := HJ5.out.r.free; have rl := HJ5.out.r.lt; have x0 := HJ5.out.x.cell; have x1 := HJ5.out.x.free; have x2 := HJ5.out.x.lt; clear hk hr)
    | (go_at_call 62; (with_reducible refine (HMU.out _ _ ((HJ5.out.set 2 (.int .i64 v2))).r).mono ?_); rintro e w6 ⟨rfl, hk, hr⟩; have HJ6 := Lib.hid (((HJ5.out.set 2 (.int .i64 v2))).step hk hr); clear rc rf rl x0 x1 x2; have rc := HJ6.out.r.cell; have rf := HJ6.out.r.free; have rl := HJ6.out.r.lt; have x0 := HJ6.out.x.cell; have x1 := HJ6.out.x.free; have x2 := HJ6.out.x.lt; clear hk hr))
  first
  | go_region_law (refine step_append_msl rfl (.tmp 109) (.tmp 111) rfl B _ L rfl ((HJ6.out).own.below (by go_grown) (Nat.le_refl _)) _ [⟨op, v1, v2, 0, 0⟩] rfl (MS.one (by first | exact Row.new _ _ _ | exact Row.litd (by simp)) h1 h2) (by simp only [List.length_singleton]; omega) (by have h9 := (HJ6.out).k.size; (try simp only [World.size_alloc, World.size_drew] at h9); simp only [World.size_alloc, World.size_drew]; omega) (L.length + 1) (by simp only [List.length_singleton]) ?_; intro A6 c6 w6 ho6 hg6 ht6; have hr6 := (HJ6.out).mid (by go_grown) hg6; have y0 := hr6.cell; have y1 := hr6.free; have y2 := hr6.lt)
  | fail
  all_goals
    go_wp2
    go_returns
    obtain ⟨f1, f2, f3, f4⟩ := (HJ6.out).finish (by go_grown) hg6 ho6 ht6
    rw [HXX.out]
    exact ⟨rfl, _, f1, f2, f3, f4⟩

set_option maxRecDepth 100000 in
set_option maxHeartbeats 4000000 in
theorem rnode_101 (S : ByteArray) (B g n p q many : Nat) (L : List Mk) (lv : Value) (op : Int) (w : World) (hih : RHyp S n) (hr : Row w g 52 #[.string S, .int .i64 p, lv, .int .i64 many, .int .i64 0]) (ho : MO w B lv L) (hB : B ≤ w.heap.size)
    (hp : p < S.size) (hS : S.size ≤ 1000000) (hm : many < 64) (hn : 64 ≤ n + many) (hl : L.length ≤ many) (hc : S[p] = 40) (hname : nameP (bts S) true (p + 1) = .ok q op) (h1 : 0 ≤ op) (h2 : op ≤ 255) (hv : nv op = 0) (hcc : nc op = 1) :
    Calls Tryd.prog 26 #[.pointer (some ⟨g, 0, none⟩)] w (RPost S B g lv (formF (bts S) (n + 1) ⟨p, L, many, 0⟩) (.tuple #[]) w) := by
  obtain ⟨x, hx⟩ : ∃ x, x = formF (bts S) (n + 1) ⟨p, L, many, 0⟩ := ⟨_, rfl⟩
  rw [← hx]
  rw [formF_node (c := S[p]) (q := q) (op := op) (bts_get S p hp) (.inl hc) hm (by rw [hc]; exact hname), hc] at hx
  unfold nodeF at hx
  simp only [hv, hcc, RSt.pe, RSt.at, optF] at hx
  have hap := ho.apart hr (by decide)
  have hok : RSt.okay ⟨q, L, many + 1, 0⟩ := ⟨by simp only; omega, by simp only; omega, fun _ => by simp only; omega⟩
  have hrx := fun W => RUsesX_any op W h1 h2
  have hry := fun W => RUsesY_any op W h1 h2
  have hrc := fun W => RChildren_any op W h1 h2
  rw [hv] at hrx hry
  rw [hcc] at hrc
  simp only [Int.lt_irrefl, decide_false, show ¬ ((1 : Int) < 0) by omega, Bool.false_eq_true, if_false] at hx
  try simp only [show ¬ ((1 : Int) < 0) by omega, show (0 : Int) < 1 by omega, show (0 : Int) < 2 by omega, show (1 : Int) < 2 by omega, Int.lt_irrefl, decide_true, decide_false, Bool.false_eq_true, if_true, if_false] at hx
  have hk0 : RSt.okay (⟨q, L, many + 1, 0⟩ : RSt) := ⟨by simp only; omega, by simp only; omega, fun _ => by simp only; omega⟩
  obtain ⟨s1, hs1⟩ : ∃ s, s = childF (formF (bts S) n) (bts S) (⟨q, L, many + 1, 0⟩ : RSt) := ⟨_, rfl⟩
  have hf1 := child_from (s := bts S) (F := formF (bts S) n) (fun st h => formF_from (bts S) n st h) (st := (⟨q, L, many + 1, 0⟩ : RSt)) hk0
  have hk1 := RSt.from_okay hk0 hf1
  rw [← hs1] at hf1 hk1
  have hc1 := fun W h1 h2 h3 => Rchild_any S n hih hS B g q (many + 1) 0 L lv W h1 h2 h3 (by omega) (by omega) (fun _ => ⟨by omega, by omega⟩)
  rw [← hs1] at hc1
  simp only [← hs1] at hx
  obtain ⟨z, hz⟩ : ∃ z, z = mustF (bts S) 41 (s1.p, s1.e) := ⟨_, rfl⟩
  have hmu := fun lv W h => Rmust_at S g s1.p lv (.int .i64 ((s1.many : Nat) : Int)) s1.e 41 41 rfl W h hS
  rw [← hz] at hmu
  simp only [← hz] at hx
  have hlen : s1.L.length ≤ 65 := by have h3 := hk1.1; have h4 := hk1.2.1; (try simp only at h3 h4); omega
  obtain ⟨n1, hn1⟩ : ∃ k, k = s1.L.length := ⟨_, rfl⟩
  have hb1 : n1 ≤ 65 := by have h3 := hk1.1; have h4 := hk1.2.1; omega
  rw [← hn1] at hx
  have hnm := fun W h => Rname_any S g (p + 1) lv (.int .i64 ((many + 1 : Nat) : Int)) true W h hS
  rw [hname] at hnm
  simp only [ofPR] at hnm
  have hq40 : ((S[p].toNat : Int) == 40) = true := by rw [hc]; rfl
  have hge : decide ((S.size : Int) ≤ p) = false := by simp; omega
  have h64 : decide ((64 : Int) < (many : Int) + 1) = false := by simp; omega
  have hmc : ((many : Int) + 1) = ((many + 1 : Nat) : Int) := by omega
  have HNM := Lib.hid hnm
  have HXX := Lib.hid hx
  have HR := Lib.hid hr
  have HO := Lib.hid ho
  have HAP := Lib.hid hap
  have HMC := Lib.hid hmc
  have HX := Lib.hid hrx
  have HY := Lib.hid hry
  have HC := Lib.hid hrc
  have HC1 := Lib.hid hc1
  have HMU := Lib.hid hmu
  have HN1 := Lib.hid hn1
  have rc := hr.cell; have rf := hr.free; have rl := hr.lt
  clear hnm hx hr ho hap hmc hc hname hih hok hn hv hcc hk0 hrx hry hrc hc1 hs1 hmu hz hn1 hf1 hk1
  go_enter Tryd.func26, Tryd.ntmps26
  go_wp2_with fail
  go_quiet (fail)
  go_wp2_with fail
  go_quiet (fail)
  go_wp2_with (first
    | (go_at_call 58; refine (HNM.out _ (by have h := (HR.out.set 3 (.int .i64 ((many + 1 : Nat) : Int))).set 1 (.int .i64 ((p + 1 : Nat) : Int)); exact h)).mono ?_; rintro e w2 ⟨rfl, hk2, hr2⟩; have hK2 : Keep (· = g) w w2 := Keep.trans (by exact Keep.set (S := (· = g)) (Keep.set (S := (· = g)) (drewN_keep _ w _) (p := ⟨g, 3, none⟩) (.inl rfl) _) (p := ⟨g, 1, none⟩) (.inl rfl) _) hk2; have HI := Lib.hid (FR.start (xm := #[.int .u8 op, .int .i64 0, .int .i64 0, .int .i64 0, .int .i64 0]) hK2 hr2 HO.out HAP.out); have rc := hr2.cell; have rf := hr2.free; have rl := hr2.lt; clear hk2 hr2 hK2)
    | (go_at_call 40; go_must ((with_reducible refine (HX.out _).mono ?_); rintro e w3 ⟨rfl, rfl⟩))
    | (go_at_call 41; go_must ((with_reducible refine (HY.out _).mono ?_); rintro e w3 ⟨rfl, rfl⟩))
    | (go_at_call 60; go_must ((with_reducible refine (HC.out _).mono ?_); rintro e w3 ⟨rfl, rfl⟩))
    | (go_at_call 61; (with_reducible refine (HC1.out _ (HI.out).r (HI.out).own (Nat.le_trans hB (HI.out).k.size)).mono ?_); rintro e w4 ⟨rfl, lv1, hk, hr, ho, hlo⟩; rw [← HN1.out]; have HJ4 := Lib.hid ((HI.out).child hk hr ho hlo); clear rc rf rl; have rc := HJ4.out.r.cell; have rf := HJ4.out.r.free; have rl := HJ4.out.r.lt; have x0 := HJ4.out.x.cell; have x1 := HJ4.out.x.free; have x2 := HJ4.out.x.lt; clear hk hr ho hlo)
    | (go_at_call 62; (with_reducible refine (HMU.out _ _ ((HJ4.out.set 3 (.int .i64 ((n1 : Int) - 1)))).r).mono ?_); rintro e w5 ⟨rfl, hk, hr⟩; have HJ5 := Lib.hid (((HJ4.out.set 3 (.int .i64 ((n1 : Int) - 1)))).step hk hr); clear rc rf rl x0 x1 x2; have rc := HJ5.out.r.cell; have rf := HJ5.out.r.free; have rl := HJ5.out.r.lt; have x0 := HJ5.out.x.cell; have x1 := HJ5.out.x.free; have x2 := HJ5.out.x.lt; clear hk hr))
  first
  | go_region_law (refine step_append_msl rfl (.tmp 109) (.tmp 111) rfl B _ s1.L rfl ((HJ5.out).own.below (by go_grown) (Nat.le_refl _)) _ [⟨op, 0, 0, ((n1 : Int) - 1), 0⟩] rfl (MS.one (by first | exact Row.new _ _ _ | exact Row.litd (by simp)) h1 h2) (by simp only [List.length_singleton]; omega) (by have h9 := (HJ5.out).k.size; (try simp only [World.size_alloc, World.size_drew] at h9); simp only [World.size_alloc, World.size_drew]; omega) (s1.L.length + 1) (by simp only [List.length_singleton]) ?_; intro A6 c6 w6 ho6 hg6 ht6; have hr6 := (HJ5.out).mid (by go_grown) hg6; have y0 := hr6.cell; have y1 := hr6.free; have y2 := hr6.lt)
  | fail
  all_goals
    go_wp2
    go_returns
    obtain ⟨f1, f2, f3, f4⟩ := (HJ5.out).finish (by go_grown) hg6 ho6 ht6
    rw [HXX.out]
    exact ⟨rfl, _, f1, f2, f3, f4⟩

set_option maxRecDepth 100000 in
set_option maxHeartbeats 4000000 in
theorem rnode_111 (S : ByteArray) (B g n p q many : Nat) (L : List Mk) (lv : Value) (op : Int) (w : World) (hih : RHyp S n) (hr : Row w g 52 #[.string S, .int .i64 p, lv, .int .i64 many, .int .i64 0]) (ho : MO w B lv L) (hB : B ≤ w.heap.size)
    (hp : p < S.size) (hS : S.size ≤ 1000000) (hm : many < 64) (hn : 64 ≤ n + many) (hl : L.length ≤ many) (hc : S[p] = 40) (hname : nameP (bts S) true (p + 1) = .ok q op) (h1 : 0 ≤ op) (h2 : op ≤ 255) (hv : nv op = 1) (hcc : nc op = 1) :
    Calls Tryd.prog 26 #[.pointer (some ⟨g, 0, none⟩)] w (RPost S B g lv (formF (bts S) (n + 1) ⟨p, L, many, 0⟩) (.tuple #[]) w) := by
  obtain ⟨x, hx⟩ : ∃ x, x = formF (bts S) (n + 1) ⟨p, L, many, 0⟩ := ⟨_, rfl⟩
  rw [← hx]
  rw [formF_node (c := S[p]) (q := q) (op := op) (bts_get S p hp) (.inl hc) hm (by rw [hc]; exact hname), hc] at hx
  unfold nodeF at hx
  simp only [hv, hcc, RSt.pe, RSt.at, optF] at hx
  have hap := ho.apart hr (by decide)
  have hok : RSt.okay ⟨q, L, many + 1, 0⟩ := ⟨by simp only; omega, by simp only; omega, fun _ => by simp only; omega⟩
  have hrx := fun W => RUsesX_any op W h1 h2
  have hry := fun W => RUsesY_any op W h1 h2
  have hrc := fun W => RChildren_any op W h1 h2
  rw [hv] at hrx hry
  rw [hcc] at hrc
  obtain ⟨r1, hr1⟩ : ∃ r, r = varF (bts S) (q, (0 : Int)) := ⟨_, rfl⟩
  have hv1 := fun W h => Rvariable_any S g q lv (.int .i64 ((many + 1 : Nat) : Int)) 0 W h hS
  rw [← hr1] at hv1
  simp only [show (0 : Int) < 1 by omega, show (1 : Int) < 2 by omega, decide_true, if_true, decide_false, Bool.false_eq_true, if_false, Int.lt_irrefl, ← hr1] at hx
  obtain ⟨a1, v1⟩ := r1
  simp only at hv1 hx
  try simp only [show ¬ ((1 : Int) < 0) by omega, show (0 : Int) < 1 by omega, show (0 : Int) < 2 by omega, show (1 : Int) < 2 by omega, Int.lt_irrefl, decide_true, decide_false, Bool.false_eq_true, if_true, if_false] at hx
  have hk0 : RSt.okay (⟨a1.1, L, many + 1, a1.2⟩ : RSt) := ⟨by simp only; omega, by simp only; omega, fun _ => by simp only; omega⟩
  obtain ⟨s1, hs1⟩ : ∃ s, s = childF (formF (bts S) n) (bts S) (⟨a1.1, L, many + 1, a1.2⟩ : RSt) := ⟨_, rfl⟩
  have hf1 := child_from (s := bts S) (F := formF (bts S) n) (fun st h => formF_from (bts S) n st h) (st := (⟨a1.1, L, many + 1, a1.2⟩ : RSt)) hk0
  have hk1 := RSt.from_okay hk0 hf1
  rw [← hs1] at hf1 hk1
  have hc1 := fun W h1 h2 h3 => Rchild_any S n hih hS B g a1.1 (many + 1) a1.2 L lv W h1 h2 h3 (by omega) (by omega) (fun _ => ⟨by omega, by omega⟩)
  rw [← hs1] at hc1
  simp only [← hs1] at hx
  obtain ⟨z, hz⟩ : ∃ z, z = mustF (bts S) 41 (s1.p, s1.e) := ⟨_, rfl⟩
  have hmu := fun lv W h => Rmust_at S g s1.p lv (.int .i64 ((s1.many : Nat) : Int)) s1.e 41 41 rfl W h hS
  rw [← hz] at hmu
  simp only [← hz] at hx
  have hlen : s1.L.length ≤ 65 := by have h3 := hk1.1; have h4 := hk1.2.1; (try simp only at h3 h4); omega
  obtain ⟨n1, hn1⟩ : ∃ k, k = s1.L.length := ⟨_, rfl⟩
  have hb1 : n1 ≤ 65 := by have h3 := hk1.1; have h4 := hk1.2.1; omega
  rw [← hn1] at hx
  have hnm := fun W h => Rname_any S g (p + 1) lv (.int .i64 ((many + 1 : Nat) : Int)) true W h hS
  rw [hname] at hnm
  simp only [ofPR] at hnm
  have hq40 : ((S[p].toNat : Int) == 40) = true := by rw [hc]; rfl
  have hge : decide ((S.size : Int) ≤ p) = false := by simp; omega
  have h64 : decide ((64 : Int) < (many : Int) + 1) = false := by simp; omega
  have hmc : ((many : Int) + 1) = ((many + 1 : Nat) : Int) := by omega
  have HNM := Lib.hid hnm
  have HXX := Lib.hid hx
  have HR := Lib.hid hr
  have HO := Lib.hid ho
  have HAP := Lib.hid hap
  have HMC := Lib.hid hmc
  have HX := Lib.hid hrx
  have HY := Lib.hid hry
  have HC := Lib.hid hrc
  have HV1 := Lib.hid hv1
  have HC1 := Lib.hid hc1
  have HMU := Lib.hid hmu
  have HN1 := Lib.hid hn1
  have rc := hr.cell; have rf := hr.free; have rl := hr.lt
  clear hnm hx hr ho hap hmc hc hname hih hok hn hv hcc hk0 hrx hry hrc hv1 hr1 hc1 hs1 hmu hz hn1 hf1 hk1
  go_enter Tryd.func26, Tryd.ntmps26
  go_wp2_with fail
  go_quiet (fail)
  go_wp2_with fail
  go_quiet (fail)
  go_wp2_with (first
    | (go_at_call 58; refine (HNM.out _ (by have h := (HR.out.set 3 (.int .i64 ((many + 1 : Nat) : Int))).set 1 (.int .i64 ((p + 1 : Nat) : Int)); exact h)).mono ?_; rintro e w2 ⟨rfl, hk2, hr2⟩; have hK2 : Keep (· = g) w w2 := Keep.trans (by exact Keep.set (S := (· = g)) (Keep.set (S := (· = g)) (drewN_keep _ w _) (p := ⟨g, 3, none⟩) (.inl rfl) _) (p := ⟨g, 1, none⟩) (.inl rfl) _) hk2; have HI := Lib.hid (FR.start (xm := #[.int .u8 op, .int .i64 0, .int .i64 0, .int .i64 0, .int .i64 0]) hK2 hr2 HO.out HAP.out); have rc := hr2.cell; have rf := hr2.free; have rl := hr2.lt; clear hk2 hr2 hK2)
    | (go_at_call 40; go_must ((with_reducible refine (HX.out _).mono ?_); rintro e w3 ⟨rfl, rfl⟩))
    | (go_at_call 41; go_must ((with_reducible refine (HY.out _).mono ?_); rintro e w3 ⟨rfl, rfl⟩))
    | (go_at_call 60; go_must ((with_reducible refine (HC.out _).mono ?_); rintro e w3 ⟨rfl, rfl⟩))
    | (go_at_call 59; (with_reducible refine (HV1.out _ (HI.out).r).mono ?_); rintro e w4 ⟨rfl, hk, hr⟩; have HJ4 := Lib.hid ((HI.out).step hk hr); clear rc rf rl; have rc := HJ4.out.r.cell; have rf := HJ4.out.r.free; have rl := HJ4.out.r.lt; have x0 := HJ4.out.x.cell; have x1 := HJ4.out.x.free; have x2 := HJ4.out.x.lt; clear hk hr)
    | (go_at_call 61; (with_reducible refine (HC1.out _ ((HJ4.out.set 1 (.int .i64 v1))).r ((HJ4.out.set 1 (.int .i64 v1))).own (Nat.le_trans hB ((HJ4.out.set 1 (.int .i64 v1))).k.size)).mono ?_); rintro e w5 ⟨rfl, lv1, hk, hr, ho, hlo⟩; rw [← HN1.out]; have HJ5 := Lib.hid (((HJ4.out.set 1 (.int .i64 v1))).child hk hr ho hlo); clear rc rf rl x0 x1 x2; have rc := HJ5.out.r.cell; have rf := HJ5.out.r.free; have rl := HJ5.out.r.lt; have x0 := HJ5.out.x.cell; have x1 := HJ5.out.x.free; have x2 := HJ5.out.x.lt; clear hk hr ho hlo)
    | (go_at_call 62; (with_reducible refine (HMU.out _ _ ((HJ5.out.set 3 (.int .i64 ((n1 : Int) - 1)))).r).mono ?_); rintro e w6 ⟨rfl, hk, hr⟩; have HJ6 := Lib.hid (((HJ5.out.set 3 (.int .i64 ((n1 : Int) - 1)))).step hk hr); clear rc rf rl x0 x1 x2; have rc := HJ6.out.r.cell; have rf := HJ6.out.r.free; have rl := HJ6.out.r.lt; have x0 := HJ6.out.x.cell; have x1 := HJ6.out.x.free; have x2 := HJ6.out.x.lt; clear hk hr))
  first
  | go_region_law (refine step_append_msl rfl (.tmp 109) (.tmp 111) rfl B _ s1.L rfl ((HJ6.out).own.below (by go_grown) (Nat.le_refl _)) _ [⟨op, v1, 0, ((n1 : Int) - 1), 0⟩] rfl (MS.one (by first | exact Row.new _ _ _ | exact Row.litd (by simp)) h1 h2) (by simp only [List.length_singleton]; omega) (by have h9 := (HJ6.out).k.size; (try simp only [World.size_alloc, World.size_drew] at h9); simp only [World.size_alloc, World.size_drew]; omega) (s1.L.length + 1) (by simp only [List.length_singleton]) ?_; intro A6 c6 w6 ho6 hg6 ht6; have hr6 := (HJ6.out).mid (by go_grown) hg6; have y0 := hr6.cell; have y1 := hr6.free; have y2 := hr6.lt)
  | fail
  all_goals
    go_wp2
    go_returns
    obtain ⟨f1, f2, f3, f4⟩ := (HJ6.out).finish (by go_grown) hg6 ho6 ht6
    rw [HXX.out]
    exact ⟨rfl, _, f1, f2, f3, f4⟩

set_option maxRecDepth 100000 in
set_option maxHeartbeats 4000000 in
theorem rnode_102 (S : ByteArray) (B g n p q many : Nat) (L : List Mk) (lv : Value) (op : Int) (w : World) (hih : RHyp S n) (hr : Row w g 52 #[.string S, .int .i64 p, lv, .int .i64 many, .int .i64 0]) (ho : MO w B lv L) (hB : B ≤ w.heap.size)
    (hp : p < S.size) (hS : S.size ≤ 1000000) (hm : many < 64) (hn : 64 ≤ n + many) (hl : L.length ≤ many) (hc : S[p] = 40) (hname : nameP (bts S) true (p + 1) = .ok q op) (h1 : 0 ≤ op) (h2 : op ≤ 255) (hv : nv op = 0) (hcc : nc op = 2) :
    Calls Tryd.prog 26 #[.pointer (some ⟨g, 0, none⟩)] w (RPost S B g lv (formF (bts S) (n + 1) ⟨p, L, many, 0⟩) (.tuple #[]) w) := by
  obtain ⟨x, hx⟩ : ∃ x, x = formF (bts S) (n + 1) ⟨p, L, many, 0⟩ := ⟨_, rfl⟩
  rw [← hx]
  rw [formF_node (c := S[p]) (q := q) (op := op) (bts_get S p hp) (.inl hc) hm (by rw [hc]; exact hname), hc] at hx
  unfold nodeF at hx
  simp only [hv, hcc, RSt.pe, RSt.at, optF] at hx
  have hap := ho.apart hr (by decide)
  have hok : RSt.okay ⟨q, L, many + 1, 0⟩ := ⟨by simp only; omega, by simp only; omega, fun _ => by simp only; omega⟩
  have hrx := fun W => RUsesX_any op W h1 h2
  have hry := fun W => RUsesY_any op W h1 h2
  have hrc := fun W => RChildren_any op W h1 h2
  rw [hv] at hrx hry
  rw [hcc] at hrc
  simp only [Int.lt_irrefl, decide_false, show ¬ ((1 : Int) < 0) by omega, Bool.false_eq_true, if_false] at hx
  try simp only [show ¬ ((1 : Int) < 0) by omega, show (0 : Int) < 1 by omega, show (0 : Int) < 2 by omega, show (1 : Int) < 2 by omega, Int.lt_irrefl, decide_true, decide_false, Bool.false_eq_true, if_true, if_false] at hx
  have hk0 : RSt.okay (⟨q, L, many + 1, 0⟩ : RSt) := ⟨by simp only; omega, by simp only; omega, fun _ => by simp only; omega⟩
  obtain ⟨s1, hs1⟩ : ∃ s, s = childF (formF (bts S) n) (bts S) (⟨q, L, many + 1, 0⟩ : RSt) := ⟨_, rfl⟩
  have hf1 := child_from (s := bts S) (F := formF (bts S) n) (fun st h => formF_from (bts S) n st h) (st := (⟨q, L, many + 1, 0⟩ : RSt)) hk0
  have hk1 := RSt.from_okay hk0 hf1
  rw [← hs1] at hf1 hk1
  have hc1 := fun W h1 h2 h3 => Rchild_any S n hih hS B g q (many + 1) 0 L lv W h1 h2 h3 (by omega) (by omega) (fun _ => ⟨by omega, by omega⟩)
  rw [← hs1] at hc1
  simp only [← hs1] at hx
  obtain ⟨s2, hs2⟩ : ∃ s, s = childF (formF (bts S) n) (bts S) s1 := ⟨_, rfl⟩
  have hf2 := child_from (s := bts S) (F := formF (bts S) n) (fun st h => formF_from (bts S) n st h) (st := s1) hk1
  have hk2 := RSt.from_okay hk1 hf2
  rw [← hs2] at hf2 hk2
  have hq0 := hf1.1; have hq1 := hk1.1; have hq2 := hk1.2.1; have hq3 := hk1.2.2
  have hc2 := fun lv W h1 h2 h3 => Rchild_any S n hih hS B g s1.p s1.many s1.e s1.L lv W h1 h2 h3 hq1 hq2 (fun h => ⟨hq3 h, by simp only at hq0; omega⟩)
  rw [← hs2] at hc2
  simp only [← hs2] at hx
  obtain ⟨z, hz⟩ : ∃ z, z = mustF (bts S) 41 (s2.p, s2.e) := ⟨_, rfl⟩
  have hmu := fun lv W h => Rmust_at S g s2.p lv (.int .i64 ((s2.many : Nat) : Int)) s2.e 41 41 rfl W h hS
  rw [← hz] at hmu
  simp only [← hz] at hx
  have hlen : s2.L.length ≤ 65 := by have h3 := hk2.1; have h4 := hk2.2.1; (try simp only at h3 h4); omega
  obtain ⟨n1, hn1⟩ : ∃ k, k = s1.L.length := ⟨_, rfl⟩
  have hb1 : n1 ≤ 65 := by have h3 := hk1.1; have h4 := hk1.2.1; omega
  rw [← hn1] at hx
  obtain ⟨n2, hn2⟩ : ∃ k, k = s2.L.length := ⟨_, rfl⟩
  have hb2 : n2 ≤ 65 := by have h3 := hk2.1; have h4 := hk2.2.1; omega
  rw [← hn2] at hx
  have hnm := fun W h => Rname_any S g (p + 1) lv (.int .i64 ((many + 1 : Nat) : Int)) true W h hS
  rw [hname] at hnm
  simp only [ofPR] at hnm
  have hq40 : ((S[p].toNat : Int) == 40) = true := by rw [hc]; rfl
  have hge : decide ((S.size : Int) ≤ p) = false := by simp; omega
  have h64 : decide ((64 : Int) < (many : Int) + 1) = false := by simp; omega
  have hmc : ((many : Int) + 1) = ((many + 1 : Nat) : Int) := by omega
  have HNM := Lib.hid hnm
  have HXX := Lib.hid hx
  have HR := Lib.hid hr
  have HO := Lib.hid ho
  have HAP := Lib.hid hap
  have HMC := Lib.hid hmc
  have HX := Lib.hid hrx
  have HY := Lib.hid hry
  have HC := Lib.hid hrc
  have HC1 := Lib.hid hc1
  have HC2 := Lib.hid hc2
  have HMU := Lib.hid hmu
  have HN1 := Lib.hid hn1
  have HN2 := Lib.hid hn2
  have rc := hr.cell; have rf := hr.free; have rl := hr.lt
  clear hnm hx hr ho hap hmc hc hname hih hok hn hv hcc hk0 hrx hry hrc hc1 hs1 hc2 hs2 hq0 hq1 hq2 hq3 hmu hz hn1 hn2 hf1 hk1 hf2 hk2
  go_enter Tryd.func26, Tryd.ntmps26
  go_wp2_with fail
  go_quiet (fail)
  go_wp2_with fail
  go_quiet (fail)
  go_wp2_with (first
    | (go_at_call 58; refine (HNM.out _ (by have h := (HR.out.set 3 (.int .i64 ((many + 1 : Nat) : Int))).set 1 (.int .i64 ((p + 1 : Nat) : Int)); exact h)).mono ?_; rintro e w2 ⟨rfl, hk2, hr2⟩; have hK2 : Keep (· = g) w w2 := Keep.trans (by exact Keep.set (S := (· = g)) (Keep.set (S := (· = g)) (drewN_keep _ w _) (p := ⟨g, 3, none⟩) (.inl rfl) _) (p := ⟨g, 1, none⟩) (.inl rfl) _) hk2; have HI := Lib.hid (FR.start (xm := #[.int .u8 op, .int .i64 0, .int .i64 0, .int .i64 0, .int .i64 0]) hK2 hr2 HO.out HAP.out); have rc := hr2.cell; have rf := hr2.free; have rl := hr2.lt; clear hk2 hr2 hK2)
    | (go_at_call 40; go_must ((with_reducible refine (HX.out _).mono ?_); rintro e w3 ⟨rfl, rfl⟩))
    | (go_at_call 41; go_must ((with_reducible refine (HY.out _).mono ?_); rintro e w3 ⟨rfl, rfl⟩))
    | (go_at_call 60; go_must ((with_reducible refine (HC.out _).mono ?_); rintro e w3 ⟨rfl, rfl⟩))
    | (go_at_call 61; (with_reducible refine (HC1.out _ (HI.out).r (HI.out).own (Nat.le_trans hB (HI.out).k.size)).mono ?_); rintro e w4 ⟨rfl, lv1, hk, hr, ho, hlo⟩; rw [← HN1.out]; have HJ4 := Lib.hid ((HI.out).child hk hr ho hlo); clear rc rf rl; have rc := HJ4.out.r.cell; have rf := HJ4.out.r.free; have rl := HJ4.out.r.lt; have x0 := HJ4.out.x.cell; have x1 := HJ4.out.x.free; have x2 := HJ4.out.x.lt; clear hk hr ho hlo)
    | (go_at_call 61; (with_reducible refine (HC2.out _ _ ((HJ4.out.set 3 (.int .i64 ((n1 : Int) - 1)))).r ((HJ4.out.set 3 (.int .i64 ((n1 : Int) - 1)))).own (Nat.le_trans hB ((HJ4.out.set 3 (.int .i64 ((n1 : Int) - 1)))).k.size)).mono ?_); rintro e w5 ⟨rfl, lv2, hk, hr, ho, hlo⟩; rw [← HN2.out]; have HJ5 := Lib.hid (((HJ4.out.set 3 (.int .i64 ((n1 : Int) - 1)))).child hk hr ho hlo); clear rc rf rl x0 x1 x2; have rc := HJ5.out.r.cell; have rf := HJ5.out.r.free; have rl := HJ5.out.r.lt; have x0 := HJ5.out.x.cell; have x1 := HJ5.out.x.free; have x2 := HJ5.out.x.lt; clear hk hr ho hlo)
    | (go_at_call 62; (with_reducible refine (HMU.out _ _ ((HJ5.out.set 4 (.int .i64 ((n2 : Int) - 1)))).r).mono ?_); rintro e w6 ⟨rfl, hk, hr⟩; have HJ6 := Lib.hid (((HJ5.out.set 4 (.int .i64 ((n2 : Int) - 1)))).step hk hr); clear rc rf rl x0 x1 x2; have rc := HJ6.out.r.cell; have rf := HJ6.out.r.free; have rl := HJ6.out.r.lt; have x0 := HJ6.out.x.cell; have x1 := HJ6.out.x.free; have x2 := HJ6.out.x.lt; clear hk hr))
  first
  | go_region_law (refine step_append_msl rfl (.tmp 109) (.tmp 111) rfl B _ s2.L rfl ((HJ6.out).own.below (by go_grown) (Nat.le_refl _)) _ [⟨op, 0, 0, ((n1 : Int) - 1), ((n2 : Int) - 1)⟩] rfl (MS.one (by first | exact Row.new _ _ _ | exact Row.litd (by simp)) h1 h2) (by simp only [List.length_singleton]; omega) (by have h9 := (HJ6.out).k.size; (try simp only [World.size_alloc, World.size_drew] at h9); simp only [World.size_alloc, World.size_drew]; omega) (s2.L.length + 1) (by simp only [List.length_singleton]) ?_; intro A6 c6 w6 ho6 hg6 ht6; have hr6 := (HJ6.out).mid (by go_grown) hg6; have y0 := hr6.cell; have y1 := hr6.free; have y2 := hr6.lt)
  | fail
  all_goals
    go_wp2
    go_returns
    obtain ⟨f1, f2, f3, f4⟩ := (HJ6.out).finish (by go_grown) hg6 ho6 ht6
    rw [HXX.out]
    exact ⟨rfl, _, f1, f2, f3, f4⟩
end Go.Proofs.YtcjblbhmajdmjaaDoor

namespace Go.Proofs.YtcjblbhmajdmjaaDoor
open Go.RowKit

set_option maxRecDepth 100000 in
set_option maxHeartbeats 1000000 in
theorem rform_e1 (S : ByteArray) (B g n p many : Nat) (e : Int) (L : List Mk) (lv : Value) (w : World) (hr : Row w g 52 #[.string S, .int .i64 p, lv, .int .i64 many, .int .i64 e]) (ho : MO w B lv L) (he : e ≠ 0) :
    Calls Tryd.prog 26 #[.pointer (some ⟨g, 0, none⟩)] w (RPost S B g lv (formF (bts S) n ⟨p, L, many, e⟩) (.tuple #[]) w) := by
  obtain ⟨x, hx⟩ : ∃ x, x = formF (bts S) n ⟨p, L, many, e⟩ := ⟨_, rfl⟩
  have hx2 : x = ⟨p, L, many, e⟩ := by rw [hx, formF_err _ _ _ (by exact he)]
  rw [← hx]
  clear hx
  have hap := ho.apart hr (by decide)
  have hne : (e != 0) = true := by simp [he]
  have rc := hr.cell; have rf := hr.free; have rl := hr.lt
  have HR := Lib.hid hr; have HO := Lib.hid ho; have HAP := Lib.hid hap; have HX := Lib.hid hx2
  clear hr ho hap hx2 he
  go_enter Tryd.func26, Tryd.ntmps26
  go_wp2
  go_returns
  exact RPost.same HX.out rfl (Keep.refl _ _) HR.out HO.out HAP.out
set_option maxRecDepth 100000 in
set_option maxHeartbeats 1000000 in
theorem rform_e2 (S : ByteArray) (B g n p many : Nat) (L : List Mk) (lv : Value) (w : World) (hr : Row w g 52 #[.string S, .int .i64 p, lv, .int .i64 many, .int .i64 0]) (ho : MO w B lv L) (hp : S.size ≤ p) :
    Calls Tryd.prog 26 #[.pointer (some ⟨g, 0, none⟩)] w (RPost S B g lv (formF (bts S) (n + 1) ⟨p, L, many, 0⟩) (.tuple #[]) w) := by
  obtain ⟨x, hx⟩ : ∃ x, x = formF (bts S) (n + 1) ⟨p, L, many, 0⟩ := ⟨_, rfl⟩
  have hx2 : x = ⟨p, L, many, 3⟩ := by
    rw [hx, formF, if_neg (by simp)]
    dsimp only
    rw [bts_none S p hp]
  rw [← hx]
  clear hx
  have hap := ho.apart hr (by decide)
  have hge : decide ((S.size : Int) ≤ p) = true := by simp; omega
  have rc := hr.cell; have rf := hr.free; have rl := hr.lt
  have HR := Lib.hid hr; have HO := Lib.hid ho; have HAP := Lib.hid hap; have HX := Lib.hid hx2
  clear hr ho hap hx2
  go_enter Tryd.func26, Tryd.ntmps26
  go_wp2_with fail
  go_quiet (fail)
  go_wp2_with fail
  go_returns
  exact RPost.same HX.out rfl (Keep.set (S := (· = g)) (drewN_keep _ w _) (p := ⟨g, 4, none⟩) (.inl rfl) _) (by have h := HR.out.set 4 (.int .i64 3); exact h) HO.out HAP.out
set_option maxRecDepth 100000 in
set_option maxHeartbeats 1000000 in
theorem rform_e3 (S : ByteArray) (B g n p many : Nat) (L : List Mk) (lv : Value) (w : World) (hr : Row w g 52 #[.string S, .int .i64 p, lv, .int .i64 many, .int .i64 0]) (ho : MO w B lv L) (hS : S.size ≤ 1000000) (hp : p < S.size) (hc : ¬ (S[p] = 40 ∨ low S[p] = true)) :
    Calls Tryd.prog 26 #[.pointer (some ⟨g, 0, none⟩)] w (RPost S B g lv (formF (bts S) (n + 1) ⟨p, L, many, 0⟩) (.tuple #[]) w) := by
  obtain ⟨x, hx⟩ : ∃ x, x = formF (bts S) (n + 1) ⟨p, L, many, 0⟩ := ⟨_, rfl⟩
  have hx2 : x = ⟨p, L, many, 2⟩ := by
    rw [hx, formF, if_neg (by simp)]
    dsimp only
    rw [bts_get S p hp]
    dsimp only
    rw [if_neg hc]
  rw [← hx]
  clear hx
  have hap := ho.apart hr (by decide)
  have hge : decide ((S.size : Int) ≤ p) = false := by simp; omega
  have hq40 : ((S[p].toNat : Int) == 40) = false := by rw [beq_eq_false_iff_ne]; intro h; exact hc (.inl (UInt8.toNat_inj.1 (by show S[p].toNat = 40; omega)))
  have hlo : lowAt (bts S) p = false := by rw [low_at hp, Bool.eq_false_iff]; exact fun h => hc (.inr h)
  have hlw := fun W h => Rlower_any S g p lv (.int .i64 (many : Int)) 0 W h hS
  rw [hlo] at hlw
  have rc := hr.cell; have rf := hr.free; have rl := hr.lt
  have HR := Lib.hid hr; have HO := Lib.hid ho; have HAP := Lib.hid hap; have HX := Lib.hid hx2; have HLW := Lib.hid hlw
  clear hr ho hap hx2 hlo hlw hc
  go_enter Tryd.func26, Tryd.ntmps26
  go_wp2_with fail
  go_quiet (fail)
  go_wp2_with fail
  go_quiet (fail)
  go_wp2_with (go_at_call 57; refine (HLW.out _ (by exact HR.out)).mono ?_; rintro e w1 ⟨rfl, n1, rfl⟩)
  go_returns
  exact RPost.same HX.out rfl (Keep.set (S := (· = g)) (drewN_keep _ w _) (p := ⟨g, 4, none⟩) (.inl rfl) _) (by have h := HR.out.set 4 (.int .i64 2); exact h) HO.out HAP.out
set_option maxRecDepth 100000 in
set_option maxHeartbeats 1000000 in
theorem rform_e4 (S : ByteArray) (B g n p : Nat) (L : List Mk) (lv : Value) (w : World) (hr : Row w g 52 #[.string S, .int .i64 p, lv, .int .i64 (64 : Nat), .int .i64 0]) (ho : MO w B lv L) (hS : S.size ≤ 1000000) (hp : p < S.size) (hc : S[p] = 40 ∨ low S[p] = true) :
    Calls Tryd.prog 26 #[.pointer (some ⟨g, 0, none⟩)] w (RPost S B g lv (formF (bts S) (n + 1) ⟨p, L, 64, 0⟩) (.tuple #[]) w) := by
  obtain ⟨x, hx⟩ : ∃ x, x = formF (bts S) (n + 1) ⟨p, L, 64, 0⟩ := ⟨_, rfl⟩
  have hx2 : x = ⟨p, L, 65, 4⟩ := by
    rw [hx, formF, if_neg (by simp)]
    dsimp only
    rw [bts_get S p hp]
    dsimp only
    rw [if_pos hc, if_pos rfl]
  rw [← hx]
  clear hx
  have hap := ho.apart hr (by decide)
  have hge : decide ((S.size : Int) ≤ p) = false := by simp; omega
  have rc := hr.cell; have rf := hr.free; have rl := hr.lt
  have HR := Lib.hid hr; have HO := Lib.hid ho; have HAP := Lib.hid hap; have HX := Lib.hid hx2
  clear hr ho hap hx2
  by_cases h40 : S[p] = 40
  · have hq40 : ((S[p].toNat : Int) == 40) = true := by rw [h40]; rfl
    clear hc h40
    go_enter Tryd.func26, Tryd.ntmps26
    go_wp2_with fail
    go_quiet (fail)
    go_wp2_with fail
    go_quiet (fail)
    go_wp2_with fail
    go_returns
    exact RPost.same HX.out rfl (Keep.set (S := (· = g)) (Keep.set (S := (· = g)) (drewN_keep _ w _) (p := ⟨g, 3, none⟩) (.inl rfl) _) (p := ⟨g, 4, none⟩) (.inl rfl) _) (by have h := (HR.out.set 3 (.int .i64 (65 : Nat))).set 4 (.int .i64 4); exact h) HO.out HAP.out
  · have hq40 : ((S[p].toNat : Int) == 40) = false := by rw [beq_eq_false_iff_ne]; intro h; exact h40 (UInt8.toNat_inj.1 (by show S[p].toNat = 40; omega))
    have hlo : lowAt (bts S) p = true := by rw [low_at hp]; exact hc.resolve_left h40
    have hlw := fun W h => Rlower_any S g p lv (.int .i64 ((64 : Nat) : Int)) 0 W h hS
    rw [hlo] at hlw
    have HLW := Lib.hid hlw
    clear hlo hlw hc h40
    go_enter Tryd.func26, Tryd.ntmps26
    go_wp2_with fail
    go_quiet (fail)
    go_wp2_with fail
    go_quiet (fail)
    go_wp2_with (go_at_call 57; refine (HLW.out _ (by exact HR.out)).mono ?_; rintro e w1 ⟨rfl, n1, rfl⟩)
    go_returns
    exact RPost.same HX.out rfl (Keep.set (S := (· = g)) (Keep.set (S := (· = g)) (drewN_keep _ w _) (p := ⟨g, 3, none⟩) (.inl rfl) _) (p := ⟨g, 4, none⟩) (.inl rfl) _) (by have h := (HR.out.set 3 (.int .i64 (65 : Nat))).set 4 (.int .i64 4); exact h) HO.out HAP.out
set_option maxRecDepth 100000 in
set_option maxHeartbeats 1000000 in
theorem rform_e5 (S : ByteArray) (B g n p many q : Nat) (k : Int) (L : List Mk) (lv : Value) (w : World) (hr : Row w g 52 #[.string S, .int .i64 p, lv, .int .i64 many, .int .i64 0]) (ho : MO w B lv L) (hS : S.size ≤ 1000000) (hp : p < S.size) (hc : S[p] = 40 ∨ low S[p] = true) (hm : many < 64)
    (hk : k ≠ 0) (hname : nameP (bts S) (decide (S[p] = 40)) (if S[p] = 40 then p + 1 else p) = .err q k) :
    Calls Tryd.prog 26 #[.pointer (some ⟨g, 0, none⟩)] w (RPost S B g lv (formF (bts S) (n + 1) ⟨p, L, many, 0⟩) (.tuple #[]) w) := by
  obtain ⟨x, hx⟩ : ∃ x, x = formF (bts S) (n + 1) ⟨p, L, many, 0⟩ := ⟨_, rfl⟩
  have hx2 : x = ⟨q, L, many + 1, k⟩ := by
    rw [hx, formF, if_neg (by simp)]
    dsimp only
    rw [bts_get S p hp]
    dsimp only
    rw [if_pos hc, if_neg (by omega), hname]
  rw [← hx]
  clear hx
  have hap := ho.apart hr (by decide)
  have hge : decide ((S.size : Int) ≤ p) = false := by simp; omega
  have h64 : decide ((64 : Int) < (many : Int) + 1) = false := by simp; omega
  have hkk : (k != 0) = true := by simp [hk]
  have rc := hr.cell; have rf := hr.free; have rl := hr.lt
  have HR := Lib.hid hr; have HO := Lib.hid ho; have HAP := Lib.hid hap; have HX := Lib.hid hx2
  clear hr ho hap hx2 hk
  by_cases h40 : S[p] = 40
  · have hq40 : ((S[p].toNat : Int) == 40) = true := by rw [h40]; rfl
    rw [if_pos h40, decide_eq_true h40] at hname
    have hnm := fun W h => Rname_any S g (p + 1) lv (.int .i64 ((many + 1 : Nat) : Int)) true W h hS
    rw [hname] at hnm
    simp only [ofPR] at hnm
    have HNM := Lib.hid hnm
    clear hc h40 hname hnm
    go_enter Tryd.func26, Tryd.ntmps26
    go_wp2_with fail
    go_quiet (fail)
    go_wp2_with fail
    go_quiet (fail)
    go_wp2_with (go_at_call 58; refine (HNM.out _ (by have h := (HR.out.set 3 (.int .i64 ((many + 1 : Nat) : Int))).set 1 (.int .i64 ((p + 1 : Nat) : Int)); exact h)).mono ?_; rintro e w2 ⟨rfl, hk2, hr2⟩; have hK2 : Keep (· = g) w w2 := Keep.trans (by exact Keep.set (S := (· = g)) (Keep.set (S := (· = g)) (drewN_keep _ w _) (p := ⟨g, 3, none⟩) (.inl rfl) _) (p := ⟨g, 1, none⟩) (.inl rfl) _) hk2; have HK := Lib.hid hK2; have HR2 := Lib.hid hr2; have rc := hr2.cell; have rf := hr2.free; have rl := hr2.lt; clear hk2 hr2 hK2)
    go_returns
    exact RPost.same HX.out rfl (HK.out.trans (Keep.of_below (by go_grown) (Nat.le_refl _))) (HR2.out.alloc _) HO.out HAP.out
  · have hq40 : ((S[p].toNat : Int) == 40) = false := by rw [beq_eq_false_iff_ne]; intro h; exact h40 (UInt8.toNat_inj.1 (by show S[p].toNat = 40; omega))
    have hlo : lowAt (bts S) p = true := by rw [low_at hp]; exact hc.resolve_left h40
    have hlw := fun W h => Rlower_any S g p lv (.int .i64 (many : Int)) 0 W h hS
    rw [hlo] at hlw
    rw [if_neg h40, decide_eq_false h40] at hname
    have hnm := fun W h => Rname_any S g p lv (.int .i64 ((many + 1 : Nat) : Int)) false W h hS
    rw [hname] at hnm
    simp only [ofPR] at hnm
    have HNM := Lib.hid hnm
    have HLW := Lib.hid hlw
    clear hlo hlw hc h40 hname hnm
    go_enter Tryd.func26, Tryd.ntmps26
    go_wp2_with fail
    go_quiet (fail)
    go_wp2_with fail
    go_quiet (fail)
    go_wp2_with (first
      | (go_at_call 57; refine (HLW.out _ (by exact HR.out)).mono ?_; rintro e w1 ⟨rfl, n1, rfl⟩)
      | (go_at_call 58; refine (HNM.out _ (by have h := HR.out.set 3 (.int .i64 ((many + 1 : Nat) : Int)); exact h)).mono ?_; rintro e w2 ⟨rfl, hk2, hr2⟩; have hK2 : Keep (· = g) w w2 := Keep.trans (by exact Keep.set (S := (· = g)) (drewN_keep _ w _) (p := ⟨g, 3, none⟩) (.inl rfl) _) hk2; have HK := Lib.hid hK2; have HR2 := Lib.hid hr2; have rc := hr2.cell; have rf := hr2.free; have rl := hr2.lt; clear hk2 hr2 hK2))
    go_returns
    exact RPost.same HX.out rfl (HK.out.trans (Keep.of_below (by go_grown) (Nat.le_refl _))) (HR2.out.alloc _) HO.out HAP.out

theorem Rformula_any (S : ByteArray) (hS : S.size ≤ 1000000) : ∀ n, RHyp S n := by
  intro n
  induction n with
  | zero =>
    intro B g p many e L lv W hr ho hB hl hm hn
    by_cases he : e = 0
    · have := hn he; omega
    · exact rform_e1 S B g 0 p many e L lv W hr ho he
  | succ n ih =>
    intro B g p many e L lv W hr ho hB hl hm hn
    by_cases he : e = 0
    · subst he
      obtain ⟨h1, h2⟩ := hn rfl
      by_cases hp : p < S.size
      · by_cases hc : S[p] = 40 ∨ low S[p] = true
        · by_cases h64 : many = 64
          · subst h64
            exact rform_e4 S B g n p L lv W hr ho hS hp hc
          · have hp2 : (if S[p] = 40 then p + 1 else p) ≤ (bts S).length := by rw [bts_len]; split <;> omega
            have hg := nameP_good (s := bts S) (decide (S[p] = 40)) hp2
            cases hname : nameP (bts S) (decide (S[p] = 40)) (if S[p] = 40 then p + 1 else p) with
            | err q k => exact rform_e5 S B g n p many q k L lv W hr ho hS hp hc (by omega) (PR.good_err hg hname) hname
            | ok q op =>
              rw [hname] at hg
              obtain ⟨_, _, o1, hin, _⟩ := hg
              have hrg := nm_range o1
              by_cases h40 : S[p] = 40
              · rw [if_pos h40, decide_eq_true h40] at hname
                rw [decide_eq_true h40] at hin
                have hop : op ≠ 1 := by simpa using hin
                rcases nvnc o1 hop with ⟨hv, hcc⟩ | ⟨hv, hcc⟩ | ⟨hv, hcc⟩ | ⟨hv, hcc⟩ | ⟨hv, hcc⟩
                · exact rnode_110 S B g n p q many L lv op W ih hr ho hB hp hS (by omega) (by omega) hl h40 hname (by omega) (by omega) hv hcc
                · exact rnode_120 S B g n p q many L lv op W ih hr ho hB hp hS (by omega) (by omega) hl h40 hname (by omega) (by omega) hv hcc
                · exact rnode_101 S B g n p q many L lv op W ih hr ho hB hp hS (by omega) (by omega) hl h40 hname (by omega) (by omega) hv hcc
                · exact rnode_111 S B g n p q many L lv op W ih hr ho hB hp hS (by omega) (by omega) hl h40 hname (by omega) (by omega) hv hcc
                · exact rnode_102 S B g n p q many L lv op W ih hr ho hB hp hS (by omega) (by omega) hl h40 hname (by omega) (by omega) hv hcc
              · rw [if_neg h40, decide_eq_false h40] at hname
                rw [decide_eq_false h40] at hin
                have hop : op = 1 := by simpa using hin
                subst hop
                exact rnode_000 S B g n p q many L lv 1 W ih hr ho hB hp hS (by omega) (by omega) hl ⟨h40, hc.resolve_left h40⟩ hname (by omega) (by omega) rfl rfl
        · exact rform_e3 S B g n p many L lv W hr ho hS hp hc
      · exact rform_e2 S B g n p many L lv W hr ho (by omega)
    · exact rform_e1 S B g (n + 1) p many e L lv W hr ho he
end Go.Proofs.YtcjblbhmajdmjaaDoor

namespace Go.Proofs.YtcjblbhmajdmjaaDoor
open Go.RowKit

set_option maxRecDepth 100000 in
set_option maxHeartbeats 1000000 in
theorem RParse_long (S : ByteArray) (w : World) (hS : 4096 < S.size) : Calls Tryd.prog 6 #[.string S] w (RetFPE w ([], 0, 4)) := by
  go_enter Tryd.func6, Tryd.ntmps6
  go_wp2
  go_returns
  exact ⟨_, rfl, Below.refl _ _, MO.nil _ _⟩
theorem RPost.start {S : ByteArray} {w w1 : World} {st : RSt} {en : Ending} {r : Value} {cs : Array Value} (h : RPost S (w.heap.size + 1) w.heap.size (.slice none 0 0) st r (w.alloc (.cells cs 52)) en w1) :
    en = .returned r ∧ ∃ A c, Below w.heap.size w w1 ∧ Row w1 w.heap.size 52 #[.string S, .int .i64 st.p, .slice A st.L.length c, .int .i64 st.many, .int .i64 st.e] ∧ MO w1 (w.heap.size + 1) (.slice A st.L.length c) st.L := by
  obtain ⟨he, lv, hk, hr, ho, hlo⟩ := h
  obtain ⟨A, c, hv⟩ := ho.form
  subst hv
  refine ⟨he, A, c, ?_, hr, ho⟩
  have no : ∀ b, (Value.slice none 0 0).ownBlock ≠ some b := fun b h => by simp [Value.ownBlock] at h
  exact (Below.alloc (Below.refl _ _) (Nat.le_refl _) _).trans (hk.below_le (by simp only [World.size_alloc]; omega) fun b hb => hb.elim (by omega) fun h => absurd h (no _))
set_option maxRecDepth 100000 in
set_option maxHeartbeats 1000000 in
theorem RParse_any (S : ByteArray) (w : World) : Calls Tryd.prog 6 #[.string S] w (RetFPE w (parseS (bts S))) := by
  by_cases hS : 4096 < S.size
  · have : parseS (bts S) = ([], 0, 4) := by unfold parseS; rw [bts_len, if_pos hS]
    rw [this]
    exact RParse_long S w hS
  have hag := form_formF (bts S) 65 0 0 [] (by omega) (by omega) (by omega)
  have hgood := form_good (bts S) 65 0 0 (by omega) (by omega) (by omega)
  have hform := fun W h1 h2 h3 => Rformula_any S (by omega) 65 (w.heap.size + 1) w.heap.size 0 0 0 [] (.slice none 0 0) W h1 h2 h3 (by simp) (by omega) (fun _ => ⟨by omega, by omega⟩)
  have hpar : parseS (bts S) = match form (bts S) 65 0 0 with
    | .err p e => ([], p, e)
    | .ok p a => if p < S.size then ([], p, 5) else (a.2.enc 0, 0, 0) := by unfold parseS; rw [bts_len, if_neg hS]; rfl
  obtain ⟨r, hr⟩ : ∃ r, r = parseS (bts S) := ⟨_, rfl⟩
  rw [← hr] at hpar ⊢
  clear hr
  cases hf : form (bts S) 65 0 0 with
  | err q k =>
    have hk := PR.good_err hgood hf
    rw [hf] at hag hpar
    obtain ⟨i1, i2⟩ := hag
    generalize formF (bts S) 65 ⟨0, [], 0, 0⟩ = st at *
    obtain ⟨q', L, many, e'⟩ := st
    simp only at i1 i2 hform
    subst i1 i2
    have b1 : (e' == 0) = false := by simp [hk]
    have b2 : (e' != 0) = true := by simp [hk]
    have HP := Lib.hid hpar; have HF := Lib.hid hform
    clear hpar hform hf hgood hk
    go_enter Tryd.func6, Tryd.ntmps6
    go_wp2_with (go_at_call 26; refine (HF.out _ (Row.litd2 (by simp only [World.size_alloc])) (MO.nil _ _) (by simp only [World.size_alloc]; omega)).mono ?_; rintro e w1 hpost; obtain ⟨rfl, A, c, hb1, hr1, ho1⟩ := hpost.start; have HB := Lib.hid hb1; have rc := hr1.cell; have rf := hr1.free; have rl := hr1.lt; clear hpost hb1 hr1 ho1)
    go_quiet (fail)
    go_wp2_with fail
    go_returns
    refine ⟨.slice none 0 0, by rw [HP.out]; rfl, ?_, by rw [HP.out]; exact MO.nil _ _⟩
    exact HB.out.trans ((drewN_below _ _).mono HB.out.size)
  | ok q a =>
    rw [hf] at hag hpar
    have hst : formF (bts S) 65 ⟨0, [], 0, 0⟩ = ⟨q, a.2.enc 0, a.1, 0⟩ := hag
    rw [hst] at hform
    simp only at hpar
    obtain ⟨L, hL⟩ : ∃ L, L = a.2.enc 0 := ⟨_, rfl⟩
    rw [← hL] at hform hpar
    have HP := Lib.hid hpar; have HF := Lib.hid hform
    clear hpar hform hf hgood hag hst hL
    by_cases hq : q < S.size
    · have hdq : decide ((q : Int) < S.size) = true := by simp; omega
      go_enter Tryd.func6, Tryd.ntmps6
      go_wp2_with (go_at_call 26; refine (HF.out _ (Row.litd2 (by simp only [World.size_alloc])) (MO.nil _ _) (by simp only [World.size_alloc]; omega)).mono ?_; rintro e w1 hpost; obtain ⟨rfl, A, c, hb1, hr1, ho1⟩ := hpost.start; have HB := Lib.hid hb1; have rc := hr1.cell; have rf := hr1.free; have rl := hr1.lt; clear hpost hb1 hr1 ho1)
      go_quiet (fail)
      go_wp2_with fail
      go_returns
      refine ⟨.slice none 0 0, by rw [HP.out, if_pos hq]; rfl, ?_, by rw [HP.out, if_pos hq]; exact MO.nil _ _⟩
      have h1 : Below w.heap.size w (w1.setCell ⟨w.heap.size, 4, none⟩ (.int .i64 5)) := by
        have hh := HB.out
        go_grown
      exact h1.trans ((drewN_below _ _).mono h1.size)
    · have hdq : decide ((q : Int) < S.size) = false := by simp; omega
      go_enter Tryd.func6, Tryd.ntmps6
      go_wp2_with (go_at_call 26; refine (HF.out _ (Row.litd2 (by simp only [World.size_alloc])) (MO.nil _ _) (by simp only [World.size_alloc]; omega)).mono ?_; rintro e w1 hpost; obtain ⟨rfl, A, c, hb1, hr1, ho1⟩ := hpost.start; have HB := Lib.hid hb1; have HO := Lib.hid ho1; have rc := hr1.cell; have rf := hr1.free; have rl := hr1.lt; clear hpost hb1 hr1 ho1)
      go_returns
      exact ⟨_, by rw [HP.out, if_neg hq]; rfl, HB.out, by rw [HP.out, if_neg hq]; exact HO.out.mono (by omega)⟩
end Go.Proofs.YtcjblbhmajdmjaaDoor
