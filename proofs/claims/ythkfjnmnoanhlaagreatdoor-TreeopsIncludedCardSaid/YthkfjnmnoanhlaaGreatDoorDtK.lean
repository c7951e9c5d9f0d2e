/- Contract: classes of the package treedet. -/
import Derived.Test.YthkfjnmnoanhlaaGreatDoorDtH
import Derived.Deep.DeepCutAuto
set_option linter.unusedSimpArgs false
set_option linter.unusedVariables false
namespace Go.Proofs.YthkfjnmnoanhlaaGreatDoor
open Go.RowKit

theorem under_msi : Tryz.prog.underlying 149 = some (.map 9 3) := by kernel_rfl
theorem under_str : Tryz.prog.underlying 9 = some .string := by kernel_rfl
theorem kl_str : Kl Lit.string := ⟨fun a b h => by simpa using h, fun a => trivial⟩
theorem keyed_str : Maps.Keyed Tryz.prog 9 := Maps.string_keyed under_str
def rowStr (bs : List Nat) : ByteArray := strOfNums (bs.map fun (x : Nat) => (x : Int))
theorem key_row (bs : List Nat) (h : bs.length ≤ 100000) : keyOf Tryz.prog 9 (.string (rowStr bs)) = some (Lit.string (bs.map fun (x : Nat) => UInt8.ofNat x)) := by
  have h1 : (rowStr bs).size ≤ maxLen := by unfold rowStr; rw [strOfNums_size, List.length_map]; simp only [maxLen]; omega
  rw [WideMaps.keyOf_string_mk under_str h1]
  unfold rowStr strOfNums
  simp [Function.comp_def]
theorem Nx.row {w : World} {v : Value} {n L : Nat} {f : Nat → Nat → Nat → Nat} {b3 o3 c3 : Nat} (h : Nx w v n L f b3 o3 c3) (hL : 1 ≤ L) {l r : Nat} (hl : l < n) (hr : r < n) : ∃ b2 o2 c2 b1 o1 c1, b3 < w.heap.size ∧ w.cell? ⟨b3, o3 + l, none⟩ = some (.slice (some ⟨b2, o2, none⟩) n c2) ∧ n ≤ c2 ∧ b2 < w.heap.size ∧
    w.cell? ⟨b2, o2 + r, none⟩ = some (.slice (some ⟨b1, o1, none⟩) L c1) ∧ L ≤ c1 ∧ b1 < w.heap.size ∧ ∀ x, x < L → w.cell? ⟨b1, o1 + x, none⟩ = some (.int .i64 (f l r x : Int)) := by
  obtain ⟨b2, o2, c2, b1, o1, c1, h1, h2, h3, h4, h5, h6, h7, _⟩ := h.at3 l r 0 hl hr hL
  refine ⟨b2, o2, c2, b1, o1, c1, h1, h2, h3, h4, h5, h6, h7, fun x hx => ?_⟩
  obtain ⟨b2', o2', c2', b1', o1', c1', _, k2, _, _, k5, _, _, k8⟩ := h.at3 l r x hl hr hx
  rw [h2] at k2
  simp only [Option.some.injEq, Value.slice.injEq, Addr.mk.injEq, and_true, true_and] at k2
  obtain ⟨⟨rfl, rfl⟩, _⟩ := k2
  rw [h5] at k5
  simp only [Option.some.injEq, Value.slice.injEq, Addr.mk.injEq, and_true, true_and] at k5
  obtain ⟨⟨rfl, rfl⟩, _⟩ := k5
  exact k8
section
variable {α : Type} [DecidableEq α] {k : TypeId} {lit : α → Lit} {w : World} {b : Nat} {ks : List α}
theorem wpList_nm_hitv (K : Maps.Keyed Tryz.prog k) {ops : Array Oper} {rest : List Oper} {o : Oper} {a : Act} {Q : Exit → Act → World → Prop} (hg : o.guard = none) (m x : Operand) (t : TypeId) (hop : o.op = Op.lookup t m x true)
    (ht : Tryz.prog.underlying t = some (.map k 3)) (hm : a.eval m = .map (some b)) (h : NM k lit w b ks) (s : α) (hs : s ∈ ks) (z : Nat) (hz : idxD ks s = z) (key : Value) (hx : a.eval x = key) (hkey : keyOf Tryz.prog k key = some (lit s))
    (hK : wpList Tryz.prog ops Q rest (a.put o.dst (.tuple #[.int .i64 (z : Int), .bool true])) w) : wpList Tryz.prog ops Q (o :: rest) a w := by
  subst hz
  exact wpList_nm_hit K hg m x t hop ht hm h s hs key hx hkey hK
theorem wpList_nm_lenv {ops : Array Oper} {rest : List Oper} {o : Oper} {a : Act} {Q : Exit → Act → World → Prop} (hg : o.guard = none) (m : Operand) (t : TypeId) (hop : o.op = Op.call { callee := Callee.builtin Builtin.len, args := #[m], argTypes := #[t] })
    (ht : Tryz.prog.underlying t = some (.map k 3)) (hm : a.eval m = .map (some b)) (h : NM k lit w b ks) (z : Nat) (hz : ks.length = z)
    (hK : wpList Tryz.prog ops Q rest (a.put o.dst (.int .i64 (z : Int))) w) : wpList Tryz.prog ops Q (o :: rest) a w := by
  subst hz
  exact wpList_nm_len hg m t hop ht hm h hK
end
/-- What a round of classes knows: no class is too great, each is taken, and the rounds that are left. -/
structure ClsR (d : Dta) (cl : Nat → Nat) (many m : Nat) : Prop where
  rest : d.clsS m cl many = d.cls
  few : d.n < many + m
  on : ∀ i, i < many → ∃ s, s < d.n ∧ cl s = i
  lt : ∀ s, cl s < 256
theorem Dta.next_small (d : Dta) (cl : Nat → Nat) (hn : d.n ≤ 64) (s : Nat) : d.next cl s < 256 := by
  have h1 : d.next cl s ≤ (keysS (d.rows cl)).length := List.idxOf_le_length
  have h2 := d.count_le cl
  unfold Dta.count at h2
  omega
theorem ClsR.start (d : Dta) : ClsR d (fun _ => 0) 0 (d.n + 1) := ⟨rfl, by omega, fun i h => by omega, fun _ => by omega⟩
theorem ClsR.pos {d : Dta} {cl : Nat → Nat} {many m : Nat} (h : ClsR d cl many m) : ∃ k, m = k + 1 := by
  have h1 := d.count_ge h.on
  have h2 := d.count_le cl
  have h3 := h.few
  exact ⟨m - 1, by omega⟩
theorem ClsR.stop {d : Dta} {cl : Nat → Nat} {many m : Nat} (h : ClsR d cl many m) (hc : d.count cl = many) : d.cls = (d.next cl, many) := by
  obtain ⟨k, rfl⟩ := h.pos
  rw [← h.rest, Dta.clsS, if_pos hc]
theorem ClsR.go {d : Dta} {cl : Nat → Nat} {many m : Nat} (hn : d.n ≤ 64) (h : ClsR d cl many m) (hc : d.count cl ≠ many) : ∃ k, m = k + 1 ∧ ClsR d (d.next cl) (d.count cl) k := by
  obtain ⟨k, rfl⟩ := h.pos
  have h1 := d.count_ge h.on
  have h3 := h.few
  refine ⟨k, rfl, by rw [← h.rest, Dta.clsS, if_neg hc], by omega, fun i hi => d.next_on cl hi, d.next_small cl hn⟩
/-- Within a round: s states are done. -/
structure ClS (d : Dta) (cl : Nat → Nat) (wB : World) (bm gx s : Nat) (W : World) : Prop where
  below : Below wB.heap.size wB W
  nm : NM 9 Lit.string W bm (d.KB cl s)
  bm : wB.heap.size ≤ bm
  nx : ∃ nl : List Int, VO 3 W wB.heap.size (.slice (some ⟨gx, 0, none⟩) d.n d.n) (iL nl) ∧ nl.length = d.n ∧ ∀ i, i < s → nl[i]? = some ((d.next cl i : Nat) : Int)
theorem ClS.keep {d : Dta} {cl : Nat → Nat} {wB : World} {bm gx s : Nat} {W W' : World} (h : ClS d cl wB bm gx s W) (hb : Below W.heap.size W W') : ClS d cl wB bm gx s W' := by
  obtain ⟨nl, h1, h2⟩ := h.nx
  exact ⟨h.below.trans (hb.mono h.below.size), h.nm.below hb h.nm.lt, h.bm, nl, h1.below hb (Nat.le_refl _), h2⟩
theorem iL_set (l : List Int) (i : Nat) (x : Int) : (iL l).set i (.int .i64 x) = iL (l.set i x) := by simp [iL]
/-- The class of s is stored. -/
theorem ClS.store {d : Dta} {cl : Nat → Nat} {wB : World} {bm gx s : Nat} {W W' : World} (h : ClS d cl wB bm gx s W) (hs : s < d.n) (hm : NM 9 Lit.string W' bm (d.KB cl (s + 1))) (hg : W.grownBy W' (some bm)) :
    ClS d cl wB bm gx (s + 1) (W'.setCell ⟨gx, s, none⟩ (.int .i64 ((d.next cl s : Nat) : Int))) := by
  obtain ⟨nl, h1, h2, h3⟩ := h.nx
  have h4 : VO 3 W' wB.heap.size (.slice (some ⟨gx, 0, none⟩) d.n d.n) (iL nl) := h1.grownNe hg (.inr (fun e => h.nm.ne_own h1 e.symm))
  have hgx : wB.heap.size ≤ gx := (World.ownsRow.lt h1.2 gx rfl).1
  have h5 := set_val h4 (by rw [iL_len, h2]) s (.int .i64 ((d.next cl s : Nat) : Int)) rfl
  rw [iL_set] at h5
  refine ⟨(h.below.grown hg h.below.size (fun k hk => by cases hk; exact h.bm)).setCell (p := ⟨gx, s, none⟩) hgx _, hm.setCell (fun e => hm.ne_own h4 (by rw [e]; rfl)) _, h.bm, _, h5, by simp [h2], fun i hi => ?_⟩
  rw [List.getElem?_set]
  by_cases e : s = i
  · subst e; rw [if_pos rfl, if_pos (by omega)]
  · rw [if_neg e]; exact h3 i (by omega)
theorem ClS.done {d : Dta} {cl : Nat → Nat} {wB : World} {bm gx : Nat} {W : World} (h : ClS d cl wB bm gx d.n W) : O1 W wB.heap.size (.slice (some ⟨gx, 0, none⟩) d.n d.n) (oI ((List.range d.n).map (d.next cl))) := by
  obtain ⟨nl, h1, h2, h3⟩ := h.nx
  have : nl = oI ((List.range d.n).map (d.next cl)) := by
    apply List.ext_getElem?
    intro i
    by_cases hi : i < d.n
    · rw [h3 i hi]
      unfold oI
      rw [List.getElem?_map, List.getElem?_map, List.getElem?_range hi]; rfl
    · rw [List.getElem?_eq_none (by omega), List.getElem?_eq_none (by rw [oI_len]; simp; omega)]
  rw [this] at h1
  exact h1
set_option maxRecDepth 100000 in
set_option maxHeartbeats 16000000 in
theorem classes_any (d : Dta) (V : Nat) (hd : d.Fit V) (v : Value) (w : World) (hv : TD w v (d.raw V)) :
    Calls Tryz.prog 83 #[v] w fun e w' => ∃ u, e = .returned (.tuple #[u, .int .i64 ((d.cls.2 : Nat) : Int)]) ∧ Below w.heap.size w w' ∧ O1 w' w.heap.size u (oI ((List.range d.n).map d.cls.1)) := by
  obtain ⟨vn, vf, rfl, hn, hf⟩ := hv
  obtain ⟨b3, o3, c3, hN⟩ := N3.nx (show N3 w vn (nx3 d.n d.L d.nx) from hn) hd.pos hd.L8.1
  obtain rfl := hN.form
  obtain ⟨Af, cf, rfl, -, -, hfa⟩ := hf.open
  have hlenf : (d.raw V).fin.length = d.n := by simp [Dta.raw]
  have hvars : (d.raw V).vars = (V : Int) := rfl
  have hemp : (d.raw V).empty = (d.e : Int) := rfl
  rw [hlenf]
  rw [hvars, hemp]
  have HAT := Lib.hid (fun l r hl hr => hN.row hd.L8.1 (l := l) (r := r) hl hr)
  have HFA : Hid (∀ i, i < d.n → ∃ b o, Af = some ⟨b, o, none⟩ ∧ b < w.heap.size ∧ w.cell? ⟨b, o + i, none⟩ = some (.bool (d.fin i))) := fun i hi => hfa i _ (by show ((List.range d.n).map d.fin)[i]? = _; rw [List.getElem?_map, List.getElem?_range hi]; rfl)
  have h64 := hd.n64
  have hL8 := hd.L8.2
  have HOK := Lib.hid hd.ok
  have hpos := hd.pos
  have hmk := run_make_vs eI d.n (by omega)
  have hmm := @run_makeMap Tryz.prog
  obtain ⟨E, hE⟩ : ∃ E, E = d.e := ⟨_, rfl⟩
  rw [← hE]
  clear hn hf hN hlenf hvars hemp hfa hd hE
  obtain ⟨n, hnn⟩ : ∃ n, n = d.n := ⟨_, rfl⟩
  rw [← hnn] at h64 hpos hmk ⊢
  have HN := Lib.hid hnn; clear hnn
  obtain ⟨L, hLL⟩ : ∃ L, L = d.L := ⟨_, rfl⟩
  rw [← hLL] at hL8
  have HL := Lib.hid hLL; clear hLL
  go_enter Tryz.func83, Tryz.ntmps83
  go_wp2
  have hst : Hid (Below w.heap.size w (((w.alloc (.cells #[.int .i64 (V : Int), .int .i64 (E : Int), .slice (some ⟨b3, o3, none⟩) n c3, .slice Af n cf] 25)).alloc (.cells #[.slice (some ⟨w.heap.size + 1 + 1, 0, none⟩) n n] 53)).alloc (.cells (Array.replicate n (.int .i64 0)) 3))) := by unfold Hid; go_grown
  have hO1 : Hid (O1 (((w.alloc (.cells #[.int .i64 (V : Int), .int .i64 (E : Int), .slice (some ⟨b3, o3, none⟩) n c3, .slice Af n cf] 25)).alloc (.cells #[.slice (some ⟨w.heap.size + 1 + 1, 0, none⟩) n n] 53)).alloc (.cells (Array.replicate n (.int .i64 0)) 3)) w.heap.size (.slice (some ⟨w.heap.size + 1 + 1, 0, none⟩) n n) (oI ((List.range n).map fun _ => 0))) := by
    have h := VO.lit (E := 3) (w := (w.alloc (.cells #[.int .i64 (V : Int), .int .i64 (E : Int), .slice (some ⟨b3, o3, none⟩) n c3, .slice Af n cf] 25)).alloc (.cells #[.slice (some ⟨w.heap.size + 1 + 1, 0, none⟩) n n] 53)) (n := n) (List.replicate n (.int .i64 0)) (by simp) (by omega) (by intro u hu; rw [List.eq_of_mem_replicate hu]; rfl)
    simp only [World.size_alloc] at h
    have e : iL (oI ((List.range n).map fun _ => 0)) = List.replicate n (.int .i64 0) := by
      unfold iL oI
      rw [List.map_map, List.map_map]
      apply List.eq_replicate_iff.2
      exact ⟨by simp, fun b hb => by obtain ⟨x, _, rfl⟩ := List.mem_map.1 hb; rfl⟩
    unfold Hid O1
    rw [e]
    rw [List.toArray_replicate] at h
    exact h.mono (by omega)
  refine wp_abs (fun W => Below w.heap.size w W ∧ Row W w.heap.size 25 #[.int .i64 (V : Int), .int .i64 (E : Int), .slice (some ⟨b3, o3, none⟩) n c3, .slice Af n cf] ∧ ∃ gk, Row W (w.heap.size + 1) 53 #[.slice (some ⟨gk, 0, none⟩) n n] ∧ O1 W w.heap.size (.slice (some ⟨gk, 0, none⟩) n n) (oI ((List.range n).map fun _ => 0))) ⟨hst.out, ((Row.new _ _ _).alloc _).alloc _, _, (Row.lit (by simp)).alloc _, hO1.out⟩ ?_
  clear hst hO1
  rintro w1 ⟨hb, hr1, gk, hrc, hcl⟩
  have HB := Lib.hid hb; have R1 := Lib.hid hr1; have RC := Lib.hid hrc; have CL := Lib.hid hcl
  clear hb hr1 hrc hcl
  go_loopg [3] (n + 1) (fun gk0 q wr => ∃ (cl : Nat → Nat) (many gk : Nat), q = .int .i64 (many : Int) ∧ ClsR d cl many gk0 ∧ Below w.heap.size w wr ∧ Row wr w.heap.size 25 #[.int .i64 (V : Int), .int .i64 (E : Int), .slice (some ⟨b3, o3, none⟩) n c3, .slice Af n cf] ∧ Row wr (w.heap.size + 1) 53 #[.slice (some ⟨gk, 0, none⟩) n n] ∧ O1 wr w.heap.size (.slice (some ⟨gk, 0, none⟩) n n) (oI ((List.range n).map cl)))
  case atStart => exact ⟨_, 0, gk, rfl, by rw [HN.out]; exact ClsR.start d, HB.out, R1.out, RC.out, CL.out⟩
  case round =>
    clear HB R1 RC CL
    obtain ⟨cl, many, gk, rfl, hcr, hb, hr1, hrc, hcl⟩ := hrel
    obtain ⟨wB, hwB⟩ : ∃ x, x = wr := ⟨_, rfl⟩
    subst hwB
    have HB := Lib.hid hb; have R1 := Lib.hid hr1; have RC := Lib.hid hrc; have CL := Lib.hid hcl; have HCR := Lib.hid hcr
    have zc := hrc.cell; have zc1 := fun X => (hrc.alloc X).cell; have zc2 := fun X Y => ((hrc.alloc X).alloc Y).cell
    have zlt := hrc.lt
    clear hb hr1 hrc hcl hcr
    go_wp2
    refine wp_abs (fun W => ClS d cl wB wB.heap.size (wB.heap.size + 1) 0 W) ?_ ?_
    · refine ⟨by go_grown, (NM.made _ _ wB).alloc _, Nat.le_refl _, List.replicate n 0, ?_, by simp [HN.out], fun i h => by omega⟩
      have h := VO.lit (E := 3) (w := wB.alloc (.map #[] 0)) (n := n) (List.replicate n (.int .i64 0)) (by simp) (by omega) (by intro u hu; rw [List.eq_of_mem_replicate hu]; rfl)
      simp only [World.size_alloc] at h
      rw [← HN.out]
      have e : iL (List.replicate n 0) = List.replicate n (.int .i64 0) := by simp [iL]
      rw [e]
      have h2 := h.mono (B' := wB.heap.size) (by omega)
      first | exact h2 | (rw [List.toArray_replicate] at h2; exact h2)
    clear zc zc1 zc2
    rintro w2 hcs
    generalize wB.heap.size + 1 = gx at *
    have hbmL : wB.heap.size ≤ wB.heap.size := Nat.le_refl _
    obtain ⟨bm, hbm⟩ : ∃ b, b = wB.heap.size := ⟨_, rfl⟩
    rw [← hbm] at hcs ⊢
    have HBM := Lib.hid hbm
    have HCS := Lib.hid hcs
    clear hcs hbm hbmL hmm hmk zlt
    go_loopg [23] n (fun gk2 q W => ∃ s : Nat, s ≤ n ∧ gk2 = n - s ∧ q = .int .i64 s ∧ ClS d cl wB bm gx s W)
    case atStart => exact ⟨0, Nat.zero_le _, rfl, rfl, HCS.out⟩
    case round =>
      clear HCS
      obtain ⟨s, hs, rfl, rfl, hcs⟩ := hrel
      obtain ⟨wS, hwS⟩ : ∃ x, x = wr := ⟨_, rfl⟩
      subst hwS
      have HCS := Lib.hid hcs
      clear hcs
      by_cases hsn : s < n
      · obtain ⟨bf, of, rfl, hbf, hcf⟩ := HFA.out s (by rw [← HN.out]; exact hsn)
        have hwS : Hid (Below w.heap.size w wS) := HB.out.trans (HCS.out.below.mono HB.out.size)
        rw [← hwS.out.cell (p := ⟨bf, _, none⟩) hbf] at hcf
        have R1S := Lib.hid (R1.out.below HCS.out.below R1.out.lt)
        have RCS := Lib.hid (RC.out.below HCS.out.below RC.out.lt)
        have CLS := Lib.hid (CL.out.below HCS.out.below (Nat.le_refl _))
        have y0 := R1S.out.cell
        obtain ⟨fs, hfs⟩ : ∃ b, b = d.fin s := ⟨_, rfl⟩
        rw [← hfs] at hcf
        have HFS := Lib.hid hfs; clear hfs hbf
        have hconv := run_bytes_of_string (P := Tryz.prog) wS 9 150 5 (boolS fs) under_str eY.under (by kernel_rfl)
        go_upto_region 8 with (go_at_call 123; refine (formatBool fs _).mono ?_; rintro e w3 ⟨rfl, rfl⟩)
        have hsz : (boolS fs).size ≤ 1000000 := by cases fs <;> decide
        have hgl := grown_le wS (boolS fs).size 0 5 hsz
        refine wp_abs (fun W => RowB wS (wS.heap.size + 1) (fb fs) W) ⟨by go_grown, by omega, _, (Row.lit (by simp)).drew, YT.allocd (YT.made wS wS.heap.size (Nat.le_refl _) (boolS fs) _ (fb fs) (by cases fs <;> rfl) hgl.1 hgl.2) _⟩ ?_
        clear hconv y0 hcf hsz hgl
        rintro w4 hrb
        have hgr := hrb.lo
        generalize wS.heap.size + 1 = gr at *
        have HRB := Lib.hid hrb
        have NOTE := Lib.hid (fun t ht bs hbs W h => note_any wS gr (w.heap.size + 1) n (.slice (some ⟨gk, 0, none⟩) n n) cl RCS.out CLS.out.n1 t ht h64 (HCR.out.lt t) bs hbs W h)
        have hfl : (fb fs).length ≤ 99990 := by cases fs <;> decide
        clear hrb
        go_upto_region 10 with (go_at_call 124; refine (NOTE.out s hsn (fb fs) hfl _ HRB.out).mono ?_; rintro e w5 ⟨rfl, hrb5⟩; have HRB5 := Lib.hid hrb5; clear hrb5)
        have hb0 : Hid (RowB wS gr (d.rowX cl s 0 0) w5) := by rw [Hid, d.rowX_zero, ← HFS.out]; exact HRB5.out
        have yc := (RCS.out.below HRB5.out.below RCS.out.lt).cell
        clear HRB HRB5
        go_wp2
        clear yc hfl hgr
        go_loopg [39] n (fun gk3 qq W => ∃ q : Nat, q ≤ n ∧ gk3 = n - q ∧ qq = .int .i64 q ∧ RowB wS gr (d.rowX cl s q 0) W)
        case atStart => exact ⟨0, Nat.zero_le _, rfl, rfl, hb0.out⟩
        case round =>
          clear hb0
          obtain ⟨q, hq, rfl, rfl, hrb⟩ := hrel
          obtain ⟨wQ, hwQ⟩ : ∃ x, x = wr := ⟨_, rfl⟩
          subst hwQ
          have HRB := Lib.hid hrb
          clear hrb
          by_cases hqn : q < n
          · obtain ⟨b2, o2, c2, b1, o1, c1, hb3, c0, hB1, hb2, d0, hC1, hb1, f0⟩ := HAT.out s q (by rw [← HN.out]; exact hsn) (by rw [← HN.out]; exact hqn)
            obtain ⟨b2', o2', c2', b1', o1', c1', _, c0', hB1', hb2', d0', hC1', hb1', f0'⟩ := HAT.out q s (by rw [← HN.out]; exact hqn) (by rw [← HN.out]; exact hsn)
            rw [← HN.out] at c0 c0' hB1 hB1'
            rw [← HL.out] at d0 d0' hC1 hC1' f0 f0'
            have KC := Lib.hid (fun W (h : Below wS.heap.size wS W) => (show W.cell? ⟨b3, o3 + s, none⟩ = _ ∧ W.cell? ⟨b2, o2 + q, none⟩ = _ ∧ W.cell? ⟨b3, o3 + q, none⟩ = _ ∧ W.cell? ⟨b2', o2' + s, none⟩ = _ ∧ (∀ x, x < L → W.cell? ⟨b1, o1 + x, none⟩ = _) ∧ (∀ x, x < L → W.cell? ⟨b1', o1' + x, none⟩ = _) ∧ (∀ i, W.cell? ⟨w.heap.size, i, none⟩ = _) from by
              have hw := hwS.out.trans (h.mono hwS.out.size)
              exact ⟨(hw.cell (p := ⟨b3, _, none⟩) hb3).trans c0, (hw.cell (p := ⟨b2, _, none⟩) hb2).trans d0, (hw.cell (p := ⟨b3, _, none⟩) hb3).trans c0', (hw.cell (p := ⟨b2', _, none⟩) hb2').trans d0', fun x hx => (hw.cell (p := ⟨b1, _, none⟩) hb1).trans (f0 x hx), fun x hx => (hw.cell (p := ⟨b1', _, none⟩) hb1').trans (f0' x hx), (R1S.out.below h R1S.out.lt).cell⟩))
            clear c0 c0' d0 d0' f0 f0' hb3 hb2 hb2' hb1 hb1'
            obtain ⟨p0, p1, _, _, _, _, p2⟩ := KC.out wQ HRB.out.below
            go_wp2
            clear p0 p1 p2
            go_loopg [51] L (fun gk4 xx W => ∃ x : Nat, x ≤ L ∧ gk4 = L - x ∧ xx = .int .i64 x ∧ RowB wS gr (d.rowX cl s q x) W)
            case atStart => exact ⟨0, Nat.zero_le _, rfl, rfl, HRB.out⟩
            case round =>
              clear HRB
              obtain ⟨x, hx, rfl, rfl, hrb⟩ := hrel
              obtain ⟨wX, hwX⟩ : ∃ x, x = wr := ⟨_, rfl⟩
              subst hwX
              have HRB := Lib.hid hrb
              clear hrb
              by_cases hxl : x < L
              · obtain ⟨p0, p1, p2, p3, p4, p5, p6⟩ := KC.out wX HRB.out.below
                have p4' := p4 x hxl
                clear p4 p5
                have ht1 : d.nx s q x < n := by rw [HN.out]; exact HOK.out.hn _ _ _ (by rw [← HN.out]; exact hsn) (by rw [← HN.out]; exact hqn) (by rw [← HL.out]; exact hxl)
                have ht2 : d.nx q s x < n := by rw [HN.out]; exact HOK.out.hn _ _ _ (by rw [← HN.out]; exact hqn) (by rw [← HN.out]; exact hsn) (by rw [← HL.out]; exact hxl)
                have HLEN : Hid ((d.rowX cl s q x).length ≤ 5000) := d.rowX_len cl s q x (by omega) (by rw [← HL.out]; exact hL8) (by omega)
                have HSUC := Lib.hid (d.rowX_succ cl s q x)
                obtain ⟨t1, h1⟩ : ∃ t, t = d.nx s q x := ⟨_, rfl⟩
                obtain ⟨t2, h2⟩ : ∃ t, t = d.nx q s x := ⟨_, rfl⟩
                rw [← h1] at p4' ht1
                rw [← h2] at ht2
                have H1 := Lib.hid h1; have H2 := Lib.hid h2
                clear h1 h2
                go_wp2_with (first
                  | (go_at_call 124; refine (NOTE.out t1 ht1 _ (by have := HLEN.out; omega) _ HRB.out).mono ?_; rintro e w5 ⟨rfl, hrb5⟩; have HRB5 := Lib.hid hrb5; obtain ⟨q0, q1, q2, q3, q4, q5, q6⟩ := KC.out w5 hrb5.below; have q5' := (q5 x hxl); rw [← H2.out] at q5'; clear hrb5 q4 q5)
                  | (go_at_call 124; refine (NOTE.out t2 ht2 _ (by have := HLEN.out; rw [List.length_append]; simp [nb]; omega) _ HRB5.out).mono ?_; rintro e w6 ⟨rfl, hrb6⟩; have HRB6 := Lib.hid hrb6; clear hrb6))
                go_roundg (L - (x + 1))
                case rel => exact ⟨x + 1, by omega, rfl, by go_num, by rw [HSUC.out, ← H1.out, ← H2.out]; exact HRB6.out⟩
                case measure => omega
              · have hxe : x = L := by omega
                have hrb := HRB.out
                rw [hxe, HL.out, d.rowX_next] at hrb
                have HRB2 := Lib.hid hrb
                clear hrb hxe
                go_wp2
                go_roundg (n - (q + 1))
                case rel => exact ⟨q + 1, by omega, rfl, by go_num, HRB2.out⟩
                case measure => omega
          · have hqe : q = n := by omega
            have hrb := HRB.out
            rw [hqe, HN.out, d.rowX_full] at hrb
            have hlen : (encB (d.row cl s)).length ≤ 5000 := by
              have := d.rowX_len cl s d.n 0 (by rw [← HN.out]; exact h64) (by rw [← HL.out]; exact hL8) (by omega)
              rwa [d.rowX_full] at this
            obtain ⟨rv, hrr, hyt⟩ := hrb.ro
            obtain ⟨mb, hmb⟩ : ∃ m, m = (encB (d.row cl s)).length := ⟨_, rfl⟩
            obtain ⟨gq, capq, rfl⟩ := hyt.formN hmb.symm
            have hstr := run_string_yt wQ _ _ _ hyt
            have hkey := key_row (encB (d.row cl s)) (by omega)
            have hkeep := HCS.out.keep (hrb.below)
            obtain ⟨nl, hn1, hn2, hn3⟩ := hkeep.nx
            have z0 := hrr.cell
            have HKEY : Hid (keyOf Tryz.prog 9 (.string (rowStr (encB (d.row cl s)))) = some (Lit.string (gB (d.row cl s)))) := hkey
            have HSTR : Hid ((convert 150 9 (.slice (some ⟨gq, 0, none⟩) mb capq)).run Tryz.prog wQ = .ok (.string (rowStr (encB (d.row cl s)))) wQ) := hstr
            have HK := Lib.hid hkeep
            obtain ⟨g3, cap3, cs3, he3, hg3, hrow3, _, _, hcell3⟩ := VO.row hn1 (by rw [iL_len, hn2, ← HN.out]; omega)
            simp only [Value.slice.injEq, Option.some.injEq, Addr.mk.injEq, and_true, true_and] at he3
            obtain ⟨rfl, -⟩ := he3
            obtain ⟨u3, hcs3⟩ : ∃ u3, cs3[s]? = some u3 := by
              refine ⟨(iL nl)[s]'(by rw [iL_len, hn2, ← HN.out]; exact hsn), ?_⟩
              rw [← hrow3.cell s]
              exact hcell3 s _ (List.getElem?_eq_getElem _)
            have R3 := Lib.hid hrow3; have HC3 := Lib.hid hcs3
            have hdn : s < d.n := by rw [← HN.out]; exact hsn
            have H256 := Lib.hid HCR.out.lt
            have hstr' := HSTR.out
            clear hstr hkey hkeep hn1 hn2 hn3 hrow3 hcell3 hcs3 hrr hyt hmb hrb hlen hqe
            by_cases hmem : d.row cl s ∈ d.KS cl s
            · obtain ⟨e1, e2⟩ := d.KB_hit cl H256.out hdn hmem
              have HM := Lib.hid ((d.KB_mem cl H256.out s).2 hmem)
              obtain ⟨K, hK⟩ : ∃ K, K = d.next cl s := ⟨_, rfl⟩
              rw [← hK] at e1
              have E1 := Lib.hid e1; have E2 := Lib.hid e2; have HKK := Lib.hid hK
              clear e1 e2 hmem hK
              have z1 := (R3.out.cell s).trans HC3.out; have z2 := R3.out.free s
              go_wp2_with (at_lookup; refine wpList_nm_hitv keyed_str rfl (.tmp 83) (.tmp 85) _ rfl under_msi rfl HK.out.nm (gB (d.row cl s)) HM.out K E1.out _ rfl HKEY.out ?_)
              go_roundg (n - (s + 1))
              case rel => exact ⟨s + 1, by omega, rfl, by go_num, by rw [HKK.out]; exact HK.out.store hdn (by rw [E2.out]; exact HK.out.nm) (World.grownBy.refl _ _)⟩
              case measure => omega
            · obtain ⟨e1, e2⟩ := d.KB_miss cl hdn hmem
              have HM := Lib.hid (fun h => hmem ((d.KB_mem cl H256.out s).1 h))
              have hkl := d.KB_len cl (s := s)
              obtain ⟨K, hK⟩ : ∃ K, K = d.next cl s := ⟨_, rfl⟩
              rw [← hK] at e1
              have E1 := Lib.hid e1; have E2 := Lib.hid e2; have HKK := Lib.hid hK; have HKL := Lib.hid hkl
              clear e1 e2 hmem hK hkl
              go_wp2_with (first
                | (at_lookup; refine wpList_nm_miss keyed_str rfl (.tmp 83) (.tmp 85) _ rfl under_msi rfl HK.out.nm (gB (d.row cl s)) HM.out _ rfl HKEY.out ?_)
                | (at_len; refine wpList_nm_lenv rfl (.tmp 91) _ rfl under_msi rfl HK.out.nm K E1.out ?_)
                | (at_mapUpdate; refine wpList_nm_put kl_str keyed_str rfl (.tmp 93) (.tmp 95) (.tmp 96) _ (.inl rfl) under_msi rfl HK.out.nm (by have := HKL.out; have := HN.out; omega) (gB (d.row cl s)) HM.out _ rfl HKEY.out (by rw [E1.out]; rfl) ?_; intro w7 hm7 hg7; have HM7 := Lib.hid hm7; have HG7 := Lib.hid hg7; have z1 := ((R3.out.grown hg7 (fun e => HK.out.nm.ne_row R3.out (Option.some.inj e).symm)).cell s).trans HC3.out; have z2 := (R3.out.grown hg7 (fun e => HK.out.nm.ne_row R3.out (Option.some.inj e).symm)).free s; clear hm7 hg7))
              go_roundg (n - (s + 1))
              case rel => exact ⟨s + 1, by omega, rfl, by go_num, by rw [HKK.out]; exact HK.out.store hdn (by rw [E2.out]; exact HM7.out) HG7.out⟩
              case measure => omega
      · have hse : s = n := by omega
        have hcs := HCS.out
        rw [hse, HN.out] at hcs
        have hdone := hcs.done
        have hcnt := d.KB_count cl
        rw [← HN.out] at hdone
        have hnm := hcs.nm
        obtain ⟨K, hK⟩ : ∃ K, K = d.count cl := ⟨_, rfl⟩
        rw [← hK] at hcnt
        have HD := Lib.hid hdone; have HCN := Lib.hid hcnt; have HNM := Lib.hid hnm; have HKK := Lib.hid hK
        have RCS := Lib.hid (RC.out.below hcs.below RC.out.lt)
        have R1S := Lib.hid (R1.out.below hcs.below R1.out.lt)
        have HBS : Hid (Below w.heap.size w wS) := HB.out.trans (hcs.below.mono HB.out.size)
        have hwB := HB.out.size
        have y0 := RCS.out.cell; have y1 := RCS.out.free
        clear hcs hse hdone hcnt hnm hK HCS
        by_cases hkm : K = many
        · have hkm' : ((K : Int) == many) = true := by rw [hkm]; simp
          have hcl := HCR.out.stop (by rw [← HKK.out]; exact hkm)
          have HCL := Lib.hid hcl
          clear hcl hkm
          go_wp2_with (at_len; refine wpList_nm_lenv rfl (.tmp 102) _ rfl under_msi rfl HNM.out K HCN.out ?_)
          refine post_abs2 (fun W => Row W (w.heap.size + 1) 53 #[.slice (some ⟨gx, 0, none⟩) n n] ∧ O1 W w.heap.size (.slice (some ⟨gx, 0, none⟩) n n) (oI ((List.range n).map (d.next cl))) ∧ Below w.heap.size w W) ⟨RCS.out.set 0 _, (HD.out.mono hwB).setRow RCS.out (by decide) 0 _, HBS.out.setCell (p := ⟨w.heap.size + 1, 0, none⟩) (by simp) _⟩ ?_
          clear y0 y1
          rintro W5 ⟨r0, hT, hb⟩
          have q0 := r0.cell 0
          simp only [List.getElem?_toArray, List.getElem?_cons_zero, List.getElem?_cons_succ] at q0
          have HT := Lib.hid hT; have HB5 := Lib.hid hb
          clear r0 hT hb
          exact bodyPost_ret (v := .tuple #[.slice (some ⟨gx, 0, none⟩) n n, .int .i64 (many : Int)]) (by simp [results, Tryz.results83, go_sem, q0]) rfl ⟨.slice (some ⟨gx, 0, none⟩) n n, by rw [HCL.out], HB5.out, by rw [HCL.out]; exact HT.out⟩
        · have hkm' : ((K : Int) == many) = false := by rw [beq_eq_false_iff_ne]; omega
          obtain ⟨k, hk1, hk2⟩ := HCR.out.go (by rw [← HN.out]; exact h64) (by rw [← HKK.out]; exact hkm)
          rw [← HKK.out] at hk2
          have HK2 := Lib.hid hk2; have HK1 := Lib.hid hk1
          clear hk1 hk2 hkm
          go_wp2_with (first | (at_len; refine wpList_nm_lenv rfl (.tmp 102) _ rfl under_msi rfl HNM.out K HCN.out ?_) | (at_len; refine wpList_nm_lenv rfl (.tmp 109) _ rfl under_msi rfl HNM.out K HCN.out ?_))
          go_roundg k
          case rel => exact ⟨_, K, gx, rfl, HK2.out, HBS.out.setCell (p := ⟨w.heap.size + 1, 0, none⟩) (by simp) _, R1S.out.far (by simp) _, RCS.out.set 0 _, (HD.out.mono hwB).setRow RCS.out (by decide) 0 _⟩
          case measure => have := HK1.out; omega
end Go.Proofs.YthkfjnmnoanhlaaGreatDoor
