/- Contract of decode of the package tree. -/
import Derived.Test.YthkfjnmnoanhlaaGreatDoorBtM
import Derived.Test.YthkfjnmnoanhlaaGreatDoorTrC
import Derived.Test.YthkfjnmnoanhlaaGreatDoorIntA
import Derived.Test.YthkfjnmnoanhlaaGreatDoorKeep
import Derived.Laws.EntriesVeiled
set_option linter.unusedSimpArgs false
set_option linter.unusedVariables false
namespace Go.Proofs.YthkfjnmnoanhlaaGreatDoor
open Go.RowKit

theorem IS.tail {w : World} {A : Option Addr} {n c : Nat} {x : Int} {y : List Int} (h : IS w (.slice A n c) (x :: y)) :
    ∃ g o, A = some ⟨g, o, none⟩ ∧ n = y.length + 1 ∧ n ≤ c ∧ c ≤ 9223372036854775807 ∧ g < w.heap.size ∧ w.cell? ⟨g, o, none⟩ = some (.int .i64 x) ∧
      (c = 1 → IS w (.slice (some ⟨g, o, none⟩) (n - 1) 0) y) ∧ (c ≠ 1 → IS w (.slice (some ⟨g, o + 1, none⟩) (n - 1) (c - 1)) y) := by
  obtain ⟨A', c', hv, h1, h2, h3⟩ := h
  simp only [Value.slice.injEq, List.length_cons] at hv
  obtain ⟨rfl, rfl, rfl⟩ := hv
  obtain ⟨g, o, rfl, hg, hc⟩ := h3 (by simp)
  simp only [List.length_cons] at h1
  refine ⟨g, o, rfl, rfl, h1, h2, hg, by simpa using hc 0 x rfl, ?_, ?_⟩
  · intro hc1
    have : y = [] := List.eq_nil_of_length_eq_zero (by omega)
    subst this
    exact ⟨_, 0, rfl, by simp, by omega, by simp⟩
  · intro hc1
    exact ⟨_, c - 1, by simp, by omega, by omega, fun _ => ⟨g, o + 1, rfl, hg, fun i z hi => by
      have := hc (i + 1) z (by simpa using hi)
      rw [show o + 1 + i = o + (i + 1) by omega]; exact this⟩⟩

abbrev rdF (B : Nat) : Value := .func (.func 131) #[] #[.pointer (some ⟨B, 0, none⟩), .pointer (some ⟨B + 1, 0, none⟩), .pointer (some ⟨B + 2, 0, none⟩)]
/-- The state of the closure of decode: y is the code that is left, L what has been read. -/
structure DS (w : World) (cv : Value) (y : List Int) (tv : Value) (L : List Lf) (W : World) : Prop where
  below : Below w.heap.size w W
  cd : Row W w.heap.size 53 #[cv]
  tr : Row W (w.heap.size + 1) 34 #[tv]
  fn : Row W (w.heap.size + 2) 157 #[rdF w.heap.size]
  co : IS w cv y
  ow : TO W (w.heap.size + 3) tv L
def DecE (w : World) (at' : Int) (y : List Int) (L : List Lf) (e : Ending) (W' : World) : Prop := e = .returned (.int .i64 at') ∧ ∃ cv tv, DS w cv y tv L W'
theorem DS.code {w W : World} {cv cv' tv : Value} {y y' : List Int} {L : List Lf} (h : DS w cv y tv L W) (hc : IS w cv' y') : DS w cv' y' tv L (W.setCell ⟨w.heap.size, 0, none⟩ cv') := by
  refine ⟨h.below.setCell (Nat.le_refl _) _, h.cd.set 0 cv', h.tr.far (by simp) _, h.fn.far (by simp) _, hc, ?_⟩
  obtain ⟨h0, h1, h2⟩ := h.ow
  refine ⟨h0, h1, ?_⟩
  rcases h2 with h2 | ⟨g', cap, cur, hv, hB, hg, r⟩
  · exact .inl h2
  · exact .inr ⟨g', cap, cur, hv, hB, (Below.heap_setCell W _ _ g' (by simp; omega)).trans hg, r⟩

theorem DS.head {w W : World} {cv tv : Value} {x : Int} {y : List Int} {L : List Lf} (h : DS w cv (x :: y) tv L W) :
    ∃ g o n c, cv = .slice (some ⟨g, o, none⟩) n c ∧ 1 ≤ n ∧ n ≤ c ∧ c ≤ 9223372036854775807 ∧ W.cell? ⟨w.heap.size, 0, none⟩ = some (.slice (some ⟨g, o, none⟩) n c) ∧ W.cell? ⟨g, o, none⟩ = some (.int .i64 x) ∧
      (c = 1 → DS w (.slice (some ⟨g, o, none⟩) 0 0) y tv L (W.setCell ⟨w.heap.size, 0, none⟩ (.slice (some ⟨g, o, none⟩) 0 0))) ∧
      (c ≠ 1 → DS w (.slice (some ⟨g, o + 1, none⟩) (n - 1) (c - 1)) y tv L (W.setCell ⟨w.heap.size, 0, none⟩ (.slice (some ⟨g, o + 1, none⟩) (n - 1) (c - 1)))) := by
  obtain ⟨A, c, rfl⟩ : ∃ A c, cv = .slice A (x :: y).length c := by obtain ⟨A, c, hv, _⟩ := h.co; exact ⟨A, c, hv⟩
  obtain ⟨g, o, rfl, hn, hc1, hc2, hg, hcell, ht1, ht2⟩ := IS.tail h.co
  exact ⟨g, o, _, c, rfl, by rw [hn]; omega, hc1, hc2, h.cd.cell 0, (h.below.cell (p := ⟨g, o, none⟩) hg).trans hcell, fun e => h.code (by have := ht1 e; rwa [show (x :: y).length - 1 = 0 by omega] at this), fun e => h.code (ht2 e)⟩
theorem calls_absD {P : Program} {f : FuncId} {args : Array Value} {R : Ending → World → Prop} {w : World} (F : World → Prop) (hF : F w) (hk : ∀ W, F W → Calls P f args W R) : Calls P f args w R := hk w hF
/-- The children of a leaf are stored. -/
theorem DS.kids {w W : World} {cv : Value} {y : List Int} {F : List Lf} {g n cap m : Nat} {x : Lf} (h : DS w cv y (.slice (some ⟨g, 0, none⟩) n cap) F W) (hn : F.length = n) (hx : F[m]? = some x) (a b : Int) :
    DS w cv y (.slice (some ⟨g, 0, none⟩) n cap) (F.set m ⟨x.label, a, b⟩) ((W.setCell ⟨g, m * 3 + 1, none⟩ (.int .i64 a)).setCell ⟨g, m * 3 + 2, none⟩ (.int .i64 b)).drew := by
  have hm : m < F.length := (List.getElem?_eq_some_iff.1 hx).1
  obtain ⟨g', cap', hv, hg, hg2⟩ := h.ow.shape hn.symm (by omega)
  simp only [Value.slice.injEq, Option.some.injEq, Addr.mk.injEq] at hv
  obtain ⟨⟨rfl, _⟩, _, rfl⟩ := hv
  have hlb := h.ow.1 x (List.mem_of_getElem? hx)
  have s1 := set_leaf (m' := ⟨x.label, a, x.right⟩) h.ow hn hx 1 (.int .i64 a) hlb rfl (by omega)
  have hx2 : (F.set m ⟨x.label, a, x.right⟩)[m]? = some ⟨x.label, a, x.right⟩ := by rw [List.getElem?_set_self hm]
  have s2 := set_leaf (m' := ⟨x.label, a, b⟩) s1 (by simpa using hn) hx2 2 (.int .i64 b) hlb rfl (by omega)
  rw [List.set_set] at s2
  exact ⟨((h.below.setCell (by simp; omega) _).setCell (by simp; omega) _).drew, (h.cd.far (by simp; omega) _).far (by simp; omega) _, (h.tr.far (by simp; omega) _).far (by simp; omega) _, (h.fn.far (by simp; omega) _).far (by simp; omega) _, h.co, s2⟩
theorem DS.lt {w W : World} {cv tv : Value} {y : List Int} {L : List Lf} (h : DS w cv y tv L W) : w.heap.size + 2 < W.heap.size := h.fn.lt

/-- A leaf more: the new slice is in the tree's box. -/
theorem DS.app {w W W2 : World} {cv tv v3 : Value} {y : List Int} {L : List Lf} (h : DS w cv y tv L W) (o : Obj) (F : List Lf) (hg : (W.alloc o).grownBy W2 tv.ownBlock) (ho : TO W2 (w.heap.size + 3) v3 F) :
    Row W2 (w.heap.size + 1) 34 #[tv] ∧ Row W2 (w.heap.size + 2) 157 #[rdF w.heap.size] ∧ DS w cv y v3 F (W2.setCell ⟨w.heap.size + 1, 0, none⟩ v3) := by
  have hlt := h.lt
  have hap : ∀ k, k < w.heap.size + 3 → some k ≠ tv.ownBlock := fun k hk e => by
    have := h.ow.2.lt k e.symm
    omega
  have r1 := (h.cd.alloc o).grown hg (hap _ (by omega))
  have r2 := (h.tr.alloc o).grown hg (hap _ (by omega))
  have r3 := (h.fn.alloc o).grown hg (hap _ (by omega))
  refine ⟨r2, r3, ?_, r1.far (by simp) _, r2.set 0 v3, r3.far (by simp) _, h.co, ?_⟩
  · refine Below.setCell ?_ (by simp) _
    exact (h.below.alloc (by omega) o).grown hg (by simp only [World.size_alloc]; omega) fun k hk => by have := h.ow.2.lt k hk; omega
  · obtain ⟨h0, h1, h2⟩ := ho
    refine ⟨h0, h1, ?_⟩
    rcases h2 with h2 | ⟨g', cap, cur, hv, hB, hg, r⟩
    · exact .inl h2
    · exact .inr ⟨g', cap, cur, hv, hB, (Below.heap_setCell W2 _ _ g' (by simp; omega)).trans hg, r⟩

set_option maxRecDepth 100000 in
set_option maxHeartbeats 4000000 in
theorem read_any (w : World) : ∀ (b : Bt) (y : List Int) (cv tv : Value) (L : List Lf) (W : World), b.lt 256 → L.length + b.size ≤ 1000 → DS w cv (b.code ++ y) tv L W →
    Calls Tryz.prog 131 #[.pointer (some ⟨w.heap.size, 0, none⟩), .pointer (some ⟨w.heap.size + 1, 0, none⟩), .pointer (some ⟨w.heap.size + 2, 0, none⟩)] W (DecE w (b.at L.length) y (L ++ b.enc L.length)) := by
  intro b
  induction b with
  | nil =>
    intro y cv tv L W hlt hl h
    have e1 : (Bt.nil.at L.length : Int) = -1 := rfl
    have e2 : L ++ Bt.nil.enc L.length = L := by simp [Bt.enc]
    rw [e1, e2]
    obtain ⟨g, o, n, c, rfl, hn1, hnc, hc2, c0, c1, d1, d2⟩ := DS.head (x := 0) (y := y) h
    have hz := h.lt
    have fz := h.cd.free
    clear h e1 e2 hlt hl
    have hn1i : (1 : Int) ≤ n := by omega
    by_cases hc : c = 1
    · have HD := Lib.hid (d1 hc)
      subst hc
      clear d1 d2
      go_enter Tryz.func131, Tryz.ntmps131
      go_wp2
      go_returns
      exact ⟨rfl, _, _, HD.out⟩
    · have HD := Lib.hid (d2 hc)
      clear d1 d2
      go_enter Tryz.func131, Tryz.ntmps131
      go_wp2
      go_returns
      exact ⟨rfl, _, _, HD.out⟩
  | node lab l r ihl ihr =>
    intro y cv tv L W hlt hl h
    obtain ⟨hl0, hl1, hll, hlr⟩ := hlt
    simp only [Bt.size] at hl
    obtain ⟨R, hR⟩ : ∃ R : Int × List Lf, R = ((Bt.node lab l r).at L.length, L ++ (Bt.node lab l r).enc L.length) := ⟨_, rfl⟩
    rw [show (Bt.node lab l r).at L.length = R.1 by rw [hR], show L ++ (Bt.node lab l r).enc L.length = R.2 by rw [hR]]
    have hR1 : R.1 = L.length := by rw [hR]; simp [Bt.at, Bt.size]
    have hR2 : R.2 = L ++ [⟨lab, l.at (L.length + 1), r.at (L.length + 1 + l.size)⟩] ++ l.enc (L.length + 1) ++ r.enc (L.length + 1 + l.size) := by rw [hR]; simp [Bt.enc]
    have HR1 := Lib.hid hR1; have HR2 := Lib.hid hR2
    clear hR1 hR2 hR
    have h2 : DS w cv ((1 + lab) :: (l.code ++ (r.code ++ y))) tv L W := by have := h; simpa [Bt.code] using this
    clear h
    have IHL := Lib.hid (fun cv tv L W h1 h2 => ihl (r.code ++ y) cv tv L W hll h1 h2)
    have IHR := Lib.hid (fun cv tv L W h1 h2 => ihr y cv tv L W hlr h1 h2)
    clear ihl ihr
    obtain ⟨g, o, n, c, rfl, hn1, hnc, hc2, c0, c1, d1, d2⟩ := DS.head h2
    have hz := h2.lt
    have fz := h2.cd.free
    have hn1i : (1 : Int) ≤ n := by omega
    have hne : ((1 + lab : Int) == 0) = false := by rw [beq_eq_false_iff_ne]; omega
    obtain ⟨m, hm⟩ : ∃ m, m = L.length := ⟨_, rfl⟩
    obtain ⟨A0, cap0, rfl⟩ := h2.ow.ts.form
    rw [← hm] at d1 d2 hl
    have HM := Lib.hid hm
    have htc := h2.tr.cell 0
    rw [← hm] at htc
    have d0 : W.cell? ⟨w.heap.size + 1, 0, none⟩ = some (.slice A0 m cap0) := htc
    clear h2 htc hm
    have hdd : ∃ cv', DS w cv' (l.code ++ (r.code ++ y)) (.slice A0 m cap0) L (W.setCell ⟨w.heap.size, 0, none⟩ cv') ∧ ((c = 1 ∧ cv' = .slice (some ⟨g, o, none⟩) 0 0) ∨ (c ≠ 1 ∧ cv' = .slice (some ⟨g, o + 1, none⟩) (n - 1) (c - 1))) := by
      by_cases hc : c = 1
      · exact ⟨_, d1 hc, .inl ⟨hc, rfl⟩⟩
      · exact ⟨_, d2 hc, .inr ⟨hc, rfl⟩⟩
    clear d1 d2
    obtain ⟨cv', hd, hcc⟩ := hdd
    have HD := Lib.hid hd; clear hd
    rcases hcc with ⟨rfl, rfl⟩ | ⟨hc, rfl⟩
    all_goals
      have HO := Lib.hid HD.out.ow
      go_enter Tryz.func131, Tryz.ntmps131
      go_wp2_with (at_builtin; go_loud (refine wpList_append_ts rfl (.tmp 17) (.tmp 22) rfl (w.heap.size + 3) _ L rfl (HO.out.below (B' := W.heap.size) (by go_grown) (by simp)) _ [⟨1 + lab - 1, 0, 0⟩] rfl (TS.one (by exact Row.lit (by simp)) (by omega) (by omega)) (by rw [← HM.out]; simp only [List.length_cons, List.length_nil]; omega) (by simp; omega) ?_; intro v3 w3 ho3 hg3 _; obtain ⟨g3, cap3, rfl, hg3a, hg3b⟩ := ho3.shape (n := m + 1) (by rw [List.length_append, ← HM.out]; rfl) (by omega); have HAP := Lib.hid (HD.out.app _ _ hg3 ho3); have HRT := Lib.hid HAP.out.1; have tc := HRT.out.cell; have tf := HRT.out.free; have tg : w3.cell? ⟨w.heap.size + 2, 0, none⟩ = some (rdF w.heap.size) := HAP.out.2.1.cell 0; clear ho3 hg3))
      have HD1 := Lib.hid HAP.out.2.2
      clear HAP HRT tc tf tg
      refine calls_absD (fun X => DS w _ (l.code ++ (r.code ++ y)) (.slice (some ⟨g3, 0, none⟩) (m + 1) cap3) (L ++ [⟨1 + lab - 1, 0, 0⟩]) X) HD1.out ?_
      clear HD HO HD1 c0 c1 d0 fz hz
      rintro X hx
      have hlx : (L ++ [(⟨1 + lab - 1, 0, 0⟩ : Lf)]).length = m + 1 := by rw [List.length_append, ← HM.out]; rfl
      have hcl := IHL.out _ _ _ X (by rw [hlx]; omega) hx
      rw [hlx] at hcl
      refine hcl.mono ?_
      clear hx hcl
      rintro e W4 ⟨rfl, cv4, tv4, h4⟩
      obtain ⟨at4, hat4⟩ : ∃ a, a = l.at (m + 1) := ⟨_, rfl⟩
      rw [← hat4]
      have HAT4 := Lib.hid hat4
      have H4 := Lib.hid h4
      have tg : W4.cell? ⟨w.heap.size + 2, 0, none⟩ = some (rdF w.heap.size) := h4.fn.cell 0
      have hl4 : ((L ++ [(⟨1 + lab - 1, 0, 0⟩ : Lf)]) ++ l.enc (m + 1)).length = m + 1 + l.size := by rw [List.length_append, hlx, Bt.enc_len]
      have hcr := IHR.out _ _ _ W4 (by rw [hl4]; omega) h4
      rw [hl4] at hcr
      have HCR := Lib.hid hcr
      clear h4 hat4 hcr
      go_wp2_with fail
      (with_reducible refine HCR.out.mono ?_)
      rintro e W5 ⟨rfl, cv5, tv5, h5⟩
      obtain ⟨at5, hat5⟩ : ∃ a, a = r.at (m + 1 + l.size) := ⟨_, rfl⟩
      rw [← hat5]
      have HAT5 := Lib.hid hat5
      have hl5 : (((L ++ [(⟨1 + lab - 1, 0, 0⟩ : Lf)]) ++ l.enc (m + 1)) ++ r.enc (m + 1 + l.size)).length = m + 1 + l.size + r.size := by rw [List.length_append, hl4, Bt.enc_len]
      obtain ⟨N, hN⟩ : ∃ N, N = m + 1 + l.size + r.size := ⟨_, rfl⟩
      rw [← hN] at hl5
      have hmN : m < N := by omega
      have hmNi : (m : Int) < N := by omega
      obtain ⟨g5, cap5, rfl, hg5, hg5'⟩ := h5.ow.shape hl5.symm (by omega)
      have h5tr := h5.tr
      have h5lt := h5.lt
      have HB5 := Lib.hid h5
      have hx5 : (((L ++ [(⟨1 + lab - 1, 0, 0⟩ : Lf)]) ++ l.enc (m + 1)) ++ r.enc (m + 1 + l.size))[m]? = some ⟨1 + lab - 1, 0, 0⟩ := by simp [HM.out]
      have HFIN := Lib.hid (h5.kids hl5 hx5 at4 at5)
      obtain ⟨d0, d1, d2⟩ := h5.ow.ts.at3 hx5
      simp only [Nat.zero_add] at d1 d2
      have f1 := own_free_t h5.ow (m * 3 + 1)
      have f2 := own_free_t h5.ow (m * 3 + 2)
      have tc : W5.cell? ⟨w.heap.size + 1, 0, none⟩ = some (.slice (some ⟨g5, 0, none⟩) N cap5) := h5.tr.cell 0
      have hne1 : g5 ≠ w.heap.size + 1 := by omega
      have HEQ : Hid ((((L ++ [(⟨1 + lab - 1, 0, 0⟩ : Lf)]) ++ l.enc (m + 1)) ++ r.enc (m + 1 + l.size)).set m ⟨1 + lab - 1, at4, at5⟩ = R.2) := by
        rw [Hid, HR2.out, ← HM.out, HAT4.out, HAT5.out, show 1 + lab - 1 = lab by omega, List.append_assoc, List.append_assoc, List.set_append_right _ _ (by rw [HM.out]; exact Nat.le_refl _), HM.out, Nat.sub_self]
        simp
      have HRR : Hid (R.1 = (m : Int)) := by rw [Hid, HR1.out, HM.out]
      clear hat5 hN h5 h5tr hx5 hl5 d0 tg hl4 hlx HB5 HCR H4
      go_wp2_with fail
      first
      | go_region
      | fail
      all_goals
        go_wp2_with fail
        go_returns
        exact ⟨by rw [HRR.out]; rfl, _, _, HEQ.out ▸ HFIN.out⟩

theorem TO.setFar {w : World} {B : Nat} {v : Value} {f : List Lf} (h : TO w B v f) {p : Addr} (hp : p.block < B) (u : Value) : TO (w.setCell p u) B v f := by
  obtain ⟨h0, h1, h2⟩ := h
  refine ⟨h0, h1, ?_⟩
  rcases h2 with h2 | ⟨g', cap, cur, hv, hB, hg, r⟩
  · exact .inl h2
  · exact .inr ⟨g', cap, cur, hv, hB, (Below.heap_setCell w _ _ g' (by omega)).trans hg, r⟩
set_option maxRecDepth 100000 in
set_option maxHeartbeats 1000000 in
theorem decode_any (b : Bt) (v : Value) (w : World) (hv : IS w v b.code) (hb : b.lt 256) (hs : b.size ≤ 100) :
    Calls Tryz.prog 95 #[v] w (RetTO w (b.enc 0)) := by
  have HV := Lib.hid hv
  obtain ⟨A, c, rfl⟩ : ∃ A c, v = .slice A b.code.length c := by obtain ⟨A, c, h, _⟩ := hv; exact ⟨A, c, h⟩
  obtain ⟨n, hn⟩ : ∃ n, n = b.code.length := ⟨_, rfl⟩
  rw [← hn] at HV ⊢
  have HD := Lib.hid (fun X (h : DS w (.slice A n c) (b.code ++ []) (.slice none 0 0) [] X) => read_any w b [] _ _ [] X hb (by simp; omega) h)
  rw [List.append_nil] at HD
  simp only [List.length_nil, List.nil_append] at HD
  obtain ⟨R, hR⟩ : ∃ R, R = b.enc 0 := ⟨_, rfl⟩
  obtain ⟨a0, ha0⟩ : ∃ R, R = b.at 0 := ⟨_, rfl⟩
  rw [← hR, ← ha0] at HD
  rw [← hR]
  clear hv hn hb hs hR ha0
  go_enter Tryz.func95, Tryz.ntmps95
  go_upto_region 2 with (fail)
  refine wp_abs (fun X => Below w.heap.size w X ∧ Row X w.heap.size 53 #[.slice A n c] ∧ Row X (w.heap.size + 1) 34 #[.slice none 0 0] ∧ Row X (w.heap.size + 1 + 1) 157 #[.nilFunc]) ?_ ?_
  · exact ⟨(((Below.refl _ _).alloc (Nat.le_refl _) _).alloc (by simp) _).alloc (by simp; omega) _, ((Row.new _ _ _).alloc _).alloc _, (Row.lit (by simp)).alloc _, Row.lit (by simp)⟩
  rintro X ⟨hb, r1, r2, r3⟩
  have HDS := Lib.hid (show DS w (.slice A n c) b.code (.slice none 0 0) [] (X.setCell ⟨w.heap.size + 1 + 1, 0, none⟩ (rdF w.heap.size)) from
    ⟨hb.setCell (by simp; omega) _, r1.far (by simp; omega) _, r2.far (by simp) _, r3.set 0 _, HV.out, TO.nil _ _⟩)
  have tc : X.cell? ⟨w.heap.size + 1 + 1, 0, none⟩ = some .nilFunc := r3.cell 0
  have tf : X.frozen? ⟨w.heap.size + 1 + 1, 0, none⟩ = false := r3.free 0
  have HCD := Lib.hid (HD.out _ HDS.out)
  clear hb r1 r2 r3 HDS HD
  go_wp2_with fail
  refine HCD.out.mono ?_
  rintro e W1 ⟨rfl, cv, tv, h1⟩
  obtain ⟨A1, c1, rfl⟩ := h1.ow.ts.form
  have HO := Lib.hid h1.ow; have HB := Lib.hid h1.below
  have sd : W1.cell? ⟨w.heap.size + 1, 0, none⟩ = some (.slice A1 R.length c1) := h1.tr.cell 0
  have sf : W1.frozen? ⟨w.heap.size + 1, 0, none⟩ = false := h1.tr.free 0
  have HOW := Lib.hid (TO.setFar h1.ow (p := ⟨w.heap.size + 1, 0, none⟩) (by show w.heap.size + 1 < w.heap.size + 3; omega) (.slice A1 R.length c1))
  have sg : (W1.setCell ⟨w.heap.size + 1, 0, none⟩ (.slice A1 R.length c1)).cell? ⟨w.heap.size + 1, 0, none⟩ = some (.slice A1 R.length c1) := (h1.tr.set 0 (.slice A1 R.length c1)).cell 0
  clear HCD tc tf h1
  go_wp2_with fail
  exact bodyPost_ret (v := .slice A1 R.length c1) (by simp [results, Tryz.results95, go_sem, sg]) rfl ⟨_, rfl, HB.out.setCell (by simp) _, HOW.out.mono (by omega)⟩
end Go.Proofs.YthkfjnmnoanhlaaGreatDoor
