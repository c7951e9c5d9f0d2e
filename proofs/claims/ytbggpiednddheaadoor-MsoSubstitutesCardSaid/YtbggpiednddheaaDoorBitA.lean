/- Contracts of the package bitset, for sets of at most one word (written by gen_bits.py). -/
import Derived.Test.YtbggpiednddheaaDoorFree
import Derived.Test.YtbggpiednddheaaDoorKit
import Derived.Test.YtbggpiednddheaaDoorSubst
import Derived.Laws.Bits64b
set_option linter.unusedSimpArgs false
set_option linter.unusedVariables false
namespace Go.Proofs.YtbggpiednddheaaDoor
open Go.RowKit

theorem info_u64 : (Tryd.prog.info? 70).map (fun i => (i.zero, i.size, i.bytes)) = some (some (.int .u64 0), 1, 8) := by kernel_rfl
def ucells (l : List Nat) : List Value := l.map fun s : Nat => Value.int .u64 s

theorem run_append_ws (w : World) (B : Nat) (v : Value) (f : List Nat) (hown : WS w B v f) (x : Value) (g : List Nat) (hx : US w x g) (ty : TypeId) (hl : f.length + g.length ≤ 1000000) (hB : B ≤ w.heap.size) :
    ∃ v' w', (Builtin.append_ #[29, 29] ty #[v, x]).run Tryd.prog w = .ok v' w' ∧ WS w' B v' (f ++ g) ∧ w.grownBy w' v.ownBlock ∧ (v'.ownBlock = v.ownBlock ∨ v'.ownBlock = some w.heap.size) := by
  obtain ⟨i, hi, hz, h1, h2⟩ := info_parts info_u64
  obtain ⟨A, c, rfl, hc, hc2, hcell⟩ := hx
  have hlen : (f ++ g).length = f.length + g.length := by simp
  have h1c : ∀ u ∈ ucells g, u.oneCell' = true := by
    intro u hu
    simp only [ucells, List.mem_map] at hu
    obtain ⟨_, _, rfl⟩ := hu
    rfl
  by_cases hn : 0 < g.length
  · obtain ⟨b, o, rfl, hb, hm⟩ := hcell hn
    have hnews : ∀ j u, (ucells g)[j]? = some u → w.cell? ((⟨b, o, none⟩ : Addr).add j) = some u := by
      intro j u hu
      simp only [ucells, List.getElem?_map, Option.map_eq_some_iff] at hu
      obtain ⟨x, hx, rfl⟩ := hu
      have hadd : (⟨b, o, none⟩ : Addr).add j = ⟨b, o + j, none⟩ := by
        unfold Addr.add
        by_cases hj0 : j = 0
        · subst hj0; simp
        · rw [if_neg hj0]
      rw [hadd]; exact hm j x hx
    obtain ⟨v', w', hrun, h3, h4, _, h6⟩ := run_append_own_at (P := Tryd.prog) w B 29 ty 70 i _ 1 8 Tryd.underlying29 hi hz h1 h2 rfl (by omega) v f.length (ucells f) hown
      ⟨b, o, none⟩ g.length c (ucells g) (by simp [ucells]) hnews h1c (by simp only [maxLen]; omega) (by omega) hB
    exact ⟨v', w', hrun, by show World.ownsRow _ _ _ _ _ _ (ucells (f ++ g)); rw [hlen, show ucells (f ++ g) = ucells f ++ ucells g by simp [ucells]]; exact h3, h4, h6⟩
  · have hg0 : g = [] := List.eq_nil_of_length_eq_zero (by omega)
    subst hg0
    simp only [List.append_nil]
    cases A with
    | none => exact ⟨v, w, append_nil_src w B _ ty _ i 1 Tryd.underlying29 hi v _ _ hown c, hown, World.grownBy.refl w _, .inl rfl⟩
    | some ad =>
      obtain ⟨v', w', hrun, h3, h4, _, h6⟩ := run_append_own_at (P := Tryd.prog) w B 29 ty 70 i _ 1 8 Tryd.underlying29 hi hz h1 h2 rfl (by omega) v f.length (ucells f) hown
        ad 0 c [] (by simp) (by simp) (by simp) (by simp only [maxLen]; omega) (by omega) hB
      exact ⟨v', w', hrun, by show World.ownsRow _ _ _ _ _ _ _; simpa [ucells] using h3, h4, h6⟩

theorem wp_append_ws {o : Oper} {a : Act} {w : World} {K : Act → World → Prop} {Q : Exit → Act → World → Prop} (s x : Operand)
    (ho : o.op = .call { callee := .builtin .append, args := #[s, x], argTypes := #[29, 29] })
    (B : Nat) (v : Value) (f : List Nat) (hs : a.eval s = v) (hown : WS w B v f) (y : Value) (g : List Nat) (hx : a.eval x = y) (hy : US w y g) (hl : f.length + g.length ≤ 1000000) (hB : B ≤ w.heap.size)
    (h : ∀ v' w', WS w' B v' (f ++ g) → w.grownBy w' v.ownBlock → (v'.ownBlock = v.ownBlock ∨ v'.ownBlock = some w.heap.size) → K (a.put o.dst v') w') : o.wp Tryd.prog a w K Q := by
  obtain ⟨v', w', hrun, h2, h3, h4⟩ := run_append_ws w B v f hown y g hy o.type hl hB
  unfold Oper.wp execOp
  simp only [ho, resolve, invoke, builtin, Sem.run_bind, Sem.run_pure, Result.andThen_ok, List.map_toArray, List.map_cons, List.map_nil, hs, hx, hrun]
  exact h v' w' h2 h3 h4
theorem wpList_append_ws {ops : Array Oper} {rest : List Oper} {o : Oper} {a : Act} {w : World} {Q : Exit → Act → World → Prop} (hgd : o.guard = none) (s x : Operand)
    (ho : o.op = .call { callee := .builtin .append, args := #[s, x], argTypes := #[29, 29] })
    (B : Nat) (v : Value) (f : List Nat) (hs : a.eval s = v) (hown : WS w B v f) (y : Value) (g : List Nat) (hx : a.eval x = y) (hy : US w y g) (hl : f.length + g.length ≤ 1000000) (hB : B ≤ w.heap.size)
    (h : ∀ v' w', WS w' B v' (f ++ g) → w.grownBy w' v.ownBlock → (v'.ownBlock = v.ownBlock ∨ v'.ownBlock = some w.heap.size) → wpList Tryd.prog ops Q rest (a.put o.dst v') w') : wpList Tryd.prog ops Q (o :: rest) a w :=
  wpList_plain hgd fun _ hK => wp_append_ws s x ho B v f hs hown y g hx hy hl hB fun v' w' h2 h3 h4 => hK _ _ (h v' w' h2 h3 h4)
theorem step_append_ws {ops : Array Oper} {o : Oper} {a : Act} {w : World} {K : Act → World → Prop} {Q : Exit → Act → World → Prop} {E : Prop} (hgd : o.guard = none) (s x : Operand)
    (ho : o.op = .call { callee := .builtin .append, args := #[s, x], argTypes := #[29, 29] })
    (B : Nat) (v : Value) (f : List Nat) (hs : a.eval s = v) (hown : WS w B v f) (y : Value) (g : List Nat) (hx : a.eval x = y) (hy : US w y g) (hl : f.length + g.length ≤ 1000000) (hB : B ≤ w.heap.size)
    (h : ∀ v' w', WS w' B v' (f ++ g) → w.grownBy w' v.ownBlock → (v'.ownBlock = v.ownBlock ∨ v'.ownBlock = some w.heap.size) → K (a.put o.dst v') w') :
    if Region.wanted o (yielded ops a.tmps) = true then Oper.wp Tryd.prog o a w K Q else E := by
  have hw : Region.wanted o (yielded ops a.tmps) = true := by simp [Region.wanted, hgd]
  rw [if_pos hw]
  exact wp_append_ws s x ho B v f hs hown y g hx hy hl hB h
theorem own_below_w {w w1 w2 : World} {B : Nat} {v : Value} {f : List Nat} (hb : Below B w w1) (ho : WS w1 B v f) (hg : w1.grownBy w2 v.ownBlock) (hB : B ≤ w1.heap.size) : Below B w w2 :=
  hb.grown hg hB fun k hk => (World.ownsRow.lt ho k hk).1
/-- A literal of ints. -/
theorem US.lit {w : World} {g : Nat} {l : List Nat} (n c : Nat) (cs : Array Value) (h : Row w g 70 cs) (hn : n = l.length) (hc : n ≤ c) (hc2 : c ≤ 9223372036854775807) (hcs : ∀ (i : Nat) (x : Nat), l[i]? = some x → cs[i]? = some (Value.int .u64 x)) : US w (.slice (some ⟨g, 0, none⟩) n c) l := by
  subst hn
  exact ⟨some ⟨g, 0, none⟩, c, rfl, hc, hc2, fun _ => ⟨g, 0, rfl, h.lt, fun i x hi => by rw [h.cell, Nat.zero_add]; exact hcs i x hi⟩⟩



theorem one_w (x : Nat) : ∀ (i : Nat) (y : Nat), [x][i]? = some y → (#[Value.int .u64 x] : Array Value)[i]? = some (Value.int .u64 y) := by
  intro i y h
  cases i with
  | zero => simp at h; subst h; rfl
  | succ i => simp at h
/-- The operations on words below 64. -/
def andn (x y : Nat) : Nat := x &&& (63 ^^^ y)
theorem bits_andn : ∀ x y : Fin 64, bits .andNot .u64 ((x : Nat) : Int) ((y : Nat) : Int) = ((andn x y : Nat) : Int) := by decide +kernel
theorem or_lt64 {x y : Nat} (hx : x < 64) (hy : y < 64) : x ||| y < 64 := Nat.or_lt_two_pow (n := 6) hx hy
theorem and_lt64 {x y : Nat} (hx : x < 64) : x &&& y < 64 := Nat.lt_of_le_of_lt Nat.and_le_left hx
/-- A set of at most one small word. -/
def OneWord (l : List Nat) : Prop := ∃ s, s < 64 ∧ l = setOf s
def wordOf (l : List Nat) : Nat := l.getD 0 0
theorem oneword_nil : OneWord [] := ⟨0, by omega, rfl⟩
theorem wordOf_set (s : Nat) : wordOf (setOf s) = s := by unfold wordOf setOf; split <;> simp_all
theorem OneWord.lt {l : List Nat} (h : OneWord l) : wordOf l < 64 := by obtain ⟨s, hs, rfl⟩ := h; rw [wordOf_set]; exact hs
theorem OneWord.eq {l : List Nat} (h : OneWord l) : l = setOf (wordOf l) := by obtain ⟨s, hs, rfl⟩ := h; rw [wordOf_set]
theorem oneword_set {s : Nat} (h : s < 64) : OneWord (setOf s) := ⟨s, h, rfl⟩
def RetUS (w : World) (l : List Nat) (e : Ending) (w' : World) : Prop := ∃ v, e = .returned v ∧ Below w.heap.size w w' ∧ US w' v l
theorem US.nil (w : World) : US w (.slice none 0 0) [] := ⟨none, 0, rfl, by simp, by omega, by simp⟩
set_option maxRecDepth 100000 in
set_option maxHeartbeats 1000000 in
theorem clip_any (A : Option Addr) (n c : Nat) (w : World) (h : n ≤ c) : Calls Tryd.prog 104 #[.slice A n c] w fun e w' => e = .returned (.slice A n n) ∧ w = w' := by
  go_enter Tryd.func104, Tryd.ntmps104
  go_wp2
  go_returns
  exact ⟨rfl, rfl⟩
set_option maxRecDepth 100000 in
set_option maxHeartbeats 1000000 in
theorem at_some (v : Value) (s : Nat) (w : World) (h : US w v [s]) : Calls Tryd.prog 103 #[v, .int .i64 0] w fun e w' => e = .returned (.int .u64 s) ∧ w = w' := by
  obtain ⟨A, c, rfl, h1, h2, h3⟩ := h
  obtain ⟨b, o, rfl, hb, hc⟩ := h3 (by simp)
  have c0 := hc 0 s rfl
  simp only [Nat.add_zero] at c0
  simp only [List.length_singleton] at h1 ⊢
  go_enter Tryd.func103, Tryd.ntmps103
  go_wp2
  go_returns
  exact ⟨rfl, rfl⟩
set_option maxRecDepth 100000 in
set_option maxHeartbeats 1000000 in
theorem at_none (A : Option Addr) (c : Nat) (w : World) : Calls Tryd.prog 103 #[.slice A 0 c, .int .i64 0] w fun e w' => e = .returned (.int .u64 (0 : Nat)) ∧ w = w' := by
  go_enter Tryd.func103, Tryd.ntmps103
  go_wp2
  go_returns
  exact ⟨rfl, rfl⟩
theorem at_any (l : List Nat) (v : Value) (w : World) (hl : l.length ≤ 1) (h : US w v l) : Calls Tryd.prog 103 #[v, .int .i64 0] w fun e w' => e = .returned (.int .u64 (wordOf l)) ∧ w = w' := by
  match l, hl with
  | [], _ =>
    obtain ⟨A, c, rfl, _⟩ := h
    exact at_none A c w
  | [s], _ => exact at_some v s w h

set_option maxRecDepth 100000 in
set_option maxHeartbeats 1000000 in
theorem union_word (x y : Nat) (w : World) (hx : x < 64) (hy : y < 64) : Calls Tryd.prog 78 #[.int .u64 x, .int .u64 y] w fun e w' => e = .returned (.int .u64 ((x ||| y : Nat))) ∧ w = w' := by
  have hb := bits_or_u64_nat x y (by omega) (by omega)
  have HB := Lib.hid hb; clear hb
  go_enter Tryd.func78, Tryd.ntmps78
  go_wp2
  go_returns
  exact ⟨by rw [← HB.out]; rfl, rfl⟩

set_option maxRecDepth 100000 in
set_option maxHeartbeats 4000000 in
theorem union_comb (a b : List Nat) (v u : Value) (w : World) (ha : OneWord a) (hb : OneWord b) (hv : US w v a) (hu : US w u b) :
    Calls Tryd.prog 77 #[v, u, .func (.func 78) #[] #[]] w (RetUS w (setOf (wordOf a ||| wordOf b))) := by
  have hla : a.length ≤ 1 := by obtain ⟨s, _, rfl⟩ := ha; unfold setOf; split <;> simp
  have hlb : b.length ≤ 1 := by obtain ⟨s, _, rfl⟩ := hb; unfold setOf; split <;> simp
  have hx := ha.lt
  have hy := hb.lt
  have hzl : (wordOf a ||| wordOf b) < 64 := or_lt64 hx hy
  have hnil : a.length = 0 → b.length = 0 → (wordOf a ||| wordOf b) = 0 := by
    intro h1 h2
    have e1 : a = [] := List.eq_nil_of_length_eq_zero h1
    have e2 : b = [] := List.eq_nil_of_length_eq_zero h2
    subst e1; subst e2; decide
  have hwd := fun W => union_word (wordOf a) (wordOf b) W hx hy
  have hat := fun W (h : US W v a) => at_any a v W hla h
  have hbt := fun W (h : US W u b) => at_any b u W hlb h
  have HV := Lib.hid hv; have HU := Lib.hid hu
  obtain ⟨A, c, rfl, hc1, hc2, _⟩ := hv
  obtain ⟨A2, c2, rfl, hc3, hc4, _⟩ := hu
  generalize (wordOf a ||| wordOf b) = z at *
  generalize wordOf a = x at *
  generalize wordOf b = y at *
  obtain ⟨n1, hn1⟩ : ∃ n, n = a.length := ⟨_, rfl⟩
  obtain ⟨n2, hn2⟩ : ∃ n, n = b.length := ⟨_, rfl⟩
  rw [← hn1] at hla hc1 hnil hat HV ⊢
  rw [← hn2] at hlb hc3 hnil hbt HU ⊢
  have HWD := Lib.hid hwd; have HAT := Lib.hid hat; have HBT := Lib.hid hbt; have HNIL := Lib.hid hnil; have HN1 := Lib.hid hn1; have HN2 := Lib.hid hn2
  clear hwd hat hbt hnil hn1 hn2 ha hb
  have hcs : (n1 = 0 ∧ n2 = 0) ∨ ∃ m : Nat, m = 1 ∧ ((n1 = 1 ∧ n2 = 0) ∨ (n1 = 0 ∧ n2 = 1) ∨ (n1 = 1 ∧ n2 = 1)) := by
    have h1 : n1 = 0 ∨ n1 = 1 := by omega
    have h2 : n2 = 0 ∨ n2 = 1 := by omega
    rcases h1 with h1 | h1 <;> rcases h2 with h2 | h2
    · exact .inl ⟨h1, h2⟩
    · exact .inr ⟨1, rfl, .inr (.inl ⟨h1, h2⟩)⟩
    · exact .inr ⟨1, rfl, .inl ⟨h1, h2⟩⟩
    · exact .inr ⟨1, rfl, .inr (.inr ⟨h1, h2⟩)⟩
  rcases hcs with ⟨rfl, rfl⟩ | ⟨m, hm, hcs⟩
  · have hz := HNIL.out rfl rfl
    subst hz
    go_enter Tryd.func77, Tryd.ntmps77
    go_wp2
    go_loopg [8, 9, 16] 0 (fun gk s8 s9 s16 wr => gk = 0 ∧ s16 = .int .i64 (0 : Nat) ∧ s8 = .slice none 0 0 ∧ wr = w)
    case atStart => exact ⟨rfl, rfl, rfl, rfl⟩
    case round =>
      obtain ⟨rfl, rfl, rfl, rfl⟩ := hrel
      go_wp2
      go_loopg [8] 0 (fun gk s8 w2 => gk = 0 ∧ s8 = .slice none 0 0 ∧ w2 = wr)
      case atStart => exact ⟨rfl, rfl, rfl⟩
      case round =>
        obtain ⟨rfl, rfl, rfl⟩ := hrel
        go_wp2_with (go_at_call 104; (refine (clip_any none 0 0 _ (by omega)).mono ?_); rintro e w2 ⟨rfl, rfl⟩)
        go_returns
        exact ⟨_, rfl, Below.refl _ _, US.nil _⟩
  rcases hcs with ⟨rfl, rfl⟩ | ⟨rfl, rfl⟩ | ⟨rfl, rfl⟩
  all_goals
    clear hm
    go_enter Tryd.func77, Tryd.ntmps77
    go_wp2
    go_loopg [8, 9, 16] 1 (fun gk s8 s9 s16 wr => ∃ k : Nat, k ≤ 1 ∧ gk = 1 - k ∧ s16 = .int .i64 k ∧ Below w.heap.size w wr ∧ WS wr w.heap.size s8 (if k = 0 then [] else [z]))
    case atStart => exact ⟨0, by omega, rfl, rfl, Below.refl _ _, World.ownsRow_nil _ _ _ _⟩
    case round =>
      obtain ⟨k, hk, rfl, rfl, hb, ho⟩ := hrel
      have HB := Lib.hid hb; clear hb
      have hkc : k = 0 ∨ k = 1 := by omega
      rcases hkc with rfl | rfl
      · rw [if_pos rfl] at ho
        have HO := Lib.hid ho; clear ho
        go_wp2_with (first
          | (go_at_call 103; (with_reducible refine (HAT.out _ (HV.out.below HB.out (Nat.le_refl _))).mono ?_); rintro e w2 ⟨rfl, rfl⟩)
          | (go_at_call 103; (with_reducible refine (HBT.out _ (HU.out.below HB.out (Nat.le_refl _))).mono ?_); rintro e w2 ⟨rfl, rfl⟩)
          | (go_at_call 78; go_must ((with_reducible refine (HWD.out _).mono ?_); rintro e w2 ⟨rfl, rfl⟩))
          | (at_builtin; go_must (refine wpList_append_ws rfl (.tmp 19) (.tmp 30) rfl w.heap.size _ ([] : List Nat) rfl (HO.out.below (B' := wr.heap.size) (by go_grown) (Nat.le_refl _)) _ [z] rfl (US.lit 1 1 _ (Row.litd2 (by simp)) rfl (by omega) (by omega) (one_w _)) (by simp) (by have := HB.out.size; simp only [World.size_alloc]; omega) ?_; intro v6 w6 ho6 hg6 ht6)))
        go_roundg 0
        case rel => exact ⟨1, by omega, rfl, by go_num, own_below_w (HB.out.trans ((show Below wr.heap.size wr _ from by go_grown).mono HB.out.size)) (HO.out.below (B' := wr.heap.size) (by go_grown) (Nat.le_refl _)) hg6 (by have := HB.out.size; simp only [World.size_alloc]; omega), by simpa using ho6⟩
        case measure => omega
      · rw [if_neg (by omega)] at ho
        have hus := ho.us
        obtain ⟨A3, c3, rfl, h1, h2, h3⟩ := hus
        simp only [List.length_singleton] at h1 h3 ho ⊢
        obtain ⟨b3, o3, rfl, hb3, hcl⟩ := h3 (by omega)
        have c0 := hcl 0 z rfl
        simp only [Nat.add_zero] at c0
        clear ho h3
        have HCL := Lib.hid hcl; clear hcl
        by_cases hz : z = 0
        · subst hz
          go_wp2
          go_loopg [8] 1 (fun gk s8 w2 => (gk = 1 ∧ s8 = .slice (some ⟨b3, o3, none⟩) 1 c3 ∧ w2 = wr) ∨ (gk = 0 ∧ (∃ A c, s8 = .slice A 0 c) ∧ w2 = wr))
          case atStart => exact .inl ⟨rfl, rfl, rfl⟩
          case round =>
            rcases hrel with ⟨rfl, rfl, rfl⟩ | ⟨rfl, ⟨A4, c4, rfl⟩, rfl⟩
            · go_wp2
              go_roundg 0
              case rel => exact .inr ⟨rfl, ⟨_, _, rfl⟩, rfl⟩
              case measure => omega
            · go_wp2_with (go_at_call 104; (refine (clip_any _ 0 _ _ (by omega)).mono ?_); rintro e w2 ⟨rfl, rfl⟩)
              go_returns
              exact ⟨_, rfl, HB.out, ⟨_, _, rfl, by simp [setOf], by omega, by simp [setOf]⟩⟩
        · have hzz : ((z : Int) == 0) = false := by simp [hz]
          have hs : setOf z = [z] := by unfold setOf; rw [if_neg hz]
          have HS := Lib.hid hs; clear hs
          go_wp2
          go_loopg [8] 1 (fun gk s8 w2 => gk = 1 ∧ s8 = .slice (some ⟨b3, o3, none⟩) 1 c3 ∧ w2 = wr)
          case atStart => exact ⟨rfl, rfl, rfl⟩
          case round =>
            obtain ⟨rfl, rfl, rfl⟩ := hrel
            go_wp2_with (go_at_call 104; (refine (clip_any _ 1 _ _ (by omega)).mono ?_); rintro e w2 ⟨rfl, rfl⟩)
            go_returns
            exact ⟨_, rfl, HB.out, by rw [HS.out]; exact ⟨_, _, rfl, by simp, by omega, fun _ => ⟨_, _, rfl, hb3, HCL.out⟩⟩⟩

set_option maxRecDepth 100000 in
set_option maxHeartbeats 1000000 in
theorem minus_word (x y : Nat) (w : World) (hx : x < 64) (hy : y < 64) : Calls Tryd.prog 105 #[.int .u64 x, .int .u64 y] w fun e w' => e = .returned (.int .u64 ((andn x y : Nat))) ∧ w = w' := by
  have hb := bits_andn ⟨x, hx⟩ ⟨y, hy⟩
  have HB := Lib.hid hb; clear hb
  go_enter Tryd.func105, Tryd.ntmps105
  go_wp2
  go_returns
  exact ⟨by rw [← HB.out]; rfl, rfl⟩

set_option maxRecDepth 100000 in
set_option maxHeartbeats 4000000 in
theorem minus_comb (a b : List Nat) (v u : Value) (w : World) (ha : OneWord a) (hb : OneWord b) (hv : US w v a) (hu : US w u b) :
    Calls Tryd.prog 77 #[v, u, .func (.func 105) #[] #[]] w (RetUS w (setOf (andn (wordOf a) (wordOf b)))) := by
  have hla : a.length ≤ 1 := by obtain ⟨s, _, rfl⟩ := ha; unfold setOf; split <;> simp
  have hlb : b.length ≤ 1 := by obtain ⟨s, _, rfl⟩ := hb; unfold setOf; split <;> simp
  have hx := ha.lt
  have hy := hb.lt
  have hzl : (andn (wordOf a) (wordOf b)) < 64 := and_lt64 hx
  have hnil : a.length = 0 → b.length = 0 → (andn (wordOf a) (wordOf b)) = 0 := by
    intro h1 h2
    have e1 : a = [] := List.eq_nil_of_length_eq_zero h1
    have e2 : b = [] := List.eq_nil_of_length_eq_zero h2
    subst e1; subst e2; decide
  have hwd := fun W => minus_word (wordOf a) (wordOf b) W hx hy
  have hat := fun W (h : US W v a) => at_any a v W hla h
  have hbt := fun W (h : US W u b) => at_any b u W hlb h
  have HV := Lib.hid hv; have HU := Lib.hid hu
  obtain ⟨A, c, rfl, hc1, hc2, _⟩ := hv
  obtain ⟨A2, c2, rfl, hc3, hc4, _⟩ := hu
  generalize (andn (wordOf a) (wordOf b)) = z at *
  generalize wordOf a = x at *
  generalize wordOf b = y at *
  obtain ⟨n1, hn1⟩ : ∃ n, n = a.length := ⟨_, rfl⟩
  obtain ⟨n2, hn2⟩ : ∃ n, n = b.length := ⟨_, rfl⟩
  rw [← hn1] at hla hc1 hnil hat HV ⊢
  rw [← hn2] at hlb hc3 hnil hbt HU ⊢
  have HWD := Lib.hid hwd; have HAT := Lib.hid hat; have HBT := Lib.hid hbt; have HNIL := Lib.hid hnil; have HN1 := Lib.hid hn1; have HN2 := Lib.hid hn2
  clear hwd hat hbt hnil hn1 hn2 ha hb
  have hcs : (n1 = 0 ∧ n2 = 0) ∨ ∃ m : Nat, m = 1 ∧ ((n1 = 1 ∧ n2 = 0) ∨ (n1 = 0 ∧ n2 = 1) ∨ (n1 = 1 ∧ n2 = 1)) := by
    have h1 : n1 = 0 ∨ n1 = 1 := by omega
    have h2 : n2 = 0 ∨ n2 = 1 := by omega
    rcases h1 with h1 | h1 <;> rcases h2 with h2 | h2
    · exact .inl ⟨h1, h2⟩
    · exact .inr ⟨1, rfl, .inr (.inl ⟨h1, h2⟩)⟩
    · exact .inr ⟨1, rfl, .inl ⟨h1, h2⟩⟩
    · exact .inr ⟨1, rfl, .inr (.inr ⟨h1, h2⟩)⟩
  rcases hcs with ⟨rfl, rfl⟩ | ⟨m, hm, hcs⟩
  · have hz := HNIL.out rfl rfl
    subst hz
    go_enter Tryd.func77, Tryd.ntmps77
    go_wp2
    go_loopg [8, 9, 16] 0 (fun gk s8 s9 s16 wr => gk = 0 ∧ s16 = .int .i64 (0 : Nat) ∧ s8 = .slice none 0 0 ∧ wr = w)
    case atStart => exact ⟨rfl, rfl, rfl, rfl⟩
    case round =>
      obtain ⟨rfl, rfl, rfl, rfl⟩ := hrel
      go_wp2
      go_loopg [8] 0 (fun gk s8 w2 => gk = 0 ∧ s8 = .slice none 0 0 ∧ w2 = wr)
      case atStart => exact ⟨rfl, rfl, rfl⟩
      case round =>
        obtain ⟨rfl, rfl, rfl⟩ := hrel
        go_wp2_with (go_at_call 104; (refine (clip_any none 0 0 _ (by omega)).mono ?_); rintro e w2 ⟨rfl, rfl⟩)
        go_returns
        exact ⟨_, rfl, Below.refl _ _, US.nil _⟩
  rcases hcs with ⟨rfl, rfl⟩ | ⟨rfl, rfl⟩ | ⟨rfl, rfl⟩
  all_goals
    clear hm
    go_enter Tryd.func77, Tryd.ntmps77
    go_wp2
    go_loopg [8, 9, 16] 1 (fun gk s8 s9 s16 wr => ∃ k : Nat, k ≤ 1 ∧ gk = 1 - k ∧ s16 = .int .i64 k ∧ Below w.heap.size w wr ∧ WS wr w.heap.size s8 (if k = 0 then [] else [z]))
    case atStart => exact ⟨0, by omega, rfl, rfl, Below.refl _ _, World.ownsRow_nil _ _ _ _⟩
    case round =>
      obtain ⟨k, hk, rfl, rfl, hb, ho⟩ := hrel
      have HB := Lib.hid hb; clear hb
      have hkc : k = 0 ∨ k = 1 := by omega
      rcases hkc with rfl | rfl
      · rw [if_pos rfl] at ho
        have HO := Lib.hid ho; clear ho
        go_wp2_with (first
          | (go_at_call 103; (with_reducible refine (HAT.out _ (HV.out.below HB.out (Nat.le_refl _))).mono ?_); rintro e w2 ⟨rfl, rfl⟩)
          | (go_at_call 103; (with_reducible refine (HBT.out _ (HU.out.below HB.out (Nat.le_refl _))).mono ?_); rintro e w2 ⟨rfl, rfl⟩)
          | (go_at_call 105; go_must ((with_reducible refine (HWD.out _).mono ?_); rintro e w2 ⟨rfl, rfl⟩))
          | (at_builtin; go_must (refine wpList_append_ws rfl (.tmp 19) (.tmp 30) rfl w.heap.size _ ([] : List Nat) rfl (HO.out.below (B' := wr.heap.size) (by go_grown) (Nat.le_refl _)) _ [z] rfl (US.lit 1 1 _ (Row.litd2 (by simp)) rfl (by omega) (by omega) (one_w _)) (by simp) (by have := HB.out.size; simp only [World.size_alloc]; omega) ?_; intro v6 w6 ho6 hg6 ht6)))
        go_roundg 0
        case rel => exact ⟨1, by omega, rfl, by go_num, own_below_w (HB.out.trans ((show Below wr.heap.size wr _ from by go_grown).mono HB.out.size)) (HO.out.below (B' := wr.heap.size) (by go_grown) (Nat.le_refl _)) hg6 (by have := HB.out.size; simp only [World.size_alloc]; omega), by simpa using ho6⟩
        case measure => omega
      · rw [if_neg (by omega)] at ho
        have hus := ho.us
        obtain ⟨A3, c3, rfl, h1, h2, h3⟩ := hus
        simp only [List.length_singleton] at h1 h3 ho ⊢
        obtain ⟨b3, o3, rfl, hb3, hcl⟩ := h3 (by omega)
        have c0 := hcl 0 z rfl
        simp only [Nat.add_zero] at c0
        clear ho h3
        have HCL := Lib.hid hcl; clear hcl
        by_cases hz : z = 0
        · subst hz
          go_wp2
          go_loopg [8] 1 (fun gk s8 w2 => (gk = 1 ∧ s8 = .slice (some ⟨b3, o3, none⟩) 1 c3 ∧ w2 = wr) ∨ (gk = 0 ∧ (∃ A c, s8 = .slice A 0 c) ∧ w2 = wr))
          case atStart => exact .inl ⟨rfl, rfl, rfl⟩
          case round =>
            rcases hrel with ⟨rfl, rfl, rfl⟩ | ⟨rfl, ⟨A4, c4, rfl⟩, rfl⟩
            · go_wp2
              go_roundg 0
              case rel => exact .inr ⟨rfl, ⟨_, _, rfl⟩, rfl⟩
              case measure => omega
            · go_wp2_with (go_at_call 104; (refine (clip_any _ 0 _ _ (by omega)).mono ?_); rintro e w2 ⟨rfl, rfl⟩)
              go_returns
              exact ⟨_, rfl, HB.out, ⟨_, _, rfl, by simp [setOf], by omega, by simp [setOf]⟩⟩
        · have hzz : ((z : Int) == 0) = false := by simp [hz]
          have hs : setOf z = [z] := by unfold setOf; rw [if_neg hz]
          have HS := Lib.hid hs; clear hs
          go_wp2
          go_loopg [8] 1 (fun gk s8 w2 => gk = 1 ∧ s8 = .slice (some ⟨b3, o3, none⟩) 1 c3 ∧ w2 = wr)
          case atStart => exact ⟨rfl, rfl, rfl⟩
          case round =>
            obtain ⟨rfl, rfl, rfl⟩ := hrel
            go_wp2_with (go_at_call 104; (refine (clip_any _ 1 _ _ (by omega)).mono ?_); rintro e w2 ⟨rfl, rfl⟩)
            go_returns
            exact ⟨_, rfl, HB.out, by rw [HS.out]; exact ⟨_, _, rfl, by simp, by omega, fun _ => ⟨_, _, rfl, hb3, HCL.out⟩⟩⟩

set_option maxRecDepth 100000 in
set_option maxHeartbeats 1000000 in
theorem intersect_word (x y : Nat) (w : World) (hx : x < 64) (hy : y < 64) : Calls Tryd.prog 116 #[.int .u64 x, .int .u64 y] w fun e w' => e = .returned (.int .u64 ((x &&& y : Nat))) ∧ w = w' := by
  have hb := bits_and_u64_nat x y (by omega) (by omega)
  have HB := Lib.hid hb; clear hb
  go_enter Tryd.func116, Tryd.ntmps116
  go_wp2
  go_returns
  exact ⟨by rw [← HB.out]; rfl, rfl⟩

set_option maxRecDepth 100000 in
set_option maxHeartbeats 4000000 in
theorem intersect_comb (a b : List Nat) (v u : Value) (w : World) (ha : OneWord a) (hb : OneWord b) (hv : US w v a) (hu : US w u b) :
    Calls Tryd.prog 77 #[v, u, .func (.func 116) #[] #[]] w (RetUS w (setOf (wordOf a &&& wordOf b))) := by
  have hla : a.length ≤ 1 := by obtain ⟨s, _, rfl⟩ := ha; unfold setOf; split <;> simp
  have hlb : b.length ≤ 1 := by obtain ⟨s, _, rfl⟩ := hb; unfold setOf; split <;> simp
  have hx := ha.lt
  have hy := hb.lt
  have hzl : (wordOf a &&& wordOf b) < 64 := and_lt64 hx
  have hnil : a.length = 0 → b.length = 0 → (wordOf a &&& wordOf b) = 0 := by
    intro h1 h2
    have e1 : a = [] := List.eq_nil_of_length_eq_zero h1
    have e2 : b = [] := List.eq_nil_of_length_eq_zero h2
    subst e1; subst e2; decide
  have hwd := fun W => intersect_word (wordOf a) (wordOf b) W hx hy
  have hat := fun W (h : US W v a) => at_any a v W hla h
  have hbt := fun W (h : US W u b) => at_any b u W hlb h
  have HV := Lib.hid hv; have HU := Lib.hid hu
  obtain ⟨A, c, rfl, hc1, hc2, _⟩ := hv
  obtain ⟨A2, c2, rfl, hc3, hc4, _⟩ := hu
  generalize (wordOf a &&& wordOf b) = z at *
  generalize wordOf a = x at *
  generalize wordOf b = y at *
  obtain ⟨n1, hn1⟩ : ∃ n, n = a.length := ⟨_, rfl⟩
  obtain ⟨n2, hn2⟩ : ∃ n, n = b.length := ⟨_, rfl⟩
  rw [← hn1] at hla hc1 hnil hat HV ⊢
  rw [← hn2] at hlb hc3 hnil hbt HU ⊢
  have HWD := Lib.hid hwd; have HAT := Lib.hid hat; have HBT := Lib.hid hbt; have HNIL := Lib.hid hnil; have HN1 := Lib.hid hn1; have HN2 := Lib.hid hn2
  clear hwd hat hbt hnil hn1 hn2 ha hb
  have hcs : (n1 = 0 ∧ n2 = 0) ∨ ∃ m : Nat, m = 1 ∧ ((n1 = 1 ∧ n2 = 0) ∨ (n1 = 0 ∧ n2 = 1) ∨ (n1 = 1 ∧ n2 = 1)) := by
    have h1 : n1 = 0 ∨ n1 = 1 := by omega
    have h2 : n2 = 0 ∨ n2 = 1 := by omega
    rcases h1 with h1 | h1 <;> rcases h2 with h2 | h2
    · exact .inl ⟨h1, h2⟩
    · exact .inr ⟨1, rfl, .inr (.inl ⟨h1, h2⟩)⟩
    · exact .inr ⟨1, rfl, .inl ⟨h1, h2⟩⟩
    · exact .inr ⟨1, rfl, .inr (.inr ⟨h1, h2⟩)⟩
  rcases hcs with ⟨rfl, rfl⟩ | ⟨m, hm, hcs⟩
  · have hz := HNIL.out rfl rfl
    subst hz
    go_enter Tryd.func77, Tryd.ntmps77
    go_wp2
    go_loopg [8, 9, 16] 0 (fun gk s8 s9 s16 wr => gk = 0 ∧ s16 = .int .i64 (0 : Nat) ∧ s8 = .slice none 0 0 ∧ wr = w)
    case atStart => exact ⟨rfl, rfl, rfl, rfl⟩
    case round =>
      obtain ⟨rfl, rfl, rfl, rfl⟩ := hrel
      go_wp2
      go_loopg [8] 0 (fun gk s8 w2 => gk = 0 ∧ s8 = .slice none 0 0 ∧ w2 = wr)
      case atStart => exact ⟨rfl, rfl, rfl⟩
      case round =>
        obtain ⟨rfl, rfl, rfl⟩ := hrel
        go_wp2_with (go_at_call 104; (refine (clip_any none 0 0 _ (by omega)).mono ?_); rintro e w2 ⟨rfl, rfl⟩)
        go_returns
        exact ⟨_, rfl, Below.refl _ _, US.nil _⟩
  rcases hcs with ⟨rfl, rfl⟩ | ⟨rfl, rfl⟩ | ⟨rfl, rfl⟩
  all_goals
    clear hm
    go_enter Tryd.func77, Tryd.ntmps77
    go_wp2
    go_loopg [8, 9, 16] 1 (fun gk s8 s9 s16 wr => ∃ k : Nat, k ≤ 1 ∧ gk = 1 - k ∧ s16 = .int .i64 k ∧ Below w.heap.size w wr ∧ WS wr w.heap.size s8 (if k = 0 then [] else [z]))
    case atStart => exact ⟨0, by omega, rfl, rfl, Below.refl _ _, World.ownsRow_nil _ _ _ _⟩
    case round =>
      obtain ⟨k, hk, rfl, rfl, hb, ho⟩ := hrel
      have HB := Lib.hid hb; clear hb
      have hkc : k = 0 ∨ k = 1 := by omega
      rcases hkc with rfl | rfl
      · rw [if_pos rfl] at ho
        have HO := Lib.hid ho; clear ho
        go_wp2_with (first
          | (go_at_call 103; (with_reducible refine (HAT.out _ (HV.out.below HB.out (Nat.le_refl _))).mono ?_); rintro e w2 ⟨rfl, rfl⟩)
          | (go_at_call 103; (with_reducible refine (HBT.out _ (HU.out.below HB.out (Nat.le_refl _))).mono ?_); rintro e w2 ⟨rfl, rfl⟩)
          | (go_at_call 116; go_must ((with_reducible refine (HWD.out _).mono ?_); rintro e w2 ⟨rfl, rfl⟩))
          | (at_builtin; go_must (refine wpList_append_ws rfl (.tmp 19) (.tmp 30) rfl w.heap.size _ ([] : List Nat) rfl (HO.out.below (B' := wr.heap.size) (by go_grown) (Nat.le_refl _)) _ [z] rfl (US.lit 1 1 _ (Row.litd2 (by simp)) rfl (by omega) (by omega) (one_w _)) (by simp) (by have := HB.out.size; simp only [World.size_alloc]; omega) ?_; intro v6 w6 ho6 hg6 ht6)))
        go_roundg 0
        case rel => exact ⟨1, by omega, rfl, by go_num, own_below_w (HB.out.trans ((show Below wr.heap.size wr _ from by go_grown).mono HB.out.size)) (HO.out.below (B' := wr.heap.size) (by go_grown) (Nat.le_refl _)) hg6 (by have := HB.out.size; simp only [World.size_alloc]; omega), by simpa using ho6⟩
        case measure => omega
      · rw [if_neg (by omega)] at ho
        have hus := ho.us
        obtain ⟨A3, c3, rfl, h1, h2, h3⟩ := hus
        simp only [List.length_singleton] at h1 h3 ho ⊢
        obtain ⟨b3, o3, rfl, hb3, hcl⟩ := h3 (by omega)
        have c0 := hcl 0 z rfl
        simp only [Nat.add_zero] at c0
        clear ho h3
        have HCL := Lib.hid hcl; clear hcl
        by_cases hz : z = 0
        · subst hz
          go_wp2
          go_loopg [8] 1 (fun gk s8 w2 => (gk = 1 ∧ s8 = .slice (some ⟨b3, o3, none⟩) 1 c3 ∧ w2 = wr) ∨ (gk = 0 ∧ (∃ A c, s8 = .slice A 0 c) ∧ w2 = wr))
          case atStart => exact .inl ⟨rfl, rfl, rfl⟩
          case round =>
            rcases hrel with ⟨rfl, rfl, rfl⟩ | ⟨rfl, ⟨A4, c4, rfl⟩, rfl⟩
            · go_wp2
              go_roundg 0
              case rel => exact .inr ⟨rfl, ⟨_, _, rfl⟩, rfl⟩
              case measure => omega
            · go_wp2_with (go_at_call 104; (refine (clip_any _ 0 _ _ (by omega)).mono ?_); rintro e w2 ⟨rfl, rfl⟩)
              go_returns
              exact ⟨_, rfl, HB.out, ⟨_, _, rfl, by simp [setOf], by omega, by simp [setOf]⟩⟩
        · have hzz : ((z : Int) == 0) = false := by simp [hz]
          have hs : setOf z = [z] := by unfold setOf; rw [if_neg hz]
          have HS := Lib.hid hs; clear hs
          go_wp2
          go_loopg [8] 1 (fun gk s8 w2 => gk = 1 ∧ s8 = .slice (some ⟨b3, o3, none⟩) 1 c3 ∧ w2 = wr)
          case atStart => exact ⟨rfl, rfl, rfl⟩
          case round =>
            obtain ⟨rfl, rfl, rfl⟩ := hrel
            go_wp2_with (go_at_call 104; (refine (clip_any _ 1 _ _ (by omega)).mono ?_); rintro e w2 ⟨rfl, rfl⟩)
            go_returns
            exact ⟨_, rfl, HB.out, by rw [HS.out]; exact ⟨_, _, rfl, by simp, by omega, fun _ => ⟨_, _, rfl, hb3, HCL.out⟩⟩⟩

end Go.Proofs.YtbggpiednddheaaDoor