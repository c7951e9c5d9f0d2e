/- The iterator of the package tree: the recursive closure of trees. -/
/- The contract of the recursive closure of trees. -/
/- The iterator of the package tree: the contract of its closure as an iterator value; trees. -/
import Derived.Test.YthkfjnmnoanhlaaGreatDoorBtM
import Derived.Test.YthkfjnmnoanhlaaGreatDoorRng
import Derived.Test.YthkfjnmnoanhlaaGreatDoorIntA
import Derived.Test.YthkfjnmnoanhlaaGreatDoorKeep
import Derived.Test.YthkfjnmnoanhlaaGreatDoorCod
import Derived.Laws.EntriesVeiled
import Derived.Deep.RegionLaw
import Derived.WalkKit
import Derived.OwnWalkIn
import Derived.TacticsInMore
set_option linter.unusedSimpArgs false
set_option linter.unusedVariables false
namespace Go.Proofs.YthkfjnmnoanhlaaGreatDoor
open Go.RowKit

abbrev exF (B vb : Nat) : Value := .func (.func 130) #[] #[.pointer (some ⟨B, 0, none⟩), .pointer (some ⟨B + 1, 0, none⟩), .pointer (some ⟨vb, 0, none⟩)]
/-- The iterator's own blocks: yield, the closure, the prefix p; and the box of vars. -/
structure ES (B vb l vn : Nat) (p : List Int) (W : World) : Prop where
  yl : Row W B 155 #[.func (.yield l) #[] #[]]
  ex : Row W (B + 1) 156 #[exF B vb]
  pr : ∃ cs : Array Value, Row W (B + 2) 3 cs ∧ cs.size = 63 ∧ ∀ (i : Nat) (x : Int), p[i]? = some x → cs[i]? = some (Value.int .i64 x)
  vr : Row W vb 3 #[.int .i64 vn]
theorem ES.less {B vb l vn : Nat} {p q : List Int} {W : World} (h : ES B vb l vn (p ++ q) W) : ES B vb l vn p W := by
  obtain ⟨h1, h2, ⟨cs, hr, hs, hc⟩, h4⟩ := h
  refine ⟨h1, h2, ⟨cs, hr, hs, fun i x hi => hc i x ?_⟩, h4⟩
  rw [List.getElem?_append_left (List.getElem?_eq_some_iff.1 hi).1]
  exact hi
theorem ES.keep {B vb l vn : Nat} {p : List Int} {W W' : World} (h : ES B vb l vn p W) (hk : KeepB (· = vb) B 3 W W') : ES B vb l vn p W' := by
  obtain ⟨h1, h2, ⟨cs, hr, hs, hc⟩, h4⟩ := h
  exact ⟨(hk.2 _ (.inl (by omega))).trans h1, (hk.2 _ (.inl (by omega))).trans h2, ⟨cs, (hk.2 _ (.inl (by omega))).trans hr, hs, hc⟩, (hk.2 _ (.inr rfl)).trans h4⟩
theorem ES.alloc {B vb l vn : Nat} {p : List Int} {W : World} (h : ES B vb l vn p W) (o : Obj) : ES B vb l vn p (W.alloc o) := by
  obtain ⟨h1, h2, ⟨cs, hr, hs, hc⟩, h4⟩ := h
  exact ⟨h1.alloc _, h2.alloc _, ⟨cs, hr.alloc _, hs, hc⟩, h4.alloc _⟩
theorem ES.drew {B vb l vn : Nat} {p : List Int} {W : World} (h : ES B vb l vn p W) : ES B vb l vn p W.drew := ⟨h.yl, h.ex, h.pr, h.vr⟩

/-- append onto the prefix, where there is room: as one step of a region that draws. -/
theorem step_pre {ops : Array Oper} {o : Oper} {a : Act} {W : World} {K : Act → World → Prop} {Q : Exit → Act → World → Prop} {E : Prop} (hw : Region.wanted o (yielded ops a.tmps) = true) (s x : Operand)
    (ho : o.op = .call { callee := .builtin .append, args := #[s, x], argTypes := #[53, 53] })
    {B vb l vn : Nat} {p : List Int} {m : Nat} (c : Int) (g : Nat) (hs : a.eval s = .slice (some ⟨B + 2, 0, none⟩) m 63) (hm : m = p.length) (hx : a.eval x = .slice (some ⟨g, 0, none⟩) 1 1)
    (hrow : Row W g 3 #[.int .i64 c]) (hE : ES B vb l vn p W) (hvb : vb < B) (hl : m < 63)
    (h : ∀ W', ES B vb l vn (p ++ [c]) W' → W.grownBy W' (some (B + 2)) → K (a.put o.dst (.slice (some ⟨B + 2, 0, none⟩) (m + 1) 63)) W') :
    if Region.wanted o (yielded ops a.tmps) = true then Oper.wp Tryz.prog o a W K Q else E := by
  rw [if_pos hw]
  obtain ⟨i, hi, hz, h1, h2⟩ := info_parts info_int
  obtain ⟨e1, e2, ⟨cs, hr, hsz, hcs⟩, e4⟩ := hE
  have hrun := run_append_room (P := Tryz.prog) W 53 o.type 3 i Tryz.underlying53 hi (B + 2) m 63 cs hr ⟨g, 0, none⟩ 1 1 [.int .i64 c] (by rw [h1]; rfl)
    (by
      intro j u hj
      cases j with
      | zero => simp only [List.getElem?_cons_zero, Option.some.injEq] at hj; subst hj; simpa [Addr.add] using hrow.cell 0
      | succ j => simp at hj) (by intro u hu; simp only [List.mem_singleton] at hu; subst hu; rfl) (by omega) (by rw [h1, hsz]; simp only [List.length_singleton]; omega)
  unfold Oper.wp execOp
  simp only [ho, resolve, invoke, builtin, Sem.run_bind, Sem.run_pure, Result.andThen_ok, List.map_toArray, List.map_cons, List.map_nil, hs, hx, hrun]
  have hne : ∀ k, k ≠ B + 2 → ∀ X : Array Value, (W.setRow (B + 2) X).heap[k]? = W.heap[k]? := fun k hk X => setRow_other W (B + 2) k X hk
  refine h _ ⟨(hne _ (by omega) _).trans e1, (hne _ (by omega) _).trans e2, ⟨_, setRow_heap _ _ _ _ _ _ hr, ?_, ?_⟩, (hne _ (by omega) _).trans e4⟩ ?_
  · simp only [List.size_toArray, List.length_append, List.length_take, List.length_drop, Array.length_toList, List.length_singleton, h1, hsz, Nat.mul_one]; omega
  · intro j y hj
    simp only [List.getElem?_toArray, h1, Nat.mul_one, List.length_singleton]
    have hl0 : (cs.toList.take m).length = p.length := by simp [hsz]; omega
    by_cases hjm : j < p.length
    · rw [List.getElem?_append_left hjm] at hj
      rw [List.append_assoc, List.getElem?_append_left (by omega), List.getElem?_take, if_pos (by omega)]
      have := hcs j y hj
      simpa using this
    · have hj2 := (List.getElem?_eq_some_iff.1 hj).1
      rw [List.length_append, List.length_singleton] at hj2
      have : j = p.length := by omega
      subst this
      rw [List.getElem?_append_right (Nat.le_refl _), Nat.sub_self] at hj
      simp only [List.getElem?_cons_zero, Option.some.injEq] at hj
      subst hj
      rw [List.append_assoc, List.getElem?_append_right (by omega), hl0, Nat.sub_self]
      rfl
  · exact ⟨rfl, rfl, rfl, by rw [size_setRow]; exact Nat.le_refl _, fun k hk hk2 => hne k (fun e => hk2 (by rw [e])) _⟩
end Go.Proofs.YthkfjnmnoanhlaaGreatDoor

namespace Go.Proofs.YthkfjnmnoanhlaaGreatDoor
open Go.RowKit

section
attribute [local go_sem] Oper.semAt_some

set_option maxRecDepth 100000 in
set_option maxHeartbeats 1000000 in
theorem extend_yield (B vb l vn m : Nat) (p : List Int) (lf : Int) (W : World) (hE : ES B vb l vn p W) (X Y : World → Prop)
    (hY : ∀ k, YieldAt Fence.wide k Tryz.prog l #[.slice (some ⟨B + 2, 0, none⟩) m 63] W fun e W' => (e = .returned (.bool true) ∧ X W') ∨ (e = .returned (.bool false) ∧ Y W')) :
    Calls Tryz.prog 130 #[.slice (some ⟨B + 2, 0, none⟩) m 63, .int .i64 0, .int .i64 lf, .pointer (some ⟨B, 0, none⟩), .pointer (some ⟨B + 1, 0, none⟩), .pointer (some ⟨vb, 0, none⟩)] W
      fun e W' => ∃ r, e = .returned (.bool r) ∧ ((r = true ∧ X W') ∨ (r = false ∧ Y W')) := by
  have f1 : W.cell? ⟨B, 0, none⟩ = some (.func (.yield l) #[] #[]) := hE.yl.cell 0
  refine (callsIn_wide (n := 3)).1 ?_
  refine callsIn_of_wp Tryz.func130 rfl trivial ?_ rfl
  simp only [Tryz.ntmps130, List.size_toArray, List.length_cons, List.length_nil, Nat.reduceAdd, Nat.reduceSub, Array.replicate_succ, Array.replicate_zero, List.push_toArray, List.append_toArray, List.nil_append, List.cons_append]
  have hdd : ∀ k : Nat, (Fence.wide.depth.isSome = true → 1 ≤ k) := fun k h => by cases h
  obtain ⟨fn, tmps, assign, body, hy, hR⟩ := hY (3 - 1)
  gi_wp2_with ((try refine ⟨hdd _, ?_⟩); refine hR.mono ?_; clear hR; rintro e W2 (⟨rfl, h2⟩ | ⟨rfl, h2⟩))
  · go_ret
    exact ⟨true, rfl, .inl ⟨rfl, h2⟩⟩
  · go_ret
    exact ⟨false, rfl, .inr ⟨rfl, h2⟩⟩
end

def part2 (K f o l k : Nat) : List (List Int) := (List.range k).flatMap fun (c : Nat) => (codesF K f (o + 1) l).map (((c : Int) + 1) :: ·)
theorem part2_succ (K f o l k : Nat) : part2 K f o l (k + 1) = part2 K f o l k ++ (codesF K f (o + 1) l).map (((k : Int) + 1) :: ·) := by
  unfold part2
  rw [List.range_succ, List.flatMap_append]
  simp
theorem part2_le (K f o l : Nat) {k k' : Nat} (h : k ≤ k') : part2 K f o l k <+: part2 K f o l k' := by
  obtain ⟨d, rfl⟩ : ∃ d, k' = k + d := ⟨k' - k, by omega⟩
  clear h
  induction d with
  | zero => exact List.prefix_refl _
  | succ n ih => rw [← Nat.add_assoc, part2_succ]; exact ih.trans (List.prefix_append _ _)
theorem map_cat (p : List Int) (c : Int) (X : List (List Int)) : (X.map (c :: ·)).map (p ++ ·) = X.map ((p ++ [c]) ++ ·) := by
  rw [List.map_map]
  apply List.map_congr_left
  intro x _
  simp [Function.comp]
/-- What extend leaves, X being what it hands on. -/
def ExR (B vb l vn : Nat) (J Jx : List (List Int) → World → Prop) (p : List Int) (pre X : List (List Int)) (r : Bool) (W' : World) : Prop :=
  (r = true ∧ J (pre ++ X) W' ∧ ES B vb l vn p W') ∨ (r = false ∧ ∃ q, q <+: X ∧ Jx (pre ++ q) W')

/-- The same, as a call's end. -/
def ExPi (B vb l vn : Nat) (J Jx : List (List Int) → World → Prop) (p : List Int) (pre X : List (List Int)) (e : Ending) (W' : World) : Prop := ∃ r, e = .returned (.bool r) ∧ ExR B vb l vn J Jx p pre X r W'
theorem ExPi.yes {B vb l vn : Nat} {J Jx : List (List Int) → World → Prop} {p : List Int} {pre X : List (List Int)} {W' : World} (h1 : J (pre ++ X) W') (h2 : ES B vb l vn p W') : ExPi B vb l vn J Jx p pre X (.returned (.bool true)) W' := ⟨true, rfl, .inl ⟨rfl, h1, h2⟩⟩
theorem ExPi.no {B vb l vn : Nat} {J Jx : List (List Int) → World → Prop} {p : List Int} {pre X q : List (List Int)} {W' : World} (h1 : q <+: X) (h2 : Jx (pre ++ q) W') : ExPi B vb l vn J Jx p pre X (.returned (.bool false)) W' := ⟨false, rfl, .inr ⟨rfl, q, h1, h2⟩⟩
theorem grown_ad (W : World) (o : Obj) (r : Option Nat) : W.grownBy (W.alloc o).drew r := by
  have h := World.grownBy_alloc W o r
  exact ⟨h.os, h.tape, h.output, h.size, h.block⟩
theorem grown_dn (W : World) (n : Nat) (r : Option Nat) : W.grownBy (W.drewN n) r := ⟨rfl, rfl, rfl, Nat.le_refl _, fun _ _ _ => rfl⟩
theorem ES.drewN {B vb l vn : Nat} {p : List Int} {W : World} (h : ES B vb l vn p W) (n : Nat) : ES B vb l vn p (W.drewN n) := ⟨h.yl, h.ex, h.pr, h.vr⟩
theorem grown_da (W : World) (o : Obj) (r : Option Nat) : W.grownBy (W.drew.alloc o) r := by
  have h := World.grownBy_alloc W.drew o r
  exact ⟨h.os, h.tape, h.output, h.size, h.block⟩
/-- What the first step of extend leaves, as the cut tells it. -/
theorem ex_meet {B vb l vn K f o1 lf : Nat} {J Jx : List (List Int) → World → Prop} {p : List Int} {pre P1 : List (List Int)} {r : Bool} {W : World} {c : Int} (h1 : P1 = (codesF K f o1 lf).map (c :: ·))
    (h : ExR B vb l vn J Jx (p ++ [c]) pre (((codesF K f o1 lf).map (c :: ·)).map (p ++ ·)) r W) :
    ∃ b : Bool, Value.bool (!r) = .bool b ∧ ((b = false ∧ J (pre ++ P1.map (p ++ ·)) W ∧ ES B vb l vn p W) ∨ (b = true ∧ ∃ q, q <+: P1.map (p ++ ·) ∧ Jx (pre ++ q) W)) := by
  rw [h1]
  rcases h with ⟨rfl, h2, h3⟩ | ⟨rfl, h2⟩
  · exact ⟨false, rfl, .inl ⟨rfl, h2, h3.less⟩⟩
  · exact ⟨true, rfl, .inr ⟨rfl, h2⟩⟩

set_option maxRecDepth 100000 in
set_option maxHeartbeats 4000000 in
theorem extend_any (B vb l vn K : Nat) (hK : K = 2 ^ vn) (hv : vn ≤ 3) (hvb : vb < B) (J Jx : List (List Int) → World → Prop) (G : List Int → Prop)
    (hJ : ∀ s W W', J s W → W.grownBy W' (some (B + 2)) → J s W')
    (hY : ∀ (k : Nat) pre p W, J pre W → ES B vb l vn p W → p.length ≤ 63 → G p → YieldAt Fence.wide k Tryz.prog l #[.slice (some ⟨B + 2, 0, none⟩) p.length 63] W fun e W' =>
      (e = .returned (.bool true) ∧ J (pre ++ [p]) W' ∧ ES B vb l vn p W') ∨ (e = .returned (.bool false) ∧ Jx (pre ++ [p]) W')) :
    ∀ (f o lf : Nat) (p : List Int) (pre : List (List Int)) (W : World), 2 * lf + o = f → p.length + f ≤ 63 → (∀ y ∈ codesF K f o lf, G (p ++ y)) → J pre W → ES B vb l vn p W →
      Calls Tryz.prog 130 #[.slice (some ⟨B + 2, 0, none⟩) p.length 63, .int .i64 (o : Nat), .int .i64 (lf : Nat), .pointer (some ⟨B, 0, none⟩), .pointer (some ⟨B + 1, 0, none⟩), .pointer (some ⟨vb, 0, none⟩)] W
        (ExPi B vb l vn J Jx p pre ((codesF K f o lf).map (p ++ ·))) := by
  intro f
  induction f with
  | zero =>
    intro o lf p pre W hf hp hG hj hE
    have ho : o = 0 := by omega
    subst ho
    refine (extend_yield B vb l vn p.length p lf W hE _ _ (fun k => hY k pre p W hj hE (by omega) (by have := hG [] (by simp [codesF]); rwa [List.append_nil] at this))).mono ?_
    rintro e W' ⟨r, rfl, h⟩
    refine ⟨r, rfl, ?_⟩
    rcases h with ⟨rfl, h1, h2⟩ | ⟨rfl, h1⟩
    · exact .inl ⟨rfl, by simpa [codesF] using h1, h2⟩
    · exact .inr ⟨rfl, [p], by simp [codesF], h1⟩
  | succ f ih =>
    intro o lf p pre W hf hp hG hj hE
    by_cases ho : o = 0
    · subst ho
      refine (extend_yield B vb l vn p.length p lf W hE _ _ (fun k => hY k pre p W hj hE (by omega) (by have := hG [] (by simp [codesF]); rwa [List.append_nil] at this))).mono ?_
      rintro e W' ⟨r, rfl, h⟩
      refine ⟨r, rfl, ?_⟩
      rcases h with ⟨rfl, h1, h2⟩ | ⟨rfl, h1⟩
      · exact .inl ⟨rfl, by simpa [codesF] using h1, h2⟩
      · exact .inr ⟨rfl, [p], by simp [codesF], h1⟩
    · obtain ⟨m, hm⟩ : ∃ m, m = p.length := ⟨_, rfl⟩
      obtain ⟨P1, hP1⟩ : ∃ P1 : List (List Int), P1 = if 1 < o ∨ lf = 0 then (codesF K f (o - 1) lf).map (0 :: ·) else [] := ⟨_, rfl⟩
      have hcod : codesF K (f + 1) o lf = P1 ++ (if 0 < lf then part2 K f o (lf - 1) K else []) := by simp only [codesF]; rw [if_neg ho, hP1]; rfl
      have hcod' := hcod
      obtain ⟨X, hXX⟩ : ∃ X : List (List Int), X = (P1 ++ (if 0 < lf then part2 K f o (lf - 1) K else [])).map (p ++ ·) := ⟨_, rfl⟩
      rw [hcod, ← hXX]
      have HXX := Lib.hid hXX
      have f1 : W.cell? ⟨B + 1, 0, none⟩ = some (exF B vb) := hE.ex.cell 0
      have hz1 := hE.ex.lt
      have hdo : ((o : Int) == 0) = false := by rw [beq_eq_false_iff_ne]; omega
      obtain ⟨o1, ho1⟩ : ∃ o1 : Nat, o1 = o - 1 := ⟨_, rfl⟩
      obtain ⟨o2, ho2⟩ : ∃ o2 : Nat, o2 = o + 1 := ⟨_, rfl⟩
      obtain ⟨l2, hl2⟩ : ∃ l2 : Nat, l2 = lf - 1 := ⟨_, rfl⟩
      have hw1 : IntKind.i64.wrap ((o : Int) - 1) = (o1 : Int) := by rw [IntWalk.i64_in _ ⟨by omega, by omega⟩]; omega
      have hw2 : IntKind.i64.wrap ((o : Int) + 1) = (o2 : Int) := by rw [IntWalk.i64_in _ ⟨by omega, by omega⟩]; omega
      have HM := Lib.hid hm
      have HE := Lib.hid hE
      have HJ := Lib.hid hj
      have hm63 : m < 63 := by omega
      have hGA : (1 < o ∨ lf = 0) → ∀ y ∈ codesF K f o1 lf, G ((p ++ [0]) ++ y) := fun h y hy => by
        have := hG (0 :: y) (by rw [hcod, List.mem_append]; left; rw [hP1, if_pos h, ← ho1]; exact List.mem_map.2 ⟨y, hy, rfl⟩)
        simpa using this
      have hGB : 0 < lf → ∀ k : Nat, k < K → ∀ y ∈ codesF K f o2 l2, G ((p ++ [(k : Int) + 1]) ++ y) := fun h k hk y hy => by
        have := hG (((k : Int) + 1) :: y) (by rw [hcod, List.mem_append]; right; rw [if_pos h]; exact List.mem_flatMap.2 ⟨k, List.mem_range.2 hk, List.mem_map.2 ⟨y, by rw [← ho2, ← hl2]; exact hy, rfl⟩⟩)
        simpa using this
      have IHA := Lib.hid (fun (hA : 1 < o ∨ lf = 0) W' h1 h2 => ih o1 lf (p ++ [0]) pre W' (by omega) (by rw [List.length_append]; simp only [List.length_singleton]; omega) (hGA hA) h1 h2)
      have IHB := Lib.hid (fun (hA : 0 < lf) (k : Nat) (hk : k < K) pre' W' h1 h2 => ih o2 l2 (p ++ [(k : Int) + 1]) pre' W' (by omega) (by rw [List.length_append]; simp only [List.length_singleton]; omega) (hGB hA k hk) h1 h2)
      simp only [List.length_append, List.length_singleton, ← hm, ← map_cat] at IHA IHB
      have HP1 : Hid (1 < o ∨ lf = 0 → P1 = (codesF K f o1 lf).map (0 :: ·)) := fun h => by rw [hP1, if_pos h, ho1]
      have HP0 : Hid (¬ (1 < o ∨ lf = 0) → P1 = []) := fun h => by rw [hP1, if_neg h]
      have HO2 := Lib.hid ho2; have HL2 := Lib.hid hl2; have HO1 := Lib.hid ho1; have HCOD := Lib.hid hcod; have HK := Lib.hid hK
      rw [← hm] at hp ⊢
      clear ih hm hE hj hP1 ho1 ho2 hl2 hcod hcod' hK hXX hG hGA hGB
      go_enter Tryz.func130, Tryz.ntmps130
      go_upto_region 3 with (fail)
      go_cut [32] from 16 to 32 (fun v wx => ∃ r : Bool, v = .bool r ∧ ((r = false ∧ J (pre ++ P1.map (p ++ ·)) wx ∧ ES B vb l vn p wx) ∨ (r = true ∧ ∃ q, q <+: P1.map (p ++ ·) ∧ Jx (pre ++ q) wx)))
      case first =>
        by_cases hA : 1 < o ∨ lf = 0
        · replace HP1 := Lib.hid (HP1.out hA)
          replace IHA := Lib.hid (IHA.out hA)
          clear HP0 IHB HO2 HL2 hw2 HXX
          by_cases h1o : 1 < o
          · have hd1 : decide ((1 : Int) < (o : Int)) = true := by simp; omega
            have hlt1 : (1 : Int) < (o : Int) := by omega
            first
            | go_region_law (first
              | (go_simp; go_at_call 130; (with_reducible refine (IHA.out _ HJ1.out HE1.out).mono ?_); rintro e W2 ⟨r, rfl, hx⟩; have HX := Lib.hid hx; clear hx; try go_simp)
              | (refine step_pre (by rfl) (.tmp 24) (.tmp 25) rfl 0 _ rfl HM.out rfl (by first | exact Row.new _ _ _ | exact Row.lit rfl | exact Row.litd rfl) (HE.out.drew.alloc _) hvb hm63 ?_; intro W1 hE1 hg1; have f1 : W1.cell? ⟨B + 1, 0, none⟩ = some (exF B vb) := hE1.ex.cell 0; have HJ1 := Lib.hid (hJ _ _ _ (hJ _ _ _ HJ.out (by first | exact grown_ad _ _ _ | exact grown_da _ _ _)) hg1); have HE1 := Lib.hid hE1; clear hE1 hg1))
            | fail
            all_goals
              go_wp2_with fail
              go_meet
              exact ex_meet HP1.out HX.out
          · have h1o' : o = 1 := by omega
            have hlf : lf = 0 := by omega
            have hd1 : decide ((1 : Int) < (o : Int)) = false := by simp; omega
            have hlt1 : (o : Int) ≤ 1 := by omega
            have hlf0 : ((lf : Int) == 0) = true := by simp [hlf]
            clear h1o h1o' hlf hA
            refine wp_region_any (by kernel_rfl) ?_
            try (change wpAny _ _ _ _ _ _ _ (World.drew _))
            refine wpAny_take (i := 0) (v := ?_) rfl (by kernel_rfl) (by kernel_rfl) (by kernel_rfl) (fun _ _ _ h => h) (Or.inl ⟨by rfl, ?_⟩) ?_
            rotate_left
            · intro w; go_simp; try with_reducible rfl
            refine wpAny_take (i := 1) (v := ?_) rfl (by kernel_rfl) (by kernel_rfl) (by kernel_rfl) (fun _ _ _ h => h) (Or.inl ⟨by rfl, ?_⟩) ?_
            rotate_left
            · intro w; go_simp; try with_reducible rfl
            refine wpAny_take (i := 2) (v := ?_) rfl (by kernel_rfl) (by kernel_rfl) (by kernel_rfl) (fun _ _ _ h => h) (Or.inl ⟨by rfl, ?_⟩) ?_
            rotate_left
            · intro w; go_simp; try with_reducible rfl
            refine wpAny_take (i := 3) (v := ?_) rfl (by kernel_rfl) (by kernel_rfl) (by kernel_rfl) (fun _ _ _ h => h) (Or.inl ⟨by rfl, ?_⟩) ?_
            rotate_left
            · intro w; go_simp; try with_reducible rfl
            refine wpAny_take (i := 4) (v := ?_) rfl (by kernel_rfl) (by kernel_rfl) (by kernel_rfl) (fun _ _ _ h => h) (Or.inl ⟨by rfl, ?_⟩) ?_
            rotate_left
            · intro w; go_simp; try with_reducible rfl
            refine wpAny_take (i := 5) (v := ?_) rfl (by kernel_rfl) (by kernel_rfl) (by kernel_rfl) (fun _ _ _ h => h) (Or.inl ⟨by rfl, ?_⟩) ?_
            rotate_left
            · intro w; go_simp; try with_reducible rfl
            refine wpAny_take (i := 6) (v := ?_) rfl (by kernel_rfl) (by kernel_rfl) (by kernel_rfl) (fun _ _ _ h => h) (Or.inl ⟨by rfl, ?_⟩) ?_
            rotate_left
            · intro w; go_simp; try with_reducible rfl
            go_simp
            refine wpAny_take (i := 8) (v := ?_) rfl (by kernel_rfl) (by kernel_rfl) (by kernel_rfl) (fun _ _ _ h => h) (Or.inl ⟨by rfl, ?_⟩) ?_
            rotate_left
            · intro w; go_simp; try with_reducible rfl
            refine wpAny_take (i := 11) (v := ?_) rfl (by kernel_rfl) (by kernel_rfl) (by kernel_rfl) (fun _ _ _ h => h) (Or.inl ⟨by rfl, ?_⟩) ?_
            rotate_left
            · intro w; go_simp; try with_reducible rfl
            refine wpAny_take (i := 13) (v := ?_) rfl (by kernel_rfl) (by kernel_rfl) (by kernel_rfl) (fun _ _ _ h => h) (Or.inl ⟨by rfl, ?_⟩) ?_
            rotate_left
            · intro w; go_simp; try with_reducible rfl
            refine wpAny_take (i := 12) (v := ?_) rfl (by kernel_rfl) (by kernel_rfl) (by kernel_rfl) (fun _ _ _ h => h) (Or.inl ⟨by rfl, ?_⟩) ?_
            rotate_left
            · intro w; go_simp; try with_reducible rfl
            go_simp
            refine wpAny_ready (rs := [7, 9]) (by kernel_rfl) (by simp) ?_
            refine AllReady.cons rfl (fun K hK => ?_) (AllReady.cons rfl (fun K hK => ?_) AllReady.nil)
            · go_simp
              refine hK _ _ ?_
              clear hK K
              refine wpAny_ready (rs := [9]) (by kernel_rfl) (by simp) ?_
              refine AllReady.cons rfl (fun K hK => ?_) AllReady.nil
              go_simp
              refine hK _ _ ?_
              clear hK K
              refine wpAny_ready (rs := [10]) (by kernel_rfl) (by simp) ?_
              refine AllReady.cons rfl (fun K hK => ?_) AllReady.nil
              refine step_pre (by rfl) (.tmp 24) (.tmp 25) rfl 0 _ rfl HM.out rfl (by first | exact Row.new _ _ _ | exact Row.lit rfl | exact Row.litd rfl) (HE.out.drew.alloc _) hvb hm63 ?_; intro W1 hE1 hg1; have f1 : W1.cell? ⟨B + 1, 0, none⟩ = some (exF B vb) := hE1.ex.cell 0; have HJ1 := Lib.hid (hJ _ _ _ (hJ _ _ _ HJ.out (by first | exact grown_ad _ _ _ | exact grown_da _ _ _)) hg1); have HE1 := Lib.hid hE1; clear hE1 hg1
              try go_simp
              refine hK _ _ ?_
              clear hK K
              refine wpAny_ready (rs := [14]) (by kernel_rfl) (by simp) ?_
              refine AllReady.cons rfl (fun K hK => ?_) AllReady.nil
              go_simp
              go_at_call 130; (with_reducible refine (IHA.out _ HJ1.out HE1.out).mono ?_); rintro e W2 ⟨r, rfl, hx⟩; have HX := Lib.hid hx; clear hx
              try go_simp
              first | (refine hK _ _ ?_; clear hK K) | skip
              refine wpAny_take (i := 15) (v := ?_) rfl (by kernel_rfl) (by kernel_rfl) (by kernel_rfl) (fun _ _ _ h => h) (Or.inl ⟨by rfl, ?_⟩) ?_
              rotate_left
              · intro w; go_simp; try with_reducible rfl
              refine wpAny_take (i := 16) (v := ?_) rfl (by kernel_rfl) (by kernel_rfl) (by kernel_rfl) (fun _ _ _ h => h) (Or.inl ⟨by rfl, ?_⟩) ?_
              rotate_left
              · intro w; go_simp; try with_reducible rfl
              refine wpAny_done (by kernel_rfl) ?_ _
              go_wp2_with fail
              go_meet
              exact ex_meet HP1.out HX.out
            · go_simp
              refine hK _ _ ?_
              clear hK K
              refine wpAny_ready (rs := [7, 10]) (by kernel_rfl) (by simp) ?_
              refine AllReady.cons rfl (fun K hK => ?_) (AllReady.cons rfl (fun K hK => ?_) AllReady.nil)
              · go_simp
                refine hK _ _ ?_
                clear hK K
                refine wpAny_ready (rs := [10]) (by kernel_rfl) (by simp) ?_
                refine AllReady.cons rfl (fun K hK => ?_) AllReady.nil
                refine step_pre (by rfl) (.tmp 24) (.tmp 25) rfl 0 _ rfl HM.out rfl (by first | exact Row.new _ _ _ | exact Row.lit rfl | exact Row.litd rfl) (HE.out.drew.alloc _) hvb hm63 ?_; intro W1 hE1 hg1; have f1 : W1.cell? ⟨B + 1, 0, none⟩ = some (exF B vb) := hE1.ex.cell 0; have HJ1 := Lib.hid (hJ _ _ _ (hJ _ _ _ HJ.out (by first | exact grown_ad _ _ _ | exact grown_da _ _ _)) hg1); have HE1 := Lib.hid hE1; clear hE1 hg1
                try go_simp
                refine hK _ _ ?_
                clear hK K
                refine wpAny_ready (rs := [14]) (by kernel_rfl) (by simp) ?_
                refine AllReady.cons rfl (fun K hK => ?_) AllReady.nil
                go_simp
                go_at_call 130; (with_reducible refine (IHA.out _ HJ1.out HE1.out).mono ?_); rintro e W2 ⟨r, rfl, hx⟩; have HX := Lib.hid hx; clear hx
                try go_simp
                first | (refine hK _ _ ?_; clear hK K) | skip
                refine wpAny_take (i := 15) (v := ?_) rfl (by kernel_rfl) (by kernel_rfl) (by kernel_rfl) (fun _ _ _ h => h) (Or.inl ⟨by rfl, ?_⟩) ?_
                rotate_left
                · intro w; go_simp; try with_reducible rfl
                refine wpAny_take (i := 16) (v := ?_) rfl (by kernel_rfl) (by kernel_rfl) (by kernel_rfl) (fun _ _ _ h => h) (Or.inl ⟨by rfl, ?_⟩) ?_
                rotate_left
                · intro w; go_simp; try with_reducible rfl
                refine wpAny_done (by kernel_rfl) ?_ _
                go_wp2_with fail
                go_meet
                exact ex_meet HP1.out HX.out
              · refine step_pre (by rfl) (.tmp 24) (.tmp 25) rfl 0 _ rfl HM.out rfl (by first | exact Row.new _ _ _ | exact Row.lit rfl | exact Row.litd rfl) (HE.out.drew.alloc _) hvb hm63 ?_; intro W1 hE1 hg1; have f1 : W1.cell? ⟨B + 1, 0, none⟩ = some (exF B vb) := hE1.ex.cell 0; have HJ1 := Lib.hid (hJ _ _ _ (hJ _ _ _ HJ.out (by first | exact grown_ad _ _ _ | exact grown_da _ _ _)) hg1); have HE1 := Lib.hid hE1; clear hE1 hg1
                try go_simp
                refine hK _ _ ?_
                clear hK K
                refine wpAny_ready (rs := [7]) (by kernel_rfl) (by simp) ?_
                refine AllReady.cons rfl (fun K hK => ?_) AllReady.nil
                go_simp
                refine hK _ _ ?_
                clear hK K
                refine wpAny_ready (rs := [14]) (by kernel_rfl) (by simp) ?_
                refine AllReady.cons rfl (fun K hK => ?_) AllReady.nil
                go_simp
                go_at_call 130; (with_reducible refine (IHA.out _ HJ1.out HE1.out).mono ?_); rintro e W2 ⟨r, rfl, hx⟩; have HX := Lib.hid hx; clear hx
                try go_simp
                first | (refine hK _ _ ?_; clear hK K) | skip
                refine wpAny_take (i := 15) (v := ?_) rfl (by kernel_rfl) (by kernel_rfl) (by kernel_rfl) (fun _ _ _ h => h) (Or.inl ⟨by rfl, ?_⟩) ?_
                rotate_left
                · intro w; go_simp; try with_reducible rfl
                refine wpAny_take (i := 16) (v := ?_) rfl (by kernel_rfl) (by kernel_rfl) (by kernel_rfl) (fun _ _ _ h => h) (Or.inl ⟨by rfl, ?_⟩) ?_
                rotate_left
                · intro w; go_simp; try with_reducible rfl
                refine wpAny_done (by kernel_rfl) ?_ _
                go_wp2_with fail
                go_meet
                exact ex_meet HP1.out HX.out
        · have hop : ∀ h, P1 = [] := fun h : True => HP0.out hA
          have HP := Lib.hid (hop trivial)
          have hd1 : decide ((1 : Int) < (o : Int)) = false := by simp; omega
          have hlt1 : (o : Int) ≤ 1 := by omega
          have hlf0 : ((lf : Int) == 0) = false := by rw [beq_eq_false_iff_ne]; omega
          clear HP0 HP1 IHA IHB hop hA
          go_quiet (fail)
          go_wp2_with fail
          go_meet
          refine ⟨false, rfl, .inl ⟨rfl, ?_, HE.out.drewN _⟩⟩
          rw [HP.out, List.map_nil, List.append_nil]
          exact hJ _ _ _ HJ.out (grown_dn _ _ _)
      case rest =>
        obtain ⟨r, hr32, hc⟩ := hcut
        subst hr32
        clear HE HJ IHA HP1 HP0 f1 hz1
        rcases hc with ⟨rfl, hj, he⟩ | ⟨rfl, q, hq, hx⟩
        · have HJ := Lib.hid hj; have HE := Lib.hid he
          have fv : wc.cell? ⟨vb, 0, none⟩ = some (.int .i64 vn) := he.vr.cell 0
          clear hj he
          have hKv : wrap64 (2 ^ vn) = (K : Int) := by
            rw [HK.out]
            have h4 : vn = 0 ∨ vn = 1 ∨ vn = 2 ∨ vn = 3 := by omega
            rcases h4 with rfl | rfl | rfl | rfl <;> decide +kernel
          have hK8 : K ≤ 8 := by
            rw [HK.out]
            have h4 : vn = 0 ∨ vn = 1 ∨ vn = 2 ∨ vn = 3 := by omega
            rcases h4 with rfl | rfl | rfl | rfl <;> decide
          go_wp2_with fail
          go_loopg [10] (K + 1) (fun gk q wr => ∃ k : Nat, k ≤ K ∧ gk = K + 1 - k ∧ q = .int .i64 ((k : Int) + 1) ∧ (lf = 0 → k = 0) ∧ J (pre ++ (P1 ++ part2 K f o (lf - 1) k).map (p ++ ·)) wr ∧ ES B vb l vn p wr)
          case atStart => exact ⟨0, Nat.zero_le _, rfl, rfl, fun _ => rfl, by simpa [part2] using HJ.out, HE.out⟩
          case round =>
            obtain ⟨k, hk, rfl, rfl, hlk, hj, he⟩ := hrel
            have HJ1 := Lib.hid hj; have HE1 := Lib.hid he
            have fv : wr.cell? ⟨vb, 0, none⟩ = some (.int .i64 vn) := he.vr.cell 0
            have f1 : wr.cell? ⟨B + 1, 0, none⟩ = some (exF B vb) := he.ex.cell 0
            have hz1 := he.ex.lt
            clear hj he
            by_cases hl0 : 0 < lf
            · by_cases hkK : k < K
              · have IHC := Lib.hid (fun pre' W' h1 h2 => IHB.out hl0 k hkK pre' W' h1 h2)
                have hlf1 : (0 : Int) < (lf : Int) := by omega
                have hw3 : IntKind.i64.wrap ((lf : Int) - 1) = (l2 : Int) := by have := HL2.out; rw [IntWalk.i64_in _ ⟨by omega, by omega⟩]; omega
                have hk1 : (k : Int) + 1 ≤ (K : Int) := by omega
                have HS := Lib.hid (part2_succ K f o (lf - 1) k)
                have HLE := Lib.hid (part2_le K f o (lf - 1) (show k + 1 ≤ K by omega))
                have HLF := Lib.hid hl0
                have HKK := Lib.hid (show k + 1 ≤ K by omega)
                clear hl0 hlk
                go_wp2_with fail
                first
                | go_region_law (first
                  | (go_simp; go_at_call 130; (with_reducible refine (IHC.out _ _ HJ2.out HE2.out).mono ?_); rintro e W2 ⟨r, rfl, hx⟩; have HX := Lib.hid hx; clear hx; try go_simp)
                  | (refine step_pre (by rfl) (.tmp 44) (.tmp 46) rfl ((k : Int) + 1) _ rfl HM.out rfl (by first | exact Row.new _ _ _ | exact Row.lit rfl | exact Row.litd rfl) (HE1.out.drew.alloc _) hvb hm63 ?_; intro W1 hE1 hg1; have f1 : W1.cell? ⟨B + 1, 0, none⟩ = some (exF B vb) := hE1.ex.cell 0; have HJ2 := Lib.hid (hJ _ _ _ (hJ _ _ _ HJ1.out (by first | exact grown_ad _ _ _ | exact grown_da _ _ _)) hg1); have HE2 := Lib.hid hE1; clear hE1 hg1))
                | fail
                all_goals
                  rcases HX.out with ⟨rfl, h2, h3⟩ | ⟨rfl, q, h2, h3⟩
                  · have HX2 := Lib.hid h2; have HX3 := Lib.hid h3.less
                    clear h2 h3
                    go_wp2_with fail
                    go_roundg (K + 1 - (k + 1))
                    case rel => exact ⟨k + 1, HKK.out, rfl, by go_num, fun h => by have := HLF.out; omega, by have h := HX2.out; rw [HO2.out, HL2.out] at h; rw [HS.out, ← List.append_assoc, List.map_append, ← List.append_assoc]; exact h, HX3.out⟩
                    case measure => omega
                  · have h2s := Lib.hid h2; have HX3 := Lib.hid h3
                    clear h2 h3
                    go_wp2_with fail
                    go_returns
                    refine ExPi.no (q := (P1 ++ part2 K f o (lf - 1) k).map (p ++ ·) ++ q) ?_ (by rw [← List.append_assoc]; exact HX3.out)
                    have h := h2s.out
                    rw [HO2.out, HL2.out] at h
                    rw [HXX.out, if_pos HLF.out]
                    have h5 := HLE.out
                    rw [HS.out] at h5
                    obtain ⟨t, ht⟩ := h
                    obtain ⟨u, hu⟩ := h5
                    refine ⟨t ++ u.map (p ++ ·), ?_⟩
                    rw [← hu, List.map_append, List.map_append, List.map_append, List.map_append, ← ht]
                    simp only [List.append_assoc]
              · have hkK2 : k = K := by omega
                have hk1 : (K : Int) < (k : Int) + 1 := by omega
                have hlf1 : (0 : Int) < (lf : Int) := by omega
                have HLF := Lib.hid hl0
                have HK2 := Lib.hid hkK2
                clear hl0 hlk hkK2 hkK
                go_wp2_with fail
                go_returns
                refine ExPi.yes ?_ HE1.out
                rw [HXX.out, if_pos HLF.out]
                have h := HJ1.out
                rw [HK2.out] at h
                exact h
            · have hlf0 : (lf : Int) ≤ 0 := by omega
              have hk0 := hlk (by omega)
              subst hk0
              have HLF := Lib.hid hl0
              clear hl0 hlk
              go_wp2_with fail
              go_returns
              refine ExPi.yes ?_ HE1.out
              rw [HXX.out, if_neg HLF.out]
              simpa [part2] using HJ1.out
        · have HX := Lib.hid hx; have HQ := Lib.hid hq
          clear hx hq
          go_wp2_with fail
          go_returns
          refine ExPi.no ?_ HX.out
          rw [HXX.out, List.map_append]
          exact HQ.out.trans (List.prefix_append _ _)
end Go.Proofs.YthkfjnmnoanhlaaGreatDoor

namespace Go.Proofs.YthkfjnmnoanhlaaGreatDoor
open Go.RowKit

theorem Bt.lt.more {K K' : Nat} (hK : K ≤ K') : ∀ {b : Bt}, b.lt K → b.lt K'
  | .nil, _ => trivial
  | .node _ _ _, h => ⟨h.1, by have := h.2.1; omega, Bt.lt.more hK h.2.2.1, Bt.lt.more hK h.2.2.2⟩
/-- How a code is handed to yield. -/
def rdC (x : List Int) (args : Array Value) (B : Nat) (W : World) : Prop :=
  args = #[.slice (some ⟨B + 2, 0, none⟩) x.length 63] ∧ (x.length ≤ 63 ∧ ∃ b : Bt, x = b.code ∧ b.lt 256 ∧ b.size ≤ 31) ∧ ∃ cs : Array Value, Row W (B + 2) 3 cs ∧ cs.size = 63 ∧ ∀ (i : Nat) (y : Int), x[i]? = some y → cs[i]? = some (Value.int .i64 y)
theorem rdC.keep {E : Nat → Prop} {x : List Int} {args : Array Value} {B : Nat} {W W' : World} (hk : KeepB E B 3 W W') (h : rdC x args B W) : rdC x args B W' := by
  obtain ⟨h1, h2, cs, hr, hs, hc⟩ := h
  exact ⟨h1, h2, cs, (hk.2 _ (.inl (by omega))).trans hr, hs, hc⟩
/-- How the iterator ends. -/
def SeqE (L : List (List Int)) (J Jx : List (List Int) → World → Prop) (e : Ending) (W' : World) : Prop := e = .returned (.tuple #[]) ∧ (J L W' ∨ ∃ q, q <+: L ∧ Jx q W')
theorem mk63 (w : World) : (Instr.makeSlice 53 (.int .i64 0) (.int .i64 63)).run Tryz.prog w = .ok (.slice (some ⟨w.heap.size, 0, none⟩) 0 63) (w.alloc (.cells (c63 []) 3)) := by kernel_rfl

set_option maxRecDepth 100000 in
set_option maxHeartbeats 4000000 in
theorem trees1_any (vb nb vn n l : Nat) (hvn : vn ≤ 3) (hn : n ≤ 31) (J Jx : List (List Int) → World → Prop) (W : World) (hr1 : Row W vb 3 #[.int .i64 vn]) (hr2 : Row W nb 3 #[.int .i64 n])
    (hJ : AbidesOwn W.heap.size 3 J)
    (hY : ∀ (m : Nat) pre x args W1, J pre W1 → rdC x args W.heap.size W1 → YieldAt Fence.wide m Tryz.prog l args W1 fun e W' =>
      (e = .returned (.bool true) ∧ J (pre ++ [x]) W' ∧ KeepB (· = vb) W.heap.size 3 W1 W') ∨ (e = .returned (.bool false) ∧ Jx (pre ++ [x]) W')) (h0 : J [] W) :
    Calls Tryz.prog 129 #[.func (.yield l) #[] #[], .pointer (some ⟨vb, 0, none⟩), .pointer (some ⟨nb, 0, none⟩)] W (SeqE (codesS (2 ^ vn) n) J Jx) := by
  obtain ⟨B, hB⟩ : ∃ B, B = W.heap.size := ⟨_, rfl⟩
  have hvb : vb < B := by rw [hB]; exact hr1.lt
  have hnb : nb < B := by rw [hB]; exact hr2.lt
  have hext := fun (W1 : World) (h1 : J [] W1) (h2 : ES B vb l vn [] W1) => extend_any B vb l vn (2 ^ vn) rfl hvn hvb J Jx (fun x => ∃ b : Bt, x = b.code ∧ b.lt 256 ∧ b.size ≤ 31)
    (fun s W W' h g => hJ s W W' _ h g (fun r e => by cases e; omega))
    (fun k pre p W1 h1 h2 h3 h4 => (hY k pre p _ W1 h1 ⟨by rw [← hB], ⟨h3, h4⟩, by rw [← hB]; exact h2.pr⟩).mono fun e W' h => by
      rw [← hB] at h
      rcases h with ⟨a, b, c⟩ | h
      · exact .inl ⟨a, b, h2.keep c⟩
      · exact .inr h) (2 * n + 1) 1 n [] [] W1 rfl (by simp; omega) (fun y hy => by
      obtain ⟨b, h3, h4, h5⟩ := mem_codesS.1 (show y ∈ codesS (2 ^ vn) n from hy)
      exact ⟨b, by simpa using h5, h4.more (by have := Nat.pow_le_pow_right (show 0 < 2 by omega) hvn; omega), by omega⟩) h1 h2
  have HEX : Hid (∀ W1, J [] W1 → ES B vb l vn [] W1 → Calls Tryz.prog 130 #[.slice (some ⟨B + 2, 0, none⟩) 0 63, .int .i64 1, .int .i64 (n : Nat), .pointer (some ⟨B, 0, none⟩), .pointer (some ⟨B + 1, 0, none⟩), .pointer (some ⟨vb, 0, none⟩)] W1 fun e W' => ∃ r, e = .returned (.bool r) ∧ (J (codesS (2 ^ vn) n) W' ∨ ∃ q, q <+: codesS (2 ^ vn) n ∧ Jx q W')) := fun W1 h1 h2 => by
    refine (hext W1 h1 h2).mono ?_
    have e : (codesF (2 ^ vn) (2 * n + 1) 1 n).map (([] : List Int) ++ ·) = codesS (2 ^ vn) n := by simp [codesS]
    rw [e]
    rintro e W' ⟨r, rfl, h | h⟩
    · exact ⟨r, rfl, .inl h.2.1⟩
    · obtain ⟨_, q, h3, h4⟩ := h
      exact ⟨r, rfl, .inr ⟨q, h3, h4⟩⟩
  clear hext hY
  subst hB
  have HJN := Lib.hid (fun (X Y : World) (h : J [] X) (g : X.grownBy Y none) => hJ [] X Y none h g (fun r e => by cases e))
  have HJ := Lib.hid hJ; have H0 := Lib.hid h0
  have hv0 := hr1.lt; have hn0 := hr2.lt
  obtain ⟨L, hL⟩ : ∃ L, L = codesS (2 ^ vn) n := ⟨_, rfl⟩
  rw [← hL] at HEX ⊢
  have HR1 := Lib.hid hr1; have HR2 := Lib.hid hr2
  clear hJ h0 hL hr1 hr2
  go_enter Tryz.func129, Tryz.ntmps129
  go_upto_region 3 with (fail)
  refine wp_abs (fun X => Row X W.heap.size 155 #[.func (.yield l) #[] #[]] ∧ Row X (W.heap.size + 1) 156 #[exF W.heap.size vb] ∧ Row X vb 3 #[.int .i64 vn] ∧ Row X nb 3 #[.int .i64 n] ∧ J [] X ∧ X.heap.size = W.heap.size + 2) ?_ ?_
  · refine ⟨(Row.new _ _ _).alloc _, ?_, (HR1.out.alloc _).alloc _, (HR2.out.alloc _).alloc _, HJN.out _ _ H0.out ?_, by simp⟩
    · exact Row.lit (by simp)
    · exact (World.grownBy_alloc _ _ none).trans (World.grownBy_alloc _ _ none)
  rintro X ⟨r1, r2, r3, r4, h0, hsz⟩
  have H1 := Lib.hid r1; have H2 := Lib.hid r2; have H3 := Lib.hid r3; have H4 := Lib.hid r4
  have c1 : X.cell? ⟨W.heap.size + 1, 0, none⟩ = some (exF W.heap.size vb) := r2.cell 0
  have c2 : X.cell? ⟨nb, 0, none⟩ = some (.int .i64 n) := r4.cell 0
  have z1 : W.heap.size + 1 < X.heap.size := by omega
  have z2 : nb < W.heap.size + 2 := by omega
  have hmk := mk63
  replace H0 := Lib.hid h0
  have HZ := Lib.hid hsz
  clear r1 r2 r3 r4 h0
  first
  | go_region_law (go_simp; go_at_call 130; (with_reducible refine (HEX.out _ (HJN.out _ _ H0.out (grown_ad _ _ _)) ⟨(H1.out.alloc _).drew, (H2.out.alloc _).drew, ⟨c63 [], Row.litd HZ.out.symm, rfl, fun i y hi => by simp at hi⟩, (H3.out.alloc _).drew⟩).mono ?_); rintro e W2 ⟨r, rfl, hx⟩; have HX := Lib.hid hx; clear hx; try go_simp)
  | fail
  all_goals
    go_wp2_with fail
    go_returns
    exact ⟨rfl, HX.out⟩
end Go.Proofs.YthkfjnmnoanhlaaGreatDoor
