/- MsoBlocks: for every formula the law returns true. -/
import Derived.Test.YtbggpiednddheaaDoorBlocksB
set_option linter.unusedSimpArgs false
set_option linter.unusedVariables false
namespace Go.Proofs.YtbggpiednddheaaDoor
open Go.RowKit

theorem blocks_any (f : List Mk) (v : Value) (w : World) (hv : MS w v f) :
    Calls Tryd.prog 9 #[v] w fun e w' => e = .returned (.bool true) ∧ Below w.heap.size w w' := by
  cases hf : formedS (f.take 70)
  · exact blocks_no f v w hv hf
  obtain ⟨t, ok, hs, he, ht⟩ := formed_is (f.take 70) hf
  obtain ⟨g, hg⟩ : ∃ g, g = f.take 70 := ⟨_, rfl⟩
  rw [← hg] at hf he ht
  cases t with
  | leaf op x y =>
    have hl := leaf_op ok
    have h4 := leaf_len ok
    have hk := BK.mk' (h := []) (lm := ⟨op, x, y, 0, 0⟩) hg hf (by rw [he]; rfl) (by dsimp only; omega)
    have hgl : g.length = 1 := by rw [he]; rfl
    rw [hgl] at hk
    refine blocks_leaf f g _ _ v w hv hk hl.1 ?_
    rw [ht]
    show 4 ≤ (List.toArray _).size
    simpa using h4
  | un op x a =>
    obtain ⟨ou, oa⟩ := ok
    have hn : nm op ≠ [] := ou.1
    have h1 : nc op = 1 := ou.2.1
    have hr := nm_range hn
    have hops := (node_ops (m := ⟨op, x, 0, 0, 0⟩) hn).2.1 h1
    dsimp only at hops
    have hgl : g = a.enc 0 ++ [⟨op, x, 0, ((0 + a.size - 1 : Nat) : Int), 0⟩] := by rw [he]; rfl
    have hk := BK.mk' hg hf hgl (by dsimp only; omega)
    have htk := (take_last hgl).2
    have has : a.size < 64 := by simp only [Tr.size] at hs; omega
    have hw : ∀ x, wrapS (a.enc 0) ⟨op, x, 0, 0, 0⟩ = ((Tr.un op x a).enc 0, 0) := fun x => wrap_enc a oa op x has
    by_cases h9 : op = 9
    · have hx : x = 0 := by
        have hsp := ou.2.2.2
        subst h9
        simpa [spare, nv] using hsp
      refine blocks_un f g (a.enc 0) _ _ _ false v w hv hk htk (by simpa using h9) (fun _ W u h => ?_) (fun h => by cases h)
      have q := Not_any (a.enc 0) u W h
      have hw0 := hw 0
      rw [h9] at hw0
      rw [hw0] at q
      rw [he, hx, h9]
      exact q
    · refine blocks_un f g (a.enc 0) _ _ _ true v w hv hk htk (by simp only [if_true]; omega) (fun h => by cases h) (fun _ W u h => ?_)
      have q := Bind_any op x (a.enc 0) u W h (by omega) (by omega)
      have hq : isQ op = true := by unfold isQ; simp; omega
      have hx : 0 ≤ x ∧ x < 6 := by
        have hwi := ou.2.2.1
        have hv1 : nv op = 1 := by
          have h : op = 12 ∨ op = 13 ∨ op = 14 ∨ op = 15 := by omega
          rcases h with rfl | rfl | rfl | rfl <;> rfl
        simpa [within, hv1] using hwi
      have hb : bindS op x (a.enc 0) = (g, 0) := by unfold bindS; rw [if_neg (by simp [hq]), if_neg (by omega), hw x, he]
      rw [hb] at q
      exact q
  | bin op a b =>
    obtain ⟨h2, oa, ob⟩ := ok
    have hop : op = 10 ∨ op = 11 := by
      unfold nc at h2
      by_cases h : op = 10 ∨ op = 11
      · exact h
      · rw [if_neg h] at h2
        by_cases h3 : op = 9 ∨ (12 ≤ op ∧ op ≤ 15)
        · rw [if_pos h3] at h2; omega
        · rw [if_neg h3] at h2; omega
    have hpa := a.size_pos
    have hpb := b.size_pos
    have hgl : g = (a.enc 0 ++ b.enc a.size) ++ [⟨op, 0, 0, (a.size : Int) - 1, (a.size : Int) + b.size - 1⟩] := by
      rw [he, Tr.enc, List.append_assoc]
      simp only [Nat.zero_add]
      congr 3
      simp only [List.cons.injEq, Mk.mk.injEq, and_true, true_and]
      omega
    have hk := BK.mk' hg hf hgl (by dsimp only; omega)
    have hgn : g.length = a.size + b.size + 1 := by rw [hgl]; simp [Tr.enc_len]; omega
    rw [hgn] at hk
    have hsz : a.size + b.size < 64 := by simp only [Tr.size] at hs; omega
    refine blocks_bin f g op 0 0 _ a.size b.size a b v w hv hk hop ?_ ?_ oa ob rfl rfl ?_
    · rw [hgl, List.append_assoc]
      exact List.take_left' (Tr.enc_len a 0)
    · rw [hgl, List.append_assoc, List.drop_left' (Tr.enc_len a 0)]
      exact List.take_left' (Tr.enc_len b _)
    · rw [he]
      exact join_enc a b oa ob op hop hsz
end Go.Proofs.YtbggpiednddheaaDoor
