/- OverMSO and OverSet turn nothing but the row that they are given. -/
import Derived.Test.YtbggpiednddheaaDoorKit
import Derived.Test.YtbggpiednddheaaDoorKeep
set_option linter.unusedSimpArgs false
set_option linter.unusedVariables false
namespace Go.Proofs.YtbggpiednddheaaDoor
open Go.RowKit

set_option maxRecDepth 100000 in
set_option maxHeartbeats 1000000 in
theorem over_mk (f : List Mk) (v : Value) (B : Nat) (w : World) (hv : MO w B v f) :
    Calls Tryd.prog 27 #[v] w fun e w' => e = .returned (.tuple #[]) ∧ Keep (fun b => v.ownBlock = some b) w w' := by
  have hbd := agg99
  obtain ⟨n, hn⟩ : ∃ n, n = f.length := ⟨_, rfl⟩
  have hv2 := hv.2
  rw [← hn] at hv2
  clear hv hn
  by_cases h0 : n = 0
  · subst h0
    obtain ⟨A, c, rfl⟩ := over_nil_shape hv2
    clear hv2
    go_enter Tryd.func27, Tryd.ntmps27
    go_wp2
    go_rounds 1
    refine bodyPost_end (results_none rfl _ _ _) rfl ?_
    exact ⟨rfl, Keep.refl _ _⟩
  · obtain ⟨g, cap, cs, rfl, hBg, hr, hsz, hnm⟩ := own_row hv2 (by omega)
    clear hv2
    have HR0 := Lib.hid hr; clear hr
    have hS : (Value.slice (some ⟨g, 0, none⟩) n cap).ownBlock = some g := rfl
    rw [hS]
    clear hS
    go_enter Tryd.func27, Tryd.ntmps27
    go_wp2
    go_loopg [2] n (fun gk q wr => ∃ (k : Nat) (cs' : Array Value), k ≤ n ∧ gk = n - k ∧ q = .int .i64 k ∧ Keep (fun b => some g = some b) w wr ∧ Row wr g 49 cs' ∧ n * 5 ≤ cs'.size)
    case atStart => exact ⟨0, cs, Nat.zero_le _, rfl, rfl, Keep.refl _ _, HR0.out, hsz⟩
    case round =>
      obtain ⟨k, cs', hk, rfl, rfl, hb, hr, hs⟩ := hrel
      have HB := Lib.hid hb; clear hb
      by_cases hlt : k < n
      · obtain ⟨u0, c0⟩ := row_some hr (i := k * 5) (by omega)
        obtain ⟨u1, c1⟩ := row_some hr (i := k * 5 + 1) (by omega)
        obtain ⟨u2, c2⟩ := row_some hr (i := k * 5 + 2) (by omega)
        obtain ⟨u3, c3⟩ := row_some hr (i := k * 5 + 3) (by omega)
        obtain ⟨u4, c4⟩ := row_some hr (i := k * 5 + 4) (by omega)
        have fr := hr.free
        have HR := Lib.hid hr; clear hr
        go_wp2
        go_roundg (n - (k + 1))
        case rel => exact ⟨k + 1, _, by omega, rfl, by go_num, ((((HB.out.set (p := ⟨g, _, none⟩) (.inl rfl) _).set (p := ⟨g, _, none⟩) (.inl rfl) _).set (p := ⟨g, _, none⟩) (.inl rfl) _).set (p := ⟨g, _, none⟩) (.inl rfl) _).set (p := ⟨g, _, none⟩) (.inl rfl) _, ((((HR.out.set _ _).set _ _).set _ _).set _ _).set _ _, by simpa using hs⟩
        case measure => omega
      · go_wp2
        refine bodyPost_end (results_none rfl _ _ _) rfl ?_
        exact ⟨rfl, HB.out⟩

set_option maxRecDepth 100000 in
set_option maxHeartbeats 1000000 in
theorem over_sk (f : List Nat) (v : Value) (B : Nat) (w : World) (hv : WS w B v f) :
    Calls Tryd.prog 26 #[v] w fun e w' => e = .returned (.tuple #[]) ∧ Keep (fun b => v.ownBlock = some b) w w' := by
  obtain ⟨n, hn⟩ : ∃ n, n = f.length := ⟨_, rfl⟩
  have hv2 : w.ownsRow B 70 1 v f.length (f.map fun s : Nat => Value.int .u64 s) := hv
  rw [← hn] at hv2
  clear hv hn
  by_cases h0 : n = 0
  · subst h0
    obtain ⟨A, c, rfl⟩ := over_nil_shape hv2
    clear hv2
    go_enter Tryd.func26, Tryd.ntmps26
    go_wp2
    go_rounds 1
    refine bodyPost_end (results_none rfl _ _ _) rfl ?_
    exact ⟨rfl, Keep.refl _ _⟩
  · obtain ⟨g, cap, cs, rfl, hBg, hr, hsz, hnm⟩ := own_row hv2 (by omega)
    clear hv2
    have HR0 := Lib.hid hr; clear hr
    have hS : (Value.slice (some ⟨g, 0, none⟩) n cap).ownBlock = some g := rfl
    rw [hS]
    clear hS
    go_enter Tryd.func26, Tryd.ntmps26
    go_wp2
    go_loopg [2] n (fun gk q wr => ∃ (k : Nat) (cs' : Array Value), k ≤ n ∧ gk = n - k ∧ q = .int .i64 k ∧ Keep (fun b => some g = some b) w wr ∧ Row wr g 70 cs' ∧ n * 1 ≤ cs'.size)
    case atStart => exact ⟨0, cs, Nat.zero_le _, rfl, rfl, Keep.refl _ _, HR0.out, hsz⟩
    case round =>
      obtain ⟨k, cs', hk, rfl, rfl, hb, hr, hs⟩ := hrel
      have HB := Lib.hid hb; clear hb
      by_cases hlt : k < n
      · obtain ⟨u0, c0⟩ := row_some hr (i := k) (by omega)
        have fr := hr.free
        have HR := Lib.hid hr; clear hr
        go_wp2
        go_roundg (n - (k + 1))
        case rel => exact ⟨k + 1, _, by omega, rfl, by go_num, HB.out.set (p := ⟨g, _, none⟩) (.inl rfl) _, HR.out.set _ _, by simpa using hs⟩
        case measure => omega
      · go_wp2
        refine bodyPost_end (results_none rfl _ _ _) rfl ?_
        exact ⟨rfl, HB.out⟩

theorem equal_mk (f : List Mk) (hl : f.length ≤ 1000000) : ∀ W u x, MS W u f → MS W x f → Calls Tryd.prog 25 #[u, x] W fun e w' => e = .returned (.bool true) ∧ Below W.heap.size W w' := fun W u x h1 h2 => by
  have q := equalMSO f f u x W h1 h2 hl
  rw [decide_eq_true (rfl : f = f)] at q
  exact q
theorem MO.kept {S : Nat → Prop} {w w' : World} {B : Nat} {v : Value} {f : List Mk} (h : MO w B v f) (hk : Keep S w w') (hs : ∀ b, v.ownBlock = some b → ¬ S b) : MO w' B v f := by
  obtain ⟨h0, h1, h2⟩ := h
  refine ⟨h0, h1, ?_⟩
  rcases h2 with h2 | ⟨g, cap, cur, hv, hB, hg, r⟩
  · exact .inl h2
  · exact .inr ⟨g, cap, cur, hv, hB, (hk.block g (lt_of_block hg) (hs g (by rw [hv]; rfl))).trans hg, r⟩
theorem MO.within {w : World} {B : Nat} {v : Value} {f : List Mk} (h : MO w B v f) : ∀ b, v.ownBlock = some b → B ≤ b ∧ b < w.heap.size := World.ownsRow.lt h.2
theorem WS.within {w : World} {B : Nat} {v : Value} {l : List Nat} (h : WS w B v l) : ∀ b, v.ownBlock = some b → B ≤ b ∧ b < w.heap.size := World.ownsRow.lt h
theorem Keep.under {S : Nat → Prop} {a b : World} (h : Keep S a b) {B : Nat} (hB : B ≤ a.heap.size) (hS : ∀ k, S k → B ≤ k) : Below B a b := h.below hB fun k hk hs => by have := hS k hs; omega
end Go.Proofs.YtbggpiednddheaaDoor
