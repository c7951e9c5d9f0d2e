/- Contract: Format. -/
import Derived.Test.YtcjblbhmajdmjaaDoorStr
import Derived.Test.YtcjblbhmajdmjaaDoorMsoC
import Derived.Test.YtcjblbhmajdmjaaDoorKit
import Derived.Test.YtcjblbhmajdmjaaDoorFree
import Derived.Test.YtcjblbhmajdmjaaDoorShelf
set_option linter.unusedSimpArgs false
set_option linter.unusedVariables false
namespace Go.Proofs.YtcjblbhmajdmjaaDoor
open Go.RowKit

theorem SOl.lt {w : World} {B : Nat} {v : Value} {l : List (List UInt8)} (h : SOl w B v l) : ∀ k, v.ownBlock = some k → B ≤ k ∧ k < w.heap.size := World.ownsRow.lt h
theorem SOl.shape {w : World} {B : Nat} {v : Value} {l : List (List UInt8)} (h : SOl w B v l) : ∃ A c, v = .slice A l.length c ∧ l.length ≤ c ∧ c ≤ 9223372036854775807 := by
  obtain ⟨A, c, h1, h2, h3, _⟩ := h.ssl
  exact ⟨A, c, h1, h2, h3⟩
/-- A literal of one string is owned. -/
theorem SOl.one {w : World} {g : Nat} {x : List UInt8} (h : Row w g 9 #[strV x]) : SOl w g (.slice (some ⟨g, 0, none⟩) 1 1) [x] :=
  ⟨by simp [tcells], .inr ⟨g, 1, #[strV x], rfl, Nat.le_refl _, h, Nat.le_refl _, by simp [maxLen], rfl, rfl⟩⟩
/-- The front of an owned slice is owned. -/
theorem SOl.front {w : World} {B : Nat} {A : Option Addr} {n c : Nat} {l : List (List UInt8)} (h : SOl w B (.slice A n c) l) (k : Nat) (hk : k ≤ n) : SOl w B (.slice A k c) (l.take k) := by
  obtain ⟨h1, h⟩ := h
  rcases h with ⟨hv, h0⟩ | ⟨g, cap, cur, hv, hB, hg, hnc, hcm, hcs, ht⟩
  · cases hv
    have hk0 : k = 0 := by omega
    subst hk0
    simp only [List.take_zero]
    exact SOl.nil _ _
  · cases hv
    refine ⟨by simp [tcells], .inr ⟨g, c, cur, ?_, hB, hg, ?_, hcm, hcs, ?_⟩⟩
    · rw [List.length_take, Nat.min_eq_left hk]
    · rw [List.length_take, Nat.min_eq_left hk]; omega
    · rw [List.length_take, Nat.min_eq_left hk, tcells, List.map_take, ← tcells, ← ht, List.take_take, Nat.mul_one, Nat.min_eq_left (by omega)]
/-- What lies behind an index of a slice. -/
theorem SSl.back {w : World} {b o n c : Nat} {l : List (List UInt8)} (h : SSl w (.slice (some ⟨b, o, none⟩) n c) l) (k : Nat) (hk : k ≤ n) : SSl w (.slice (some ⟨b, o + k, none⟩) (n - k) (c - k)) (l.drop k) := by
  obtain ⟨A, c', h1, h2, h3, h4⟩ := h
  cases h1
  refine ⟨some ⟨b, o + k, none⟩, c - k, by rw [List.length_drop], by rw [List.length_drop]; omega, by omega, fun hp => ?_⟩
  rw [List.length_drop] at hp
  obtain ⟨b', o', e, hlt, hm⟩ := h4 (by omega)
  cases e
  exact ⟨b, o + k, rfl, hlt, fun i x hi => by rw [Nat.add_assoc]; exact hm (k + i) x (by rw [List.getElem?_drop] at hi; exact hi)⟩

theorem SOl.cases {w : World} {B : Nat} {v : Value} {l : List (List UInt8)} (h : SOl w B v l) : (v = .slice none 0 0 ∧ l = []) ∨ ∃ g cap, v = .slice (some ⟨g, 0, none⟩) l.length cap ∧ l.length ≤ cap ∧ cap ≤ 9223372036854775807 ∧ B ≤ g ∧ g < w.heap.size := by
  rcases h.2 with ⟨hv, h0⟩ | ⟨g, cap, cur, hv, hB, hg, hnc, hcm, _⟩
  · exact .inl ⟨hv, List.eq_nil_of_length_eq_zero h0⟩
  · exact .inr ⟨g, cap, hv, hnc, by simpa [maxLen] using hcm, hB, lt_of_block hg⟩
theorem SSl.backg {w : World} {b n c : Nat} {l : List (List UInt8)} (h : SSl w (.slice (some ⟨b, 0, none⟩) n c) l) (k : Nat) (hk : k ≤ n) (A : Option Addr) (m c2 : Nat) (hm : m = n - k) (hA : 0 < m → A = some ⟨b, k, none⟩) (h1 : m ≤ c2) (h2 : c2 ≤ 9223372036854775807) : SSl w (.slice A m c2) (l.drop k) := by
  obtain ⟨A0, c0, e, h3, h4, h5⟩ := h
  cases e
  refine ⟨A, c2, by rw [List.length_drop, hm], by rw [List.length_drop]; omega, h2, fun hp => ?_⟩
  rw [List.length_drop] at hp
  obtain ⟨b', o', e, hlt, hc⟩ := h5 (by omega)
  cases e
  exact ⟨b, k, hA (by omega), hlt, fun i x hi => by
    have := hc (k + i) x (by rw [List.getElem?_drop] at hi; exact hi)
    rwa [Nat.zero_add] at this⟩
theorem join_any (v : Value) (l : List (List UInt8)) (w : World) (hv : SSl w v l) (hp : 0 < l.length) (hb : tot l + l.length ≤ 1000000) :
    Calls Tryd.prog 63 #[v, .string { data := #[32] }] w fun e w' => e = .returned (strV (Lib.join l [32])) ∧ Below w.heap.size w w' := by
  obtain ⟨A, c, rfl, h1, h2, h3⟩ := hv
  obtain ⟨b, o, rfl, hlt, hm⟩ := h3 hp
  have hj := join_len l
  have hmm : (l.map fun x => (⟨x.toArray⟩ : ByteArray)).map (·.data.toList) = l := by rw [List.map_map]; exact List.map_id'' (fun x => by simp) l
  have h := Tryd.strings_Join b o c (l.map fun x => ⟨x.toArray⟩) { data := #[32] } w (fun j x hx => by
    rw [List.getElem?_map, Option.map_eq_some_iff] at hx
    obtain ⟨y, hy, rfl⟩ := hx
    exact hm j y hy) hlt (by rw [List.length_map]; omega) (by rw [List.length_map]; exact h1) (by
    rw [hmm]
    show (Lib.join l [32]).length ≤ _
    omega)
  rw [hmm, List.length_map] at h
  exact h
theorem Tr.enc_within (t : Tr) : t.ok → ∀ p, ∀ m ∈ t.enc p, within m 6 = true := by
  induction t with
  | leaf op x y => intro ok p m hm; simp only [Tr.enc, List.mem_singleton] at hm; subst hm; exact ok.2.2.1
  | un op x a ih =>
    intro ok p m hm
    simp only [Tr.enc, List.mem_append, List.mem_singleton] at hm
    rcases hm with hm | hm
    · exact ih ok.2 p m hm
    · subst hm; exact ok.1.2.2.1
  | bin op a b iha ihb =>
    intro ok p m hm
    simp only [Tr.enc, List.mem_append, List.mem_singleton] at hm
    rcases hm with hm | hm | hm
    · exact iha ok.2.1 p m hm
    · exact ihb ok.2.2 _ m hm
    · subst hm
      have h : op = 10 ∨ op = 11 := by
        have h := ok.1
        unfold nc at h
        split at h
        · assumption
        · split at h <;> omega
      rcases h with rfl | rfl <;> rfl
theorem formed_occ (f : List Mk) (hf : formedS f = true) (m : Mk) (hm : m ∈ f) (j : Nat) (x : Int) (hx : (occ m)[j]? = some x) : 0 ≤ x ∧ x < 6 := by
  obtain ⟨_, t, ok, _, he⟩ := formed_tree f hf
  rw [he] at hm
  exact occ_bound m (t.enc_within ok 0 m hm) x (List.mem_of_getElem? hx)
theorem SOl.oneq {w : World} {g : Nat} {u : Value} {x : List UInt8} (h : Row w g 9 #[u]) (hu : u = strV x) : SOl w g (.slice (some ⟨g, 0, none⟩) 1 1) [x] := by subst hu; exact SOl.one h
theorem var_cut {x : Int} (h : 0 ≤ x ∧ x < 6) : Value.string (({ data := #[65, 66, 67, 68, 69, 70] } : ByteArray).extract x.toNat (x + 1).toNat) = strV (varB x) := by
  have hx : x = 0 ∨ x = 1 ∨ x = 2 ∨ x = 3 ∨ x = 4 ∨ x = 5 := by omega
  rcases hx with rfl | rfl | rfl | rfl | rfl | rfl <;> rfl
theorem take_map_succ (n : List UInt8) (l : List Int) (j : Nat) (x : Int) (h : l[j]? = some x) : (n :: (l.take j).map varB) ++ [varB x] = n :: (l.take (j + 1)).map varB := by
  rw [List.take_add_one, h]; simp
theorem Keep.grown {S : Nat → Prop} {a b c : World} {row : Option Nat} (h : Keep S a b) (k : b.grownBy c row) (hr : ∀ r, row = some r → S r ∨ a.heap.size ≤ r) : Keep S a c :=
  ⟨k.os.trans h.os, k.tape.trans h.tape, k.output.trans h.output, Nat.le_trans h.size k.size, fun i hi hs => (k.block i (Nat.lt_of_lt_of_le hi h.size) (fun e => by
    rcases hr i e.symm with h1 | h1
    · exact hs h1
    · omega)).trans (h.block i hi hs)⟩

theorem str_parens {R : ByteArray} {l : List UInt8} (h : R = ⟨l.toArray⟩) : Value.string (({ data := #[40] } : ByteArray) ++ R ++ ({ data := #[41] } : ByteArray)) = strV ([40] ++ l ++ [41]) := by
  subst h
  unfold strV
  congr 1
theorem own_below_u {w w5 W w6 : World} {B : Nat} {v : Value} {f : List (List UInt8)} (hh : Below B w w5) (hx : Below w5.heap.size w5 W) (ho : SOl w5 B v f) (hg : W.grownBy w6 v.ownBlock) (hB : B ≤ w5.heap.size) : Below B w w6 :=
  own_below_ssl (f := f) (hh.trans (hx.mono hB)) (ho.below hx (Nat.le_refl _)) hg (Nat.le_trans hB hx.size)
set_option maxRecDepth 100000 in
set_option maxHeartbeats 4000000 in
theorem Format_any (f : List Mk) (v : Value) (w : World) (hv : MS w v f) :
    Calls Tryd.prog 27 #[v] w fun e w' => e = .returned (.tuple #[strV (if formedS f then (stk f f.length).headD [] else []), .int .i64 (if formedS f then 0 else 2)]) ∧ Below w.heap.size w w' := by
  obtain ⟨t, ht⟩ : ∃ t, t = formedS f := ⟨_, rfl⟩
  have HT := Lib.hid ht
  rw [← ht]
  clear ht
  have HV := Lib.hid hv
  cases t with
  | false =>
    clear hv
    go_enter Tryd.func27, Tryd.ntmps27
    go_wp2_with (go_at_call 43; go_must (refine (formed_any f _ _ HV.out).mono ?_; rintro e w1 ⟨rfl, hb1⟩; rw [← HT.out]))
    go_returns
    exact ⟨rfl, hb1⟩
  | true =>
    have hl := formed_len f HT.out.symm
    obtain ⟨hop, A, c, rfl, hc, hc2, _⟩ := hv
    obtain ⟨n, hn⟩ : ∃ n, n = f.length := ⟨_, rfl⟩
    rw [← hn] at HV hl hc ⊢
    have HN := Lib.hid hn; clear hn
    have HOP := Lib.hid hop; clear hop
    obtain ⟨R, hR⟩ : ∃ R, R = strV ((stk f n).headD []) := ⟨_, rfl⟩
    rw [if_pos rfl, if_pos rfl, ← hR]
    have HR := Lib.hid hR; clear hR
    obtain ⟨b, o, rfl⟩ := HV.out.addr (by rw [← HN.out]; omega)
    go_enter Tryd.func27, Tryd.ntmps27
    go_wp2_with (go_at_call 43; go_must (refine (formed_any f _ _ HV.out).mono ?_; rintro e w1 ⟨rfl, hb1⟩; rw [← HT.out]))
    have HB1 := Lib.hid hb1; clear hb1
    go_loopg [4, 17] n (fun gk s q wr => ∃ k : Nat, k ≤ n ∧ gk = n - k ∧ q = .int .i64 k ∧ Below w.heap.size w wr ∧ SOl wr w.heap.size s (stk f k))
    case atStart => exact ⟨0, Nat.zero_le _, rfl, rfl, HB1.out, SOl.nil _ _⟩
    case round =>
      obtain ⟨k, hk, rfl, rfl, hb, ho⟩ := hrel
      have HB := Lib.hid hb; clear hb
      by_cases hlt : k < n
      · obtain ⟨m, hm⟩ : ∃ m, f[k]? = some m := ⟨f[k]'(by rw [← HN.out]; exact hlt), List.getElem?_eq_getElem _⟩
        obtain ⟨m1, m2⟩ := HOP.out m (List.mem_of_getElem? hm)
        have HSK := Lib.hid (stk_succ f k m hm)
        have HVr := Lib.hid (HV.out.below HB.out (Nat.le_refl _))
        obtain ⟨c0, c1, c2, c3, c4⟩ := HVr.out.at5 hm
        have hst := stk_ok f HT.out.symm k m hm
        have hbd := stk_bound f (by rw [← HN.out]; omega) k (by rw [← HN.out]; omega)
        obtain ⟨A', c', rfl, q1, q2⟩ := ho.shape
        have HM := Lib.hid hm; clear hm
        generalize stk f k = st at *
        have HO := Lib.hid ho; clear ho
        by_cases hop1 : m.op = 1
        · have hop1b : (m.op == 1) = true := by rw [hop1]; rfl
          have E : Hid (fmtStep st m = st ++ [nm m.op]) := by unfold Hid; rw [fmtStep, if_pos hop1]
          clear hop1
          go_wp2_with (first
            | (go_at_call 53; go_must (refine (forms_any _ _ m1 m2).mono ?_; rintro e w2 ⟨rfl, hb2⟩; obtain ⟨x0, x1, hz1, HB2⟩ := after1 hb2; clear hb2))
            | (at_builtin; go_must (refine wpList_append_ssl rfl (.tmp 27) (.tmp 30) rfl w.heap.size _ st rfl (HO.out.below (B' := wr.heap.size) (Below.alloc (Below.alloc HB2.out HB2.out.size _) (by simp only [World.size_alloc]; omega) _) (Nat.le_refl _)) _ [nm m.op] rfl (SOl.one (Row.lit (by simp only [World.size_alloc]))).ssl (by rw [List.length_singleton]; omega) (by have := HB.out.size; simp only [World.size_alloc]; omega) ?_; intro v3 w3 ho3 hg3 ht3)))
          go_roundg (n - (k + 1))
          case rel => exact ⟨k + 1, hlt, rfl, by go_num, own_below_ssl (f := st) (Below.alloc (Below.alloc (HB.out.trans (HB2.out.mono HB.out.size)) (by have := HB.out.size; omega) _) (by have := HB.out.size; simp only [World.size_alloc]; omega) _) (HO.out.below (B' := wr.heap.size) (Below.alloc (Below.alloc HB2.out HB2.out.size _) (by simp only [World.size_alloc]; omega) _) (Nat.le_refl _)) hg3 (by have := HB.out.size; simp only [World.size_alloc]; omega), by rw [HSK.out, E.out]; exact ho3⟩
          case measure => omega
        · have hop1b : (m.op == 1) = false := by simp [hop1]
          have E : Hid (fmtStep st m = st.take (fmtAt st m) ++ [fmtNode m (st.drop (fmtAt st m))]) := by unfold Hid; rw [fmtStep, if_neg hop1]
          clear hop1
          go_wp2_with (first
            | (go_at_call 53; go_must (refine (forms_any _ _ m1 m2).mono ?_; rintro e w2 ⟨rfl, hb2⟩; obtain ⟨x0, x1, hz1, HB2⟩ := after1 hb2; clear hb2))
            | (go_at_call 46; go_must (refine (occurs_any m _ m1 m2).mono ?_; rintro e w3 ⟨v3, rfl, hb3, hfr3, hi3⟩; have HI3 := Lib.hid hi3; obtain ⟨Ao, co, rfl, ho1, ho2, -⟩ := hi3)))
          have hsz3 : w2.heap.size + 1 < w3.heap.size := by have := hb3.size; simp only [World.size_alloc] at this; omega
          have hRF : Row w3 w2.heap.size 79 #[strV (nm m.op), .int .i64 (nv m.op), .int .i64 (nc m.op)] := ((Row.new w2 _ _).alloc _).below hb3 (by simp only [World.size_alloc]; omega)
          have hTW : SOl w3 (w2.heap.size + 1) (.slice (some ⟨w2.heap.size + 1, 0, none⟩) 1 1) [nm m.op] := SOl.one ((Row.lit (by simp only [World.size_alloc])).below hb3 (by simp only [World.size_alloc]; omega))
          have hB23 : Below wr.heap.size wr w3 := (Below.alloc (Below.alloc HB2.out HB2.out.size _) (by simp only [World.size_alloc]; omega) _).trans (hb3.mono (by simp only [World.size_alloc]; omega))
          have HRF := Lib.hid hRF; clear hRF
          have HTW := Lib.hid hTW; clear hTW
          have HB3 := Lib.hid hB23; clear hB23 hb3
          have hocc := occ_len m
          obtain ⟨no, hno⟩ : ∃ no, no = (occ m).length := ⟨_, rfl⟩
          rw [← hno] at ho1 hocc HI3 hfr3 ⊢
          have hAW : Away (fun b => b = w2.heap.size + 1) (.slice Ao no co) := fun b hb e => by
            have := hfr3 b hb
            simp only [World.size_alloc] at this
            omega
          have HAW := Lib.hid hAW; clear hAW hfr3
          have HNO := Lib.hid hno; clear hno
          clear c0 c1 c2 c3 c4 x0 x1
          obtain ⟨wo, hwo⟩ : ∃ wo, wo = wr := ⟨_, rfl⟩
          subst hwo
          go_loopg [8, 38] no (fun gk s q wy => ∃ j : Nat, j ≤ no ∧ gk = no - j ∧ q = .int .i64 j ∧ Keep (fun b => b = w2.heap.size + 1) w3 wy ∧ SOl wy (w2.heap.size + 1) s (nm m.op :: ((occ m).take j).map varB) ∧ (∀ b, s.ownBlock = some b → b = w2.heap.size + 1 ∨ w3.heap.size ≤ b))
          case atStart => exact ⟨0, Nat.zero_le _, rfl, rfl, Keep.refl _ _, HTW.out, fun b hb => .inl (by simp only [Value.ownBlock, Option.some.injEq] at hb; omega)⟩
          case round =>
            obtain ⟨j, hj, rfl, rfl, hby, hoy, hsy⟩ := hrel
            have HBY := Lib.hid hby; clear hby
            have HOY := Lib.hid hoy; clear hoy
            by_cases hjl : j < no
            · obtain ⟨x, hx⟩ : ∃ x, (occ m)[j]? = some x := ⟨(occ m)[j]'(by rw [← HNO.out]; exact hjl), List.getElem?_eq_getElem _⟩
              obtain ⟨Ao2, co2, e1, _, _, hcell⟩ := HI3.out.keep HAW.out HBY.out
              rw [← HNO.out] at e1 hcell
              cases e1
              obtain ⟨bo, oo, rfl, _, hcell⟩ := hcell (by omega)
              have hcx := hcell j x hx
              have HX := Lib.hid hx; clear hx hcell
              obtain ⟨L, hL⟩ : ∃ L, L = nm m.op :: ((occ m).take j).map varB := ⟨_, rfl⟩
              rw [← hL] at HOY
              have HL := Lib.hid hL; clear hL
              obtain ⟨A6, c6, rfl, r1, r2⟩ := HOY.out.shape
              have hx6 : 0 ≤ x ∧ x < 6 := formed_occ f HT.out.symm m (List.mem_of_getElem? HM.out) j x HX.out
              go_wp2_with (at_builtin; go_must (refine wpList_append_ssl rfl (.tmp 42) (.tmp 47) rfl (w2.heap.size + 1) _ L rfl (HOY.out.below (B' := wr.heap.size) (Below.alloc (Below.refl _ _) (Nat.le_refl _) _) (Nat.le_refl _)) _ [varB x] rfl (SOl.oneq (Row.new _ _ _) (var_cut hx6)).ssl (by rw [List.length_singleton, HL.out, List.length_cons, List.length_map, List.length_take]; omega) (by have := HBY.out.size; simp only [World.size_alloc]; omega) ?_; intro v4 w4 ho4 hg4 ht4))
              go_roundg (no - (j + 1))
              case rel =>
                refine ⟨j + 1, hjl, rfl, by go_num, (HBY.out.alloc _).grown hg4 (fun r hr => (hsy r hr).imp id id), by rw [← take_map_succ _ _ _ _ HX.out, ← HL.out]; exact ho4, fun r hr => ?_⟩
                rcases ht4 with h | h
                · exact hsy r (by rw [← hr]; exact h.symm)
                · rw [h] at hr
                  simp only [Option.some.injEq, World.size_alloc] at hr
                  have := HBY.out.size
                  omega
              case measure => omega
            · have hjn : j = no := by omega
              subst hjn
              obtain ⟨L, hL⟩ : ∃ L, L = nm m.op :: (occ m).map varB := ⟨_, rfl⟩
              rw [HNO.out, List.take_length, ← hL] at HOY
              have HL := Lib.hid hL; clear hL
              obtain ⟨A6, c6, rfl, r1, r2⟩ := HOY.out.shape
              have fr := (HBY.out.row HRF.out (by omega)).cell
              have HOp := Lib.hid (HO.out.below (HB3.out.trans (HBY.out.below (B := wo.heap.size) (by have := HB3.out.size; omega) (by intro k hk e; omega))) (Nat.le_refl _))
              obtain ⟨q, hq, hq2⟩ : ∃ q : Nat, nc m.op = q ∧ q ≤ st.length := ⟨(nc m.op).toNat, by rcases nc_cases m.op with h | h | h <;> omega, hst⟩
              have hat : Hid (fmtAt st m = st.length - q) := by unfold Hid fmtAt; rw [hq]; rfl
              rw [hq] at fr
              clear hst hq
              have hpc := HO.out.cases
              rcases hpc with ⟨e1, e2⟩ | ⟨gp, cp, e1, e2, e3, e4, e5⟩
              · subst e2
                cases e1
                have hq0 : q = 0 := by simp only [List.length_nil] at hq2; omega
                subst hq0
                simp only [List.length_nil, Nat.sub_zero] at hat
                simp only [Int.natCast_zero] at fr
                simp only [List.length_nil] at HO HOp hq2 q1 hbd
                go_wp2_with (at_builtin; go_must (refine wpList_append_ssl rfl (.tmp 55) (.tmp 58) rfl (w2.heap.size + 1) _ L rfl HOY.out _ ([] : List (List UInt8)) rfl (SSl.nil _) (by rw [HL.out, List.length_nil, List.length_cons, List.length_map]; have := HNO.out; omega) (by have := HBY.out.size; omega) ?_; intro v4 w4 ho4 hg4 ht4))
                have hb4 : Below wo.heap.size wo w4 := own_below_ssl (f := L) (HB3.out.trans (HBY.out.below (B := wo.heap.size) (by have := HB3.out.size; omega) (by intro k hk e; omega))) (HOY.out.mono (by omega)) hg4 (by have := HB3.out.size; have := HBY.out.size; omega)
                have HB4 := Lib.hid hb4
                have HOq := Lib.hid (HO.out.below hb4 (Nat.le_refl _)); clear hb4
                have hL2 : Hid (L ++ ([] : List (List UInt8)) = nm m.op :: (occ m).map varB ++ ([] : List (List UInt8))) := by unfold Hid; rw [HL.out]
                have hL3 : 0 < (L ++ ([] : List (List UInt8))).length := by rw [hL2.out]; simp
                generalize hG : L ++ ([] : List (List UInt8)) = L2 at *
                have HG := Lib.hid hG; clear hG
                rcases ho4.cases with ⟨_, e7⟩ | ⟨g4, c4, e6, e7, e8, e9, e10⟩
                · rw [e7] at hL3; simp at hL3
                · have HO4 := Lib.hid ho4; clear ho4
                  subst e6
                  have hle : (0 : Int) ≤ 0 := by omega
                  have hle0 : (0 : Int) ≤ (0 : Int) := by omega
                  have hjb : tot L2 + L2.length ≤ 1000000 := by
                    have h1 : tot L2 = (nm m.op).length + (occ m).length := by
                      rw [hL2.out]
                      unfold tot
                      rw [List.append_nil, List.map_cons, List.sum_cons, List.map_map]
                      have : ((occ m).map (List.length ∘ varB)).sum = (occ m).length := by
                        generalize occ m = l
                        induction l with
                        | nil => rfl
                        | cons a l ih => simp only [List.map_cons, List.sum_cons, ih, List.length_cons, Function.comp, varB, List.length_nil]; omega
                      omega
                    have h2 := nm_len m.op
                    have h3 := occ_len m
                    have h5 : L2.length = 1 + (occ m).length := by
                      rw [hL2.out]
                      simp only [List.append_nil, List.length_cons, List.length_map]
                      omega
                    omega
                  obtain ⟨RB, hRB⟩ : ∃ RB : ByteArray, RB = ⟨(Lib.join L2 [32]).toArray⟩ := ⟨_, rfl⟩
                  have hjoin : ∀ W, SSl W (.slice (some ⟨g4, 0, none⟩) L2.length c4) L2 → Calls Tryd.prog 63 #[.slice (some ⟨g4, 0, none⟩) L2.length c4, .string { data := #[32] }] W fun e w' => e = .returned (.string RB) ∧ Below W.heap.size W w' := fun W h => by
                    rw [hRB]; exact join_any _ L2 W h hL3 hjb
                  have hRBs : RB.size ≤ 2000000 := by
                    have h : RB.size = (Lib.join L2 [32]).length := by rw [hRB]; show (List.toArray _).size = _; simp
                    have := join_len L2
                    omega
                  have hlt1 : ¬ 9223372036854775807 < 1 + RB.size := by omega
                  have hlt2 : ¬ 9223372036854775807 < 1 + RB.size + 1 := by omega
                  have HJ := Lib.hid hjoin; have HRB := Lib.hid hRB; clear hjoin hRB hjb
                  go_region_law (first
                    | (go_simp; go_at_call 63; refine (HJ.out _ (HO4.out.below (B' := w4.heap.size) (by first | exact Below.refl _ _ | go_grown) (Nat.le_refl _)).ssl).mono ?_; rintro e w5 ⟨rfl, hb5⟩; have HB5 : Hid (Below w4.heap.size w4 w5) := ⟨hb5.os, hb5.tape, hb5.output, hb5.size, hb5.block⟩; clear hb5; try go_simp)
                    | (refine step_append_ssl rfl (.tmp 62) (.tmp 67) rfl w.heap.size _ ([] : List (List UInt8)) rfl (((HOq.out.below HB5.out (Nat.le_refl _)).below (B' := w5.heap.size) (by go_grown) (Nat.le_refl _)).front 0 (Nat.le_refl _)) _ [[40] ++ Lib.join L2 [32] ++ [41]] rfl (SOl.oneq (g := w5.heap.size) (by exact Row.new _ _ _) (str_parens HRB.out)).ssl (by simp) (by have h1 := HB.out.size; have h2 := HB4.out.size; have h3 := HB5.out.size; simp only [World.size_alloc, World.size_drew]; omega) ?_; intro v6 w6 ho6 hg6 ht6))
                  all_goals
                    go_wp2
                    go_roundg (n - (k + 1))
                    case rel =>
                      refine ⟨k + 1, hlt, rfl, by go_num, ?_, ?_⟩
                      · have hh : Below w.heap.size w w5 := (HB.out.trans (HB4.out.mono HB.out.size)).trans (HB5.out.mono (by have h1 := HB.out.size; have h2 := HB4.out.size; omega))
                        exact own_below_u (f := ([] : List (List UInt8))) hh (by go_grown) ((HOq.out.below HB5.out (Nat.le_refl _)).front 0 (Nat.le_refl _)) hg6 hh.size
                      · rw [HSK.out, E.out, hat.out, fmtNode, List.drop_nil, List.take_nil, ← hL2.out]
                        exact ho6
                    case measure => omega
              · cases e1
                by_cases hcq : c' = st.length - q
                · have hq0 : q = 0 := by omega
                  subst hq0
                  have hc0 : c' = st.length := by omega
                  subst hc0
                  clear hcq
                  simp only [Nat.sub_zero] at hat
                  simp only [Int.natCast_zero] at fr
                  go_wp2_with (at_builtin; go_must (refine wpList_append_ssl rfl (.tmp 55) (.tmp 58) rfl (w2.heap.size + 1) _ L rfl HOY.out _ (st.drop st.length) rfl (HOp.out.ssl.backg st.length (Nat.le_refl _) _ _ _ (by simp) (fun h => absurd h (by simp)) (by omega) (by omega)) (by rw [HL.out, List.length_drop, List.length_cons, List.length_map]; have := HNO.out; omega) (by have := HBY.out.size; omega) ?_; intro v4 w4 ho4 hg4 ht4))
                  have hb4 : Below wo.heap.size wo w4 := own_below_ssl (f := L) (HB3.out.trans (HBY.out.below (B := wo.heap.size) (by have := HB3.out.size; omega) (by intro k hk e; omega))) (HOY.out.mono (by omega)) hg4 (by have := HB3.out.size; have := HBY.out.size; omega)
                  have HB4 := Lib.hid hb4
                  have HOq := Lib.hid (HO.out.below hb4 (Nat.le_refl _)); clear hb4
                  have hL2 : Hid (L ++ st.drop st.length = nm m.op :: (occ m).map varB ++ st.drop st.length) := by unfold Hid; rw [HL.out]
                  have hL3 : 0 < (L ++ st.drop st.length).length := by rw [hL2.out]; simp
                  generalize hG : L ++ st.drop st.length = L2 at *
                  have HG := Lib.hid hG; clear hG
                  rcases ho4.cases with ⟨_, e7⟩ | ⟨g4, c4, e6, e7, e8, e9, e10⟩
                  · rw [e7] at hL3; simp at hL3
                  · have HO4 := Lib.hid ho4; clear ho4
                    subst e6
                    have hle : (st.length : Int) ≤ st.length := by omega
                    have hle0 : (0 : Int) ≤ (st.length : Int) := by omega
                    have hjb : tot L2 + L2.length ≤ 1000000 := by
                      have h1 : tot L2 = (nm m.op).length + (occ m).length + tot (st.drop st.length) := by
                        rw [hL2.out]
                        unfold tot
                        rw [List.map_append, List.sum_append, List.map_cons, List.sum_cons, List.map_map]
                        have : ((occ m).map (List.length ∘ varB)).sum = (occ m).length := by
                          generalize occ m = l
                          induction l with
                          | nil => rfl
                          | cons a l ih => simp only [List.map_cons, List.sum_cons, ih, List.length_cons, Function.comp, varB, List.length_nil]; omega
                        omega
                      have h2 := nm_len m.op
                      have h3 := occ_len m
                      have h4 : tot (st.drop st.length) ≤ tot st := by
                        have h : tot st = tot (st.take st.length) + tot (st.drop st.length) := by
                          unfold tot
                          rw [← List.sum_append, ← List.map_append, List.take_append_drop]
                        omega
                      have h5 : L2.length = 1 + (occ m).length := by
                        rw [hL2.out]
                        simp only [List.length_append, List.length_cons, List.length_map, List.length_drop]
                        omega
                      omega
                    obtain ⟨RB, hRB⟩ : ∃ RB : ByteArray, RB = ⟨(Lib.join L2 [32]).toArray⟩ := ⟨_, rfl⟩
                    have hjoin : ∀ W, SSl W (.slice (some ⟨g4, 0, none⟩) L2.length c4) L2 → Calls Tryd.prog 63 #[.slice (some ⟨g4, 0, none⟩) L2.length c4, .string { data := #[32] }] W fun e w' => e = .returned (.string RB) ∧ Below W.heap.size W w' := fun W h => by
                      rw [hRB]; exact join_any _ L2 W h hL3 hjb
                    have hRBs : RB.size ≤ 2000000 := by
                      have h : RB.size = (Lib.join L2 [32]).length := by rw [hRB]; show (List.toArray _).size = _; simp
                      have := join_len L2
                      omega
                    have hlt1 : ¬ 9223372036854775807 < 1 + RB.size := by omega
                    have hlt2 : ¬ 9223372036854775807 < 1 + RB.size + 1 := by omega
                    have HJ := Lib.hid hjoin; have HRB := Lib.hid hRB; clear hjoin hRB hjb
                    go_region_law (first
                      | (go_simp; go_at_call 63; refine (HJ.out _ (HO4.out.below (B' := w4.heap.size) (by first | exact Below.refl _ _ | go_grown) (Nat.le_refl _)).ssl).mono ?_; rintro e w5 ⟨rfl, hb5⟩; have HB5 : Hid (Below w4.heap.size w4 w5) := ⟨hb5.os, hb5.tape, hb5.output, hb5.size, hb5.block⟩; clear hb5; try go_simp)
                      | (refine step_append_ssl rfl (.tmp 62) (.tmp 67) rfl w.heap.size _ (st.take st.length) rfl (((HOq.out.below HB5.out (Nat.le_refl _)).below (B' := w5.heap.size) (by go_grown) (Nat.le_refl _)).front st.length (by omega)) _ [[40] ++ Lib.join L2 [32] ++ [41]] rfl (SOl.oneq (g := w5.heap.size) (by exact Row.new _ _ _) (str_parens HRB.out)).ssl (by rw [List.length_take, List.length_singleton]; omega) (by have h1 := HB.out.size; have h2 := HB4.out.size; have h3 := HB5.out.size; simp only [World.size_alloc, World.size_drew]; omega) ?_; intro v6 w6 ho6 hg6 ht6))
                    all_goals
                      go_wp2
                      go_roundg (n - (k + 1))
                      case rel =>
                        refine ⟨k + 1, hlt, rfl, by go_num, ?_, ?_⟩
                        · have hh : Below w.heap.size w w5 := (HB.out.trans (HB4.out.mono HB.out.size)).trans (HB5.out.mono (by have h1 := HB.out.size; have h2 := HB4.out.size; omega))
                          exact own_below_u (f := st.take st.length) hh (by go_grown) ((HOq.out.below HB5.out (Nat.le_refl _)).front st.length (by omega)) hg6 hh.size
                        · rw [HSK.out, E.out, hat.out, fmtNode, ← hL2.out]
                          exact ho6
                      case measure => omega
                · go_wp2_with (at_builtin; go_must (refine wpList_append_ssl rfl (.tmp 55) (.tmp 58) rfl (w2.heap.size + 1) _ L rfl HOY.out _ (st.drop (st.length - q)) rfl (HOp.out.ssl.backg (st.length - q) (by omega) _ _ _ rfl (fun _ => by simp) (by omega) (by omega)) (by rw [HL.out, List.length_drop, List.length_cons, List.length_map]; have := HNO.out; omega) (by have := HBY.out.size; omega) ?_; intro v4 w4 ho4 hg4 ht4))
                  have hb4 : Below wo.heap.size wo w4 := own_below_ssl (f := L) (HB3.out.trans (HBY.out.below (B := wo.heap.size) (by have := HB3.out.size; omega) (by intro k hk e; omega))) (HOY.out.mono (by omega)) hg4 (by have := HB3.out.size; have := HBY.out.size; omega)
                  have HB4 := Lib.hid hb4
                  have HOq := Lib.hid (HO.out.below hb4 (Nat.le_refl _)); clear hb4
                  have hL2 : Hid (L ++ st.drop (st.length - q) = nm m.op :: (occ m).map varB ++ st.drop (st.length - q)) := by unfold Hid; rw [HL.out]
                  have hL3 : 0 < (L ++ st.drop (st.length - q)).length := by rw [hL2.out]; simp
                  generalize hG : L ++ st.drop (st.length - q) = L2 at *
                  have HG := Lib.hid hG; clear hG
                  rcases ho4.cases with ⟨_, e7⟩ | ⟨g4, c4, e6, e7, e8, e9, e10⟩
                  · rw [e7] at hL3; simp at hL3
                  · have HO4 := Lib.hid ho4; clear ho4
                    subst e6
                    have hle : (st.length : Int) - q ≤ c' := by omega
                    have hle0 : (0 : Int) ≤ (st.length : Int) - q := by omega
                    have hjb : tot L2 + L2.length ≤ 1000000 := by
                      have h1 : tot L2 = (nm m.op).length + (occ m).length + tot (st.drop (st.length - q)) := by
                        rw [hL2.out]
                        unfold tot
                        rw [List.map_append, List.sum_append, List.map_cons, List.sum_cons, List.map_map]
                        have : ((occ m).map (List.length ∘ varB)).sum = (occ m).length := by
                          generalize occ m = l
                          induction l with
                          | nil => rfl
                          | cons a l ih => simp only [List.map_cons, List.sum_cons, ih, List.length_cons, Function.comp, varB, List.length_nil]; omega
                        omega
                      have h2 := nm_len m.op
                      have h3 := occ_len m
                      have h4 : tot (st.drop (st.length - q)) ≤ tot st := by
                        have h : tot st = tot (st.take (st.length - q)) + tot (st.drop (st.length - q)) := by
                          unfold tot
                          rw [← List.sum_append, ← List.map_append, List.take_append_drop]
                        omega
                      have h5 : L2.length = 1 + (occ m).length + q := by
                        rw [hL2.out]
                        simp only [List.length_append, List.length_cons, List.length_map, List.length_drop]
                        omega
                      omega
                    obtain ⟨RB, hRB⟩ : ∃ RB : ByteArray, RB = ⟨(Lib.join L2 [32]).toArray⟩ := ⟨_, rfl⟩
                    have hjoin : ∀ W, SSl W (.slice (some ⟨g4, 0, none⟩) L2.length c4) L2 → Calls Tryd.prog 63 #[.slice (some ⟨g4, 0, none⟩) L2.length c4, .string { data := #[32] }] W fun e w' => e = .returned (.string RB) ∧ Below W.heap.size W w' := fun W h => by
                      rw [hRB]; exact join_any _ L2 W h hL3 hjb
                    have hRBs : RB.size ≤ 2000000 := by
                      have h : RB.size = (Lib.join L2 [32]).length := by rw [hRB]; show (List.toArray _).size = _; simp
                      have := join_len L2
                      omega
                    have hlt1 : ¬ 9223372036854775807 < 1 + RB.size := by omega
                    have hlt2 : ¬ 9223372036854775807 < 1 + RB.size + 1 := by omega
                    have HJ := Lib.hid hjoin; have HRB := Lib.hid hRB; clear hjoin hRB hjb
                    go_region_law (first
                      | (go_simp; go_at_call 63; refine (HJ.out _ (HO4.out.below (B' := w4.heap.size) (by first | exact Below.refl _ _ | go_grown) (Nat.le_refl _)).ssl).mono ?_; rintro e w5 ⟨rfl, hb5⟩; have HB5 : Hid (Below w4.heap.size w4 w5) := ⟨hb5.os, hb5.tape, hb5.output, hb5.size, hb5.block⟩; clear hb5; try go_simp)
                      | (refine step_append_ssl rfl (.tmp 62) (.tmp 67) rfl w.heap.size _ (st.take (st.length - q)) rfl (((HOq.out.below HB5.out (Nat.le_refl _)).below (B' := w5.heap.size) (by go_grown) (Nat.le_refl _)).front (st.length - q) (by omega)) _ [[40] ++ Lib.join L2 [32] ++ [41]] rfl (SOl.oneq (g := w5.heap.size) (by exact Row.new _ _ _) (str_parens HRB.out)).ssl (by rw [List.length_take, List.length_singleton]; omega) (by have h1 := HB.out.size; have h2 := HB4.out.size; have h3 := HB5.out.size; simp only [World.size_alloc, World.size_drew]; omega) ?_; intro v6 w6 ho6 hg6 ht6))
                    all_goals
                      go_wp2
                      go_roundg (n - (k + 1))
                      case rel =>
                        refine ⟨k + 1, hlt, rfl, by go_num, ?_, ?_⟩
                        · have hh : Below w.heap.size w w5 := (HB.out.trans (HB4.out.mono HB.out.size)).trans (HB5.out.mono (by have h1 := HB.out.size; have h2 := HB4.out.size; omega))
                          exact own_below_u (f := st.take (st.length - q)) hh (by go_grown) ((HOq.out.below HB5.out (Nat.le_refl _)).front (st.length - q) (by omega)) hg6 hh.size
                        · rw [HSK.out, E.out, hat.out, fmtNode, ← hL2.out]
                          exact ho6
                      case measure => omega
      · obtain ⟨tr, -, -, hst⟩ := formed_text f HT.out.symm
        have hkn : k = n := by omega
        subst hkn
        rw [HN.out, hst] at ho
        obtain ⟨A', c', rfl, _, _, h4⟩ := ho.ssl
        obtain ⟨b', o', rfl, hb', h5⟩ := h4 (by simp)
        have h6 := h5 0 _ rfl
        have HST := Lib.hid hst; clear hst
        simp only [List.length_singleton, Nat.add_zero] at h6 ⊢
        go_wp2
        go_returns
        rw [← HN.out] at HST
        exact ⟨by rw [HR.out, HST.out]; rfl, HB.out⟩
end Go.Proofs.YtcjblbhmajdmjaaDoor
