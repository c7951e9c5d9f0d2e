/- Part 19 of the proof; it says: lemmas and contracts. No conditions but those that each theorem states. -/
import Derived.BigRegion
import Derived.BigQuiet
import Derived.Test.YthkfjnmnoanhlaaGreatDoorMt01
import Derived.Test.YthkfjnmnoanhlaaGreatDoorMt09
set_option linter.unusedSimpArgs false
set_option linter.unusedVariables false
set_option maxRecDepth 100000
set_option maxHeartbeats 32000000
namespace Go.Proofs.YthkfjnmnoanhlaaGreatDoor
open Go.RowKit
theorem zbc {Q : Exit -> Act -> World -> Prop} {x : Exit} {a : Act} {w : World} (F : World -> Prop) (hF : F w) (hk : ∀ W, F W -> Q x a W) : Q x a w := hk w hF
theorem zil {o : List Nat} {s : Nat} : zc4 (oI o) s < 0 ↔ s ∉ o := by
 unfold zc4
 by_cases h : (s : Int) ∈ oI o
 ·rw [if_pos h]
  constructor
  ·intro h1; omega
  ·intro h1
   obtain ⟨a, ha, e⟩ := List.mem_map.1 h
   exact absurd (by have : a = s := (by omega); rw [<- this]; exact ha) h1
 ·rw [if_neg h]
  constructor
  ·intro _ h1; exact h (List.mem_map.2 ⟨s, h1, rfl⟩)
  ·intro _; omega
theorem zfh {o : List Nat} {i a s : Nat} (h : o[i]? = some a) : (addS o s)[i]? = some a := by
 obtain ⟨t, ht⟩ := zbo o s
 rw [<- ht, List.getElem?_append_left (List.getElem?_eq_some_iff.1 h).1]; exact h
structure VisI (w : World) (V E : Nat) (vn vf : Value) (o : List Nat) (q3 : Value) (W : World) : Prop where
 below : Below w.heap.size w W
 row : Row W w.heap.size 25 #[.int .i64 (V : Int), .int .i64 (E : Int), vn, vf]
 own : O1 W w.heap.size q3 (oI o)
theorem VisI.to {w W X : World} {V E : Nat} {vn vf q3 : Value} {o : List Nat} (h : VisI w V E vn vf o q3 W) (hb : Below W.heap.size W X) : VisI w V E vn vf o q3 X :=
 ⟨h.below.trans (hb.mono h.below.size), h.row.below hb h.row.lt, VO.below h.own hb zn⟩
theorem VisI.at {w W : World} {V E : Nat} {vn vf : Value} {o : List Nat} {A : Option Addr} {m c : Nat} (h : VisI w V E vn vf o (.slice A m c) W) {i a : Nat} (ha : o[i]? = some a) : ∃ g, A = some ⟨g, 0, none⟩ /\ W.cell? ⟨g, i, none⟩ = some (.int .i64 (a : Int)) := by
 obtain ⟨g, cap, cs, he, _, _, _, _, hc⟩ := VO.row h.own (by rw [zah, zai]; have := (List.getElem?_eq_some_iff.1 ha).1; omega)
 simp only [Value.slice.injEq] at he
 exact ⟨g, he.1, hc i _ (iL_at (oI_at ha))⟩
theorem zjm (d : Dta) (V : Nat) (hd : d.Fit V) (va : Value) (w : World) (hva : TD w va (d.raw V)) :
  Calls Tryz.prog 100 #[va] w fun e w' => ∃ A c, e = .returned (.slice A d.order.length c) /\ Below w.heap.size w w' /\ O1 w' w.heap.size (.slice A d.order.length c) (oI d.order) := by
 obtain ⟨vn, vf, rfl, hnn, hff⟩ := hva
 have hvars : (d.raw V).vars = (V : Int) := rfl
 have hemp : (d.raw V).empty = (d.e : Int) := rfl
 rw [hvars, hemp]
 obtain ⟨b3, o3, c3, hN⟩ := (show N3 w vn (nx3 d.n d.L d.nx) from hnn).nx hd.pos hd.L8.1
 obtain rfl := hN.form
 obtain ⟨Af, cf, rfl, _⟩ := (show NB w vf ((List.range d.n).map d.fin) from hff).open
 obtain ⟨m2, hm2⟩ := zx (((List.range d.n).map d.fin).length)
 rw [<- hm2]
 have hsh := za5 V hd.v3
 rw [<- hd.L] at hsh
 have hv3 := hd.v3
 have hv3i : (V : Int) <= 3 := by omega
 have hn64 := hd.n64; have hL8 := hd.L8.2; have hpos := hd.pos; have he0 := hd.ok.he
 have HD := zh hd.ok; have HN := zh hN.at3; have hcap := hN.cap
 have h00 : Hid (ExplI d [d.e] 0) := ExplI.start hd.ok
 clear hnn hff hvars hemp hm2 hN hd
 obtain ⟨L, hL⟩ := zx d.L
 obtain ⟨N, hNN⟩ := zx d.n
 obtain ⟨E, hE⟩ := zx d.e
 rw [<- hL] at hsh hL8 HN
 rw [<- hNN] at hn64 hpos he0 HN hcap ⊢
 rw [<- hE] at h00 he0 ⊢
 have HL := zh hL; have HNE := zh hNN
 clear hL hNN hE
 obtain ⟨hcp1, hcp2⟩ := hcap
 go_enter Tryz.func100, Tryz.ntmps100
 go_wp2
 refine zab (fun X => ∃ g, g = w.heap.size + 1 /\ VisI w V E (.slice (some ⟨b3, o3, none⟩) N c3) (.slice Af m2 cf) [E] (.slice (some ⟨g, 0, none⟩) 1 1) X) ⟨_, rfl, by go_grown, (Row.new _ _ _).alloc _, by
  have := VO.lit (E := 3) (w := w.alloc (.cells #[.int .i64 (V : Int), .int .i64 (E : Int), .slice (some ⟨b3, o3, none⟩) N c3, .slice Af m2 cf] 25)) (n := 1) [.int .i64 (E : Int)] rfl (by omega) (by simp [Value.oneCell'])
  exact VO.mono (by simpa [oI, iL] using this) (by simp)⟩ ?_
 rintro W0 ⟨g0, hg0, hI⟩
 rw [<- hg0]
 have HI := zh hI
 clear hI hg0
 go_loopg [3, 4] (N + 1) (fun gk q3 q4 wr => ∃ (o : List Nat) (k : Nat), gk = N + 1 - k /\ q4 = .int .i64 k /\ ExplI d o k /\ VisI w V E (.slice (some ⟨b3, o3, none⟩) N c3) (.slice Af m2 cf) o q3 wr)
 case atStart => exact ⟨[E], 0, by omega, rfl, h00.out, HI.out⟩
 case round =>
  clear HI
  obtain ⟨o, k, rfl, rfl, he, hi⟩ := hrel
  obtain ⟨m, hm⟩ := zx o.length
  obtain ⟨A3, ca3, rfl⟩ := VO.formN (n := m) hi.own (by rw [zah, zai, hm])
  have hmn : m <= N := by rw [hm, HNE.out]; exact he.len
  have HE := zh he; have HM := zh hm; have HI := zh hi
  clear he hm hi
  by_cases hlt : k < m
  ·have HR := zh (HE.out.round (by rw [<- HM.out]; exact hlt))
   have hlti : (k : Int) < (m : Int) := by omega
   have hk64 : k < 64 := by omega
   clear HE
   go_wp2
   go_loopg [3, 5] (k + 1) (fun gk q3 q5 wr => ∃ (o : List Nat) (j : Nat), j <= k + 1 /\ gk = k + 1 - j /\ q5 = .int .i64 j /\ ExplR d k (trJ d.L k j) o /\ VisI w V E (.slice (some ⟨b3, o3, none⟩) N c3) (.slice Af m2 cf) o q3 wr)
   case atStart => exact ⟨o, 0, by omega, rfl, rfl, HR.out, HI.out⟩
   case round =>
    clear HM HI HR hmn hlt hlti
    obtain ⟨o, j, hj, rfl, rfl, hr, hi⟩ := hrel
    obtain ⟨wl, hwl⟩ := zx wr
    subst hwl
    obtain ⟨m, hm⟩ := zx o.length
    obtain ⟨A3, ca3, rfl⟩ := VO.formN (n := m) hi.own (by rw [zah, zai, hm])
    have hmn : m <= N := by rw [hm, HNE.out]; exact hr.len
    have hkm : k < m := by rw [hm]; exact hr.k
    have HM := zh hm
    by_cases hjk : j <= k
    ·obtain ⟨a, ha⟩ : ∃ a, o[j]? = some a := ⟨_, List.getElem?_eq_getElem (by omega)⟩
     obtain ⟨b, hb⟩ : ∃ b, o[k]? = some b := ⟨_, List.getElem?_eq_getElem (by omega)⟩
     obtain ⟨go, rfl, ca⟩ := hi.at ha
     obtain ⟨go2, e2, cb⟩ := hi.at hb
     simp only [Option.some.injEq, Addr.mk.injEq, and_true] at e2
     obtain rfl := e2
     rw [zks hjk] at hr
     have HR := zh hr; have HI := zh hi; have HA := zh ha; have HBB := zh hb
     have hjm : (j : Int) < (m : Int) := by omega
     have hkmi : (k : Int) < (m : Int) := by omega
     have hjki : (j : Int) <= (k : Int) := by omega
     clear hr hi ha hb hm
     go_upto_region 8 with fail
     first | go_region | fail
     refine zbc (fun X => ∃ g, g = wl.heap.size /\ VisI w V E (.slice (some ⟨b3, o3, none⟩) N c3) (.slice Af m2 cf) o (.slice (some ⟨go, 0, none⟩) m ca3) X /\ Row X g 26 #[.int .i64 (a : Int), .int .i64 (b : Int), .int .i64 (b : Int), .int .i64 (a : Int)]) ⟨_, rfl, HI.out.to (by go_grown), by first | exact Row.litd rfl | exact Row.new _ _ _ | exact Row.lit rfl⟩ ?_
     rintro w1 ⟨gq, hgq, hi, hrow⟩
     rw [<- hgq]
     clear HI ca cb hgq hjm hkmi
     have HI := zh hi; have HROW := zh hrow
     clear hi hrow
     go_wp2
     go_loopg [3, 7] 2 (fun gk q3 q7 wr => ∃ (o : List Nat) (p : Nat), p <= 2 /\ gk = 2 - p /\ q7 = .int .i64 p /\
      (p = 0 -> ExplR d k (trX d.L j k 0 ++ (trX d.L k j 0 ++ trJ d.L k (j + 1))) o) /\ (p = 1 -> ExplR d k (trX d.L k j 0 ++ trJ d.L k (j + 1)) o) /\ (p = 2 -> ExplR d k (trJ d.L k (j + 1)) o) /\ o[j]? = some a /\ o[k]? = some b /\ VisI w V E (.slice (some ⟨b3, o3, none⟩) N c3) (.slice Af m2 cf) o q3 wr /\ Row wr gq 26 #[.int .i64 (a : Int), .int .i64 (b : Int), .int .i64 (b : Int), .int .i64 (a : Int)])
     case atStart => exact ⟨o, 0, by omega, rfl, rfl, fun _ => HR.out, fun h => by omega, fun h => by omega, HA.out, HBB.out, HI.out, HROW.out⟩
     case round =>
      clear HM HI HR HROW HA HBB hmn hkm
      obtain ⟨o, p, hp, rfl, rfl, hr0, hr1, hr2, ha, hb, hi, hrow⟩ := hrel
      obtain ⟨wp, hwp⟩ := zx wr
      subst hwp
      obtain ⟨m, hm⟩ := zx o.length
      obtain ⟨A3, ca3, rfl⟩ := VO.formN (n := m) hi.own (by rw [zah, zai, hm])
      have hp3 : p = 2 \/ p < 2 := by omega
      rcases hp3 with rfl | hp2
      ·have HR := zh (hr2 rfl); have HI := zh hi
       clear hr0 hr1 hr2 hi hrow ha hb hm
       go_wp2
       go_roundg (k + 1 - (j + 1))
       case rel => exact ⟨o, j + 1, by omega, rfl, by go_num, HR.out, HI.out⟩
       case measure => omega
      ·obtain ⟨l, r, x0, z0, rest, hol, hor, HRC, HR, HNX⟩ : ∃ (l r x0 z0 : Nat) (rest : List (Nat × Nat × Nat)), o[l]? = some x0 /\ o[r]? = some z0 /\ Hid (∀ X, Row X gq 26 #[.int .i64 (a : Int), .int .i64 (b : Int), .int .i64 (b : Int), .int .i64 (a : Int)] -> X.cell? ⟨gq, p * 2, none⟩ = some (.int .i64 (x0 : Int)) /\ X.cell? ⟨gq, p * 2 + 1, none⟩ = some (.int .i64 (z0 : Int))) /\ Hid (ExplR d k (trX d.L l r 0 ++ rest) o) /\
         Hid (∀ o', ExplR d k rest o' -> (p + 1 = 0 -> ExplR d k (trX d.L j k 0 ++ (trX d.L k j 0 ++ trJ d.L k (j + 1))) o') /\ (p + 1 = 1 -> ExplR d k (trX d.L k j 0 ++ trJ d.L k (j + 1)) o') /\ (p + 1 = 2 -> ExplR d k (trJ d.L k (j + 1)) o')) := by
        have hp01 : p = 0 \/ p = 1 := by omega
        rcases hp01 with rfl | rfl
        ·exact ⟨j, k, a, b, _, ha, hb, fun X h => ⟨(h.cell 0).trans rfl, (h.cell 1).trans rfl⟩, hr0 rfl, fun o' h => ⟨fun h => by omega, fun _ => h, fun h => by omega⟩⟩
        ·exact ⟨k, j, b, a, _, hb, ha, fun X h => ⟨(h.cell 2).trans rfl, (h.cell 3).trans rfl⟩, hr1 rfl, fun o' h => ⟨fun h => by omega, fun h => by omega, fun _ => h⟩⟩
       have HI := zh hi; have HROW := zh hrow; have HA := zh ha; have HBB := zh hb; have HOL := zh hol; have HOR := zh hor
       have hp2i : (p : Int) < 2 := by omega
       clear hr0 hr1 hr2 hi hrow ha hb hol hor hm
       go_wp2
       go_loopg [3, 8] L (fun gk q3 q8 wr => ∃ (o : List Nat) (x : Nat), x <= L /\ gk = L - x /\ q8 = .int .i64 x /\ ExplR d k (trX d.L l r x ++ rest) o /\ o[l]? = some x0 /\ o[r]? = some z0 /\ o[j]? = some a /\ o[k]? = some b /\ VisI w V E (.slice (some ⟨b3, o3, none⟩) N c3) (.slice Af m2 cf) o q3 wr /\ Row wr gq 26 #[.int .i64 (a : Int), .int .i64 (b : Int), .int .i64 (b : Int), .int .i64 (a : Int)])
       case atStart => exact ⟨o, 0, by omega, rfl, rfl, HR.out, HOL.out, HOR.out, HA.out, HBB.out, HI.out, HROW.out⟩
       case round =>
        clear HI HR HROW HA HBB HOL HOR
        obtain ⟨o, x, hx, rfl, rfl, hr, hol, hor, ha, hb, hi, hrow⟩ := hrel
        obtain ⟨wx, hwx⟩ := zx wr
        subst hwx
        obtain ⟨m, hm⟩ := zx o.length
        obtain ⟨A3, ca3, rfl⟩ := VO.formN (n := m) hi.own (by rw [zah, zai, hm])
        have hmn : m <= N := by rw [hm, HNE.out]; exact hr.len
        by_cases hxl : x < L
        ·have hxli : (x : Int) < (L : Int) := by omega
         rw [zhc (by rw [<- HL.out]; exact hxl), List.cons_append] at hr
         have hst := hr.step HD.out (by rw [<- HL.out]; exact hxl) hol hor
         have hx0 : x0 < N := by rw [HNE.out]; exact hr.lt _ (List.mem_of_getElem? hol)
         have hz0 : z0 < N := by rw [HNE.out]; exact hr.lt _ (List.mem_of_getElem? hor)
         obtain ⟨s, hs⟩ := zx (d.nx x0 z0 x)
         obtain ⟨b2, o2, c2, b1, o1, c1, e1, e2, e3, e4, e5, e6, e7, e8⟩ := HN.out x0 z0 x hx0 hz0 hxl
         rw [<- hs] at hst e8
         rw [<- hi.below.cell (p := ⟨b3, _, none⟩) e1] at e2
         rw [<- hi.below.cell (p := ⟨b2, _, none⟩) e4] at e5
         rw [<- hi.below.cell (p := ⟨b1, _, none⟩) e7] at e8
         have hx0i : (x0 : Int) < (N : Int) := by omega
         have hz0i : (z0 : Int) < (N : Int) := by omega
         obtain ⟨rc0, rc1⟩ := HRC.out _ hrow
         have y0 := hi.row.cell
         have HST := zh hst; have HI := zh hi; have HROW := zh hrow; have HA := zh ha; have HBB := zh hb; have HOL := zh hol; have HOR := zh hor; have HM := zh hm
         clear hr hst hi hrow ha hb hol hor hs hm
         go_upto_region 15 with fail
         first | go_region | fail
         clear e2 e5 e8 rc0 rc1 y0
         refine zbc (fun X => VisI w V E (.slice (some ⟨b3, o3, none⟩) N c3) (.slice Af m2 cf) o (.slice A3 m ca3) X /\ Row X gq 26 #[.int .i64 (a : Int), .int .i64 (b : Int), .int .i64 (b : Int), .int .i64 (a : Int)]) ⟨HI.out.to (by go_grown), HROW.out.below (Below.refl wx.heap.size wx).drew HROW.out.lt⟩ ?_
         clear HI HROW
         rintro w2 ⟨hi, hrow⟩
         have HI := zh hi; have HROW := zh hrow
         clear hi hrow
         obtain ⟨pz, hpz⟩ := zx (zc4 (oI o) (s : Int))
         have PL := zh (zn6 (oI o) (s : Int) _ w2 HI.out.own.n1)
         rw [<- hpz] at PL
         by_cases hin : s ∈ o
         ·have hz : ¬ pz < 0 := by rw [hpz, zil]; simpa using hin
          have hadd : addS o s = o := by unfold addS; rw [if_pos hin]
          rw [hadd] at HST
          clear hpz hin hadd
          go_wp2_with (go_at_call 133; refine PL.out.mono ?_; rintro ee wy ⟨rfl, rfl⟩)
          go_roundg (L - (x + 1))
          case rel => exact ⟨o, x + 1, by omega, rfl, by go_num, HST.out, HOL.out, HOR.out, HA.out, HBB.out, HI.out, HROW.out⟩
          case measure => omega
         ·have hz : pz < 0 := by rw [hpz, zil]; exact hin
          have hadd : addS o s = o ++ [s] := by unfold addS; rw [if_neg hin]
          have HL2 := zh (zfh (s := s) HOL.out); have HR2 := zh (zfh (s := s) HOR.out); have HA2 := zh (zfh (s := s) HA.out); have HB2 := zh (zfh (s := s) HBB.out)
          rw [hadd] at HST HL2 HR2 HA2 HB2
          clear hpz hin hadd HOL HOR HA HBB
          go_wp2_with (first
           | (at_builtin; refine zaa eI rfl (.tmp 77) (.tmp 79) rfl w.heap.size _ _ rfl (VO.allocd HI.out.own _) _ [.int .i64 (s : Int)] rfl (VS.one (Row.new _ _ _)) (by intro u hu; simp at hu; subst hu; rfl) (by rw [zah, zai, <- HM.out]; simp; omega) (by have := HI.out.below.size; simp only [World.size_alloc]; omega) ?_; intro v4 w4 ho4 hg4 _; obtain ⟨A4, c4, rfl⟩ := VO.formN (n := m + 1) ho4 (by rw [List.length_append, zah, zai, <- HM.out]; rfl); have HO4 := zh ho4; have HG4 := zh hg4; clear ho4 hg4)
           | (go_at_call 133; refine PL.out.mono ?_; rintro ee wy ⟨rfl, rfl⟩))
          have hIN : Hid (VisI w V E (.slice (some ⟨b3, o3, none⟩) N c3) (.slice Af m2 cf) (o ++ [s]) (.slice A4 (m + 1) c4) w4) := ⟨zaf (w := w) (HI.out.below.alloc (by have := HI.out.below.size; omega) _) (VO.allocd HI.out.own _) HG4.out (by have := HI.out.below.size; simp only [World.size_alloc]; omega), (HI.out.row.alloc _).far_own (by decide) (VO.allocd HI.out.own _).2 HG4.out, by have := HO4.out; rw [<- zb4, <- zdc] at this; exact this⟩
          have hRN : Hid (Row w4 gq 26 #[.int .i64 (a : Int), .int .i64 (b : Int), .int .i64 (b : Int), .int .i64 (a : Int)]) := (HROW.out.alloc _).far_own (by decide) (VO.allocd HI.out.own _).2 HG4.out
          go_roundg (L - (x + 1))
          case rel => exact ⟨o ++ [s], x + 1, by omega, rfl, by go_num, HST.out, HL2.out, HR2.out, HA2.out, HB2.out, hIN.out, hRN.out⟩
          case measure => omega
        ·obtain rfl : x = L := by omega
         rw [zjn (by rw [<- HL.out]; exact zn), List.nil_append] at hr
         have HN2 := zh (HNX.out o hr)
         have y0 := hi.row.cell
         have HI := zh hi; have HROW := zh hrow; have HA := zh ha; have HBB := zh hb
         clear hr hi hrow ha hb hol hor hm
         go_wp2
         go_roundg (2 - (p + 1))
         case rel => exact ⟨o, p + 1, by omega, rfl, by go_num, HN2.out.1, HN2.out.2.1, HN2.out.2.2, HA.out, HBB.out, HI.out, HROW.out⟩
         case measure => omega
    ·have hj2 : j = k + 1 := by omega
     rw [hj2, zne (by omega)] at hr
     have HR := zh hr.next; have HI := zh hi
     have hjki : ¬ (j : Int) <= (k : Int) := by omega
     clear hr hi hm hj2
     go_wp2
     go_roundg (N + 1 - (k + 1))
     case rel => exact ⟨o, k + 1, rfl, by go_num, HR.out, HI.out⟩
     case measure => omega
  ·have ho := HE.out.done (by rw [<- HM.out]; exact hlt)
   have hlti : ¬ (k : Int) < (m : Int) := by omega
   have hmo : m = d.order.length := by rw [HM.out, ho]
   rw [ho] at HI
   have HMO := zh hmo
   clear ho hmo
   go_wp2
   go_returns
   rw [<- HMO.out]
   exact ⟨A3, ca3, rfl, HI.out.below, HI.out.own⟩
theorem own19 (d : Dta) (V : Nat) (hd : d.Fit V) (va : Value) (w : World) (hva : TD w va (d.raw V)) :
  Calls Tryz.prog 101 #[va] w fun e w' => ∃ A c, e = .returned (.slice A d.n c) /\ Below w.heap.size w w' /\ O1 w' w.heap.size (.slice A d.n c) (oI (List.range d.n)) := by
 obtain ⟨vn, vf, rfl, hnn, hff⟩ := hva
 have hvars : (d.raw V).vars = (V : Int) := rfl
 have hemp : (d.raw V).empty = (d.e : Int) := rfl
 rw [hvars, hemp]
 obtain ⟨b3, o3, c3, rfl, hcp1, hcp2, hLV⟩ := (show N3 w vn (nx3 d.n d.L d.nx) from hnn).lv hd.pos hd.L8.1
 obtain ⟨bk, ok, ck, rfl, hk1, hbk, hk2⟩ := (show NB w vf ((List.range d.n).map d.fin) from hff).at hd.pos
 have hsh := za5 V hd.v3
 rw [<- hd.L] at hsh
 have hv3i : (V : Int) <= 3 := by have := hd.v3; omega
 have hn64 := hd.n64; have hL8 := hd.L8.2; have hpos := hd.pos
 have HD := zh hd.ok; have HLV := zh hLV; have HK2 := zh hk2
 clear hnn hff hvars hemp hLV hk2
 obtain ⟨N, hNN⟩ := zx d.n
 obtain ⟨E, hE⟩ := zx d.e
 rw [<- hNN] at hn64 hpos HK2 hk1 hcp1 HLV ⊢
 rw [<- hE]
 clear hNN hE hd hsh
 go_enter Tryz.func101, Tryz.ntmps101
 go_wp2
 refine zab (fun X => Below w.heap.size w X /\ Row X w.heap.size 25 #[.int .i64 (V : Int), .int .i64 (E : Int), .slice (some ⟨b3, o3, none⟩) N c3, .slice (some ⟨bk, ok, none⟩) N ck]) ⟨by go_grown, Row.new _ _ _⟩ ?_
 rintro W0 ⟨hb, hr⟩
 have HB := zh hb; have HR := zh hr
 clear hb hr
 go_loopg [3, 4] N (fun gk q3 q4 W => ∃ i : Nat, i <= N /\ gk = N - i /\ q4 = .int .i64 i /\ Below w.heap.size w W /\ Row W w.heap.size 25 #[.int .i64 (V : Int), .int .i64 (E : Int), .slice (some ⟨b3, o3, none⟩) N c3, .slice (some ⟨bk, ok, none⟩) N ck] /\ O1 W w.heap.size q3 (oI (List.range i)))
 case atStart => exact ⟨0, Nat.zero_le _, rfl, rfl, HB.out, HR.out, VO.nil _ _ _⟩
 case round =>
  clear HB HR
  obtain ⟨i, hi, rfl, rfl, hb, hr, ho⟩ := hrel
  obtain ⟨A3, ca3, rfl⟩ := VO.formN (n := i) ho (by rw [zah, zai, List.length_range])
  obtain ⟨wl, hwl⟩ := zx wr
  subst hwl
  have HB := zh hb; have HR := zh hr; have HO := zh ho
  have y0 := hr.cell
  clear hb hr ho
  by_cases hlt : i < N
  ·have hlti : (i : Int) < (N : Int) := by omega
   go_wp2_with (at_builtin; refine zaa eI rfl (.tmp 12) (.tmp 14) rfl w.heap.size _ _ rfl (VO.allocd HO.out _) _ [.int .i64 (i : Int)] rfl (VS.one (Row.new _ _ _)) (by intro u hu; simp at hu; subst hu; rfl) (by rw [zah, zai, List.length_range]; simp; omega) (by have := HB.out.size; simp only [World.size_alloc]; omega) ?_; intro v4 w4 ho4 hg4 _; obtain ⟨A4, c4, rfl⟩ := VO.formN (n := i + 1) ho4 (by rw [List.length_append, zah, zai, List.length_range]; rfl); have HO4 := zh ho4; have HG4 := zh hg4; clear ho4 hg4)
   have HB4 := zh (zaf (w := w) (HB.out.alloc (by have := HB.out.size; omega) _) (VO.allocd HO.out _) HG4.out (by have := HB.out.size; simp only [World.size_alloc]; omega))
   have HR4 := zh ((HR.out.alloc _).far_own (by decide) (VO.allocd HO.out _).2 HG4.out)
   have HO5 : Hid (O1 w4 w.heap.size (.slice A4 (i + 1) c4) (oI (List.range (i + 1)))) := by
    have := HO4.out
    rw [<- zb4, <- zdc] at this
    unfold Hid; rw [List.range_succ]; exact this
   clear y0
   try go_wp2
   go_roundg (N - (i + 1))
   case rel => exact ⟨i + 1, by omega, rfl, by go_num, HB4.out, HR4.out, HO5.out⟩
   case measure => omega
  ·obtain rfl : i = N := by omega
   go_wp2
   go_returns
   exact ⟨A3, ca3, rfl, HB.out, HO.out⟩
theorem zey (w : World) (n : Nat) : Below w.heap.size w (w.drewN n) := ⟨rfl, rfl, rfl, zn, fun _ _ => rfl⟩
def Dta.agr (d : Dta) (cl : Nat -> Nat) (s t q x : Nat) : Bool := cl (d.nx s q x) == cl (d.nx t q x) && cl (d.nx q s x) == cl (d.nx q t x)
theorem Dta.agree_all {d : Dta} {cl : Nat -> Nat} {s t : Nat} (h : ∀ q, q < d.n -> ∀ x, x < d.L -> d.agr cl s t q x = true) : d.agree cl s t = true := by
 unfold Dta.agree
 rw [List.all_eq_true]
 intro q hq
 rw [List.all_eq_true]
 intro x hx
 exact h q (List.mem_range.1 hq) x (List.mem_range.1 hx)
theorem Dta.agree_not {d : Dta} {cl : Nat -> Nat} {s t q x : Nat} (hq : q < d.n) (hx : x < d.L) (h : d.agr cl s t q x = false) : d.agree cl s t = false := by
 cases e : d.agree cl s t with
 | false => rfl
 | true =>
  unfold Dta.agree at e
  have h1 := List.all_eq_true.1 (List.all_eq_true.1 e q (List.mem_range.2 hq)) x (List.mem_range.2 hx)
  exact absurd (show d.agr cl s t q x = true from h1) (by rw [h]; simp)
theorem agree19 (d : Dta) (V : Nat) (hd : d.Fit V) (cl : Nat -> Nat) (s t : Nat) (hs : s < d.n) (ht : t < d.n) (va vc : Value) (w : World) (hva : TD w va (d.raw V)) (hvc : N1 w vc (oI ((List.range d.n).map cl))) :
  Calls Tryz.prog 134 #[va, vc, .int .i64 (s : Int), .int .i64 (t : Int)] w fun e w' => e = .returned (.bool (d.agree cl s t)) /\ Below w.heap.size w w' := by
 obtain ⟨vn, vf, rfl, hnn, hff⟩ := hva
 have hvars : (d.raw V).vars = (V : Int) := rfl
 have hemp : (d.raw V).empty = (d.e : Int) := rfl
 rw [hvars, hemp]
 obtain ⟨b3, o3, c3, rfl, hcp1, hcp2, hLV⟩ := (show N3 w vn (nx3 d.n d.L d.nx) from hnn).lv hd.pos hd.L8.1
 obtain ⟨bk, ok, ck, rfl, hk1, hbk, hk2⟩ := (show NB w vf ((List.range d.n).map d.fin) from hff).at hd.pos
 have hsh := za5 V hd.v3
 rw [<- hd.L] at hsh
 have hv3i : (V : Int) <= 3 := by have := hd.v3; omega
 have hn64 := hd.n64; have hL8 := hd.L8.2; have hpos := hd.pos
 have HD := zh hd.ok; have HLV := zh hLV; have HK2 := zh hk2
 clear hnn hff hvars hemp hLV hk2
 obtain ⟨bc, oc, cc, rfl, hc1, hc2, hbc, hcc⟩ : ∃ b o' c, vc = .slice (some ⟨b, o', none⟩) d.n c /\ d.n <= c /\ c <= 9223372036854775807 /\ b < w.heap.size /\ ∀ s, s < d.n -> w.cell? ⟨b, o' + s, none⟩ = some (.int .i64 (cl s : Int)) := by
  obtain ⟨A, c, e, h1, h2, h3⟩ := hvc.open
  have hln : ((List.range d.n).map cl).length = d.n := by simp
  rw [zai, hln] at e h1
  have hat : ∀ s, s < d.n -> (oI ((List.range d.n).map cl))[s]? = some ((cl s : Nat) : Int) := fun s hs => oI_at (by rw [List.getElem?_map, List.getElem?_range hs]; rfl)
  obtain ⟨b, o', hA, hb, _⟩ := h3 0 _ (hat 0 hd.pos)
  exact ⟨b, o', c, by rw [e, hA], h1, h2, hb, fun s hs => by
   obtain ⟨b', o2, hA', _, hc⟩ := h3 s _ (hat s hs)
   rw [hA] at hA'
   simp only [Option.some.injEq, Addr.mk.injEq, and_true] at hA'
   obtain ⟨rfl, rfl⟩ := hA'
   exact hc⟩
 have HCC := zh hcc
 obtain ⟨R, hR⟩ := zx (d.agree cl s t)
 rw [<- hR]
 have HRT : Hid ((∀ q, q < d.n -> ∀ x, x < d.L -> d.agr cl s t q x = true) -> R = true) := fun h => by rw [hR]; exact Dta.agree_all h
 have HRF : Hid (∀ q x, q < d.n -> x < d.L -> d.agr cl s t q x = false -> R = false) := fun q x h1 h2 h => by rw [hR]; exact Dta.agree_not h1 h2 h
 clear hvc hcc hR hd
 obtain ⟨L, hL⟩ := zx d.L
 obtain ⟨N, hNN⟩ := zx d.n
 obtain ⟨E, hE⟩ := zx d.e
 rw [<- hL] at hsh hL8 HLV HRT HRF
 rw [<- hNN] at hn64 hpos HK2 hk1 hcp1 HLV HCC hc1 hs ht HRT HRF ⊢
 rw [<- hE]
 have HL := zh hL; have HNE := zh hNN
 clear hNN hE hL
 have hsi : (s : Int) < (N : Int) := by omega
 have hti : (t : Int) < (N : Int) := by omega
 go_enter Tryz.func134, Tryz.ntmps134
 go_wp2
 refine zab (fun X => Below w.heap.size w X /\ Row X w.heap.size 25 #[.int .i64 (V : Int), .int .i64 (E : Int), .slice (some ⟨b3, o3, none⟩) N c3, .slice (some ⟨bk, ok, none⟩) N ck]) ⟨by go_grown, Row.new _ _ _⟩ ?_
 rintro W0 ⟨hb, hr⟩
 have HB := zh hb; have HR := zh hr
 clear hb hr
 go_loopg [9] N (fun gk q9 W => ∃ q : Nat, q <= N /\ gk = N - q /\ q9 = .int .i64 q /\ Below w.heap.size w W /\ Row W w.heap.size 25 #[.int .i64 (V : Int), .int .i64 (E : Int), .slice (some ⟨b3, o3, none⟩) N c3, .slice (some ⟨bk, ok, none⟩) N ck] /\ ∀ a, a < q -> ∀ x, x < L -> d.agr cl s t a x = true)
 case atStart => exact ⟨0, Nat.zero_le _, rfl, rfl, HB.out, HR.out, fun a ha => by omega⟩
 case round =>
  clear HB HR
  obtain ⟨q, hq, rfl, rfl, hb, hr, hall⟩ := hrel
  have HB := zh hb; have HR := zh hr; have HALL := zh hall
  have y0 := hr.cell
  clear hb hr hall
  by_cases hlt : q < N
  ·have hlti : (q : Int) < (N : Int) := by omega
   obtain ⟨s2, s2o, s2c, k1, k2, k3, ks⟩ := HLV.out s hs
   obtain ⟨s1, s1o, s1c, k4, k5, k6, k7, ks1⟩ := ks q hlt
   obtain ⟨t2, t2o, t2c, l1, l2, l3, lt'⟩ := HLV.out t ht
   obtain ⟨t1, t1o, t1c, l4, l5, l6, l7, lt1⟩ := lt' q hlt
   obtain ⟨q2, q2o, q2c, m1, m2, m3, mq⟩ := HLV.out q hlt
   obtain ⟨u1, u1o, u1c, m4, m5, m6, m7, mu⟩ := mq s hs
   obtain ⟨v1, v1o, v1c, n4, n5, n6, n7, nv⟩ := mq t ht
   have KS := zh ks1; have LT := zh lt1; have MU := zh mu; have NV := zh nv
   have CELLS : Hid (∀ X, Below w.heap.size w X -> X.cell? ⟨b3, o3 + s, none⟩ = some (.slice (some ⟨s2, s2o, none⟩) N s2c) /\ X.cell? ⟨s2, s2o + q, none⟩ = some (.slice (some ⟨s1, s1o, none⟩) L s1c) /\ X.cell? ⟨b3, o3 + t, none⟩ = some (.slice (some ⟨t2, t2o, none⟩) N t2c) /\ X.cell? ⟨t2, t2o + q, none⟩ = some (.slice (some ⟨t1, t1o, none⟩) L t1c) /\ X.cell? ⟨b3, o3 + q, none⟩ = some (.slice (some ⟨q2, q2o, none⟩) N q2c) /\ X.cell? ⟨q2, q2o + s, none⟩ = some (.slice (some ⟨u1, u1o, none⟩) L u1c) /\ X.cell? ⟨q2, q2o + t, none⟩ = some (.slice (some ⟨v1, v1o, none⟩) L v1c)) := fun X hb =>
    ⟨(hb.cell (p := ⟨b3, _, none⟩) k1).trans k2, (hb.cell (p := ⟨s2, _, none⟩) k4).trans k5, (hb.cell (p := ⟨b3, _, none⟩) k1).trans l2, (hb.cell (p := ⟨t2, _, none⟩) l4).trans l5, (hb.cell (p := ⟨b3, _, none⟩) k1).trans m2, (hb.cell (p := ⟨q2, _, none⟩) m4).trans m5, (hb.cell (p := ⟨q2, _, none⟩) m4).trans n5⟩
   clear k1 k2 ks k4 k5 ks1 l1 l2 lt' l4 l5 lt1 m1 m2 mq m4 m5 mu n4 n5 nv
   go_wp2
   go_loopg [10] L (fun gk q10 W => ∃ x : Nat, x <= L /\ gk = L - x /\ q10 = .int .i64 x /\ Below w.heap.size w W /\ Row W w.heap.size 25 #[.int .i64 (V : Int), .int .i64 (E : Int), .slice (some ⟨b3, o3, none⟩) N c3, .slice (some ⟨bk, ok, none⟩) N ck] /\ ∀ y, y < x -> d.agr cl s t q y = true)
   case atStart => exact ⟨0, Nat.zero_le _, rfl, rfl, HB.out, HR.out, fun a ha => by omega⟩
   case round =>
    clear HB HR y0
    obtain ⟨x, hx, rfl, rfl, hb, hr, hax⟩ := hrel
    obtain ⟨W, hW⟩ := zx wr
    subst hW
    have HB := zh hb; have HR := zh hr; have HAX := zh hax
    have y0 := hr.cell
    clear hr hax
    by_cases hxt : x < L
    ·have hxti : (x : Int) < (L : Int) := by omega
     obtain ⟨a1, ha1⟩ := zx (d.nx s q x)
     obtain ⟨a2, ha2⟩ := zx (d.nx t q x)
     obtain ⟨a3, ha3⟩ := zx (d.nx q s x)
     obtain ⟨a4, ha4⟩ := zx (d.nx q t x)
     have hn := fun l r (h1 : l < N) (h2 : r < N) => HD.out.hn l r x (by rw [<- HNE.out]; exact h1) (by rw [<- HNE.out]; exact h2) (by rw [<- HL.out]; exact hxt)
     rw [<- HNE.out] at hn
     have n1 : a1 < N := by rw [ha1]; exact hn s q hs hlt
     have n2 : a2 < N := by rw [ha2]; exact hn t q ht hlt
     have n3 : a3 < N := by rw [ha3]; exact hn q s hlt hs
     have n4 : a4 < N := by rw [ha4]; exact hn q t hlt ht
     have i1 : (a1 : Int) < (N : Int) := by omega
     have i2 : (a2 : Int) < (N : Int) := by omega
     have i3 : (a3 : Int) < (N : Int) := by omega
     have i4 : (a4 : Int) < (N : Int) := by omega
     obtain ⟨z1, z2, z3, z4, z5, z6, z7⟩ := CELLS.out W hb
     have f1 := (hb.cell (p := ⟨s1, s1o + x, none⟩) k7).trans (KS.out x hxt)
     have f2 := (hb.cell (p := ⟨t1, t1o + x, none⟩) l7).trans (LT.out x hxt)
     have f3 := (hb.cell (p := ⟨u1, u1o + x, none⟩) m7).trans (MU.out x hxt)
     have f4 := (hb.cell (p := ⟨v1, v1o + x, none⟩) n7).trans (NV.out x hxt)
     rw [<- ha1] at f1; rw [<- ha2] at f2; rw [<- ha3] at f3; rw [<- ha4] at f4
     have g1 := (hb.cell (p := ⟨bc, oc + a1, none⟩) hbc).trans (HCC.out a1 n1)
     have g2 := (hb.cell (p := ⟨bc, oc + a2, none⟩) hbc).trans (HCC.out a2 n2)
     have g3 := (hb.cell (p := ⟨bc, oc + a3, none⟩) hbc).trans (HCC.out a3 n3)
     have g4 := (hb.cell (p := ⟨bc, oc + a4, none⟩) hbc).trans (HCC.out a4 n4)
     have HAG : Hid (d.agr cl s t q x = (cl a1 == cl a2 && cl a3 == cl a4)) := by unfold Hid Dta.agr; rw [ha1, ha2, ha3, ha4]
     obtain ⟨p1, hp1⟩ := zx (cl a1)
     obtain ⟨p2, hp2⟩ := zx (cl a2)
     obtain ⟨p3, hp3⟩ := zx (cl a3)
     obtain ⟨p4, hp4⟩ := zx (cl a4)
     rw [<- hp1, <- hp2, <- hp3, <- hp4] at HAG
     rw [<- hp1] at g1; rw [<- hp2] at g2; rw [<- hp3] at g3; rw [<- hp4] at g4
     clear ha1 ha2 ha3 ha4 hn n1 n2 n3 n4 hp1 hp2 hp3 hp4 hb
     by_cases e1 : p1 = p2
     ·subst e1
      have d1 : ((p1 : Int) != p1) = false := by simp
      by_cases e2 : p3 = p4
      ·subst e2
       have d2 : ((p3 : Int) != p3) = false := by simp
       have HG1 : Hid (d.agr cl s t q x = true) := by unfold Hid; rw [HAG.out]; simp
       go_upto_region 7 with fail
       first | go_quiet (fail) | fail
       refine zbc (fun X => Below w.heap.size w X /\ Row X w.heap.size 25 #[.int .i64 (V : Int), .int .i64 (E : Int), .slice (some ⟨b3, o3, none⟩) N c3, .slice (some ⟨bk, ok, none⟩) N ck]) ⟨HB.out.trans ((zey W _).mono HB.out.size), HR.out.below (zey W _) HR.out.lt⟩ ?_
       clear HB HR y0 z1 z2 z3 z4 z5 z6 z7 f1 f2 f3 f4 g1 g2 g3 g4
       rintro X ⟨hb, hr⟩
       have HB := zh hb; have HR := zh hr
       clear hb hr
       go_wp2
       go_roundg (L - (x + 1))
       case rel => exact ⟨x + 1, by omega, rfl, by go_num, HB.out, HR.out, fun y hy => by
        by_cases e : y = x
        ·subst e; exact HG1.out
        ·exact HAX.out y (by omega)⟩
       case measure => omega
      ·have d2 : ((p3 : Int) != p4) = true := by rw [bne_iff_ne]; omega
       have HG1 : Hid (R = false) := HRF.out q x hlt hxt (by rw [HAG.out]; simp [e2])
       clear e2
       go_upto_region 7 with fail
       first | go_quiet (fail) | fail
       go_wp2
       go_returns
       exact ⟨by rw [HG1.out]; rfl, HB.out.trans ((zey W _).mono HB.out.size)⟩
     ·have d1 : ((p1 : Int) != p2) = true := by rw [bne_iff_ne]; omega
      have HG1 : Hid (R = false) := HRF.out q x hlt hxt (by rw [HAG.out]; simp [e1])
      clear e1
      go_upto_region 7 with fail
      first | go_quiet (fail) | fail
      go_wp2
      go_returns
      exact ⟨by rw [HG1.out]; rfl, HB.out.trans ((zey W _).mono HB.out.size)⟩
    ·obtain rfl : x = L := by omega
     clear hb
     go_wp2
     go_roundg (N - (q + 1))
     case rel => exact ⟨q + 1, by omega, rfl, by go_num, HB.out, HR.out, fun a ha y hy => by
      by_cases e : a = q
      ·subst e; exact HAX.out y hy
      ·exact HALL.out a (by omega) y hy⟩
     case measure => omega
  ·obtain rfl : q = N := by omega
   have HG1 : Hid (R = true) := HRT.out HALL.out
   go_wp2
   go_returns
   exact ⟨by rw [HG1.out]; rfl, HB.out⟩
end Go.Proofs.YthkfjnmnoanhlaaGreatDoor
