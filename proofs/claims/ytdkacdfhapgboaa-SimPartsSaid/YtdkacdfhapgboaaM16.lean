/- Part 16 of the texts that the proof stands on: SimB. -/
import Derived.Test.YtdkacdfhapgboaaM15
import Derived.Deep.RegionHeld3
import Derived.BigQuiet

/- sim.sim: what is no valid simulation. (printed by gen/simb.py) -/
set_option linter.unusedVariables false
set_option linter.unusedSimpArgs false
namespace Go.Proofs.Ytdkacdfhapgboaa
open Go.RowKit

theorem run_neq3CacheConf (a b c a' b' c' : Int) (W : World) : (binOp .neq 25 (.agg #[.int .i64 a, .int .i64 b, .int .i64 c]) (.agg #[.int .i64 a', .int .i64 b', .int .i64 c'])).run Try.prog W = .ok (.bool (!decide (a = a' ∧ b = b' ∧ c = c'))) W := by
  by_cases h1 : a = a' <;> by_cases h2 : b = b' <;> by_cases h3 : c = c' <;> go_simp
theorem run_neq3PredConf (a b c a' b' c' : Int) (W : World) : (binOp .neq 50 (.agg #[.int .i64 a, .int .i64 b, .int .i64 c]) (.agg #[.int .i64 a', .int .i64 b', .int .i64 c'])).run Try.prog W = .ok (.bool (!decide (a = a' ∧ b = b' ∧ c = c'))) W := by
  by_cases h1 : a = a' <;> by_cases h2 : b = b' <;> by_cases h3 : c = c' <;> go_simp
/-- A valid simulation, by its parts. -/
structure SimOk (k0 k1 k2 k3 k4 k5 k6 k7 k8 k9 k10 k11 i0 i1 i2 d0 d1 d2 l0 l1 l2 p0 p1 p2 : Int) (LI LD LL : List (List Int)) (cs rs : List Int) (hist : Int) (ns : List (List Int)) : Prop where
  shape : simShapeB ⟨k0, k1, k2, k3, k4, k5, k6, k7, k8, k9, k10, k11⟩ = true
  confI : i0 = k0 ∧ i1 = k1 ∧ i2 = k2
  confD : d0 = k3 ∧ d1 = k4 ∧ d2 = k5
  confL : l0 = k6 ∧ l1 = k7 ∧ l2 = k8
  confP : p0 = k9 ∧ p1 = k10 ∧ p2 = k11
  i : cacheOk i0 i1 i2 LI
  d : cacheOk d0 d1 d2 LD
  l : cacheOk l0 l1 l2 LL
  p : predOk p0 p1 p2 cs hist rs
  len : ns.length ≤ 20000
  cnts : cntsOk ns
set_option maxRecDepth 100000 in
set_option maxHeartbeats 16000000 in
theorem sim_bad (k0 k1 k2 k3 k4 k5 k6 k7 k8 k9 k10 k11 i0 i1 i2 d0 d1 d2 l0 l1 l2 p0 p1 p2 : Int) (AI AD AL A R N : Option Addr) (ci cd cl ca ra nc : Nat) (vI vD vL : List Value) (LI LD LL : List (List Int)) (cs rs : List Int) (hist : Int) (ns : List (List Int)) (w : World)
    (hI : RdSets w AI vI LI) (hD : RdSets w AD vD LD) (hL : RdSets w AL vL LL) (hc : RdI w .i64 A cs.length cs) (hn : RdN w N ns) (hh : 0 ≤ hist ∧ hist < 4294967296) (hbad : ¬ SimOk k0 k1 k2 k3 k4 k5 k6 k7 k8 k9 k10 k11 i0 i1 i2 d0 d1 d2 l0 l1 l2 p0 p1 p2 LI LD LL cs rs hist ns) :
    Calls Try.prog 57 #[.agg #[.int .i64 k0, .int .i64 k1, .int .i64 k2, .int .i64 k3, .int .i64 k4, .int .i64 k5, .int .i64 k6, .int .i64 k7, .int .i64 k8, .int .i64 k9, .int .i64 k10, .int .i64 k11, .int .i64 i0, .int .i64 i1, .int .i64 i2, .slice AI LI.length ci, .int .i64 d0, .int .i64 d1, .int .i64 d2, .slice AD LD.length cd, .int .i64 l0, .int .i64 l1, .int .i64 l2, .slice AL LL.length cl, .int .i64 p0, .int .i64 p1, .int .i64 p2, .slice A cs.length ca, .int .u32 hist, .slice R rs.length ra, .slice N ns.length nc]] w fun e w' => e = .returned (.bool false) ∧ Below w.heap.size w w' := by
  obtain ⟨W0, hW0⟩ : ∃ W0, w.alloc (.cells #[.int .i64 k0, .int .i64 k1, .int .i64 k2, .int .i64 k3, .int .i64 k4, .int .i64 k5, .int .i64 k6, .int .i64 k7, .int .i64 k8, .int .i64 k9, .int .i64 k10, .int .i64 k11, .int .i64 i0, .int .i64 i1, .int .i64 i2, .slice AI LI.length ci, .int .i64 d0, .int .i64 d1, .int .i64 d2, .slice AD LD.length cd, .int .i64 l0, .int .i64 l1, .int .i64 l2, .slice AL LL.length cl, .int .i64 p0, .int .i64 p1, .int .i64 p2, .slice A cs.length ca, .int .u32 hist, .slice R rs.length ra, .slice N ns.length nc] 67) = W0 := ⟨_, rfl⟩
  have hb0 : Below w.heap.size w W0 := by rw [← hW0]; exact balloc w _
  have hx0 : W0.heap[w.heap.size]? = some (.cells #[.int .i64 k0, .int .i64 k1, .int .i64 k2, .int .i64 k3, .int .i64 k4, .int .i64 k5, .int .i64 k6, .int .i64 k7, .int .i64 k8, .int .i64 k9, .int .i64 k10, .int .i64 k11, .int .i64 i0, .int .i64 i1, .int .i64 i2, .slice AI LI.length ci, .int .i64 d0, .int .i64 d1, .int .i64 d2, .slice AD LD.length cd, .int .i64 l0, .int .i64 l1, .int .i64 l2, .slice AL LL.length cl, .int .i64 p0, .int .i64 p1, .int .i64 p2, .slice A cs.length ca, .int .u32 hist, .slice R rs.length ra, .slice N ns.length nc] 67 (0, 0)) := by rw [← hW0]; exact heap_alloc_new w _
  have hnle := hn.le
  have HI := Lib.hid (hI.below hb0)
  have HD := Lib.hid (hD.below hb0)
  have HL := Lib.hid (hL.below hb0)
  have HC := Lib.hid (Rd.below hc hb0)
  have HN := Lib.hid (hn.below hb0)
  have HX := Lib.hid hx0
  have HB := Lib.hid hb0
  have HBAD := Lib.hid hbad
  clear hI hD hL hc hn hb0 hbad
  have c0 := boxAt (i := 0) hx0 rfl
  have c1 := boxAt (i := 1) hx0 rfl
  have c2 := boxAt (i := 2) hx0 rfl
  have c3 := boxAt (i := 3) hx0 rfl
  have c4 := boxAt (i := 4) hx0 rfl
  have c5 := boxAt (i := 5) hx0 rfl
  have c6 := boxAt (i := 6) hx0 rfl
  have c7 := boxAt (i := 7) hx0 rfl
  have c8 := boxAt (i := 8) hx0 rfl
  have c9 := boxAt (i := 9) hx0 rfl
  have c10 := boxAt (i := 10) hx0 rfl
  have c11 := boxAt (i := 11) hx0 rfl
  have c12 := boxAt (i := 12) hx0 rfl
  have c13 := boxAt (i := 13) hx0 rfl
  have c14 := boxAt (i := 14) hx0 rfl
  have c15 := boxAt (i := 15) hx0 rfl
  have c16 := boxAt (i := 16) hx0 rfl
  have c17 := boxAt (i := 17) hx0 rfl
  have c18 := boxAt (i := 18) hx0 rfl
  have c19 := boxAt (i := 19) hx0 rfl
  have c20 := boxAt (i := 20) hx0 rfl
  have c21 := boxAt (i := 21) hx0 rfl
  have c22 := boxAt (i := 22) hx0 rfl
  have c23 := boxAt (i := 23) hx0 rfl
  have c24 := boxAt (i := 24) hx0 rfl
  have c25 := boxAt (i := 25) hx0 rfl
  have c26 := boxAt (i := 26) hx0 rfl
  have c27 := boxAt (i := 27) hx0 rfl
  have c28 := boxAt (i := 28) hx0 rfl
  have c29 := boxAt (i := 29) hx0 rfl
  have c30 := boxAt (i := 30) hx0 rfl
  clear hx0
  go_enter Try.func57, Try.ntmps57
  go_wp2_with fail
  refine (simShape_any k0 k1 k2 k3 k4 k5 k6 k7 k8 k9 k10 k11 _).mono ?_
  rintro e W1 ⟨rfl, hb⟩
  replace HI := Lib.hid (HI.out.below hb)
  replace HD := Lib.hid (HD.out.below hb)
  replace HL := Lib.hid (HL.out.below hb)
  replace HC := Lib.hid (Rd.below HC.out hb)
  replace HN := Lib.hid (HN.out.below hb)
  replace HB := Lib.hid (bvia HB.out hb (Nat.le_refl _))
  replace HX := Lib.hid (belowBox hb HX.out)
  clear c0 c1 c2 c3 c4 c5 c6 c7 c8 c9 c10 c11 c12 c13 c14 c15 c16 c17 c18 c19 c20 c21 c22 c23 c24 c25 c26 c27 c28 c29 c30 hb
  have c0 := boxAt (i := 0) HX.out rfl
  have c1 := boxAt (i := 1) HX.out rfl
  have c2 := boxAt (i := 2) HX.out rfl
  have c3 := boxAt (i := 3) HX.out rfl
  have c4 := boxAt (i := 4) HX.out rfl
  have c5 := boxAt (i := 5) HX.out rfl
  have c6 := boxAt (i := 6) HX.out rfl
  have c7 := boxAt (i := 7) HX.out rfl
  have c8 := boxAt (i := 8) HX.out rfl
  have c9 := boxAt (i := 9) HX.out rfl
  have c10 := boxAt (i := 10) HX.out rfl
  have c11 := boxAt (i := 11) HX.out rfl
  have c12 := boxAt (i := 12) HX.out rfl
  have c13 := boxAt (i := 13) HX.out rfl
  have c14 := boxAt (i := 14) HX.out rfl
  have c15 := boxAt (i := 15) HX.out rfl
  have c16 := boxAt (i := 16) HX.out rfl
  have c17 := boxAt (i := 17) HX.out rfl
  have c18 := boxAt (i := 18) HX.out rfl
  have c19 := boxAt (i := 19) HX.out rfl
  have c20 := boxAt (i := 20) HX.out rfl
  have c21 := boxAt (i := 21) HX.out rfl
  have c22 := boxAt (i := 22) HX.out rfl
  have c23 := boxAt (i := 23) HX.out rfl
  have c24 := boxAt (i := 24) HX.out rfl
  have c25 := boxAt (i := 25) HX.out rfl
  have c26 := boxAt (i := 26) HX.out rfl
  have c27 := boxAt (i := 27) HX.out rfl
  have c28 := boxAt (i := 28) HX.out rfl
  have c29 := boxAt (i := 29) HX.out rfl
  have c30 := boxAt (i := 30) HX.out rfl
  cases hs : simShapeB ⟨k0, k1, k2, k3, k4, k5, k6, k7, k8, k9, k10, k11⟩
  · clear hs
    go_wp2_with fail
    go_ret
    exact ⟨rfl, HB.out⟩
  have HS := Lib.hid hs
  clear hs
  by_cases qi : i0 = k0 ∧ i1 = k1 ∧ i2 = k2
  rotate_left
  · have hni : ∀ W, (binOp .neq 25 (.agg #[.int .i64 i0, .int .i64 i1, .int .i64 i2]) (.agg #[.int .i64 k0, .int .i64 k1, .int .i64 k2])).run Try.prog W = .ok (.bool true) W := fun W => by rw [run_neq3CacheConf, decide_eq_false qi]; rfl
    go_wp2_with fail
    go_ret
    exact ⟨rfl, HB.out⟩
  obtain ⟨rfl, rfl, rfl⟩ := qi
  by_cases qd : d0 = k3 ∧ d1 = k4 ∧ d2 = k5
  rotate_left
  · have hnd : ∀ W, (binOp .neq 25 (.agg #[.int .i64 d0, .int .i64 d1, .int .i64 d2]) (.agg #[.int .i64 k3, .int .i64 k4, .int .i64 k5])).run Try.prog W = .ok (.bool true) W := fun W => by rw [run_neq3CacheConf, decide_eq_false qd]; rfl
    go_wp2_with fail
    go_ret
    exact ⟨rfl, HB.out⟩
  obtain ⟨rfl, rfl, rfl⟩ := qd
  by_cases ql : l0 = k6 ∧ l1 = k7 ∧ l2 = k8
  rotate_left
  · have hnl : ∀ W, (binOp .neq 25 (.agg #[.int .i64 l0, .int .i64 l1, .int .i64 l2]) (.agg #[.int .i64 k6, .int .i64 k7, .int .i64 k8])).run Try.prog W = .ok (.bool true) W := fun W => by rw [run_neq3CacheConf, decide_eq_false ql]; rfl
    go_wp2_with fail
    go_ret
    exact ⟨rfl, HB.out⟩
  obtain ⟨rfl, rfl, rfl⟩ := ql
  by_cases qp : p0 = k9 ∧ p1 = k10 ∧ p2 = k11
  rotate_left
  · have hnp : ∀ W, (binOp .neq 50 (.agg #[.int .i64 p0, .int .i64 p1, .int .i64 p2]) (.agg #[.int .i64 k9, .int .i64 k10, .int .i64 k11])).run Try.prog W = .ok (.bool true) W := fun W => by rw [run_neq3PredConf, decide_eq_false qp]; rfl
    go_wp2_with fail
    go_ret
    exact ⟨rfl, HB.out⟩
  obtain ⟨rfl, rfl, rfl⟩ := qp
  go_wp2_with fail
  refine (cache_any _ _ _ AI ci vI LI _ HI.out).mono ?_
  rintro e W2 ⟨rfl, hb⟩
  replace HI := Lib.hid (HI.out.below hb)
  replace HD := Lib.hid (HD.out.below hb)
  replace HL := Lib.hid (HL.out.below hb)
  replace HC := Lib.hid (Rd.below HC.out hb)
  replace HN := Lib.hid (HN.out.below hb)
  replace HB := Lib.hid (bvia HB.out hb (Nat.le_refl _))
  replace HX := Lib.hid (belowBox hb HX.out)
  clear c0 c1 c2 c3 c4 c5 c6 c7 c8 c9 c10 c11 c12 c13 c14 c15 c16 c17 c18 c19 c20 c21 c22 c23 c24 c25 c26 c27 c28 c29 c30 hb
  have c0 := boxAt (i := 0) HX.out rfl
  have c1 := boxAt (i := 1) HX.out rfl
  have c2 := boxAt (i := 2) HX.out rfl
  have c3 := boxAt (i := 3) HX.out rfl
  have c4 := boxAt (i := 4) HX.out rfl
  have c5 := boxAt (i := 5) HX.out rfl
  have c6 := boxAt (i := 6) HX.out rfl
  have c7 := boxAt (i := 7) HX.out rfl
  have c8 := boxAt (i := 8) HX.out rfl
  have c9 := boxAt (i := 9) HX.out rfl
  have c10 := boxAt (i := 10) HX.out rfl
  have c11 := boxAt (i := 11) HX.out rfl
  have c12 := boxAt (i := 12) HX.out rfl
  have c13 := boxAt (i := 13) HX.out rfl
  have c14 := boxAt (i := 14) HX.out rfl
  have c15 := boxAt (i := 15) HX.out rfl
  have c16 := boxAt (i := 16) HX.out rfl
  have c17 := boxAt (i := 17) HX.out rfl
  have c18 := boxAt (i := 18) HX.out rfl
  have c19 := boxAt (i := 19) HX.out rfl
  have c20 := boxAt (i := 20) HX.out rfl
  have c21 := boxAt (i := 21) HX.out rfl
  have c22 := boxAt (i := 22) HX.out rfl
  have c23 := boxAt (i := 23) HX.out rfl
  have c24 := boxAt (i := 24) HX.out rfl
  have c25 := boxAt (i := 25) HX.out rfl
  have c26 := boxAt (i := 26) HX.out rfl
  have c27 := boxAt (i := 27) HX.out rfl
  have c28 := boxAt (i := 28) HX.out rfl
  have c29 := boxAt (i := 29) HX.out rfl
  have c30 := boxAt (i := 30) HX.out rfl
  cases hq1 : decide (cacheOk i0 i1 i2 LI)
  · clear hq1
    go_wp2_with fail
    go_ret
    exact ⟨rfl, HB.out⟩
  have OI := Lib.hid (of_decide_eq_true hq1)
  clear hq1
  go_wp2_with fail
  refine (cache_any _ _ _ AD cd vD LD _ HD.out).mono ?_
  rintro e W3 ⟨rfl, hb⟩
  replace HI := Lib.hid (HI.out.below hb)
  replace HD := Lib.hid (HD.out.below hb)
  replace HL := Lib.hid (HL.out.below hb)
  replace HC := Lib.hid (Rd.below HC.out hb)
  replace HN := Lib.hid (HN.out.below hb)
  replace HB := Lib.hid (bvia HB.out hb (Nat.le_refl _))
  replace HX := Lib.hid (belowBox hb HX.out)
  clear c0 c1 c2 c3 c4 c5 c6 c7 c8 c9 c10 c11 c12 c13 c14 c15 c16 c17 c18 c19 c20 c21 c22 c23 c24 c25 c26 c27 c28 c29 c30 hb
  have c0 := boxAt (i := 0) HX.out rfl
  have c1 := boxAt (i := 1) HX.out rfl
  have c2 := boxAt (i := 2) HX.out rfl
  have c3 := boxAt (i := 3) HX.out rfl
  have c4 := boxAt (i := 4) HX.out rfl
  have c5 := boxAt (i := 5) HX.out rfl
  have c6 := boxAt (i := 6) HX.out rfl
  have c7 := boxAt (i := 7) HX.out rfl
  have c8 := boxAt (i := 8) HX.out rfl
  have c9 := boxAt (i := 9) HX.out rfl
  have c10 := boxAt (i := 10) HX.out rfl
  have c11 := boxAt (i := 11) HX.out rfl
  have c12 := boxAt (i := 12) HX.out rfl
  have c13 := boxAt (i := 13) HX.out rfl
  have c14 := boxAt (i := 14) HX.out rfl
  have c15 := boxAt (i := 15) HX.out rfl
  have c16 := boxAt (i := 16) HX.out rfl
  have c17 := boxAt (i := 17) HX.out rfl
  have c18 := boxAt (i := 18) HX.out rfl
  have c19 := boxAt (i := 19) HX.out rfl
  have c20 := boxAt (i := 20) HX.out rfl
  have c21 := boxAt (i := 21) HX.out rfl
  have c22 := boxAt (i := 22) HX.out rfl
  have c23 := boxAt (i := 23) HX.out rfl
  have c24 := boxAt (i := 24) HX.out rfl
  have c25 := boxAt (i := 25) HX.out rfl
  have c26 := boxAt (i := 26) HX.out rfl
  have c27 := boxAt (i := 27) HX.out rfl
  have c28 := boxAt (i := 28) HX.out rfl
  have c29 := boxAt (i := 29) HX.out rfl
  have c30 := boxAt (i := 30) HX.out rfl
  cases hq2 : decide (cacheOk d0 d1 d2 LD)
  · clear hq2
    go_wp2_with fail
    go_ret
    exact ⟨rfl, HB.out⟩
  have OD := Lib.hid (of_decide_eq_true hq2)
  clear hq2
  go_wp2_with fail
  refine (cache_any _ _ _ AL cl vL LL _ HL.out).mono ?_
  rintro e W4 ⟨rfl, hb⟩
  replace HI := Lib.hid (HI.out.below hb)
  replace HD := Lib.hid (HD.out.below hb)
  replace HL := Lib.hid (HL.out.below hb)
  replace HC := Lib.hid (Rd.below HC.out hb)
  replace HN := Lib.hid (HN.out.below hb)
  replace HB := Lib.hid (bvia HB.out hb (Nat.le_refl _))
  replace HX := Lib.hid (belowBox hb HX.out)
  clear c0 c1 c2 c3 c4 c5 c6 c7 c8 c9 c10 c11 c12 c13 c14 c15 c16 c17 c18 c19 c20 c21 c22 c23 c24 c25 c26 c27 c28 c29 c30 hb
  have c0 := boxAt (i := 0) HX.out rfl
  have c1 := boxAt (i := 1) HX.out rfl
  have c2 := boxAt (i := 2) HX.out rfl
  have c3 := boxAt (i := 3) HX.out rfl
  have c4 := boxAt (i := 4) HX.out rfl
  have c5 := boxAt (i := 5) HX.out rfl
  have c6 := boxAt (i := 6) HX.out rfl
  have c7 := boxAt (i := 7) HX.out rfl
  have c8 := boxAt (i := 8) HX.out rfl
  have c9 := boxAt (i := 9) HX.out rfl
  have c10 := boxAt (i := 10) HX.out rfl
  have c11 := boxAt (i := 11) HX.out rfl
  have c12 := boxAt (i := 12) HX.out rfl
  have c13 := boxAt (i := 13) HX.out rfl
  have c14 := boxAt (i := 14) HX.out rfl
  have c15 := boxAt (i := 15) HX.out rfl
  have c16 := boxAt (i := 16) HX.out rfl
  have c17 := boxAt (i := 17) HX.out rfl
  have c18 := boxAt (i := 18) HX.out rfl
  have c19 := boxAt (i := 19) HX.out rfl
  have c20 := boxAt (i := 20) HX.out rfl
  have c21 := boxAt (i := 21) HX.out rfl
  have c22 := boxAt (i := 22) HX.out rfl
  have c23 := boxAt (i := 23) HX.out rfl
  have c24 := boxAt (i := 24) HX.out rfl
  have c25 := boxAt (i := 25) HX.out rfl
  have c26 := boxAt (i := 26) HX.out rfl
  have c27 := boxAt (i := 27) HX.out rfl
  have c28 := boxAt (i := 28) HX.out rfl
  have c29 := boxAt (i := 29) HX.out rfl
  have c30 := boxAt (i := 30) HX.out rfl
  cases hq3 : decide (cacheOk l0 l1 l2 LL)
  · clear hq3
    go_wp2_with fail
    go_ret
    exact ⟨rfl, HB.out⟩
  have OL := Lib.hid (of_decide_eq_true hq3)
  clear hq3
  go_wp2_with fail
  refine (pred_any _ _ _ A ca cs hist R _ ra _ HC.out rs rfl hh).mono ?_
  rintro e W5 ⟨rfl, hb⟩
  replace HI := Lib.hid (HI.out.below hb)
  replace HD := Lib.hid (HD.out.below hb)
  replace HL := Lib.hid (HL.out.below hb)
  replace HC := Lib.hid (Rd.below HC.out hb)
  replace HN := Lib.hid (HN.out.below hb)
  replace HB := Lib.hid (bvia HB.out hb (Nat.le_refl _))
  replace HX := Lib.hid (belowBox hb HX.out)
  clear c0 c1 c2 c3 c4 c5 c6 c7 c8 c9 c10 c11 c12 c13 c14 c15 c16 c17 c18 c19 c20 c21 c22 c23 c24 c25 c26 c27 c28 c29 c30 hb
  have c0 := boxAt (i := 0) HX.out rfl
  have c1 := boxAt (i := 1) HX.out rfl
  have c2 := boxAt (i := 2) HX.out rfl
  have c3 := boxAt (i := 3) HX.out rfl
  have c4 := boxAt (i := 4) HX.out rfl
  have c5 := boxAt (i := 5) HX.out rfl
  have c6 := boxAt (i := 6) HX.out rfl
  have c7 := boxAt (i := 7) HX.out rfl
  have c8 := boxAt (i := 8) HX.out rfl
  have c9 := boxAt (i := 9) HX.out rfl
  have c10 := boxAt (i := 10) HX.out rfl
  have c11 := boxAt (i := 11) HX.out rfl
  have c12 := boxAt (i := 12) HX.out rfl
  have c13 := boxAt (i := 13) HX.out rfl
  have c14 := boxAt (i := 14) HX.out rfl
  have c15 := boxAt (i := 15) HX.out rfl
  have c16 := boxAt (i := 16) HX.out rfl
  have c17 := boxAt (i := 17) HX.out rfl
  have c18 := boxAt (i := 18) HX.out rfl
  have c19 := boxAt (i := 19) HX.out rfl
  have c20 := boxAt (i := 20) HX.out rfl
  have c21 := boxAt (i := 21) HX.out rfl
  have c22 := boxAt (i := 22) HX.out rfl
  have c23 := boxAt (i := 23) HX.out rfl
  have c24 := boxAt (i := 24) HX.out rfl
  have c25 := boxAt (i := 25) HX.out rfl
  have c26 := boxAt (i := 26) HX.out rfl
  have c27 := boxAt (i := 27) HX.out rfl
  have c28 := boxAt (i := 28) HX.out rfl
  have c29 := boxAt (i := 29) HX.out rfl
  have c30 := boxAt (i := 30) HX.out rfl
  cases hq4 : decide (predOk p0 p1 p2 cs hist rs)
  · clear hq4
    go_wp2_with fail
    go_ret
    exact ⟨rfl, HB.out⟩
  have OP := Lib.hid (of_decide_eq_true hq4)
  clear hq4
  by_cases hlong : (20000 : Int) < (ns.length : Int)
  · go_wp2_with fail
    go_ret
    exact ⟨rfl, HB.out⟩
  have hnl : (ns.length : Int) ≤ 20000 := by omega
  have HNO : Hid (¬ cntsOk ns) := Lib.hid fun h => HBAD.out ⟨HS.out, ⟨rfl, rfl, rfl⟩, ⟨rfl, rfl, rfl⟩, ⟨rfl, rfl, rfl⟩, ⟨rfl, rfl, rfl⟩, OI.out, OD.out, OL.out, OP.out, by omega, h⟩
  clear HBAD OI OD OL OP HS hlong
  go_wp2_with fail
  clear c0 c1 c2 c3 c4 c5 c6 c7 c8 c9 c10 c11 c12 c13 c14 c15 c16 c17 c18 c19 c20 c21 c22 c23 c24 c25 c26 c27 c28 c29 c30
  go_loopw [78] (fun i wr => ∃ k : Nat, k ≤ ns.length ∧ i = .int .i64 k ∧ Hid (Below W5.heap.size W5 wr) ∧ Hid (∀ j, j < k → (0 < j → gi (gn ns (j - 1)) 0 < gi (gn ns j) 0) ∧ (cntX (gn ns j)).any bigN = false)) (fun i _ => ns.length - (intOf i).toNat)
  case atStart => exact ⟨0, Nat.zero_le _, rfl, Lib.hid (Below.refl _ _), Lib.hid fun j hj => absurd hj (Nat.not_lt_zero _)⟩
  case round =>
    obtain ⟨k, hk, rfl, hB, hG⟩ := hrel
    by_cases hlt : k < ns.length
    · obtain ⟨c, hcg⟩ : ∃ c, gn ns k = c := ⟨_, rfl⟩
      obtain ⟨ad, e0, x0, x1, x2, x3, x4, x5, x6, x7, x8, x9, x10, x11, x12, x13⟩ := (HN.out.below hB.out).at14 k hlt
      subst e0
      rw [hcg] at x0 x1 x2 x3 x4 x5 x6 x7 x8 x9 x10 x11 x12 x13
      have hxr := belowBox hB.out HX.out
      have r30 := boxAt (i := 30) hxr rfl
      have hwl : w.heap.size < wr.heap.size := (Array.getElem?_eq_some_iff.1 hxr).1
      have HXR := Lib.hid hxr
      have HCG := Lib.hid hcg
      obtain ⟨W6, hW6⟩ : ∃ W6, wr.alloc (cntObj c) = W6 := ⟨_, rfl⟩
      have h6 : W6.heap[wr.heap.size]? = some (cntObj c) := by rw [← hW6]; exact heap_alloc_new wr _
      have hb6 : Below wr.heap.size wr W6 := by rw [← hW6]; exact balloc wr _
      have y0 := boxAt (i := 0) h6 rfl
      have yn := bkeep hb6 r30
      obtain ⟨W6d, hW6d⟩ : ∃ W6d, W6.drew = W6d := ⟨_, rfl⟩
      have y0d : W6d.cell? ⟨wr.heap.size, 0, none⟩ = some (.int .u32 (gi c 0)) := by rw [← hW6d]; exact y0
      have ynd : W6d.cell? ⟨w.heap.size, 30, none⟩ = some (.slice (some ad) ns.length nc) := by rw [← hW6d]; exact yn
      have k0 := Just.cell y0d
      have kn := Just.cell ynd
      have H6d := Lib.hid (show W6d.heap[wr.heap.size]? = some (cntObj c) by rw [← hW6d]; exact h6)
      have HB6d := Lib.hid (show Below wr.heap.size wr W6d by rw [← hW6d]; exact bdrewN hb6 1)
      clear h6 hb6 hxr hcg
      go_wp2_with fail
      clear x0 x1 x2 x3 x4 x5 x6 x7 x8 x9 x10 x11 x12 x13
      cases k with
      | zero =>
        refine region_tail 15 hW6d (by kernel_rfl) (by kernel_rfl) ?_
        simp only [List.take_succ_cons, List.take_zero, List.drop_succ_cons, List.drop_zero]
        repeat (go_big_quiet_step (fail))
        refine wpQuiet_nil ?_
        go_wp2_with fail
        refine (numbers_any wr.heap.size 0 W6d).mono ?_
        rintro e W7 ⟨rfl, hr7, hs7, hb7⟩
        have hn7 := Lib.hid (numRd_new H6d.out hr7 hb7)
        clear hr7
        go_wp2_with fail
        refine (containsFunc_sim W6d.heap.size wr.heap.size 0 (cntX c) _ hn7.out).mono ?_
        rintro e W8 ⟨rfl, rfl⟩
        have hbw : Below wr.heap.size wr W7 := HB6d.out.trans (hb7.mono HB6d.out.size)
        cases hbig : (cntX c).any bigN
        · have HBIG := Lib.hid hbig
          clear hbig
          go_wp2_with fail
          go_roundw
          case rel => exact ⟨0 + 1, by omega, by go_num, Lib.hid (bvia hB.out hbw (Nat.le_refl _)), Lib.hid fun j hj => by
            obtain rfl : j = 0 := by omega
            exact ⟨fun h => absurd h (Nat.not_lt_zero _), by rw [HCG.out]; exact HBIG.out⟩⟩
          case measure => simp [intOf]; omega
        · clear hbig
          go_wp2_with fail
          go_ret
          exact ⟨rfl, bvia HB.out (bvia hB.out hbw (Nat.le_refl _)) (Nat.le_refl _)⟩
      | succ m =>
        obtain ⟨ad', e1, z0, _⟩ := (HN.out.below hB.out).at14 m (by omega)
        cases e1
        have z0d : W6d.cell? (ad.add (m * 14)) = some (.int .u32 (gi (gn ns m) 0)) := bkeep HB6d.out z0
        have kz := Just.cell z0d
        by_cases hp : gi (gn ns m) 0 < gi c 0
        · have hge : decide (gi c 0 ≤ gi (gn ns m) 0) = false := by simp; omega
          have HP := Lib.hid hp
          obtain ⟨pm, hpm⟩ : ∃ pm, gi (gn ns m) 0 = pm := ⟨_, rfl⟩
          rw [hpm] at hge z0d kz
          clear hp hpm z0
          refine region_tail 15 hW6d (by kernel_rfl) (by kernel_rfl) ?_
          simp only [List.take_succ_cons, List.take_zero, List.drop_succ_cons, List.drop_zero]
          repeat (go_big_quiet_step (fail))
          refine wpQuiet_nil ?_
          go_wp2_with fail
          refine (numbers_any wr.heap.size 0 W6d).mono ?_
          rintro e W7 ⟨rfl, hr7, hs7, hb7⟩
          have hn7 := Lib.hid (numRd_new H6d.out hr7 hb7)
          clear hr7
          go_wp2_with fail
          refine (containsFunc_sim W6d.heap.size wr.heap.size 0 (cntX c) _ hn7.out).mono ?_
          rintro e W8 ⟨rfl, rfl⟩
          have hbw : Below wr.heap.size wr W7 := HB6d.out.trans (hb7.mono HB6d.out.size)
          cases hbig : (cntX c).any bigN
          · have HBIG := Lib.hid hbig
            clear hbig
            go_wp2_with fail
            go_roundw
            case rel => exact ⟨m + 1 + 1, by omega, by go_num, Lib.hid (bvia hB.out hbw (Nat.le_refl _)), Lib.hid fun j hj => by
              by_cases hjm : j < m + 1
              · exact hG.out j hjm
              · obtain rfl : j = m + 1 := by omega
                exact ⟨fun _ => by rw [HCG.out, show m + 1 - 1 = m by omega]; exact HP.out, by rw [HCG.out]; exact HBIG.out⟩⟩
            case measure => simp [intOf]; omega
          · clear hbig
            go_wp2_with fail
            go_ret
            exact ⟨rfl, bvia HB.out (bvia hB.out hbw (Nat.le_refl _)) (Nat.le_refl _)⟩
        · have hge : decide (gi c 0 ≤ gi (gn ns m) 0) = true := by simp; omega
          obtain ⟨pm, hpm⟩ : ∃ pm, gi (gn ns m) 0 = pm := ⟨_, rfl⟩
          rw [hpm] at hge z0d kz
          clear hp hpm z0
          refine region_tail 15 hW6d (by kernel_rfl) (by kernel_rfl) ?_
          simp only [List.take_succ_cons, List.take_zero, List.drop_succ_cons, List.drop_zero]
          repeat (go_big_quiet_step (fail))
          refine wpQuiet_nil ?_
          go_wp2_with fail
          go_ret
          exact ⟨rfl, bvia HB.out (bvia hB.out HB6d.out (Nat.le_refl _)) (Nat.le_refl _)⟩
    · obtain rfl : k = ns.length := by omega
      exact absurd (fun j hj => hG.out j hj) HNO.out
end Go.Proofs.Ytdkacdfhapgboaa
