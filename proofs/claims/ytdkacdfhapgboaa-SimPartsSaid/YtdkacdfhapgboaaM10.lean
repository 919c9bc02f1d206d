/- Part 10 of the texts that the proof stands on: Sane. -/
import Derived.Test.YtdkacdfhapgboaaM09

/- sane hands back true. (printed by gen/san.py) -/
set_option linter.unusedVariables false
set_option linter.unusedSimpArgs false
namespace Go.Proofs.Ytdkacdfhapgboaa
open Go.RowKit

theorem checkA (w : World) : Calls Try.prog 34 #[.agg #[.int .i64 12, .int .i64 2, .int .i64 2]] w fun e w' => e = .returned (.int .i64 330) ∧ Below w.heap.size w w' := (checkShape_any 12 2 2 w).mono fun e w' h => ⟨h.1.trans (by kernel_rfl), h.2⟩
theorem checkB (w : World) : Calls Try.prog 34 #[.agg #[.int .i64 16, .int .i64 2, .int .i64 2]] w fun e w' => e = .returned (.int .i64 0) ∧ Below w.heap.size w w' := (checkShape_any 16 2 2 w).mono fun e w' h => ⟨h.1.trans (by kernel_rfl), h.2⟩
def LTf : Nat → List (List Int)
  | 0 => [[], []] | 1 => [[0], []] | 2 => [[2, 0], []] | 3 => [[4, 2], []] | 4 => [[2, 4], []] | _ => [[0, 2], []]
/-- What the loop carries. -/
def SRel (WM : World) (b2 : Nat) (L : List (List Int)) (wr : World) : Prop := ∃ g c vs, wr.heap[b2]? = some (.cells #[.int .i64 16, .int .i64 2, .int .i64 2, .slice (some ⟨g, 0, none⟩) 2 c] 36 (0, 0)) ∧ RdSets wr (some ⟨g, 0, none⟩) vs L ∧ Upd (fun k => k = b2) WM wr

theorem saneQ_top {w W : World} (hb : Below w.heap.size w W) : SaneB w.heap.size W (bodyPost Try.prog Try.f12 fun e w' => e = .returned (.bool true) ∧ Below w.heap.size w w') := fun a w' h1 h2 h3 =>
  bodyPost_ret (v := .bool true) (by simp [results, Try.results12, go_sem]; rw [← h1]; simp) h2 ⟨rfl, hb.trans h3⟩

attribute [local irreducible] World.setCell World.setRow in
set_option maxRecDepth 1000000 in
set_option maxHeartbeats 8000000 in
theorem sane_any (w : World) : Calls Try.prog 12 #[] w fun e w' => e = .returned (.bool true) ∧ Below w.heap.size w w' := by
  obtain ⟨W0, hW0⟩ : ∃ W, w.alloc (.cells #[.int .i64 16, .int .i64 2, .int .i64 2] 25) = W := ⟨_, rfl⟩
  have hb0 : Below w.heap.size w W0 := by rw [← hW0]; exact balloc _ _
  have hx0 : W0.heap[w.heap.size]? = some (.cells #[.int .i64 16, .int .i64 2, .int .i64 2] 25 (0, 0)) := by rw [← hW0]; exact heap_alloc_new _ _
  have HX0 := Lib.hid hx0
  have HB0 := Lib.hid hb0
  have x0 := boxAt (i := 0) hx0 rfl
  have x1 := boxAt (i := 1) hx0 rfl
  have x2 := boxAt (i := 2) hx0 rfl
  have hs0 : w.heap.size < W0.heap.size := (Array.getElem?_eq_some_iff.1 hx0).1
  clear hx0 hb0
  go_enter Try.func12, Try.ntmps12
  go_wp2_with fail
  refine (newCache_ok 16 2 2 (by kernel_rfl) W0).mono ?_
  rintro e W1 ⟨hb1, gc, rfl, ho⟩
  obtain ⟨V1, hV1⟩ : ∃ V, W1.alloc (.cells #[.int .i64 16, .int .i64 2, .int .i64 2, .slice (some ⟨gc, 0, none⟩) 2 2] 36) = V := ⟨_, rfl⟩
  have hbv : Below W1.heap.size W1 V1 := by rw [← hV1]; exact balloc _ _
  have hx1 : V1.heap[W1.heap.size]? = some (.cells #[.int .i64 16, .int .i64 2, .int .i64 2, .slice (some ⟨gc, 0, none⟩) 2 2] 36 (0, 0)) := by rw [← hV1]; exact heap_alloc_new _ _
  have HR1 := Lib.hid ((ho.rdSets (allU_new 2)).below hbv)
  have HC1 := Lib.hid hx1
  have hb01 := bvia hb1 hbv (Nat.le_refl _)
  have HX1 := Lib.hid (belowBox hb01 HX0.out)
  have HB1 := Lib.hid (bvia HB0.out hb01 (Nat.le_refl _))
  have hs1 : W0.heap.size ≤ W1.heap.size := hb1.size
  clear hbv hx1 ho hb1 x0 x1 x2 hb01 hW0
  go_wp2_with fail
  refine (checkA V1).mono ?_
  rintro e W2 ⟨rfl, hb2⟩
  have hx2 := belowBox hb2 HX1.out
  have x0 := boxAt (i := 0) hx2 rfl
  have x1 := boxAt (i := 1) hx2 rfl
  have x2 := boxAt (i := 2) hx2 rfl
  go_wp2_with fail
  refine (checkB W2).mono ?_
  rintro e W4 ⟨rfl, hb4⟩
  have hb24 := bvia hb2 hb4 (Nat.le_refl _)
  have HC4 := Lib.hid (belowBox hb24 HC1.out)
  have HX4 := Lib.hid (belowBox hb24 HX1.out)
  have HR4 := Lib.hid (HR1.out.below hb24)
  have HB4 := Lib.hid (bvia HB1.out hb24 (Nat.le_refl _))
  have hs4 : W1.heap.size < W4.heap.size := (Array.getElem?_eq_some_iff.1 HC4.out).1
  clear hb2 hb4 hb24 hx2 x0 x1 x2 hV1
  obtain ⟨WM, hWM⟩ : ∃ W, ((((W4.alloc (.cells #[.int .u32 0] 30)).alloc (.cells #[.int .u32 2] 30)).alloc (.cells #[.int .u32 4] 30)).alloc (.cells #[.int .u32 0] 30)).alloc (.cells #[.int .u32 0, .slice (some ⟨W4.heap.size, 0, none⟩) 1 1, .int .u32 32, .slice (some ⟨W4.heap.size + 1, 0, none⟩) 1 1, .int .u32 64, .slice (some ⟨W4.heap.size + 2, 0, none⟩) 1 1, .int .u32 32, .slice none 0 0, .int .u32 0, .slice (some ⟨W4.heap.size + 3, 0, none⟩) 1 1] 86) = W := ⟨_, rfl⟩
  have hbm : Below W4.heap.size W4 WM := by rw [← hWM]; exact (((((Below.refl _ _).alloc (Nat.le_refl _) _).alloc (by simp) _).alloc (by simp; omega) _).alloc (by simp; omega) _).alloc (by simp; omega) _
  have m0 : WM.heap[W4.heap.size]? = some (.cells #[.int .u32 0] 30 (0, 0)) := by rw [← hWM]; exact (heap_alloc_old _ _ (by simp; try omega)).trans ((heap_alloc_old _ _ (by simp; try omega)).trans ((heap_alloc_old _ _ (by simp; try omega)).trans ((heap_alloc_old _ _ (by simp; try omega)).trans (alloc_at _ _ _ (by simp)))))
  have m1 : WM.heap[W4.heap.size + 1]? = some (.cells #[.int .u32 2] 30 (0, 0)) := by rw [← hWM]; exact (heap_alloc_old _ _ (by simp; try omega)).trans ((heap_alloc_old _ _ (by simp; try omega)).trans ((heap_alloc_old _ _ (by simp; try omega)).trans (alloc_at _ _ _ (by simp))))
  have m2 : WM.heap[W4.heap.size + 2]? = some (.cells #[.int .u32 4] 30 (0, 0)) := by rw [← hWM]; exact (heap_alloc_old _ _ (by simp; try omega)).trans ((heap_alloc_old _ _ (by simp; try omega)).trans (alloc_at _ _ _ (by simp)))
  have m3 : WM.heap[W4.heap.size + 3]? = some (.cells #[.int .u32 0] 30 (0, 0)) := by rw [← hWM]; exact (heap_alloc_old _ _ (by simp; try omega)).trans (alloc_at _ _ _ (by simp))
  have mT : WM.heap[W4.heap.size + 4]? = some (.cells #[.int .u32 0, .slice (some ⟨W4.heap.size, 0, none⟩) 1 1, .int .u32 32, .slice (some ⟨W4.heap.size + 1, 0, none⟩) 1 1, .int .u32 64, .slice (some ⟨W4.heap.size + 2, 0, none⟩) 1 1, .int .u32 32, .slice none 0 0, .int .u32 0, .slice (some ⟨W4.heap.size + 3, 0, none⟩) 1 1] 86 (0, 0)) := by rw [← hWM]; exact alloc_at _ _ _ (by simp)
  have HMM := Lib.hid (And.intro m0 (And.intro m1 (And.intro m2 (And.intro m3 mT))))
  have HBM := Lib.hid hbm
  have HWM := Lib.hid hWM
  have hsm : W4.heap.size + 4 < WM.heap.size := (Array.getElem?_eq_some_iff.1 mT).1
  clear m0 m1 m2 m3 mT hbm hWM
  go_wp2_with fail
  rw [HWM.out]
  go_loopw [54] (fun i wr => ∃ k : Nat, k ≤ 5 ∧ i = .int .i64 k ∧ Hid (SRel WM W1.heap.size (LTf k) wr)) (fun i _ => 5 - (intOf i).toNat)
  case atStart => exact ⟨0, by omega, rfl, Lib.hid ⟨gc, 2, _, belowBox HBM.out HC4.out, HR4.out.below HBM.out, Upd.refl _ _⟩⟩
  case round =>
    obtain ⟨k, hk, rfl, hS⟩ := hrel
    obtain ⟨g, c, vs, hbx, hr, hu⟩ := hS.out
    have hwr : W1.heap.size < wr.heap.size := (Array.getElem?_eq_some_iff.1 hbx).1
    obtain ⟨m0, m1, m2, m3, mT⟩ := HMM.out
    have hM0 := (hu.block _ (by omega) (by omega)).trans m0
    have hM1 := (hu.block _ (by omega) (by omega)).trans m1
    have hM2 := (hu.block _ (by omega) (by omega)).trans m2
    have hM3 := (hu.block _ (by omega) (by omega)).trans m3
    have hT := (hu.block _ (by omega) (by omega)).trans mT
    clear hS m0 m1 m2 m3 mT
    have hk6 : k = 0 ∨ k = 1 ∨ k = 2 ∨ k = 3 ∨ k = 4 ∨ k = 5 := by omega
    rcases hk6 with rfl | rfl | rfl | rfl | rfl | rfl
    · obtain ⟨V1, hV1⟩ : ∃ V, wr.alloc (.cells #[.int .u32 0, .slice (some ⟨W4.heap.size, 0, none⟩) 1 1] 86) = V := ⟨_, rfl⟩
      have hb1 : Below wr.heap.size wr V1 := by rw [← hV1]; exact balloc _ _
      have hx1 : V1.heap[wr.heap.size]? = some (.cells #[.int .u32 0, .slice (some ⟨W4.heap.size, 0, none⟩) 1 1] 86 (0, 0)) := by rw [← hV1]; exact heap_alloc_new _ _
      have y0 := boxAt (i := 0) (belowBox hb1 hbx) rfl
      have y1 := boxAt (i := 1) (belowBox hb1 hbx) rfl
      have y2 := boxAt (i := 2) (belowBox hb1 hbx) rfl
      have y3 := boxAt (i := 3) (belowBox hb1 hbx) rfl
      have z0 := boxAt (i := 0) hx1 rfl
      have t0 := boxAt (i := 0) hT rfl
      have t1 := boxAt (i := 1) hT rfl
      have HR1 := Lib.hid (hr.below hb1)
      have HX1 := Lib.hid hx1
      have HB1 := Lib.hid hb1
      clear hb1 hx1
      go_wp2_with fail
      refine (Access_ok 16 2 (some ⟨g, 0, none⟩) c vs [[], []] 0 4 V1 HR1.out (of_decide_eq_true (by kernel_rfl)) (by simp) ⟨by omega, by omega⟩ ⟨by omega, by omega⟩ (by omega) (by omega)).mono ?_
      rintro e W5 ⟨g1, c1, vs1, vo, rfl, ho, hm, hb⟩
      have hres : runL (([[], []] : List (List Int)).length : Int) 2 [[], []] (linI 16 0 4) = ([[0], []], [0]) := by kernel_rfl
      rw [vals_linesL, hres] at hm ho
      clear hres
      obtain ⟨Am, cm, rfl, hrm⟩ := own_rd hm
      obtain ⟨V2, hV2⟩ : ∃ V, W5.alloc (.cells #[.int .i64 16, .int .i64 2, .int .i64 2, .slice (some ⟨g1, 0, none⟩) 2 c1] 36) = V := ⟨_, rfl⟩
      have hb2 : Below W5.heap.size W5 V2 := by rw [← hV2]; exact balloc _ _
      have hx2 : V2.heap[W5.heap.size]? = some (.cells #[.int .i64 16, .int .i64 2, .int .i64 2, .slice (some ⟨g1, 0, none⟩) 2 c1] 36 (0, 0)) := by rw [← hV2]; exact heap_alloc_new _ _
      have hb3 : Below wr.heap.size wr V2 := bvia HB1.out (bvia hb hb2 (Nat.le_refl _)) (Nat.le_refl _)
      have HM := Lib.hid (Rd.below hrm hb2)
      have HW := Lib.hid (rdI_box (k := .u32) (xs := [0]) (belowBox hb3 (hM0)) (by decide))
      have w1 := boxAt (i := 1) (belowBox (bvia hb hb2 (Nat.le_refl _)) HX1.out) rfl
      have HO := Lib.hid (ho.upd (Upd.of_below hb2) fun k hk e => by have := (ho.foot_lt k hk).2; omega)
      have hs5 : wr.heap.size < V1.heap.size := (Array.getElem?_eq_some_iff.1 HX1.out).1
      have hs6 : V1.heap.size ≤ W5.heap.size := hb.size
      have HX2 := Lib.hid hx2
      have HBX := Lib.hid (belowBox hb3 hbx)
      have HB3 := Lib.hid hb3
      clear hm hrm hb hb2 hb3 hx2 ho y0 y1 y2 y3 z0 t0 t1
      go_wp2_with fail
      refine (equal_u32 Am (some ⟨W4.heap.size, 0, none⟩) 1 cm 1 1 [0] [0] V2 HM.out HW.out).mono ?_
      rintro e W6 ⟨rfl, hb6⟩
      rw [show decide (([0] : List Int) = [0]) = true from rfl]
      have hx6 := belowBox hb6 HX2.out
      have x0 := boxAt (i := 0) hx6 rfl
      have x1 := boxAt (i := 1) hx6 rfl
      have x2 := boxAt (i := 2) hx6 rfl
      have x3 := boxAt (i := 3) hx6 rfl
      have hbx6 := belowBox hb6 HBX.out
      have y0 := boxAt (i := 0) hbx6 rfl
      have y1 := boxAt (i := 1) hbx6 rfl
      have y2 := boxAt (i := 2) hbx6 rfl
      have y3 := boxAt (i := 3) hbx6 rfl
      have yd : ∀ o, W6.frozen? ⟨W1.heap.size, o, none⟩ = false := fun o => boxFree hbx6
      have HB6 := Lib.hid (bvia HB3.out hb6 (Nat.le_refl _))
      have HO6 := Lib.hid (HO.out.upd (Upd.of_below hb6) fun k hk e => by have := (HO.out.foot_lt k hk).2; omega)
      have HBX6 := Lib.hid hbx6
      clear hx6 hbx6 hb6
      go_wp2_with fail
      go_roundw
      case rel =>
        refine ⟨1, by omega, rfl, Lib.hid ⟨g1, c1, vs1, set1_heap (set1_heap (set1_heap (set1_heap HBX6.out 0 _) 1 _) 2 _) 3 _, (HO6.out.upd (F := fun k => k = W1.heap.size) (by (repeat refine Upd.set ?_ (by rfl) _ _); exact Upd.refl _ _) fun k hk (e : k = W1.heap.size) => by have := (HO6.out.foot_lt k hk).1; omega).rdSets (of_decide_eq_true (by kernel_rfl)), hu.trans (((Upd.of_below HB6.out).mono (G := fun k => k = W1.heap.size ∨ wr.heap.size ≤ k) fun _ h => .inr h).trans (by (repeat refine Upd.set ?_ (by rfl) _ _); exact Upd.refl _ _) fun k (h : k = W1.heap.size) => .inl (.inl h)) fun k hk => ?_⟩⟩
        rcases hk with h | h
        · exact .inl h
        · exact .inr (Nat.le_trans hu.size h)
      case measure => simp [intOf]
    · obtain ⟨V1, hV1⟩ : ∃ V, wr.alloc (.cells #[.int .u32 32, .slice (some ⟨W4.heap.size + 1, 0, none⟩) 1 1] 86) = V := ⟨_, rfl⟩
      have hb1 : Below wr.heap.size wr V1 := by rw [← hV1]; exact balloc _ _
      have hx1 : V1.heap[wr.heap.size]? = some (.cells #[.int .u32 32, .slice (some ⟨W4.heap.size + 1, 0, none⟩) 1 1] 86 (0, 0)) := by rw [← hV1]; exact heap_alloc_new _ _
      have y0 := boxAt (i := 0) (belowBox hb1 hbx) rfl
      have y1 := boxAt (i := 1) (belowBox hb1 hbx) rfl
      have y2 := boxAt (i := 2) (belowBox hb1 hbx) rfl
      have y3 := boxAt (i := 3) (belowBox hb1 hbx) rfl
      have z0 := boxAt (i := 0) hx1 rfl
      have t0 := boxAt (i := 2) hT rfl
      have t1 := boxAt (i := 3) hT rfl
      have HR1 := Lib.hid (hr.below hb1)
      have HX1 := Lib.hid hx1
      have HB1 := Lib.hid hb1
      clear hb1 hx1
      go_wp2_with fail
      refine (Access_ok 16 2 (some ⟨g, 0, none⟩) c vs [[0], []] 32 4 V1 HR1.out (of_decide_eq_true (by kernel_rfl)) (by simp) ⟨by omega, by omega⟩ ⟨by omega, by omega⟩ (by omega) (by omega)).mono ?_
      rintro e W5 ⟨g1, c1, vs1, vo, rfl, ho, hm, hb⟩
      have hres : runL (([[0], []] : List (List Int)).length : Int) 2 [[0], []] (linI 16 32 4) = ([[2, 0], []], [2]) := by kernel_rfl
      rw [vals_linesL, hres] at hm ho
      clear hres
      obtain ⟨Am, cm, rfl, hrm⟩ := own_rd hm
      obtain ⟨V2, hV2⟩ : ∃ V, W5.alloc (.cells #[.int .i64 16, .int .i64 2, .int .i64 2, .slice (some ⟨g1, 0, none⟩) 2 c1] 36) = V := ⟨_, rfl⟩
      have hb2 : Below W5.heap.size W5 V2 := by rw [← hV2]; exact balloc _ _
      have hx2 : V2.heap[W5.heap.size]? = some (.cells #[.int .i64 16, .int .i64 2, .int .i64 2, .slice (some ⟨g1, 0, none⟩) 2 c1] 36 (0, 0)) := by rw [← hV2]; exact heap_alloc_new _ _
      have hb3 : Below wr.heap.size wr V2 := bvia HB1.out (bvia hb hb2 (Nat.le_refl _)) (Nat.le_refl _)
      have HM := Lib.hid (Rd.below hrm hb2)
      have HW := Lib.hid (rdI_box (k := .u32) (xs := [2]) (belowBox hb3 (hM1)) (by decide))
      have w1 := boxAt (i := 1) (belowBox (bvia hb hb2 (Nat.le_refl _)) HX1.out) rfl
      have HO := Lib.hid (ho.upd (Upd.of_below hb2) fun k hk e => by have := (ho.foot_lt k hk).2; omega)
      have hs5 : wr.heap.size < V1.heap.size := (Array.getElem?_eq_some_iff.1 HX1.out).1
      have hs6 : V1.heap.size ≤ W5.heap.size := hb.size
      have HX2 := Lib.hid hx2
      have HBX := Lib.hid (belowBox hb3 hbx)
      have HB3 := Lib.hid hb3
      clear hm hrm hb hb2 hb3 hx2 ho y0 y1 y2 y3 z0 t0 t1
      go_wp2_with fail
      refine (equal_u32 Am (some ⟨W4.heap.size + 1, 0, none⟩) 1 cm 1 1 [2] [2] V2 HM.out HW.out).mono ?_
      rintro e W6 ⟨rfl, hb6⟩
      rw [show decide (([2] : List Int) = [2]) = true from rfl]
      have hx6 := belowBox hb6 HX2.out
      have x0 := boxAt (i := 0) hx6 rfl
      have x1 := boxAt (i := 1) hx6 rfl
      have x2 := boxAt (i := 2) hx6 rfl
      have x3 := boxAt (i := 3) hx6 rfl
      have hbx6 := belowBox hb6 HBX.out
      have y0 := boxAt (i := 0) hbx6 rfl
      have y1 := boxAt (i := 1) hbx6 rfl
      have y2 := boxAt (i := 2) hbx6 rfl
      have y3 := boxAt (i := 3) hbx6 rfl
      have yd : ∀ o, W6.frozen? ⟨W1.heap.size, o, none⟩ = false := fun o => boxFree hbx6
      have HB6 := Lib.hid (bvia HB3.out hb6 (Nat.le_refl _))
      have HO6 := Lib.hid (HO.out.upd (Upd.of_below hb6) fun k hk e => by have := (HO.out.foot_lt k hk).2; omega)
      have HBX6 := Lib.hid hbx6
      clear hx6 hbx6 hb6
      go_wp2_with fail
      go_roundw
      case rel =>
        refine ⟨2, by omega, rfl, Lib.hid ⟨g1, c1, vs1, set1_heap (set1_heap (set1_heap (set1_heap HBX6.out 0 _) 1 _) 2 _) 3 _, (HO6.out.upd (F := fun k => k = W1.heap.size) (by (repeat refine Upd.set ?_ (by rfl) _ _); exact Upd.refl _ _) fun k hk (e : k = W1.heap.size) => by have := (HO6.out.foot_lt k hk).1; omega).rdSets (of_decide_eq_true (by kernel_rfl)), hu.trans (((Upd.of_below HB6.out).mono (G := fun k => k = W1.heap.size ∨ wr.heap.size ≤ k) fun _ h => .inr h).trans (by (repeat refine Upd.set ?_ (by rfl) _ _); exact Upd.refl _ _) fun k (h : k = W1.heap.size) => .inl (.inl h)) fun k hk => ?_⟩⟩
        rcases hk with h | h
        · exact .inl h
        · exact .inr (Nat.le_trans hu.size h)
      case measure => simp [intOf]
    · obtain ⟨V1, hV1⟩ : ∃ V, wr.alloc (.cells #[.int .u32 64, .slice (some ⟨W4.heap.size + 2, 0, none⟩) 1 1] 86) = V := ⟨_, rfl⟩
      have hb1 : Below wr.heap.size wr V1 := by rw [← hV1]; exact balloc _ _
      have hx1 : V1.heap[wr.heap.size]? = some (.cells #[.int .u32 64, .slice (some ⟨W4.heap.size + 2, 0, none⟩) 1 1] 86 (0, 0)) := by rw [← hV1]; exact heap_alloc_new _ _
      have y0 := boxAt (i := 0) (belowBox hb1 hbx) rfl
      have y1 := boxAt (i := 1) (belowBox hb1 hbx) rfl
      have y2 := boxAt (i := 2) (belowBox hb1 hbx) rfl
      have y3 := boxAt (i := 3) (belowBox hb1 hbx) rfl
      have z0 := boxAt (i := 0) hx1 rfl
      have t0 := boxAt (i := 4) hT rfl
      have t1 := boxAt (i := 5) hT rfl
      have HR1 := Lib.hid (hr.below hb1)
      have HX1 := Lib.hid hx1
      have HB1 := Lib.hid hb1
      clear hb1 hx1
      go_wp2_with fail
      refine (Access_ok 16 2 (some ⟨g, 0, none⟩) c vs [[2, 0], []] 64 4 V1 HR1.out (of_decide_eq_true (by kernel_rfl)) (by simp) ⟨by omega, by omega⟩ ⟨by omega, by omega⟩ (by omega) (by omega)).mono ?_
      rintro e W5 ⟨g1, c1, vs1, vo, rfl, ho, hm, hb⟩
      have hres : runL (([[2, 0], []] : List (List Int)).length : Int) 2 [[2, 0], []] (linI 16 64 4) = ([[4, 2], []], [4]) := by kernel_rfl
      rw [vals_linesL, hres] at hm ho
      clear hres
      obtain ⟨Am, cm, rfl, hrm⟩ := own_rd hm
      obtain ⟨V2, hV2⟩ : ∃ V, W5.alloc (.cells #[.int .i64 16, .int .i64 2, .int .i64 2, .slice (some ⟨g1, 0, none⟩) 2 c1] 36) = V := ⟨_, rfl⟩
      have hb2 : Below W5.heap.size W5 V2 := by rw [← hV2]; exact balloc _ _
      have hx2 : V2.heap[W5.heap.size]? = some (.cells #[.int .i64 16, .int .i64 2, .int .i64 2, .slice (some ⟨g1, 0, none⟩) 2 c1] 36 (0, 0)) := by rw [← hV2]; exact heap_alloc_new _ _
      have hb3 : Below wr.heap.size wr V2 := bvia HB1.out (bvia hb hb2 (Nat.le_refl _)) (Nat.le_refl _)
      have HM := Lib.hid (Rd.below hrm hb2)
      have HW := Lib.hid (rdI_box (k := .u32) (xs := [4]) (belowBox hb3 (hM2)) (by decide))
      have w1 := boxAt (i := 1) (belowBox (bvia hb hb2 (Nat.le_refl _)) HX1.out) rfl
      have HO := Lib.hid (ho.upd (Upd.of_below hb2) fun k hk e => by have := (ho.foot_lt k hk).2; omega)
      have hs5 : wr.heap.size < V1.heap.size := (Array.getElem?_eq_some_iff.1 HX1.out).1
      have hs6 : V1.heap.size ≤ W5.heap.size := hb.size
      have HX2 := Lib.hid hx2
      have HBX := Lib.hid (belowBox hb3 hbx)
      have HB3 := Lib.hid hb3
      clear hm hrm hb hb2 hb3 hx2 ho y0 y1 y2 y3 z0 t0 t1
      go_wp2_with fail
      refine (equal_u32 Am (some ⟨W4.heap.size + 2, 0, none⟩) 1 cm 1 1 [4] [4] V2 HM.out HW.out).mono ?_
      rintro e W6 ⟨rfl, hb6⟩
      rw [show decide (([4] : List Int) = [4]) = true from rfl]
      have hx6 := belowBox hb6 HX2.out
      have x0 := boxAt (i := 0) hx6 rfl
      have x1 := boxAt (i := 1) hx6 rfl
      have x2 := boxAt (i := 2) hx6 rfl
      have x3 := boxAt (i := 3) hx6 rfl
      have hbx6 := belowBox hb6 HBX.out
      have y0 := boxAt (i := 0) hbx6 rfl
      have y1 := boxAt (i := 1) hbx6 rfl
      have y2 := boxAt (i := 2) hbx6 rfl
      have y3 := boxAt (i := 3) hbx6 rfl
      have yd : ∀ o, W6.frozen? ⟨W1.heap.size, o, none⟩ = false := fun o => boxFree hbx6
      have HB6 := Lib.hid (bvia HB3.out hb6 (Nat.le_refl _))
      have HO6 := Lib.hid (HO.out.upd (Upd.of_below hb6) fun k hk e => by have := (HO.out.foot_lt k hk).2; omega)
      have HBX6 := Lib.hid hbx6
      clear hx6 hbx6 hb6
      go_wp2_with fail
      go_roundw
      case rel =>
        refine ⟨3, by omega, rfl, Lib.hid ⟨g1, c1, vs1, set1_heap (set1_heap (set1_heap (set1_heap HBX6.out 0 _) 1 _) 2 _) 3 _, (HO6.out.upd (F := fun k => k = W1.heap.size) (by (repeat refine Upd.set ?_ (by rfl) _ _); exact Upd.refl _ _) fun k hk (e : k = W1.heap.size) => by have := (HO6.out.foot_lt k hk).1; omega).rdSets (of_decide_eq_true (by kernel_rfl)), hu.trans (((Upd.of_below HB6.out).mono (G := fun k => k = W1.heap.size ∨ wr.heap.size ≤ k) fun _ h => .inr h).trans (by (repeat refine Upd.set ?_ (by rfl) _ _); exact Upd.refl _ _) fun k (h : k = W1.heap.size) => .inl (.inl h)) fun k hk => ?_⟩⟩
        rcases hk with h | h
        · exact .inl h
        · exact .inr (Nat.le_trans hu.size h)
      case measure => simp [intOf]
    · obtain ⟨V1, hV1⟩ : ∃ V, wr.alloc (.cells #[.int .u32 32, .slice none 0 0] 86) = V := ⟨_, rfl⟩
      have hb1 : Below wr.heap.size wr V1 := by rw [← hV1]; exact balloc _ _
      have hx1 : V1.heap[wr.heap.size]? = some (.cells #[.int .u32 32, .slice none 0 0] 86 (0, 0)) := by rw [← hV1]; exact heap_alloc_new _ _
      have y0 := boxAt (i := 0) hbx rfl
      have y1 := boxAt (i := 1) hbx rfl
      have y2 := boxAt (i := 2) hbx rfl
      have y3 := boxAt (i := 3) hbx rfl
      have HV1 := Lib.hid hV1
      have t0 := boxAt (i := 6) hT rfl
      have t1 := boxAt (i := 7) hT rfl
      have HR1 := Lib.hid (hr.below hb1)
      have HX1 := Lib.hid hx1
      have HB1 := Lib.hid hb1
      clear hb1 hx1 hV1
      go_wp2_with fail
      rw [HV1.out]
      refine (Access_ok 16 2 (some ⟨g, 0, none⟩) c vs [[4, 2], []] 32 4 V1 HR1.out (of_decide_eq_true (by kernel_rfl)) (by simp) ⟨by omega, by omega⟩ ⟨by omega, by omega⟩ (by omega) (by omega)).mono ?_
      rintro e W5 ⟨g1, c1, vs1, vo, rfl, ho, hm, hb⟩
      have hres : runL (([[4, 2], []] : List (List Int)).length : Int) 2 [[4, 2], []] (linI 16 32 4) = ([[2, 4], []], []) := by kernel_rfl
      rw [vals_linesL, hres] at hm ho
      clear hres
      obtain ⟨Am, cm, rfl, hrm⟩ := own_rd hm
      obtain ⟨V2, hV2⟩ : ∃ V, W5.alloc (.cells #[.int .i64 16, .int .i64 2, .int .i64 2, .slice (some ⟨g1, 0, none⟩) 2 c1] 36) = V := ⟨_, rfl⟩
      have hb2 : Below W5.heap.size W5 V2 := by rw [← hV2]; exact balloc _ _
      have hx2 : V2.heap[W5.heap.size]? = some (.cells #[.int .i64 16, .int .i64 2, .int .i64 2, .slice (some ⟨g1, 0, none⟩) 2 c1] 36 (0, 0)) := by rw [← hV2]; exact heap_alloc_new _ _
      have hb3 : Below wr.heap.size wr V2 := bvia HB1.out (bvia hb hb2 (Nat.le_refl _)) (Nat.le_refl _)
      have HM := Lib.hid (Rd.below hrm hb2)
      have HW := Lib.hid (rdI_nil V2 .u32)
      have w1 := boxAt (i := 1) (belowBox (bvia hb hb2 (Nat.le_refl _)) HX1.out) rfl
      have HO := Lib.hid (ho.upd (Upd.of_below hb2) fun k hk e => by have := (ho.foot_lt k hk).2; omega)
      have hs5 : wr.heap.size < V1.heap.size := (Array.getElem?_eq_some_iff.1 HX1.out).1
      have hs6 : V1.heap.size ≤ W5.heap.size := hb.size
      have HX2 := Lib.hid hx2
      have HBX := Lib.hid (belowBox hb3 hbx)
      have HB3 := Lib.hid hb3
      clear hm hrm hb hb2 hb3 hx2 ho y0 y1 y2 y3 t0 t1
      go_wp2_with fail
      refine (equal_u32 Am none 0 cm 0 0 [] [] V2 HM.out HW.out).mono ?_
      rintro e W6 ⟨rfl, hb6⟩
      rw [show decide (([] : List Int) = []) = true from rfl]
      have hx6 := belowBox hb6 HX2.out
      have x0 := boxAt (i := 0) hx6 rfl
      have x1 := boxAt (i := 1) hx6 rfl
      have x2 := boxAt (i := 2) hx6 rfl
      have x3 := boxAt (i := 3) hx6 rfl
      have hbx6 := belowBox hb6 HBX.out
      have y0 := boxAt (i := 0) hbx6 rfl
      have y1 := boxAt (i := 1) hbx6 rfl
      have y2 := boxAt (i := 2) hbx6 rfl
      have y3 := boxAt (i := 3) hbx6 rfl
      have yd : ∀ o, W6.frozen? ⟨W1.heap.size, o, none⟩ = false := fun o => boxFree hbx6
      have HB6 := Lib.hid (bvia HB3.out hb6 (Nat.le_refl _))
      have HO6 := Lib.hid (HO.out.upd (Upd.of_below hb6) fun k hk e => by have := (HO.out.foot_lt k hk).2; omega)
      have HBX6 := Lib.hid hbx6
      clear hx6 hbx6 hb6
      go_wp2_with fail
      go_roundw
      case rel =>
        refine ⟨4, by omega, rfl, Lib.hid ⟨g1, c1, vs1, set1_heap (set1_heap (set1_heap (set1_heap HBX6.out 0 _) 1 _) 2 _) 3 _, (HO6.out.upd (F := fun k => k = W1.heap.size) (by (repeat refine Upd.set ?_ (by rfl) _ _); exact Upd.refl _ _) fun k hk (e : k = W1.heap.size) => by have := (HO6.out.foot_lt k hk).1; omega).rdSets (of_decide_eq_true (by kernel_rfl)), hu.trans (((Upd.of_below HB6.out).mono (G := fun k => k = W1.heap.size ∨ wr.heap.size ≤ k) fun _ h => .inr h).trans (by (repeat refine Upd.set ?_ (by rfl) _ _); exact Upd.refl _ _) fun k (h : k = W1.heap.size) => .inl (.inl h)) fun k hk => ?_⟩⟩
        rcases hk with h | h
        · exact .inl h
        · exact .inr (Nat.le_trans hu.size h)
      case measure => simp [intOf]
    · obtain ⟨V1, hV1⟩ : ∃ V, wr.alloc (.cells #[.int .u32 0, .slice (some ⟨W4.heap.size + 3, 0, none⟩) 1 1] 86) = V := ⟨_, rfl⟩
      have hb1 : Below wr.heap.size wr V1 := by rw [← hV1]; exact balloc _ _
      have hx1 : V1.heap[wr.heap.size]? = some (.cells #[.int .u32 0, .slice (some ⟨W4.heap.size + 3, 0, none⟩) 1 1] 86 (0, 0)) := by rw [← hV1]; exact heap_alloc_new _ _
      have y0 := boxAt (i := 0) (belowBox hb1 hbx) rfl
      have y1 := boxAt (i := 1) (belowBox hb1 hbx) rfl
      have y2 := boxAt (i := 2) (belowBox hb1 hbx) rfl
      have y3 := boxAt (i := 3) (belowBox hb1 hbx) rfl
      have z0 := boxAt (i := 0) hx1 rfl
      have t0 := boxAt (i := 8) hT rfl
      have t1 := boxAt (i := 9) hT rfl
      have HR1 := Lib.hid (hr.below hb1)
      have HX1 := Lib.hid hx1
      have HB1 := Lib.hid hb1
      clear hb1 hx1
      go_wp2_with fail
      refine (Access_ok 16 2 (some ⟨g, 0, none⟩) c vs [[2, 4], []] 0 4 V1 HR1.out (of_decide_eq_true (by kernel_rfl)) (by simp) ⟨by omega, by omega⟩ ⟨by omega, by omega⟩ (by omega) (by omega)).mono ?_
      rintro e W5 ⟨g1, c1, vs1, vo, rfl, ho, hm, hb⟩
      have hres : runL (([[2, 4], []] : List (List Int)).length : Int) 2 [[2, 4], []] (linI 16 0 4) = ([[0, 2], []], [0]) := by kernel_rfl
      rw [vals_linesL, hres] at hm ho
      clear hres
      obtain ⟨Am, cm, rfl, hrm⟩ := own_rd hm
      obtain ⟨V2, hV2⟩ : ∃ V, W5.alloc (.cells #[.int .i64 16, .int .i64 2, .int .i64 2, .slice (some ⟨g1, 0, none⟩) 2 c1] 36) = V := ⟨_, rfl⟩
      have hb2 : Below W5.heap.size W5 V2 := by rw [← hV2]; exact balloc _ _
      have hx2 : V2.heap[W5.heap.size]? = some (.cells #[.int .i64 16, .int .i64 2, .int .i64 2, .slice (some ⟨g1, 0, none⟩) 2 c1] 36 (0, 0)) := by rw [← hV2]; exact heap_alloc_new _ _
      have hb3 : Below wr.heap.size wr V2 := bvia HB1.out (bvia hb hb2 (Nat.le_refl _)) (Nat.le_refl _)
      have HM := Lib.hid (Rd.below hrm hb2)
      have HW := Lib.hid (rdI_box (k := .u32) (xs := [0]) (belowBox hb3 (hM3)) (by decide))
      have w1 := boxAt (i := 1) (belowBox (bvia hb hb2 (Nat.le_refl _)) HX1.out) rfl
      have HO := Lib.hid (ho.upd (Upd.of_below hb2) fun k hk e => by have := (ho.foot_lt k hk).2; omega)
      have hs5 : wr.heap.size < V1.heap.size := (Array.getElem?_eq_some_iff.1 HX1.out).1
      have hs6 : V1.heap.size ≤ W5.heap.size := hb.size
      have HX2 := Lib.hid hx2
      have HBX := Lib.hid (belowBox hb3 hbx)
      have HB3 := Lib.hid hb3
      clear hm hrm hb hb2 hb3 hx2 ho y0 y1 y2 y3 z0 t0 t1
      go_wp2_with fail
      refine (equal_u32 Am (some ⟨W4.heap.size + 3, 0, none⟩) 1 cm 1 1 [0] [0] V2 HM.out HW.out).mono ?_
      rintro e W6 ⟨rfl, hb6⟩
      rw [show decide (([0] : List Int) = [0]) = true from rfl]
      have hx6 := belowBox hb6 HX2.out
      have x0 := boxAt (i := 0) hx6 rfl
      have x1 := boxAt (i := 1) hx6 rfl
      have x2 := boxAt (i := 2) hx6 rfl
      have x3 := boxAt (i := 3) hx6 rfl
      have hbx6 := belowBox hb6 HBX.out
      have y0 := boxAt (i := 0) hbx6 rfl
      have y1 := boxAt (i := 1) hbx6 rfl
      have y2 := boxAt (i := 2) hbx6 rfl
      have y3 := boxAt (i := 3) hbx6 rfl
      have yd : ∀ o, W6.frozen? ⟨W1.heap.size, o, none⟩ = false := fun o => boxFree hbx6
      have HB6 := Lib.hid (bvia HB3.out hb6 (Nat.le_refl _))
      have HO6 := Lib.hid (HO.out.upd (Upd.of_below hb6) fun k hk e => by have := (HO.out.foot_lt k hk).2; omega)
      have HBX6 := Lib.hid hbx6
      clear hx6 hbx6 hb6
      go_wp2_with fail
      go_roundw
      case rel =>
        refine ⟨5, by omega, rfl, Lib.hid ⟨g1, c1, vs1, set1_heap (set1_heap (set1_heap (set1_heap HBX6.out 0 _) 1 _) 2 _) 3 _, (HO6.out.upd (F := fun k => k = W1.heap.size) (by (repeat refine Upd.set ?_ (by rfl) _ _); exact Upd.refl _ _) fun k hk (e : k = W1.heap.size) => by have := (HO6.out.foot_lt k hk).1; omega).rdSets (of_decide_eq_true (by kernel_rfl)), hu.trans (((Upd.of_below HB6.out).mono (G := fun k => k = W1.heap.size ∨ wr.heap.size ≤ k) fun _ h => .inr h).trans (by (repeat refine Upd.set ?_ (by rfl) _ _); exact Upd.refl _ _) fun k (h : k = W1.heap.size) => .inl (.inl h)) fun k hk => ?_⟩⟩
        rcases hk with h | h
        · exact .inl h
        · exact .inr (Nat.le_trans hu.size h)
      case measure => simp [intOf]
    · have hbw := hbx
      have y0 := boxAt (i := 0) hbx rfl
      have y1 := boxAt (i := 1) hbx rfl
      have y2 := boxAt (i := 2) hbx rfl
      have y3 := boxAt (i := 3) hbx rfl
      obtain ⟨ad0, e0, s0⟩ := hr.at 0 (by decide)
      cases e0
      obtain ⟨ad1, e1, s1⟩ := hr.at 1 (by decide)
      cases e1
      rw [add_off] at s0 s1
      obtain ⟨A0, c0, v0, _, _, hr0⟩ := (hr.each 0 (by decide)).rd
      obtain ⟨A1, c1, v1, _, _, hr1⟩ := (hr.each 1 (by decide)).rd
      rw [v0] at s0
      rw [v1] at s1
      have hl0 : (gl (LTf 5) 0).length = 2 := rfl
      have hl1 : (gl (LTf 5) 1).length = 0 := rfl
      rw [hl0] at s0
      rw [hl1] at s1
      have HR0 := Lib.hid (show RdI wr .u32 A0 2 [0, 2] from hr0)
      have HRR := Lib.hid (show RdSets wr (some ⟨g, 0, none⟩) vs [[0, 2], []] from hr)
      have HBX := Lib.hid hbx
      have HU := Lib.hid hu
      have HXX := Lib.hid ((hu.block _ (by have := hsm; have := hs1; omega) (by omega)).trans (belowBox HBM.out HX4.out))
      obtain ⟨V2, hV2⟩ : ∃ V, wr.alloc (.cells #[.int .u32 0, .int .u32 2] 30) = V := ⟨_, rfl⟩
      have hb2 : Below wr.heap.size wr V2 := by rw [← hV2]; exact balloc _ _
      have HI := Lib.hid (rdI_box (k := .u32) (xs := [0, 2]) (show V2.heap[wr.heap.size]? = _ by rw [← hV2]; exact heap_alloc_new _ _) (by decide))
      have HB2 := Lib.hid hb2
      clear hbw hbx hr hu hb2 v0 v1 hr0 hr1 hl0 hl1 hM0 hM1 hM2 hM3 hT
      go_wp2_with fail
      refine (equal_u32 A0 (some ⟨wr.heap.size, 0, none⟩) 2 c0 2 2 [0, 2] [0, 2] V2 (Rd.below HR0.out HB2.out) HI.out).mono ?_
      rintro e V3 ⟨rfl, hb3⟩
      rw [show decide (([0, 2] : List Int) = [0, 2]) = true from rfl]
      have hb13 := bvia HB2.out hb3 (Nat.le_refl _)
      replace y0 := bkeep hb13 y0
      replace y1 := bkeep hb13 y1
      replace y2 := bkeep hb13 y2
      replace y3 := bkeep hb13 y3
      replace s1 := bkeep hb13 s1
      have HBX3 := Lib.hid (belowBox hb13 HBX.out)
      have HR3 := Lib.hid (HRR.out.below hb13)
      have HX3 := Lib.hid (belowBox hb13 HXX.out)
      have HB3 := Lib.hid hb13
      clear hb3 hb13 s0 hV2
      go_wp2_with fail
      refine (checkCache_any 16 2 2 (some ⟨g, 0, none⟩) c vs [[0, 2], []] V3 HR3.out).mono ?_
      rintro e V4 ⟨rfl, hb4⟩
      rw [if_pos cacheB]
      have HBX4 := Lib.hid (belowBox hb4 HBX3.out)
      have HR5 := Lib.hid (HR3.out.below hb4)
      have HX5 := Lib.hid (belowBox hb4 HX3.out)
      have hbw : Below w.heap.size w V4 := (bvia HB4.out HBM.out (Nat.le_refl _)).trans ((HU.out.below (by have := HBM.out.size; omega) fun k (h : k = W1.heap.size) => by omega).trans ((bvia HB3.out hb4 (Nat.le_refl _)).mono (by have := HU.out.size; omega)))
      have HBW := Lib.hid hbw
      have hs8 := hbw.size
      clear hb4 hbw y0 y1 y2 y3 s1
      go_upto_region 15 with fail
      exact san_b w.heap.size w.heap.size W1.heap.size g c vs V4 _ _ _ _ _ _ _ _ _ _ _ _ _ _ _ _ _ _ _ _ _ _ _ _ _ _ _ _ _ _ _ _ _ _ _ _ _ _ _ _ _ _ _ _ _ _ _ _ _ _ _ _ _ _ _ _ _ _ _ _ _ _ _ _ _ _ _ _ _ _ _ _ _ _ _ _ _ _ _ _ _ _ _ _ _ _ _ _ _ _ _ _ _ _ _ _ _ _ _ _ _ _ _ _ _ _ _ _ _ _ _ _ _ _ _ _ _ _ _ _ _ _ _ _ _ _ _ _ _ _ _ _ _ _ _ _ _ _ _ _ _ _ _ _ _ _ _ _ _ _ _ _ _ _ _ _ _ _ _ _ _ _ _ _ _ _ _ _ _ _ _ _ _ _ _ _ _ _ _ _ _ _ _ _ _ _ _ _ _ _ _ _ _ _ _ _ _ _ _ _ _ _ _ _ _ _ _ _ _ _ _ _ _ _ _ _ _ _ _ _ _ _ _ _ _ _ _ _ _ _ _ _ _ _ _ _ _ _ _ _ _ _ _ _ _ _ _ _ _ _ _ _ _ _ _ _ _ _ _ _ _ _ _ _ _ _ _ _ _ _ _ _ _ _ _ _ _ _ _ _ _ _ _ _ _ _ _  HX5.out HBX4.out HR5.out hs8 (saneQ_top HBW.out) _ (by assumption)
end Go.Proofs.Ytdkacdfhapgboaa
