/- Part 6 of the texts that the proof stands on: Feed. -/
import Derived.Test.YtdkacdfhapgboaaM05
import Derived.Deep.RegionHeld3
import Derived.Deep.CutBlock

/- sim.Feed of a simulation without numbers, fed events of one instruction. (printed by gen/feed.py) -/
set_option linter.unusedVariables false
set_option linter.unusedSimpArgs false
namespace Go.Proofs.Ytdkacdfhapgboaa
open Go.RowKit

attribute [local irreducible] World.setCell in
set_option maxRecDepth 100000 in
set_option maxHeartbeats 4000000 in
theorem Feed_one (il iw dl dw ll lw pt ph pr : Int) (AI AD AL A R AE : Option Addr) (ci cd cl ca ra ce : Nat) (vI vD vL : List Value) (LI LD LL : List (List Int)) (cs rs : List Int) (hist : Int) (es : List (List Int)) (p0 : Int) (w : World)
    (hs : simShapeB ⟨il, LI.length, iw, dl, LD.length, dw, ll, LL.length, lw, pt, ph, pr⟩ = true) (hI : RdSets w AI vI LI) (hD : RdSets w AD vD LD) (hL : RdSets w AL vL LL) (nI : AI = none → ci = 0) (nD : AD = none → cd = 0) (nL : AL = none → cl = 0) (hc : RdP w A ca cs R ra rs) (he : RdE w AE es)
    (oI : cacheOk il LI.length iw LI) (oD : cacheOk dl LD.length dw LD) (oL : cacheOk ll LL.length lw LL) (oP : predOk pt ph pr cs hist rs) (hh : 0 ≤ hist ∧ hist < 4294967296) (hel1 : 1 ≤ es.length) (hel : es.length ≤ 200)
    (hev : ∀ k, k < es.length → Ev1 p0 (gn es k)) (hp0 : 0 ≤ p0 ∧ p0 < 4294967296) :
    Calls Try.prog 28 #[.agg #[.int .i64 il, .int .i64 (LI.length : Int), .int .i64 iw, .int .i64 dl, .int .i64 (LD.length : Int), .int .i64 dw, .int .i64 ll, .int .i64 (LL.length : Int), .int .i64 lw, .int .i64 pt, .int .i64 ph, .int .i64 pr, .int .i64 il, .int .i64 (LI.length : Int), .int .i64 iw, .slice AI LI.length ci, .int .i64 dl, .int .i64 (LD.length : Int), .int .i64 dw, .slice AD LD.length cd, .int .i64 ll, .int .i64 (LL.length : Int), .int .i64 lw, .slice AL LL.length cl, .int .i64 pt, .int .i64 ph, .int .i64 pr, .slice A cs.length ca, .int .u32 hist, .slice R rs.length ra, .slice none 0 0], .slice AE es.length ce] w fun e w' => ∃ gI kI aI gD kD aD gL kL aL g cap gP cP R' r', e = .returned (.tuple #[.agg #[.int .i64 il, .int .i64 (LI.length : Int), .int .i64 iw, .int .i64 dl, .int .i64 (LD.length : Int), .int .i64 dw, .int .i64 ll, .int .i64 (LL.length : Int), .int .i64 lw, .int .i64 pt, .int .i64 ph, .int .i64 pr, .int .i64 il, .int .i64 (LI.length : Int), .int .i64 iw, .slice (some ⟨gI, 0, none⟩) LI.length kI, .int .i64 dl, .int .i64 (LD.length : Int), .int .i64 dw, .slice (some ⟨gD, 0, none⟩) LD.length kD, .int .i64 ll, .int .i64 (LL.length : Int), .int .i64 lw, .slice (some ⟨gL, 0, none⟩) LL.length kL, .int .i64 pt, .int .i64 ph, .int .i64 pr, .slice (some ⟨gP, 0, none⟩) cs.length cP, .int .u32 hist, .slice R' rs.length r', .slice (some ⟨g, 0, none⟩) 1 cap], .int .i64 0]) ∧
      OwnSets w' w.heap.size gI kI aI (FS.run il iw dl dw ll lw ⟨LI, LD, LL, p0 :: List.replicate 13 0⟩ es).I ∧ OwnSets w' w.heap.size gD kD aD (FS.run il iw dl dw ll lw ⟨LI, LD, LL, p0 :: List.replicate 13 0⟩ es).D ∧ OwnSets w' w.heap.size gL kL aL (FS.run il iw dl dw ll lw ⟨LI, LD, LL, p0 :: List.replicate 13 0⟩ es).L ∧
      (∀ W', Upd (fun k => k < w.heap.size) w' W' → RdP W' (some ⟨gP, 0, none⟩) cP cs R' r' rs ∧ RdN W' (some ⟨g, 0, none⟩) [(FS.run il iw dl dw ll lw ⟨LI, LD, LL, p0 :: List.replicate 13 0⟩ es).c]) ∧ Below w.heap.size w w' := by
  obtain ⟨hl1, hl2, hl3⟩ := predOk_len oP
  obtain ⟨i1, i2, i3, i4, i5, i6⟩ := shapeB_line oI.1
  obtain ⟨d1, d2, d3, d4, d5, d6⟩ := shapeB_line oD.1
  obtain ⟨l1, l2, l3, l4, l5, l6⟩ := shapeB_line oL.1
  have wI : ∀ i, i < LI.length → (gl LI i).length ≤ 1024 := fun i hi => by have := (oI.2.2 i hi).1; omega
  have wD : ∀ i, i < LD.length → (gl LD i).length ≤ 1024 := fun i hi => by have := (oD.2.2 i hi).1; omega
  have wL : ∀ i, i < LL.length → (gl LL i).length ≤ 1024 := fun i hi => by have := (oL.2.2 i hi).1; omega
  obtain ⟨W0, hW0⟩ : ∃ W0, (w.alloc (.cells #[.int .i64 il, .int .i64 (LI.length : Int), .int .i64 iw, .int .i64 dl, .int .i64 (LD.length : Int), .int .i64 dw, .int .i64 ll, .int .i64 (LL.length : Int), .int .i64 lw, .int .i64 pt, .int .i64 ph, .int .i64 pr, .int .i64 il, .int .i64 (LI.length : Int), .int .i64 iw, .slice AI LI.length ci, .int .i64 dl, .int .i64 (LD.length : Int), .int .i64 dw, .slice AD LD.length cd, .int .i64 ll, .int .i64 (LL.length : Int), .int .i64 lw, .slice AL LL.length cl, .int .i64 pt, .int .i64 ph, .int .i64 pr, .slice A cs.length ca, .int .u32 hist, .slice R rs.length ra, .slice none 0 0] 67)).alloc zeroS = W0 := ⟨_, rfl⟩
  have hb0 : Below w.heap.size w W0 := by rw [← hW0]; exact ((Below.refl _ _).alloc (Nat.le_refl _) _).alloc (by simp) _
  have hx0 : W0.heap[w.heap.size]? = some (.cells #[.int .i64 il, .int .i64 (LI.length : Int), .int .i64 iw, .int .i64 dl, .int .i64 (LD.length : Int), .int .i64 dw, .int .i64 ll, .int .i64 (LL.length : Int), .int .i64 lw, .int .i64 pt, .int .i64 ph, .int .i64 pr, .int .i64 il, .int .i64 (LI.length : Int), .int .i64 iw, .slice AI LI.length ci, .int .i64 dl, .int .i64 (LD.length : Int), .int .i64 dw, .slice AD LD.length cd, .int .i64 ll, .int .i64 (LL.length : Int), .int .i64 lw, .slice AL LL.length cl, .int .i64 pt, .int .i64 ph, .int .i64 pr, .slice A cs.length ca, .int .u32 hist, .slice R rs.length ra, .slice none 0 0] 67 (0, 0)) := by rw [← hW0]; exact (heap_alloc_old _ _ (by simp)).trans (heap_alloc_new w _)
  have hx1 : W0.heap[w.heap.size + 1]? = some zeroS := by rw [← hW0]; exact alloc_at _ _ _ (by simp)
  have hsz : W0.heap.size = w.heap.size + 2 := by rw [← hW0]; simp
  have HI := Lib.hid (hI.below hb0)
  have HD := Lib.hid (hD.below hb0)
  have HL := Lib.hid (hL.below hb0)
  have HC := Lib.hid (hc.below hb0)
  have HE := Lib.hid (he.below hb0)
  have HEw := Lib.hid he
  have HX := Lib.hid hx0
  have HX1 := Lib.hid hx1
  have HB0 := Lib.hid hb0
  have OI := Lib.hid oI
  have OD := Lib.hid oD
  have OL := Lib.hid oL
  have OP := Lib.hid oP
  have HEV := Lib.hid hev
  have WI := Lib.hid wI
  have WD := Lib.hid wD
  have WL := Lib.hid wL
  have HR0 : Hid (W0.rangeAt w.heap.size 0 [.int .i64 il, .int .i64 (LI.length : Int), .int .i64 iw, .int .i64 dl, .int .i64 (LD.length : Int), .int .i64 dw, .int .i64 ll, .int .i64 (LL.length : Int), .int .i64 lw, .int .i64 pt, .int .i64 ph, .int .i64 pr, .int .i64 il, .int .i64 (LI.length : Int), .int .i64 iw, .slice AI LI.length ci, .int .i64 dl, .int .i64 (LD.length : Int), .int .i64 dw, .slice AD LD.length cd, .int .i64 ll, .int .i64 (LL.length : Int), .int .i64 lw, .slice AL LL.length cl, .int .i64 pt, .int .i64 ph, .int .i64 pr, .slice A cs.length ca, .int .u32 hist, .slice R rs.length ra, .slice none 0 0]) := Lib.hid (range_sub hx0 0 _ rfl)
  clear hI hD hL hc he hx0 hx1 hb0 oI oD oL oP hev wI wD wL
  go_enter Try.func28, Try.ntmps28
  go_wp2_with (with_reducible refine wpList_load_mid rfl 67 (Operand.tmp 2) rfl w.heap.size 0 rfl [.int .i64 il, .int .i64 (LI.length : Int), .int .i64 iw, .int .i64 dl, .int .i64 (LD.length : Int), .int .i64 dw, .int .i64 ll, .int .i64 (LL.length : Int), .int .i64 lw, .int .i64 pt, .int .i64 ph, .int .i64 pr, .int .i64 il, .int .i64 (LI.length : Int), .int .i64 iw, .slice AI LI.length ci, .int .i64 dl, .int .i64 (LD.length : Int), .int .i64 dw, .slice AD LD.length cd, .int .i64 ll, .int .i64 (LL.length : Int), .int .i64 lw, .slice AL LL.length cl, .int .i64 pt, .int .i64 ph, .int .i64 pr, .slice A cs.length ca, .int .u32 hist, .slice R rs.length ra, .slice none 0 0] _ HR0.out Try.underlying67 rfl (by kernel_rfl) ?_)
  refine (sim_true il LI.length iw dl LD.length dw ll LL.length lw pt ph pr AI AD AL A R none ci cd cl ca ra 0 vI vD vL LI LD LL cs rs hist [] _ hs HI.out HD.out HL.out HC.out.cnt ⟨by simp, fun k hk => absurd hk (Nat.not_lt_zero _)⟩ OI.out OD.out OL.out OP.out hh (by simp) (fun k hk => absurd hk (Nat.not_lt_zero _))).mono ?_
  rintro e W1 ⟨rfl, hb⟩
  replace HI := Lib.hid (HI.out.below hb)
  replace HD := Lib.hid (HD.out.below hb)
  replace HL := Lib.hid (HL.out.below hb)
  replace HC := Lib.hid (HC.out.below hb)
  replace HE := Lib.hid (HE.out.below hb)
  replace HX := Lib.hid (belowBox hb HX.out)
  replace HX1 := Lib.hid (belowBox hb HX1.out)
  replace HB0 := Lib.hid (bvia HB0.out hb (Nat.le_refl _))
  have hs1 : w.heap.size + 2 ≤ W1.heap.size := by have := hb.size; omega
  clear hb
  have hrg : ∀ W' : World, W'.heap[w.heap.size]? = some (.cells #[.int .i64 il, .int .i64 (LI.length : Int), .int .i64 iw, .int .i64 dl, .int .i64 (LD.length : Int), .int .i64 dw, .int .i64 ll, .int .i64 (LL.length : Int), .int .i64 lw, .int .i64 pt, .int .i64 ph, .int .i64 pr, .int .i64 il, .int .i64 (LI.length : Int), .int .i64 iw, .slice AI LI.length ci, .int .i64 dl, .int .i64 (LD.length : Int), .int .i64 dw, .slice AD LD.length cd, .int .i64 ll, .int .i64 (LL.length : Int), .int .i64 lw, .slice AL LL.length cl, .int .i64 pt, .int .i64 ph, .int .i64 pr, .slice A cs.length ca, .int .u32 hist, .slice R rs.length ra, .slice none 0 0] 67 (0, 0)) → W'.rangeAt w.heap.size 0 [.int .i64 il, .int .i64 (LI.length : Int), .int .i64 iw, .int .i64 dl, .int .i64 (LD.length : Int), .int .i64 dw, .int .i64 ll, .int .i64 (LL.length : Int), .int .i64 lw, .int .i64 pt, .int .i64 ph, .int .i64 pr, .int .i64 il, .int .i64 (LI.length : Int), .int .i64 iw, .slice AI LI.length ci, .int .i64 dl, .int .i64 (LD.length : Int), .int .i64 dw, .slice AD LD.length cd, .int .i64 ll, .int .i64 (LL.length : Int), .int .i64 lw, .slice AL LL.length cl, .int .i64 pt, .int .i64 ph, .int .i64 pr, .slice A cs.length ca, .int .u32 hist, .slice R rs.length ra, .slice none 0 0] ∧ W'.rangeAt w.heap.size 24 [.int .i64 pt, .int .i64 ph, .int .i64 pr, .slice A cs.length ca, .int .u32 hist, .slice R rs.length ra] := fun W' h' => ⟨range_sub h' 0 _ rfl, range_sub h' 24 _ rfl⟩
  have HRG := Lib.hid hrg
  have hbd : Below W1.heap.size W1 W1.drew := bdrewN (Below.refl _ _) 1
  have HBD := Lib.hid hbd
  clear hrg hbd
  go_wp2_with fail
  refine wp_region_noPanic ?_
  refine wp_region_held_drew (S := fun W' => W'.heap[w.heap.size]? = some (.cells #[.int .i64 il, .int .i64 (LI.length : Int), .int .i64 iw, .int .i64 dl, .int .i64 (LD.length : Int), .int .i64 dw, .int .i64 ll, .int .i64 (LL.length : Int), .int .i64 lw, .int .i64 pt, .int .i64 ph, .int .i64 pr, .int .i64 il, .int .i64 (LI.length : Int), .int .i64 iw, .slice AI LI.length ci, .int .i64 dl, .int .i64 (LD.length : Int), .int .i64 dw, .slice AD LD.length cd, .int .i64 ll, .int .i64 (LL.length : Int), .int .i64 lw, .slice AL LL.length cl, .int .i64 pt, .int .i64 ph, .int .i64 pr, .slice A cs.length ca, .int .u32 hist, .slice R rs.length ra, .slice none 0 0] 67 (0, 0))) (by kernel_rfl) HX.out (fun hHeld => ?_)
  refine wpAnyH_take (i := 0) (oi := { dst := some 19, op := Op.load 67 (Operand.tmp 2), type := 67, pos := "sim.go:372", after := #[], guard := none }) (v := .agg #[.int .i64 il, .int .i64 (LI.length : Int), .int .i64 iw, .int .i64 dl, .int .i64 (LD.length : Int), .int .i64 dw, .int .i64 ll, .int .i64 (LL.length : Int), .int .i64 lw, .int .i64 pt, .int .i64 ph, .int .i64 pr, .int .i64 il, .int .i64 (LI.length : Int), .int .i64 iw, .slice AI LI.length ci, .int .i64 dl, .int .i64 (LD.length : Int), .int .i64 dw, .slice AD LD.length cd, .int .i64 ll, .int .i64 (LL.length : Int), .int .i64 lw, .slice AL LL.length cl, .int .i64 pt, .int .i64 ph, .int .i64 pr, .slice A cs.length ca, .int .u32 hist, .slice R rs.length ra, .slice none 0 0]) rfl (by kernel_rfl) (by kernel_rfl) (by kernel_rfl) (fun _ _ _ h => h) (yieldsIf_load_mid (by rfl) 67 (Operand.tmp 2) rfl w.heap.size 0 rfl [.int .i64 il, .int .i64 (LI.length : Int), .int .i64 iw, .int .i64 dl, .int .i64 (LD.length : Int), .int .i64 dw, .int .i64 ll, .int .i64 (LL.length : Int), .int .i64 lw, .int .i64 pt, .int .i64 ph, .int .i64 pr, .int .i64 il, .int .i64 (LI.length : Int), .int .i64 iw, .slice AI LI.length ci, .int .i64 dl, .int .i64 (LD.length : Int), .int .i64 dw, .slice AD LD.length cd, .int .i64 ll, .int .i64 (LL.length : Int), .int .i64 lw, .slice AL LL.length cl, .int .i64 pt, .int .i64 ph, .int .i64 pr, .slice A cs.length ca, .int .u32 hist, .slice R rs.length ra, .slice none 0 0] _ (fun W' h' => (HRG.out W' h').1) Try.underlying67 rfl (by kernel_rfl)) hHeld ?_
  try simp only [Act.put, List.setIfInBounds_toArray, List.set_cons_zero, List.set_cons_succ]
  refine wpAnyH_take (i := 1) (oi := { dst := some 20, op := Op.fieldAddr 67 (Operand.tmp 2) 4, type := 0, pos := "sim.go:372", after := #[], guard := none }) (v := .pointer (some ⟨w.heap.size, 24, none⟩)) rfl (by kernel_rfl) (by kernel_rfl) (by kernel_rfl) (fun _ _ _ h => h) (Or.inl ⟨by rfl, fun W' hW' => by go_simp⟩) hHeld ?_
  try simp only [Act.put, List.setIfInBounds_toArray, List.set_cons_zero, List.set_cons_succ]
  refine wpAnyH_take (i := 2) (oi := { dst := some 21, op := Op.load 52 (Operand.tmp 20), type := 52, pos := "sim.go:372", after := #[{ on := 1, ground := Ground.data }], guard := none }) (v := .agg #[.int .i64 pt, .int .i64 ph, .int .i64 pr, .slice A cs.length ca, .int .u32 hist, .slice R rs.length ra]) rfl (by kernel_rfl) (by kernel_rfl) (by kernel_rfl) (fun _ _ _ h => h) (yieldsIf_load_mid (by rfl) 52 (Operand.tmp 20) rfl w.heap.size 24 rfl [.int .i64 pt, .int .i64 ph, .int .i64 pr, .slice A cs.length ca, .int .u32 hist, .slice R rs.length ra] _ (fun W' h' => (HRG.out W' h').2) Try.underlying52 rfl (by kernel_rfl)) hHeld ?_
  try simp only [Act.put, List.setIfInBounds_toArray, List.set_cons_zero, List.set_cons_succ]
  refine wpAnyH_ready (rs := [3]) (by kernel_rfl) (by simp) ?_
  refine AllReadyH.cons (o := { dst := some 22, op := Op.call { callee := Callee.value (Operand.func 58), args := #[Operand.tmp 21], argTypes := #[52] }, type := 102, pos := "sim.go:372", after := #[{ on := 2, ground := Ground.data }], guard := none }) rfl (fun K hK => ?_) AllReadyH.nil
  go_wp2_with fail
  refine (ownedPred_any pt ph pr A R ca ra cs rs hist W1.drew (HC.out.below HBD.out) hl1 hl2 (by omega)).mono ?_
  rintro e W2 ⟨pb, gP, cP, vP, rfl, hP, hb2⟩
  have HB2 := Lib.hid (HBD.out.trans (hb2.mono (Nat.le_refl _)))
  refine hK.out _ _ (belowBox HB2.out HX.out) (fun hHeld2 => ?_)
  clear hK K
  try simp only [Act.put, List.setIfInBounds_toArray, List.set_cons_zero, List.set_cons_succ]
  refine wpAnyH_take (i := 4) (oi := { dst := some 23, op := Op.build 115 #[(0, Operand.tmp 19), (1, Operand.tmp 22)], type := 115, pos := "sim.go:372", after := #[{ on := 0, ground := Ground.data }, { on := 3, ground := Ground.data }], guard := none }) (v := .agg #[.int .i64 il, .int .i64 (LI.length : Int), .int .i64 iw, .int .i64 dl, .int .i64 (LD.length : Int), .int .i64 dw, .int .i64 ll, .int .i64 (LL.length : Int), .int .i64 lw, .int .i64 pt, .int .i64 ph, .int .i64 pr, .int .i64 il, .int .i64 (LI.length : Int), .int .i64 iw, .slice AI LI.length ci, .int .i64 dl, .int .i64 (LD.length : Int), .int .i64 dw, .slice AD LD.length cd, .int .i64 ll, .int .i64 (LL.length : Int), .int .i64 lw, .slice AL LL.length cl, .int .i64 pt, .int .i64 ph, .int .i64 pr, .slice A cs.length ca, .int .u32 hist, .slice R rs.length ra, .slice none 0 0, .pointer (some ⟨pb, 0, none⟩)]) rfl (by kernel_rfl) (by kernel_rfl) (by kernel_rfl) (fun _ _ _ h => h) (Or.inl ⟨by rfl, fun W' hW' => by kernel_rfl⟩) hHeld2 ?_
  try simp only [Act.put, List.setIfInBounds_toArray, List.set_cons_zero, List.set_cons_succ]
  refine wpAnyH_ready (rs := [5]) (by kernel_rfl) (by simp) ?_
  refine AllReadyH.cons (o := { dst := some 24, op := Op.box 115 (Operand.tmp 23), type := 112, pos := "sim.go:372", after := #[{ on := 4, ground := Ground.data }], guard := none }) rfl (fun K hK => ?_) AllReadyH.nil
  rw [if_pos (by rfl)]
  refine wp_of_run (v := .pointer (some ⟨W2.heap.size, 0, none⟩)) (w' := W2.alloc (.cells #[.int .i64 il, .int .i64 (LI.length : Int), .int .i64 iw, .int .i64 dl, .int .i64 (LD.length : Int), .int .i64 dw, .int .i64 ll, .int .i64 (LL.length : Int), .int .i64 lw, .int .i64 pt, .int .i64 ph, .int .i64 pr, .int .i64 il, .int .i64 (LI.length : Int), .int .i64 iw, .slice AI LI.length ci, .int .i64 dl, .int .i64 (LD.length : Int), .int .i64 dw, .slice AD LD.length cd, .int .i64 ll, .int .i64 (LL.length : Int), .int .i64 lw, .slice AL LL.length cl, .int .i64 pt, .int .i64 ph, .int .i64 pr, .slice A cs.length ca, .int .u32 hist, .slice R rs.length ra, .slice none 0 0, .pointer (some ⟨pb, 0, none⟩)] 115)) (by kernel_rfl) ?_
  refine hK.out _ _ (belowBox (HB2.out.alloc HB2.out.size _) HX.out) (fun hHeld3 => ?_)
  clear hK K
  try simp only [Act.put, List.setIfInBounds_toArray, List.set_cons_zero, List.set_cons_succ]
  refine wpAnyH_take (i := 6) (oi := { dst := some 6, op := Op.assign (Operand.tmp 24), type := 112, pos := "sim.go:372", after := #[{ on := 5, ground := Ground.data }, { on := 3, ground := Ground.chain }, { on := 0, ground := Ground.phase }, { on := 1, ground := Ground.phase }, { on := 2, ground := Ground.phase }, { on := 3, ground := Ground.phase }, { on := 4, ground := Ground.phase }, { on := 5, ground := Ground.phase }], guard := none }) (v := .pointer (some ⟨W2.heap.size, 0, none⟩)) rfl (by kernel_rfl) (by kernel_rfl) (by kernel_rfl) (fun _ _ _ h => h) (Or.inl ⟨by rfl, fun W' hW' => by go_simp⟩) hHeld3 ?_
  try simp only [Act.put, List.setIfInBounds_toArray, List.set_cons_zero, List.set_cons_succ]
  refine wpAnyH_done (by kernel_rfl) ?_ _
  refine NoPanic.normal ?_
  have hw1 := HB0.out.size
  have hw2 := HB2.out.size
  have HW12 : w.heap.size + 2 ≤ W2.heap.size := by omega
  have pbLt : pb < W2.heap.size := (Array.getElem?_eq_some_iff.1 hP.box).1
  have gPLt : gP < W2.heap.size := (hP.cnt.lt gP rfl).2
  have vPLt : ∀ k, blk vP = some k → k < W2.heap.size := fun k hk => (hP.ret.lt k hk).2
  obtain ⟨W3, hW3⟩ : ∃ W3, W2.alloc (.cells #[.int .i64 il, .int .i64 (LI.length : Int), .int .i64 iw, .int .i64 dl, .int .i64 (LD.length : Int), .int .i64 dw, .int .i64 ll, .int .i64 (LL.length : Int), .int .i64 lw, .int .i64 pt, .int .i64 ph, .int .i64 pr, .int .i64 il, .int .i64 (LI.length : Int), .int .i64 iw, .slice AI LI.length ci, .int .i64 dl, .int .i64 (LD.length : Int), .int .i64 dw, .slice AD LD.length cd, .int .i64 ll, .int .i64 (LL.length : Int), .int .i64 lw, .slice AL LL.length cl, .int .i64 pt, .int .i64 ph, .int .i64 pr, .slice A cs.length ca, .int .u32 hist, .slice R rs.length ra, .slice none 0 0, .pointer (some ⟨pb, 0, none⟩)] 115) = W3 := ⟨_, rfl⟩
  have hu3 : Upd (fun _ => False) W2 W3 := by rw [← hW3]; exact Upd.alloc _ _ _
  have hb23 : Below W2.heap.size W2 W3 := by rw [← hW3]; exact balloc _ _
  have hs3 : W3.heap.size = W2.heap.size + 1 := by rw [← hW3]; simp
  have h3 : W3.heap[W2.heap.size]? = some (.cells #[.int .i64 il, .int .i64 (LI.length : Int), .int .i64 iw, .int .i64 dl, .int .i64 (LD.length : Int), .int .i64 dw, .int .i64 ll, .int .i64 (LL.length : Int), .int .i64 lw, .int .i64 pt, .int .i64 ph, .int .i64 pr, .int .i64 il, .int .i64 (LI.length : Int), .int .i64 iw, .slice AI LI.length ci, .int .i64 dl, .int .i64 (LD.length : Int), .int .i64 dw, .slice AD LD.length cd, .int .i64 ll, .int .i64 (LL.length : Int), .int .i64 lw, .slice AL LL.length cl, .int .i64 pt, .int .i64 ph, .int .i64 pr, .slice A cs.length ca, .int .u32 hist, .slice R rs.length ra, .slice none 0 0, .pointer (some ⟨pb, 0, none⟩)] 115 (0, 0)) := by rw [← hW3]; exact heap_alloc_new _ _
  have hb13 : Below W1.heap.size W1 W3 := bvia HB2.out hb23 (Nat.le_refl _)
  have HX3 := Lib.hid (belowBox hb13 HX.out)
  have H3 := Lib.hid h3
  have HI3 := Lib.hid (HI.out.below hb13)
  have HD3 := Lib.hid (HD.out.below hb13)
  have HL3 := Lib.hid (HL.out.below hb13)
  have HP3 := Lib.hid (show OwnP W3 W1.heap.size pb pt ph pr gP cP cs hist vP rs from ⟨belowBox hb23 hP.box, own_upd hP.cnt hu3 fun _ _ h => h, hP.ret.upd hu3 fun _ _ h => h, hP.ge⟩)
  have HB13 := Lib.hid hb13
  have kq : ∀ W', Below W3.heap.size W3 W' → W'.cell? ⟨w.heap.size, 12, none⟩ = some (.int .i64 il) ∧ W'.cell? ⟨w.heap.size, 13, none⟩ = some (.int .i64 (LI.length : Int)) ∧ W'.cell? ⟨w.heap.size, 14, none⟩ = some (.int .i64 iw) ∧ W'.cell? ⟨w.heap.size, 15, none⟩ = some (.slice AI LI.length ci) ∧ W'.cell? ⟨w.heap.size, 16, none⟩ = some (.int .i64 dl) ∧ W'.cell? ⟨w.heap.size, 17, none⟩ = some (.int .i64 (LD.length : Int)) ∧ W'.cell? ⟨w.heap.size, 18, none⟩ = some (.int .i64 dw) ∧ W'.cell? ⟨w.heap.size, 19, none⟩ = some (.slice AD LD.length cd) ∧ W'.cell? ⟨w.heap.size, 20, none⟩ = some (.int .i64 ll) ∧ W'.cell? ⟨w.heap.size, 21, none⟩ = some (.int .i64 (LL.length : Int)) ∧ W'.cell? ⟨w.heap.size, 22, none⟩ = some (.int .i64 lw) ∧ W'.cell? ⟨w.heap.size, 23, none⟩ = some (.slice AL LL.length cl) ∧ W'.cell? ⟨w.heap.size, 30, none⟩ = some (.slice none 0 0) := fun W' h' => ⟨boxAt (belowBox h' HX3.out) rfl, boxAt (belowBox h' HX3.out) rfl, boxAt (belowBox h' HX3.out) rfl, boxAt (belowBox h' HX3.out) rfl, boxAt (belowBox h' HX3.out) rfl, boxAt (belowBox h' HX3.out) rfl, boxAt (belowBox h' HX3.out) rfl, boxAt (belowBox h' HX3.out) rfl, boxAt (belowBox h' HX3.out) rfl, boxAt (belowBox h' HX3.out) rfl, boxAt (belowBox h' HX3.out) rfl, boxAt (belowBox h' HX3.out) rfl, boxAt (belowBox h' HX3.out) rfl⟩
  have kq2 : ∀ W1' W', Below W3.heap.size W3 W1' → Upd (fun k => k = W2.heap.size) W1' W' → W'.cell? ⟨w.heap.size, 12, none⟩ = some (.int .i64 il) ∧ W'.cell? ⟨w.heap.size, 13, none⟩ = some (.int .i64 (LI.length : Int)) ∧ W'.cell? ⟨w.heap.size, 14, none⟩ = some (.int .i64 iw) ∧ W'.cell? ⟨w.heap.size, 15, none⟩ = some (.slice AI LI.length ci) ∧ W'.cell? ⟨w.heap.size, 16, none⟩ = some (.int .i64 dl) ∧ W'.cell? ⟨w.heap.size, 17, none⟩ = some (.int .i64 (LD.length : Int)) ∧ W'.cell? ⟨w.heap.size, 18, none⟩ = some (.int .i64 dw) ∧ W'.cell? ⟨w.heap.size, 19, none⟩ = some (.slice AD LD.length cd) ∧ W'.cell? ⟨w.heap.size, 20, none⟩ = some (.int .i64 ll) ∧ W'.cell? ⟨w.heap.size, 21, none⟩ = some (.int .i64 (LL.length : Int)) ∧ W'.cell? ⟨w.heap.size, 22, none⟩ = some (.int .i64 lw) ∧ W'.cell? ⟨w.heap.size, 23, none⟩ = some (.slice AL LL.length cl) ∧ W'.cell? ⟨w.heap.size, 30, none⟩ = some (.slice none 0 0) := fun W1' W' h1 hu => by
    obtain ⟨k12, k13, k14, k15, k16, k17, k18, k19, k20, k21, k22, k23, k30⟩ := kq W1' h1
    exact ⟨cell_upd hu k12 (by omega), cell_upd hu k13 (by omega), cell_upd hu k14 (by omega), cell_upd hu k15 (by omega), cell_upd hu k16 (by omega), cell_upd hu k17 (by omega), cell_upd hu k18 (by omega), cell_upd hu k19 (by omega), cell_upd hu k20 (by omega), cell_upd hu k21 (by omega), cell_upd hu k22 (by omega), cell_upd hu k23 (by omega), cell_upd hu k30 (by omega)⟩
  have KQ := Lib.hid kq
  have KQ2 := Lib.hid kq2
  have hbd3 : Below W3.heap.size W3 W3.drew := bdrewN (Below.refl _ _) 1
  have HBD3 := Lib.hid hbd3
  clear kq kq2 hbd3 hb13 hb23 hu3 h3 hP hb2 hHeld hHeld2 hHeld3
  rw [hW3]
  clear hW3
  go_wp2_with fail
  go_region_held3 (fun W' => W'.cell? ⟨w.heap.size, 12, none⟩ = some (.int .i64 il) ∧ W'.cell? ⟨w.heap.size, 13, none⟩ = some (.int .i64 (LI.length : Int)) ∧ W'.cell? ⟨w.heap.size, 14, none⟩ = some (.int .i64 iw) ∧ W'.cell? ⟨w.heap.size, 15, none⟩ = some (.slice AI LI.length ci) ∧ W'.cell? ⟨w.heap.size, 16, none⟩ = some (.int .i64 dl) ∧ W'.cell? ⟨w.heap.size, 17, none⟩ = some (.int .i64 (LD.length : Int)) ∧ W'.cell? ⟨w.heap.size, 18, none⟩ = some (.int .i64 dw) ∧ W'.cell? ⟨w.heap.size, 19, none⟩ = some (.slice AD LD.length cd) ∧ W'.cell? ⟨w.heap.size, 20, none⟩ = some (.int .i64 ll) ∧ W'.cell? ⟨w.heap.size, 21, none⟩ = some (.int .i64 (LL.length : Int)) ∧ W'.cell? ⟨w.heap.size, 22, none⟩ = some (.int .i64 lw) ∧ W'.cell? ⟨w.heap.size, 23, none⟩ = some (.slice AL LL.length cl) ∧ W'.cell? ⟨w.heap.size, 30, none⟩ = some (.slice none 0 0)) (first | exact KQ.out _ (Below.refl _ _) | exact KQ.out _ HBD3.out | exact KQ.out _ HB4.out | exact KQ.out _ HB5.out | exact KQ.out _ HB6.out | (refine KQ2.out _ _ HB6.out ?_; ((repeat refine Upd.set ?_ (by rfl) _ _); exact Upd.refl _ _)))
    (first
      | (go_at_call 59; with_reducible refine (owned_any il LI.length iw AI ci vI LI W3.drew (HI3.out.below HBD3.out) nI (by omega) (by omega) WI.out).mono ?_; rintro e W4 ⟨gI, kI, uI, rfl, ho4, hb4⟩; have HB4 := Lib.hid (HBD3.out.trans (hb4.mono (Nat.le_refl _))))
      | (go_at_call 59; with_reducible refine (owned_any dl LD.length dw AD cd vD LD W4 (HD3.out.below HB4.out) nD (by omega) (by omega) WD.out).mono ?_; rintro e W5 ⟨gD, kD, uD, rfl, ho5, hb5⟩; have HB5 := Lib.hid (HB4.out.trans (hb5.mono HB4.out.size)))
      | (go_at_call 59; with_reducible refine (owned_any ll LL.length lw AL cl vL LL W5 (HL3.out.below HB5.out) nL (by omega) (by omega) WL.out).mono ?_; rintro e W6 ⟨gL, kL, uL, rfl, ho6, hb6⟩; have HB6 := Lib.hid (HB5.out.trans (hb6.mono HB5.out.size)); have hz6 := belowBox HB6.out H3.out; have z12 := boxAt (i := 12) hz6 rfl; have z13 := boxAt (i := 13) hz6 rfl; have z14 := boxAt (i := 14) hz6 rfl; have z15 := boxAt (i := 15) hz6 rfl; have z16 := boxAt (i := 16) hz6 rfl; have z17 := boxAt (i := 17) hz6 rfl; have z18 := boxAt (i := 18) hz6 rfl; have z19 := boxAt (i := 19) hz6 rfl; have z20 := boxAt (i := 20) hz6 rfl; have z21 := boxAt (i := 21) hz6 rfl; have z22 := boxAt (i := 22) hz6 rfl; have z23 := boxAt (i := 23) hz6 rfl; have z30 := boxAt (i := 30) hz6 rfl; have d0 : ∀ o, W6.frozen? ⟨W2.heap.size, o, none⟩ = false := fun o => boxFree hz6; clear hz6)
      | (go_at_call 60; refine (cloneN_nil W6).mono ?_; rintro e W7 ⟨rfl, rfl⟩))
  have v0 := belowBox HB6.out H3.out
  obtain ⟨V1, hV1⟩ : ∃ V1, W6.setCell ⟨W2.heap.size, 12, none⟩ (.int .i64 il) = V1 := ⟨_, rfl⟩
  have v1 : V1.heap[W2.heap.size]? = some (.cells #[.int .i64 il, .int .i64 (LI.length : Int), .int .i64 iw, .int .i64 dl, .int .i64 (LD.length : Int), .int .i64 dw, .int .i64 ll, .int .i64 (LL.length : Int), .int .i64 lw, .int .i64 pt, .int .i64 ph, .int .i64 pr, .int .i64 il, .int .i64 (LI.length : Int), .int .i64 iw, .slice AI LI.length ci, .int .i64 dl, .int .i64 (LD.length : Int), .int .i64 dw, .slice AD LD.length cd, .int .i64 ll, .int .i64 (LL.length : Int), .int .i64 lw, .slice AL LL.length cl, .int .i64 pt, .int .i64 ph, .int .i64 pr, .slice A cs.length ca, .int .u32 hist, .slice R rs.length ra, .slice none 0 0, .pointer (some ⟨pb, 0, none⟩)] 115 (0, 0)) := by rw [← hV1]; exact set1_heap v0 12 _
  clear v0
  obtain ⟨V2, hV2⟩ : ∃ V2, V1.setCell ⟨W2.heap.size, 13, none⟩ (.int .i64 (LI.length : Int)) = V2 := ⟨_, rfl⟩
  have v2 : V2.heap[W2.heap.size]? = some (.cells #[.int .i64 il, .int .i64 (LI.length : Int), .int .i64 iw, .int .i64 dl, .int .i64 (LD.length : Int), .int .i64 dw, .int .i64 ll, .int .i64 (LL.length : Int), .int .i64 lw, .int .i64 pt, .int .i64 ph, .int .i64 pr, .int .i64 il, .int .i64 (LI.length : Int), .int .i64 iw, .slice AI LI.length ci, .int .i64 dl, .int .i64 (LD.length : Int), .int .i64 dw, .slice AD LD.length cd, .int .i64 ll, .int .i64 (LL.length : Int), .int .i64 lw, .slice AL LL.length cl, .int .i64 pt, .int .i64 ph, .int .i64 pr, .slice A cs.length ca, .int .u32 hist, .slice R rs.length ra, .slice none 0 0, .pointer (some ⟨pb, 0, none⟩)] 115 (0, 0)) := by rw [← hV2]; exact set1_heap v1 13 _
  clear v1
  obtain ⟨V3, hV3⟩ : ∃ V3, V2.setCell ⟨W2.heap.size, 14, none⟩ (.int .i64 iw) = V3 := ⟨_, rfl⟩
  have v3 : V3.heap[W2.heap.size]? = some (.cells #[.int .i64 il, .int .i64 (LI.length : Int), .int .i64 iw, .int .i64 dl, .int .i64 (LD.length : Int), .int .i64 dw, .int .i64 ll, .int .i64 (LL.length : Int), .int .i64 lw, .int .i64 pt, .int .i64 ph, .int .i64 pr, .int .i64 il, .int .i64 (LI.length : Int), .int .i64 iw, .slice AI LI.length ci, .int .i64 dl, .int .i64 (LD.length : Int), .int .i64 dw, .slice AD LD.length cd, .int .i64 ll, .int .i64 (LL.length : Int), .int .i64 lw, .slice AL LL.length cl, .int .i64 pt, .int .i64 ph, .int .i64 pr, .slice A cs.length ca, .int .u32 hist, .slice R rs.length ra, .slice none 0 0, .pointer (some ⟨pb, 0, none⟩)] 115 (0, 0)) := by rw [← hV3]; exact set1_heap v2 14 _
  clear v2
  obtain ⟨V4, hV4⟩ : ∃ V4, V3.setCell ⟨W2.heap.size, 15, none⟩ (.slice (some ⟨gI, 0, none⟩) LI.length kI) = V4 := ⟨_, rfl⟩
  have v4 : V4.heap[W2.heap.size]? = some (.cells #[.int .i64 il, .int .i64 (LI.length : Int), .int .i64 iw, .int .i64 dl, .int .i64 (LD.length : Int), .int .i64 dw, .int .i64 ll, .int .i64 (LL.length : Int), .int .i64 lw, .int .i64 pt, .int .i64 ph, .int .i64 pr, .int .i64 il, .int .i64 (LI.length : Int), .int .i64 iw, .slice (some ⟨gI, 0, none⟩) LI.length kI, .int .i64 dl, .int .i64 (LD.length : Int), .int .i64 dw, .slice AD LD.length cd, .int .i64 ll, .int .i64 (LL.length : Int), .int .i64 lw, .slice AL LL.length cl, .int .i64 pt, .int .i64 ph, .int .i64 pr, .slice A cs.length ca, .int .u32 hist, .slice R rs.length ra, .slice none 0 0, .pointer (some ⟨pb, 0, none⟩)] 115 (0, 0)) := by rw [← hV4]; exact set1_heap v3 15 _
  clear v3
  obtain ⟨V5, hV5⟩ : ∃ V5, V4.setCell ⟨W2.heap.size, 16, none⟩ (.int .i64 dl) = V5 := ⟨_, rfl⟩
  have v5 : V5.heap[W2.heap.size]? = some (.cells #[.int .i64 il, .int .i64 (LI.length : Int), .int .i64 iw, .int .i64 dl, .int .i64 (LD.length : Int), .int .i64 dw, .int .i64 ll, .int .i64 (LL.length : Int), .int .i64 lw, .int .i64 pt, .int .i64 ph, .int .i64 pr, .int .i64 il, .int .i64 (LI.length : Int), .int .i64 iw, .slice (some ⟨gI, 0, none⟩) LI.length kI, .int .i64 dl, .int .i64 (LD.length : Int), .int .i64 dw, .slice AD LD.length cd, .int .i64 ll, .int .i64 (LL.length : Int), .int .i64 lw, .slice AL LL.length cl, .int .i64 pt, .int .i64 ph, .int .i64 pr, .slice A cs.length ca, .int .u32 hist, .slice R rs.length ra, .slice none 0 0, .pointer (some ⟨pb, 0, none⟩)] 115 (0, 0)) := by rw [← hV5]; exact set1_heap v4 16 _
  clear v4
  obtain ⟨V6, hV6⟩ : ∃ V6, V5.setCell ⟨W2.heap.size, 17, none⟩ (.int .i64 (LD.length : Int)) = V6 := ⟨_, rfl⟩
  have v6 : V6.heap[W2.heap.size]? = some (.cells #[.int .i64 il, .int .i64 (LI.length : Int), .int .i64 iw, .int .i64 dl, .int .i64 (LD.length : Int), .int .i64 dw, .int .i64 ll, .int .i64 (LL.length : Int), .int .i64 lw, .int .i64 pt, .int .i64 ph, .int .i64 pr, .int .i64 il, .int .i64 (LI.length : Int), .int .i64 iw, .slice (some ⟨gI, 0, none⟩) LI.length kI, .int .i64 dl, .int .i64 (LD.length : Int), .int .i64 dw, .slice AD LD.length cd, .int .i64 ll, .int .i64 (LL.length : Int), .int .i64 lw, .slice AL LL.length cl, .int .i64 pt, .int .i64 ph, .int .i64 pr, .slice A cs.length ca, .int .u32 hist, .slice R rs.length ra, .slice none 0 0, .pointer (some ⟨pb, 0, none⟩)] 115 (0, 0)) := by rw [← hV6]; exact set1_heap v5 17 _
  clear v5
  obtain ⟨V7, hV7⟩ : ∃ V7, V6.setCell ⟨W2.heap.size, 18, none⟩ (.int .i64 dw) = V7 := ⟨_, rfl⟩
  have v7 : V7.heap[W2.heap.size]? = some (.cells #[.int .i64 il, .int .i64 (LI.length : Int), .int .i64 iw, .int .i64 dl, .int .i64 (LD.length : Int), .int .i64 dw, .int .i64 ll, .int .i64 (LL.length : Int), .int .i64 lw, .int .i64 pt, .int .i64 ph, .int .i64 pr, .int .i64 il, .int .i64 (LI.length : Int), .int .i64 iw, .slice (some ⟨gI, 0, none⟩) LI.length kI, .int .i64 dl, .int .i64 (LD.length : Int), .int .i64 dw, .slice AD LD.length cd, .int .i64 ll, .int .i64 (LL.length : Int), .int .i64 lw, .slice AL LL.length cl, .int .i64 pt, .int .i64 ph, .int .i64 pr, .slice A cs.length ca, .int .u32 hist, .slice R rs.length ra, .slice none 0 0, .pointer (some ⟨pb, 0, none⟩)] 115 (0, 0)) := by rw [← hV7]; exact set1_heap v6 18 _
  clear v6
  obtain ⟨V8, hV8⟩ : ∃ V8, V7.setCell ⟨W2.heap.size, 19, none⟩ (.slice (some ⟨gD, 0, none⟩) LD.length kD) = V8 := ⟨_, rfl⟩
  have v8 : V8.heap[W2.heap.size]? = some (.cells #[.int .i64 il, .int .i64 (LI.length : Int), .int .i64 iw, .int .i64 dl, .int .i64 (LD.length : Int), .int .i64 dw, .int .i64 ll, .int .i64 (LL.length : Int), .int .i64 lw, .int .i64 pt, .int .i64 ph, .int .i64 pr, .int .i64 il, .int .i64 (LI.length : Int), .int .i64 iw, .slice (some ⟨gI, 0, none⟩) LI.length kI, .int .i64 dl, .int .i64 (LD.length : Int), .int .i64 dw, .slice (some ⟨gD, 0, none⟩) LD.length kD, .int .i64 ll, .int .i64 (LL.length : Int), .int .i64 lw, .slice AL LL.length cl, .int .i64 pt, .int .i64 ph, .int .i64 pr, .slice A cs.length ca, .int .u32 hist, .slice R rs.length ra, .slice none 0 0, .pointer (some ⟨pb, 0, none⟩)] 115 (0, 0)) := by rw [← hV8]; exact set1_heap v7 19 _
  clear v7
  obtain ⟨V9, hV9⟩ : ∃ V9, V8.setCell ⟨W2.heap.size, 20, none⟩ (.int .i64 ll) = V9 := ⟨_, rfl⟩
  have v9 : V9.heap[W2.heap.size]? = some (.cells #[.int .i64 il, .int .i64 (LI.length : Int), .int .i64 iw, .int .i64 dl, .int .i64 (LD.length : Int), .int .i64 dw, .int .i64 ll, .int .i64 (LL.length : Int), .int .i64 lw, .int .i64 pt, .int .i64 ph, .int .i64 pr, .int .i64 il, .int .i64 (LI.length : Int), .int .i64 iw, .slice (some ⟨gI, 0, none⟩) LI.length kI, .int .i64 dl, .int .i64 (LD.length : Int), .int .i64 dw, .slice (some ⟨gD, 0, none⟩) LD.length kD, .int .i64 ll, .int .i64 (LL.length : Int), .int .i64 lw, .slice AL LL.length cl, .int .i64 pt, .int .i64 ph, .int .i64 pr, .slice A cs.length ca, .int .u32 hist, .slice R rs.length ra, .slice none 0 0, .pointer (some ⟨pb, 0, none⟩)] 115 (0, 0)) := by rw [← hV9]; exact set1_heap v8 20 _
  clear v8
  obtain ⟨V10, hV10⟩ : ∃ V10, V9.setCell ⟨W2.heap.size, 21, none⟩ (.int .i64 (LL.length : Int)) = V10 := ⟨_, rfl⟩
  have v10 : V10.heap[W2.heap.size]? = some (.cells #[.int .i64 il, .int .i64 (LI.length : Int), .int .i64 iw, .int .i64 dl, .int .i64 (LD.length : Int), .int .i64 dw, .int .i64 ll, .int .i64 (LL.length : Int), .int .i64 lw, .int .i64 pt, .int .i64 ph, .int .i64 pr, .int .i64 il, .int .i64 (LI.length : Int), .int .i64 iw, .slice (some ⟨gI, 0, none⟩) LI.length kI, .int .i64 dl, .int .i64 (LD.length : Int), .int .i64 dw, .slice (some ⟨gD, 0, none⟩) LD.length kD, .int .i64 ll, .int .i64 (LL.length : Int), .int .i64 lw, .slice AL LL.length cl, .int .i64 pt, .int .i64 ph, .int .i64 pr, .slice A cs.length ca, .int .u32 hist, .slice R rs.length ra, .slice none 0 0, .pointer (some ⟨pb, 0, none⟩)] 115 (0, 0)) := by rw [← hV10]; exact set1_heap v9 21 _
  clear v9
  obtain ⟨V11, hV11⟩ : ∃ V11, V10.setCell ⟨W2.heap.size, 22, none⟩ (.int .i64 lw) = V11 := ⟨_, rfl⟩
  have v11 : V11.heap[W2.heap.size]? = some (.cells #[.int .i64 il, .int .i64 (LI.length : Int), .int .i64 iw, .int .i64 dl, .int .i64 (LD.length : Int), .int .i64 dw, .int .i64 ll, .int .i64 (LL.length : Int), .int .i64 lw, .int .i64 pt, .int .i64 ph, .int .i64 pr, .int .i64 il, .int .i64 (LI.length : Int), .int .i64 iw, .slice (some ⟨gI, 0, none⟩) LI.length kI, .int .i64 dl, .int .i64 (LD.length : Int), .int .i64 dw, .slice (some ⟨gD, 0, none⟩) LD.length kD, .int .i64 ll, .int .i64 (LL.length : Int), .int .i64 lw, .slice AL LL.length cl, .int .i64 pt, .int .i64 ph, .int .i64 pr, .slice A cs.length ca, .int .u32 hist, .slice R rs.length ra, .slice none 0 0, .pointer (some ⟨pb, 0, none⟩)] 115 (0, 0)) := by rw [← hV11]; exact set1_heap v10 22 _
  clear v10
  obtain ⟨V12, hV12⟩ : ∃ V12, V11.setCell ⟨W2.heap.size, 23, none⟩ (.slice (some ⟨gL, 0, none⟩) LL.length kL) = V12 := ⟨_, rfl⟩
  have v12 : V12.heap[W2.heap.size]? = some (.cells #[.int .i64 il, .int .i64 (LI.length : Int), .int .i64 iw, .int .i64 dl, .int .i64 (LD.length : Int), .int .i64 dw, .int .i64 ll, .int .i64 (LL.length : Int), .int .i64 lw, .int .i64 pt, .int .i64 ph, .int .i64 pr, .int .i64 il, .int .i64 (LI.length : Int), .int .i64 iw, .slice (some ⟨gI, 0, none⟩) LI.length kI, .int .i64 dl, .int .i64 (LD.length : Int), .int .i64 dw, .slice (some ⟨gD, 0, none⟩) LD.length kD, .int .i64 ll, .int .i64 (LL.length : Int), .int .i64 lw, .slice (some ⟨gL, 0, none⟩) LL.length kL, .int .i64 pt, .int .i64 ph, .int .i64 pr, .slice A cs.length ca, .int .u32 hist, .slice R rs.length ra, .slice none 0 0, .pointer (some ⟨pb, 0, none⟩)] 115 (0, 0)) := by rw [← hV12]; exact set1_heap v11 23 _
  clear v11
  obtain ⟨V13, hV13⟩ : ∃ V13, V12.setCell ⟨W2.heap.size, 30, none⟩ (.slice none 0 0) = V13 := ⟨_, rfl⟩
  have v13 : V13.heap[W2.heap.size]? = some (.cells #[.int .i64 il, .int .i64 (LI.length : Int), .int .i64 iw, .int .i64 dl, .int .i64 (LD.length : Int), .int .i64 dw, .int .i64 ll, .int .i64 (LL.length : Int), .int .i64 lw, .int .i64 pt, .int .i64 ph, .int .i64 pr, .int .i64 il, .int .i64 (LI.length : Int), .int .i64 iw, .slice (some ⟨gI, 0, none⟩) LI.length kI, .int .i64 dl, .int .i64 (LD.length : Int), .int .i64 dw, .slice (some ⟨gD, 0, none⟩) LD.length kD, .int .i64 ll, .int .i64 (LL.length : Int), .int .i64 lw, .slice (some ⟨gL, 0, none⟩) LL.length kL, .int .i64 pt, .int .i64 ph, .int .i64 pr, .slice A cs.length ca, .int .u32 hist, .slice R rs.length ra, .slice none 0 0, .pointer (some ⟨pb, 0, none⟩)] 115 (0, 0)) := by rw [← hV13]; exact set1_heap v12 30 _
  clear v12
  have hu8 : Upd (fun k => k = W2.heap.size) W6 V13 := by
    rw [← hV13, ← hV12, ← hV11, ← hV10, ← hV9, ← hV8, ← hV7, ← hV6, ← hV5, ← hV4, ← hV3, ← hV2, ← hV1]
    (repeat refine Upd.set ?_ (by rfl) _ _)
    exact Upd.refl _ _
  have hs8 : V13.heap.size = W6.heap.size := by rw [← hV13, ← hV12, ← hV11, ← hV10, ← hV9, ← hV8, ← hV7, ← hV6, ← hV5, ← hV4, ← hV3, ← hV2, ← hV1]; simp [World.setCell]
  rw [hV1, hV2, hV3, hV4, hV5, hV6, hV7, hV8, hV9, hV10, hV11, hV12, hV13]
  have hq := feet_new (W3 := W3) (fb := W2.heap.size) (by omega) ho4 ho5 ho6 hb4 hb5 hb6 hu8
  have u38 : Upd (fun k => k = W2.heap.size) W3 V13 := ⟨by rw [hu8.os, HB6.out.os], by rw [hu8.tape, HB6.out.tape], by rw [hu8.output, HB6.out.output], by have := HB6.out.size; omega, fun k hk hn => (hu8.block k (by have := HB6.out.size; omega) hn).trans (HB6.out.block k hk)⟩
  have HP8 := Lib.hid (HP3.out.upd u38 fun k hk e => by
    rcases hk with hk | hk | hk
    · omega
    · omega
    · have := vPLt k hk; omega)
  have hfbV : W2.heap.size < V13.heap.size := (Array.getElem?_eq_some_iff.1 v13).1
  have b1V : Below W1.heap.size W1 V13 := (bvia HB13.out HB6.out (Nat.le_refl _)).trans (hu8.below (by have := HB6.out.size; have := HB13.out.size; omega) fun k hk => by omega)
  have H13 := Lib.hid v13
  have HQ := Lib.hid hq.1
  have HB1V := Lib.hid b1V
  have hs13 := hq.2
  clear hq u38 hu8 b1V v13 hb4 hb5 hb6 ho4 ho5 ho6 z12 z13 z14 z15 z16 z17 z18 z19 z20 z21 z22 z23 z30 d0 hV1 hV2 hV3 hV4 hV5 hV6 hV7 hV8 hV9 hV10 hV11 hV12 hV13
  go_wp2_with fail
  refine (handlers_any V13).mono ?_
  rintro e W9 ⟨rfl, hmap, hb9⟩
  have h9 := belowBox hb9 H13.out
  have hs9 := hb9.size
  have F9 := Lib.hid (HQ.out.upd (Upd.of_below hb9) fun k hk e => by have := (HQ.out.lt k hk).2; omega)
  have P9 := Lib.hid (HP8.out.upd (Upd.of_below hb9) fun k hk e => by
    rcases hk with hk | hk | hk
    · omega
    · omega
    · have := vPLt k hk; omega)
  have M9 := Lib.hid hmap
  have X9 := Lib.hid h9
  have R9 := Lib.hid (belowBox (bvia HB1V.out hb9 (Nat.le_refl _)) HX1.out)
  have E9 := Lib.hid (HE.out.below (bvia HB1V.out hb9 (Nat.le_refl _)))
  have B9 := Lib.hid (bvia HB0.out (bvia HB1V.out hb9 (Nat.le_refl _)) (Nat.le_refl _))
  have FLT := Lib.hid (show ∀ k, feetP gI gD gL uI uD uL LI.length LD.length LL.length k → W3.heap.size ≤ k ∧ k < V13.heap.size from fun k hk => HQ.out.lt k hk)
  clear h9 hmap hb9
  clear HI HD HL HC HI3 HD3 HL3 HX HX3 H3 HP3 HB2 HB13 KQ KQ2 HBD HBD3 HB4 HB5 HB6 HRG HR0 HP8 HQ HB1V H13 HX1 HE hs nI nD nL WI WD WL W0 hW0 hsz
  obtain ⟨P, hP⟩ : ∃ P : FP, P = { il := il, iw := iw, dl := dl, dw := dw, ll := ll, lw := lw, pt := pt, ph := ph, pr := pr, hist := hist, nI := LI.length, nD := LD.length, nL := LL.length, ca := ca, ra := ra, nc := cs.length, nr := rs.length, fb := W2.heap.size, pb := pb, gI := gI, kI := kI, gD := gD, kD := kD, gL := gL, kL := kL, mb := W6.heap.size, B := W3.heap.size, A := A, R := R, X := fun b => b < w.heap.size ∨ b = w.heap.size + 1 ∨ b = W2.heap.size ∨ b = pb ∨ b = gP ∨ blk vP = some b ∨ b = W6.heap.size, W9 := W9 } := ⟨_, rfl⟩
  have hs12 := HW12
  have hFI : FI P ⟨LI, LD, LL, p0 :: List.replicate 13 0⟩ (.slice none 0 0) uI uD uL W9 := by
    have hm9 := (Array.getElem?_eq_some_iff.1 M9.out).1
    have hsmall : ∀ (n : Int) (L : List (List Int)), (∀ i, i < L.length → ((gl L i).length : Int) ≤ n) → Small n L := fun n L h i hi => by have := h i hi; omega
    subst hP
    refine ⟨F9.out, by show W3.heap.size ≤ _; omega, rfl, rfl, rfl, hsmall _ _ fun i hi => (OI.out.2.2 i hi).1, hsmall _ _ fun i hi => (OD.out.2.2 i hi).1, hsmall _ _ fun i hi => (OL.out.2.2 i hi).1, X9.out, (by show W9.heap[W6.heap.size]? = _; rw [← hs8]; exact M9.out), fun b hb => ?_, .inr (.inr (.inl rfl)), .inr (.inr (.inr (.inr (.inr (.inr rfl))))), by show W6.heap.size ≠ W2.heap.size; omega, Upd.refl _ _⟩
    have hlt : b < W3.heap.size ∨ b = W6.heap.size := by
      rcases hb with h | h | h | h | h | h | h
      · left; omega
      · left; omega
      · left; omega
      · left; omega
      · left; omega
      · left; have := vPLt b h; omega
      · exact .inr h
    exact ⟨by rcases hlt with h | h <;> omega, fun hk => by have := FLT.out b hk; rcases hlt with h | h <;> omega⟩
  clear hs12
  have hE : ∀ W, Upd (fun b => ¬ P.X b ∨ b = P.fb) P.W9 W → RdE W AE es := fun W hu => by
    subst hP
    refine HEw.out.below (B9.out.trans (hu.below (by have := B9.out.size; exact this) fun k hk => ?_))
    rcases hk with h | h
    · exact Nat.le_of_not_lt fun hlt => h (.inl hlt)
    · have h : k = W2.heap.size := h
      omega
  have hPs : ∀ W, Upd (fun b => ¬ P.X b ∨ b = P.fb) P.W9 W → OwnP W (w.heap.size + 2) pb pt ph pr gP cP cs hist vP rs ∧ W.heap[w.heap.size + 1]? = some zeroS ∧ Below w.heap.size w W := fun W hu => by
    subst hP
    refine ⟨?_, (hu.block _ (Array.getElem?_eq_some_iff.1 R9.out).1 fun h => ?_).trans R9.out, B9.out.trans (hu.below (by have := B9.out.size; exact this) fun k hk => ?_)⟩
    · have h0 := P9.out.upd hu fun k hk e => ?_
      · exact ⟨h0.box, own_base' h0.cnt fun k hk => by have := (h0.cnt.lt k hk).1; omega, h0.ret.base fun k hk => by have := (h0.ret.lt k hk).1; omega, by have := h0.ge; omega⟩
      · rcases hk with hk | hk | hk
        · rcases e with e | e
          · exact e (.inr (.inr (.inr (.inl hk))))
          · have e : k = W2.heap.size := e
            omega
        · rcases e with e | e
          · exact e (.inr (.inr (.inr (.inr (.inl hk)))))
          · have e : k = W2.heap.size := e
            omega
        · rcases e with e | e
          · exact e (.inr (.inr (.inr (.inr (.inr (.inl hk))))))
          · have e : k = W2.heap.size := e
            have := vPLt k hk
            omega
    · rcases h with h | h
      · exact h (.inr (.inl rfl))
      · have h : w.heap.size + 1 = W2.heap.size := h
        omega
    · rcases hk with h | h
      · exact Nat.le_of_not_lt fun hlt => h (.inl hlt)
      · have h : k = W2.heap.size := h
        omega
  have HFI := Lib.hid hFI
  have HE9 := Lib.hid hE
  have HPs := Lib.hid hPs
  clear hFI hE hPs P9 R9 E9 FLT F9 M9 X9
  have hpbX : P.X pb ∧ P.fb = W2.heap.size ∧ P.W9 = W9 ∧ P.nI = LI.length ∧ P.nD = LD.length ∧ P.nL = LL.length := by
    subst hP
    exact ⟨.inr (.inr (.inr (.inl rfl))), rfl, rfl, rfl, rfl, rfl⟩
  have HPX := Lib.hid hpbX
  clear hpbX
  go_upto_block 0 with fail
  subst hP
  refine feed_loop _ ⟨LI, LD, LL, p0 :: List.replicate 13 0⟩ uI uD uL AE ce es p0 _ _ _ _ _ _ _ _ _ _ _ _ _ _ _ _ _ _ _ _ _ _ _ _ _ _ _ _ _ _ _ _ _ _ _ _ _ _ _ _ _ _ _ _ _ _ _ _ _ _ _ _ _ _ _ _ _ _ _ _ _ _ _ _ _ _ _ _ _ _ _ _ _ _ _ _ _ _ _ _ _ _ _ _ _ _ _ _ _ _ _ _ _ _ _ _ _ _ _ _ _ _ _ _ _ _ _ _ _ _ _ _ _ _ _ _ _ _ _ _ _ _ _ _ _ _ _ _ _ _ _ _ _ _ _ _ _ _ _ _ _ _ _ _ _ _ _ _  HFI.out rfl OI.out.1 OD.out.1 OL.out.1 ⟨hel1, hel⟩ HEV.out hp0 HE9.out ?_
  intro u5 u9 u10 u11 u12 u13 u14 u56 u57 u58 u59 u60 u61 u62 u63 u64 u65 u66 u67 u68 u69 u70 u71 u72 u73 u74 u75 u76 u77 u78 u79 u80 u81 u82 u83 u84 u85 u86 u87 u88 u89 u90 u91 u92 u93 u94 u95 u96 u97 u98 u99 u100 u101 u102 u103 u104 u105 u106 u107 u108 u109 u110 u111 u112 u113 u114 u115 u116 u117 u118 u119 u120 u121 u122 u123 u124 u125 u126 u127 u128 u129 u130 u131 u132 u133 u134 u135 u136 u137 W10 vN aI aD aL hend
  obtain ⟨hF, g, cap, rfl, hR⟩ := hend
  obtain ⟨hP10, hr10, hb10⟩ := HPs.out W10 hF.keep
  obtain ⟨R', r', rfl, hrc, hrn, hrd⟩ := hP10.ret.slice
  have hrl : (nums .u32 rs).length = rs.length := by simp
  rw [hrl] at hP10 hrc hrd
  rw [hrl]
  have hbx : W10.heap[W2.heap.size]? = some (.cells #[.int .i64 il, .int .i64 (LI.length : Int), .int .i64 iw, .int .i64 dl, .int .i64 (LD.length : Int), .int .i64 dw, .int .i64 ll, .int .i64 (LL.length : Int), .int .i64 lw, .int .i64 pt, .int .i64 ph, .int .i64 pr, .int .i64 il, .int .i64 (LI.length : Int), .int .i64 iw, .slice (some ⟨gI, 0, none⟩) LI.length kI, .int .i64 dl, .int .i64 (LD.length : Int), .int .i64 dw, .slice (some ⟨gD, 0, none⟩) LD.length kD, .int .i64 ll, .int .i64 (LL.length : Int), .int .i64 lw, .slice (some ⟨gL, 0, none⟩) LL.length kL, .int .i64 pt, .int .i64 ph, .int .i64 pr, .slice A cs.length ca, .int .u32 hist, .slice R rs.length ra, .slice (some ⟨g, 0, none⟩) 1 cap, .pointer (some ⟨pb, 0, none⟩)] 115 (0, 0)) := hF.box
  obtain ⟨q0, q1, q2, q3, q4, q5, _⟩ := box6 hP10.box
  have y31 := boxAt (i := 31) hbx rfl
  have y24 := boxAt (i := 24) hbx rfl
  have y25 := boxAt (i := 25) hbx rfl
  have y26 := boxAt (i := 26) hbx rfl
  have y27 := boxAt (i := 27) hbx rfl
  have y28 := boxAt (i := 28) hbx rfl
  have y29 := boxAt (i := 29) hbx rfl
  have d0 : ∀ o, W10.frozen? ⟨W2.heap.size, o, none⟩ = false := fun o => boxFree hbx
  have hN : ((((((W10.setCell ⟨W2.heap.size, 24, none⟩ (.int .i64 pt)).setCell ⟨W2.heap.size, 25, none⟩ (.int .i64 ph)).setCell ⟨W2.heap.size, 26, none⟩ (.int .i64 pr)).setCell ⟨W2.heap.size, 27, none⟩ (.slice (some ⟨gP, 0, none⟩) cs.length cP)).setCell ⟨W2.heap.size, 28, none⟩ (.int .u32 hist)).setCell ⟨W2.heap.size, 29, none⟩ (.slice R' rs.length r')).heap[W2.heap.size]? = some (.cells #[.int .i64 il, .int .i64 (LI.length : Int), .int .i64 iw, .int .i64 dl, .int .i64 (LD.length : Int), .int .i64 dw, .int .i64 ll, .int .i64 (LL.length : Int), .int .i64 lw, .int .i64 pt, .int .i64 ph, .int .i64 pr, .int .i64 il, .int .i64 (LI.length : Int), .int .i64 iw, .slice (some ⟨gI, 0, none⟩) LI.length kI, .int .i64 dl, .int .i64 (LD.length : Int), .int .i64 dw, .slice (some ⟨gD, 0, none⟩) LD.length kD, .int .i64 ll, .int .i64 (LL.length : Int), .int .i64 lw, .slice (some ⟨gL, 0, none⟩) LL.length kL, .int .i64 pt, .int .i64 ph, .int .i64 pr, .slice (some ⟨gP, 0, none⟩) cs.length cP, .int .u32 hist, .slice R' rs.length r', .slice (some ⟨g, 0, none⟩) 1 cap, .pointer (some ⟨pb, 0, none⟩)] 115 (0, 0)) := set1_heap (set1_heap (set1_heap (set1_heap (set1_heap (set1_heap hbx 24 _) 25 _) 26 _) 27 _) 28 _) 29 _
  have hu6 : Upd (fun k => k = W2.heap.size) W10 ((((((W10.setCell ⟨W2.heap.size, 24, none⟩ (.int .i64 pt)).setCell ⟨W2.heap.size, 25, none⟩ (.int .i64 ph)).setCell ⟨W2.heap.size, 26, none⟩ (.int .i64 pr)).setCell ⟨W2.heap.size, 27, none⟩ (.slice (some ⟨gP, 0, none⟩) cs.length cP)).setCell ⟨W2.heap.size, 28, none⟩ (.int .u32 hist)).setCell ⟨W2.heap.size, 29, none⟩ (.slice R' rs.length r')) := by
    (repeat refine Upd.set ?_ (by rfl) _ _)
    exact Upd.refl _ _
  have hr6 := (hu6.block _ (Array.getElem?_eq_some_iff.1 hr10).1 (by omega)).trans hr10
  have HRG := Lib.hid (range_sub hN 0 [.int .i64 il, .int .i64 (LI.length : Int), .int .i64 iw, .int .i64 dl, .int .i64 (LD.length : Int), .int .i64 dw, .int .i64 ll, .int .i64 (LL.length : Int), .int .i64 lw, .int .i64 pt, .int .i64 ph, .int .i64 pr, .int .i64 il, .int .i64 (LI.length : Int), .int .i64 iw, .slice (some ⟨gI, 0, none⟩) LI.length kI, .int .i64 dl, .int .i64 (LD.length : Int), .int .i64 dw, .slice (some ⟨gD, 0, none⟩) LD.length kD, .int .i64 ll, .int .i64 (LL.length : Int), .int .i64 lw, .slice (some ⟨gL, 0, none⟩) LL.length kL, .int .i64 pt, .int .i64 ph, .int .i64 pr, .slice (some ⟨gP, 0, none⟩) cs.length cP, .int .u32 hist, .slice R' rs.length r', .slice (some ⟨g, 0, none⟩) 1 cap] rfl)
  have HU6 := Lib.hid hu6
  have HR6 := Lib.hid hr6
  have HN6 := Lib.hid hN
  have HF10 := Lib.hid hF
  have HR10 := Lib.hid hR
  have HB10 := Lib.hid hb10
  have HP10 := Lib.hid hP10
  have HRR := Lib.hid (And.intro hrc (And.intro hrn hrd))
  clear hbx hN hu6 hr6 hF hR hb10 hP10 hr10 hrc hrn hrd
  go_wp2_with (first
    | (with_reducible refine wpList_load_mid rfl 67 (Operand.tmp 151) rfl W2.heap.size 0 rfl [.int .i64 il, .int .i64 (LI.length : Int), .int .i64 iw, .int .i64 dl, .int .i64 (LD.length : Int), .int .i64 dw, .int .i64 ll, .int .i64 (LL.length : Int), .int .i64 lw, .int .i64 pt, .int .i64 ph, .int .i64 pr, .int .i64 il, .int .i64 (LI.length : Int), .int .i64 iw, .slice (some ⟨gI, 0, none⟩) LI.length kI, .int .i64 dl, .int .i64 (LD.length : Int), .int .i64 dw, .slice (some ⟨gD, 0, none⟩) LD.length kD, .int .i64 ll, .int .i64 (LL.length : Int), .int .i64 lw, .slice (some ⟨gL, 0, none⟩) LL.length kL, .int .i64 pt, .int .i64 ph, .int .i64 pr, .slice (some ⟨gP, 0, none⟩) cs.length cP, .int .u32 hist, .slice R' rs.length r', .slice (some ⟨g, 0, none⟩) 1 cap] _ HRG.out Try.underlying67 rfl (by kernel_rfl) ?_)
    | (refine wpList_store_row rfl 67 (Operand.tmp 4) (Operand.tmp 152) rfl (w.heap.size + 1) #[.int .i64 il, .int .i64 (LI.length : Int), .int .i64 iw, .int .i64 dl, .int .i64 (LD.length : Int), .int .i64 dw, .int .i64 ll, .int .i64 (LL.length : Int), .int .i64 lw, .int .i64 pt, .int .i64 ph, .int .i64 pr, .int .i64 il, .int .i64 (LI.length : Int), .int .i64 iw, .slice (some ⟨gI, 0, none⟩) LI.length kI, .int .i64 dl, .int .i64 (LD.length : Int), .int .i64 dw, .slice (some ⟨gD, 0, none⟩) LD.length kD, .int .i64 ll, .int .i64 (LL.length : Int), .int .i64 lw, .slice (some ⟨gL, 0, none⟩) LL.length kL, .int .i64 pt, .int .i64 ph, .int .i64 pr, .slice (some ⟨gP, 0, none⟩) cs.length cP, .int .u32 hist, .slice R' rs.length r', .slice (some ⟨g, 0, none⟩) 1 cap] rfl rfl 67 _ HR6.out (by kernel_rfl) rfl (by simp [Value.oneCell']) ?_))
  (try simp only [Exit.inBlock, Exit.then])
  refine bodyPost_ret (v := .tuple #[.agg #[.int .i64 il, .int .i64 (LI.length : Int), .int .i64 iw, .int .i64 dl, .int .i64 (LD.length : Int), .int .i64 dw, .int .i64 ll, .int .i64 (LL.length : Int), .int .i64 lw, .int .i64 pt, .int .i64 ph, .int .i64 pr, .int .i64 il, .int .i64 (LI.length : Int), .int .i64 iw, .slice (some ⟨gI, 0, none⟩) LI.length kI, .int .i64 dl, .int .i64 (LD.length : Int), .int .i64 dw, .slice (some ⟨gD, 0, none⟩) LD.length kD, .int .i64 ll, .int .i64 (LL.length : Int), .int .i64 lw, .slice (some ⟨gL, 0, none⟩) LL.length kL, .int .i64 pt, .int .i64 ph, .int .i64 pr, .slice (some ⟨gP, 0, none⟩) cs.length cP, .int .u32 hist, .slice R' rs.length r', .slice (some ⟨g, 0, none⟩) 1 cap], .int .i64 0]) (results_cell2 rfl rfl rfl (run_loadVar_row (P := Try.prog) _ _ 67 67 _ (0, 0) _ (setRow_heap HR6.out _) Try.underlying67 rfl (by kernel_rfl))) rfl ?_
  have hX1 : w.heap.size + 1 < W2.heap.size := by omega
  have hu : Upd (fun k => k = W2.heap.size ∨ k = w.heap.size + 1) W10 (((((((W10.setCell ⟨W2.heap.size, 24, none⟩ (.int .i64 pt)).setCell ⟨W2.heap.size, 25, none⟩ (.int .i64 ph)).setCell ⟨W2.heap.size, 26, none⟩ (.int .i64 pr)).setCell ⟨W2.heap.size, 27, none⟩ (.slice (some ⟨gP, 0, none⟩) cs.length cP)).setCell ⟨W2.heap.size, 28, none⟩ (.int .u32 hist)).setCell ⟨W2.heap.size, 29, none⟩ (.slice R' rs.length r')).setRow (w.heap.size + 1) #[.int .i64 il, .int .i64 (LI.length : Int), .int .i64 iw, .int .i64 dl, .int .i64 (LD.length : Int), .int .i64 dw, .int .i64 ll, .int .i64 (LL.length : Int), .int .i64 lw, .int .i64 pt, .int .i64 ph, .int .i64 pr, .int .i64 il, .int .i64 (LI.length : Int), .int .i64 iw, .slice (some ⟨gI, 0, none⟩) LI.length kI, .int .i64 dl, .int .i64 (LD.length : Int), .int .i64 dw, .slice (some ⟨gD, 0, none⟩) LD.length kD, .int .i64 ll, .int .i64 (LL.length : Int), .int .i64 lw, .slice (some ⟨gL, 0, none⟩) LL.length kL, .int .i64 pt, .int .i64 ph, .int .i64 pr, .slice (some ⟨gP, 0, none⟩) cs.length cP, .int .u32 hist, .slice R' rs.length r', .slice (some ⟨g, 0, none⟩) 1 cap]) :=
    (HU6.out.mono (G := fun k => k = W2.heap.size ∨ k = w.heap.size + 1) fun _ h => .inl h).trans (Upd.setRow _ _ _) fun k (h : k = w.heap.size + 1) => .inl (.inr h)
  have hF := HF10.out
  have ho1 := hF.out W2.heap.size (.inr (.inr (.inl rfl)))
  have ho2 := hF.out (w.heap.size + 1) (.inr (.inl rfl))
  have hnf : ∀ k, FP.feet _ aI aD aL k → ¬ (k = W2.heap.size ∨ k = w.heap.size + 1) := fun k hk e => by
    rcases e with rfl | rfl
    · exact ho1.2 hk
    · exact ho2.2 hk
  have hge : ∀ k, FP.feet _ aI aD aL k → w.heap.size ≤ k := fun k hk => by
    have h1 := hF.feet.lt k (by rw [hF.nI, hF.nD, hF.nL]; exact hk)
    have h2 : W3.heap.size ≤ k := h1.1
    omega
  have hgx : g ≠ W2.heap.size ∧ g ≠ w.heap.size + 1 := ⟨fun e => HR10.out.x (.inr (.inr (.inl e))), fun e => HR10.out.x (.inr (.inl e))⟩
  have hcnt0 := own_upd HP10.out.cnt hu fun k hk e => by
    have h1 := (HP10.out.cnt.lt k hk).1
    have h2 : gP = k := by simpa [Value.ownBlock] using hk
    rcases e with e | e <;> omega
  have hret0 := HP10.out.ret.upd hu fun k hk e => by
    have h1 := (HP10.out.ret.lt k hk).1
    have h2 := vPLt k (by cases R' <;> first | exact hk | cases hk)
    rcases e with e | e <;> omega
  have hrow0 := own_upd HR10.out.row hu fun k hk e => by
    have h2 : g = k := by simpa [Value.ownBlock] using hk
    rcases e with e | e
    · exact hgx.1 (h2.trans e)
    · exact hgx.2 (h2.trans e)
  refine ⟨gI, kI, aI, gD, kD, aD, gL, kL, aL, g, cap, gP, cP, R', r', rfl, (hF.feet.i.upd hu fun k hk => hnf k (.inl (by rw [← hF.nI]; exact hk))).base fun k hk => hge k (.inl (by rw [← hF.nI]; exact hk)), (hF.feet.d.upd hu fun k hk => hnf k (.inr (.inl (by rw [← hF.nD]; exact hk)))).base fun k hk => hge k (.inr (.inl (by rw [← hF.nD]; exact hk))),
    (hF.feet.l.upd hu fun k hk => hnf k (.inr (.inr (by rw [← hF.nL]; exact hk)))).base fun k hk => hge k (.inr (.inr (by rw [← hF.nL]; exact hk))), fun W' hu2 => ?_, HB10.out.trans (hu.below (by have := HB10.out.size; omega) fun k hk => by rcases hk with h | h <;> omega)⟩
  have hcnt := own_upd hcnt0 hu2 fun k hk e => by have := (hcnt0.lt k hk).1; omega
  have hret := hret0.upd hu2 fun k hk e => by have := (hret0.lt k hk).1; omega
  have hrow := own_upd hrow0 hu2 fun k hk e => by
    have h1 : W3.heap.size ≤ k := (hrow0.lt k hk).1
    omega
  obtain ⟨A5, c5, e5, hc5⟩ := own_rd hcnt
  cases e5
  obtain ⟨A6, c6, e6, hc6, hn6, hr6⟩ := hret.slice
  have hrl : (nums .u32 rs).length = rs.length := by simp
  rw [hrl] at e6 hc6 hr6
  cases e6
  have hcc : cs.length ≤ cP := by
    rcases hcnt.2 with ⟨e, _⟩ | ⟨g', cap', cur, e, _, _, h3, _⟩
    · cases e
    · cases e; exact h3
  exact ⟨⟨hc5, fun h => (by cases h), hcc, hr6, hn6, hc6⟩, FRow.rdN ⟨hrow, HR10.out.out, HR10.out.x⟩⟩
end Go.Proofs.Ytdkacdfhapgboaa
