/- Part 15 of the texts that the proof stands on: FeedA. -/
import Derived.Test.YtdkacdfhapgboaaM14
import Derived.Deep.RegionHeld3
import Derived.Deep.CutBlock

/- sim.Feed of a valid simulation, in full. (printed by gen/feeda.py) -/
set_option linter.unusedVariables false
set_option linter.unusedSimpArgs false
namespace Go.Proofs.Ytdkacdfhapgboaa
open Go.RowKit

theorem rdN_cells {w : World} {A : Option Addr} {ns : List (List Int)} (h : RdN w A ns) (q : Nat) (hq : q < (ns.flatMap cntCells).length) : ∃ ad, A = some ad ∧ w.cell? (ad.add q) = some ((ns.flatMap cntCells)[q]) := by
  rw [flat_len cntCells_len] at hq
  have hk : q / 14 < ns.length := by omega
  obtain ⟨ad, e, hc⟩ := h.cell (q / 14) hk (q % 14) (by omega)
  have hqe : q / 14 * 14 + q % 14 = q := by omega
  rw [hqe] at hc
  refine ⟨ad, e, ?_⟩
  rw [hc]
  have h2 := flatN_at ns (q / 14) (q % 14) hk (by omega)
  rw [hqe] at h2
  rw [← h2, List.getElem?_eq_getElem]
theorem RdN.rd {w : World} {A : Option Addr} {ns : List (List Int)} (h : RdN w A ns) : Rd w A ns.length 14 (ns.flatMap cntCells) :=
  ⟨flat_len cntCells_len ns, h.le, fun j hj => rdN_cells h j hj⟩
theorem rd_rdN {w : World} {A : Option Addr} {ns : List (List Int)} (h : Rd w A ns.length 14 (ns.flatMap cntCells)) : RdN w A ns := by
  refine ⟨h.le, fun k hk j hj => ?_⟩
  have hlt : k * 14 + j < (ns.flatMap cntCells).length := by rw [flat_len cntCells_len]; omega
  obtain ⟨ad, e, hc⟩ := h.cell (k * 14 + j) hlt
  refine ⟨ad, e, ?_⟩
  rw [hc]
  have h2 := flatN_at ns k j hk hj
  rw [List.getElem?_eq_getElem hlt] at h2
  exact h2

/-- A simulation that was fed, by its addresses. -/
structure FedR (K : GC) (pt : Int) (nI nD nL : Nat) (B : Nat) (gI kI : Nat) (aI : List Value) (gD kD : Nat) (aD : List Value) (gL kL : Nat) (aL : List Value) (N : Option Addr) (nc gP cP : Nat) (R : Option Addr) (r : Nat) (s : GS) (w' : World) : Prop where
  i : OwnSets w' B gI kI aI s.I
  d : OwnSets w' B gD kD aD s.D
  l : OwnSets w' B gL kL aL s.L
  rest : ∀ W', Upd (fun k => k < B) w' W' → RdP W' (some ⟨gP, 0, none⟩) cP s.cs R r s.rs ∧ RdN W' N s.N ∧ (N = none → nc = 0)
  ok : GOk K pt nI nD nL s
/-- How sim.Feed ends. -/
structure FeedE (K : GC) (nI nD nL : Nat) (pt ph : Int) (s0 : GS) (es : List (List Int)) (w : World) (e : Ending) (w' : World) : Prop where
  ok : ∀ s, s0.feed K es = some s → ∃ gI kI aI gD kD aD gL kL aL N nc gP cP R r, e = .returned (.tuple #[.agg #[.int .i64 K.il, .int .i64 (nI : Int), .int .i64 K.iw, .int .i64 K.dl, .int .i64 (nD : Int), .int .i64 K.dw, .int .i64 K.ll, .int .i64 (nL : Int), .int .i64 K.lw, .int .i64 pt, .int .i64 ph, .int .i64 K.ret, .int .i64 K.il, .int .i64 (nI : Int), .int .i64 K.iw, .slice (some ⟨gI, 0, none⟩) nI kI, .int .i64 K.dl, .int .i64 (nD : Int), .int .i64 K.dw, .slice (some ⟨gD, 0, none⟩) nD kD, .int .i64 K.ll, .int .i64 (nL : Int), .int .i64 K.lw, .slice (some ⟨gL, 0, none⟩) nL kL, .int .i64 pt, .int .i64 ph, .int .i64 K.ret, .slice (some ⟨gP, 0, none⟩) s.cs.length cP, .int .u32 s.hist, .slice R s.rs.length r, .slice N s.N.length nc], .int .i64 0]) ∧ FedR K pt nI nD nL w.heap.size gI kI aI gD kD aD gL kL aL N nc gP cP R r s w'
  no : s0.feed K es = none → e = .returned (.tuple #[.agg zeroA, .int .i64 2])
  bel : Below w.heap.size w w'

attribute [local irreducible] World.setCell in
set_option maxRecDepth 100000 in
set_option maxHeartbeats 4000000 in
theorem Feed_any (il iw dl dw ll lw pt ph pr : Int) (AI AD AL A R N AE : Option Addr) (ci cd cl ca ra nc ce hn : Nat) (vI vD vL : List Value) (LI LD LL : List (List Int)) (cs rs : List Int) (hist : Int) (ns es : List (List Int)) (w : World)
    (hs : simShapeB ⟨il, LI.length, iw, dl, LD.length, dw, ll, LL.length, lw, pt, ph, pr⟩ = true) (hI : RdSets w AI vI LI) (hD : RdSets w AD vD LD) (hL : RdSets w AL vL LL) (nI : AI = none → ci = 0) (nD : AD = none → cd = 0) (nL : AL = none → cl = 0) (hc : RdP w A ca cs R ra rs) (hN : RdN w N ns) (nN : N = none → nc = 0) (he : RdE w AE es)
    (oI : cacheOk il LI.length iw LI) (oD : cacheOk dl LD.length dw LD) (oL : cacheOk ll LL.length lw LL) (oP : predOk pt ph pr cs hist rs) (oN : NOk ns) (hph : ph = (hn : Int)) (hh : 0 ≤ hist ∧ hist < 4294967296) (hel : es.length ≤ 200) (hnl : ns.length + es.length ≤ 20000)
    (hev : ∀ k, k < es.length → EvU (gn es k)) :
    Calls Try.prog 28 #[.agg #[.int .i64 il, .int .i64 (LI.length : Int), .int .i64 iw, .int .i64 dl, .int .i64 (LD.length : Int), .int .i64 dw, .int .i64 ll, .int .i64 (LL.length : Int), .int .i64 lw, .int .i64 pt, .int .i64 ph, .int .i64 pr, .int .i64 il, .int .i64 (LI.length : Int), .int .i64 iw, .slice AI LI.length ci, .int .i64 dl, .int .i64 (LD.length : Int), .int .i64 dw, .slice AD LD.length cd, .int .i64 ll, .int .i64 (LL.length : Int), .int .i64 lw, .slice AL LL.length cl, .int .i64 pt, .int .i64 ph, .int .i64 pr, .slice A cs.length ca, .int .u32 hist, .slice R rs.length ra, .slice N ns.length nc], .slice AE es.length ce] w (FeedE ⟨il, iw, dl, dw, ll, lw, pr, hn⟩ LI.length LD.length LL.length pt ph ⟨LI, LD, LL, ns, cs, hist, rs⟩ es w) := by
  obtain ⟨hl1, hl2, hl3⟩ := predOk_len oP
  obtain ⟨i1, i2, i3, i4, i5, i6⟩ := shapeB_line oI.1
  obtain ⟨d1, d2, d3, d4, d5, d6⟩ := shapeB_line oD.1
  obtain ⟨l1, l2, l3, l4, l5, l6⟩ := shapeB_line oL.1
  have wI : ∀ i, i < LI.length → (gl LI i).length ≤ 1024 := fun i hi => by have := (oI.2.2 i hi).1; omega
  have wD : ∀ i, i < LD.length → (gl LD i).length ≤ 1024 := fun i hi => by have := (oD.2.2 i hi).1; omega
  have wL : ∀ i, i < LL.length → (gl LL i).length ≤ 1024 := fun i hi => by have := (oL.2.2 i hi).1; omega
  obtain ⟨W0, hW0⟩ : ∃ W0, (w.alloc (.cells #[.int .i64 il, .int .i64 (LI.length : Int), .int .i64 iw, .int .i64 dl, .int .i64 (LD.length : Int), .int .i64 dw, .int .i64 ll, .int .i64 (LL.length : Int), .int .i64 lw, .int .i64 pt, .int .i64 ph, .int .i64 pr, .int .i64 il, .int .i64 (LI.length : Int), .int .i64 iw, .slice AI LI.length ci, .int .i64 dl, .int .i64 (LD.length : Int), .int .i64 dw, .slice AD LD.length cd, .int .i64 ll, .int .i64 (LL.length : Int), .int .i64 lw, .slice AL LL.length cl, .int .i64 pt, .int .i64 ph, .int .i64 pr, .slice A cs.length ca, .int .u32 hist, .slice R rs.length ra, .slice N ns.length nc] 67)).alloc zeroS = W0 := ⟨_, rfl⟩
  have hb0 : Below w.heap.size w W0 := by rw [← hW0]; exact ((Below.refl _ _).alloc (Nat.le_refl _) _).alloc (by simp) _
  have hx0 : W0.heap[w.heap.size]? = some (.cells #[.int .i64 il, .int .i64 (LI.length : Int), .int .i64 iw, .int .i64 dl, .int .i64 (LD.length : Int), .int .i64 dw, .int .i64 ll, .int .i64 (LL.length : Int), .int .i64 lw, .int .i64 pt, .int .i64 ph, .int .i64 pr, .int .i64 il, .int .i64 (LI.length : Int), .int .i64 iw, .slice AI LI.length ci, .int .i64 dl, .int .i64 (LD.length : Int), .int .i64 dw, .slice AD LD.length cd, .int .i64 ll, .int .i64 (LL.length : Int), .int .i64 lw, .slice AL LL.length cl, .int .i64 pt, .int .i64 ph, .int .i64 pr, .slice A cs.length ca, .int .u32 hist, .slice R rs.length ra, .slice N ns.length nc] 67 (0, 0)) := by rw [← hW0]; exact (heap_alloc_old _ _ (by simp)).trans (heap_alloc_new w _)
  have hx1 : W0.heap[w.heap.size + 1]? = some zeroS := by rw [← hW0]; exact alloc_at _ _ _ (by simp)
  have hsz : W0.heap.size = w.heap.size + 2 := by rw [← hW0]; simp
  have HI := Lib.hid (hI.below hb0)
  have HD := Lib.hid (hD.below hb0)
  have HL := Lib.hid (hL.below hb0)
  have HC := Lib.hid (hc.below hb0)
  have HN := Lib.hid (hN.below hb0)
  have HE := Lib.hid (he.below hb0)
  have HEw := Lib.hid he
  have HX := Lib.hid hx0
  have HX1 := Lib.hid hx1
  have HB0 := Lib.hid hb0
  have OI := Lib.hid oI
  have OD := Lib.hid oD
  have OL := Lib.hid oL
  have OP := Lib.hid oP
  have HEV := Lib.hid hev
  have ON := Lib.hid oN
  have HPH := Lib.hid hph
  have WI := Lib.hid wI
  have WD := Lib.hid wD
  have WL := Lib.hid wL
  have HR0 : Hid (W0.rangeAt w.heap.size 0 [.int .i64 il, .int .i64 (LI.length : Int), .int .i64 iw, .int .i64 dl, .int .i64 (LD.length : Int), .int .i64 dw, .int .i64 ll, .int .i64 (LL.length : Int), .int .i64 lw, .int .i64 pt, .int .i64 ph, .int .i64 pr, .int .i64 il, .int .i64 (LI.length : Int), .int .i64 iw, .slice AI LI.length ci, .int .i64 dl, .int .i64 (LD.length : Int), .int .i64 dw, .slice AD LD.length cd, .int .i64 ll, .int .i64 (LL.length : Int), .int .i64 lw, .slice AL LL.length cl, .int .i64 pt, .int .i64 ph, .int .i64 pr, .slice A cs.length ca, .int .u32 hist, .slice R rs.length ra, .slice N ns.length nc]) := Lib.hid (range_sub hx0 0 _ rfl)
  clear hI hD hL hc hN he hx0 hx1 hb0 oI oD oL oP oN hev wI wD wL hph
  go_enter Try.func28, Try.ntmps28
  go_wp2_with (with_reducible refine wpList_load_mid rfl 67 (Operand.tmp 2) rfl w.heap.size 0 rfl [.int .i64 il, .int .i64 (LI.length : Int), .int .i64 iw, .int .i64 dl, .int .i64 (LD.length : Int), .int .i64 dw, .int .i64 ll, .int .i64 (LL.length : Int), .int .i64 lw, .int .i64 pt, .int .i64 ph, .int .i64 pr, .int .i64 il, .int .i64 (LI.length : Int), .int .i64 iw, .slice AI LI.length ci, .int .i64 dl, .int .i64 (LD.length : Int), .int .i64 dw, .slice AD LD.length cd, .int .i64 ll, .int .i64 (LL.length : Int), .int .i64 lw, .slice AL LL.length cl, .int .i64 pt, .int .i64 ph, .int .i64 pr, .slice A cs.length ca, .int .u32 hist, .slice R rs.length ra, .slice N ns.length nc] _ HR0.out Try.underlying67 rfl (by kernel_rfl) ?_)
  refine (sim_true il LI.length iw dl LD.length dw ll LL.length lw pt ph pr AI AD AL A R N ci cd cl ca ra nc vI vD vL LI LD LL cs rs hist ns _ hs HI.out HD.out HL.out HC.out.cnt HN.out OI.out OD.out OL.out OP.out hh (by omega) ON.out.cntsOk).mono ?_
  rintro e W1 ⟨rfl, hb⟩
  replace HI := Lib.hid (HI.out.below hb)
  replace HD := Lib.hid (HD.out.below hb)
  replace HL := Lib.hid (HL.out.below hb)
  replace HC := Lib.hid (HC.out.below hb)
  replace HN := Lib.hid (HN.out.below hb)
  replace HE := Lib.hid (HE.out.below hb)
  replace HX := Lib.hid (belowBox hb HX.out)
  replace HX1 := Lib.hid (belowBox hb HX1.out)
  replace HB0 := Lib.hid (bvia HB0.out hb (Nat.le_refl _))
  have hs1 : w.heap.size + 2 ≤ W1.heap.size := by have := hb.size; omega
  clear hb
  have hrg : ∀ W' : World, W'.heap[w.heap.size]? = some (.cells #[.int .i64 il, .int .i64 (LI.length : Int), .int .i64 iw, .int .i64 dl, .int .i64 (LD.length : Int), .int .i64 dw, .int .i64 ll, .int .i64 (LL.length : Int), .int .i64 lw, .int .i64 pt, .int .i64 ph, .int .i64 pr, .int .i64 il, .int .i64 (LI.length : Int), .int .i64 iw, .slice AI LI.length ci, .int .i64 dl, .int .i64 (LD.length : Int), .int .i64 dw, .slice AD LD.length cd, .int .i64 ll, .int .i64 (LL.length : Int), .int .i64 lw, .slice AL LL.length cl, .int .i64 pt, .int .i64 ph, .int .i64 pr, .slice A cs.length ca, .int .u32 hist, .slice R rs.length ra, .slice N ns.length nc] 67 (0, 0)) → W'.rangeAt w.heap.size 0 [.int .i64 il, .int .i64 (LI.length : Int), .int .i64 iw, .int .i64 dl, .int .i64 (LD.length : Int), .int .i64 dw, .int .i64 ll, .int .i64 (LL.length : Int), .int .i64 lw, .int .i64 pt, .int .i64 ph, .int .i64 pr, .int .i64 il, .int .i64 (LI.length : Int), .int .i64 iw, .slice AI LI.length ci, .int .i64 dl, .int .i64 (LD.length : Int), .int .i64 dw, .slice AD LD.length cd, .int .i64 ll, .int .i64 (LL.length : Int), .int .i64 lw, .slice AL LL.length cl, .int .i64 pt, .int .i64 ph, .int .i64 pr, .slice A cs.length ca, .int .u32 hist, .slice R rs.length ra, .slice N ns.length nc] ∧ W'.rangeAt w.heap.size 24 [.int .i64 pt, .int .i64 ph, .int .i64 pr, .slice A cs.length ca, .int .u32 hist, .slice R rs.length ra] := fun W' h' => ⟨range_sub h' 0 _ rfl, range_sub h' 24 _ rfl⟩
  have HRG := Lib.hid hrg
  have hbd : Below W1.heap.size W1 W1.drew := bdrewN (Below.refl _ _) 1
  have HBD := Lib.hid hbd
  clear hrg hbd
  go_wp2_with fail
  refine wp_region_noPanic ?_
  refine wp_region_held_drew (S := fun W' => W'.heap[w.heap.size]? = some (.cells #[.int .i64 il, .int .i64 (LI.length : Int), .int .i64 iw, .int .i64 dl, .int .i64 (LD.length : Int), .int .i64 dw, .int .i64 ll, .int .i64 (LL.length : Int), .int .i64 lw, .int .i64 pt, .int .i64 ph, .int .i64 pr, .int .i64 il, .int .i64 (LI.length : Int), .int .i64 iw, .slice AI LI.length ci, .int .i64 dl, .int .i64 (LD.length : Int), .int .i64 dw, .slice AD LD.length cd, .int .i64 ll, .int .i64 (LL.length : Int), .int .i64 lw, .slice AL LL.length cl, .int .i64 pt, .int .i64 ph, .int .i64 pr, .slice A cs.length ca, .int .u32 hist, .slice R rs.length ra, .slice N ns.length nc] 67 (0, 0))) (by kernel_rfl) HX.out (fun hHeld => ?_)
  refine wpAnyH_take (i := 0) (oi := { dst := some 19, op := Op.load 67 (Operand.tmp 2), type := 67, pos := "sim.go:372", after := #[], guard := none }) (v := .agg #[.int .i64 il, .int .i64 (LI.length : Int), .int .i64 iw, .int .i64 dl, .int .i64 (LD.length : Int), .int .i64 dw, .int .i64 ll, .int .i64 (LL.length : Int), .int .i64 lw, .int .i64 pt, .int .i64 ph, .int .i64 pr, .int .i64 il, .int .i64 (LI.length : Int), .int .i64 iw, .slice AI LI.length ci, .int .i64 dl, .int .i64 (LD.length : Int), .int .i64 dw, .slice AD LD.length cd, .int .i64 ll, .int .i64 (LL.length : Int), .int .i64 lw, .slice AL LL.length cl, .int .i64 pt, .int .i64 ph, .int .i64 pr, .slice A cs.length ca, .int .u32 hist, .slice R rs.length ra, .slice N ns.length nc]) rfl (by kernel_rfl) (by kernel_rfl) (by kernel_rfl) (fun _ _ _ h => h) (yieldsIf_load_mid (by rfl) 67 (Operand.tmp 2) rfl w.heap.size 0 rfl [.int .i64 il, .int .i64 (LI.length : Int), .int .i64 iw, .int .i64 dl, .int .i64 (LD.length : Int), .int .i64 dw, .int .i64 ll, .int .i64 (LL.length : Int), .int .i64 lw, .int .i64 pt, .int .i64 ph, .int .i64 pr, .int .i64 il, .int .i64 (LI.length : Int), .int .i64 iw, .slice AI LI.length ci, .int .i64 dl, .int .i64 (LD.length : Int), .int .i64 dw, .slice AD LD.length cd, .int .i64 ll, .int .i64 (LL.length : Int), .int .i64 lw, .slice AL LL.length cl, .int .i64 pt, .int .i64 ph, .int .i64 pr, .slice A cs.length ca, .int .u32 hist, .slice R rs.length ra, .slice N ns.length nc] _ (fun W' h' => (HRG.out W' h').1) Try.underlying67 rfl (by kernel_rfl)) hHeld ?_
  try simp only [Act.put, List.setIfInBounds_toArray, List.set_cons_zero, List.set_cons_succ]
  refine wpAnyH_take (i := 1) (oi := { dst := some 20, op := Op.fieldAddr 67 (Operand.tmp 2) 4, type := 0, pos := "sim.go:372", after := #[], guard := none }) (v := .pointer (some ⟨w.heap.size, 24, none⟩)) rfl (by kernel_rfl) (by kernel_rfl) (by kernel_rfl) (fun _ _ _ h => h) (Or.inl ⟨by rfl, fun W' hW' => by go_simp⟩) hHeld ?_
  try simp only [Act.put, List.setIfInBounds_toArray, List.set_cons_zero, List.set_cons_succ]
  refine wpAnyH_take (i := 2) (oi := { dst := some 21, op := Op.load 52 (Operand.tmp 20), type := 52, pos := "sim.go:372", after := #[{ on := 1, ground := Ground.data }], guard := none }) (v := .agg #[.int .i64 pt, .int .i64 ph, .int .i64 pr, .slice A cs.length ca, .int .u32 hist, .slice R rs.length ra]) rfl (by kernel_rfl) (by kernel_rfl) (by kernel_rfl) (fun _ _ _ h => h) (yieldsIf_load_mid (by rfl) 52 (Operand.tmp 20) rfl w.heap.size 24 rfl [.int .i64 pt, .int .i64 ph, .int .i64 pr, .slice A cs.length ca, .int .u32 hist, .slice R rs.length ra] _ (fun W' h' => (HRG.out W' h').2) Try.underlying52 rfl (by kernel_rfl)) hHeld ?_
  try simp only [Act.put, List.setIfInBounds_toArray, List.set_cons_zero, List.set_cons_succ]
  refine wpAnyH_ready (rs := [3]) (by kernel_rfl) (by simp) ?_
  refine AllReadyH.cons (o := { dst := some 22, op := Op.call { callee := Callee.value (Operand.func 58), args := #[Operand.tmp 21], argTypes := #[52] }, type := 102, pos := "sim.go:372", after := #[{ on := 2, ground := Ground.data }], guard := none }) rfl (fun K hK => ?_) AllReadyH.nil
  go_wp2_with fail
  refine (ownedPred_any pt ph pr A R ca ra cs rs hist W1.drew (HC.out.below HBD.out) hl1 hl2 (by omega)).mono ?_
  rintro e W2 ⟨pb, gP, cP, vP, rfl, hP, hb2⟩
  have HB2 := Lib.hid (HBD.out.trans (hb2.mono (Nat.le_refl _)))
  refine hK.out _ _ (belowBox HB2.out HX.out) (fun hHeld2 => ?_)
  clear hK K
  try simp only [Act.put, List.setIfInBounds_toArray, List.set_cons_zero, List.set_cons_succ]
  refine wpAnyH_take (i := 4) (oi := { dst := some 23, op := Op.build 115 #[(0, Operand.tmp 19), (1, Operand.tmp 22)], type := 115, pos := "sim.go:372", after := #[{ on := 0, ground := Ground.data }, { on := 3, ground := Ground.data }], guard := none }) (v := .agg #[.int .i64 il, .int .i64 (LI.length : Int), .int .i64 iw, .int .i64 dl, .int .i64 (LD.length : Int), .int .i64 dw, .int .i64 ll, .int .i64 (LL.length : Int), .int .i64 lw, .int .i64 pt, .int .i64 ph, .int .i64 pr, .int .i64 il, .int .i64 (LI.length : Int), .int .i64 iw, .slice AI LI.length ci, .int .i64 dl, .int .i64 (LD.length : Int), .int .i64 dw, .slice AD LD.length cd, .int .i64 ll, .int .i64 (LL.length : Int), .int .i64 lw, .slice AL LL.length cl, .int .i64 pt, .int .i64 ph, .int .i64 pr, .slice A cs.length ca, .int .u32 hist, .slice R rs.length ra, .slice N ns.length nc, .pointer (some ⟨pb, 0, none⟩)]) rfl (by kernel_rfl) (by kernel_rfl) (by kernel_rfl) (fun _ _ _ h => h) (Or.inl ⟨by rfl, fun W' hW' => by kernel_rfl⟩) hHeld2 ?_
  try simp only [Act.put, List.setIfInBounds_toArray, List.set_cons_zero, List.set_cons_succ]
  refine wpAnyH_ready (rs := [5]) (by kernel_rfl) (by simp) ?_
  refine AllReadyH.cons (o := { dst := some 24, op := Op.box 115 (Operand.tmp 23), type := 112, pos := "sim.go:372", after := #[{ on := 4, ground := Ground.data }], guard := none }) rfl (fun K hK => ?_) AllReadyH.nil
  rw [if_pos (by rfl)]
  refine wp_of_run (v := .pointer (some ⟨W2.heap.size, 0, none⟩)) (w' := W2.alloc (.cells #[.int .i64 il, .int .i64 (LI.length : Int), .int .i64 iw, .int .i64 dl, .int .i64 (LD.length : Int), .int .i64 dw, .int .i64 ll, .int .i64 (LL.length : Int), .int .i64 lw, .int .i64 pt, .int .i64 ph, .int .i64 pr, .int .i64 il, .int .i64 (LI.length : Int), .int .i64 iw, .slice AI LI.length ci, .int .i64 dl, .int .i64 (LD.length : Int), .int .i64 dw, .slice AD LD.length cd, .int .i64 ll, .int .i64 (LL.length : Int), .int .i64 lw, .slice AL LL.length cl, .int .i64 pt, .int .i64 ph, .int .i64 pr, .slice A cs.length ca, .int .u32 hist, .slice R rs.length ra, .slice N ns.length nc, .pointer (some ⟨pb, 0, none⟩)] 115)) (by kernel_rfl) ?_
  refine hK.out _ _ (belowBox (HB2.out.alloc HB2.out.size _) HX.out) (fun hHeld3 => ?_)
  clear hK K
  try simp only [Act.put, List.setIfInBounds_toArray, List.set_cons_zero, List.set_cons_succ]
  refine wpAnyH_take (i := 6) (oi := { dst := some 6, op := Op.assign (Operand.tmp 24), type := 112, pos := "sim.go:372", after := #[{ on := 5, ground := Ground.data }, { on := 3, ground := Ground.chain }, { on := 0, ground := Ground.phase }, { on := 1, ground := Ground.phase }, { on := 2, ground := Ground.phase }, { on := 3, ground := Ground.phase }, { on := 4, ground := Ground.phase }, { on := 5, ground := Ground.phase }], guard := none }) (v := .pointer (some ⟨W2.heap.size, 0, none⟩)) rfl (by kernel_rfl) (by kernel_rfl) (by kernel_rfl) (fun _ _ _ h => h) (Or.inl ⟨by rfl, fun W' hW' => by go_simp⟩) hHeld3 ?_
  try simp only [Act.put, List.setIfInBounds_toArray, List.set_cons_zero, List.set_cons_succ]
  refine wpAnyH_done (by kernel_rfl) ?_ _
  refine NoPanic.normal ?_
  have hw1 := HB0.out.size
  have hw2 := HB2.out.size
  have HW12 : w.heap.size + 2 ≤ W2.heap.size := by omega
  have pbLt : pb < W2.heap.size := (Array.getElem?_eq_some_iff.1 hP.box).1
  have gPLt : gP < W2.heap.size := (hP.cnt.lt gP rfl).2
  have vPLt : ∀ k, blk vP = some k → k < W2.heap.size := fun k hk => (hP.ret.lt k hk).2
  obtain ⟨W3, hW3⟩ : ∃ W3, W2.alloc (.cells #[.int .i64 il, .int .i64 (LI.length : Int), .int .i64 iw, .int .i64 dl, .int .i64 (LD.length : Int), .int .i64 dw, .int .i64 ll, .int .i64 (LL.length : Int), .int .i64 lw, .int .i64 pt, .int .i64 ph, .int .i64 pr, .int .i64 il, .int .i64 (LI.length : Int), .int .i64 iw, .slice AI LI.length ci, .int .i64 dl, .int .i64 (LD.length : Int), .int .i64 dw, .slice AD LD.length cd, .int .i64 ll, .int .i64 (LL.length : Int), .int .i64 lw, .slice AL LL.length cl, .int .i64 pt, .int .i64 ph, .int .i64 pr, .slice A cs.length ca, .int .u32 hist, .slice R rs.length ra, .slice N ns.length nc, .pointer (some ⟨pb, 0, none⟩)] 115) = W3 := ⟨_, rfl⟩
  have hu3 : Upd (fun _ => False) W2 W3 := by rw [← hW3]; exact Upd.alloc _ _ _
  have hb23 : Below W2.heap.size W2 W3 := by rw [← hW3]; exact balloc _ _
  have hs3 : W3.heap.size = W2.heap.size + 1 := by rw [← hW3]; simp
  have h3 : W3.heap[W2.heap.size]? = some (.cells #[.int .i64 il, .int .i64 (LI.length : Int), .int .i64 iw, .int .i64 dl, .int .i64 (LD.length : Int), .int .i64 dw, .int .i64 ll, .int .i64 (LL.length : Int), .int .i64 lw, .int .i64 pt, .int .i64 ph, .int .i64 pr, .int .i64 il, .int .i64 (LI.length : Int), .int .i64 iw, .slice AI LI.length ci, .int .i64 dl, .int .i64 (LD.length : Int), .int .i64 dw, .slice AD LD.length cd, .int .i64 ll, .int .i64 (LL.length : Int), .int .i64 lw, .slice AL LL.length cl, .int .i64 pt, .int .i64 ph, .int .i64 pr, .slice A cs.length ca, .int .u32 hist, .slice R rs.length ra, .slice N ns.length nc, .pointer (some ⟨pb, 0, none⟩)] 115 (0, 0)) := by rw [← hW3]; exact heap_alloc_new _ _
  have hb13 : Below W1.heap.size W1 W3 := bvia HB2.out hb23 (Nat.le_refl _)
  have HX3 := Lib.hid (belowBox hb13 HX.out)
  have H3 := Lib.hid h3
  have HI3 := Lib.hid (HI.out.below hb13)
  have HD3 := Lib.hid (HD.out.below hb13)
  have HL3 := Lib.hid (HL.out.below hb13)
  have HN3 := Lib.hid (HN.out.below hb13)
  have HP3 := Lib.hid (show OwnP W3 W1.heap.size pb pt ph pr gP cP cs hist vP rs from ⟨belowBox hb23 hP.box, own_upd hP.cnt hu3 fun _ _ h => h, hP.ret.upd hu3 fun _ _ h => h, hP.ge⟩)
  have HB13 := Lib.hid hb13
  have kq : ∀ W', Below W3.heap.size W3 W' → W'.cell? ⟨w.heap.size, 12, none⟩ = some (.int .i64 il) ∧ W'.cell? ⟨w.heap.size, 13, none⟩ = some (.int .i64 (LI.length : Int)) ∧ W'.cell? ⟨w.heap.size, 14, none⟩ = some (.int .i64 iw) ∧ W'.cell? ⟨w.heap.size, 15, none⟩ = some (.slice AI LI.length ci) ∧ W'.cell? ⟨w.heap.size, 16, none⟩ = some (.int .i64 dl) ∧ W'.cell? ⟨w.heap.size, 17, none⟩ = some (.int .i64 (LD.length : Int)) ∧ W'.cell? ⟨w.heap.size, 18, none⟩ = some (.int .i64 dw) ∧ W'.cell? ⟨w.heap.size, 19, none⟩ = some (.slice AD LD.length cd) ∧ W'.cell? ⟨w.heap.size, 20, none⟩ = some (.int .i64 ll) ∧ W'.cell? ⟨w.heap.size, 21, none⟩ = some (.int .i64 (LL.length : Int)) ∧ W'.cell? ⟨w.heap.size, 22, none⟩ = some (.int .i64 lw) ∧ W'.cell? ⟨w.heap.size, 23, none⟩ = some (.slice AL LL.length cl) ∧ W'.cell? ⟨w.heap.size, 30, none⟩ = some (.slice N ns.length nc) := fun W' h' => ⟨boxAt (belowBox h' HX3.out) rfl, boxAt (belowBox h' HX3.out) rfl, boxAt (belowBox h' HX3.out) rfl, boxAt (belowBox h' HX3.out) rfl, boxAt (belowBox h' HX3.out) rfl, boxAt (belowBox h' HX3.out) rfl, boxAt (belowBox h' HX3.out) rfl, boxAt (belowBox h' HX3.out) rfl, boxAt (belowBox h' HX3.out) rfl, boxAt (belowBox h' HX3.out) rfl, boxAt (belowBox h' HX3.out) rfl, boxAt (belowBox h' HX3.out) rfl, boxAt (belowBox h' HX3.out) rfl⟩
  have kq2 : ∀ W1' W', Below W3.heap.size W3 W1' → Upd (fun k => k = W2.heap.size) W1' W' → W'.cell? ⟨w.heap.size, 12, none⟩ = some (.int .i64 il) ∧ W'.cell? ⟨w.heap.size, 13, none⟩ = some (.int .i64 (LI.length : Int)) ∧ W'.cell? ⟨w.heap.size, 14, none⟩ = some (.int .i64 iw) ∧ W'.cell? ⟨w.heap.size, 15, none⟩ = some (.slice AI LI.length ci) ∧ W'.cell? ⟨w.heap.size, 16, none⟩ = some (.int .i64 dl) ∧ W'.cell? ⟨w.heap.size, 17, none⟩ = some (.int .i64 (LD.length : Int)) ∧ W'.cell? ⟨w.heap.size, 18, none⟩ = some (.int .i64 dw) ∧ W'.cell? ⟨w.heap.size, 19, none⟩ = some (.slice AD LD.length cd) ∧ W'.cell? ⟨w.heap.size, 20, none⟩ = some (.int .i64 ll) ∧ W'.cell? ⟨w.heap.size, 21, none⟩ = some (.int .i64 (LL.length : Int)) ∧ W'.cell? ⟨w.heap.size, 22, none⟩ = some (.int .i64 lw) ∧ W'.cell? ⟨w.heap.size, 23, none⟩ = some (.slice AL LL.length cl) ∧ W'.cell? ⟨w.heap.size, 30, none⟩ = some (.slice N ns.length nc) := fun W1' W' h1 hu => by
    obtain ⟨k12, k13, k14, k15, k16, k17, k18, k19, k20, k21, k22, k23, k30⟩ := kq W1' h1
    exact ⟨cell_upd hu k12 (by omega), cell_upd hu k13 (by omega), cell_upd hu k14 (by omega), cell_upd hu k15 (by omega), cell_upd hu k16 (by omega), cell_upd hu k17 (by omega), cell_upd hu k18 (by omega), cell_upd hu k19 (by omega), cell_upd hu k20 (by omega), cell_upd hu k21 (by omega), cell_upd hu k22 (by omega), cell_upd hu k23 (by omega), cell_upd hu k30 (by omega)⟩
  have KQ := Lib.hid kq
  have KQ2 := Lib.hid kq2
  have hbd3 : Below W3.heap.size W3 W3.drew := bdrewN (Below.refl _ _) 1
  have HBD3 := Lib.hid hbd3
  clear kq kq2 hbd3 hb13 hb23 hu3 h3 hP hb2 hHeld hHeld2 hHeld3
  rw [hW3]
  clear hW3
  go_wp2_with fail
  go_region_held3 (fun W' => W'.cell? ⟨w.heap.size, 12, none⟩ = some (.int .i64 il) ∧ W'.cell? ⟨w.heap.size, 13, none⟩ = some (.int .i64 (LI.length : Int)) ∧ W'.cell? ⟨w.heap.size, 14, none⟩ = some (.int .i64 iw) ∧ W'.cell? ⟨w.heap.size, 15, none⟩ = some (.slice AI LI.length ci) ∧ W'.cell? ⟨w.heap.size, 16, none⟩ = some (.int .i64 dl) ∧ W'.cell? ⟨w.heap.size, 17, none⟩ = some (.int .i64 (LD.length : Int)) ∧ W'.cell? ⟨w.heap.size, 18, none⟩ = some (.int .i64 dw) ∧ W'.cell? ⟨w.heap.size, 19, none⟩ = some (.slice AD LD.length cd) ∧ W'.cell? ⟨w.heap.size, 20, none⟩ = some (.int .i64 ll) ∧ W'.cell? ⟨w.heap.size, 21, none⟩ = some (.int .i64 (LL.length : Int)) ∧ W'.cell? ⟨w.heap.size, 22, none⟩ = some (.int .i64 lw) ∧ W'.cell? ⟨w.heap.size, 23, none⟩ = some (.slice AL LL.length cl) ∧ W'.cell? ⟨w.heap.size, 30, none⟩ = some (.slice N ns.length nc)) (first | exact KQ.out _ (Below.refl _ _) | exact KQ.out _ HBD3.out | exact KQ.out _ HB4.out | exact KQ.out _ HB5.out | exact KQ.out _ HB6.out | exact KQ.out _ HB7.out | (refine KQ2.out _ _ HB7.out ?_; ((repeat refine Upd.set ?_ (by rfl) _ _); exact Upd.refl _ _)))
    (first
      | (go_at_call 59; with_reducible refine (owned_any il LI.length iw AI ci vI LI W3.drew (HI3.out.below HBD3.out) nI (by omega) (by omega) WI.out).mono ?_; rintro e W4 ⟨gI, kI, uI, rfl, ho4, hb4⟩; have HB4 := Lib.hid (HBD3.out.trans (hb4.mono (Nat.le_refl _))))
      | (go_at_call 59; with_reducible refine (owned_any dl LD.length dw AD cd vD LD W4 (HD3.out.below HB4.out) nD (by omega) (by omega) WD.out).mono ?_; rintro e W5 ⟨gD, kD, uD, rfl, ho5, hb5⟩; have HB5 := Lib.hid (HB4.out.trans (hb5.mono HB4.out.size)))
      | (go_at_call 59; with_reducible refine (owned_any ll LL.length lw AL cl vL LL W5 (HL3.out.below HB5.out) nL (by omega) (by omega) WL.out).mono ?_; rintro e W6 ⟨gL, kL, uL, rfl, ho6, hb6⟩; have HB6 := Lib.hid (HB5.out.trans (hb6.mono HB5.out.size)))
      | (go_at_call 60; refine (clone_cnt N ns.length nc (ns.flatMap cntCells) W6 (HN3.out.below HB6.out).rd nN (flat_one _) (by omega)).mono ?_; rintro e W7 ⟨v7, rfl, ho7, hb7⟩; obtain ⟨A7, c7, rfl, _⟩ := own_rd ho7; have HB7 := Lib.hid (HB6.out.trans (hb7.mono HB6.out.size)); have hz6 := belowBox HB7.out H3.out; have z12 := boxAt (i := 12) hz6 rfl; have z13 := boxAt (i := 13) hz6 rfl; have z14 := boxAt (i := 14) hz6 rfl; have z15 := boxAt (i := 15) hz6 rfl; have z16 := boxAt (i := 16) hz6 rfl; have z17 := boxAt (i := 17) hz6 rfl; have z18 := boxAt (i := 18) hz6 rfl; have z19 := boxAt (i := 19) hz6 rfl; have z20 := boxAt (i := 20) hz6 rfl; have z21 := boxAt (i := 21) hz6 rfl; have z22 := boxAt (i := 22) hz6 rfl; have z23 := boxAt (i := 23) hz6 rfl; have z30 := boxAt (i := 30) hz6 rfl; have d0 : ∀ o, W7.frozen? ⟨W2.heap.size, o, none⟩ = false := fun o => boxFree hz6; clear hz6))
  have v0 := belowBox HB7.out H3.out
  obtain ⟨V1, hV1⟩ : ∃ V1, W7.setCell ⟨W2.heap.size, 12, none⟩ (.int .i64 il) = V1 := ⟨_, rfl⟩
  have v1 : V1.heap[W2.heap.size]? = some (.cells #[.int .i64 il, .int .i64 (LI.length : Int), .int .i64 iw, .int .i64 dl, .int .i64 (LD.length : Int), .int .i64 dw, .int .i64 ll, .int .i64 (LL.length : Int), .int .i64 lw, .int .i64 pt, .int .i64 ph, .int .i64 pr, .int .i64 il, .int .i64 (LI.length : Int), .int .i64 iw, .slice AI LI.length ci, .int .i64 dl, .int .i64 (LD.length : Int), .int .i64 dw, .slice AD LD.length cd, .int .i64 ll, .int .i64 (LL.length : Int), .int .i64 lw, .slice AL LL.length cl, .int .i64 pt, .int .i64 ph, .int .i64 pr, .slice A cs.length ca, .int .u32 hist, .slice R rs.length ra, .slice N ns.length nc, .pointer (some ⟨pb, 0, none⟩)] 115 (0, 0)) := by rw [← hV1]; exact set1_heap v0 12 _
  clear v0
  obtain ⟨V2, hV2⟩ : ∃ V2, V1.setCell ⟨W2.heap.size, 13, none⟩ (.int .i64 (LI.length : Int)) = V2 := ⟨_, rfl⟩
  have v2 : V2.heap[W2.heap.size]? = some (.cells #[.int .i64 il, .int .i64 (LI.length : Int), .int .i64 iw, .int .i64 dl, .int .i64 (LD.length : Int), .int .i64 dw, .int .i64 ll, .int .i64 (LL.length : Int), .int .i64 lw, .int .i64 pt, .int .i64 ph, .int .i64 pr, .int .i64 il, .int .i64 (LI.length : Int), .int .i64 iw, .slice AI LI.length ci, .int .i64 dl, .int .i64 (LD.length : Int), .int .i64 dw, .slice AD LD.length cd, .int .i64 ll, .int .i64 (LL.length : Int), .int .i64 lw, .slice AL LL.length cl, .int .i64 pt, .int .i64 ph, .int .i64 pr, .slice A cs.length ca, .int .u32 hist, .slice R rs.length ra, .slice N ns.length nc, .pointer (some ⟨pb, 0, none⟩)] 115 (0, 0)) := by rw [← hV2]; exact set1_heap v1 13 _
  clear v1
  obtain ⟨V3, hV3⟩ : ∃ V3, V2.setCell ⟨W2.heap.size, 14, none⟩ (.int .i64 iw) = V3 := ⟨_, rfl⟩
  have v3 : V3.heap[W2.heap.size]? = some (.cells #[.int .i64 il, .int .i64 (LI.length : Int), .int .i64 iw, .int .i64 dl, .int .i64 (LD.length : Int), .int .i64 dw, .int .i64 ll, .int .i64 (LL.length : Int), .int .i64 lw, .int .i64 pt, .int .i64 ph, .int .i64 pr, .int .i64 il, .int .i64 (LI.length : Int), .int .i64 iw, .slice AI LI.length ci, .int .i64 dl, .int .i64 (LD.length : Int), .int .i64 dw, .slice AD LD.length cd, .int .i64 ll, .int .i64 (LL.length : Int), .int .i64 lw, .slice AL LL.length cl, .int .i64 pt, .int .i64 ph, .int .i64 pr, .slice A cs.length ca, .int .u32 hist, .slice R rs.length ra, .slice N ns.length nc, .pointer (some ⟨pb, 0, none⟩)] 115 (0, 0)) := by rw [← hV3]; exact set1_heap v2 14 _
  clear v2
  obtain ⟨V4, hV4⟩ : ∃ V4, V3.setCell ⟨W2.heap.size, 15, none⟩ (.slice (some ⟨gI, 0, none⟩) LI.length kI) = V4 := ⟨_, rfl⟩
  have v4 : V4.heap[W2.heap.size]? = some (.cells #[.int .i64 il, .int .i64 (LI.length : Int), .int .i64 iw, .int .i64 dl, .int .i64 (LD.length : Int), .int .i64 dw, .int .i64 ll, .int .i64 (LL.length : Int), .int .i64 lw, .int .i64 pt, .int .i64 ph, .int .i64 pr, .int .i64 il, .int .i64 (LI.length : Int), .int .i64 iw, .slice (some ⟨gI, 0, none⟩) LI.length kI, .int .i64 dl, .int .i64 (LD.length : Int), .int .i64 dw, .slice AD LD.length cd, .int .i64 ll, .int .i64 (LL.length : Int), .int .i64 lw, .slice AL LL.length cl, .int .i64 pt, .int .i64 ph, .int .i64 pr, .slice A cs.length ca, .int .u32 hist, .slice R rs.length ra, .slice N ns.length nc, .pointer (some ⟨pb, 0, none⟩)] 115 (0, 0)) := by rw [← hV4]; exact set1_heap v3 15 _
  clear v3
  obtain ⟨V5, hV5⟩ : ∃ V5, V4.setCell ⟨W2.heap.size, 16, none⟩ (.int .i64 dl) = V5 := ⟨_, rfl⟩
  have v5 : V5.heap[W2.heap.size]? = some (.cells #[.int .i64 il, .int .i64 (LI.length : Int), .int .i64 iw, .int .i64 dl, .int .i64 (LD.length : Int), .int .i64 dw, .int .i64 ll, .int .i64 (LL.length : Int), .int .i64 lw, .int .i64 pt, .int .i64 ph, .int .i64 pr, .int .i64 il, .int .i64 (LI.length : Int), .int .i64 iw, .slice (some ⟨gI, 0, none⟩) LI.length kI, .int .i64 dl, .int .i64 (LD.length : Int), .int .i64 dw, .slice AD LD.length cd, .int .i64 ll, .int .i64 (LL.length : Int), .int .i64 lw, .slice AL LL.length cl, .int .i64 pt, .int .i64 ph, .int .i64 pr, .slice A cs.length ca, .int .u32 hist, .slice R rs.length ra, .slice N ns.length nc, .pointer (some ⟨pb, 0, none⟩)] 115 (0, 0)) := by rw [← hV5]; exact set1_heap v4 16 _
  clear v4
  obtain ⟨V6, hV6⟩ : ∃ V6, V5.setCell ⟨W2.heap.size, 17, none⟩ (.int .i64 (LD.length : Int)) = V6 := ⟨_, rfl⟩
  have v6 : V6.heap[W2.heap.size]? = some (.cells #[.int .i64 il, .int .i64 (LI.length : Int), .int .i64 iw, .int .i64 dl, .int .i64 (LD.length : Int), .int .i64 dw, .int .i64 ll, .int .i64 (LL.length : Int), .int .i64 lw, .int .i64 pt, .int .i64 ph, .int .i64 pr, .int .i64 il, .int .i64 (LI.length : Int), .int .i64 iw, .slice (some ⟨gI, 0, none⟩) LI.length kI, .int .i64 dl, .int .i64 (LD.length : Int), .int .i64 dw, .slice AD LD.length cd, .int .i64 ll, .int .i64 (LL.length : Int), .int .i64 lw, .slice AL LL.length cl, .int .i64 pt, .int .i64 ph, .int .i64 pr, .slice A cs.length ca, .int .u32 hist, .slice R rs.length ra, .slice N ns.length nc, .pointer (some ⟨pb, 0, none⟩)] 115 (0, 0)) := by rw [← hV6]; exact set1_heap v5 17 _
  clear v5
  obtain ⟨V7, hV7⟩ : ∃ V7, V6.setCell ⟨W2.heap.size, 18, none⟩ (.int .i64 dw) = V7 := ⟨_, rfl⟩
  have v7 : V7.heap[W2.heap.size]? = some (.cells #[.int .i64 il, .int .i64 (LI.length : Int), .int .i64 iw, .int .i64 dl, .int .i64 (LD.length : Int), .int .i64 dw, .int .i64 ll, .int .i64 (LL.length : Int), .int .i64 lw, .int .i64 pt, .int .i64 ph, .int .i64 pr, .int .i64 il, .int .i64 (LI.length : Int), .int .i64 iw, .slice (some ⟨gI, 0, none⟩) LI.length kI, .int .i64 dl, .int .i64 (LD.length : Int), .int .i64 dw, .slice AD LD.length cd, .int .i64 ll, .int .i64 (LL.length : Int), .int .i64 lw, .slice AL LL.length cl, .int .i64 pt, .int .i64 ph, .int .i64 pr, .slice A cs.length ca, .int .u32 hist, .slice R rs.length ra, .slice N ns.length nc, .pointer (some ⟨pb, 0, none⟩)] 115 (0, 0)) := by rw [← hV7]; exact set1_heap v6 18 _
  clear v6
  obtain ⟨V8, hV8⟩ : ∃ V8, V7.setCell ⟨W2.heap.size, 19, none⟩ (.slice (some ⟨gD, 0, none⟩) LD.length kD) = V8 := ⟨_, rfl⟩
  have v8 : V8.heap[W2.heap.size]? = some (.cells #[.int .i64 il, .int .i64 (LI.length : Int), .int .i64 iw, .int .i64 dl, .int .i64 (LD.length : Int), .int .i64 dw, .int .i64 ll, .int .i64 (LL.length : Int), .int .i64 lw, .int .i64 pt, .int .i64 ph, .int .i64 pr, .int .i64 il, .int .i64 (LI.length : Int), .int .i64 iw, .slice (some ⟨gI, 0, none⟩) LI.length kI, .int .i64 dl, .int .i64 (LD.length : Int), .int .i64 dw, .slice (some ⟨gD, 0, none⟩) LD.length kD, .int .i64 ll, .int .i64 (LL.length : Int), .int .i64 lw, .slice AL LL.length cl, .int .i64 pt, .int .i64 ph, .int .i64 pr, .slice A cs.length ca, .int .u32 hist, .slice R rs.length ra, .slice N ns.length nc, .pointer (some ⟨pb, 0, none⟩)] 115 (0, 0)) := by rw [← hV8]; exact set1_heap v7 19 _
  clear v7
  obtain ⟨V9, hV9⟩ : ∃ V9, V8.setCell ⟨W2.heap.size, 20, none⟩ (.int .i64 ll) = V9 := ⟨_, rfl⟩
  have v9 : V9.heap[W2.heap.size]? = some (.cells #[.int .i64 il, .int .i64 (LI.length : Int), .int .i64 iw, .int .i64 dl, .int .i64 (LD.length : Int), .int .i64 dw, .int .i64 ll, .int .i64 (LL.length : Int), .int .i64 lw, .int .i64 pt, .int .i64 ph, .int .i64 pr, .int .i64 il, .int .i64 (LI.length : Int), .int .i64 iw, .slice (some ⟨gI, 0, none⟩) LI.length kI, .int .i64 dl, .int .i64 (LD.length : Int), .int .i64 dw, .slice (some ⟨gD, 0, none⟩) LD.length kD, .int .i64 ll, .int .i64 (LL.length : Int), .int .i64 lw, .slice AL LL.length cl, .int .i64 pt, .int .i64 ph, .int .i64 pr, .slice A cs.length ca, .int .u32 hist, .slice R rs.length ra, .slice N ns.length nc, .pointer (some ⟨pb, 0, none⟩)] 115 (0, 0)) := by rw [← hV9]; exact set1_heap v8 20 _
  clear v8
  obtain ⟨V10, hV10⟩ : ∃ V10, V9.setCell ⟨W2.heap.size, 21, none⟩ (.int .i64 (LL.length : Int)) = V10 := ⟨_, rfl⟩
  have v10 : V10.heap[W2.heap.size]? = some (.cells #[.int .i64 il, .int .i64 (LI.length : Int), .int .i64 iw, .int .i64 dl, .int .i64 (LD.length : Int), .int .i64 dw, .int .i64 ll, .int .i64 (LL.length : Int), .int .i64 lw, .int .i64 pt, .int .i64 ph, .int .i64 pr, .int .i64 il, .int .i64 (LI.length : Int), .int .i64 iw, .slice (some ⟨gI, 0, none⟩) LI.length kI, .int .i64 dl, .int .i64 (LD.length : Int), .int .i64 dw, .slice (some ⟨gD, 0, none⟩) LD.length kD, .int .i64 ll, .int .i64 (LL.length : Int), .int .i64 lw, .slice AL LL.length cl, .int .i64 pt, .int .i64 ph, .int .i64 pr, .slice A cs.length ca, .int .u32 hist, .slice R rs.length ra, .slice N ns.length nc, .pointer (some ⟨pb, 0, none⟩)] 115 (0, 0)) := by rw [← hV10]; exact set1_heap v9 21 _
  clear v9
  obtain ⟨V11, hV11⟩ : ∃ V11, V10.setCell ⟨W2.heap.size, 22, none⟩ (.int .i64 lw) = V11 := ⟨_, rfl⟩
  have v11 : V11.heap[W2.heap.size]? = some (.cells #[.int .i64 il, .int .i64 (LI.length : Int), .int .i64 iw, .int .i64 dl, .int .i64 (LD.length : Int), .int .i64 dw, .int .i64 ll, .int .i64 (LL.length : Int), .int .i64 lw, .int .i64 pt, .int .i64 ph, .int .i64 pr, .int .i64 il, .int .i64 (LI.length : Int), .int .i64 iw, .slice (some ⟨gI, 0, none⟩) LI.length kI, .int .i64 dl, .int .i64 (LD.length : Int), .int .i64 dw, .slice (some ⟨gD, 0, none⟩) LD.length kD, .int .i64 ll, .int .i64 (LL.length : Int), .int .i64 lw, .slice AL LL.length cl, .int .i64 pt, .int .i64 ph, .int .i64 pr, .slice A cs.length ca, .int .u32 hist, .slice R rs.length ra, .slice N ns.length nc, .pointer (some ⟨pb, 0, none⟩)] 115 (0, 0)) := by rw [← hV11]; exact set1_heap v10 22 _
  clear v10
  obtain ⟨V12, hV12⟩ : ∃ V12, V11.setCell ⟨W2.heap.size, 23, none⟩ (.slice (some ⟨gL, 0, none⟩) LL.length kL) = V12 := ⟨_, rfl⟩
  have v12 : V12.heap[W2.heap.size]? = some (.cells #[.int .i64 il, .int .i64 (LI.length : Int), .int .i64 iw, .int .i64 dl, .int .i64 (LD.length : Int), .int .i64 dw, .int .i64 ll, .int .i64 (LL.length : Int), .int .i64 lw, .int .i64 pt, .int .i64 ph, .int .i64 pr, .int .i64 il, .int .i64 (LI.length : Int), .int .i64 iw, .slice (some ⟨gI, 0, none⟩) LI.length kI, .int .i64 dl, .int .i64 (LD.length : Int), .int .i64 dw, .slice (some ⟨gD, 0, none⟩) LD.length kD, .int .i64 ll, .int .i64 (LL.length : Int), .int .i64 lw, .slice (some ⟨gL, 0, none⟩) LL.length kL, .int .i64 pt, .int .i64 ph, .int .i64 pr, .slice A cs.length ca, .int .u32 hist, .slice R rs.length ra, .slice N ns.length nc, .pointer (some ⟨pb, 0, none⟩)] 115 (0, 0)) := by rw [← hV12]; exact set1_heap v11 23 _
  clear v11
  obtain ⟨V13, hV13⟩ : ∃ V13, V12.setCell ⟨W2.heap.size, 30, none⟩ (.slice A7 ns.length c7) = V13 := ⟨_, rfl⟩
  have v13 : V13.heap[W2.heap.size]? = some (.cells #[.int .i64 il, .int .i64 (LI.length : Int), .int .i64 iw, .int .i64 dl, .int .i64 (LD.length : Int), .int .i64 dw, .int .i64 ll, .int .i64 (LL.length : Int), .int .i64 lw, .int .i64 pt, .int .i64 ph, .int .i64 pr, .int .i64 il, .int .i64 (LI.length : Int), .int .i64 iw, .slice (some ⟨gI, 0, none⟩) LI.length kI, .int .i64 dl, .int .i64 (LD.length : Int), .int .i64 dw, .slice (some ⟨gD, 0, none⟩) LD.length kD, .int .i64 ll, .int .i64 (LL.length : Int), .int .i64 lw, .slice (some ⟨gL, 0, none⟩) LL.length kL, .int .i64 pt, .int .i64 ph, .int .i64 pr, .slice A cs.length ca, .int .u32 hist, .slice R rs.length ra, .slice A7 ns.length c7, .pointer (some ⟨pb, 0, none⟩)] 115 (0, 0)) := by rw [← hV13]; exact set1_heap v12 30 _
  clear v12
  have hu8 : Upd (fun k => k = W2.heap.size) W7 V13 := by
    rw [← hV13, ← hV12, ← hV11, ← hV10, ← hV9, ← hV8, ← hV7, ← hV6, ← hV5, ← hV4, ← hV3, ← hV2, ← hV1]
    (repeat refine Upd.set ?_ (by rfl) _ _)
    exact Upd.refl _ _
  have hs8 : V13.heap.size = W7.heap.size := by rw [← hV13, ← hV12, ← hV11, ← hV10, ← hV9, ← hV8, ← hV7, ← hV6, ← hV5, ← hV4, ← hV3, ← hV2, ← hV1]; simp [World.setCell]
  rw [hV1, hV2, hV3, hV4, hV5, hV6, hV7, hV8, hV9, hV10, hV11, hV12, hV13]
  have hq := feet_new (W3 := W3) (fb := W2.heap.size) (by omega) ho4 ho5 ho6 hb4 hb5 hb6 (Upd.refl _ W6)
  have hs7 := hb7.size
  have h67 := hq.2
  have fl6 : ∀ k, feetP gI gD gL uI uD uL LI.length LD.length LL.length k → W3.heap.size ≤ k ∧ k < W6.heap.size := fun k hk => hq.1.lt k hk
  have F13 := (hq.1.upd (Upd.of_below hb7) fun k hk e => by have := (fl6 k hk).2; omega).upd hu8 fun k hk (e : k = W2.heap.size) => by have := (fl6 k hk).1; omega
  have R13 := own_upd (own_base' (B' := W3.heap.size) ho7 fun k hk => by have := (ho7.lt k hk).1; omega) hu8 fun k hk (e : k = W2.heap.size) => by have := (ho7.lt k hk).1; omega
  have rl7 : ∀ k, (Value.slice A7 ns.length c7).ownBlock = some k → W6.heap.size ≤ k ∧ k < W7.heap.size := fun k hk => ho7.lt k hk
  have u38 : Upd (fun k => k = W2.heap.size) W3 V13 := ⟨by rw [hu8.os, HB7.out.os], by rw [hu8.tape, HB7.out.tape], by rw [hu8.output, HB7.out.output], by have := HB7.out.size; omega, fun k hk hn => (hu8.block k (by have := HB7.out.size; omega) hn).trans (HB7.out.block k hk)⟩
  have HP8 := Lib.hid (HP3.out.upd u38 fun k hk e => by
    rcases hk with hk | hk | hk
    · omega
    · omega
    · have := vPLt k hk; omega)
  have hfbV : W2.heap.size < V13.heap.size := (Array.getElem?_eq_some_iff.1 v13).1
  have b1V : Below W1.heap.size W1 V13 := (bvia HB13.out HB7.out (Nat.le_refl _)).trans (hu8.below (by have := HB7.out.size; have := HB13.out.size; omega) fun k hk => by omega)
  have H13 := Lib.hid v13
  have HQ := Lib.hid F13
  have HRW := Lib.hid R13
  have FL6 := Lib.hid fl6
  have RL7 := Lib.hid rl7
  have HB1V := Lib.hid b1V
  have hs13 : W3.heap.size ≤ V13.heap.size := by omega
  clear hq u38 hu8 b1V v13 hb4 hb5 hb6 hb7 ho4 ho5 ho6 ho7 F13 R13 fl6 rl7 z12 z13 z14 z15 z16 z17 z18 z19 z20 z21 z22 z23 z30 d0 hV1 hV2 hV3 hV4 hV5 hV6 hV7 hV8 hV9 hV10 hV11 hV12 hV13
  go_wp2_with fail
  refine (handlers_any V13).mono ?_
  rintro e W9 ⟨rfl, hmap, hb9⟩
  have h9 := belowBox hb9 H13.out
  have hs9 := hb9.size
  have F9 := Lib.hid (HQ.out.upd (Upd.of_below hb9) fun k hk e => by have := (HQ.out.lt k hk).2; omega)
  have P9 := Lib.hid (HP8.out.upd (Upd.of_below hb9) fun k hk e => by
    rcases hk with hk | hk | hk
    · omega
    · omega
    · have := vPLt k hk; omega)
  have R97 := Lib.hid (own_upd HRW.out (Upd.of_below hb9) fun k hk e => by have := (HRW.out.lt k hk).2; omega)
  have M9 := Lib.hid hmap
  have X9 := Lib.hid h9
  have R9 := Lib.hid (belowBox (bvia HB1V.out hb9 (Nat.le_refl _)) HX1.out)
  have E9 := Lib.hid (HE.out.below (bvia HB1V.out hb9 (Nat.le_refl _)))
  have B9 := Lib.hid (bvia HB0.out (bvia HB1V.out hb9 (Nat.le_refl _)) (Nat.le_refl _))
  clear h9 hmap hb9
  clear HI HD HL HC HN HI3 HD3 HL3 HN3 HX HX3 H3 HP3 HB2 HB13 KQ KQ2 HBD HBD3 HB4 HB5 HB6 HB7 HRG HR0 HP8 HQ HRW HB1V H13 HX1 HE hs nI nD nL nN WI WD WL W0 hW0 hsz
  obtain ⟨P, hP⟩ : ∃ P : FP, P = { il := il, iw := iw, dl := dl, dw := dw, ll := ll, lw := lw, pt := pt, ph := ph, pr := pr, hist := hist, nI := LI.length, nD := LD.length, nL := LL.length, ca := ca, ra := ra, nc := cs.length, nr := rs.length, fb := W2.heap.size, pb := pb, gI := gI, kI := kI, gD := gD, kD := kD, gL := gL, kL := kL, mb := W7.heap.size, B := W3.heap.size, A := A, R := R, X := fun b => b < w.heap.size ∨ b = w.heap.size + 1 ∨ b = W2.heap.size ∨ b = W7.heap.size, W9 := W9 } := ⟨_, rfl⟩
  have hs12 := HW12
  have hp9 : ∀ k, (k = pb ∨ k = gP ∨ blk vP = some k) → W1.heap.size ≤ k ∧ k < W2.heap.size := fun k hk => by
    rcases hk with hk | hk | hk
    · subst hk; exact ⟨P9.out.ge, pbLt⟩
    · subst hk; exact ⟨(P9.out.cnt.lt k rfl).1, gPLt⟩
    · exact ⟨(P9.out.ret.lt k hk).1, vPLt k hk⟩
  have hGI : GI P ⟨LI, LD, LL, ns, cs, hist, rs⟩ (.slice A7 ns.length c7) uI uD uL W1.heap.size gP cP vP W9 := by
    have hm9 := (Array.getElem?_eq_some_iff.1 M9.out).1
    have hsmall : ∀ (n : Int) (L : List (List Int)), (∀ i, i < L.length → ((gl L i).length : Int) ≤ n) → Small n L := fun n L h i hi => by have := h i hi; omega
    have hXlt : ∀ b, P.X b → b < W3.heap.size ∨ b = W7.heap.size := fun b hb => by
      rw [hP] at hb
      rcases hb with h | h | h | h
      · left; omega
      · left; omega
      · left; omega
      · exact .inr h
    have hp9' := hp9
    refine ⟨?_, ⟨?_, fun k hk => ⟨fun e => ?_, fun e => ?_⟩, ON.out.len⟩, ?_, fun k hk => ⟨fun e => ?_, fun e => ?_, fun e => ?_⟩⟩
    · subst hP
      refine ⟨F9.out, by show W3.heap.size ≤ _; omega, rfl, rfl, rfl, hsmall _ _ fun i hi => (OI.out.2.2 i hi).1, hsmall _ _ fun i hi => (OD.out.2.2 i hi).1, hsmall _ _ fun i hi => (OL.out.2.2 i hi).1, X9.out, (by show W9.heap[W7.heap.size]? = _; rw [← hs8]; exact M9.out), fun b hb => ?_, .inr (.inr (.inl rfl)), .inr (.inr (.inr rfl)), by show W7.heap.size ≠ W2.heap.size; omega, Upd.refl _ _⟩
      have hlt := hXlt b hb
      exact ⟨by rcases hlt with h | h <;> omega, fun hk => by have := FL6.out b hk; rcases hlt with h | h <;> omega⟩
    · subst hP
      exact R97.out
    · have h1 := RL7.out k hk
      rw [hP] at e
      have h2 := FL6.out k e
      omega
    · have h1 := RL7.out k hk
      rcases hXlt k e with h2 | h2 <;> omega
    · subst hP
      exact P9.out
    · rw [hP] at e hk
      have h1 := FL6.out k e
      have h2 := hp9' k hk
      omega
    · have h2 := hp9' k (by rw [hP] at hk; exact hk)
      rw [hP] at e
      rcases e with h | h | h | h <;> omega
    · have h1 := RL7.out k e
      have h2 := hp9' k (by rw [hP] at hk; exact hk)
      omega
  clear hs12
  have hE : ∀ W, Upd (fun b => ¬ P.X b ∨ b = P.fb) P.W9 W → RdE W AE es := fun W hu => by
    subst hP
    refine HEw.out.below (B9.out.trans (hu.below (by have := B9.out.size; exact this) fun k hk => ?_))
    rcases hk with h | h
    · exact Nat.le_of_not_lt fun hlt => h (.inl hlt)
    · have h : k = W2.heap.size := h
      omega
  have hRB : P.X (w.heap.size + 1) ∧ w.heap.size + 1 ≠ P.fb ∧ P.W9.heap[w.heap.size + 1]? = some zeroS := by
    subst hP
    exact ⟨.inr (.inl rfl), by show w.heap.size + 1 ≠ W2.heap.size; omega, R9.out⟩
  have hBW : ∀ W, Upd (fun b => ¬ P.X b ∨ b = P.fb ∨ b = w.heap.size + 1) P.W9 W → Below w.heap.size w W := fun W hu => by
    subst hP
    refine B9.out.trans (hu.below (by have := B9.out.size; exact this) fun k hk => ?_)
    rcases hk with h | h | h
    · exact Nat.le_of_not_lt fun hlt => h (.inl hlt)
    · have h : k = W2.heap.size := h
      omega
    · omega
  have hOK : GOk (P.gc hn) pt P.nI P.nD P.nL ⟨LI, LD, LL, ns, cs, hist, rs⟩ := by
    subst hP
    have hp := OP.out
    rw [HPH.out] at hp
    exact ⟨OI.out, OD.out, OL.out, ON.out, hp, hh.1⟩
  have hB1 : W1.heap.size ≤ P.W9.heap.size := by
    subst hP
    show W1.heap.size ≤ W9.heap.size
    omega
  have hXX : ∀ k, ¬ P.X k → w.heap.size ≤ k ∧ k ≠ w.heap.size + 1 ∧ k ≠ W2.heap.size := fun k hk => by
    subst hP
    refine ⟨Nat.le_of_not_lt fun h => hk (.inl h), fun h => hk (.inr (.inl h)), fun h => hk (.inr (.inr (.inl h)))⟩
  have hPp : P.ph = (hn : Int) ∧ P.fb = W2.heap.size ∧ P.B = W3.heap.size := by
    subst hP
    exact ⟨HPH.out, rfl, rfl⟩
  have HGI := Lib.hid hGI
  have HE9 := Lib.hid hE
  have HRB := Lib.hid hRB
  have HBW := Lib.hid hBW
  have HOK := Lib.hid hOK
  have HXX := Lib.hid hXX
  have HPP := Lib.hid hPp
  clear hGI hE hRB hBW hOK hXX hPp P9 R9 R97 E9 F9 M9 X9 hp9
  go_upto_block 0 with fail
  subst hP
  refine feed_loopG _ hn pt ⟨LI, LD, LL, ns, cs, hist, rs⟩ (.slice A7 ns.length c7) uI uD uL W1.heap.size gP cP (w.heap.size + 1) vP AE ce es _ _ _ _ _ _ _ _ _ _ _ _ _ _ _ _ _ _ _ _ _ _ _ _ _ _ _ _ _ _ _ _ _ _ _ _ _ _ _ _ _ _ _ _ _ _ _ _ _ _ _ _ _ _ _ _ _ _ _ _ _ _ _ _ _ _ _ _ _ _ _ _ _ _ _ _ _ _ _ _ _ _ _ _ _ _ _ _ _ _ _ _ _ _ _ _ _ _ _ _ _ _ _ _ _ _ _ _ _ _ _ _ _ _ _ _ _ _ _ _ _ _ _ _ _ _ _ _ _ _ _ _ _ _ _ _ _ _ _ _ _ _ _ _ _ _ _  HGI.out HOK.out HPP.out.1 hel hnl HEV.out hB1 HRB.out HE9.out ?_ ?_
  rotate_left
  · intro u9 u10 u11 u12 u13 u14 u56 u57 u58 u59 u60 u61 u62 u63 u64 u65 u66 u67 u68 u69 u70 u71 u72 u73 u74 u75 u76 u77 u78 u79 u80 u81 u82 u83 u84 u85 u86 u87 u88 u89 u90 u91 u92 u93 u94 u95 u96 u97 u98 u99 u100 u101 u102 u103 u104 u105 u106 u107 u108 u109 u110 u111 u112 u113 u114 u115 u116 u117 u118 u119 u120 u121 u122 u123 u124 u125 u126 u127 u128 u129 u130 u131 u132 u133 u134 u135 u136 u137 W10 hu10 hr10 hno
    have HN10 := Lib.hid hno
    have HB10 := Lib.hid (HBW.out W10 hu10)
    have HR10 := Lib.hid hr10
    clear hu10 hr10 hno
    (try simp only [Exit.inBlock, Exit.then])
    refine bodyPost_ret (v := .tuple #[.agg zeroA, .int .i64 2]) (results_cell2 rfl rfl rfl (run_loadVar_row (P := Try.prog) _ _ 67 67 _ (0, 0) _ HR10.out Try.underlying67 rfl (by kernel_rfl))) rfl ?_
    exact FeedE.mk (fun s hs => absurd (HN10.out.symm.trans hs) (by simp)) (fun _ => rfl) HB10.out
  intro u5 u9 u10 u11 u12 u13 u14 u56 u57 u58 u59 u60 u61 u62 u63 u64 u65 u66 u67 u68 u69 u70 u71 u72 u73 u74 u75 u76 u77 u78 u79 u80 u81 u82 u83 u84 u85 u86 u87 u88 u89 u90 u91 u92 u93 u94 u95 u96 u97 u98 u99 u100 u101 u102 u103 u104 u105 u106 u107 u108 u109 u110 u111 u112 u113 u114 u115 u116 u117 u118 u119 u120 u121 u122 u123 u124 u125 u126 u127 u128 u129 u130 u131 u132 u133 u134 u135 u136 u137 W10 s vN aI aD aL vR hend
  obtain ⟨hG, hran, hok, hlen⟩ := hend
  rw [List.take_length] at hran
  have hF := hG.fi
  obtain ⟨N9, c9, rfl, _⟩ := own_rd hG.row.row
  have hk10 := hF.keep
  have hr10 : W10.heap[w.heap.size + 1]? = some zeroS := (hk10.block _ (Array.getElem?_eq_some_iff.1 HRB.out.2.2).1 fun e => e.elim (fun h => h HRB.out.1) HRB.out.2.1).trans HRB.out.2.2
  have hb10 := HBW.out W10 (hk10.mono fun b h => h.imp id .inl)
  have hP10 := hG.p
  obtain ⟨R', r', rfl, hrc, hrn, hrd⟩ := hP10.ret.slice
  have hrl : (nums .u32 s.rs).length = s.rs.length := by simp
  rw [hrl] at hP10 hrc hrd hG
  have hbx : W10.heap[W2.heap.size]? = some (.cells #[.int .i64 il, .int .i64 (LI.length : Int), .int .i64 iw, .int .i64 dl, .int .i64 (LD.length : Int), .int .i64 dw, .int .i64 ll, .int .i64 (LL.length : Int), .int .i64 lw, .int .i64 pt, .int .i64 ph, .int .i64 pr, .int .i64 il, .int .i64 (LI.length : Int), .int .i64 iw, .slice (some ⟨gI, 0, none⟩) LI.length kI, .int .i64 dl, .int .i64 (LD.length : Int), .int .i64 dw, .slice (some ⟨gD, 0, none⟩) LD.length kD, .int .i64 ll, .int .i64 (LL.length : Int), .int .i64 lw, .slice (some ⟨gL, 0, none⟩) LL.length kL, .int .i64 pt, .int .i64 ph, .int .i64 pr, .slice A cs.length ca, .int .u32 hist, .slice R rs.length ra, .slice N9 s.N.length c9, .pointer (some ⟨pb, 0, none⟩)] 115 (0, 0)) := hF.box
  obtain ⟨q0, q1, q2, q3, q4, q5, _⟩ := box6 hP10.box
  have y31 := boxAt (i := 31) hbx rfl
  have y24 := boxAt (i := 24) hbx rfl
  have y25 := boxAt (i := 25) hbx rfl
  have y26 := boxAt (i := 26) hbx rfl
  have y27 := boxAt (i := 27) hbx rfl
  have y28 := boxAt (i := 28) hbx rfl
  have y29 := boxAt (i := 29) hbx rfl
  have d0 : ∀ o, W10.frozen? ⟨W2.heap.size, o, none⟩ = false := fun o => boxFree hbx
  have hN : ((((((W10.setCell ⟨W2.heap.size, 24, none⟩ (.int .i64 pt)).setCell ⟨W2.heap.size, 25, none⟩ (.int .i64 ph)).setCell ⟨W2.heap.size, 26, none⟩ (.int .i64 pr)).setCell ⟨W2.heap.size, 27, none⟩ (.slice (some ⟨gP, 0, none⟩) s.cs.length cP)).setCell ⟨W2.heap.size, 28, none⟩ (.int .u32 s.hist)).setCell ⟨W2.heap.size, 29, none⟩ (.slice R' s.rs.length r')).heap[W2.heap.size]? = some (.cells #[.int .i64 il, .int .i64 (LI.length : Int), .int .i64 iw, .int .i64 dl, .int .i64 (LD.length : Int), .int .i64 dw, .int .i64 ll, .int .i64 (LL.length : Int), .int .i64 lw, .int .i64 pt, .int .i64 ph, .int .i64 pr, .int .i64 il, .int .i64 (LI.length : Int), .int .i64 iw, .slice (some ⟨gI, 0, none⟩) LI.length kI, .int .i64 dl, .int .i64 (LD.length : Int), .int .i64 dw, .slice (some ⟨gD, 0, none⟩) LD.length kD, .int .i64 ll, .int .i64 (LL.length : Int), .int .i64 lw, .slice (some ⟨gL, 0, none⟩) LL.length kL, .int .i64 pt, .int .i64 ph, .int .i64 pr, .slice (some ⟨gP, 0, none⟩) s.cs.length cP, .int .u32 s.hist, .slice R' s.rs.length r', .slice N9 s.N.length c9, .pointer (some ⟨pb, 0, none⟩)] 115 (0, 0)) := set1_heap (set1_heap (set1_heap (set1_heap (set1_heap (set1_heap hbx 24 _) 25 _) 26 _) 27 _) 28 _) 29 _
  have hu6 : Upd (fun k => k = W2.heap.size) W10 ((((((W10.setCell ⟨W2.heap.size, 24, none⟩ (.int .i64 pt)).setCell ⟨W2.heap.size, 25, none⟩ (.int .i64 ph)).setCell ⟨W2.heap.size, 26, none⟩ (.int .i64 pr)).setCell ⟨W2.heap.size, 27, none⟩ (.slice (some ⟨gP, 0, none⟩) s.cs.length cP)).setCell ⟨W2.heap.size, 28, none⟩ (.int .u32 s.hist)).setCell ⟨W2.heap.size, 29, none⟩ (.slice R' s.rs.length r')) := by
    (repeat refine Upd.set ?_ (by rfl) _ _)
    exact Upd.refl _ _
  have hr6 := (hu6.block _ (Array.getElem?_eq_some_iff.1 hr10).1 (by omega)).trans hr10
  have HRG := Lib.hid (range_sub hN 0 [.int .i64 il, .int .i64 (LI.length : Int), .int .i64 iw, .int .i64 dl, .int .i64 (LD.length : Int), .int .i64 dw, .int .i64 ll, .int .i64 (LL.length : Int), .int .i64 lw, .int .i64 pt, .int .i64 ph, .int .i64 pr, .int .i64 il, .int .i64 (LI.length : Int), .int .i64 iw, .slice (some ⟨gI, 0, none⟩) LI.length kI, .int .i64 dl, .int .i64 (LD.length : Int), .int .i64 dw, .slice (some ⟨gD, 0, none⟩) LD.length kD, .int .i64 ll, .int .i64 (LL.length : Int), .int .i64 lw, .slice (some ⟨gL, 0, none⟩) LL.length kL, .int .i64 pt, .int .i64 ph, .int .i64 pr, .slice (some ⟨gP, 0, none⟩) s.cs.length cP, .int .u32 s.hist, .slice R' s.rs.length r', .slice N9 s.N.length c9] rfl)
  have HU6 := Lib.hid hu6
  have HR6 := Lib.hid hr6
  have HN6 := Lib.hid hN
  have HG10 := Lib.hid hG
  have HB10 := Lib.hid hb10
  have HRAN := Lib.hid hran
  have HOK10 := Lib.hid hok
  have HRR := Lib.hid (And.intro hrc (And.intro hrn hrd))
  clear hbx hN hu6 hr6 hF hG hb10 hP10 hr10 hrc hrn hrd hran hok hlen hk10
  go_wp2_with (first
    | (with_reducible refine wpList_load_mid rfl 67 (Operand.tmp 151) rfl W2.heap.size 0 rfl [.int .i64 il, .int .i64 (LI.length : Int), .int .i64 iw, .int .i64 dl, .int .i64 (LD.length : Int), .int .i64 dw, .int .i64 ll, .int .i64 (LL.length : Int), .int .i64 lw, .int .i64 pt, .int .i64 ph, .int .i64 pr, .int .i64 il, .int .i64 (LI.length : Int), .int .i64 iw, .slice (some ⟨gI, 0, none⟩) LI.length kI, .int .i64 dl, .int .i64 (LD.length : Int), .int .i64 dw, .slice (some ⟨gD, 0, none⟩) LD.length kD, .int .i64 ll, .int .i64 (LL.length : Int), .int .i64 lw, .slice (some ⟨gL, 0, none⟩) LL.length kL, .int .i64 pt, .int .i64 ph, .int .i64 pr, .slice (some ⟨gP, 0, none⟩) s.cs.length cP, .int .u32 s.hist, .slice R' s.rs.length r', .slice N9 s.N.length c9] _ HRG.out Try.underlying67 rfl (by kernel_rfl) ?_)
    | (refine wpList_store_row rfl 67 (Operand.tmp 4) (Operand.tmp 152) rfl (w.heap.size + 1) #[.int .i64 il, .int .i64 (LI.length : Int), .int .i64 iw, .int .i64 dl, .int .i64 (LD.length : Int), .int .i64 dw, .int .i64 ll, .int .i64 (LL.length : Int), .int .i64 lw, .int .i64 pt, .int .i64 ph, .int .i64 pr, .int .i64 il, .int .i64 (LI.length : Int), .int .i64 iw, .slice (some ⟨gI, 0, none⟩) LI.length kI, .int .i64 dl, .int .i64 (LD.length : Int), .int .i64 dw, .slice (some ⟨gD, 0, none⟩) LD.length kD, .int .i64 ll, .int .i64 (LL.length : Int), .int .i64 lw, .slice (some ⟨gL, 0, none⟩) LL.length kL, .int .i64 pt, .int .i64 ph, .int .i64 pr, .slice (some ⟨gP, 0, none⟩) s.cs.length cP, .int .u32 s.hist, .slice R' s.rs.length r', .slice N9 s.N.length c9] rfl rfl 67 _ HR6.out (by kernel_rfl) rfl (by simp [Value.oneCell']) ?_))
  (try simp only [Exit.inBlock, Exit.then])
  refine bodyPost_ret (v := .tuple #[.agg #[.int .i64 il, .int .i64 (LI.length : Int), .int .i64 iw, .int .i64 dl, .int .i64 (LD.length : Int), .int .i64 dw, .int .i64 ll, .int .i64 (LL.length : Int), .int .i64 lw, .int .i64 pt, .int .i64 ph, .int .i64 pr, .int .i64 il, .int .i64 (LI.length : Int), .int .i64 iw, .slice (some ⟨gI, 0, none⟩) LI.length kI, .int .i64 dl, .int .i64 (LD.length : Int), .int .i64 dw, .slice (some ⟨gD, 0, none⟩) LD.length kD, .int .i64 ll, .int .i64 (LL.length : Int), .int .i64 lw, .slice (some ⟨gL, 0, none⟩) LL.length kL, .int .i64 pt, .int .i64 ph, .int .i64 pr, .slice (some ⟨gP, 0, none⟩) s.cs.length cP, .int .u32 s.hist, .slice R' s.rs.length r', .slice N9 s.N.length c9], .int .i64 0]) (results_cell2 rfl rfl rfl (run_loadVar_row (P := Try.prog) _ _ 67 67 _ (0, 0) _ (setRow_heap HR6.out _) Try.underlying67 rfl (by kernel_rfl))) rfl ?_
  have hX1 : w.heap.size + 1 < W2.heap.size := by omega
  have hu : Upd (fun k => k = W2.heap.size ∨ k = w.heap.size + 1) W10 (((((((W10.setCell ⟨W2.heap.size, 24, none⟩ (.int .i64 pt)).setCell ⟨W2.heap.size, 25, none⟩ (.int .i64 ph)).setCell ⟨W2.heap.size, 26, none⟩ (.int .i64 pr)).setCell ⟨W2.heap.size, 27, none⟩ (.slice (some ⟨gP, 0, none⟩) s.cs.length cP)).setCell ⟨W2.heap.size, 28, none⟩ (.int .u32 s.hist)).setCell ⟨W2.heap.size, 29, none⟩ (.slice R' s.rs.length r')).setRow (w.heap.size + 1) #[.int .i64 il, .int .i64 (LI.length : Int), .int .i64 iw, .int .i64 dl, .int .i64 (LD.length : Int), .int .i64 dw, .int .i64 ll, .int .i64 (LL.length : Int), .int .i64 lw, .int .i64 pt, .int .i64 ph, .int .i64 pr, .int .i64 il, .int .i64 (LI.length : Int), .int .i64 iw, .slice (some ⟨gI, 0, none⟩) LI.length kI, .int .i64 dl, .int .i64 (LD.length : Int), .int .i64 dw, .slice (some ⟨gD, 0, none⟩) LD.length kD, .int .i64 ll, .int .i64 (LL.length : Int), .int .i64 lw, .slice (some ⟨gL, 0, none⟩) LL.length kL, .int .i64 pt, .int .i64 ph, .int .i64 pr, .slice (some ⟨gP, 0, none⟩) s.cs.length cP, .int .u32 s.hist, .slice R' s.rs.length r', .slice N9 s.N.length c9]) :=
    (HU6.out.mono (G := fun k => k = W2.heap.size ∨ k = w.heap.size + 1) fun _ h => .inl h).trans (Upd.setRow _ _ _) fun k (h : k = w.heap.size + 1) => .inl (.inr h)
  have hG := HG10.out
  have hF := hG.fi
  have hXX : ∀ k, ¬ (k < w.heap.size ∨ k = w.heap.size + 1 ∨ k = W2.heap.size ∨ k = W7.heap.size) → w.heap.size ≤ k := fun k hk => Nat.le_of_not_lt fun h => hk (.inl h)
  have hne : ∀ k, ¬ (k < w.heap.size ∨ k = w.heap.size + 1 ∨ k = W2.heap.size ∨ k = W7.heap.size) → ¬ (k = W2.heap.size ∨ k = w.heap.size + 1) := fun k hk e => hk (e.elim (fun e => .inr (.inr (.inl e))) fun e => .inr (.inl e))
  have ho1 := hF.out W2.heap.size (.inr (.inr (.inl rfl)))
  have ho2 := hF.out (w.heap.size + 1) (.inr (.inl rfl))
  have hnf : ∀ k, FP.feet _ aI aD aL k → ¬ (k = W2.heap.size ∨ k = w.heap.size + 1) := fun k hk e => by
    rcases e with rfl | rfl
    · exact ho1.2 hk
    · exact ho2.2 hk
  have hge : ∀ k, FP.feet _ aI aD aL k → w.heap.size ≤ k := fun k hk => by
    have h1 := hF.feet.lt k (by rw [hF.nI, hF.nD, hF.nL]; exact hk)
    have h2 : W3.heap.size ≤ k := h1.1
    omega
  have hcnt0 := own_upd hG.p.cnt hu fun k hk => hne k (hG.pout k (.inr (.inl (by simpa [Value.ownBlock] using hk.symm)))).2.1
  have hret0 := hG.p.ret.upd hu fun k hk => hne k (hG.pout k (.inr (.inr hk))).2.1
  have hrow0 := own_upd hG.row.row hu fun k hk => hne k (hG.row.out k hk).2
  have hcnt1 : ∀ k, (Value.slice (some ⟨gP, 0, none⟩) s.cs.length cP).ownBlock = some k → w.heap.size ≤ k := fun k hk => hXX k (hG.pout k (.inr (.inl (by simpa [Value.ownBlock] using hk.symm)))).2.1
  have hret1 : ∀ k, blk (.slice R' s.rs.length r') = some k → w.heap.size ≤ k := fun k hk => hXX k (hG.pout k (.inr (.inr hk))).2.1
  have hrow1 : ∀ k, (Value.slice N9 s.N.length c9).ownBlock = some k → w.heap.size ≤ k := fun k hk => hXX k (hG.row.out k hk).2
  refine ⟨fun s' hs' => ?_, fun hno => ?_, HB10.out.trans (hu.below (by have := HB10.out.size; omega) fun k hk => by rcases hk with h | h <;> omega)⟩
  rotate_left
  · exact absurd (HRAN.out.symm.trans hno) (by simp)
  obtain rfl : s = s' := Option.some.inj (HRAN.out.symm.trans hs')
  have hnI := hF.nI
  have hnD := hF.nD
  have hnL := hF.nL
  refine ⟨gI, kI, aI, gD, kD, aD, gL, kL, aL, N9, c9, gP, cP, R', r', rfl, (hF.feet.i.upd hu fun k hk => hnf k (.inl (by rw [← hnI]; exact hk))).base fun k hk => hge k (.inl (by rw [← hnI]; exact hk)), (hF.feet.d.upd hu fun k hk => hnf k (.inr (.inl (by rw [← hnD]; exact hk)))).base fun k hk => hge k (.inr (.inl (by rw [← hnD]; exact hk))),
    (hF.feet.l.upd hu fun k hk => hnf k (.inr (.inr (by rw [← hnL]; exact hk)))).base fun k hk => hge k (.inr (.inr (by rw [← hnL]; exact hk))), fun W' hu2 => ?_, ?_⟩
  · have hcnt := own_upd hcnt0 hu2 fun k hk e => by have := hcnt1 k hk; omega
    have hret := hret0.upd hu2 fun k hk e => by have := hret1 k hk; omega
    have hrow := own_upd hrow0 hu2 fun k hk e => by have := hrow1 k hk; omega
    obtain ⟨A5, c5, e5, hc5⟩ := own_rd hcnt
    cases e5
    obtain ⟨A6, c6, e6, hc6, hn6, hr6⟩ := hret.slice
    have hrl : (nums .u32 s.rs).length = s.rs.length := by simp
    rw [hrl] at e6 hc6 hr6
    cases e6
    have hcc : s.cs.length ≤ cP := by
      rcases hcnt.2 with ⟨e, _⟩ | ⟨g', cap', cur, e, _, _, h3, _⟩
      · cases e
      · cases e; exact h3
    obtain ⟨A8, c8, e8, hc8⟩ := own_rd hrow
    cases e8
    refine ⟨⟨hc5, fun h => (by cases h), hcc, hr6, hn6, hc6⟩, rd_rdN hc8, fun h => ?_⟩
    subst h
    rcases hrow.2 with ⟨e, _⟩ | ⟨g', cap', cur, e, _⟩
    · injection e
    · injection e with h1
      cases h1
  · exact ⟨HOK10.out.i, HOK10.out.d, HOK10.out.l, HOK10.out.n, HOK10.out.p, HOK10.out.hist⟩
end Go.Proofs.Ytdkacdfhapgboaa
