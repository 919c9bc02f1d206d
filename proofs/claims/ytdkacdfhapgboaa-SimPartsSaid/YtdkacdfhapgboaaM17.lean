/- Part 17 of the texts that the proof stands on: FeedB, Few, FeedX, Same, SameX, WrapN, FeedY. -/
import Derived.Test.YtdkacdfhapgboaaM16
import Derived.BigQuiet
import Derived.Deep.QuietTactic
import Derived.Deep.RegionHeld3

/- sim.Feed of what is no valid simulation; Feed and Check, the lengths as letters. (printed by gen/feedb.py) -/
set_option linter.unusedVariables false
set_option linter.unusedSimpArgs false
namespace Go.Proofs.Ytdkacdfhapgboaa
open Go.RowKit

attribute [local irreducible] World.setCell World.setRow in
set_option maxRecDepth 100000 in
set_option maxHeartbeats 4000000 in
theorem Feed_bad (k0 k1 k2 k3 k4 k5 k6 k7 k8 k9 k10 k11 i0 i1 i2 d0 d1 d2 l0 l1 l2 p0 p1 p2 : Int) (AI AD AL A R N AE : Option Addr) (ci cd cl ca ra nc ne ce : Nat) (vI vD vL : List Value) (LI LD LL : List (List Int)) (cs rs : List Int) (hist : Int) (ns : List (List Int)) (w : World)
    (hI : RdSets w AI vI LI) (hD : RdSets w AD vD LD) (hL : RdSets w AL vL LL) (hc : RdI w .i64 A cs.length cs) (hn : RdN w N ns) (hh : 0 ≤ hist ∧ hist < 4294967296) (hbad : ¬ SimOk k0 k1 k2 k3 k4 k5 k6 k7 k8 k9 k10 k11 i0 i1 i2 d0 d1 d2 l0 l1 l2 p0 p1 p2 LI LD LL cs rs hist ns) :
    Calls Try.prog 28 #[.agg #[.int .i64 k0, .int .i64 k1, .int .i64 k2, .int .i64 k3, .int .i64 k4, .int .i64 k5, .int .i64 k6, .int .i64 k7, .int .i64 k8, .int .i64 k9, .int .i64 k10, .int .i64 k11, .int .i64 i0, .int .i64 i1, .int .i64 i2, .slice AI LI.length ci, .int .i64 d0, .int .i64 d1, .int .i64 d2, .slice AD LD.length cd, .int .i64 l0, .int .i64 l1, .int .i64 l2, .slice AL LL.length cl, .int .i64 p0, .int .i64 p1, .int .i64 p2, .slice A cs.length ca, .int .u32 hist, .slice R rs.length ra, .slice N ns.length nc], .slice AE ne ce] w fun e w' => e = .returned (.tuple #[.agg zeroA, .int .i64 330]) ∧ Below w.heap.size w w' := by
  obtain ⟨W0, hW0⟩ : ∃ W0, (w.alloc (.cells #[.int .i64 k0, .int .i64 k1, .int .i64 k2, .int .i64 k3, .int .i64 k4, .int .i64 k5, .int .i64 k6, .int .i64 k7, .int .i64 k8, .int .i64 k9, .int .i64 k10, .int .i64 k11, .int .i64 i0, .int .i64 i1, .int .i64 i2, .slice AI LI.length ci, .int .i64 d0, .int .i64 d1, .int .i64 d2, .slice AD LD.length cd, .int .i64 l0, .int .i64 l1, .int .i64 l2, .slice AL LL.length cl, .int .i64 p0, .int .i64 p1, .int .i64 p2, .slice A cs.length ca, .int .u32 hist, .slice R rs.length ra, .slice N ns.length nc] 67)).alloc zeroS = W0 := ⟨_, rfl⟩
  have hb0 : Below w.heap.size w W0 := by rw [← hW0]; exact ((Below.refl _ _).alloc (Nat.le_refl _) _).alloc (by simp) _
  have hx0 : W0.heap[w.heap.size]? = some (.cells #[.int .i64 k0, .int .i64 k1, .int .i64 k2, .int .i64 k3, .int .i64 k4, .int .i64 k5, .int .i64 k6, .int .i64 k7, .int .i64 k8, .int .i64 k9, .int .i64 k10, .int .i64 k11, .int .i64 i0, .int .i64 i1, .int .i64 i2, .slice AI LI.length ci, .int .i64 d0, .int .i64 d1, .int .i64 d2, .slice AD LD.length cd, .int .i64 l0, .int .i64 l1, .int .i64 l2, .slice AL LL.length cl, .int .i64 p0, .int .i64 p1, .int .i64 p2, .slice A cs.length ca, .int .u32 hist, .slice R rs.length ra, .slice N ns.length nc] 67 (0, 0)) := by rw [← hW0]; exact (heap_alloc_old _ _ (by simp)).trans (heap_alloc_new w _)
  have hx1 : W0.heap[w.heap.size + 1]? = some zeroS := by rw [← hW0]; exact alloc_at _ _ _ (by simp)
  have HSB := Lib.hid (sim_bad k0 k1 k2 k3 k4 k5 k6 k7 k8 k9 k10 k11 i0 i1 i2 d0 d1 d2 l0 l1 l2 p0 p1 p2 AI AD AL A R N ci cd cl ca ra nc vI vD vL LI LD LL cs rs hist ns W0 (hI.below hb0) (hD.below hb0) (hL.below hb0) (Rd.below hc hb0) (hn.below hb0) hh hbad)
  have HX1 := Lib.hid hx1
  have HB0 := Lib.hid hb0
  have HR0 := Lib.hid (range_sub hx0 0 [.int .i64 k0, .int .i64 k1, .int .i64 k2, .int .i64 k3, .int .i64 k4, .int .i64 k5, .int .i64 k6, .int .i64 k7, .int .i64 k8, .int .i64 k9, .int .i64 k10, .int .i64 k11, .int .i64 i0, .int .i64 i1, .int .i64 i2, .slice AI LI.length ci, .int .i64 d0, .int .i64 d1, .int .i64 d2, .slice AD LD.length cd, .int .i64 l0, .int .i64 l1, .int .i64 l2, .slice AL LL.length cl, .int .i64 p0, .int .i64 p1, .int .i64 p2, .slice A cs.length ca, .int .u32 hist, .slice R rs.length ra, .slice N ns.length nc] rfl)
  clear hI hD hL hc hn hbad hx0 hx1 hb0
  go_enter Try.func28, Try.ntmps28
  go_wp2_with (with_reducible refine wpList_load_mid rfl 67 (Operand.tmp 2) rfl w.heap.size 0 rfl [.int .i64 k0, .int .i64 k1, .int .i64 k2, .int .i64 k3, .int .i64 k4, .int .i64 k5, .int .i64 k6, .int .i64 k7, .int .i64 k8, .int .i64 k9, .int .i64 k10, .int .i64 k11, .int .i64 i0, .int .i64 i1, .int .i64 i2, .slice AI LI.length ci, .int .i64 d0, .int .i64 d1, .int .i64 d2, .slice AD LD.length cd, .int .i64 l0, .int .i64 l1, .int .i64 l2, .slice AL LL.length cl, .int .i64 p0, .int .i64 p1, .int .i64 p2, .slice A cs.length ca, .int .u32 hist, .slice R rs.length ra, .slice N ns.length nc] _ HR0.out Try.underlying67 rfl (by kernel_rfl) ?_)
  refine HSB.out.mono ?_
  rintro e W1 ⟨rfl, hb⟩
  have HX2 := Lib.hid (belowBox hb HX1.out)
  have HB1 := Lib.hid (bvia HB0.out hb (Nat.le_refl _))
  clear hb
  go_wp2_with (refine wpList_store_row rfl 67 (Operand.tmp 4) (Operand.tmp 18) rfl (w.heap.size + 1) zeroA rfl rfl 67 _ HX2.out (by kernel_rfl) rfl (by simp [Value.oneCell', zeroA]) ?_)
  (try simp only [Exit.inBlock, Exit.then])
  refine bodyPost_ret (v := .tuple #[.agg zeroA, .int .i64 330]) (results_cell2 rfl rfl rfl (run_loadVar_row (P := Try.prog) _ _ 67 67 _ (0, 0) _ (setRow_heap HX2.out _) Try.underlying67 rfl (by kernel_rfl))) rfl ?_
  exact ⟨rfl, HB1.out.trans ((Upd.setRow _ _ _).below HB1.out.size fun k (hk : k = w.heap.size + 1) => by omega)⟩

theorem Feed_n (il iw dl dw ll lw pt ph pr : Int) (AI AD AL A R N AE : Option Addr) (ci cd cl ca ra nc ce hn : Nat) (vI vD vL : List Value) (LI LD LL : List (List Int)) (cs rs : List Int) (hist : Int) (ns es : List (List Int)) (w : World) (mI mD mL : Nat)
    (hs : simShapeB ⟨il, LI.length, iw, dl, LD.length, dw, ll, LL.length, lw, pt, ph, pr⟩ = true) (hI : RdSets w AI vI LI) (hD : RdSets w AD vD LD) (hL : RdSets w AL vL LL) (nI : AI = none → ci = 0) (nD : AD = none → cd = 0) (nL : AL = none → cl = 0) (hc : RdP w A ca cs R ra rs) (hN : RdN w N ns) (nN : N = none → nc = 0) (he : RdE w AE es)
    (oI : cacheOk il LI.length iw LI) (oD : cacheOk dl LD.length dw LD) (oL : cacheOk ll LL.length lw LL) (oP : predOk pt ph pr cs hist rs) (oN : NOk ns) (hph : ph = (hn : Int)) (hh : 0 ≤ hist ∧ hist < 4294967296) (hel : es.length ≤ 200) (hnl : ns.length + es.length ≤ 20000)
    (hev : ∀ k, k < es.length → EvU (gn es k)) (eLI : LI.length = mI) (eLD : LD.length = mD) (eLL : LL.length = mL) :
    Calls Try.prog 28 #[.agg #[.int .i64 il, .int .i64 (mI : Int), .int .i64 iw, .int .i64 dl, .int .i64 (mD : Int), .int .i64 dw, .int .i64 ll, .int .i64 (mL : Int), .int .i64 lw, .int .i64 pt, .int .i64 ph, .int .i64 pr, .int .i64 il, .int .i64 (mI : Int), .int .i64 iw, .slice AI mI ci, .int .i64 dl, .int .i64 (mD : Int), .int .i64 dw, .slice AD mD cd, .int .i64 ll, .int .i64 (mL : Int), .int .i64 lw, .slice AL mL cl, .int .i64 pt, .int .i64 ph, .int .i64 pr, .slice A cs.length ca, .int .u32 hist, .slice R rs.length ra, .slice N ns.length nc], .slice AE es.length ce] w (FeedE ⟨il, iw, dl, dw, ll, lw, pr, hn⟩ mI mD mL pt ph ⟨LI, LD, LL, ns, cs, hist, rs⟩ es w) := by
  subst eLI
  subst eLD
  subst eLL
  exact Feed_any il iw dl dw ll lw pt ph pr AI AD AL A R N AE ci cd cl ca ra nc ce hn vI vD vL LI LD LL cs rs hist ns es w hs hI hD hL nI nD nL hc hN nN he oI oD oL oP oN hph hh hel hnl hev

theorem Check_n (il is iw dl ds dw ll ls lw pt ph pr : Int) (AI AD AL A R N : Option Addr) (ci cd cl ca ra nc : Nat) (vI vD vL : List Value) (LI LD LL : List (List Int)) (cs rs : List Int) (hist : Int) (ns : List (List Int)) (w : World) (mI mD mL : Nat)
    (hs : simShapeB ⟨il, is, iw, dl, ds, dw, ll, ls, lw, pt, ph, pr⟩ = true) (hI : RdSets w AI vI LI) (hD : RdSets w AD vD LD) (hL : RdSets w AL vL LL) (hc : RdI w .i64 A cs.length cs) (hn : RdN w N ns)
    (oI : cacheOk il is iw LI) (oD : cacheOk dl ds dw LD) (oL : cacheOk ll ls lw LL) (oP : predOk pt ph pr cs hist rs) (hh : 0 ≤ hist ∧ hist < 4294967296) (hnl : ns.length ≤ 20000) (oN : cntsOk ns) (eLI : LI.length = mI) (eLD : LD.length = mD) (eLL : LL.length = mL) :
    Calls Try.prog 30 #[.agg #[.int .i64 il, .int .i64 is, .int .i64 iw, .int .i64 dl, .int .i64 ds, .int .i64 dw, .int .i64 ll, .int .i64 ls, .int .i64 lw, .int .i64 pt, .int .i64 ph, .int .i64 pr, .int .i64 il, .int .i64 is, .int .i64 iw, .slice AI mI ci, .int .i64 dl, .int .i64 ds, .int .i64 dw, .slice AD mD cd, .int .i64 ll, .int .i64 ls, .int .i64 lw, .slice AL mL cl, .int .i64 pt, .int .i64 ph, .int .i64 pr, .slice A cs.length ca, .int .u32 hist, .slice R rs.length ra, .slice N ns.length nc]] w fun e w' => e = .returned (.int .i64 0) ∧ Below w.heap.size w w' := by
  subst eLI
  subst eLD
  subst eLL
  exact Check_ok il is iw dl ds dw ll ls lw pt ph pr AI AD AL A R N ci cd cl ca ra nc vI vD vL LI LD LL cs rs hist ns w hs hI hD hL hc hn oI oD oL oP hh hnl oN
end Go.Proofs.Ytdkacdfhapgboaa

/- The law's own few: what it asks of a simulation. (printed by gen/few.py) -/
set_option linter.unusedVariables false
set_option linter.unusedSimpArgs false
namespace Go.Proofs.Ytdkacdfhapgboaa
open Go.RowKit

/-- What the law's small asks. -/
def smallPB (sets : Int) (L : List (List Int)) : Bool := decide (L.length ≤ 64) && (L.all fun l => decide (l.length ≤ 20)) && (decide (sets ≤ 64) || decide (1024 < sets))

theorem gl_getP (L : List (List Int)) (k : Nat) (h : k < L.length) : gl L k = L[k] := by simp [gl, List.getD_eq_getElem?_getD, h]
theorem smallPB_long {sets : Int} {L : List (List Int)} (h : 64 < L.length) : smallPB sets L = false := by
  unfold smallPB
  rw [decide_eq_false (by omega)]
  rfl
theorem smallPB_row {sets : Int} {L : List (List Int)} {k : Nat} (hk : k < L.length) (h : 20 < (gl L k).length) : smallPB sets L = false := by
  have : (L.all fun l => decide (l.length ≤ 20)) = false := by
    rw [List.all_eq_false]
    refine ⟨L[k], List.getElem_mem hk, ?_⟩
    rw [gl_getP L k hk] at h
    simp; omega
  unfold smallPB
  rw [this]
  simp
theorem smallPB_all {sets : Int} {L : List (List Int)} (h1 : L.length ≤ 64) (h : ∀ j, j < L.length → (gl L j).length ≤ 20) : smallPB sets L = (decide (sets ≤ 64) || decide (1024 < sets)) := by
  have : (L.all fun l => decide (l.length ≤ 20)) = true := by
    rw [List.all_eq_true]
    intro l hl
    obtain ⟨j, hj, rfl⟩ := List.getElem_of_mem hl
    have := h j hj
    rw [gl_getP L j hj] at this
    simpa using this
  unfold smallPB
  rw [this, decide_eq_true h1]
  rfl
theorem smallPB_true {sets : Int} {L : List (List Int)} (h : smallPB sets L = true) : L.length ≤ 64 ∧ (∀ j, j < L.length → (gl L j).length ≤ 20) ∧ (sets ≤ 64 ∨ 1024 < sets) := by
  unfold smallPB at h
  simp only [Bool.and_eq_true, Bool.or_eq_true, decide_eq_true_eq, List.all_eq_true] at h
  exact ⟨h.1.1, fun j hj => by rw [gl_getP L j hj]; exact h.1.2 _ (List.getElem_mem hj), h.2⟩

set_option maxRecDepth 100000 in
set_option maxHeartbeats 2000000 in
theorem smallP_any (line sets ways : Int) (A : Option Addr) (n c : Nat) (vs : List Value) (L : List (List Int)) (w : World) (h : RdSets w A vs L) (hn : L.length = n) :
    Calls Try.prog 55 #[.agg #[.int .i64 line, .int .i64 sets, .int .i64 ways, .slice A n c]] w fun e w' => e = .returned (.bool (smallPB sets L)) ∧ Below w.heap.size w w' := by
  obtain ⟨W0, hW0⟩ : ∃ W0, w.alloc (.cells #[.int .i64 line, .int .i64 sets, .int .i64 ways, .slice A n c] 36) = W0 := ⟨_, rfl⟩
  have hb0 : Below w.heap.size w W0 := by rw [← hW0]; exact balloc w _
  have hx0 : W0.heap[w.heap.size]? = some (.cells #[.int .i64 line, .int .i64 sets, .int .i64 ways, .slice A n c] 36 (0, 0)) := by rw [← hW0]; exact heap_alloc_new w _
  obtain ⟨c0, c1, c2, c3, _⟩ := box4 hx0
  have hle := h.row.le
  rw [hn] at hle
  have H := Lib.hid (h.below hb0)
  have HN := Lib.hid hn
  have HB := Lib.hid hb0
  clear h hx0 hb0 hn
  by_cases hlong : (64 : Int) < (n : Int)
  · have hs : smallPB sets L = false := smallPB_long (by rw [HN.out]; omega)
    rw [hs]
    go_enter Try.func55, Try.ntmps55
    go_wp2_with fail
    go_ret
    exact ⟨rfl, HB.out⟩
  · have hn64 : (n : Int) ≤ 64 := by omega
    go_enter Try.func55, Try.ntmps55
    go_wp2_with fail
    go_loop [11] (fun i => ∃ k : Nat, k ≤ n ∧ i = .int .i64 k ∧ Hid (∀ j, j < k → (gl L j).length ≤ 20)) (fun i => n - (intOf i).toNat)
    case atStart => exact ⟨0, Nat.zero_le _, rfl, Lib.hid fun j hj => absurd hj (Nat.not_lt_zero _)⟩
    case round =>
      obtain ⟨k, hk, rfl, hI⟩ := hrel
      by_cases hlt : k < n
      · obtain ⟨ad, rfl, hc⟩ := H.out.at k (by rw [HN.out]; exact hlt)
        obtain ⟨A6, c6, e6, _, _, _⟩ := (H.out.each k (by rw [HN.out]; exact hlt)).rd
        rw [e6] at hc
        obtain ⟨p, hp⟩ : ∃ p, (gl L k).length = p := ⟨_, rfl⟩
        rw [hp] at hc
        have HP := Lib.hid hp
        clear e6 hp
        by_cases h20 : (20 : Int) < (p : Int)
        · have hs : smallPB sets L = false := smallPB_row (k := k) (by rw [HN.out]; exact hlt) (by rw [HP.out]; omega)
          have HS := Lib.hid hs
          clear hs
          go_wp2_with fail
          go_ret
          exact ⟨by rw [HS.out]; rfl, HB.out⟩
        · go_wp2_with fail
          go_round
          case rel =>
            refine ⟨k + 1, by omega, by go_num, Lib.hid fun j hj => ?_⟩
            by_cases hjk : j < k
            · exact hI.out j hjk
            · obtain rfl : j = k := by omega
              rw [HP.out]; omega
          case measure => simp [intOf]; omega
      · obtain rfl : k = n := by omega
        have hs : smallPB sets L = (decide (sets ≤ 64) || decide (1024 < sets)) := smallPB_all (by rw [HN.out]; omega) (by rw [HN.out]; exact hI.out)
        by_cases h64 : sets ≤ 64
        · have HS := Lib.hid (show smallPB sets L = true by rw [hs, decide_eq_true h64]; rfl)
          clear hs
          go_wp2_with fail
          go_ret
          exact ⟨by rw [HS.out]; rfl, HB.out⟩
        · by_cases h10 : 1024 < sets
          · have HS := Lib.hid (show smallPB sets L = true by rw [hs, decide_eq_false h64, decide_eq_true h10]; rfl)
            clear hs
            have g1 : decide (sets ≤ 64) = false := decide_eq_false h64
            have g2 : decide (1024 < sets) = true := decide_eq_true h10
            go_wp2_with fail
            go_ret
            exact ⟨by rw [HS.out]; rfl, HB.out⟩
          · have HS := Lib.hid (show smallPB sets L = false by rw [hs, decide_eq_false h64, decide_eq_false h10]; rfl)
            clear hs
            have g1 : decide (sets ≤ 64) = false := decide_eq_false h64
            have g2 : decide (1024 < sets) = false := decide_eq_false h10
            go_wp2_with fail
            go_ret
            exact ⟨by rw [HS.out]; rfl, HB.out⟩
def lightPB (t : Int) (n m : Nat) : Bool := (decide (n ≤ 300) && decide (m ≤ 40)) && (decide (t ≤ 8) || decide (12 < t))
set_option maxHeartbeats 1000000 in
theorem lightP_any (t h r : Int) (A R : Option Addr) (n c m rc : Nat) (hist : Int) (w : World) :
    Calls Try.prog 56 #[.agg #[.int .i64 t, .int .i64 h, .int .i64 r, .slice A n c, .int .u32 hist, .slice R m rc]] w fun e w' => e = .returned (.bool (lightPB t n m)) ∧ Below w.heap.size w w' := by
  obtain ⟨W0, hW0⟩ : ∃ W0, w.alloc (.cells #[.int .i64 t, .int .i64 h, .int .i64 r, .slice A n c, .int .u32 hist, .slice R m rc] 52) = W0 := ⟨_, rfl⟩
  have hb0 : Below w.heap.size w W0 := by rw [← hW0]; exact balloc w _
  have hx0 : W0.heap[w.heap.size]? = some (.cells #[.int .i64 t, .int .i64 h, .int .i64 r, .slice A n c, .int .u32 hist, .slice R m rc] 52 (0, 0)) := by rw [← hW0]; exact heap_alloc_new w _
  obtain ⟨c0, c1, c2, c3, c4, c5, _⟩ := box6 hx0
  have HB0 := Lib.hid hb0
  clear hx0 hb0
  by_cases h1 : (n : Int) ≤ 300
  · by_cases h2 : (m : Int) ≤ 40
    · have hl : lightPB t n m = (decide (t ≤ 8) || decide (12 < t)) := by
        unfold lightPB
        rw [decide_eq_true (show n ≤ 300 by omega), decide_eq_true (show m ≤ 40 by omega)]
        simp
      rw [hl]
      clear hl
      by_cases h3 : t ≤ 8
      · rw [decide_eq_true h3]
        go_enter Try.func56, Try.ntmps56
        go_wp2
        go_ret
        exact ⟨rfl, HB0.out⟩
      · rw [decide_eq_false h3]
        cases h4 : decide (12 < t)
        all_goals
          go_enter Try.func56, Try.ntmps56
          go_wp2
          go_ret
          exact ⟨rfl, HB0.out⟩
    · have hl : lightPB t n m = false := by
        unfold lightPB
        rw [decide_eq_false (show ¬ m ≤ 40 by omega)]
        simp
      rw [hl]
      clear hl
      go_enter Try.func56, Try.ntmps56
      go_wp2
      go_ret
      exact ⟨rfl, HB0.out⟩
  · have hl : lightPB t n m = false := by
      unfold lightPB
      rw [decide_eq_false (show ¬ n ≤ 300 by omega)]
      simp
    rw [hl]
    clear hl
    go_enter Try.func56, Try.ntmps56
    go_wp2
    go_ret
    exact ⟨rfl, HB0.out⟩

attribute [local irreducible] World.setCell in

/-- What the law's few asks. -/
def fewB (i1 d1 l1 p0 : Int) (LI LD LL : List (List Int)) (n m q : Nat) : Bool := smallPB i1 LI && (smallPB d1 LD && (smallPB l1 LL && (lightPB p0 n m && decide (q ≤ 60))))
set_option maxRecDepth 100000 in
set_option maxHeartbeats 4000000 in
theorem few_any (k0 k1 k2 k3 k4 k5 k6 k7 k8 k9 k10 k11 i0 i1 i2 d0 d1 d2 l0 l1 l2 p0 p1 p2 : Int) (AI AD AL A R N : Option Addr) (ci cd cl ca ra nc : Nat) (vI vD vL : List Value) (LI LD LL : List (List Int)) (cs rs : List Int) (hist : Int) (ns : List (List Int)) (w : World) (hI : RdSets w AI vI LI) (hD : RdSets w AD vD LD) (hL : RdSets w AL vL LL) (hnl : ns.length ≤ 9223372036854775807) :
    Calls Try.prog 27 #[.agg #[.int .i64 k0, .int .i64 k1, .int .i64 k2, .int .i64 k3, .int .i64 k4, .int .i64 k5, .int .i64 k6, .int .i64 k7, .int .i64 k8, .int .i64 k9, .int .i64 k10, .int .i64 k11, .int .i64 i0, .int .i64 i1, .int .i64 i2, .slice AI LI.length ci, .int .i64 d0, .int .i64 d1, .int .i64 d2, .slice AD LD.length cd, .int .i64 l0, .int .i64 l1, .int .i64 l2, .slice AL LL.length cl, .int .i64 p0, .int .i64 p1, .int .i64 p2, .slice A cs.length ca, .int .u32 hist, .slice R rs.length ra, .slice N ns.length nc]] w fun e w' => e = .returned (.bool (fewB i1 d1 l1 p0 LI LD LL cs.length rs.length ns.length)) ∧ Below w.heap.size w w' := by
  obtain ⟨W0, hW0⟩ : ∃ W0, w.alloc (.cells #[.int .i64 k0, .int .i64 k1, .int .i64 k2, .int .i64 k3, .int .i64 k4, .int .i64 k5, .int .i64 k6, .int .i64 k7, .int .i64 k8, .int .i64 k9, .int .i64 k10, .int .i64 k11, .int .i64 i0, .int .i64 i1, .int .i64 i2, .slice AI LI.length ci, .int .i64 d0, .int .i64 d1, .int .i64 d2, .slice AD LD.length cd, .int .i64 l0, .int .i64 l1, .int .i64 l2, .slice AL LL.length cl, .int .i64 p0, .int .i64 p1, .int .i64 p2, .slice A cs.length ca, .int .u32 hist, .slice R rs.length ra, .slice N ns.length nc] 67) = W0 := ⟨_, rfl⟩
  have hb0 : Below w.heap.size w W0 := by rw [← hW0]; exact balloc w _
  have hx0 : W0.heap[w.heap.size]? = some (.cells #[.int .i64 k0, .int .i64 k1, .int .i64 k2, .int .i64 k3, .int .i64 k4, .int .i64 k5, .int .i64 k6, .int .i64 k7, .int .i64 k8, .int .i64 k9, .int .i64 k10, .int .i64 k11, .int .i64 i0, .int .i64 i1, .int .i64 i2, .slice AI LI.length ci, .int .i64 d0, .int .i64 d1, .int .i64 d2, .slice AD LD.length cd, .int .i64 l0, .int .i64 l1, .int .i64 l2, .slice AL LL.length cl, .int .i64 p0, .int .i64 p1, .int .i64 p2, .slice A cs.length ca, .int .u32 hist, .slice R rs.length ra, .slice N ns.length nc] 67 (0, 0)) := by rw [← hW0]; exact heap_alloc_new w _
  have HI := Lib.hid (hI.below hb0)
  have HD := Lib.hid (hD.below hb0)
  have HL := Lib.hid (hL.below hb0)
  have HX := Lib.hid hx0
  have HB := Lib.hid hb0
  clear hI hD hL hb0
  have c12 := boxAt (i := 12) hx0 rfl
  have c13 := boxAt (i := 13) hx0 rfl
  have c14 := boxAt (i := 14) hx0 rfl
  have c15 := boxAt (i := 15) hx0 rfl
  have c16 := boxAt (i := 16) hx0 rfl
  have c17 := boxAt (i := 17) hx0 rfl
  have c18 := boxAt (i := 18) hx0 rfl
  have c19 := boxAt (i := 19) hx0 rfl
  have c20 := boxAt (i := 20) hx0 rfl
  have c21 := boxAt (i := 21) hx0 rfl
  have c22 := boxAt (i := 22) hx0 rfl
  have c23 := boxAt (i := 23) hx0 rfl
  have c24 := boxAt (i := 24) hx0 rfl
  have c25 := boxAt (i := 25) hx0 rfl
  have c26 := boxAt (i := 26) hx0 rfl
  have c27 := boxAt (i := 27) hx0 rfl
  have c28 := boxAt (i := 28) hx0 rfl
  have c29 := boxAt (i := 29) hx0 rfl
  have c30 := boxAt (i := 30) hx0 rfl
  clear hx0
  unfold fewB
  obtain ⟨b1, h1⟩ : ∃ b, smallPB i1 LI = b := ⟨_, rfl⟩
  obtain ⟨b2, h2⟩ : ∃ b, smallPB d1 LD = b := ⟨_, rfl⟩
  obtain ⟨b3, h3⟩ : ∃ b, smallPB l1 LL = b := ⟨_, rfl⟩
  obtain ⟨b4, h4⟩ : ∃ b, lightPB p0 cs.length rs.length = b := ⟨_, rfl⟩
  obtain ⟨b5, h5⟩ : ∃ b, decide (ns.length ≤ 60) = b := ⟨_, rfl⟩
  rw [h1, h2, h3, h4, h5]
  have H1 := Lib.hid h1
  have H2 := Lib.hid h2
  have H3 := Lib.hid h3
  have H4 := Lib.hid h4
  have H5 := Lib.hid h5
  clear h1 h2 h3 h4 h5
  go_enter Try.func27, Try.ntmps27
  go_wp2_with fail
  refine (smallP_any i0 i1 i2 AI _ ci vI LI _ HI.out rfl).mono ?_
  rintro e W1 ⟨rfl, hb⟩
  rw [H1.out]
  replace HI := Lib.hid (HI.out.below hb)
  replace HD := Lib.hid (HD.out.below hb)
  replace HL := Lib.hid (HL.out.below hb)
  replace HB := Lib.hid (bvia HB.out hb (Nat.le_refl _))
  replace HX := Lib.hid (belowBox hb HX.out)
  clear c12 c13 c14 c15 c16 c17 c18 c19 c20 c21 c22 c23 c24 c25 c26 c27 c28 c29 c30 hb
  have c12 := boxAt (i := 12) HX.out rfl
  have c13 := boxAt (i := 13) HX.out rfl
  have c14 := boxAt (i := 14) HX.out rfl
  have c15 := boxAt (i := 15) HX.out rfl
  have c16 := boxAt (i := 16) HX.out rfl
  have c17 := boxAt (i := 17) HX.out rfl
  have c18 := boxAt (i := 18) HX.out rfl
  have c19 := boxAt (i := 19) HX.out rfl
  have c20 := boxAt (i := 20) HX.out rfl
  have c21 := boxAt (i := 21) HX.out rfl
  have c22 := boxAt (i := 22) HX.out rfl
  have c23 := boxAt (i := 23) HX.out rfl
  have c24 := boxAt (i := 24) HX.out rfl
  have c25 := boxAt (i := 25) HX.out rfl
  have c26 := boxAt (i := 26) HX.out rfl
  have c27 := boxAt (i := 27) HX.out rfl
  have c28 := boxAt (i := 28) HX.out rfl
  have c29 := boxAt (i := 29) HX.out rfl
  have c30 := boxAt (i := 30) HX.out rfl
  cases b1
  · go_wp2_with fail
    go_ret
    exact ⟨rfl, HB.out⟩
  go_wp2_with fail
  refine (smallP_any d0 d1 d2 AD _ cd vD LD _ HD.out rfl).mono ?_
  rintro e W2 ⟨rfl, hb⟩
  rw [H2.out]
  replace HI := Lib.hid (HI.out.below hb)
  replace HD := Lib.hid (HD.out.below hb)
  replace HL := Lib.hid (HL.out.below hb)
  replace HB := Lib.hid (bvia HB.out hb (Nat.le_refl _))
  replace HX := Lib.hid (belowBox hb HX.out)
  clear c12 c13 c14 c15 c16 c17 c18 c19 c20 c21 c22 c23 c24 c25 c26 c27 c28 c29 c30 hb
  have c12 := boxAt (i := 12) HX.out rfl
  have c13 := boxAt (i := 13) HX.out rfl
  have c14 := boxAt (i := 14) HX.out rfl
  have c15 := boxAt (i := 15) HX.out rfl
  have c16 := boxAt (i := 16) HX.out rfl
  have c17 := boxAt (i := 17) HX.out rfl
  have c18 := boxAt (i := 18) HX.out rfl
  have c19 := boxAt (i := 19) HX.out rfl
  have c20 := boxAt (i := 20) HX.out rfl
  have c21 := boxAt (i := 21) HX.out rfl
  have c22 := boxAt (i := 22) HX.out rfl
  have c23 := boxAt (i := 23) HX.out rfl
  have c24 := boxAt (i := 24) HX.out rfl
  have c25 := boxAt (i := 25) HX.out rfl
  have c26 := boxAt (i := 26) HX.out rfl
  have c27 := boxAt (i := 27) HX.out rfl
  have c28 := boxAt (i := 28) HX.out rfl
  have c29 := boxAt (i := 29) HX.out rfl
  have c30 := boxAt (i := 30) HX.out rfl
  cases b2
  · go_wp2_with fail
    go_ret
    exact ⟨rfl, HB.out⟩
  go_wp2_with fail
  refine (smallP_any l0 l1 l2 AL _ cl vL LL _ HL.out rfl).mono ?_
  rintro e W3 ⟨rfl, hb⟩
  rw [H3.out]
  replace HI := Lib.hid (HI.out.below hb)
  replace HD := Lib.hid (HD.out.below hb)
  replace HL := Lib.hid (HL.out.below hb)
  replace HB := Lib.hid (bvia HB.out hb (Nat.le_refl _))
  replace HX := Lib.hid (belowBox hb HX.out)
  clear c12 c13 c14 c15 c16 c17 c18 c19 c20 c21 c22 c23 c24 c25 c26 c27 c28 c29 c30 hb
  have c12 := boxAt (i := 12) HX.out rfl
  have c13 := boxAt (i := 13) HX.out rfl
  have c14 := boxAt (i := 14) HX.out rfl
  have c15 := boxAt (i := 15) HX.out rfl
  have c16 := boxAt (i := 16) HX.out rfl
  have c17 := boxAt (i := 17) HX.out rfl
  have c18 := boxAt (i := 18) HX.out rfl
  have c19 := boxAt (i := 19) HX.out rfl
  have c20 := boxAt (i := 20) HX.out rfl
  have c21 := boxAt (i := 21) HX.out rfl
  have c22 := boxAt (i := 22) HX.out rfl
  have c23 := boxAt (i := 23) HX.out rfl
  have c24 := boxAt (i := 24) HX.out rfl
  have c25 := boxAt (i := 25) HX.out rfl
  have c26 := boxAt (i := 26) HX.out rfl
  have c27 := boxAt (i := 27) HX.out rfl
  have c28 := boxAt (i := 28) HX.out rfl
  have c29 := boxAt (i := 29) HX.out rfl
  have c30 := boxAt (i := 30) HX.out rfl
  cases b3
  · go_wp2_with fail
    go_ret
    exact ⟨rfl, HB.out⟩
  go_wp2_with fail
  refine (lightP_any p0 p1 p2 A R cs.length ca rs.length ra hist _).mono ?_
  rintro e W4 ⟨rfl, hb⟩
  rw [H4.out]
  replace HI := Lib.hid (HI.out.below hb)
  replace HD := Lib.hid (HD.out.below hb)
  replace HL := Lib.hid (HL.out.below hb)
  replace HB := Lib.hid (bvia HB.out hb (Nat.le_refl _))
  replace HX := Lib.hid (belowBox hb HX.out)
  clear c12 c13 c14 c15 c16 c17 c18 c19 c20 c21 c22 c23 c24 c25 c26 c27 c28 c29 c30 hb
  have c12 := boxAt (i := 12) HX.out rfl
  have c13 := boxAt (i := 13) HX.out rfl
  have c14 := boxAt (i := 14) HX.out rfl
  have c15 := boxAt (i := 15) HX.out rfl
  have c16 := boxAt (i := 16) HX.out rfl
  have c17 := boxAt (i := 17) HX.out rfl
  have c18 := boxAt (i := 18) HX.out rfl
  have c19 := boxAt (i := 19) HX.out rfl
  have c20 := boxAt (i := 20) HX.out rfl
  have c21 := boxAt (i := 21) HX.out rfl
  have c22 := boxAt (i := 22) HX.out rfl
  have c23 := boxAt (i := 23) HX.out rfl
  have c24 := boxAt (i := 24) HX.out rfl
  have c25 := boxAt (i := 25) HX.out rfl
  have c26 := boxAt (i := 26) HX.out rfl
  have c27 := boxAt (i := 27) HX.out rfl
  have c28 := boxAt (i := 28) HX.out rfl
  have c29 := boxAt (i := 29) HX.out rfl
  have c30 := boxAt (i := 30) HX.out rfl
  cases b4
  · go_wp2_with fail
    go_ret
    exact ⟨rfl, HB.out⟩
  cases b5
  · have hq2 : ¬ (ns.length : Int) ≤ 60 := by have := of_decide_eq_false H5.out; omega
    have hq3 : decide ((ns.length : Int) ≤ 60) = false := decide_eq_false hq2
    go_wp2_with fail
    go_ret
    exact ⟨rfl, HB.out⟩
  · have hq2 : (ns.length : Int) ≤ 60 := by have := of_decide_eq_true H5.out; omega
    go_wp2_with fail
    go_ret
    exact ⟨rfl, HB.out⟩
end Go.Proofs.Ytdkacdfhapgboaa

/- sim.Feed in full: a short feed of a simulation without numbers ends well. No program in sight. -/
set_option linter.unusedVariables false
set_option linter.unusedSimpArgs false
namespace Go.Proofs.Ytdkacdfhapgboaa
open Go.RowKit

theorem add1_up (c : List Int) (j k : Nat) (hj : j < c.length) (hk : k < c.length) : gi (add1 c j) k ≤ gi c k + 1 := by
  rw [add1_gi c j k hj hk]
  split <;> omega
theorem acts_up (K : GC) (s : GS) (e c : List Int) (hl : c.length = 14) (h1 : 4 ≤ K.il ∧ K.il ≤ 256) (h2 : 4 ≤ K.dl ∧ K.dl ≤ 256) (h3 : 4 ≤ K.ll) (hu : EvU e) (hw : wfB (gi e 0) (gi e 4) (gi e 5) = true) (i : Nat) (hi : i < 14) : gi (s.acts K e c).2 i ≤ gi c i + 4300000002 := by
  have ac : ∀ (j : Nat) (m d : Nat), j + 2 < 14 → m ≤ 65538 → d ≤ 4300000000 → gi (addC c j m d) i ≤ gi c i + 4300000000 := fun j m d hj hm hd => (addC_le c j m d hl hj ⟨by omega, by omega⟩ ⟨by omega, by omega⟩ i hi).2
  have a1 : ∀ j, j < 14 → gi (add1 c j) i ≤ gi c i + 1 := fun j hj => add1_up c j i (by omega) (by omega)
  have a2 : ∀ j k, j < 14 → k < 14 → gi (add1 (add1 c j) k) i ≤ gi c i + 2 := fun j k hj hk => by
    have := add1_up (add1 c j) k i (by rw [add1_len]; omega) (by rw [add1_len]; omega)
    have := a1 j hj
    omega
  unfold GS.acts
  split
  · rename_i hk
    rw [hk] at hw
    have hn : 1 ≤ gi e 5 ∧ gi e 5 ≤ 65536 := by simpa [wfB] using hw
    obtain ⟨b1, b2⟩ := acc_le K.il K.iw K.ll K.lw (gi e 2) (gi e 5) s.I s.L h1 h3 hu.pc.1 hn
    have := ac 1 _ _ (by omega) b1 b2
    dsimp only
    omega
  · split
    · rename_i hk
      rw [hk] at hw
      have hn : 1 ≤ gi e 5 ∧ gi e 5 ≤ 65536 := by simpa [wfB] using hw
      obtain ⟨b1, b2⟩ := acc_le K.dl K.dw K.ll K.lw (gi e 3) (gi e 5) s.D s.L h2 h3 hu.a.1 hn
      have := ac 4 _ _ (by omega) b1 b2
      dsimp only
      omega
    · split
      · rename_i hk
        rw [hk] at hw
        have hn : 1 ≤ gi e 5 ∧ gi e 5 ≤ 65536 := by simpa [wfB] using hw
        obtain ⟨b1, b2⟩ := acc_le K.dl K.dw K.ll K.lw (gi e 3) (gi e 5) s.D s.L h2 h3 hu.a.1 hn
        have := ac 7 _ _ (by omega) b1 b2
        dsimp only
        omega
      · split
        · rename_i hk
          rw [hk] at hw
          have hn : 1 ≤ gi e 5 ∧ gi e 5 ≤ 65536 := by simpa [wfB] using hw
          obtain ⟨b1, b2⟩ := acc_le K.dl K.dw K.ll K.lw (gi e 3) (gi e 5) s.D s.L h2 h3 hu.a.1 hn
          have h4 := ac 4 _ _ (by omega) b1 b2
          have h5 := add1_up (addC c 4 ((runL s.D.length K.dw s.D (linI K.dl (gi e 3) (gi e 5))).2.length : Int) ((farL K.dl K.ll s.L.length K.lw s.L (runL s.D.length K.dw s.D (linI K.dl (gi e 3) (gi e 5))).2).2 : Int)) 7 i (by rw [addC_len]; omega) (by rw [addC_len]; omega)
          dsimp only
          omega
        · split
          · show gi (if _ then _ else _) i ≤ _
            split
            · have := a1 10 (by omega); omega
            · have := a2 10 11 (by omega) (by omega); omega
          · show gi (if _ then _ else _) i ≤ _
            split
            · have := a1 12 (by omega); omega
            · have := a2 12 13 (by omega) (by omega); omega
theorem mem_rowN {N : List (List Int)} {pc : Int} {c : List Int} (hc : c ∈ rowN N pc) : c ∈ N ∨ c = pc :: List.replicate 13 0 := by
  unfold rowN at hc
  split at hc
  · exact .inl hc
  · rcases List.mem_append.1 hc with h1 | h1
    · exact .inl (List.mem_of_mem_take h1)
    · rcases List.mem_cons.1 h1 with h2 | h2
      · exact .inr h2
      · exact .inl (List.mem_of_mem_drop h2)
/-- One event of a simulation with small numbers. -/
theorem ev_some {K : GC} {t : Int} {nI nD nL : Nat} {s : GS} (hok : GOk K t nI nD nL s) (b : Int) (hb : 0 ≤ b) (hn : ∀ c ∈ s.N, ∀ j, 1 ≤ j → j < 14 → gi c j ≤ b) (hb2 : b + 4300000002 ≤ 1099511627776) {e : List Int} (hu : EvU e) :
    ∃ s', s.ev K e = some s' ∧ ∀ c ∈ s'.N, ∀ j, 1 ≤ j → j < 14 → gi c j ≤ b + 4300000002 := by
  have hc : (s.called K e).N = s.N := by unfold GS.called; split <;> rfl
  unfold GS.ev
  split
  · rename_i hon
    rw [hc]
    have hw : wfB (gi e 0) (gi e 4) (gi e 5) = true := by simp at hon; exact hon.2
    have h1 := hok.n.row (gi e 2)
    obtain ⟨h2, _⟩ := rowN_at (pc := gi e 2) hok.n.sorted
    have hg : gn (rowN s.N (gi e 2)) (posN s.N (gi e 2)) = (rowN s.N (gi e 2))[posN s.N (gi e 2)] := by simp [gn, List.getD_eq_getElem?_getD, h2]
    have hm : gn (rowN s.N (gi e 2)) (posN s.N (gi e 2)) ∈ rowN s.N (gi e 2) := by rw [hg]; exact List.getElem_mem h2
    have hl := h1.len _ hm
    obtain ⟨i1, i2, _⟩ := shapeB_line hok.i.1
    obtain ⟨d1, d2, _⟩ := shapeB_line hok.d.1
    obtain ⟨l1, l2, _⟩ := shapeB_line hok.l.1
    have hrb : ∀ c ∈ rowN s.N (gi e 2), ∀ j, 1 ≤ j → j < 14 → gi c j ≤ b := fun c hc j hj1 hj => by
      rcases mem_rowN hc with h3 | h3
      · exact hn c h3 j hj1 hj
      · rw [h3, zeros_gi _ j hj1 hj]; exact hb
    have hup : ∀ j, 1 ≤ j → j < 14 → gi ((s.called K e).acts K e (gn (rowN s.N (gi e 2)) (posN s.N (gi e 2)))).2 j ≤ b + 4300000002 := fun j hj1 hj => by
      have h3 := acts_up K (s.called K e) e _ hl ⟨i1, i2⟩ ⟨d1, d2⟩ l1 hu hw j hj
      have h4 := hrb _ hm j hj1 hj
      omega
    have hgr := grows_acts K (s.called K e) e _ hl
    have hov : (cntX ((s.called K e).acts K e (gn (rowN s.N (gi e 2)) (posN s.N (gi e 2)))).2).any overN = false := over_false _ fun j hj1 hj => by
      have h3 := hup j hj1 hj
      have h4 := hgr.up j hj
      have h5 := (h1.num _ hm j hj1 hj).1
      omega
    dsimp only
    rw [if_neg (by rw [hov]; simp)]
    refine ⟨_, rfl, fun c hc j hj1 hj => ?_⟩
    rcases List.mem_or_eq_of_mem_set hc with h3 | h3
    · have := hrb c h3 j hj1 hj; omega
    · rw [h3]; exact hup j hj1 hj
  · refine ⟨_, rfl, fun c h j hj1 hj => ?_⟩
    rw [hc] at h
    have := hn c h j hj1 hj
    omega
theorem feed_some {K : GC} {t : Int} {nI nD nL : Nat} : ∀ (es : List (List Int)) {s : GS} (b : Int), GOk K t nI nD nL s → 0 ≤ b → (∀ c ∈ s.N, ∀ j, 1 ≤ j → j < 14 → gi c j ≤ b) → b + 4300000002 * (es.length : Int) ≤ 1099511627776 → (∀ e ∈ es, EvU e) → ∃ s', s.feed K es = some s'
  | [], s, b, _, _, _, _, _ => ⟨s, rfl⟩
  | e :: es, s, b, hok, hb, hn, hb2, hu => by
    have hlen : ((e :: es).length : Int) = es.length + 1 := by simp
    rw [hlen] at hb2
    obtain ⟨s1, h1, h2⟩ := ev_some hok b hb hn (by omega) (hu e (List.mem_cons_self ..))
    obtain ⟨s2, h3⟩ := feed_some es (b + 4300000002) (hok.ev h1) (by omega) h2 (by omega) fun x hx => hu x (List.mem_cons_of_mem _ hx)
    refine ⟨s2, ?_⟩
    unfold GS.feed at h3 ⊢
    rw [List.foldlM_cons, h1]
    exact h3
end Go.Proofs.Ytdkacdfhapgboaa

/- Equal lists, equal caches: the specification's own comparisons. -/
set_option linter.unusedVariables false
set_option linter.unusedSimpArgs false
namespace Go.Proofs.Ytdkacdfhapgboaa
open Go.RowKit

set_option maxHeartbeats 1000000 in
theorem sameWords_true (A A' : Option Addr) (n c c' : Nat) (xs : List Int) (w : World) (h : RdI w .u32 A n xs) (h' : RdI w .u32 A' n xs) :
    Calls Try.prog 43 #[.slice A n c, .slice A' n c'] w fun e w' => e = .returned (.bool true) ∧ Below w.heap.size w w' := by
  have hle := h.le
  have H := Lib.hid h
  have H' := Lib.hid h'
  clear h h'
  go_enter Try.func43, Try.ntmps43
  go_wp2_with fail
  go_loopw [5] (fun i wr => ∃ k : Nat, k ≤ n ∧ i = .int .i64 k ∧ Hid (Below w.heap.size w wr)) (fun i _ => n - (intOf i).toNat)
  case atStart => exact ⟨0, Nat.zero_le _, rfl, Lib.hid (Below.refl _ _)⟩
  case round =>
    obtain ⟨k, hk, rfl, hI⟩ := hrel
    by_cases hlt : k < n
    · obtain ⟨ad, rfl, hc⟩ := RdI.at (show RdI wr .u32 A n xs from Rd.below H.out hI.out) k hlt
      obtain ⟨ad', rfl, hc'⟩ := RdI.at (show RdI wr .u32 A' n xs from Rd.below H'.out hI.out) k hlt
      obtain ⟨x, hx⟩ : ∃ x, gi xs k = x := ⟨_, rfl⟩
      rw [hx] at hc hc'
      clear hx
      go_wp2_with fail
      go_quiet (fail)
      go_wp2_with fail
      go_roundw
      case rel => exact ⟨k + 1, by omega, by go_num, Lib.hid (bdrewN hI.out _)⟩
      case measure => simp [intOf]; omega
    · go_wp2_with fail
      go_ret
      exact ⟨rfl, hI.out⟩

attribute [local irreducible] World.setCell in
set_option maxRecDepth 100000 in
set_option maxHeartbeats 1000000 in
theorem sameCache_true (line ways : Int) (n g c g' c' : Nat) (vs vs' : List Value) (L : List (List Int)) (w : World) (h : RdSets w (some ⟨g, 0, none⟩) vs L) (h' : RdSets w (some ⟨g', 0, none⟩) vs' L) (hn : L.length = n) :
    Calls Try.prog 21 #[.agg #[.int .i64 line, .int .i64 (n : Int), .int .i64 ways, .slice (some ⟨g, 0, none⟩) n c], .agg #[.int .i64 line, .int .i64 (n : Int), .int .i64 ways, .slice (some ⟨g', 0, none⟩) n c']] w fun e w' => e = .returned (.bool true) ∧ Below w.heap.size w w' := by
  have H := Lib.hid h
  have H' := Lib.hid h'
  have HN := Lib.hid hn
  have hle := h.row.le
  rw [hn] at hle
  clear h h' hn
  go_enter Try.func21, Try.ntmps21
  go_wp2_with fail
  obtain ⟨V0, hV0⟩ : ∃ V, ((w.alloc (.cells #[.int .i64 line, .int .i64 (n : Int), .int .i64 ways, .slice (some ⟨g, 0, none⟩) n c] 36)).alloc (.cells #[.int .i64 line, .int .i64 (n : Int), .int .i64 ways, .slice (some ⟨g', 0, none⟩) n c'] 36)) = V := ⟨_, rfl⟩
  have hb0 : Below w.heap.size w V0 := by rw [← hV0]; exact ((Below.refl _ _).alloc (Nat.le_refl _) _).alloc (by simp) _
  have hx0 : V0.heap[w.heap.size]? = some (.cells #[.int .i64 line, .int .i64 (n : Int), .int .i64 ways, .slice (some ⟨g, 0, none⟩) n c] 36 (0, 0)) := by rw [← hV0]; exact (heap_alloc_old _ _ (by simp)).trans (heap_alloc_new w _)
  have hx1 : V0.heap[w.heap.size + 1]? = some (.cells #[.int .i64 line, .int .i64 (n : Int), .int .i64 ways, .slice (some ⟨g', 0, none⟩) n c'] 36 (0, 0)) := by rw [← hV0]; exact alloc_at _ _ _ (by simp)
  rw [hV0]
  have HX0 := Lib.hid hx0
  have HX1 := Lib.hid hx1
  have HB0 := Lib.hid hb0
  clear hV0 hx0 hx1 hb0
  go_loopw [5] (fun i wr => ∃ k : Nat, k ≤ n ∧ i = .int .i64 k ∧ Hid (Below V0.heap.size V0 wr)) (fun i _ => n - (intOf i).toNat)
  case atStart => exact ⟨0, Nat.zero_le _, rfl, Lib.hid (Below.refl _ _)⟩
  case round =>
    obtain ⟨k, hk, rfl, hI⟩ := hrel
    have s1 := boxAt (i := 3) (belowBox hI.out HX0.out) rfl
    have s2 := boxAt (i := 3) (belowBox hI.out HX1.out) rfl
    by_cases hlt : k < n
    · obtain ⟨A6, c6, e6, hn6, hc6, hr6⟩ := (H.out.each k (by rw [HN.out]; exact hlt)).rd
      obtain ⟨A7, c7, e7, hn7, hc7, hr7⟩ := (H'.out.each k (by rw [HN.out]; exact hlt)).rd
      have hvl4 : k < vs.length := by have := H.out.row.len; rw [HN.out] at this; omega
      have hvl5 : k < vs'.length := by have := H'.out.row.len; rw [HN.out] at this; omega
      have hbw : Below w.heap.size w wr := HB0.out.trans (hI.out.mono HB0.out.size)
      have s3 : wr.cell? ⟨g, k, none⟩ = some (.slice A6 (gl L k).length c6) := by
        obtain ⟨ad, e, h⟩ := H.out.row.cell k hvl4
        cases e
        rw [add_off, ← gv_get vs k hvl4, e6] at h
        exact bkeep hbw h
      have s4 : wr.cell? ⟨g', k, none⟩ = some (.slice A7 (gl L k).length c7) := by
        obtain ⟨ad, e, h⟩ := H'.out.row.cell k hvl5
        cases e
        rw [add_off, ← gv_get vs' k hvl5, e7] at h
        exact bkeep hbw h
      have heqq : ∀ q' : After wr.heap.size wr, Calls Try.prog 43 #[.slice A6 (gl L k).length c6, .slice A7 (gl L k).length c7] q'.W fun e w' => e = .returned (.bool true) ∧ Below q'.W.heap.size q'.W w' := fun q' =>
        sameWords_true A6 A7 _ c6 c7 (gl L k) q'.W (Rd.below hr6 (hbw.trans (q'.below.mono hbw.size))) (Rd.below hr7 (hbw.trans (q'.below.mono hbw.size)))
      obtain ⟨p, hp⟩ : ∃ p, (gl L k).length = p := ⟨_, rfl⟩
      rw [hp] at s3 s4 heqq
      have HEQQ := Lib.hid heqq
      clear e6 e7 hn6 hn7 hc6 hc7 hr6 hr7 hvl4 hvl5 hbw heqq hp
      go_wp2_with fail
      have f1 := After.cell s1
      have f2 := After.cell s2
      have f3 := After.cell s3
      have f4 := After.cell s4
      refine region_after (Below.refl wr.heap.size wr) (by kernel_rfl) (by kernel_rfl) ?_
      repeat (go_big_quiet_step (first
        | (go_at_call 43; exact calls_after (Nat.le_refl _) (HEQQ.out _))))
      refine wpQuiet_nil ?_
      intro _ hw'
      obtain ⟨nq, hw''⟩ := hw'
      subst hw''
      clear f1 f2 f3 f4
      go_wp2_with fail
      go_roundw
      case rel => exact ⟨k + 1, by omega, by go_num, Lib.hid (hI.out.trans (nq.below.mono hI.out.size))⟩
      case measure => simp [intOf]; omega
    · go_wp2_with fail
      go_ret
      exact ⟨rfl, HB0.out.trans (hI.out.mono HB0.out.size)⟩
end Go.Proofs.Ytdkacdfhapgboaa

/- Two simulations that read alike are the same to the specification's own comparison. (printed by gen/samex.py) -/
set_option linter.unusedVariables false
set_option linter.unusedSimpArgs false
namespace Go.Proofs.Ytdkacdfhapgboaa
open Go.RowKit

set_option maxRecDepth 100000 in
set_option maxHeartbeats 2000000 in
theorem samePredS_true (t h r : Int) (A A' R R' : Option Addr) (c c' rc rc' : Nat) (cs rs : List Int) (hist : Int) (w : World) (h1 : RdI w .i64 A cs.length cs) (h1' : RdI w .i64 A' cs.length cs) (h2 : RdI w .u32 R rs.length rs) (h2' : RdI w .u32 R' rs.length rs) :
    Calls Try.prog 68 #[.agg #[.int .i64 t, .int .i64 h, .int .i64 r, .slice A cs.length c, .int .u32 hist, .slice R rs.length rc], .agg #[.int .i64 t, .int .i64 h, .int .i64 r, .slice A' cs.length c', .int .u32 hist, .slice R' rs.length rc']] w
      fun e w' => e = .returned (.bool true) ∧ Below w.heap.size w w' := by
  obtain ⟨W0, hW0⟩ : ∃ W0, (w.alloc (.cells #[.int .i64 t, .int .i64 h, .int .i64 r, .slice A cs.length c, .int .u32 hist, .slice R rs.length rc] 52)).alloc (.cells #[.int .i64 t, .int .i64 h, .int .i64 r, .slice A' cs.length c', .int .u32 hist, .slice R' rs.length rc'] 52) = W0 := ⟨_, rfl⟩
  have hb0 : Below w.heap.size w W0 := by rw [← hW0]; exact ((Below.refl _ _).alloc (Nat.le_refl _) _).alloc (by simp) _
  have hx0 : W0.heap[w.heap.size]? = some (.cells #[.int .i64 t, .int .i64 h, .int .i64 r, .slice A cs.length c, .int .u32 hist, .slice R rs.length rc] 52 (0, 0)) := by rw [← hW0]; exact (heap_alloc_old _ _ (by simp)).trans (heap_alloc_new w _)
  have hx1 : W0.heap[w.heap.size + 1]? = some (.cells #[.int .i64 t, .int .i64 h, .int .i64 r, .slice A' cs.length c', .int .u32 hist, .slice R' rs.length rc'] 52 (0, 0)) := by rw [← hW0]; exact alloc_at _ _ _ (by simp)
  obtain ⟨c0, c1, c2, c3, c4, c5, _⟩ := box6 hx0
  obtain ⟨d0, d1, d2, d3, d4, d5, _⟩ := box6 hx1
  have H1 := Lib.hid (show RdI W0 .i64 A cs.length cs from Rd.below h1 hb0)
  have H1' := Lib.hid (show RdI W0 .i64 A' cs.length cs from Rd.below h1' hb0)
  have H2 := Lib.hid (show RdI W0 .u32 R rs.length rs from Rd.below h2 hb0)
  have H2' := Lib.hid (show RdI W0 .u32 R' rs.length rs from Rd.below h2' hb0)
  have HX0 := Lib.hid hx0
  have HX1 := Lib.hid hx1
  have HB0 := Lib.hid hb0
  have hle := h1.le
  clear h1 h1' h2 h2' hx0 hx1 hb0
  go_enter Try.func68, Try.ntmps68
  go_wp2_with fail
  refine (sameWords_true R R' rs.length rc rc' rs _ H2.out H2'.out).mono ?_
  rintro e W1 ⟨rfl, hb1⟩
  have HB1 := Lib.hid (HB0.out.trans (hb1.mono HB0.out.size))
  have K1 := Lib.hid (show RdI W1 .i64 A cs.length cs from Rd.below H1.out hb1)
  have K1' := Lib.hid (show RdI W1 .i64 A' cs.length cs from Rd.below H1'.out hb1)
  have Y0 := Lib.hid (belowBox hb1 HX0.out)
  have Y1 := Lib.hid (belowBox hb1 HX1.out)
  obtain ⟨e0, e1, e2, e3, e4, e5, _⟩ := box6 Y0.out
  obtain ⟨g0, g1, g2, g3, g4, g5, _⟩ := box6 Y1.out
  clear c0 c1 c2 c3 c4 c5 d0 d1 d2 d3 d4 d5 hb1
  go_wp2_with fail
  clear e0 e1 e2 e3 e4 e5 g0 g1 g2 g3 g4 g5
  go_loopw [5] (fun i wr => ∃ k : Nat, k ≤ cs.length ∧ i = .int .i64 k ∧ Hid (Below W1.heap.size W1 wr)) (fun i _ => cs.length - (intOf i).toNat)
  case atStart => exact ⟨0, Nat.zero_le _, rfl, Lib.hid (Below.refl _ _)⟩
  case round =>
    obtain ⟨k, hk, rfl, hI⟩ := hrel
    have s1 := boxAt (i := 3) (belowBox hI.out Y0.out) rfl
    have s2 := boxAt (i := 3) (belowBox hI.out Y1.out) rfl
    by_cases hlt : k < cs.length
    · obtain ⟨ad, rfl, hc⟩ := RdI.at (show RdI wr .i64 A cs.length cs from Rd.below K1.out hI.out) k hlt
      obtain ⟨ad', rfl, hc'⟩ := RdI.at (show RdI wr .i64 A' cs.length cs from Rd.below K1'.out hI.out) k hlt
      obtain ⟨x, hx⟩ : ∃ x, gi cs k = x := ⟨_, rfl⟩
      rw [hx] at hc hc'
      clear hx
      go_wp2_with fail
      go_quiet (fail)
      go_wp2_with fail
      go_roundw
      case rel => exact ⟨k + 1, by omega, by go_num, Lib.hid (bdrewN hI.out _)⟩
      case measure => simp [intOf]; omega
    · go_wp2_with fail
      go_ret
      exact ⟨rfl, HB1.out.trans (hI.out.mono HB1.out.size)⟩

set_option maxRecDepth 100000 in
set_option maxHeartbeats 4000000 in
theorem sameSim_true (il iw dl dw ll lw pt ph pr : Int) (gI kI gD kD gL kL gI' kI' gD' kD' gL' kL' : Nat) (A A' R R' N N' : Option Addr) (ca ca' ra ra' nc nc' : Nat) (vI vD vL vI' vD' vL' : List Value) (LI LD LL : List (List Int)) (cs rs : List Int) (hist : Int) (ns : List (List Int)) (w : World)
    (hI : RdSets w (some ⟨gI, 0, none⟩) vI LI) (hD : RdSets w (some ⟨gD, 0, none⟩) vD LD) (hL : RdSets w (some ⟨gL, 0, none⟩) vL LL) (hI' : RdSets w (some ⟨gI', 0, none⟩) vI' LI) (hD' : RdSets w (some ⟨gD', 0, none⟩) vD' LD) (hL' : RdSets w (some ⟨gL', 0, none⟩) vL' LL)
    (hA : RdI w .i64 A cs.length cs) (hA' : RdI w .i64 A' cs.length cs) (hR : RdI w .u32 R rs.length rs) (hR' : RdI w .u32 R' rs.length rs) (hN : RdN w N ns) (hN' : RdN w N' ns) :
    Calls Try.prog 29 #[.agg #[.int .i64 il, .int .i64 (LI.length : Int), .int .i64 iw, .int .i64 dl, .int .i64 (LD.length : Int), .int .i64 dw, .int .i64 ll, .int .i64 (LL.length : Int), .int .i64 lw, .int .i64 pt, .int .i64 ph, .int .i64 pr, .int .i64 il, .int .i64 (LI.length : Int), .int .i64 iw, .slice (some ⟨gI, 0, none⟩) LI.length kI, .int .i64 dl, .int .i64 (LD.length : Int), .int .i64 dw, .slice (some ⟨gD, 0, none⟩) LD.length kD, .int .i64 ll, .int .i64 (LL.length : Int), .int .i64 lw, .slice (some ⟨gL, 0, none⟩) LL.length kL, .int .i64 pt, .int .i64 ph, .int .i64 pr, .slice A cs.length ca, .int .u32 hist, .slice R rs.length ra, .slice N ns.length nc], .agg #[.int .i64 il, .int .i64 (LI.length : Int), .int .i64 iw, .int .i64 dl, .int .i64 (LD.length : Int), .int .i64 dw, .int .i64 ll, .int .i64 (LL.length : Int), .int .i64 lw, .int .i64 pt, .int .i64 ph, .int .i64 pr, .int .i64 il, .int .i64 (LI.length : Int), .int .i64 iw, .slice (some ⟨gI', 0, none⟩) LI.length kI', .int .i64 dl, .int .i64 (LD.length : Int), .int .i64 dw, .slice (some ⟨gD', 0, none⟩) LD.length kD', .int .i64 ll, .int .i64 (LL.length : Int), .int .i64 lw, .slice (some ⟨gL', 0, none⟩) LL.length kL', .int .i64 pt, .int .i64 ph, .int .i64 pr, .slice A' cs.length ca', .int .u32 hist, .slice R' rs.length ra', .slice N' ns.length nc']] w fun e w' => e = .returned (.bool true) ∧ Below w.heap.size w w' := by
  obtain ⟨W0, hW0⟩ : ∃ W0, (w.alloc (.cells #[.int .i64 il, .int .i64 (LI.length : Int), .int .i64 iw, .int .i64 dl, .int .i64 (LD.length : Int), .int .i64 dw, .int .i64 ll, .int .i64 (LL.length : Int), .int .i64 lw, .int .i64 pt, .int .i64 ph, .int .i64 pr, .int .i64 il, .int .i64 (LI.length : Int), .int .i64 iw, .slice (some ⟨gI, 0, none⟩) LI.length kI, .int .i64 dl, .int .i64 (LD.length : Int), .int .i64 dw, .slice (some ⟨gD, 0, none⟩) LD.length kD, .int .i64 ll, .int .i64 (LL.length : Int), .int .i64 lw, .slice (some ⟨gL, 0, none⟩) LL.length kL, .int .i64 pt, .int .i64 ph, .int .i64 pr, .slice A cs.length ca, .int .u32 hist, .slice R rs.length ra, .slice N ns.length nc] 67)).alloc (.cells #[.int .i64 il, .int .i64 (LI.length : Int), .int .i64 iw, .int .i64 dl, .int .i64 (LD.length : Int), .int .i64 dw, .int .i64 ll, .int .i64 (LL.length : Int), .int .i64 lw, .int .i64 pt, .int .i64 ph, .int .i64 pr, .int .i64 il, .int .i64 (LI.length : Int), .int .i64 iw, .slice (some ⟨gI', 0, none⟩) LI.length kI', .int .i64 dl, .int .i64 (LD.length : Int), .int .i64 dw, .slice (some ⟨gD', 0, none⟩) LD.length kD', .int .i64 ll, .int .i64 (LL.length : Int), .int .i64 lw, .slice (some ⟨gL', 0, none⟩) LL.length kL', .int .i64 pt, .int .i64 ph, .int .i64 pr, .slice A' cs.length ca', .int .u32 hist, .slice R' rs.length ra', .slice N' ns.length nc'] 67) = W0 := ⟨_, rfl⟩
  have hb0 : Below w.heap.size w W0 := by rw [← hW0]; exact ((Below.refl _ _).alloc (Nat.le_refl _) _).alloc (by simp) _
  have hx0 : W0.heap[w.heap.size]? = some (.cells #[.int .i64 il, .int .i64 (LI.length : Int), .int .i64 iw, .int .i64 dl, .int .i64 (LD.length : Int), .int .i64 dw, .int .i64 ll, .int .i64 (LL.length : Int), .int .i64 lw, .int .i64 pt, .int .i64 ph, .int .i64 pr, .int .i64 il, .int .i64 (LI.length : Int), .int .i64 iw, .slice (some ⟨gI, 0, none⟩) LI.length kI, .int .i64 dl, .int .i64 (LD.length : Int), .int .i64 dw, .slice (some ⟨gD, 0, none⟩) LD.length kD, .int .i64 ll, .int .i64 (LL.length : Int), .int .i64 lw, .slice (some ⟨gL, 0, none⟩) LL.length kL, .int .i64 pt, .int .i64 ph, .int .i64 pr, .slice A cs.length ca, .int .u32 hist, .slice R rs.length ra, .slice N ns.length nc] 67 (0, 0)) := by rw [← hW0]; exact (heap_alloc_old _ _ (by simp)).trans (heap_alloc_new w _)
  have hx1 : W0.heap[w.heap.size + 1]? = some (.cells #[.int .i64 il, .int .i64 (LI.length : Int), .int .i64 iw, .int .i64 dl, .int .i64 (LD.length : Int), .int .i64 dw, .int .i64 ll, .int .i64 (LL.length : Int), .int .i64 lw, .int .i64 pt, .int .i64 ph, .int .i64 pr, .int .i64 il, .int .i64 (LI.length : Int), .int .i64 iw, .slice (some ⟨gI', 0, none⟩) LI.length kI', .int .i64 dl, .int .i64 (LD.length : Int), .int .i64 dw, .slice (some ⟨gD', 0, none⟩) LD.length kD', .int .i64 ll, .int .i64 (LL.length : Int), .int .i64 lw, .slice (some ⟨gL', 0, none⟩) LL.length kL', .int .i64 pt, .int .i64 ph, .int .i64 pr, .slice A' cs.length ca', .int .u32 hist, .slice R' rs.length ra', .slice N' ns.length nc'] 67 (0, 0)) := by rw [← hW0]; exact alloc_at _ _ _ (by simp)
  have HX := Lib.hid hx0
  have HY := Lib.hid hx1
  have HB := Lib.hid hb0
  have HI := Lib.hid (hI.below hb0)
  have HI' := Lib.hid (hI'.below hb0)
  have HD := Lib.hid (hD.below hb0)
  have HD' := Lib.hid (hD'.below hb0)
  have HL := Lib.hid (hL.below hb0)
  have HL' := Lib.hid (hL'.below hb0)
  have HA := Lib.hid (Rd.below hA hb0)
  have HA' := Lib.hid (Rd.below hA' hb0)
  have HR := Lib.hid (Rd.below hR hb0)
  have HR' := Lib.hid (Rd.below hR' hb0)
  have HN := Lib.hid (hN.below hb0)
  have HN' := Lib.hid (hN'.below hb0)
  have hle := hN.le
  clear hI hD hL hI' hD' hL' hA hA' hR hR' hN hN' hx0 hx1 hb0
  have c0 := boxAt (i := 0) HX.out rfl
  have d0 := boxAt (i := 0) HY.out rfl
  have c1 := boxAt (i := 1) HX.out rfl
  have d1 := boxAt (i := 1) HY.out rfl
  have c2 := boxAt (i := 2) HX.out rfl
  have d2 := boxAt (i := 2) HY.out rfl
  have c3 := boxAt (i := 3) HX.out rfl
  have d3 := boxAt (i := 3) HY.out rfl
  have c4 := boxAt (i := 4) HX.out rfl
  have d4 := boxAt (i := 4) HY.out rfl
  have c5 := boxAt (i := 5) HX.out rfl
  have d5 := boxAt (i := 5) HY.out rfl
  have c6 := boxAt (i := 6) HX.out rfl
  have d6 := boxAt (i := 6) HY.out rfl
  have c7 := boxAt (i := 7) HX.out rfl
  have d7 := boxAt (i := 7) HY.out rfl
  have c8 := boxAt (i := 8) HX.out rfl
  have d8 := boxAt (i := 8) HY.out rfl
  have c9 := boxAt (i := 9) HX.out rfl
  have d9 := boxAt (i := 9) HY.out rfl
  have c10 := boxAt (i := 10) HX.out rfl
  have d10 := boxAt (i := 10) HY.out rfl
  have c11 := boxAt (i := 11) HX.out rfl
  have d11 := boxAt (i := 11) HY.out rfl
  have c12 := boxAt (i := 12) HX.out rfl
  have d12 := boxAt (i := 12) HY.out rfl
  have c13 := boxAt (i := 13) HX.out rfl
  have d13 := boxAt (i := 13) HY.out rfl
  have c14 := boxAt (i := 14) HX.out rfl
  have d14 := boxAt (i := 14) HY.out rfl
  have c15 := boxAt (i := 15) HX.out rfl
  have d15 := boxAt (i := 15) HY.out rfl
  have c16 := boxAt (i := 16) HX.out rfl
  have d16 := boxAt (i := 16) HY.out rfl
  have c17 := boxAt (i := 17) HX.out rfl
  have d17 := boxAt (i := 17) HY.out rfl
  have c18 := boxAt (i := 18) HX.out rfl
  have d18 := boxAt (i := 18) HY.out rfl
  have c19 := boxAt (i := 19) HX.out rfl
  have d19 := boxAt (i := 19) HY.out rfl
  have c20 := boxAt (i := 20) HX.out rfl
  have d20 := boxAt (i := 20) HY.out rfl
  have c21 := boxAt (i := 21) HX.out rfl
  have d21 := boxAt (i := 21) HY.out rfl
  have c22 := boxAt (i := 22) HX.out rfl
  have d22 := boxAt (i := 22) HY.out rfl
  have c23 := boxAt (i := 23) HX.out rfl
  have d23 := boxAt (i := 23) HY.out rfl
  have c24 := boxAt (i := 24) HX.out rfl
  have d24 := boxAt (i := 24) HY.out rfl
  have c25 := boxAt (i := 25) HX.out rfl
  have d25 := boxAt (i := 25) HY.out rfl
  have c26 := boxAt (i := 26) HX.out rfl
  have d26 := boxAt (i := 26) HY.out rfl
  have c27 := boxAt (i := 27) HX.out rfl
  have d27 := boxAt (i := 27) HY.out rfl
  have c28 := boxAt (i := 28) HX.out rfl
  have d28 := boxAt (i := 28) HY.out rfl
  have c29 := boxAt (i := 29) HX.out rfl
  have d29 := boxAt (i := 29) HY.out rfl
  have c30 := boxAt (i := 30) HX.out rfl
  have d30 := boxAt (i := 30) HY.out rfl
  go_enter Try.func29, Try.ntmps29
  go_wp2_with fail
  refine (sameCache_true il iw LI.length gI kI gI' kI' vI vI' LI _ HI.out HI'.out rfl).mono ?_
  rintro e WI ⟨rfl, hb⟩
  replace HI := Lib.hid (HI.out.below hb)
  replace HI' := Lib.hid (HI'.out.below hb)
  replace HD := Lib.hid (HD.out.below hb)
  replace HD' := Lib.hid (HD'.out.below hb)
  replace HL := Lib.hid (HL.out.below hb)
  replace HL' := Lib.hid (HL'.out.below hb)
  replace HA := Lib.hid (Rd.below HA.out hb)
  replace HA' := Lib.hid (Rd.below HA'.out hb)
  replace HR := Lib.hid (Rd.below HR.out hb)
  replace HR' := Lib.hid (Rd.below HR'.out hb)
  replace HN := Lib.hid (HN.out.below hb)
  replace HN' := Lib.hid (HN'.out.below hb)
  replace HB := Lib.hid (bvia HB.out hb (Nat.le_refl _))
  replace HX := Lib.hid (belowBox hb HX.out)
  replace HY := Lib.hid (belowBox hb HY.out)
  clear c0 d0 c1 d1 c2 d2 c3 d3 c4 d4 c5 d5 c6 d6 c7 d7 c8 d8 c9 d9 c10 d10 c11 d11 c12 d12 c13 d13 c14 d14 c15 d15 c16 d16 c17 d17 c18 d18 c19 d19 c20 d20 c21 d21 c22 d22 c23 d23 c24 d24 c25 d25 c26 d26 c27 d27 c28 d28 c29 d29 c30 d30
  clear hb
  have c0 := boxAt (i := 0) HX.out rfl
  have d0 := boxAt (i := 0) HY.out rfl
  have c1 := boxAt (i := 1) HX.out rfl
  have d1 := boxAt (i := 1) HY.out rfl
  have c2 := boxAt (i := 2) HX.out rfl
  have d2 := boxAt (i := 2) HY.out rfl
  have c3 := boxAt (i := 3) HX.out rfl
  have d3 := boxAt (i := 3) HY.out rfl
  have c4 := boxAt (i := 4) HX.out rfl
  have d4 := boxAt (i := 4) HY.out rfl
  have c5 := boxAt (i := 5) HX.out rfl
  have d5 := boxAt (i := 5) HY.out rfl
  have c6 := boxAt (i := 6) HX.out rfl
  have d6 := boxAt (i := 6) HY.out rfl
  have c7 := boxAt (i := 7) HX.out rfl
  have d7 := boxAt (i := 7) HY.out rfl
  have c8 := boxAt (i := 8) HX.out rfl
  have d8 := boxAt (i := 8) HY.out rfl
  have c9 := boxAt (i := 9) HX.out rfl
  have d9 := boxAt (i := 9) HY.out rfl
  have c10 := boxAt (i := 10) HX.out rfl
  have d10 := boxAt (i := 10) HY.out rfl
  have c11 := boxAt (i := 11) HX.out rfl
  have d11 := boxAt (i := 11) HY.out rfl
  have c12 := boxAt (i := 12) HX.out rfl
  have d12 := boxAt (i := 12) HY.out rfl
  have c13 := boxAt (i := 13) HX.out rfl
  have d13 := boxAt (i := 13) HY.out rfl
  have c14 := boxAt (i := 14) HX.out rfl
  have d14 := boxAt (i := 14) HY.out rfl
  have c15 := boxAt (i := 15) HX.out rfl
  have d15 := boxAt (i := 15) HY.out rfl
  have c16 := boxAt (i := 16) HX.out rfl
  have d16 := boxAt (i := 16) HY.out rfl
  have c17 := boxAt (i := 17) HX.out rfl
  have d17 := boxAt (i := 17) HY.out rfl
  have c18 := boxAt (i := 18) HX.out rfl
  have d18 := boxAt (i := 18) HY.out rfl
  have c19 := boxAt (i := 19) HX.out rfl
  have d19 := boxAt (i := 19) HY.out rfl
  have c20 := boxAt (i := 20) HX.out rfl
  have d20 := boxAt (i := 20) HY.out rfl
  have c21 := boxAt (i := 21) HX.out rfl
  have d21 := boxAt (i := 21) HY.out rfl
  have c22 := boxAt (i := 22) HX.out rfl
  have d22 := boxAt (i := 22) HY.out rfl
  have c23 := boxAt (i := 23) HX.out rfl
  have d23 := boxAt (i := 23) HY.out rfl
  have c24 := boxAt (i := 24) HX.out rfl
  have d24 := boxAt (i := 24) HY.out rfl
  have c25 := boxAt (i := 25) HX.out rfl
  have d25 := boxAt (i := 25) HY.out rfl
  have c26 := boxAt (i := 26) HX.out rfl
  have d26 := boxAt (i := 26) HY.out rfl
  have c27 := boxAt (i := 27) HX.out rfl
  have d27 := boxAt (i := 27) HY.out rfl
  have c28 := boxAt (i := 28) HX.out rfl
  have d28 := boxAt (i := 28) HY.out rfl
  have c29 := boxAt (i := 29) HX.out rfl
  have d29 := boxAt (i := 29) HY.out rfl
  have c30 := boxAt (i := 30) HX.out rfl
  have d30 := boxAt (i := 30) HY.out rfl
  go_wp2_with fail
  refine (sameCache_true dl dw LD.length gD kD gD' kD' vD vD' LD _ HD.out HD'.out rfl).mono ?_
  rintro e WD ⟨rfl, hb⟩
  replace HI := Lib.hid (HI.out.below hb)
  replace HI' := Lib.hid (HI'.out.below hb)
  replace HD := Lib.hid (HD.out.below hb)
  replace HD' := Lib.hid (HD'.out.below hb)
  replace HL := Lib.hid (HL.out.below hb)
  replace HL' := Lib.hid (HL'.out.below hb)
  replace HA := Lib.hid (Rd.below HA.out hb)
  replace HA' := Lib.hid (Rd.below HA'.out hb)
  replace HR := Lib.hid (Rd.below HR.out hb)
  replace HR' := Lib.hid (Rd.below HR'.out hb)
  replace HN := Lib.hid (HN.out.below hb)
  replace HN' := Lib.hid (HN'.out.below hb)
  replace HB := Lib.hid (bvia HB.out hb (Nat.le_refl _))
  replace HX := Lib.hid (belowBox hb HX.out)
  replace HY := Lib.hid (belowBox hb HY.out)
  clear c0 d0 c1 d1 c2 d2 c3 d3 c4 d4 c5 d5 c6 d6 c7 d7 c8 d8 c9 d9 c10 d10 c11 d11 c12 d12 c13 d13 c14 d14 c15 d15 c16 d16 c17 d17 c18 d18 c19 d19 c20 d20 c21 d21 c22 d22 c23 d23 c24 d24 c25 d25 c26 d26 c27 d27 c28 d28 c29 d29 c30 d30
  clear hb
  have c0 := boxAt (i := 0) HX.out rfl
  have d0 := boxAt (i := 0) HY.out rfl
  have c1 := boxAt (i := 1) HX.out rfl
  have d1 := boxAt (i := 1) HY.out rfl
  have c2 := boxAt (i := 2) HX.out rfl
  have d2 := boxAt (i := 2) HY.out rfl
  have c3 := boxAt (i := 3) HX.out rfl
  have d3 := boxAt (i := 3) HY.out rfl
  have c4 := boxAt (i := 4) HX.out rfl
  have d4 := boxAt (i := 4) HY.out rfl
  have c5 := boxAt (i := 5) HX.out rfl
  have d5 := boxAt (i := 5) HY.out rfl
  have c6 := boxAt (i := 6) HX.out rfl
  have d6 := boxAt (i := 6) HY.out rfl
  have c7 := boxAt (i := 7) HX.out rfl
  have d7 := boxAt (i := 7) HY.out rfl
  have c8 := boxAt (i := 8) HX.out rfl
  have d8 := boxAt (i := 8) HY.out rfl
  have c9 := boxAt (i := 9) HX.out rfl
  have d9 := boxAt (i := 9) HY.out rfl
  have c10 := boxAt (i := 10) HX.out rfl
  have d10 := boxAt (i := 10) HY.out rfl
  have c11 := boxAt (i := 11) HX.out rfl
  have d11 := boxAt (i := 11) HY.out rfl
  have c12 := boxAt (i := 12) HX.out rfl
  have d12 := boxAt (i := 12) HY.out rfl
  have c13 := boxAt (i := 13) HX.out rfl
  have d13 := boxAt (i := 13) HY.out rfl
  have c14 := boxAt (i := 14) HX.out rfl
  have d14 := boxAt (i := 14) HY.out rfl
  have c15 := boxAt (i := 15) HX.out rfl
  have d15 := boxAt (i := 15) HY.out rfl
  have c16 := boxAt (i := 16) HX.out rfl
  have d16 := boxAt (i := 16) HY.out rfl
  have c17 := boxAt (i := 17) HX.out rfl
  have d17 := boxAt (i := 17) HY.out rfl
  have c18 := boxAt (i := 18) HX.out rfl
  have d18 := boxAt (i := 18) HY.out rfl
  have c19 := boxAt (i := 19) HX.out rfl
  have d19 := boxAt (i := 19) HY.out rfl
  have c20 := boxAt (i := 20) HX.out rfl
  have d20 := boxAt (i := 20) HY.out rfl
  have c21 := boxAt (i := 21) HX.out rfl
  have d21 := boxAt (i := 21) HY.out rfl
  have c22 := boxAt (i := 22) HX.out rfl
  have d22 := boxAt (i := 22) HY.out rfl
  have c23 := boxAt (i := 23) HX.out rfl
  have d23 := boxAt (i := 23) HY.out rfl
  have c24 := boxAt (i := 24) HX.out rfl
  have d24 := boxAt (i := 24) HY.out rfl
  have c25 := boxAt (i := 25) HX.out rfl
  have d25 := boxAt (i := 25) HY.out rfl
  have c26 := boxAt (i := 26) HX.out rfl
  have d26 := boxAt (i := 26) HY.out rfl
  have c27 := boxAt (i := 27) HX.out rfl
  have d27 := boxAt (i := 27) HY.out rfl
  have c28 := boxAt (i := 28) HX.out rfl
  have d28 := boxAt (i := 28) HY.out rfl
  have c29 := boxAt (i := 29) HX.out rfl
  have d29 := boxAt (i := 29) HY.out rfl
  have c30 := boxAt (i := 30) HX.out rfl
  have d30 := boxAt (i := 30) HY.out rfl
  go_wp2_with fail
  refine (sameCache_true ll lw LL.length gL kL gL' kL' vL vL' LL _ HL.out HL'.out rfl).mono ?_
  rintro e WL ⟨rfl, hb⟩
  replace HI := Lib.hid (HI.out.below hb)
  replace HI' := Lib.hid (HI'.out.below hb)
  replace HD := Lib.hid (HD.out.below hb)
  replace HD' := Lib.hid (HD'.out.below hb)
  replace HL := Lib.hid (HL.out.below hb)
  replace HL' := Lib.hid (HL'.out.below hb)
  replace HA := Lib.hid (Rd.below HA.out hb)
  replace HA' := Lib.hid (Rd.below HA'.out hb)
  replace HR := Lib.hid (Rd.below HR.out hb)
  replace HR' := Lib.hid (Rd.below HR'.out hb)
  replace HN := Lib.hid (HN.out.below hb)
  replace HN' := Lib.hid (HN'.out.below hb)
  replace HB := Lib.hid (bvia HB.out hb (Nat.le_refl _))
  replace HX := Lib.hid (belowBox hb HX.out)
  replace HY := Lib.hid (belowBox hb HY.out)
  clear c0 d0 c1 d1 c2 d2 c3 d3 c4 d4 c5 d5 c6 d6 c7 d7 c8 d8 c9 d9 c10 d10 c11 d11 c12 d12 c13 d13 c14 d14 c15 d15 c16 d16 c17 d17 c18 d18 c19 d19 c20 d20 c21 d21 c22 d22 c23 d23 c24 d24 c25 d25 c26 d26 c27 d27 c28 d28 c29 d29 c30 d30
  clear hb
  have c0 := boxAt (i := 0) HX.out rfl
  have d0 := boxAt (i := 0) HY.out rfl
  have c1 := boxAt (i := 1) HX.out rfl
  have d1 := boxAt (i := 1) HY.out rfl
  have c2 := boxAt (i := 2) HX.out rfl
  have d2 := boxAt (i := 2) HY.out rfl
  have c3 := boxAt (i := 3) HX.out rfl
  have d3 := boxAt (i := 3) HY.out rfl
  have c4 := boxAt (i := 4) HX.out rfl
  have d4 := boxAt (i := 4) HY.out rfl
  have c5 := boxAt (i := 5) HX.out rfl
  have d5 := boxAt (i := 5) HY.out rfl
  have c6 := boxAt (i := 6) HX.out rfl
  have d6 := boxAt (i := 6) HY.out rfl
  have c7 := boxAt (i := 7) HX.out rfl
  have d7 := boxAt (i := 7) HY.out rfl
  have c8 := boxAt (i := 8) HX.out rfl
  have d8 := boxAt (i := 8) HY.out rfl
  have c9 := boxAt (i := 9) HX.out rfl
  have d9 := boxAt (i := 9) HY.out rfl
  have c10 := boxAt (i := 10) HX.out rfl
  have d10 := boxAt (i := 10) HY.out rfl
  have c11 := boxAt (i := 11) HX.out rfl
  have d11 := boxAt (i := 11) HY.out rfl
  have c12 := boxAt (i := 12) HX.out rfl
  have d12 := boxAt (i := 12) HY.out rfl
  have c13 := boxAt (i := 13) HX.out rfl
  have d13 := boxAt (i := 13) HY.out rfl
  have c14 := boxAt (i := 14) HX.out rfl
  have d14 := boxAt (i := 14) HY.out rfl
  have c15 := boxAt (i := 15) HX.out rfl
  have d15 := boxAt (i := 15) HY.out rfl
  have c16 := boxAt (i := 16) HX.out rfl
  have d16 := boxAt (i := 16) HY.out rfl
  have c17 := boxAt (i := 17) HX.out rfl
  have d17 := boxAt (i := 17) HY.out rfl
  have c18 := boxAt (i := 18) HX.out rfl
  have d18 := boxAt (i := 18) HY.out rfl
  have c19 := boxAt (i := 19) HX.out rfl
  have d19 := boxAt (i := 19) HY.out rfl
  have c20 := boxAt (i := 20) HX.out rfl
  have d20 := boxAt (i := 20) HY.out rfl
  have c21 := boxAt (i := 21) HX.out rfl
  have d21 := boxAt (i := 21) HY.out rfl
  have c22 := boxAt (i := 22) HX.out rfl
  have d22 := boxAt (i := 22) HY.out rfl
  have c23 := boxAt (i := 23) HX.out rfl
  have d23 := boxAt (i := 23) HY.out rfl
  have c24 := boxAt (i := 24) HX.out rfl
  have d24 := boxAt (i := 24) HY.out rfl
  have c25 := boxAt (i := 25) HX.out rfl
  have d25 := boxAt (i := 25) HY.out rfl
  have c26 := boxAt (i := 26) HX.out rfl
  have d26 := boxAt (i := 26) HY.out rfl
  have c27 := boxAt (i := 27) HX.out rfl
  have d27 := boxAt (i := 27) HY.out rfl
  have c28 := boxAt (i := 28) HX.out rfl
  have d28 := boxAt (i := 28) HY.out rfl
  have c29 := boxAt (i := 29) HX.out rfl
  have d29 := boxAt (i := 29) HY.out rfl
  have c30 := boxAt (i := 30) HX.out rfl
  have d30 := boxAt (i := 30) HY.out rfl
  go_wp2_with fail
  refine (samePredS_true pt ph pr A A' R R' ca ca' ra ra' cs rs hist _ HA.out HA'.out HR.out HR'.out).mono ?_
  rintro e WP ⟨rfl, hb⟩
  replace HI := Lib.hid (HI.out.below hb)
  replace HI' := Lib.hid (HI'.out.below hb)
  replace HD := Lib.hid (HD.out.below hb)
  replace HD' := Lib.hid (HD'.out.below hb)
  replace HL := Lib.hid (HL.out.below hb)
  replace HL' := Lib.hid (HL'.out.below hb)
  replace HA := Lib.hid (Rd.below HA.out hb)
  replace HA' := Lib.hid (Rd.below HA'.out hb)
  replace HR := Lib.hid (Rd.below HR.out hb)
  replace HR' := Lib.hid (Rd.below HR'.out hb)
  replace HN := Lib.hid (HN.out.below hb)
  replace HN' := Lib.hid (HN'.out.below hb)
  replace HB := Lib.hid (bvia HB.out hb (Nat.le_refl _))
  replace HX := Lib.hid (belowBox hb HX.out)
  replace HY := Lib.hid (belowBox hb HY.out)
  clear c0 d0 c1 d1 c2 d2 c3 d3 c4 d4 c5 d5 c6 d6 c7 d7 c8 d8 c9 d9 c10 d10 c11 d11 c12 d12 c13 d13 c14 d14 c15 d15 c16 d16 c17 d17 c18 d18 c19 d19 c20 d20 c21 d21 c22 d22 c23 d23 c24 d24 c25 d25 c26 d26 c27 d27 c28 d28 c29 d29 c30 d30
  clear hb
  have c0 := boxAt (i := 0) HX.out rfl
  have d0 := boxAt (i := 0) HY.out rfl
  have c1 := boxAt (i := 1) HX.out rfl
  have d1 := boxAt (i := 1) HY.out rfl
  have c2 := boxAt (i := 2) HX.out rfl
  have d2 := boxAt (i := 2) HY.out rfl
  have c3 := boxAt (i := 3) HX.out rfl
  have d3 := boxAt (i := 3) HY.out rfl
  have c4 := boxAt (i := 4) HX.out rfl
  have d4 := boxAt (i := 4) HY.out rfl
  have c5 := boxAt (i := 5) HX.out rfl
  have d5 := boxAt (i := 5) HY.out rfl
  have c6 := boxAt (i := 6) HX.out rfl
  have d6 := boxAt (i := 6) HY.out rfl
  have c7 := boxAt (i := 7) HX.out rfl
  have d7 := boxAt (i := 7) HY.out rfl
  have c8 := boxAt (i := 8) HX.out rfl
  have d8 := boxAt (i := 8) HY.out rfl
  have c9 := boxAt (i := 9) HX.out rfl
  have d9 := boxAt (i := 9) HY.out rfl
  have c10 := boxAt (i := 10) HX.out rfl
  have d10 := boxAt (i := 10) HY.out rfl
  have c11 := boxAt (i := 11) HX.out rfl
  have d11 := boxAt (i := 11) HY.out rfl
  have c12 := boxAt (i := 12) HX.out rfl
  have d12 := boxAt (i := 12) HY.out rfl
  have c13 := boxAt (i := 13) HX.out rfl
  have d13 := boxAt (i := 13) HY.out rfl
  have c14 := boxAt (i := 14) HX.out rfl
  have d14 := boxAt (i := 14) HY.out rfl
  have c15 := boxAt (i := 15) HX.out rfl
  have d15 := boxAt (i := 15) HY.out rfl
  have c16 := boxAt (i := 16) HX.out rfl
  have d16 := boxAt (i := 16) HY.out rfl
  have c17 := boxAt (i := 17) HX.out rfl
  have d17 := boxAt (i := 17) HY.out rfl
  have c18 := boxAt (i := 18) HX.out rfl
  have d18 := boxAt (i := 18) HY.out rfl
  have c19 := boxAt (i := 19) HX.out rfl
  have d19 := boxAt (i := 19) HY.out rfl
  have c20 := boxAt (i := 20) HX.out rfl
  have d20 := boxAt (i := 20) HY.out rfl
  have c21 := boxAt (i := 21) HX.out rfl
  have d21 := boxAt (i := 21) HY.out rfl
  have c22 := boxAt (i := 22) HX.out rfl
  have d22 := boxAt (i := 22) HY.out rfl
  have c23 := boxAt (i := 23) HX.out rfl
  have d23 := boxAt (i := 23) HY.out rfl
  have c24 := boxAt (i := 24) HX.out rfl
  have d24 := boxAt (i := 24) HY.out rfl
  have c25 := boxAt (i := 25) HX.out rfl
  have d25 := boxAt (i := 25) HY.out rfl
  have c26 := boxAt (i := 26) HX.out rfl
  have d26 := boxAt (i := 26) HY.out rfl
  have c27 := boxAt (i := 27) HX.out rfl
  have d27 := boxAt (i := 27) HY.out rfl
  have c28 := boxAt (i := 28) HX.out rfl
  have d28 := boxAt (i := 28) HY.out rfl
  have c29 := boxAt (i := 29) HX.out rfl
  have d29 := boxAt (i := 29) HY.out rfl
  have c30 := boxAt (i := 30) HX.out rfl
  have d30 := boxAt (i := 30) HY.out rfl
  go_wp2_with fail
  clear c0 d0 c1 d1 c2 d2 c3 d3 c4 d4 c5 d5 c6 d6 c7 d7 c8 d8 c9 d9 c10 d10 c11 d11 c12 d12 c13 d13 c14 d14 c15 d15 c16 d16 c17 d17 c18 d18 c19 d19 c20 d20 c21 d21 c22 d22 c23 d23 c24 d24 c25 d25 c26 d26 c27 d27 c28 d28 c29 d29 c30 d30
  go_loopw [5] (fun i wr => ∃ k : Nat, k ≤ ns.length ∧ i = .int .i64 k ∧ Hid (Below WP.heap.size WP wr)) (fun i _ => ns.length - (intOf i).toNat)
  case atStart => exact ⟨0, Nat.zero_le _, rfl, Lib.hid (Below.refl _ _)⟩
  case round =>
    obtain ⟨k, hk, rfl, hI⟩ := hrel
    have s1 := boxAt (i := 30) (belowBox hI.out HX.out) rfl
    have s2 := boxAt (i := 30) (belowBox hI.out HY.out) rfl
    by_cases hlt : k < ns.length
    · obtain ⟨ad, rfl, x0, x1, x2, x3, x4, x5, x6, x7, x8, x9, x10, x11, x12, x13⟩ := (HN.out.below hI.out).at14 k hlt
      obtain ⟨ad', rfl, y0, y1, y2, y3, y4, y5, y6, y7, y8, y9, y10, y11, y12, y13⟩ := (HN'.out.below hI.out).at14 k hlt
      obtain ⟨x, hx⟩ : ∃ x, gn ns k = x := ⟨_, rfl⟩
      rw [hx] at x0 x1 x2 x3 x4 x5 x6 x7 x8 x9 x10 x11 x12 x13 y0 y1 y2 y3 y4 y5 y6 y7 y8 y9 y10 y11 y12 y13
      clear hx
      go_wp2_with fail
      go_quiet (fail)
      go_wp2_with fail
      go_roundw
      case rel => exact ⟨k + 1, by omega, by go_num, Lib.hid (bdrewN hI.out _)⟩
      case measure => simp [intOf]; omega
    · go_wp2_with fail
      go_ret
      exact ⟨rfl, HB.out.trans (hI.out.mono HB.out.size)⟩
end Go.Proofs.Ytdkacdfhapgboaa

/- Total and the comparison of simulations, the lengths as letters; how a feed keeps to its bounds. (printed) -/
set_option linter.unusedVariables false
set_option linter.unusedSimpArgs false
namespace Go.Proofs.Ytdkacdfhapgboaa
open Go.RowKit

theorem Total_n (il is iw dl ds dw ll ls lw pt ph pr : Int) (AI AD AL A R N : Option Addr) (ci cd cl ca ra nc : Nat) (vI vD vL : List Value) (LI LD LL : List (List Int)) (cs rs : List Int) (hist : Int) (ns : List (List Int)) (w : World) (nI nD nL : Nat)
    (hs : simShapeB ⟨il, is, iw, dl, ds, dw, ll, ls, lw, pt, ph, pr⟩ = true) (hI : RdSets w AI vI LI) (hD : RdSets w AD vD LD) (hL : RdSets w AL vL LL) (hc : RdI w .i64 A cs.length cs) (hn : RdN w N ns)
    (oI : cacheOk il is iw LI) (oD : cacheOk dl ds dw LD) (oL : cacheOk ll ls lw LL) (oP : predOk pt ph pr cs hist rs) (hh : 0 ≤ hist ∧ hist < 4294967296) (hnl : ns.length ≤ 20000) (oN : cntsOk ns) (eLI : LI.length = nI) (eLD : LD.length = nD) (eLL : LL.length = nL) :
    Calls Try.prog 32 #[.agg #[.int .i64 il, .int .i64 is, .int .i64 iw, .int .i64 dl, .int .i64 ds, .int .i64 dw, .int .i64 ll, .int .i64 ls, .int .i64 lw, .int .i64 pt, .int .i64 ph, .int .i64 pr, .int .i64 il, .int .i64 is, .int .i64 iw, .slice AI nI ci, .int .i64 dl, .int .i64 ds, .int .i64 dw, .slice AD nD cd, .int .i64 ll, .int .i64 ls, .int .i64 lw, .slice AL nL cl, .int .i64 pt, .int .i64 ph, .int .i64 pr, .slice A cs.length ca, .int .u32 hist, .slice R rs.length ra, .slice N ns.length nc]] w fun e w' => e = .returned (.tuple #[.agg (.int .u32 0 :: nums .i64 (totL ns ns.length)).toArray, .int .i64 0]) ∧ Below w.heap.size w w' := by
  subst eLI
  subst eLD
  subst eLL
  exact Total_ok il is iw dl ds dw ll ls lw pt ph pr AI AD AL A R N ci cd cl ca ra nc vI vD vL LI LD LL cs rs hist ns w hs hI hD hL hc hn oI oD oL oP hh hnl oN

theorem sameSim_n (il iw dl dw ll lw pt ph pr : Int) (gI kI gD kD gL kL gI' kI' gD' kD' gL' kL' : Nat) (A A' R R' N N' : Option Addr) (ca ca' ra ra' nc nc' : Nat) (vI vD vL vI' vD' vL' : List Value) (LI LD LL : List (List Int)) (cs rs : List Int) (hist : Int) (ns : List (List Int)) (w : World) (nI nD nL : Nat)
    (hI : RdSets w (some ⟨gI, 0, none⟩) vI LI) (hD : RdSets w (some ⟨gD, 0, none⟩) vD LD) (hL : RdSets w (some ⟨gL, 0, none⟩) vL LL) (hI' : RdSets w (some ⟨gI', 0, none⟩) vI' LI) (hD' : RdSets w (some ⟨gD', 0, none⟩) vD' LD) (hL' : RdSets w (some ⟨gL', 0, none⟩) vL' LL)
    (hA : RdI w .i64 A cs.length cs) (hA' : RdI w .i64 A' cs.length cs) (hR : RdI w .u32 R rs.length rs) (hR' : RdI w .u32 R' rs.length rs) (hN : RdN w N ns) (hN' : RdN w N' ns) (eLI : LI.length = nI) (eLD : LD.length = nD) (eLL : LL.length = nL) :
    Calls Try.prog 29 #[.agg #[.int .i64 il, .int .i64 (nI : Int), .int .i64 iw, .int .i64 dl, .int .i64 (nD : Int), .int .i64 dw, .int .i64 ll, .int .i64 (nL : Int), .int .i64 lw, .int .i64 pt, .int .i64 ph, .int .i64 pr, .int .i64 il, .int .i64 (nI : Int), .int .i64 iw, .slice (some ⟨gI, 0, none⟩) nI kI, .int .i64 dl, .int .i64 (nD : Int), .int .i64 dw, .slice (some ⟨gD, 0, none⟩) nD kD, .int .i64 ll, .int .i64 (nL : Int), .int .i64 lw, .slice (some ⟨gL, 0, none⟩) nL kL, .int .i64 pt, .int .i64 ph, .int .i64 pr, .slice A cs.length ca, .int .u32 hist, .slice R rs.length ra, .slice N ns.length nc], .agg #[.int .i64 il, .int .i64 (nI : Int), .int .i64 iw, .int .i64 dl, .int .i64 (nD : Int), .int .i64 dw, .int .i64 ll, .int .i64 (nL : Int), .int .i64 lw, .int .i64 pt, .int .i64 ph, .int .i64 pr, .int .i64 il, .int .i64 (nI : Int), .int .i64 iw, .slice (some ⟨gI', 0, none⟩) nI kI', .int .i64 dl, .int .i64 (nD : Int), .int .i64 dw, .slice (some ⟨gD', 0, none⟩) nD kD', .int .i64 ll, .int .i64 (nL : Int), .int .i64 lw, .slice (some ⟨gL', 0, none⟩) nL kL', .int .i64 pt, .int .i64 ph, .int .i64 pr, .slice A' cs.length ca', .int .u32 hist, .slice R' rs.length ra', .slice N' ns.length nc']] w fun e w' => e = .returned (.bool true) ∧ Below w.heap.size w w' := by
  subst eLI
  subst eLD
  subst eLL
  exact sameSim_true il iw dl dw ll lw pt ph pr gI kI gD kD gL kL gI' kI' gD' kD' gL' kL' A A' R R' N N' ca ca' ra ra' nc nc' vI vD vL vI' vD' vL' LI LD LL cs rs hist ns w hI hD hL hI' hD' hL' hA hA' hR hR' hN hN'

theorem hist_lt {K : GC} {t : Int} {nI nD nL : Nat} {s : GS} (h : GOk K t nI nD nL s) : 0 ≤ s.hist ∧ s.hist < 4294967296 := by
  have h1 : s.hist < 2 ^ K.h := by have := h.p.2.2.2.1; simpa using this
  have h12 : K.h ≤ 12 := by
    have := h.p.1
    simp [predShapeB] at this
    omega
  have h2 : (2 : Int) ^ K.h ≤ 2 ^ 12 := by exact_mod_cast Nat.pow_le_pow_right (show 0 < 2 by omega) h12
  exact ⟨h.hist, by omega⟩
theorem feed_len {K : GC} {t : Int} {nI nD nL : Nat} : ∀ (es : List (List Int)) {s s' : GS}, GOk K t nI nD nL s → s.feed K es = some s' → s'.N.length ≤ s.N.length + es.length
  | [], s, s', h, he => by
    unfold GS.feed at he
    cases he
    exact Nat.le_refl _
  | e :: es, s, s', h, he => by
    unfold GS.feed at he
    rw [List.foldlM_cons] at he
    cases h1 : s.ev K e with
    | none => rw [h1] at he; cases he
    | some s1 =>
      rw [h1] at he
      have h2 := feed_len es (h.ev h1) he
      have h3 := GS.ev_len h.n.sorted h1
      simp only [List.length_cons]
      omega
theorem GOk.lens {K : GC} {t : Int} {nI nD nL : Nat} {s : GS} (h : GOk K t nI nD nL s) : s.I.length = nI ∧ s.D.length = nD ∧ s.L.length = nL :=
  ⟨by have := h.i.2.1; omega, by have := h.d.2.1; omega, by have := h.l.2.1; omega⟩
end Go.Proofs.Ytdkacdfhapgboaa

/- sim.Feed in full: the lines in the caches stay in their range. No program in sight. -/
set_option linter.unusedVariables false
set_option linter.unusedSimpArgs false
namespace Go.Proofs.Ytdkacdfhapgboaa

theorem allU_acc {line w : Int} {n : Nat} {L : List (List Int)} (at_ k : Int) (h1 : 1 ≤ line) (h2 : line ≤ 4294967296) (h : AllU L) : AllU (runL n w L (linI line at_ k)).1 :=
  allU_run _ h fun y hy => by
    have h3 := linI_lt line at_ k h1 h2 y hy
    have h4 : (4294967296 : Int) / line ≤ 4294967296 := Int.ediv_le_self _ (by omega)
    exact ⟨h3.1, by omega⟩
theorem allU_far {line ll lw : Int} {n : Nat} (h1 : 1 ≤ ll) (h2 : ll ≤ 4294967296) : ∀ (xs : List Int) (L : List (List Int)), AllU L → AllU (farL line ll n lw L xs).1
  | [], L, h => h
  | x :: xs, L, h => allU_far h1 h2 xs _ (allU_acc _ _ h1 h2 h)
/-- All lines are in their range. -/
structure GU (s : GS) : Prop where
  i : AllU s.I
  d : AllU s.D
  l : AllU s.L
theorem GU.acts {K : GC} {s : GS} (h : GU s) (hi : 1 ≤ K.il ∧ K.il ≤ 4294967296) (hd : 1 ≤ K.dl ∧ K.dl ≤ 4294967296) (hl : 1 ≤ K.ll ∧ K.ll ≤ 4294967296) (e c : List Int) (N : List (List Int)) : GU { (s.acts K e c).1 with N := N } := by
  unfold GS.acts
  split
  · exact ⟨allU_acc _ _ hi.1 hi.2 h.i, h.d, allU_far hl.1 hl.2 _ _ h.l⟩
  · split
    · exact ⟨h.i, allU_acc _ _ hd.1 hd.2 h.d, allU_far hl.1 hl.2 _ _ h.l⟩
    · split
      · exact ⟨h.i, allU_acc _ _ hd.1 hd.2 h.d, allU_far hl.1 hl.2 _ _ h.l⟩
      · split
        · exact ⟨h.i, allU_acc _ _ hd.1 hd.2 h.d, allU_far hl.1 hl.2 _ _ h.l⟩
        · split
          · exact ⟨h.i, h.d, h.l⟩
          · exact ⟨h.i, h.d, h.l⟩
theorem GU.ev {K : GC} {s s' : GS} (h : GU s) (hi : 1 ≤ K.il ∧ K.il ≤ 4294967296) (hd : 1 ≤ K.dl ∧ K.dl ≤ 4294967296) (hl : 1 ≤ K.ll ∧ K.ll ≤ 4294967296) {e : List Int} (he : s.ev K e = some s') : GU s' := by
  have hc : GU (s.called K e) := by
    unfold GS.called
    split
    · exact ⟨h.i, h.d, h.l⟩
    · exact h
  unfold GS.ev at he
  split at he
  · dsimp only at he
    split at he
    · cases he
    · cases he
      exact hc.acts hi hd hl _ _ _
  · cases he
    exact hc
theorem GU.feed {K : GC} (hi : 1 ≤ K.il ∧ K.il ≤ 4294967296) (hd : 1 ≤ K.dl ∧ K.dl ≤ 4294967296) (hl : 1 ≤ K.ll ∧ K.ll ≤ 4294967296) : ∀ (es : List (List Int)) {s s' : GS}, GU s → s.feed K es = some s' → GU s'
  | [], s, s', h, he => by
    unfold GS.feed at he
    cases he
    exact h
  | e :: es, s, s', h, he => by
    unfold GS.feed at he
    rw [List.foldlM_cons] at he
    cases h1 : s.ev K e with
    | none => rw [h1] at he; cases he
    | some s1 =>
      rw [h1] at he
      exact GU.feed hi hd hl es (h.ev hi hd hl h1) he
end Go.Proofs.Ytdkacdfhapgboaa
