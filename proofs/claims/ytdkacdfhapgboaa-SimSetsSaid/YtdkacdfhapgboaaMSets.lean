/- 'filled', the statements' own function: a cache behind accesses of one byte. -/
import Derived.Test.YtdkacdfhapgboaaM11
import Derived.IntWalk
import Derived.BigQuiet
import Derived.Deep.QuietTactic
import Derived.Deep.RegionHeld3
set_option linter.unusedVariables false
set_option linter.unusedSimpArgs false
namespace Go.Proofs.Ytdkacdfhapgboaa
open Go.RowKit

section
variable {P : Program} {ops : Array Oper} {Q : Exit → Act → World → Prop} {md : Region.Mode} {S : World → Prop} {t : Nat}
/-- Number i, number j or number t may come up now. -/
theorem wpAnyT_three (i j : Nat) (oi oj ot : Oper) {fuel : Nat} {listed : Array Bool} {a : Act} {w : World} (hr : Region.ready md ops listed = [i, j, t]) (hti : decide (i ≠ t) = true) (htj : decide (j ≠ t) = true) (hoi : ops[i]? = some oi) (hoj : ops[j]? = some oj) (hot : ops[t]? = some ot)
    (h1 : ∀ K' : Act → World → Prop, Shut (∀ a w, S w → wpAnyT P md ops Q S t fuel (listed.setIfInBounds i true) a w → K' a w) → if Region.wanted oi (yielded ops a.tmps) = true then Oper.wp P oi a w K' Q else K' (a.put oi.dst undef) w)
    (h2 : ∀ K' : Act → World → Prop, Shut (∀ a w, S w → wpAnyT P md ops Q S t fuel (listed.setIfInBounds j true) a w → K' a w) → if Region.wanted oj (yielded ops a.tmps) = true then Oper.wp P oj a w K' Q else K' (a.put oj.dst undef) w)
    (h3 : ∀ K' : Act → World → Prop, Shut (∀ a w, wpAny P md ops Q fuel (listed.setIfInBounds t true) a w → K' a w) → if Region.wanted ot (yielded ops a.tmps) = true then Oper.wp P ot a w K' Q else K' (a.put ot.dst undef) w) : wpAnyT P md ops Q S t (fuel + 1) listed a w :=
  ⟨fun h0 => (by rw [hr] at h0; cases h0), fun q hq => by
    rw [hr] at hq
    have hn1 : i ≠ t := of_decide_eq_true hti
    have hn2 : j ≠ t := of_decide_eq_true htj
    have hcs : q = i ∨ q = j ∨ q = t := by simpa using hq
    rcases hcs with rfl | rfl | rfl
    · refine wpOp_step hoi fun K' hK => h1 K' fun a w g1 g2 => hK a w ?_
      rw [if_neg hn1]
      exact ⟨g1, g2⟩
    · refine wpOp_step hoj fun K' hK => h2 K' fun a w g1 g2 => hK a w ?_
      rw [if_neg hn2]
      exact ⟨g1, g2⟩
    · refine wpOp_step hot fun K' hK => h3 K' fun a w g1 => hK a w ?_
      rw [if_pos rfl]
      exact g1⟩
/-- Number i alone may come up now. -/
theorem wpAny_one (i : Nat) (o : Oper) {fuel : Nat} {listed : Array Bool} {a : Act} {w : World} (hr : Region.ready md ops listed = [i]) (ho : ops[i]? = some o)
    (h : ∀ K' : Act → World → Prop, Shut (∀ a w, wpAny P md ops Q fuel (listed.setIfInBounds i true) a w → K' a w) → if Region.wanted o (yielded ops a.tmps) = true then Oper.wp P o a w K' Q else K' (a.put o.dst undef) w) : wpAny P md ops Q (fuel + 1) listed a w :=
  wpAny_all hr (by simp) fun j hj => by
    obtain rfl : j = i := by simpa using hj
    exact wpOp_step ho fun K' hK => h K' fun a w h1 => hK a w h1
end
theorem noPanic_f {Q : Exit → Act → World → Prop} {a : Act} {w : World} (h : Q .normal a w) : NoPanic Q .normal a w := h
theorem usetRow_f (W : World) (g : Nat) (cs : Array Value) : Upd (fun k => k = g) W (W.setRow g cs) :=
  ⟨rfl, rfl, rfl, by simp, fun k _ hk => setRow_other W g k cs (by omega)⟩
/-- What the loop of filled carries. -/
structure FillRel (w : World) (bx : Nat) (line ways : Int) (n : Nat) (L : List (List Int)) (wr : World) : Prop where
  ex : ∃ g c vs, wr.heap[bx]? = some (.cells #[.int .i64 line, .int .i64 (n : Int), .int .i64 ways, .slice (some ⟨g, 0, none⟩) n c] 36 (0, 0)) ∧ OwnSets wr (w.heap.size + 2) g c vs L ∧ ∀ k, foot g vs n k → k ≠ bx
  b0 : wr.heap[w.heap.size]? = some (.cells #[.int .i64 line, .int .i64 (n : Int), .int .i64 ways] 25 (0, 0))
  b1 : wr.heap[w.heap.size + 1]? = some (.cells #[.int .i64 0, .int .i64 0, .int .i64 0, .slice none 0 0] 36 (0, 0))
  below : Below w.heap.size w wr
  base : w.heap.size + 2 ≤ bx ∧ bx < wr.heap.size
  len : L.length = n
  ok : cacheOk line n ways L
  u : AllU L
theorem fill_next {w wr W4 V5 : World} {bx n g c : Nat} {line ways : Int} {vs : List Value} {L L' : List (List Int)} (H : FillRel w bx line ways n L wr) (h4 : Below wr.heap.size wr W4) (ho : OwnSets W4 wr.heap.size g c vs L') (hu5 : Upd (fun k => k = bx) W4 V5)
    (hx5 : V5.heap[bx]? = some (.cells #[.int .i64 line, .int .i64 (n : Int), .int .i64 ways, .slice (some ⟨g, 0, none⟩) n c] 36 (0, 0))) (hl : L'.length = n) (hok : cacheOk line n ways L') (hu : AllU L') : FillRel w bx line ways n L' V5 := by
  have hb := H.base
  have hft := ho.foot_lt
  rw [hl] at hft
  have h0l := (Array.getElem?_eq_some_iff.1 H.b0).1
  have h1l := (Array.getElem?_eq_some_iff.1 H.b1).1
  have hsz := h4.size
  have hup : ∀ b o, b < wr.heap.size → b ≠ bx → wr.heap[b]? = some o → V5.heap[b]? = some o := fun b o hb hne h => (hu5.block b (by omega) hne).trans ((h4.block b hb).trans h)
  refine ⟨⟨g, c, vs, hx5, (ho.upd hu5 fun k hk (e : k = bx) => ?_).base fun k hk => ?_, fun k hk e => ?_⟩, hup _ _ h0l (by omega) H.b0, hup _ _ h1l (by omega) H.b1, ?_, ⟨hb.1, by have := hu5.size; omega⟩, hl, hok, hu⟩
  · have := (ho.foot_lt k hk).1; omega
  · have := (ho.foot_lt k hk).1; omega
  · have := (hft k hk).1; omega
  · exact (H.below.trans (h4.mono H.below.size)).trans (hu5.below (by have := H.below.size; omega) fun k (h : k = bx) => by omega)

attribute [local irreducible] World.setCell in
set_option maxRecDepth 100000 in
set_option maxHeartbeats 4000000 in
theorem filled_any (line ways : Int) (n : Nat) (A : Option Addr) (ca : Nat) (l : List Int) (w : World) (hs : shapeB line n ways = true) (hl : RdI w .u32 A l.length l) (hl2 : l.length ≤ 1000) (hu : ∀ x ∈ l, 0 ≤ x ∧ x < 4294967296) :
    Calls Try.prog 16 #[.agg #[.int .i64 line, .int .i64 (n : Int), .int .i64 ways], .slice A l.length ca] w fun e w' => ∃ g c' vs, e = .returned (.tuple #[.agg #[.int .i64 line, .int .i64 (n : Int), .int .i64 ways, .slice (some ⟨g, 0, none⟩) n c'], .bool true]) ∧
      OwnSets w' w.heap.size g c' vs (replayL line n ways (List.replicate n []) l).1 ∧ Below w.heap.size w w' := by
  have HS := Lib.hid hs
  have HL := Lib.hid hl
  have HU := Lib.hid hu
  clear hs hl hu
  go_enter Try.func16, Try.ntmps16
  go_wp2_with fail
  refine (newCache_ok line ways n HS.out _).mono ?_
  rintro e W1 ⟨hb1, g1, rfl, ho1⟩
  obtain ⟨lb1, lb2, sb1, sb2, wb1, wb2⟩ := shapeB_line HS.out
  obtain ⟨W0, hW0⟩ : ∃ W0, (w.alloc (.cells #[.int .i64 line, .int .i64 (n : Int), .int .i64 ways] 25)).alloc (.cells #[.int .i64 0, .int .i64 0, .int .i64 0, .slice none 0 0] 36) = W0 := ⟨_, rfl⟩
  have hs0 : W0.heap.size = w.heap.size + 2 := by rw [← hW0]; simp
  have hbw0 : Below w.heap.size w W0 := by rw [← hW0]; exact ((Below.refl _ _).alloc (Nat.le_refl _) _).alloc (by simp) _
  have hx0 : W0.heap[w.heap.size]? = some (.cells #[.int .i64 line, .int .i64 (n : Int), .int .i64 ways] 25 (0, 0)) := by rw [← hW0]; exact (heap_alloc_old _ _ (by simp)).trans (heap_alloc_new w _)
  have hx1 : W0.heap[w.heap.size + 1]? = some (.cells #[.int .i64 0, .int .i64 0, .int .i64 0, .slice none 0 0] 36 (0, 0)) := by rw [← hW0]; exact alloc_at _ _ _ (by simp)
  rw [hW0] at hb1 ho1
  obtain ⟨V1, hV1⟩ : ∃ V, W1.alloc (.cells #[.int .i64 line, .int .i64 (n : Int), .int .i64 ways, .slice (some ⟨g1, 0, none⟩) n n] 36) = V := ⟨_, rfl⟩
  have hbv : Below W1.heap.size W1 V1 := by rw [← hV1]; exact balloc _ _
  have hxv : V1.heap[W1.heap.size]? = some (.cells #[.int .i64 line, .int .i64 (n : Int), .int .i64 ways, .slice (some ⟨g1, 0, none⟩) n n] 36 (0, 0)) := by rw [← hV1]; exact heap_alloc_new _ _
  have hsv : V1.heap.size = W1.heap.size + 1 := by rw [← hV1]; simp
  have hbase : w.heap.size + 2 ≤ W1.heap.size := by have := hb1.size; omega
  have hrel0 : FillRel w W1.heap.size line ways n (replayL line n ways (List.replicate n []) (l.take 0)).1 V1 := by
    refine ⟨⟨g1, n, _, hxv, ((ho1.upd (Upd.of_below hbv) fun k hk (e : W1.heap.size ≤ k) => by have := (ho1.foot_lt k hk).2; omega).base fun k hk => by have := (ho1.foot_lt k hk).1; omega), fun k hk e => ?_⟩, belowBox hbv (belowBox hb1 hx0), belowBox hbv (belowBox hb1 hx1), hbw0.trans ((hb1.mono (by omega)).trans (hbv.mono (by omega))), ⟨hbase, by omega⟩, by simp [replayL], cacheOk_new HS.out, allU_new n⟩
    have h3 := (ho1.foot_lt k (by simpa [replayL] using hk)).2
    omega
  have HREL := Lib.hid hrel0
  have HV1 := Lib.hid hV1
  clear hW0 hs0 hbw0 hx0 hx1 hbv hxv hsv hbase hrel0 hV1 ho1 hb1
  go_wp2_with fail
  rw [HV1.out]
  go_loopw [7, 8] (fun e i wr => ∃ k : Nat, k ≤ l.length ∧ i = .int .i64 k ∧ e = .int .i64 0 ∧ Hid (FillRel w W1.heap.size line ways n (replayL line n ways (List.replicate n []) (l.take k)).1 wr)) (fun e i _ => l.length - (intOf i).toNat)
  case atStart => exact ⟨0, Nat.zero_le _, rfl, rfl, HREL⟩
  case round =>
    obtain ⟨k, hk, rfl, rfl, hI⟩ := hrel
    obtain ⟨g, c, vs, hbx, hown, hft⟩ := hI.out.ex
    obtain ⟨L, hL⟩ : ∃ L, (replayL line n ways (List.replicate n []) (l.take k)).1 = L := ⟨_, rfl⟩
    rw [hL] at hI hown
    by_cases hlt : k < l.length
    · obtain ⟨ad, e0, x0⟩ := (show RdI wr .u32 A l.length l from Rd.below HL.out hI.out.below).at k hlt
      subst e0
      obtain ⟨x, hx⟩ : ∃ x, gi l k = x := ⟨_, rfl⟩
      have hxu := HU.out _ (gi_mem l k hlt)
      rw [hx] at x0 hxu
      have hnext : (replayL line n ways (List.replicate n []) (l.take (k + 1))).1 = (runL n ways L (linI line x 1)).1 := by
        rw [List.take_succ_eq_append_getElem hlt, replayL_snoc, hL, ← hx, ← gi_get l k hlt]
      have hlin := linI_lt line x 1 (by omega) (by omega)
      have hlu : (4294967296 : Int) / line ≤ 4294967296 := Int.ediv_le_self _ (by omega)
      have hN2 : (runL n ways L (linI line x 1)).1.length = n ∧ cacheOk line n ways (runL n ways L (linI line x 1)).1 ∧ AllU (runL n ways L (linI line x 1)).1 :=
        ⟨by rw [runL_length, hI.out.len], cacheOk_run _ hI.out.ok fun y hy => (hlin y hy).2, allU_run _ hI.out.u fun y hy => ⟨(hlin y hy).1, by have := (hlin y hy).2; omega⟩⟩
      have hacc := Access_ok line ways (some ⟨g, 0, none⟩) c vs L x 1 wr.drew ((hown.rdSets hI.out.u).below (bdrewN (Below.refl _ wr) 1)) (by rw [hI.out.len]; exact hI.out.ok) (fun h => by cases h) hxu ⟨by omega, by omega⟩ (by omega) (by omega)
      rw [vals_linesL, hI.out.len] at hacc
      have HACC := Lib.hid hacc
      have HN2 := Lib.hid hN2
      have HNX := Lib.hid hnext
      have HX := Lib.hid hbx
      have HI := hI
      have hSd : wr.drew.heap[W1.heap.size]? = some (.cells #[.int .i64 line, .int .i64 (n : Int), .int .i64 ways, .slice (some ⟨g, 0, none⟩) n c] 36 (0, 0)) ∧ wr.drew.cell? (ad.add k) = some (.int .u32 x) := ⟨hbx, x0⟩
      clear hnext hlin hlu hN2 hacc hbx hown hft hL hx
      go_wp2_with fail
      refine wp_region_noPanic ?_
      refine wp_region_till 10 (fun W' => W'.heap[W1.heap.size]? = some (.cells #[.int .i64 line, .int .i64 (n : Int), .int .i64 ways, .slice (some ⟨g, 0, none⟩) n c] 36 (0, 0)) ∧ W'.cell? (ad.add k) = some (.int .u32 x)) (by kernel_rfl) hSd (fun hS => ?_)
      refine wpAnyT_take 0 _ (.agg #[.int .i64 line, .int .i64 (n : Int), .int .i64 ways, .slice (some ⟨g, 0, none⟩) n c]) (by rfl) (by kernel_rfl) (by kernel_rfl) (by kernel_rfl) (by kernel_rfl) (by kernel_rfl) (fun _ _ _ h => h) (yieldsIf_load_mid (by rfl) 36 (Operand.tmp 6) rfl W1.heap.size 0 rfl [.int .i64 line, .int .i64 (n : Int), .int .i64 ways, .slice (some ⟨g, 0, none⟩) n c] _ (fun W' h' => range_sub h'.1 0 _ rfl) Try.underlying36 rfl (by kernel_rfl)) hS ?_
      try simp only [Act.put, List.setIfInBounds_toArray, List.set_cons_zero, List.set_cons_succ]
      refine wpAnyT_take 1 _ (.slice (some ad) l.length ca) (by rfl) (by kernel_rfl) (by kernel_rfl) (by kernel_rfl) (by kernel_rfl) (by kernel_rfl) (fun _ _ _ h => h) (Or.inl ⟨by rfl, fun W' hW' => by kernel_rfl⟩) hS ?_
      try simp only [Act.put, List.setIfInBounds_toArray, List.set_cons_zero, List.set_cons_succ]
      refine wpAnyT_take 2 _ (.int .i64 k) (by rfl) (by kernel_rfl) (by kernel_rfl) (by kernel_rfl) (by kernel_rfl) (by kernel_rfl) (fun _ _ _ h => h) (Or.inl ⟨by rfl, fun W' hW' => by kernel_rfl⟩) hS ?_
      try simp only [Act.put, List.setIfInBounds_toArray, List.set_cons_zero, List.set_cons_succ]
      refine wpAnyT_take 3 _ (.pointer (some (ad.add k))) (by rfl) (by kernel_rfl) (by kernel_rfl) (by kernel_rfl) (by kernel_rfl) (by kernel_rfl) (fun _ _ _ h => h) (Or.inl ⟨by rfl, fun W' hW' => by go_simp⟩) hS ?_
      try simp only [Act.put, List.setIfInBounds_toArray, List.set_cons_zero, List.set_cons_succ]
      refine wpAnyT_take 4 _ (.int .u32 x) (by rfl) (by kernel_rfl) (by kernel_rfl) (by kernel_rfl) (by kernel_rfl) (by kernel_rfl) (fun _ _ _ h => h) (Or.inl ⟨by rfl, fun W' hW' => by go_simp⟩) hS ?_
      try simp only [Act.put, List.setIfInBounds_toArray, List.set_cons_zero, List.set_cons_succ]
      refine wpAnyT_one 5 _ (by kernel_rfl) (by kernel_rfl) (by rfl) (fun K' hK' => ?_)
      rw [if_pos (by rfl)]
      go_wp2_with fail
      refine (HACC.out).mono ?_
      rintro e W4 ⟨g2, c2, vs2, vo, rfl, ho4, hw4, hb4⟩
      have hb34 : Below wr.heap.size wr W4 := (bdrewN (Below.refl _ wr) 1).trans hb4
      have hbx4 := belowBox hb34 HX.out
      have hS4 : W4.heap[W1.heap.size]? = some (.cells #[.int .i64 line, .int .i64 (n : Int), .int .i64 ways, .slice (some ⟨g, 0, none⟩) n c] 36 (0, 0)) ∧ W4.cell? (ad.add k) = some (.int .u32 x) := ⟨hbx4, bkeep hb34 x0⟩
      refine hK'.out _ _ hS4 ?_
      clear hK' K' hS
      try simp only [Act.put, List.setIfInBounds_toArray, List.set_cons_zero, List.set_cons_succ]
      refine wpAnyT_take 6 _ (.tuple #[.agg #[.int .i64 line, .int .i64 (n : Int), .int .i64 ways, .slice (some ⟨g2, 0, none⟩) n c2], vo, .int .i64 0]) (by rfl) (by kernel_rfl) (by kernel_rfl) (by kernel_rfl) (by kernel_rfl) (by kernel_rfl) (fun _ _ _ h => h) (Or.inl ⟨by rfl, fun W' hW' => by kernel_rfl⟩) hS4 ?_
      try simp only [Act.put, List.setIfInBounds_toArray, List.set_cons_zero, List.set_cons_succ]
      refine wpAnyT_take 7 _ (.agg #[.int .i64 line, .int .i64 (n : Int), .int .i64 ways, .slice (some ⟨g2, 0, none⟩) n c2]) (by rfl) (by kernel_rfl) (by kernel_rfl) (by kernel_rfl) (by kernel_rfl) (by kernel_rfl) (fun _ _ _ h => h) (Or.inl ⟨by rfl, fun W' hW' => by kernel_rfl⟩) hS4 ?_
      try simp only [Act.put, List.setIfInBounds_toArray, List.set_cons_zero, List.set_cons_succ]
      have hu5 : Upd (fun k => k = W1.heap.size) W4 (W4.setRow W1.heap.size #[.int .i64 line, .int .i64 (n : Int), .int .i64 ways, .slice (some ⟨g2, 0, none⟩) n c2]) := usetRow_f _ _ _
      have hx5 : (W4.setRow W1.heap.size #[.int .i64 line, .int .i64 (n : Int), .int .i64 ways, .slice (some ⟨g2, 0, none⟩) n c2]).heap[W1.heap.size]? = some (.cells #[.int .i64 line, .int .i64 (n : Int), .int .i64 ways, .slice (some ⟨g2, 0, none⟩) n c2] 36 (0, 0)) := setRow_heap hbx4 _
      obtain ⟨V5, hV5⟩ : ∃ V, W4.setRow W1.heap.size #[.int .i64 line, .int .i64 (n : Int), .int .i64 ways, .slice (some ⟨g2, 0, none⟩) n c2] = V := ⟨_, rfl⟩
      rw [hV5] at hu5 hx5
      have HFIN := Lib.hid (fill_next HI.out hb34 ho4 hu5 hx5 HN2.out.1 HN2.out.2.1 HN2.out.2.2)
      have HHX := Lib.hid hbx4
      have HHS := Lib.hid hS4
      have HV5 := Lib.hid hV5
      clear ho4 hw4 hb4 hb34 hu5 hx5 hV5 hbx4 x0 hS4
      refine wpAnyT_three 8 9 _ _ _ (by kernel_rfl) (by kernel_rfl) (by kernel_rfl) (by rfl) (by rfl) (by rfl) (fun K' hK' => ?_) (fun K' hK' => ?_) (fun K' hK' => ?_)
      · rw [if_pos (by rfl)]
        refine wp_of_run (v := vo) (w' := W4) (by kernel_rfl) ?_
        refine hK'.out _ _ HHS.out ?_
        clear hK' K'
        try simp only [Act.put, List.setIfInBounds_toArray, List.set_cons_zero, List.set_cons_succ]
        refine wpAnyT_two 9 _ _ (by kernel_rfl) (by kernel_rfl) (by rfl) (by rfl) (fun K' hK' => ?_) (fun K' hK' => ?_)
        · rw [if_pos (by rfl)]
          refine wp_of_run (v := .int .i64 0) (w' := W4) (by kernel_rfl) ?_
          refine hK'.out _ _ HHS.out ?_
          clear hK' K'
          try simp only [Act.put, List.setIfInBounds_toArray, List.set_cons_zero, List.set_cons_succ]
          refine wpAnyT_till _ (by kernel_rfl) (by rfl) (fun K' hK' => ?_)
          rw [if_pos (by rfl)]
          refine wp_store_row 36 (.tmp 6) (.tmp 31) rfl W1.heap.size #[.int .i64 line, .int .i64 (n : Int), .int .i64 ways, .slice (some ⟨g2, 0, none⟩) n c2] rfl rfl 36 _ HHX.out (by kernel_rfl) rfl (by simp [Value.oneCell']) ?_
          refine hK'.out _ _ ?_
          clear hK' K'
          try simp only [Act.put, List.setIfInBounds_toArray, List.set_cons_zero, List.set_cons_succ]
          refine wpAny_take (i := 11) (oi := _) (v := (.int .i64 0)) (by rfl) (by kernel_rfl) (by kernel_rfl) (by kernel_rfl) (fun _ _ _ h => h) (Or.inl ⟨by rfl, fun W' => by kernel_rfl⟩) ?_
          try simp only [Act.put, List.setIfInBounds_toArray, List.set_cons_zero, List.set_cons_succ]
          refine wpAny_done (by kernel_rfl) (noPanic_f ?_) _
          rw [HV5.out]
          go_wp2_with fail
          go_roundw
          case rel => exact ⟨k + 1, by omega, by go_num, rfl, by rw [HNX.out]; exact Lib.hid HFIN.out⟩
          case measure => simp [intOf]; omega
        · rw [if_pos (by rfl)]
          refine wp_store_row 36 (.tmp 6) (.tmp 31) rfl W1.heap.size #[.int .i64 line, .int .i64 (n : Int), .int .i64 ways, .slice (some ⟨g2, 0, none⟩) n c2] rfl rfl 36 _ HHX.out (by kernel_rfl) rfl (by simp [Value.oneCell']) ?_
          refine hK'.out _ _ ?_
          clear hK' K'
          try simp only [Act.put, List.setIfInBounds_toArray, List.set_cons_zero, List.set_cons_succ]
          refine wpAny_take (i := 9) (oi := _) (v := (.int .i64 0)) (by rfl) (by kernel_rfl) (by kernel_rfl) (by kernel_rfl) (fun _ _ _ h => h) (Or.inl ⟨by rfl, fun W' => by kernel_rfl⟩) ?_
          try simp only [Act.put, List.setIfInBounds_toArray, List.set_cons_zero, List.set_cons_succ]
          refine wpAny_take (i := 11) (oi := _) (v := (.int .i64 0)) (by rfl) (by kernel_rfl) (by kernel_rfl) (by kernel_rfl) (fun _ _ _ h => h) (Or.inl ⟨by rfl, fun W' => by kernel_rfl⟩) ?_
          try simp only [Act.put, List.setIfInBounds_toArray, List.set_cons_zero, List.set_cons_succ]
          refine wpAny_done (by kernel_rfl) (noPanic_f ?_) _
          rw [HV5.out]
          go_wp2_with fail
          go_roundw
          case rel => exact ⟨k + 1, by omega, by go_num, rfl, by rw [HNX.out]; exact Lib.hid HFIN.out⟩
          case measure => simp [intOf]; omega
      · rw [if_pos (by rfl)]
        refine wp_of_run (v := .int .i64 0) (w' := W4) (by kernel_rfl) ?_
        refine hK'.out _ _ HHS.out ?_
        clear hK' K'
        try simp only [Act.put, List.setIfInBounds_toArray, List.set_cons_zero, List.set_cons_succ]
        refine wpAnyT_two 8 _ _ (by kernel_rfl) (by kernel_rfl) (by rfl) (by rfl) (fun K' hK' => ?_) (fun K' hK' => ?_)
        · rw [if_pos (by rfl)]
          refine wp_of_run (v := vo) (w' := W4) (by kernel_rfl) ?_
          refine hK'.out _ _ HHS.out ?_
          clear hK' K'
          try simp only [Act.put, List.setIfInBounds_toArray, List.set_cons_zero, List.set_cons_succ]
          refine wpAnyT_till _ (by kernel_rfl) (by rfl) (fun K' hK' => ?_)
          rw [if_pos (by rfl)]
          refine wp_store_row 36 (.tmp 6) (.tmp 31) rfl W1.heap.size #[.int .i64 line, .int .i64 (n : Int), .int .i64 ways, .slice (some ⟨g2, 0, none⟩) n c2] rfl rfl 36 _ HHX.out (by kernel_rfl) rfl (by simp [Value.oneCell']) ?_
          refine hK'.out _ _ ?_
          clear hK' K'
          try simp only [Act.put, List.setIfInBounds_toArray, List.set_cons_zero, List.set_cons_succ]
          refine wpAny_take (i := 11) (oi := _) (v := (.int .i64 0)) (by rfl) (by kernel_rfl) (by kernel_rfl) (by kernel_rfl) (fun _ _ _ h => h) (Or.inl ⟨by rfl, fun W' => by kernel_rfl⟩) ?_
          try simp only [Act.put, List.setIfInBounds_toArray, List.set_cons_zero, List.set_cons_succ]
          refine wpAny_done (by kernel_rfl) (noPanic_f ?_) _
          rw [HV5.out]
          go_wp2_with fail
          go_roundw
          case rel => exact ⟨k + 1, by omega, by go_num, rfl, by rw [HNX.out]; exact Lib.hid HFIN.out⟩
          case measure => simp [intOf]; omega
        · rw [if_pos (by rfl)]
          refine wp_store_row 36 (.tmp 6) (.tmp 31) rfl W1.heap.size #[.int .i64 line, .int .i64 (n : Int), .int .i64 ways, .slice (some ⟨g2, 0, none⟩) n c2] rfl rfl 36 _ HHX.out (by kernel_rfl) rfl (by simp [Value.oneCell']) ?_
          refine hK'.out _ _ ?_
          clear hK' K'
          try simp only [Act.put, List.setIfInBounds_toArray, List.set_cons_zero, List.set_cons_succ]
          refine wpAny_take (i := 8) (oi := _) (v := (vo)) (by rfl) (by kernel_rfl) (by kernel_rfl) (by kernel_rfl) (fun _ _ _ h => h) (Or.inl ⟨by rfl, fun W' => by kernel_rfl⟩) ?_
          try simp only [Act.put, List.setIfInBounds_toArray, List.set_cons_zero, List.set_cons_succ]
          refine wpAny_take (i := 11) (oi := _) (v := (.int .i64 0)) (by rfl) (by kernel_rfl) (by kernel_rfl) (by kernel_rfl) (fun _ _ _ h => h) (Or.inl ⟨by rfl, fun W' => by kernel_rfl⟩) ?_
          try simp only [Act.put, List.setIfInBounds_toArray, List.set_cons_zero, List.set_cons_succ]
          refine wpAny_done (by kernel_rfl) (noPanic_f ?_) _
          rw [HV5.out]
          go_wp2_with fail
          go_roundw
          case rel => exact ⟨k + 1, by omega, by go_num, rfl, by rw [HNX.out]; exact Lib.hid HFIN.out⟩
          case measure => simp [intOf]; omega
      · rw [if_pos (by rfl)]
        refine wp_store_row 36 (.tmp 6) (.tmp 31) rfl W1.heap.size #[.int .i64 line, .int .i64 (n : Int), .int .i64 ways, .slice (some ⟨g2, 0, none⟩) n c2] rfl rfl 36 _ HHX.out (by kernel_rfl) rfl (by simp [Value.oneCell']) ?_
        refine hK'.out _ _ ?_
        clear hK' K'
        try simp only [Act.put, List.setIfInBounds_toArray, List.set_cons_zero, List.set_cons_succ]
        refine wpAny_take (i := 8) (oi := _) (v := vo) (by rfl) (by kernel_rfl) (by kernel_rfl) (by kernel_rfl) (fun _ _ _ h => h) (Or.inl ⟨by rfl, fun W' => by kernel_rfl⟩) ?_
        try simp only [Act.put, List.setIfInBounds_toArray, List.set_cons_zero, List.set_cons_succ]
        refine wpAny_take (i := 9) (oi := _) (v := (.int .i64 0)) (by rfl) (by kernel_rfl) (by kernel_rfl) (by kernel_rfl) (fun _ _ _ h => h) (Or.inl ⟨by rfl, fun W' => by kernel_rfl⟩) ?_
        try simp only [Act.put, List.setIfInBounds_toArray, List.set_cons_zero, List.set_cons_succ]
        refine wpAny_take (i := 11) (oi := _) (v := (.int .i64 0)) (by rfl) (by kernel_rfl) (by kernel_rfl) (by kernel_rfl) (fun _ _ _ h => h) (Or.inl ⟨by rfl, fun W' => by kernel_rfl⟩) ?_
        try simp only [Act.put, List.setIfInBounds_toArray, List.set_cons_zero, List.set_cons_succ]
        refine wpAny_done (by kernel_rfl) (noPanic_f ?_) _
        rw [HV5.out]
        go_wp2_with fail
        go_roundw
        case rel => exact ⟨k + 1, by omega, by go_num, rfl, by rw [HNX.out]; exact Lib.hid HFIN.out⟩
        case measure => simp [intOf]; omega
    · have hkl : k = l.length := by omega
      subst hkl
      rw [List.take_length] at hL
      have hb0 := hI.out.b0
      have hb1 := hI.out.b1
      have hlen := hI.out.len
      have hkp : ∀ W' : World, Upd (fun k => k = w.heap.size + 1) wr W' → W'.cell? ⟨W1.heap.size, 0, none⟩ = some (.int .i64 line) ∧ W'.cell? ⟨W1.heap.size, 1, none⟩ = some (.int .i64 (n : Int)) ∧ W'.cell? ⟨W1.heap.size, 2, none⟩ = some (.int .i64 ways) ∧ W'.cell? ⟨W1.heap.size, 3, none⟩ = some (.slice (some ⟨g, 0, none⟩) n c) ∧ W'.cell? ⟨w.heap.size, 1, none⟩ = some (.int .i64 (n : Int)) := fun W' hu => by
        have h1 := hI.out.base
        have h6 := (hu.block _ (Array.getElem?_eq_some_iff.1 hbx).1 (by omega)).trans hbx
        have h0 := (hu.block _ (Array.getElem?_eq_some_iff.1 hb0).1 (by omega)).trans hb0
        exact ⟨boxAt h6 rfl, boxAt h6 rfl, boxAt h6 rfl, boxAt h6 rfl, boxAt h0 rfl⟩
      obtain ⟨x0, x1, x2, x3, x4⟩ := hkp wr (Upd.refl _ _)
      obtain ⟨r0, r1, r2, r3, rd⟩ := box4 hb1
      have HKP := Lib.hid hkp
      have HOWN := Lib.hid hown
      have HFT := Lib.hid hft
      have HII := Lib.hid hI.out
      have HB1 := Lib.hid hb1
      clear hkp hown hft hb0 hb1 hbx hI hlen
      go_wp2_with fail
      go_region_held3 (fun W' => W'.cell? ⟨W1.heap.size, 0, none⟩ = some (.int .i64 line) ∧ W'.cell? ⟨W1.heap.size, 1, none⟩ = some (.int .i64 (n : Int)) ∧ W'.cell? ⟨W1.heap.size, 2, none⟩ = some (.int .i64 ways) ∧ W'.cell? ⟨W1.heap.size, 3, none⟩ = some (.slice (some ⟨g, 0, none⟩) n c) ∧ W'.cell? ⟨w.heap.size, 1, none⟩ = some (.int .i64 (n : Int)))
        (first | exact ⟨x0, x1, x2, x3, x4⟩ | exact HKP.out _ (Upd.drew _ wr) | exact HKP.out _ (Upd.trans (by (repeat refine Upd.set ?_ (by rfl) _ _); exact Upd.refl _ _) (Upd.drew (fun k => k = w.heap.size + 1) _) fun _ h => .inl h)) (fail)
      all_goals
        go_wp2_with fail
        (try simp only [Exit.inBlock, Exit.then])
        refine bodyPost_ret (v := .tuple #[.agg #[.int .i64 line, .int .i64 (n : Int), .int .i64 ways, .slice (some ⟨g, 0, none⟩) n c], .bool true]) (results_cell2 rfl rfl rfl (run_loadVar_row (P := Try.prog) _ _ 36 36 _ (0, 0) _ (set4_heap HB1.out _ _ _ _) Try.underlying36 rfl (by kernel_rfl))) rfl ?_
        have hu : Upd (fun k => k = w.heap.size + 1) wr (((((wr.setCell ⟨w.heap.size + 1, 0, none⟩ (.int .i64 line)).setCell ⟨w.heap.size + 1, 1, none⟩ (.int .i64 (n : Int))).setCell ⟨w.heap.size + 1, 2, none⟩ (.int .i64 ways)).setCell ⟨w.heap.size + 1, 3, none⟩ (.slice (some ⟨g, 0, none⟩) n c)).drew) :=
          (show Upd (fun k => k = w.heap.size + 1) wr ((((wr.setCell ⟨w.heap.size + 1, 0, none⟩ (.int .i64 line)).setCell ⟨w.heap.size + 1, 1, none⟩ (.int .i64 (n : Int))).setCell ⟨w.heap.size + 1, 2, none⟩ (.int .i64 ways)).setCell ⟨w.heap.size + 1, 3, none⟩ (.slice (some ⟨g, 0, none⟩) n c)) from by
            (repeat refine Upd.set ?_ (by rfl) _ _)
            exact Upd.refl _ _).trans (Upd.drew _ _) fun _ h => .inl h
        refine ⟨g, c, vs, rfl, ?_, HII.out.below.trans (hu.below HII.out.below.size fun k (h : k = w.heap.size + 1) => by omega)⟩
        rw [hL]
        refine (HOWN.out.upd hu fun k hk (e : k = w.heap.size + 1) => ?_).base fun k hk => ?_
        · have := (HOWN.out.foot_lt k hk).1; omega
        · have := (HOWN.out.foot_lt k hk).1; omega
end Go.Proofs.Ytdkacdfhapgboaa

/- Equal lists, equal caches: the specification's own comparisons. -/
set_option linter.unusedVariables false
set_option linter.unusedSimpArgs false
namespace Go.Proofs.Ytdkacdfhapgboaa
open Go.RowKit

set_option maxHeartbeats 1000000 in
theorem sameWords_true (A A' : Option Addr) (n c c' : Nat) (xs : List Int) (w : World) (h : RdI w .u32 A n xs) (h' : RdI w .u32 A' n xs) :
    Calls Try.prog 43 #[.slice A n c, .slice A' n c'] w fun e w' => e = .returned (.bool true) ∧ Below w.heap.size w w' := by
  have hle := h.le
  have H := Lib.hid h
  have H' := Lib.hid h'
  clear h h'
  go_enter Try.func43, Try.ntmps43
  go_wp2_with fail
  go_loopw [5] (fun i wr => ∃ k : Nat, k ≤ n ∧ i = .int .i64 k ∧ Hid (Below w.heap.size w wr)) (fun i _ => n - (intOf i).toNat)
  case atStart => exact ⟨0, Nat.zero_le _, rfl, Lib.hid (Below.refl _ _)⟩
  case round =>
    obtain ⟨k, hk, rfl, hI⟩ := hrel
    by_cases hlt : k < n
    · obtain ⟨ad, rfl, hc⟩ := RdI.at (show RdI wr .u32 A n xs from Rd.below H.out hI.out) k hlt
      obtain ⟨ad', rfl, hc'⟩ := RdI.at (show RdI wr .u32 A' n xs from Rd.below H'.out hI.out) k hlt
      obtain ⟨x, hx⟩ : ∃ x, gi xs k = x := ⟨_, rfl⟩
      rw [hx] at hc hc'
      clear hx
      go_wp2_with fail
      go_quiet (fail)
      go_wp2_with fail
      go_roundw
      case rel => exact ⟨k + 1, by omega, by go_num, Lib.hid (bdrewN hI.out _)⟩
      case measure => simp [intOf]; omega
    · go_wp2_with fail
      go_ret
      exact ⟨rfl, hI.out⟩

attribute [local irreducible] World.setCell in
set_option maxRecDepth 100000 in
set_option maxHeartbeats 1000000 in
theorem sameCache_true (line ways : Int) (n g c g' c' : Nat) (vs vs' : List Value) (L : List (List Int)) (w : World) (h : RdSets w (some ⟨g, 0, none⟩) vs L) (h' : RdSets w (some ⟨g', 0, none⟩) vs' L) (hn : L.length = n) :
    Calls Try.prog 21 #[.agg #[.int .i64 line, .int .i64 (n : Int), .int .i64 ways, .slice (some ⟨g, 0, none⟩) n c], .agg #[.int .i64 line, .int .i64 (n : Int), .int .i64 ways, .slice (some ⟨g', 0, none⟩) n c']] w fun e w' => e = .returned (.bool true) ∧ Below w.heap.size w w' := by
  have H := Lib.hid h
  have H' := Lib.hid h'
  have HN := Lib.hid hn
  have hle := h.row.le
  rw [hn] at hle
  clear h h' hn
  go_enter Try.func21, Try.ntmps21
  go_wp2_with fail
  obtain ⟨V0, hV0⟩ : ∃ V, ((w.alloc (.cells #[.int .i64 line, .int .i64 (n : Int), .int .i64 ways, .slice (some ⟨g, 0, none⟩) n c] 36)).alloc (.cells #[.int .i64 line, .int .i64 (n : Int), .int .i64 ways, .slice (some ⟨g', 0, none⟩) n c'] 36)) = V := ⟨_, rfl⟩
  have hb0 : Below w.heap.size w V0 := by rw [← hV0]; exact ((Below.refl _ _).alloc (Nat.le_refl _) _).alloc (by simp) _
  have hx0 : V0.heap[w.heap.size]? = some (.cells #[.int .i64 line, .int .i64 (n : Int), .int .i64 ways, .slice (some ⟨g, 0, none⟩) n c] 36 (0, 0)) := by rw [← hV0]; exact (heap_alloc_old _ _ (by simp)).trans (heap_alloc_new w _)
  have hx1 : V0.heap[w.heap.size + 1]? = some (.cells #[.int .i64 line, .int .i64 (n : Int), .int .i64 ways, .slice (some ⟨g', 0, none⟩) n c'] 36 (0, 0)) := by rw [← hV0]; exact alloc_at _ _ _ (by simp)
  rw [hV0]
  have HX0 := Lib.hid hx0
  have HX1 := Lib.hid hx1
  have HB0 := Lib.hid hb0
  clear hV0 hx0 hx1 hb0
  go_loopw [5] (fun i wr => ∃ k : Nat, k ≤ n ∧ i = .int .i64 k ∧ Hid (Below V0.heap.size V0 wr)) (fun i _ => n - (intOf i).toNat)
  case atStart => exact ⟨0, Nat.zero_le _, rfl, Lib.hid (Below.refl _ _)⟩
  case round =>
    obtain ⟨k, hk, rfl, hI⟩ := hrel
    have s1 := boxAt (i := 3) (belowBox hI.out HX0.out) rfl
    have s2 := boxAt (i := 3) (belowBox hI.out HX1.out) rfl
    by_cases hlt : k < n
    · obtain ⟨A6, c6, e6, hn6, hc6, hr6⟩ := (H.out.each k (by rw [HN.out]; exact hlt)).rd
      obtain ⟨A7, c7, e7, hn7, hc7, hr7⟩ := (H'.out.each k (by rw [HN.out]; exact hlt)).rd
      have hvl4 : k < vs.length := by have := H.out.row.len; rw [HN.out] at this; omega
      have hvl5 : k < vs'.length := by have := H'.out.row.len; rw [HN.out] at this; omega
      have hbw : Below w.heap.size w wr := HB0.out.trans (hI.out.mono HB0.out.size)
      have s3 : wr.cell? ⟨g, k, none⟩ = some (.slice A6 (gl L k).length c6) := by
        obtain ⟨ad, e, h⟩ := H.out.row.cell k hvl4
        cases e
        rw [add_off, ← gv_get vs k hvl4, e6] at h
        exact bkeep hbw h
      have s4 : wr.cell? ⟨g', k, none⟩ = some (.slice A7 (gl L k).length c7) := by
        obtain ⟨ad, e, h⟩ := H'.out.row.cell k hvl5
        cases e
        rw [add_off, ← gv_get vs' k hvl5, e7] at h
        exact bkeep hbw h
      have heqq : ∀ q' : After wr.heap.size wr, Calls Try.prog 43 #[.slice A6 (gl L k).length c6, .slice A7 (gl L k).length c7] q'.W fun e w' => e = .returned (.bool true) ∧ Below q'.W.heap.size q'.W w' := fun q' =>
        sameWords_true A6 A7 _ c6 c7 (gl L k) q'.W (Rd.below hr6 (hbw.trans (q'.below.mono hbw.size))) (Rd.below hr7 (hbw.trans (q'.below.mono hbw.size)))
      obtain ⟨p, hp⟩ : ∃ p, (gl L k).length = p := ⟨_, rfl⟩
      rw [hp] at s3 s4 heqq
      have HEQQ := Lib.hid heqq
      clear e6 e7 hn6 hn7 hc6 hc7 hr6 hr7 hvl4 hvl5 hbw heqq hp
      go_wp2_with fail
      have f1 := After.cell s1
      have f2 := After.cell s2
      have f3 := After.cell s3
      have f4 := After.cell s4
      refine region_after (Below.refl wr.heap.size wr) (by kernel_rfl) (by kernel_rfl) ?_
      repeat (go_big_quiet_step (first
        | (go_at_call 43; exact calls_after (Nat.le_refl _) (HEQQ.out _))))
      refine wpQuiet_nil ?_
      intro _ hw'
      obtain ⟨nq, hw''⟩ := hw'
      subst hw''
      clear f1 f2 f3 f4
      go_wp2_with fail
      go_roundw
      case rel => exact ⟨k + 1, by omega, by go_num, Lib.hid (hI.out.trans (nq.below.mono hI.out.size))⟩
      case measure => simp [intOf]; omega
    · go_wp2_with fail
      go_ret
      exact ⟨rfl, HB0.out.trans (hI.out.mono HB0.out.size)⟩
end Go.Proofs.Ytdkacdfhapgboaa

/- SimSets: two neighbouring accesses of lines in different sets, exchanged. -/
set_option linter.unusedVariables false
set_option linter.unusedSimpArgs false
namespace Go.Proofs.Ytdkacdfhapgboaa
open Go.RowKit

section
variable {P : Program} {ops : Array Oper} {Q : Exit → Act → World → Prop} {md : Region.Mode} {S : World → Prop} {t : Nat}
/-- An operation that yields the same in whatever world may be taken first, though number t does not wait for it. -/
theorem wpAnyT_pure_first {i : Nat} {oi : Oper} {v : Value} (hi : ops[i]? = some oi) (hti : t ≠ i) (hsel : ∀ (j : Nat) (o : Oper) cs b, ops[j]? = some o → o.op ≠ .select cs b)
    (hQ : ∀ c a w, Q (.panic c) (a.put oi.dst v) w → Q (.panic c) a w) :
    ∀ (fuel : Nat) (listed : Array Bool) (a : Act) (w : World),
      (∀ j oj, ops[j]? = some oj → j ≠ i → listed.getD j true = false → (∀ e ∈ oj.after, Region.binds md e = true → e.on ≠ i) → oi.apart ops oj = true) →
      i ∈ Region.ready md ops listed → Yields P ops oi v a → S w →
      wpAnyT P md ops Q S t fuel (listed.setIfInBounds i true) (a.put oi.dst v) w → wpAnyT P md ops Q S t (fuel + 1) listed a w := by
  intro fuel
  induction fuel with
  | zero =>
    intro listed a w _ hr hy hS H
    refine ⟨fun h => (by rw [h] at hr; cases hr), fun j hj => ?_⟩
    by_cases hji : j = i
    · subst hji; refine hy.wpOp hi ?_
      rw [if_neg (Ne.symm hti)]
      exact ⟨hS, H⟩
    · have := ready_mono hj hji
      rw [H.1] at this
      cases this
  | succ fuel ih =>
    intro listed a w hfree hr hy hS H
    refine ⟨fun h => (by rw [h] at hr; cases hr), fun j hj => ?_⟩
    by_cases hji : j = i
    · subst hji; refine hy.wpOp hi ?_
      rw [if_neg (Ne.symm hti)]
      exact ⟨hS, H⟩
    · have h1 := H.2 j (ready_mono hj hji)
      obtain ⟨hjun, oj, hoj, hall⟩ := mem_ready.1 hj
      have hnot : ∀ e ∈ oj.after, Region.binds md e = true → e.on ≠ i := fun e he hb heq => by
        have h1 := hall e he hb
        have h0 := (mem_ready.1 hr).1
        rw [heq] at h1
        rcases Nat.lt_or_ge i listed.size with h' | h'
        · simp [h'] at h0 h1; rw [h0] at h1; cases h1
        · simp [Array.getElem?_eq_none h'] at h1
      have h2 := wpOp_put hoj (hfree j oj hoj hji hjun hnot) (fun cs b => hsel i oi cs b hi) (fun cs b => hsel j oj cs b hoj) hQ hy h1
      have hfree' : ∀ k ok, ops[k]? = some ok → k ≠ i → (listed.setIfInBounds j true).getD k true = false →
          (∀ e ∈ ok.after, Region.binds md e = true → e.on ≠ i) → oi.apart ops ok = true := fun k ok hk hki hun hno => by
        refine hfree k ok hk hki ?_ hno
        by_cases hjk : j = k
        · subst hjk; exact hjun
        · rw [getD_set_ne true hjk] at hun; exact hun
      refine wpOp_mono (fun a' w' h3 => ?_) h2
      by_cases hjt : j = t
      · rw [if_pos hjt] at h3 ⊢
        refine wpAny_first hi hsel hQ fuel (listed.setIfInBounds j true) a' w' hfree' (ready_mono hr (Ne.symm hji)) h3.1 ?_
        rw [Array.setIfInBounds_comm _ _ hji]
        exact h3.2
      · rw [if_neg hjt] at h3 ⊢
        refine ⟨h3.2.1, ih (listed.setIfInBounds j true) a' w' hfree' (ready_mono hr (Ne.symm hji)) h3.1 h3.2.1 ?_⟩
        rw [Array.setIfInBounds_comm _ _ hji]
        exact h3.2.2
theorem wpAnyT_pure (i : Nat) (oi : Oper) (v : Value) {fuel : Nat} {listed : Array Bool} {a : Act} {w : World} (hi : ops[i]? = some oi) (hti : decide (t ≠ i) = true)
    (hs : Region.noSelect ops = true) (hf : Region.free md ops listed i = true) (hr : (Region.ready md ops listed).contains i = true)
    (hQ : ∀ c a w, Q (.panic c) (a.put oi.dst v) w → Q (.panic c) a w) (hy : Yields P ops oi v a) (hS : S w)
    (h : wpAnyT P md ops Q S t fuel (listed.setIfInBounds i true) (a.put oi.dst v) w) : wpAnyT P md ops Q S t (fuel + 1) listed a w :=
  wpAnyT_pure_first hi (of_decide_eq_true hti) (Region.noSelect_spec hs) hQ fuel listed a w (Region.free_spec hi hf) (by simpa using hr) hy hS h
end
theorem split_two (l : List Int) (i : Nat) (h : i + 1 < l.length) : l = l.take i ++ gi l i :: gi l (i + 1) :: l.drop (i + 2) := by
  conv => lhs; rw [← List.take_append_drop i l]
  rw [List.drop_eq_getElem_cons (by omega : i < l.length), List.drop_eq_getElem_cons (by omega : i + 1 < l.length), gi_get l i (by omega), gi_get l (i + 1) h]
theorem set_two (l : List Int) (i : Nat) (h : i + 1 < l.length) : (l.set i (gi l (i + 1))).set (i + 1) (gi l i) = l.take i ++ gi l (i + 1) :: gi l i :: l.drop (i + 2) := by
  have hl : (l.take i).length = i := by simp; omega
  conv => lhs; rw [split_two l i h]
  rw [List.set_append_right _ _ (by omega), List.set_append_right _ _ (by omega), hl]
  have e1 : i - i = 0 := by omega
  have e2 : i + 1 - i = 1 := by omega
  simp only [e1, e2]
  have g1 : gi (l.take i ++ gi l i :: gi l (i + 1) :: l.drop (i + 2)) (i + 1) = gi l (i + 1) := by rw [← split_two l i h]
  have g2 : gi (l.take i ++ gi l i :: gi l (i + 1) :: l.drop (i + 2)) i = gi l i := by rw [← split_two l i h]
  rw [g1, g2]
  rfl

/-- A store into a row that the call owns. -/
theorem own_set {w : World} {base g c n : Nat} {e : TypeId} {cs : List Value} (h : w.ownsRow base e 1 (.slice (some ⟨g, 0, none⟩) n c) n cs) (i : Nat) (v : Value) : (w.setCell ⟨g, i, none⟩ v).ownsRow base e 1 (.slice (some ⟨g, 0, none⟩) n c) n (cs.set i v) := by
  refine ⟨by rw [List.length_set]; exact h.1, ?_⟩
  rcases h.2 with ⟨h', _⟩ | ⟨g', cap', cur, h', hb, hh, h1, h2, h3, h4⟩
  · simp at h'
  · simp only [Value.slice.injEq, Option.some.injEq, Addr.mk.injEq, and_true, true_and] at h'
    obtain ⟨rfl, rfl⟩ := h'
    refine .inr ⟨g, c, cur.setIfInBounds i v, rfl, hb, set1_heap hh i v, h1, h2, by simpa using h3, ?_⟩
    rw [Array.toList_setIfInBounds, List.take_set, h4]
theorem Upd.cell {F : Nat → Prop} {w w' : World} (h : Upd F w w') {a : Addr} (hl : a.block < w.heap.size) (hF : ¬ F a.block) : w'.cell? a = w.cell? a := by
  simp only [World.cell?, h.block a.block hl hF]
theorem nums_set (k : IntKind) (xs : List Int) (i : Nat) (x : Int) : nums k (xs.set i x) = (nums k xs).set i (.int k x) := by simp [nums, List.map_set]
theorem bools_set (xs : List Bool) (i : Nat) (x : Bool) : bools (xs.set i x) = (bools xs).set i (.bool x) := by simp [bools, List.map_set]
theorem own_rdI {w : World} {base n : Nat} {e : TypeId} {A : Option Addr} {c : Nat} {cs : List Value} (h : w.ownsRow base e 1 (.slice A n c) n cs) : Rd w A n 1 cs := by
  obtain ⟨A', c', e', hr⟩ := own_rd h
  cases e'
  exact hr
theorem lns_lineS (line : Int) (h : 4 ≤ line) (l : List Int) (hu : ∀ x ∈ l, 0 ≤ x ∧ x < 4294967296) : ∀ x ∈ lns line l, 0 ≤ x ∧ x < 4294967296 := by
  intro x hx
  obtain ⟨y, hy, rfl⟩ := List.mem_map.1 hx
  have := hu y hy
  have h1 : y / line ≤ y := Int.ediv_le_self _ this.1
  exact ⟨Int.ediv_nonneg this.1 (by omega), by omega⟩
theorem cells_ne {w1 : World} {base n c : Nat} {e : TypeId} {g : Nat} {cs : List Value} (h : w1.ownsRow base e 1 (.slice (some ⟨g, 0, none⟩) n c) n cs) (j : Nat) (hj : j < n) (v : Value) (hv : cs[j]? = some v) : w1.cell? ⟨g, j, none⟩ = some v ∧ w1.frozen? ⟨g, j, none⟩ = false :=
  ⟨(h.cellAt j (by omega)).trans hv, h.frozenAt j⟩

attribute [local irreducible] World.setCell in
set_option maxRecDepth 100000 in
set_option maxHeartbeats 4000000 in
theorem sets_any (a b d : Int) (ha : 0 ≤ a ∧ a < 256) (hb : 0 ≤ b ∧ b < 256) (hd : 0 ≤ d ∧ d < 256) (t : Int) (ht : 0 ≤ t ∧ t < 65536) (A : Option Addr) (xs : List Int) (cap : Nat) (w : World) (hr : RdI w .u32 A xs.length xs) (hA : A = none → cap = 0) (hu : ∀ x ∈ xs, 0 ≤ x ∧ x < 4294967296) (hm : xs.length ≤ 9223372036854775807) :
    Calls Try.prog 7 #[.int .u8 a, .int .u8 b, .int .u8 d, .slice A xs.length cap, .int .u16 t] w fun e w' => e = .returned (.bool true) ∧ Below w.heap.size w w' := by
  have HR := Lib.hid hr
  have HU := Lib.hid hu
  have HA := Lib.hid ha
  have HB := Lib.hid hb
  have HDD := Lib.hid hd
  have HNIL := Lib.hid hA
  obtain ⟨t1, t2⟩ := ht
  clear hr hu ha hb hd hA
  by_cases hlen : xs.length < 2 ∨ 120 < xs.length
  · have hcases : (xs.length < 2 ∧ True) ∨ (¬ xs.length < 2 ∧ 120 < xs.length) := by
      by_cases h : xs.length < 2
      · exact .inl ⟨h, trivial⟩
      · exact .inr ⟨h, hlen.resolve_left h⟩
    clear hlen
    rcases hcases with ⟨hlen, _⟩ | ⟨hlen, hlen2⟩
    all_goals
      go_enter Try.func7, Try.ntmps7
      go_wp2_with fail
      refine (sane_any _).mono ?_
      rintro e W ⟨rfl, hb⟩
      go_wp2
      go_ret
      exact ⟨rfl, hb⟩
  · have hl1 : ¬ xs.length < 2 := by omega
    have hl2 : ¬ 120 < xs.length := by omega
    clear hlen
    go_enter Try.func7, Try.ntmps7
    go_wp2_with fail
    refine (shaped_any a b d HA.out HB.out HDD.out _).mono ?_
    rintro e W1 ⟨rfl, hb1⟩
    obtain ⟨hs1, hs2⟩ := setsOf_le b
    obtain ⟨n, hn⟩ : ∃ n : Nat, setsOf b = n := ⟨_, rfl⟩
    have hsh := shape_of a b d
    obtain ⟨hdv, hl1', hl2'⟩ := lineOf_dvd a
    obtain ⟨line, hline⟩ : ∃ line, lineOf a = line := ⟨_, rfl⟩
    obtain ⟨u, hW⟩ : ∃ u, waysOf d = u := ⟨_, rfl⟩
    rw [hline, hn, hW] at hsh
    rw [hline] at hdv hl1' hl2'
    rw [hn] at hs1 hs2
    rw [hline, hn, hW]
    have HSH := Lib.hid hsh
    have HDV := Lib.hid hdv
    obtain ⟨V1, hV1⟩ : ∃ V, W1.alloc (.cells #[.int .i64 line, .int .i64 (n : Int), .int .i64 u] 25) = V := ⟨_, rfl⟩
    have hbv : Below W1.heap.size W1 V1 := by rw [← hV1]; exact balloc _ _
    have hx1 : V1.heap[W1.heap.size]? = some (.cells #[.int .i64 line, .int .i64 (n : Int), .int .i64 u] 25 (0, 0)) := by rw [← hV1]; exact heap_alloc_new _ _
    have HB1 := Lib.hid (bvia hb1 hbv (Nat.le_refl _))
    have HX1 := Lib.hid hx1
    have hl : 2 ≤ xs.length := by omega
    have hw0 : IntKind.i64.wrap t = t := IntWalk.i64_in _ (by omega)
    have hw1 : IntKind.i64.wrap ((xs.length : Int) - 1) = (xs.length : Int) - 1 := IntWalk.i64_in _ (by omega)
    obtain ⟨i, hi⟩ : ∃ i : Nat, t % ((xs.length : Int) - 1) = (i : Int) := ⟨(t % ((xs.length : Int) - 1)).toNat, by have := Int.emod_nonneg t (show ((xs.length : Int) - 1) ≠ 0 by omega); omega⟩
    have hi2 : i + 1 < xs.length := by have := Int.emod_lt_of_pos t (show (0 : Int) < (xs.length : Int) - 1 by omega); omega
    have hti : t.tmod ((xs.length : Int) - 1) = (i : Int) := by rw [Int.tmod_eq_emod_of_nonneg t1, hi]
    have hne0 : ¬ (xs.length : Int) - 1 = 0 := by omega
    have hwi : IntKind.i64.wrap (i : Int) = (i : Int) := IntWalk.i64_in _ (by omega)
    have hwi1 : IntKind.i64.wrap ((i : Int) + 1) = (i : Int) + 1 := IntWalk.i64_in _ (by omega)
    have hwl : IntKind.u32.wrap line = line := IntWalk.u32_in _ (by omega)
    have y0 := boxAt (i := 0) hx1 rfl
    have y1 := boxAt (i := 1) hx1 rfl
    have y2 := boxAt (i := 2) hx1 rfl
    obtain ⟨ad, e0, x0⟩ := (show RdI V1 .u32 A xs.length xs from Rd.below HR.out HB1.out).at i (by omega)
    obtain ⟨ad', e1, x1⟩ := (show RdI V1 .u32 A xs.length xs from Rd.below HR.out HB1.out).at (i + 1) hi2
    subst e0
    cases e1
    have hp0 := HU.out _ (gi_mem xs i (by omega))
    have hp1 := HU.out _ (gi_mem xs (i + 1) hi2)
    obtain ⟨P, hP⟩ : ∃ P, gi xs i = P := ⟨_, rfl⟩
    obtain ⟨Q, hQ⟩ : ∃ Q, gi xs (i + 1) = Q := ⟨_, rfl⟩
    rw [hP] at x0 hp0
    rw [hQ] at x1 hp1
    obtain ⟨p, hp⟩ : ∃ p, P / line = p := ⟨_, rfl⟩
    obtain ⟨q, hq⟩ : ∃ q, Q / line = q := ⟨_, rfl⟩
    have hp2 : 0 ≤ p ∧ p ≤ P := by rw [← hp]; exact ⟨Int.ediv_nonneg hp0.1 (by omega), Int.ediv_le_self _ hp0.1⟩
    have hq2 : 0 ≤ q ∧ q ≤ Q := by rw [← hq]; exact ⟨Int.ediv_nonneg hp1.1 (by omega), Int.ediv_le_self _ hp1.1⟩
    have hpt : P.tdiv line = p := by rw [Int.tdiv_eq_ediv_of_nonneg hp0.1, hp]
    have hqt : Q.tdiv line = q := by rw [Int.tdiv_eq_ediv_of_nonneg hp1.1, hq]
    have hpu : IntKind.u32.wrap p = p := IntWalk.u32_in _ (by omega)
    have hqu : IntKind.u32.wrap q = q := IntWalk.u32_in _ (by omega)
    have hpi : IntKind.i64.wrap p = p := IntWalk.i64_in _ (by omega)
    have hqi : IntKind.i64.wrap q = q := IntWalk.i64_in _ (by omega)
    obtain ⟨sp, hsp⟩ : ∃ s : Nat, p % (n : Int) = (s : Int) := ⟨(p % (n : Int)).toNat, by have := Int.emod_nonneg p (show (n : Int) ≠ 0 by omega); omega⟩
    obtain ⟨sq, hsq⟩ : ∃ s : Nat, q % (n : Int) = (s : Int) := ⟨(q % (n : Int)).toNat, by have := Int.emod_nonneg q (show (n : Int) ≠ 0 by omega); omega⟩
    have hpm : p.tmod (n : Int) = (sp : Int) := by rw [Int.tmod_eq_emod_of_nonneg hp2.1, hsp]
    have hqm : q.tmod (n : Int) = (sq : Int) := by rw [Int.tmod_eq_emod_of_nonneg hq2.1, hsq]
    have hl0 : ¬ line = 0 := by omega
    have hn0 : ¬ (n : Int) = 0 := by omega
    have hii : (i : Int) + 1 < (xs.length : Int) := by omega
    have hii0 : (i : Int) < (xs.length : Int) := by omega
    have hsn : sp < n ∧ sq < n := ⟨by have := Int.emod_lt_of_pos p (show (0 : Int) < (n : Int) by omega); omega, by have := Int.emod_lt_of_pos q (show (0 : Int) < (n : Int) by omega); omega⟩
    have hspw : IntKind.i64.wrap (sp : Int) = (sp : Int) := IntWalk.i64_in _ (by omega)
    have hsqw : IntKind.i64.wrap (sq : Int) = (sq : Int) := IntWalk.i64_in _ (by omega)
    have x1' : V1.cell? ⟨ad.block, ad.off + (i + 1), none⟩ = some (.int .u32 Q) := by
      have h := x1
      unfold Addr.add at h
      rw [if_neg (by omega)] at h
      exact h
    have HP := Lib.hid hP
    have HQ := Lib.hid hQ
    have HPL := Lib.hid hp
    have HQL := Lib.hid hq
    have HSP := Lib.hid hsp
    have HSQ := Lib.hid hsq
    have HPR := Lib.hid hp0
    have HQR := Lib.hid hp1
    clear hP hQ hp hq hp0 hp1 hsp hsq hp2 hq2
    clear hsh hdv hline hn hW hb1 hbv hx1 hi
    go_wp2_with fail
    have f1 := After.cell x0
    have f2 := After.cell x1'
    have f3 := After.cell y1
    refine region_after (Below.refl V1.heap.size V1) (by kernel_rfl) (by kernel_rfl) ?_
    repeat (go_big_quiet_step (fail))
    refine wpQuiet_nil ?_
    intro _ hw'
    obtain ⟨nq, hw''⟩ := hw'
    subst hw''
    clear f1 f2 f3 y0 y1 y2 x0 x1 x1' hV1
    have hbn := nq.below
    obtain ⟨V2, hV2⟩ : ∃ V, nq.W = V := ⟨_, rfl⟩
    rw [hV2] at hbn
    rw [hV2]
    have HB2 := Lib.hid (HB1.out.trans (hbn.mono HB1.out.size))
    have HX2 := Lib.hid (belowBox hbn HX1.out)
    clear hV2 nq hbn
    by_cases hss : sp = sq
    · subst hss
      go_wp2_with fail
      refine (sane_any _).mono ?_
      rintro e W ⟨rfl, hb⟩
      go_wp2_with fail
      go_ret
      exact ⟨rfl, HB2.out.trans (hb.mono HB2.out.size)⟩
    · have hss2 : ¬ (sp : Int) = (sq : Int) := by omega
      go_wp2_with fail
      all_goals
        refine (clone_u32 (some ad) xs.length cap (nums .u32 xs) V2 (show Rd V2 _ _ 1 _ from (show RdI V2 .u32 (some ad) xs.length xs from Rd.below HR.out HB2.out)) (fun h => by cases h) (by simp [nums, Value.oneCell']) (by omega)).mono ?_
        rintro e W3 ⟨v3, rfl, ho3, hb3⟩
        obtain ⟨gm, cm, rfl, cur, hbx⟩ : ∃ gm cm, v3 = .slice (some ⟨gm, 0, none⟩) xs.length cm ∧ ∃ cur, W3.heap[gm]? = some (.cells cur 30 (0, 0)) := by
          rcases ho3.2 with ⟨e, h0⟩ | ⟨g', cap', cur, e, _, hh, _⟩
          · omega
          · exact ⟨g', cap', e, cur, hh⟩
        have HB3 := Lib.hid (HB2.out.trans (hb3.mono HB2.out.size))
        have HX3 := Lib.hid (belowBox hb3 HX2.out)
        have hgm : V2.heap.size ≤ gm ∧ gm < W3.heap.size := ho3.lt gm rfl
        have q0 := (show RdI W3 .u32 (some ad) xs.length xs from Rd.below HR.out HB3.out).at i (by omega)
        have q1 := (show RdI W3 .u32 (some ad) xs.length xs from Rd.below HR.out HB3.out).at (i + 1) hi2
        obtain ⟨_, e0, x0⟩ := q0
        obtain ⟨_, e1, x1⟩ := q1
        cases e0
        cases e1
        rw [HP.out] at x0
        rw [HQ.out] at x1
        have x1' : W3.cell? ⟨ad.block, ad.off + (i + 1), none⟩ = some (.int .u32 Q) := by
          have h := x1
          unfold Addr.add at h
          rw [if_neg (by omega)] at h
          exact h
        have hadb : ad.block < V2.heap.size := by
          obtain ⟨_, e0, h0⟩ := (show RdI V2 .u32 (some ad) xs.length xs from Rd.below HR.out HB2.out).at i (by omega)
          cases e0
          have := World.block_lt_of_cell? _ _ h0
          unfold Addr.add at this
          split at this <;> exact this
        obtain ⟨m0, f0⟩ := cells_ne ho3 i (by omega) (.int .u32 (gi xs i)) (by simp [nums, gi, List.getElem?_eq_getElem (show i < xs.length by omega), List.getD_eq_getElem?_getD])
        obtain ⟨m1, f1⟩ := cells_ne ho3 (i + 1) (by omega) (.int .u32 (gi xs (i + 1))) (by simp [nums, gi, List.getElem?_eq_getElem hi2, List.getD_eq_getElem?_getD])
        rw [HP.out] at m0
        rw [HQ.out] at m1
        have HV23 := Lib.hid hb3
        have HO3 := Lib.hid ho3
        have HM := Lib.hid hbx
        have HGM := Lib.hid hgm
        have hkp : ∀ W' : World, Upd (fun k => k = gm) W3 W' → W'.cell? (ad.add i) = some (.int .u32 P) ∧ W'.cell? ⟨ad.block, ad.off + (i + 1), none⟩ = some (.int .u32 Q) := fun W' hu => by
          have h1 : (ad.add i).block = ad.block := by unfold Addr.add; split <;> rfl
          exact ⟨(hu.cell (by rw [h1]; have := hb3.size; omega) (by rw [h1]; omega)).trans x0, (hu.cell (by show ad.block < _; have := hb3.size; omega) (by show ¬ ad.block = gm; omega)).trans x1'⟩
        have HKP := Lib.hid hkp
        have hpos0 : (0 : Int) ≤ (i : Int) := by omega
        have hpos1 : (0 : Int) ≤ (i : Int) + 1 := by omega
        clear ho3 hb3 hbx hkp x1 hgm hadb
        go_wp2_with fail
        go_region_held3 (fun W' => W'.cell? (ad.add i) = some (.int .u32 P) ∧ W'.cell? ⟨ad.block, ad.off + (i + 1), none⟩ = some (.int .u32 Q)) (first | exact ⟨x0, x1'⟩ | exact HKP.out _ (Upd.drew _ W3) | exact HKP.out _ (Upd.trans (by (repeat refine Upd.set ?_ (by rfl) _ _); exact Upd.refl _ _) (Upd.drew (fun k => k = gm) _) fun _ h => .inl h)) (fail)
        clear m0 m1 f0 f1 x0 x1'
        obtain ⟨W5, hW5⟩ : ∃ W, ((W3.setCell ⟨gm, i, none⟩ (.int .u32 Q)).setCell ⟨gm, i + 1, none⟩ (.int .u32 P)).drew = W := ⟨_, rfl⟩
        rw [hW5]
        have hu5 : Upd (fun k => k = gm) W3 W5 := by
          rw [← hW5]
          exact (((Upd.refl (fun k => k = gm) W3).set rfl _ _).set rfl _ _).trans (Upd.drew (fun k => k = gm) _) fun _ h => .inl h
        have ho5 : W5.ownsRow V2.heap.size 30 1 (.slice (some ⟨gm, 0, none⟩) xs.length cm) xs.length (nums .u32 ((xs.set i Q).set (i + 1) P)) := by
          rw [← hW5, nums_set, nums_set]
          exact own_upd (own_set (own_set HO3.out _ _) _ _) (Upd.drew (fun _ => False) _) fun _ _ h => h
        have hb5 : Below V2.heap.size V2 W5 := HV23.out.trans (hu5.below HV23.out.size fun k (h : k = gm) => by have := HGM.out.1; omega)
        have HB5 := Lib.hid (HB2.out.trans (hb5.mono HB2.out.size))
        have HX5 := Lib.hid (belowBox hb5 HX2.out)
        have HO5 := Lib.hid ho5
        have HY := Lib.hid (show (xs.set i Q).set (i + 1) P = xs.take i ++ Q :: P :: xs.drop (i + 2) by have := set_two xs i hi2; rw [HP.out, HQ.out] at this; exact this)
        have HYX := Lib.hid (show xs = xs.take i ++ P :: Q :: xs.drop (i + 2) by have := split_two xs i hi2; rw [HP.out, HQ.out] at this; exact this)
        obtain ⟨ys, hys⟩ : ∃ ys, (xs.set i Q).set (i + 1) P = ys := ⟨_, rfl⟩
        rw [hys] at HO5 HY
        have hyl : ys.length = xs.length := by rw [← hys]; simp
        have HYL := Lib.hid hyl
        have HYU := Lib.hid (show ∀ x ∈ ys, 0 ≤ x ∧ x < 4294967296 from fun x hx => by
          rw [HY.out] at hx
          rcases List.mem_append.1 hx with h | h
          · exact HU.out x (List.mem_of_mem_take h)
          · rcases List.mem_cons.1 h with rfl | h
            · exact HQR.out
            · rcases List.mem_cons.1 h with rfl | h
              · exact HPR.out
              · exact HU.out x (List.mem_of_mem_drop h))
        have y0 := boxAt (i := 0) HX5.out rfl
        have y1 := boxAt (i := 1) HX5.out rfl
        have y2 := boxAt (i := 2) HX5.out rfl
        clear hu5 ho5 hb5 hys hyl hW5
        go_wp2_with fail
        refine (replayed_any line u n (some ad) cap xs _ HSH.out (show RdI W5 .u32 (some ad) xs.length xs from Rd.below HR.out HB5.out) (by omega) HU.out).mono ?_
        rintro e W6 ⟨q1, rfl, ho6, hb6⟩
        obtain ⟨A1, ca1, rfl, hg1⟩ := own_rd ho6
        have HB6 := Lib.hid (HB5.out.trans (hb6.mono HB5.out.size))
        have HX6 := Lib.hid (belowBox hb6 HX5.out)
        have HO6 := Lib.hid (show RdI W6 .u32 (some ⟨gm, 0, none⟩) xs.length ys from Rd.below (own_rdI HO5.out) hb6)
        have HG6 := Lib.hid (show RdB W6 A1 xs.length _ from hg1)
        have HOA6 := Lib.hid ho6
        clear y0 y1 y2 ho6 hb6 hg1
        have y0 := boxAt (i := 0) HX6.out rfl
        have y1 := boxAt (i := 1) HX6.out rfl
        have y2 := boxAt (i := 2) HX6.out rfl
        go_wp2_with fail
        have hcl := replayed_any line u n (some ⟨gm, 0, none⟩) cm ys W6 HSH.out (show RdI W6 .u32 (some ⟨gm, 0, none⟩) ys.length ys by rw [HYL.out]; exact HO6.out) (by rw [HYL.out]; omega) HYU.out
        rw [HYL.out] at hcl
        refine hcl.mono ?_
        clear hcl
        rintro e W7 ⟨q2, rfl, ho7, hb7⟩
        obtain ⟨g7, c7, rfl⟩ : ∃ g7 c7, q2 = .slice (some ⟨g7, 0, none⟩) xs.length c7 := by
          rcases ho7.2 with ⟨e, h0⟩ | ⟨g', cap', cur, e, _⟩
          · omega
          · exact ⟨g', cap', e⟩
        have HB7 := Lib.hid (HB6.out.trans (hb7.mono HB6.out.size))
        have HX7 := Lib.hid (belowBox hb7 HX6.out)
        have HG7 := Lib.hid (show RdB W7 A1 xs.length _ from Rd.below HG6.out hb7)
        have HO7 := Lib.hid ho7
        have HY7 := Lib.hid (show RdI W7 .u32 (some ⟨gm, 0, none⟩) xs.length ys from Rd.below HO6.out hb7)
        have HS67 := Lib.hid hb7
        clear y0 y1 y2 ho7 hb7
        have y0 := boxAt (i := 0) HX7.out rfl
        have y1 := boxAt (i := 1) HX7.out rfl
        have y2 := boxAt (i := 2) HX7.out rfl
        go_wp2_with fail
        refine (filled_any line u n (some ad) cap xs _ HSH.out (show RdI W7 .u32 (some ad) xs.length xs from Rd.below HR.out HB7.out) (by omega) HU.out).mono ?_
        rintro e W8 ⟨g8, c8, vs8, rfl, ho8, hb8⟩
        have HB8 := Lib.hid (HB7.out.trans (hb8.mono HB7.out.size))
        obtain ⟨V8, hV8⟩ : ∃ V, W8.alloc (.cells #[.int .i64 line, .int .i64 (n : Int), .int .i64 u, .slice (some ⟨g8, 0, none⟩) n c8] 36) = V := ⟨_, rfl⟩
        have hbv8 : Below W8.heap.size W8 V8 := by rw [← hV8]; exact balloc _ _
        have hxv8 : V8.heap[W8.heap.size]? = some (.cells #[.int .i64 line, .int .i64 (n : Int), .int .i64 u, .slice (some ⟨g8, 0, none⟩) n c8] 36 (0, 0)) := by rw [← hV8]; exact heap_alloc_new _ _
        have hb78 : Below W7.heap.size W7 V8 := hb8.trans (hbv8.mono hb8.size)
        have HBV := Lib.hid (HB7.out.trans (hb78.mono HB7.out.size))
        have HXV := Lib.hid hxv8
        have HX8 := Lib.hid (belowBox hb78 HX7.out)
        have HG8 := Lib.hid (show RdB V8 A1 xs.length _ from Rd.below HG7.out hb78)
        have HO8 := Lib.hid (own_upd HO7.out (Upd.of_below hb78) fun k hk h => by have := (HO7.out.lt k hk).2; omega)
        have HY8 := Lib.hid (show RdI V8 .u32 (some ⟨gm, 0, none⟩) xs.length ys from Rd.below HY7.out hb78)
        have HOS := Lib.hid (ho8.upd (Upd.of_below hbv8) fun k hk (e : W8.heap.size ≤ k) => by have := (ho8.foot_lt k hk).2; omega)
        have HS78 := Lib.hid hb78
        have HN8 := Lib.hid hb8.size
        clear y0 y1 y2 ho8 hb8 hbv8 hxv8 hb78
        have y0 := boxAt (i := 0) HX8.out rfl
        have y1 := boxAt (i := 1) HX8.out rfl
        have y2 := boxAt (i := 2) HX8.out rfl
        go_wp2_with fail
        have hcl := filled_any line u n (some ⟨gm, 0, none⟩) cm ys V8 HSH.out (show RdI V8 .u32 (some ⟨gm, 0, none⟩) ys.length ys by rw [HYL.out]; exact HY8.out) (by rw [HYL.out]; omega) HYU.out
        rw [HYL.out] at hcl
        refine hcl.mono ?_
        clear hcl
        rintro e W9 ⟨g9, c9, vs9, rfl, ho9, hb9⟩
        have HB9 := Lib.hid (HBV.out.trans (hb9.mono HBV.out.size))
        obtain ⟨V9, hV9⟩ : ∃ V, W9.alloc (.cells #[.int .i64 line, .int .i64 (n : Int), .int .i64 u, .slice (some ⟨g9, 0, none⟩) n c9] 36) = V := ⟨_, rfl⟩
        have hbv9 : Below W9.heap.size W9 V9 := by rw [← hV9]; exact balloc _ _
        have hxv9 : V9.heap[W9.heap.size]? = some (.cells #[.int .i64 line, .int .i64 (n : Int), .int .i64 u, .slice (some ⟨g9, 0, none⟩) n c9] 36 (0, 0)) := by rw [← hV9]; exact heap_alloc_new _ _
        have hb89 : Below V8.heap.size V8 V9 := hb9.trans (hbv9.mono hb9.size)
        have HBW := Lib.hid (HBV.out.trans (hb89.mono HBV.out.size))
        have HXW := Lib.hid (belowBox hb89 HXV.out)
        have HXX := Lib.hid hxv9
        have HG9 := Lib.hid (show RdB V9 A1 xs.length _ from Rd.below HG8.out hb89)
        have HO9 := Lib.hid (own_upd HO8.out (Upd.of_below hb89) fun k hk h => by have := (HO8.out.lt k hk).2; omega)
        have HOT := Lib.hid (HOS.out.upd (Upd.of_below hb89) fun k hk (e : V8.heap.size ≤ k) => by have := (HOS.out.foot_lt k hk).2; omega)
        have HOU := Lib.hid (ho9.upd (Upd.of_below hbv9) fun k hk (e : W9.heap.size ≤ k) => by have := (ho9.foot_lt k hk).2; omega)
        have HS89 := Lib.hid hb89
        have HN9 := Lib.hid hb9.size
        clear y0 y1 y2 ho9 hb9 hbv9 hxv9 hb89
        have hne : setNo n (P / line) ≠ setNo n (Q / line) := by
          unfold setNo
          rw [HPL.out, HQL.out, HSP.out, HSQ.out]
          omega
        obtain ⟨P1, bx, byy, Q1, hr1, hr2, hl3, hr3⟩ := swap_replay line n u (by omega) HDV.out (List.replicate n []) (xs.take i) (xs.drop (i + 2)) P Q HPR.out HQR.out hne
        rw [← HYX.out] at hr1 hr3
        rw [← HY.out] at hr2 hr3
        have hl4 : P1.length = i := by rw [hl3, List.length_take]; omega
        have hbl : (replayL line n u (List.replicate n []) ys).2.length = xs.length := by rw [replayL_len, HYL.out]
        have e0 : (bools (replayL line n u (List.replicate n []) ys).2)[i]? = some (.bool byy) := by
          rw [hr2]
          simp [bools, ← hl4]
        have e1 : (bools (replayL line n u (List.replicate n []) ys).2)[i + 1]? = some (.bool bx) := by
          rw [hr2]
          simp [bools, ← hl4, List.getElem?_append_right]
        have hset : ((bools (replayL line n u (List.replicate n []) ys).2).set i (.bool bx)).set (i + 1) (.bool byy) = bools (replayL line n u (List.replicate n []) xs).2 := by
          rw [hr2, hr1]
          simp [bools, ← hl4, List.set_append_right]
        have HSET := Lib.hid hset
        have HR3 := Lib.hid hr3
        obtain ⟨m0, f0⟩ := cells_ne HO9.out i (by omega) _ e0
        obtain ⟨m1, f1⟩ := cells_ne HO9.out (i + 1) (by omega) _ e1
        clear hne hr1 hr2 hr3 hl3 hl4 hbl e0 e1 hset
        have hii1 : (0 : Int) ≤ (i : Int) := by omega
        go_wp2_with fail
        refine wp_region_noPanic ?_
        refine wp_region_till 15 (fun W' => W'.cell? ⟨g7, i, none⟩ = some (.bool byy) ∧ W'.cell? ⟨g7, i + 1, none⟩ = some (.bool bx)) (by kernel_rfl) ⟨m0, m1⟩ (fun hS => ?_)
        refine wpAnyT_pure 0 _ (.slice (some ⟨g7, 0, none⟩) xs.length c7) (by rfl) (by kernel_rfl) (by kernel_rfl) (by kernel_rfl) (by kernel_rfl) (fun _ _ _ h => h) (Or.inl ⟨by rfl, fun W' => by kernel_rfl⟩) hS ?_
        try simp only [Act.put, List.setIfInBounds_toArray, List.set_cons_zero, List.set_cons_succ]
        refine wpAnyT_pure 1 _ (.int .i64 (i : Int)) (by rfl) (by kernel_rfl) (by kernel_rfl) (by kernel_rfl) (by kernel_rfl) (fun _ _ _ h => h) (Or.inl ⟨by rfl, fun W' => by kernel_rfl⟩) hS ?_
        try simp only [Act.put, List.setIfInBounds_toArray, List.set_cons_zero, List.set_cons_succ]
        refine wpAnyT_pure 2 _ (.slice (some ⟨g7, 0, none⟩) xs.length c7) (by rfl) (by kernel_rfl) (by kernel_rfl) (by kernel_rfl) (by kernel_rfl) (fun _ _ _ h => h) (Or.inl ⟨by rfl, fun W' => by kernel_rfl⟩) hS ?_
        try simp only [Act.put, List.setIfInBounds_toArray, List.set_cons_zero, List.set_cons_succ]
        refine wpAnyT_pure 3 _ (.int .i64 (i : Int)) (by rfl) (by kernel_rfl) (by kernel_rfl) (by kernel_rfl) (by kernel_rfl) (fun _ _ _ h => h) (Or.inl ⟨by rfl, fun W' => by kernel_rfl⟩) hS ?_
        try simp only [Act.put, List.setIfInBounds_toArray, List.set_cons_zero, List.set_cons_succ]
        refine wpAnyT_pure 4 _ (.int .i64 ((i : Int) + 1)) (by rfl) (by kernel_rfl) (by kernel_rfl) (by kernel_rfl) (by kernel_rfl) (fun _ _ _ h => h) (Or.inl ⟨by rfl, fun W' => by go_simp⟩) hS ?_
        try simp only [Act.put, List.setIfInBounds_toArray, List.set_cons_zero, List.set_cons_succ]
        refine wpAnyT_pure 5 _ (.slice (some ⟨g7, 0, none⟩) xs.length c7) (by rfl) (by kernel_rfl) (by kernel_rfl) (by kernel_rfl) (by kernel_rfl) (fun _ _ _ h => h) (Or.inl ⟨by rfl, fun W' => by kernel_rfl⟩) hS ?_
        try simp only [Act.put, List.setIfInBounds_toArray, List.set_cons_zero, List.set_cons_succ]
        refine wpAnyT_pure 6 _ (.int .i64 (i : Int)) (by rfl) (by kernel_rfl) (by kernel_rfl) (by kernel_rfl) (by kernel_rfl) (fun _ _ _ h => h) (Or.inl ⟨by rfl, fun W' => by kernel_rfl⟩) hS ?_
        try simp only [Act.put, List.setIfInBounds_toArray, List.set_cons_zero, List.set_cons_succ]
        refine wpAnyT_pure 7 _ (.int .i64 ((i : Int) + 1)) (by rfl) (by kernel_rfl) (by kernel_rfl) (by kernel_rfl) (by kernel_rfl) (fun _ _ _ h => h) (Or.inl ⟨by rfl, fun W' => by go_simp⟩) hS ?_
        try simp only [Act.put, List.setIfInBounds_toArray, List.set_cons_zero, List.set_cons_succ]
        refine wpAnyT_pure 8 _ (.pointer (some ⟨g7, i + 1, none⟩)) (by rfl) (by kernel_rfl) (by kernel_rfl) (by kernel_rfl) (by kernel_rfl) (fun _ _ _ h => h) (Or.inl ⟨by rfl, fun W' => by go_simp⟩) hS ?_
        try simp only [Act.put, List.setIfInBounds_toArray, List.set_cons_zero, List.set_cons_succ]
        refine wpAnyT_take 9 _ (.bool bx) (by rfl) (by kernel_rfl) (by kernel_rfl) (by kernel_rfl) (by kernel_rfl) (by kernel_rfl) (fun _ _ _ h => h) (Or.inl ⟨by rfl, fun W' hW' => by go_simp⟩) hS ?_
        try simp only [Act.put, List.setIfInBounds_toArray, List.set_cons_zero, List.set_cons_succ]
        refine wpAnyT_pure 10 _ (.slice (some ⟨g7, 0, none⟩) xs.length c7) (by rfl) (by kernel_rfl) (by kernel_rfl) (by kernel_rfl) (by kernel_rfl) (fun _ _ _ h => h) (Or.inl ⟨by rfl, fun W' => by kernel_rfl⟩) hS ?_
        try simp only [Act.put, List.setIfInBounds_toArray, List.set_cons_zero, List.set_cons_succ]
        refine wpAnyT_pure 11 _ (.int .i64 (i : Int)) (by rfl) (by kernel_rfl) (by kernel_rfl) (by kernel_rfl) (by kernel_rfl) (fun _ _ _ h => h) (Or.inl ⟨by rfl, fun W' => by kernel_rfl⟩) hS ?_
        try simp only [Act.put, List.setIfInBounds_toArray, List.set_cons_zero, List.set_cons_succ]
        refine wpAnyT_pure 12 _ (.pointer (some ⟨g7, i, none⟩)) (by rfl) (by kernel_rfl) (by kernel_rfl) (by kernel_rfl) (by kernel_rfl) (fun _ _ _ h => h) (Or.inl ⟨by rfl, fun W' => by go_simp⟩) hS ?_
        try simp only [Act.put, List.setIfInBounds_toArray, List.set_cons_zero, List.set_cons_succ]
        refine wpAnyT_take 13 _ (.bool byy) (by rfl) (by kernel_rfl) (by kernel_rfl) (by kernel_rfl) (by kernel_rfl) (by kernel_rfl) (fun _ _ _ h => h) (Or.inl ⟨by rfl, fun W' hW' => by go_simp⟩) hS ?_
        try simp only [Act.put, List.setIfInBounds_toArray, List.set_cons_zero, List.set_cons_succ]
        refine wpAnyT_pure 14 _ (.pointer (some ⟨g7, i, none⟩)) (by rfl) (by kernel_rfl) (by kernel_rfl) (by kernel_rfl) (by kernel_rfl) (fun _ _ _ h => h) (Or.inl ⟨by rfl, fun W' => by go_simp⟩) hS ?_
        try simp only [Act.put, List.setIfInBounds_toArray, List.set_cons_zero, List.set_cons_succ]
        clear hS
        refine wpAnyT_till _ (by kernel_rfl) (by rfl) (fun K' hK' => ?_)
        rw [if_pos (by rfl)]
        go_wp2_with fail
        refine hK'.out _ _ ?_
        clear hK' K'
        try simp only [Act.put, List.setIfInBounds_toArray, List.set_cons_zero, List.set_cons_succ]
        refine wpAny_take (i := 16) (oi := _) (v := .pointer (some ⟨g7, i + 1, none⟩)) (by rfl) (by kernel_rfl) (by kernel_rfl) (by kernel_rfl) (fun _ _ _ h => h) (Or.inl ⟨by rfl, fun W' => by go_simp⟩) ?_
        try simp only [Act.put, List.setIfInBounds_toArray, List.set_cons_zero, List.set_cons_succ]
        refine wpAny_one 17 _ (by kernel_rfl) (by rfl) (fun K' hK' => ?_)
        rw [if_pos (by rfl)]
        go_wp2_with fail
        refine hK'.out _ _ ?_
        clear hK' K'
        try simp only [Act.put, List.setIfInBounds_toArray, List.set_cons_zero, List.set_cons_succ]
        refine wpAny_done (by kernel_rfl) (noPanic_f ?_) _
        obtain ⟨V10, hV10⟩ : ∃ W, ((V9.setCell ⟨g7, i, none⟩ (.bool bx)).setCell ⟨g7, i + 1, none⟩ (.bool byy)).drew = W := ⟨_, rfl⟩
        rw [hV10]
        have hu10 : Upd (fun k => k = g7) V9 V10 := by
          rw [← hV10]
          exact (((Upd.refl (fun k => k = g7) V9).set rfl _ _).set rfl _ _).trans (Upd.drew (fun k => k = g7) _) fun _ h => .inl h
        have ho10 : V10.ownsRow W6.heap.size 4 1 (.slice (some ⟨g7, 0, none⟩) xs.length c7) xs.length (bools (replayL line n u (List.replicate n []) xs).2) := by
          rw [← hV10, ← HSET.out]
          exact own_upd (own_set (own_set HO9.out _ _) _ _) (Upd.drew (fun _ => False) _) fun _ _ h => h
        have hg7 : W6.heap.size ≤ g7 ∧ g7 < W7.heap.size := HO7.out.lt g7 rfl
        have hN8 := HN8.out
        have hN9 := HN9.out
        have hS78 := HS78.out.size
        have hS89 := HS89.out.size
        have hb10 : Below W6.heap.size V9 V10 := hu10.below (by have := HS67.out.size; omega) fun k (h : k = g7) => by omega
        have hoa := own_upd (own_upd HOA6.out (Upd.of_below (((HS67.out).trans (HS78.out.mono HS67.out.size)).trans (HS89.out.mono (by have := HS67.out.size; omega)))) fun k hk h => by have := (HOA6.out.lt k hk).2; omega) hu10 fun k hk (h : k = g7) => by have := (HOA6.out.lt k hk).2; omega
        have HLN := Lib.hid (lns_lineS line (by omega) xs HU.out)
        have hs8 := (HOT.out.upd hu10 fun k hk (h : k = g7) => by have := (HOT.out.foot_lt k hk).1; omega).rdSets (by rw [replayL_sets line n u (by omega) HDV.out xs _ HU.out]; exact allU_run _ (allU_new n) HLN.out)
        have hs9 := HOU.out.upd hu10 fun k hk (h : k = g7) => by have := (HOU.out.foot_lt k hk).1; omega
        rw [← HR3.out] at hs9
        have hs9' := hs9.rdSets (by rw [replayL_sets line n u (by omega) HDV.out xs _ HU.out]; exact allU_run _ (allU_new n) HLN.out)
        have hln : (replayL line n u (List.replicate n []) xs).1.length = n := by rw [replayL_sets line n u (by omega) HDV.out xs _ HU.out, runL_length, List.length_replicate]
        have HLEN := Lib.hid hln
        have H8 := Lib.hid hs8
        have H9 := Lib.hid hs9'
        have HA := Lib.hid (show RdB V10 A1 xs.length _ from own_rdI hoa)
        have HB' := Lib.hid (show RdB V10 (some ⟨g7, 0, none⟩) xs.length _ from own_rdI ho10)
        have HX8' := Lib.hid ((hu10.block W8.heap.size (Array.getElem?_eq_some_iff.1 HXW.out).1 (by omega)).trans HXW.out)
        have HX9' := Lib.hid ((hu10.block W9.heap.size (Array.getElem?_eq_some_iff.1 HXX.out).1 (by omega)).trans HXX.out)
        have HB10 := Lib.hid (HBW.out.trans (hb10.mono (by have := HB6.out.size; omega)))
        clear hu10 ho10 hg7 hN8 hN9 hS78 hS89 hb10 hoa hs8 hs9 hs9' hln hV10 m0 m1 f0 f1
        go_wp2_with fail
        refine (sane_any _).mono ?_
        rintro e W11 ⟨rfl, hb11⟩
        have HA11 := Lib.hid (show RdB W11 A1 xs.length _ from Rd.below HA.out hb11)
        have HB11 := Lib.hid (show RdB W11 (some ⟨g7, 0, none⟩) xs.length _ from Rd.below HB'.out hb11)
        have H81 := Lib.hid (H8.out.below hb11)
        have H91 := Lib.hid (H9.out.below hb11)
        have HX81 := Lib.hid (belowBox hb11 HX8'.out)
        have HX91 := Lib.hid (belowBox hb11 HX9'.out)
        have HBB11 := Lib.hid (HB10.out.trans (hb11.mono HB10.out.size))
        clear hb11
        go_wp2_with fail
        have hcl := equal_bool A1 (some ⟨g7, 0, none⟩) xs.length ca1 xs.length c7 _ _ W11 HA11.out HB11.out
        rw [decide_eq_true rfl] at hcl
        refine hcl.mono ?_
        clear hcl
        rintro e W12 ⟨rfl, hb12⟩
        have H82 := Lib.hid (H81.out.below hb12)
        have H92 := Lib.hid (H91.out.below hb12)
        have v0 := boxAt (i := 0) (belowBox hb12 HX81.out) rfl
        have v1 := boxAt (i := 1) (belowBox hb12 HX81.out) rfl
        have v2 := boxAt (i := 2) (belowBox hb12 HX81.out) rfl
        have v3 := boxAt (i := 3) (belowBox hb12 HX81.out) rfl
        have u0 := boxAt (i := 0) (belowBox hb12 HX91.out) rfl
        have u1 := boxAt (i := 1) (belowBox hb12 HX91.out) rfl
        have u2 := boxAt (i := 2) (belowBox hb12 HX91.out) rfl
        have u3 := boxAt (i := 3) (belowBox hb12 HX91.out) rfl
        have HBB12 := Lib.hid (HBB11.out.trans (hb12.mono HBB11.out.size))
        clear hb12
        go_wp2_with fail
        refine (sameCache_true line u n g8 c8 g9 c9 _ _ _ _ H82.out H92.out HLEN.out).mono ?_
        rintro e W13 ⟨rfl, hb13⟩
        clear v0 v1 v2 v3 u0 u1 u2 u3
        go_wp2_with fail
        go_ret
        exact ⟨rfl, HBB12.out.trans (hb13.mono HBB12.out.size)⟩
end Go.Proofs.Ytdkacdfhapgboaa
