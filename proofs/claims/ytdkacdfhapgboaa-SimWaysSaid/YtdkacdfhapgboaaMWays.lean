/- 'filled', the statements' own function: a cache behind accesses of one byte. -/
import Derived.Test.YtdkacdfhapgboaaM11
import Derived.IntWalk
import Derived.Deep.RegionHeld3
import Derived.BigQuiet
import Derived.Deep.QuietTactic
set_option linter.unusedVariables false
set_option linter.unusedSimpArgs false
namespace Go.Proofs.Ytdkacdfhapgboaa
open Go.RowKit

section
variable {P : Program} {ops : Array Oper} {Q : Exit → Act → World → Prop} {md : Region.Mode} {S : World → Prop} {t : Nat}
/-- Number i, number j or number t may come up now. -/
theorem wpAnyT_three (i j : Nat) (oi oj ot : Oper) {fuel : Nat} {listed : Array Bool} {a : Act} {w : World} (hr : Region.ready md ops listed = [i, j, t]) (hti : decide (i ≠ t) = true) (htj : decide (j ≠ t) = true) (hoi : ops[i]? = some oi) (hoj : ops[j]? = some oj) (hot : ops[t]? = some ot)
    (h1 : ∀ K' : Act → World → Prop, Shut (∀ a w, S w → wpAnyT P md ops Q S t fuel (listed.setIfInBounds i true) a w → K' a w) → if Region.wanted oi (yielded ops a.tmps) = true then Oper.wp P oi a w K' Q else K' (a.put oi.dst undef) w)
    (h2 : ∀ K' : Act → World → Prop, Shut (∀ a w, S w → wpAnyT P md ops Q S t fuel (listed.setIfInBounds j true) a w → K' a w) → if Region.wanted oj (yielded ops a.tmps) = true then Oper.wp P oj a w K' Q else K' (a.put oj.dst undef) w)
    (h3 : ∀ K' : Act → World → Prop, Shut (∀ a w, wpAny P md ops Q fuel (listed.setIfInBounds t true) a w → K' a w) → if Region.wanted ot (yielded ops a.tmps) = true then Oper.wp P ot a w K' Q else K' (a.put ot.dst undef) w) : wpAnyT P md ops Q S t (fuel + 1) listed a w :=
  ⟨fun h0 => (by rw [hr] at h0; cases h0), fun q hq => by
    rw [hr] at hq
    have hn1 : i ≠ t := of_decide_eq_true hti
    have hn2 : j ≠ t := of_decide_eq_true htj
    have hcs : q = i ∨ q = j ∨ q = t := by simpa using hq
    rcases hcs with rfl | rfl | rfl
    · refine wpOp_step hoi fun K' hK => h1 K' fun a w g1 g2 => hK a w ?_
      rw [if_neg hn1]
      exact ⟨g1, g2⟩
    · refine wpOp_step hoj fun K' hK => h2 K' fun a w g1 g2 => hK a w ?_
      rw [if_neg hn2]
      exact ⟨g1, g2⟩
    · refine wpOp_step hot fun K' hK => h3 K' fun a w g1 => hK a w ?_
      rw [if_pos rfl]
      exact g1⟩
/-- Number i alone may come up now. -/
theorem wpAny_one (i : Nat) (o : Oper) {fuel : Nat} {listed : Array Bool} {a : Act} {w : World} (hr : Region.ready md ops listed = [i]) (ho : ops[i]? = some o)
    (h : ∀ K' : Act → World → Prop, Shut (∀ a w, wpAny P md ops Q fuel (listed.setIfInBounds i true) a w → K' a w) → if Region.wanted o (yielded ops a.tmps) = true then Oper.wp P o a w K' Q else K' (a.put o.dst undef) w) : wpAny P md ops Q (fuel + 1) listed a w :=
  wpAny_all hr (by simp) fun j hj => by
    obtain rfl : j = i := by simpa using hj
    exact wpOp_step ho fun K' hK => h K' fun a w h1 => hK a w h1
end
theorem noPanic_f {Q : Exit → Act → World → Prop} {a : Act} {w : World} (h : Q .normal a w) : NoPanic Q .normal a w := h
theorem usetRow_f (W : World) (g : Nat) (cs : Array Value) : Upd (fun k => k = g) W (W.setRow g cs) :=
  ⟨rfl, rfl, rfl, by simp, fun k _ hk => setRow_other W g k cs (by omega)⟩
/-- What the loop of filled carries. -/
structure FillRel (w : World) (bx : Nat) (line ways : Int) (n : Nat) (L : List (List Int)) (wr : World) : Prop where
  ex : ∃ g c vs, wr.heap[bx]? = some (.cells #[.int .i64 line, .int .i64 (n : Int), .int .i64 ways, .slice (some ⟨g, 0, none⟩) n c] 36 (0, 0)) ∧ OwnSets wr (w.heap.size + 2) g c vs L ∧ ∀ k, foot g vs n k → k ≠ bx
  b0 : wr.heap[w.heap.size]? = some (.cells #[.int .i64 line, .int .i64 (n : Int), .int .i64 ways] 25 (0, 0))
  b1 : wr.heap[w.heap.size + 1]? = some (.cells #[.int .i64 0, .int .i64 0, .int .i64 0, .slice none 0 0] 36 (0, 0))
  below : Below w.heap.size w wr
  base : w.heap.size + 2 ≤ bx ∧ bx < wr.heap.size
  len : L.length = n
  ok : cacheOk line n ways L
  u : AllU L
theorem fill_next {w wr W4 V5 : World} {bx n g c : Nat} {line ways : Int} {vs : List Value} {L L' : List (List Int)} (H : FillRel w bx line ways n L wr) (h4 : Below wr.heap.size wr W4) (ho : OwnSets W4 wr.heap.size g c vs L') (hu5 : Upd (fun k => k = bx) W4 V5)
    (hx5 : V5.heap[bx]? = some (.cells #[.int .i64 line, .int .i64 (n : Int), .int .i64 ways, .slice (some ⟨g, 0, none⟩) n c] 36 (0, 0))) (hl : L'.length = n) (hok : cacheOk line n ways L') (hu : AllU L') : FillRel w bx line ways n L' V5 := by
  have hb := H.base
  have hft := ho.foot_lt
  rw [hl] at hft
  have h0l := (Array.getElem?_eq_some_iff.1 H.b0).1
  have h1l := (Array.getElem?_eq_some_iff.1 H.b1).1
  have hsz := h4.size
  have hup : ∀ b o, b < wr.heap.size → b ≠ bx → wr.heap[b]? = some o → V5.heap[b]? = some o := fun b o hb hne h => (hu5.block b (by omega) hne).trans ((h4.block b hb).trans h)
  refine ⟨⟨g, c, vs, hx5, (ho.upd hu5 fun k hk (e : k = bx) => ?_).base fun k hk => ?_, fun k hk e => ?_⟩, hup _ _ h0l (by omega) H.b0, hup _ _ h1l (by omega) H.b1, ?_, ⟨hb.1, by have := hu5.size; omega⟩, hl, hok, hu⟩
  · have := (ho.foot_lt k hk).1; omega
  · have := (ho.foot_lt k hk).1; omega
  · have := (hft k hk).1; omega
  · exact (H.below.trans (h4.mono H.below.size)).trans (hu5.below (by have := H.below.size; omega) fun k (h : k = bx) => by omega)

attribute [local irreducible] World.setCell in
set_option maxRecDepth 100000 in
set_option maxHeartbeats 4000000 in
theorem filled_any (line ways : Int) (n : Nat) (A : Option Addr) (ca : Nat) (l : List Int) (w : World) (hs : shapeB line n ways = true) (hl : RdI w .u32 A l.length l) (hl2 : l.length ≤ 1000) (hu : ∀ x ∈ l, 0 ≤ x ∧ x < 4294967296) :
    Calls Try.prog 16 #[.agg #[.int .i64 line, .int .i64 (n : Int), .int .i64 ways], .slice A l.length ca] w fun e w' => ∃ g c' vs, e = .returned (.tuple #[.agg #[.int .i64 line, .int .i64 (n : Int), .int .i64 ways, .slice (some ⟨g, 0, none⟩) n c'], .bool true]) ∧
      OwnSets w' w.heap.size g c' vs (replayL line n ways (List.replicate n []) l).1 ∧ Below w.heap.size w w' := by
  have HS := Lib.hid hs
  have HL := Lib.hid hl
  have HU := Lib.hid hu
  clear hs hl hu
  go_enter Try.func16, Try.ntmps16
  go_wp2_with fail
  refine (newCache_ok line ways n HS.out _).mono ?_
  rintro e W1 ⟨hb1, g1, rfl, ho1⟩
  obtain ⟨lb1, lb2, sb1, sb2, wb1, wb2⟩ := shapeB_line HS.out
  obtain ⟨W0, hW0⟩ : ∃ W0, (w.alloc (.cells #[.int .i64 line, .int .i64 (n : Int), .int .i64 ways] 25)).alloc (.cells #[.int .i64 0, .int .i64 0, .int .i64 0, .slice none 0 0] 36) = W0 := ⟨_, rfl⟩
  have hs0 : W0.heap.size = w.heap.size + 2 := by rw [← hW0]; simp
  have hbw0 : Below w.heap.size w W0 := by rw [← hW0]; exact ((Below.refl _ _).alloc (Nat.le_refl _) _).alloc (by simp) _
  have hx0 : W0.heap[w.heap.size]? = some (.cells #[.int .i64 line, .int .i64 (n : Int), .int .i64 ways] 25 (0, 0)) := by rw [← hW0]; exact (heap_alloc_old _ _ (by simp)).trans (heap_alloc_new w _)
  have hx1 : W0.heap[w.heap.size + 1]? = some (.cells #[.int .i64 0, .int .i64 0, .int .i64 0, .slice none 0 0] 36 (0, 0)) := by rw [← hW0]; exact alloc_at _ _ _ (by simp)
  rw [hW0] at hb1 ho1
  obtain ⟨V1, hV1⟩ : ∃ V, W1.alloc (.cells #[.int .i64 line, .int .i64 (n : Int), .int .i64 ways, .slice (some ⟨g1, 0, none⟩) n n] 36) = V := ⟨_, rfl⟩
  have hbv : Below W1.heap.size W1 V1 := by rw [← hV1]; exact balloc _ _
  have hxv : V1.heap[W1.heap.size]? = some (.cells #[.int .i64 line, .int .i64 (n : Int), .int .i64 ways, .slice (some ⟨g1, 0, none⟩) n n] 36 (0, 0)) := by rw [← hV1]; exact heap_alloc_new _ _
  have hsv : V1.heap.size = W1.heap.size + 1 := by rw [← hV1]; simp
  have hbase : w.heap.size + 2 ≤ W1.heap.size := by have := hb1.size; omega
  have hrel0 : FillRel w W1.heap.size line ways n (replayL line n ways (List.replicate n []) (l.take 0)).1 V1 := by
    refine ⟨⟨g1, n, _, hxv, ((ho1.upd (Upd.of_below hbv) fun k hk (e : W1.heap.size ≤ k) => by have := (ho1.foot_lt k hk).2; omega).base fun k hk => by have := (ho1.foot_lt k hk).1; omega), fun k hk e => ?_⟩, belowBox hbv (belowBox hb1 hx0), belowBox hbv (belowBox hb1 hx1), hbw0.trans ((hb1.mono (by omega)).trans (hbv.mono (by omega))), ⟨hbase, by omega⟩, by simp [replayL], cacheOk_new HS.out, allU_new n⟩
    have h3 := (ho1.foot_lt k (by simpa [replayL] using hk)).2
    omega
  have HREL := Lib.hid hrel0
  have HV1 := Lib.hid hV1
  clear hW0 hs0 hbw0 hx0 hx1 hbv hxv hsv hbase hrel0 hV1 ho1 hb1
  go_wp2_with fail
  rw [HV1.out]
  go_loopw [7, 8] (fun e i wr => ∃ k : Nat, k ≤ l.length ∧ i = .int .i64 k ∧ e = .int .i64 0 ∧ Hid (FillRel w W1.heap.size line ways n (replayL line n ways (List.replicate n []) (l.take k)).1 wr)) (fun e i _ => l.length - (intOf i).toNat)
  case atStart => exact ⟨0, Nat.zero_le _, rfl, rfl, HREL⟩
  case round =>
    obtain ⟨k, hk, rfl, rfl, hI⟩ := hrel
    obtain ⟨g, c, vs, hbx, hown, hft⟩ := hI.out.ex
    obtain ⟨L, hL⟩ : ∃ L, (replayL line n ways (List.replicate n []) (l.take k)).1 = L := ⟨_, rfl⟩
    rw [hL] at hI hown
    by_cases hlt : k < l.length
    · obtain ⟨ad, e0, x0⟩ := (show RdI wr .u32 A l.length l from Rd.below HL.out hI.out.below).at k hlt
      subst e0
      obtain ⟨x, hx⟩ : ∃ x, gi l k = x := ⟨_, rfl⟩
      have hxu := HU.out _ (gi_mem l k hlt)
      rw [hx] at x0 hxu
      have hnext : (replayL line n ways (List.replicate n []) (l.take (k + 1))).1 = (runL n ways L (linI line x 1)).1 := by
        rw [List.take_succ_eq_append_getElem hlt, replayL_snoc, hL, ← hx, ← gi_get l k hlt]
      have hlin := linI_lt line x 1 (by omega) (by omega)
      have hlu : (4294967296 : Int) / line ≤ 4294967296 := Int.ediv_le_self _ (by omega)
      have hN2 : (runL n ways L (linI line x 1)).1.length = n ∧ cacheOk line n ways (runL n ways L (linI line x 1)).1 ∧ AllU (runL n ways L (linI line x 1)).1 :=
        ⟨by rw [runL_length, hI.out.len], cacheOk_run _ hI.out.ok fun y hy => (hlin y hy).2, allU_run _ hI.out.u fun y hy => ⟨(hlin y hy).1, by have := (hlin y hy).2; omega⟩⟩
      have hacc := Access_ok line ways (some ⟨g, 0, none⟩) c vs L x 1 wr.drew ((hown.rdSets hI.out.u).below (bdrewN (Below.refl _ wr) 1)) (by rw [hI.out.len]; exact hI.out.ok) (fun h => by cases h) hxu ⟨by omega, by omega⟩ (by omega) (by omega)
      rw [vals_linesL, hI.out.len] at hacc
      have HACC := Lib.hid hacc
      have HN2 := Lib.hid hN2
      have HNX := Lib.hid hnext
      have HX := Lib.hid hbx
      have HI := hI
      have hSd : wr.drew.heap[W1.heap.size]? = some (.cells #[.int .i64 line, .int .i64 (n : Int), .int .i64 ways, .slice (some ⟨g, 0, none⟩) n c] 36 (0, 0)) ∧ wr.drew.cell? (ad.add k) = some (.int .u32 x) := ⟨hbx, x0⟩
      clear hnext hlin hlu hN2 hacc hbx hown hft hL hx
      go_wp2_with fail
      refine wp_region_noPanic ?_
      refine wp_region_till 10 (fun W' => W'.heap[W1.heap.size]? = some (.cells #[.int .i64 line, .int .i64 (n : Int), .int .i64 ways, .slice (some ⟨g, 0, none⟩) n c] 36 (0, 0)) ∧ W'.cell? (ad.add k) = some (.int .u32 x)) (by kernel_rfl) hSd (fun hS => ?_)
      refine wpAnyT_take 0 _ (.agg #[.int .i64 line, .int .i64 (n : Int), .int .i64 ways, .slice (some ⟨g, 0, none⟩) n c]) (by rfl) (by kernel_rfl) (by kernel_rfl) (by kernel_rfl) (by kernel_rfl) (by kernel_rfl) (fun _ _ _ h => h) (yieldsIf_load_mid (by rfl) 36 (Operand.tmp 6) rfl W1.heap.size 0 rfl [.int .i64 line, .int .i64 (n : Int), .int .i64 ways, .slice (some ⟨g, 0, none⟩) n c] _ (fun W' h' => range_sub h'.1 0 _ rfl) Try.underlying36 rfl (by kernel_rfl)) hS ?_
      try simp only [Act.put, List.setIfInBounds_toArray, List.set_cons_zero, List.set_cons_succ]
      refine wpAnyT_take 1 _ (.slice (some ad) l.length ca) (by rfl) (by kernel_rfl) (by kernel_rfl) (by kernel_rfl) (by kernel_rfl) (by kernel_rfl) (fun _ _ _ h => h) (Or.inl ⟨by rfl, fun W' hW' => by kernel_rfl⟩) hS ?_
      try simp only [Act.put, List.setIfInBounds_toArray, List.set_cons_zero, List.set_cons_succ]
      refine wpAnyT_take 2 _ (.int .i64 k) (by rfl) (by kernel_rfl) (by kernel_rfl) (by kernel_rfl) (by kernel_rfl) (by kernel_rfl) (fun _ _ _ h => h) (Or.inl ⟨by rfl, fun W' hW' => by kernel_rfl⟩) hS ?_
      try simp only [Act.put, List.setIfInBounds_toArray, List.set_cons_zero, List.set_cons_succ]
      refine wpAnyT_take 3 _ (.pointer (some (ad.add k))) (by rfl) (by kernel_rfl) (by kernel_rfl) (by kernel_rfl) (by kernel_rfl) (by kernel_rfl) (fun _ _ _ h => h) (Or.inl ⟨by rfl, fun W' hW' => by go_simp⟩) hS ?_
      try simp only [Act.put, List.setIfInBounds_toArray, List.set_cons_zero, List.set_cons_succ]
      refine wpAnyT_take 4 _ (.int .u32 x) (by rfl) (by kernel_rfl) (by kernel_rfl) (by kernel_rfl) (by kernel_rfl) (by kernel_rfl) (fun _ _ _ h => h) (Or.inl ⟨by rfl, fun W' hW' => by go_simp⟩) hS ?_
      try simp only [Act.put, List.setIfInBounds_toArray, List.set_cons_zero, List.set_cons_succ]
      refine wpAnyT_one 5 _ (by kernel_rfl) (by kernel_rfl) (by rfl) (fun K' hK' => ?_)
      rw [if_pos (by rfl)]
      go_wp2_with fail
      refine (HACC.out).mono ?_
      rintro e W4 ⟨g2, c2, vs2, vo, rfl, ho4, hw4, hb4⟩
      have hb34 : Below wr.heap.size wr W4 := (bdrewN (Below.refl _ wr) 1).trans hb4
      have hbx4 := belowBox hb34 HX.out
      have hS4 : W4.heap[W1.heap.size]? = some (.cells #[.int .i64 line, .int .i64 (n : Int), .int .i64 ways, .slice (some ⟨g, 0, none⟩) n c] 36 (0, 0)) ∧ W4.cell? (ad.add k) = some (.int .u32 x) := ⟨hbx4, bkeep hb34 x0⟩
      refine hK'.out _ _ hS4 ?_
      clear hK' K' hS
      try simp only [Act.put, List.setIfInBounds_toArray, List.set_cons_zero, List.set_cons_succ]
      refine wpAnyT_take 6 _ (.tuple #[.agg #[.int .i64 line, .int .i64 (n : Int), .int .i64 ways, .slice (some ⟨g2, 0, none⟩) n c2], vo, .int .i64 0]) (by rfl) (by kernel_rfl) (by kernel_rfl) (by kernel_rfl) (by kernel_rfl) (by kernel_rfl) (fun _ _ _ h => h) (Or.inl ⟨by rfl, fun W' hW' => by kernel_rfl⟩) hS4 ?_
      try simp only [Act.put, List.setIfInBounds_toArray, List.set_cons_zero, List.set_cons_succ]
      refine wpAnyT_take 7 _ (.agg #[.int .i64 line, .int .i64 (n : Int), .int .i64 ways, .slice (some ⟨g2, 0, none⟩) n c2]) (by rfl) (by kernel_rfl) (by kernel_rfl) (by kernel_rfl) (by kernel_rfl) (by kernel_rfl) (fun _ _ _ h => h) (Or.inl ⟨by rfl, fun W' hW' => by kernel_rfl⟩) hS4 ?_
      try simp only [Act.put, List.setIfInBounds_toArray, List.set_cons_zero, List.set_cons_succ]
      have hu5 : Upd (fun k => k = W1.heap.size) W4 (W4.setRow W1.heap.size #[.int .i64 line, .int .i64 (n : Int), .int .i64 ways, .slice (some ⟨g2, 0, none⟩) n c2]) := usetRow_f _ _ _
      have hx5 : (W4.setRow W1.heap.size #[.int .i64 line, .int .i64 (n : Int), .int .i64 ways, .slice (some ⟨g2, 0, none⟩) n c2]).heap[W1.heap.size]? = some (.cells #[.int .i64 line, .int .i64 (n : Int), .int .i64 ways, .slice (some ⟨g2, 0, none⟩) n c2] 36 (0, 0)) := setRow_heap hbx4 _
      obtain ⟨V5, hV5⟩ : ∃ V, W4.setRow W1.heap.size #[.int .i64 line, .int .i64 (n : Int), .int .i64 ways, .slice (some ⟨g2, 0, none⟩) n c2] = V := ⟨_, rfl⟩
      rw [hV5] at hu5 hx5
      have HFIN := Lib.hid (fill_next HI.out hb34 ho4 hu5 hx5 HN2.out.1 HN2.out.2.1 HN2.out.2.2)
      have HHX := Lib.hid hbx4
      have HHS := Lib.hid hS4
      have HV5 := Lib.hid hV5
      clear ho4 hw4 hb4 hb34 hu5 hx5 hV5 hbx4 x0 hS4
      refine wpAnyT_three 8 9 _ _ _ (by kernel_rfl) (by kernel_rfl) (by kernel_rfl) (by rfl) (by rfl) (by rfl) (fun K' hK' => ?_) (fun K' hK' => ?_) (fun K' hK' => ?_)
      · rw [if_pos (by rfl)]
        refine wp_of_run (v := vo) (w' := W4) (by kernel_rfl) ?_
        refine hK'.out _ _ HHS.out ?_
        clear hK' K'
        try simp only [Act.put, List.setIfInBounds_toArray, List.set_cons_zero, List.set_cons_succ]
        refine wpAnyT_two 9 _ _ (by kernel_rfl) (by kernel_rfl) (by rfl) (by rfl) (fun K' hK' => ?_) (fun K' hK' => ?_)
        · rw [if_pos (by rfl)]
          refine wp_of_run (v := .int .i64 0) (w' := W4) (by kernel_rfl) ?_
          refine hK'.out _ _ HHS.out ?_
          clear hK' K'
          try simp only [Act.put, List.setIfInBounds_toArray, List.set_cons_zero, List.set_cons_succ]
          refine wpAnyT_till _ (by kernel_rfl) (by rfl) (fun K' hK' => ?_)
          rw [if_pos (by rfl)]
          refine wp_store_row 36 (.tmp 6) (.tmp 31) rfl W1.heap.size #[.int .i64 line, .int .i64 (n : Int), .int .i64 ways, .slice (some ⟨g2, 0, none⟩) n c2] rfl rfl 36 _ HHX.out (by kernel_rfl) rfl (by simp [Value.oneCell']) ?_
          refine hK'.out _ _ ?_
          clear hK' K'
          try simp only [Act.put, List.setIfInBounds_toArray, List.set_cons_zero, List.set_cons_succ]
          refine wpAny_take (i := 11) (oi := _) (v := (.int .i64 0)) (by rfl) (by kernel_rfl) (by kernel_rfl) (by kernel_rfl) (fun _ _ _ h => h) (Or.inl ⟨by rfl, fun W' => by kernel_rfl⟩) ?_
          try simp only [Act.put, List.setIfInBounds_toArray, List.set_cons_zero, List.set_cons_succ]
          refine wpAny_done (by kernel_rfl) (noPanic_f ?_) _
          rw [HV5.out]
          go_wp2_with fail
          go_roundw
          case rel => exact ⟨k + 1, by omega, by go_num, rfl, by rw [HNX.out]; exact Lib.hid HFIN.out⟩
          case measure => simp [intOf]; omega
        · rw [if_pos (by rfl)]
          refine wp_store_row 36 (.tmp 6) (.tmp 31) rfl W1.heap.size #[.int .i64 line, .int .i64 (n : Int), .int .i64 ways, .slice (some ⟨g2, 0, none⟩) n c2] rfl rfl 36 _ HHX.out (by kernel_rfl) rfl (by simp [Value.oneCell']) ?_
          refine hK'.out _ _ ?_
          clear hK' K'
          try simp only [Act.put, List.setIfInBounds_toArray, List.set_cons_zero, List.set_cons_succ]
          refine wpAny_take (i := 9) (oi := _) (v := (.int .i64 0)) (by rfl) (by kernel_rfl) (by kernel_rfl) (by kernel_rfl) (fun _ _ _ h => h) (Or.inl ⟨by rfl, fun W' => by kernel_rfl⟩) ?_
          try simp only [Act.put, List.setIfInBounds_toArray, List.set_cons_zero, List.set_cons_succ]
          refine wpAny_take (i := 11) (oi := _) (v := (.int .i64 0)) (by rfl) (by kernel_rfl) (by kernel_rfl) (by kernel_rfl) (fun _ _ _ h => h) (Or.inl ⟨by rfl, fun W' => by kernel_rfl⟩) ?_
          try simp only [Act.put, List.setIfInBounds_toArray, List.set_cons_zero, List.set_cons_succ]
          refine wpAny_done (by kernel_rfl) (noPanic_f ?_) _
          rw [HV5.out]
          go_wp2_with fail
          go_roundw
          case rel => exact ⟨k + 1, by omega, by go_num, rfl, by rw [HNX.out]; exact Lib.hid HFIN.out⟩
          case measure => simp [intOf]; omega
      · rw [if_pos (by rfl)]
        refine wp_of_run (v := .int .i64 0) (w' := W4) (by kernel_rfl) ?_
        refine hK'.out _ _ HHS.out ?_
        clear hK' K'
        try simp only [Act.put, List.setIfInBounds_toArray, List.set_cons_zero, List.set_cons_succ]
        refine wpAnyT_two 8 _ _ (by kernel_rfl) (by kernel_rfl) (by rfl) (by rfl) (fun K' hK' => ?_) (fun K' hK' => ?_)
        · rw [if_pos (by rfl)]
          refine wp_of_run (v := vo) (w' := W4) (by kernel_rfl) ?_
          refine hK'.out _ _ HHS.out ?_
          clear hK' K'
          try simp only [Act.put, List.setIfInBounds_toArray, List.set_cons_zero, List.set_cons_succ]
          refine wpAnyT_till _ (by kernel_rfl) (by rfl) (fun K' hK' => ?_)
          rw [if_pos (by rfl)]
          refine wp_store_row 36 (.tmp 6) (.tmp 31) rfl W1.heap.size #[.int .i64 line, .int .i64 (n : Int), .int .i64 ways, .slice (some ⟨g2, 0, none⟩) n c2] rfl rfl 36 _ HHX.out (by kernel_rfl) rfl (by simp [Value.oneCell']) ?_
          refine hK'.out _ _ ?_
          clear hK' K'
          try simp only [Act.put, List.setIfInBounds_toArray, List.set_cons_zero, List.set_cons_succ]
          refine wpAny_take (i := 11) (oi := _) (v := (.int .i64 0)) (by rfl) (by kernel_rfl) (by kernel_rfl) (by kernel_rfl) (fun _ _ _ h => h) (Or.inl ⟨by rfl, fun W' => by kernel_rfl⟩) ?_
          try simp only [Act.put, List.setIfInBounds_toArray, List.set_cons_zero, List.set_cons_succ]
          refine wpAny_done (by kernel_rfl) (noPanic_f ?_) _
          rw [HV5.out]
          go_wp2_with fail
          go_roundw
          case rel => exact ⟨k + 1, by omega, by go_num, rfl, by rw [HNX.out]; exact Lib.hid HFIN.out⟩
          case measure => simp [intOf]; omega
        · rw [if_pos (by rfl)]
          refine wp_store_row 36 (.tmp 6) (.tmp 31) rfl W1.heap.size #[.int .i64 line, .int .i64 (n : Int), .int .i64 ways, .slice (some ⟨g2, 0, none⟩) n c2] rfl rfl 36 _ HHX.out (by kernel_rfl) rfl (by simp [Value.oneCell']) ?_
          refine hK'.out _ _ ?_
          clear hK' K'
          try simp only [Act.put, List.setIfInBounds_toArray, List.set_cons_zero, List.set_cons_succ]
          refine wpAny_take (i := 8) (oi := _) (v := (vo)) (by rfl) (by kernel_rfl) (by kernel_rfl) (by kernel_rfl) (fun _ _ _ h => h) (Or.inl ⟨by rfl, fun W' => by kernel_rfl⟩) ?_
          try simp only [Act.put, List.setIfInBounds_toArray, List.set_cons_zero, List.set_cons_succ]
          refine wpAny_take (i := 11) (oi := _) (v := (.int .i64 0)) (by rfl) (by kernel_rfl) (by kernel_rfl) (by kernel_rfl) (fun _ _ _ h => h) (Or.inl ⟨by rfl, fun W' => by kernel_rfl⟩) ?_
          try simp only [Act.put, List.setIfInBounds_toArray, List.set_cons_zero, List.set_cons_succ]
          refine wpAny_done (by kernel_rfl) (noPanic_f ?_) _
          rw [HV5.out]
          go_wp2_with fail
          go_roundw
          case rel => exact ⟨k + 1, by omega, by go_num, rfl, by rw [HNX.out]; exact Lib.hid HFIN.out⟩
          case measure => simp [intOf]; omega
      · rw [if_pos (by rfl)]
        refine wp_store_row 36 (.tmp 6) (.tmp 31) rfl W1.heap.size #[.int .i64 line, .int .i64 (n : Int), .int .i64 ways, .slice (some ⟨g2, 0, none⟩) n c2] rfl rfl 36 _ HHX.out (by kernel_rfl) rfl (by simp [Value.oneCell']) ?_
        refine hK'.out _ _ ?_
        clear hK' K'
        try simp only [Act.put, List.setIfInBounds_toArray, List.set_cons_zero, List.set_cons_succ]
        refine wpAny_take (i := 8) (oi := _) (v := vo) (by rfl) (by kernel_rfl) (by kernel_rfl) (by kernel_rfl) (fun _ _ _ h => h) (Or.inl ⟨by rfl, fun W' => by kernel_rfl⟩) ?_
        try simp only [Act.put, List.setIfInBounds_toArray, List.set_cons_zero, List.set_cons_succ]
        refine wpAny_take (i := 9) (oi := _) (v := (.int .i64 0)) (by rfl) (by kernel_rfl) (by kernel_rfl) (by kernel_rfl) (fun _ _ _ h => h) (Or.inl ⟨by rfl, fun W' => by kernel_rfl⟩) ?_
        try simp only [Act.put, List.setIfInBounds_toArray, List.set_cons_zero, List.set_cons_succ]
        refine wpAny_take (i := 11) (oi := _) (v := (.int .i64 0)) (by rfl) (by kernel_rfl) (by kernel_rfl) (by kernel_rfl) (fun _ _ _ h => h) (Or.inl ⟨by rfl, fun W' => by kernel_rfl⟩) ?_
        try simp only [Act.put, List.setIfInBounds_toArray, List.set_cons_zero, List.set_cons_succ]
        refine wpAny_done (by kernel_rfl) (noPanic_f ?_) _
        rw [HV5.out]
        go_wp2_with fail
        go_roundw
        case rel => exact ⟨k + 1, by omega, by go_num, rfl, by rw [HNX.out]; exact Lib.hid HFIN.out⟩
        case measure => simp [intOf]; omega
    · have hkl : k = l.length := by omega
      subst hkl
      rw [List.take_length] at hL
      have hb0 := hI.out.b0
      have hb1 := hI.out.b1
      have hlen := hI.out.len
      have hkp : ∀ W' : World, Upd (fun k => k = w.heap.size + 1) wr W' → W'.cell? ⟨W1.heap.size, 0, none⟩ = some (.int .i64 line) ∧ W'.cell? ⟨W1.heap.size, 1, none⟩ = some (.int .i64 (n : Int)) ∧ W'.cell? ⟨W1.heap.size, 2, none⟩ = some (.int .i64 ways) ∧ W'.cell? ⟨W1.heap.size, 3, none⟩ = some (.slice (some ⟨g, 0, none⟩) n c) ∧ W'.cell? ⟨w.heap.size, 1, none⟩ = some (.int .i64 (n : Int)) := fun W' hu => by
        have h1 := hI.out.base
        have h6 := (hu.block _ (Array.getElem?_eq_some_iff.1 hbx).1 (by omega)).trans hbx
        have h0 := (hu.block _ (Array.getElem?_eq_some_iff.1 hb0).1 (by omega)).trans hb0
        exact ⟨boxAt h6 rfl, boxAt h6 rfl, boxAt h6 rfl, boxAt h6 rfl, boxAt h0 rfl⟩
      obtain ⟨x0, x1, x2, x3, x4⟩ := hkp wr (Upd.refl _ _)
      obtain ⟨r0, r1, r2, r3, rd⟩ := box4 hb1
      have HKP := Lib.hid hkp
      have HOWN := Lib.hid hown
      have HFT := Lib.hid hft
      have HII := Lib.hid hI.out
      have HB1 := Lib.hid hb1
      clear hkp hown hft hb0 hb1 hbx hI hlen
      go_wp2_with fail
      go_region_held3 (fun W' => W'.cell? ⟨W1.heap.size, 0, none⟩ = some (.int .i64 line) ∧ W'.cell? ⟨W1.heap.size, 1, none⟩ = some (.int .i64 (n : Int)) ∧ W'.cell? ⟨W1.heap.size, 2, none⟩ = some (.int .i64 ways) ∧ W'.cell? ⟨W1.heap.size, 3, none⟩ = some (.slice (some ⟨g, 0, none⟩) n c) ∧ W'.cell? ⟨w.heap.size, 1, none⟩ = some (.int .i64 (n : Int)))
        (first | exact ⟨x0, x1, x2, x3, x4⟩ | exact HKP.out _ (Upd.drew _ wr) | exact HKP.out _ (Upd.trans (by (repeat refine Upd.set ?_ (by rfl) _ _); exact Upd.refl _ _) (Upd.drew (fun k => k = w.heap.size + 1) _) fun _ h => .inl h)) (fail)
      all_goals
        go_wp2_with fail
        (try simp only [Exit.inBlock, Exit.then])
        refine bodyPost_ret (v := .tuple #[.agg #[.int .i64 line, .int .i64 (n : Int), .int .i64 ways, .slice (some ⟨g, 0, none⟩) n c], .bool true]) (results_cell2 rfl rfl rfl (run_loadVar_row (P := Try.prog) _ _ 36 36 _ (0, 0) _ (set4_heap HB1.out _ _ _ _) Try.underlying36 rfl (by kernel_rfl))) rfl ?_
        have hu : Upd (fun k => k = w.heap.size + 1) wr (((((wr.setCell ⟨w.heap.size + 1, 0, none⟩ (.int .i64 line)).setCell ⟨w.heap.size + 1, 1, none⟩ (.int .i64 (n : Int))).setCell ⟨w.heap.size + 1, 2, none⟩ (.int .i64 ways)).setCell ⟨w.heap.size + 1, 3, none⟩ (.slice (some ⟨g, 0, none⟩) n c)).drew) :=
          (show Upd (fun k => k = w.heap.size + 1) wr ((((wr.setCell ⟨w.heap.size + 1, 0, none⟩ (.int .i64 line)).setCell ⟨w.heap.size + 1, 1, none⟩ (.int .i64 (n : Int))).setCell ⟨w.heap.size + 1, 2, none⟩ (.int .i64 ways)).setCell ⟨w.heap.size + 1, 3, none⟩ (.slice (some ⟨g, 0, none⟩) n c)) from by
            (repeat refine Upd.set ?_ (by rfl) _ _)
            exact Upd.refl _ _).trans (Upd.drew _ _) fun _ h => .inl h
        refine ⟨g, c, vs, rfl, ?_, HII.out.below.trans (hu.below HII.out.below.size fun k (h : k = w.heap.size + 1) => by omega)⟩
        rw [hL]
        refine (HOWN.out.upd hu fun k hk (e : k = w.heap.size + 1) => ?_).base fun k hk => ?_
        · have := (HOWN.out.foot_lt k hk).1; omega
        · have := (HOWN.out.foot_lt k hk).1; omega
end Go.Proofs.Ytdkacdfhapgboaa

/- SimWays: with more ways every access that hit hits. -/
set_option linter.unusedVariables false
set_option linter.unusedSimpArgs false
namespace Go.Proofs.Ytdkacdfhapgboaa
open Go.RowKit

theorem shape_ways {line : Int} {n : Int} {w v : Int} (h : shapeB line n w = true) (hv : 1 ≤ v ∧ v ≤ 16) : shapeB line n v = true := by
  simp only [shapeB, Bool.and_eq_true, decide_eq_true_eq] at h ⊢
  exact ⟨h.1, h.2.1, hv.1, hv.2⟩

theorem lns_line (line : Int) (h : 4 ≤ line) (l : List Int) (hu : ∀ x ∈ l, 0 ≤ x ∧ x < 4294967296) : ∀ x ∈ lns line l, 0 ≤ x ∧ x < 4294967296 := by
  intro x hx
  obtain ⟨y, hy, rfl⟩ := List.mem_map.1 hx
  have := hu y hy
  have h1 : y / line ≤ y := Int.ediv_le_self _ this.1
  exact ⟨Int.ediv_nonneg this.1 (by omega), by omega⟩

attribute [local irreducible] World.setCell in
set_option maxRecDepth 100000 in
set_option maxHeartbeats 4000000 in
theorem ways_any (a b d m : Int) (ha : 0 ≤ a ∧ a < 256) (hb : 0 ≤ b ∧ b < 256) (hd : 0 ≤ d ∧ d < 256) (hmm : 0 ≤ m ∧ m < 256) (A : Option Addr) (xs : List Int) (cap : Nat) (w : World) (hr : RdI w .u32 A xs.length xs) (hu : ∀ x ∈ xs, 0 ≤ x ∧ x < 4294967296) (hm : xs.length ≤ 9223372036854775807) :
    Calls Try.prog 4 #[.int .u8 a, .int .u8 b, .int .u8 d, .int .u8 m, .slice A xs.length cap] w fun e w' => e = .returned (.bool true) ∧ Below w.heap.size w w' := by
  have HR := Lib.hid hr
  have HU := Lib.hid hu
  have HA := Lib.hid ha
  have HB := Lib.hid hb
  have HDD := Lib.hid hd
  obtain ⟨m1, m2⟩ := hmm
  clear hr hu ha hb hd
  by_cases hlen : 120 < xs.length
  · go_enter Try.func4, Try.ntmps4
    go_wp2_with fail
    refine (sane_any _).mono ?_
    rintro e W ⟨rfl, hb⟩
    go_wp2
    go_ret
    exact ⟨rfl, hb⟩
  · go_enter Try.func4, Try.ntmps4
    go_wp2_with fail
    refine (shaped_any a b d HA.out HB.out HDD.out _).mono ?_
    rintro e W1 ⟨rfl, hb1⟩
    obtain ⟨hs1, hs2⟩ := setsOf_le b
    obtain ⟨n, hn⟩ : ∃ n : Nat, setsOf b = n := ⟨_, rfl⟩
    have hsh := shape_of a b d
    obtain ⟨hdv, hl1, hl2⟩ := lineOf_dvd a
    have hw12 : 1 ≤ waysOf d ∧ waysOf d ≤ 16 := by unfold waysOf; have := HDD.out; omega
    obtain ⟨line, hline⟩ : ∃ line, lineOf a = line := ⟨_, rfl⟩
    obtain ⟨u, hW⟩ : ∃ u, waysOf d = u := ⟨_, rfl⟩
    rw [hline, hn, hW] at hsh
    rw [hline] at hdv hl1 hl2
    rw [hW] at hw12
    rw [hn] at hs1 hs2
    rw [hline, hn, hW]
    obtain ⟨hw1, hw2⟩ := hw12
    have hmt : m.tmod 16 = m % 16 := Int.tmod_eq_emod_of_nonneg m1
    obtain ⟨r, hrm⟩ : ∃ r, m % 16 = r := ⟨_, rfl⟩
    rw [hrm] at hmt
    have hr0 : 0 ≤ r ∧ r < 16 := by omega
    obtain ⟨hr1, hr2⟩ := hr0
    have hwm : IntKind.i64.wrap m = m := IntWalk.i64_in _ (by omega)
    have hwr : IntKind.i64.wrap r = r := IntWalk.i64_in _ (by omega)
    obtain ⟨z, hz⟩ : ∃ z, u + r = z := ⟨_, rfl⟩
    have hwz : IntKind.i64.wrap (u + r) = z := by rw [hz]; exact IntWalk.i64_in _ (by omega)
    obtain ⟨v, hv⟩ : ∃ v, min z 16 = v := ⟨_, rfl⟩
    have hv1 : 1 ≤ v ∧ v ≤ 16 ∧ u ≤ v := by omega
    have HSH := Lib.hid hsh
    have HSV := Lib.hid (shape_ways hsh ⟨hv1.1, hv1.2.1⟩)
    have HDV := Lib.hid hdv
    have HV := Lib.hid hv1
    have HB1 := Lib.hid hb1
    have hcases : (z ≤ 16 ∧ z = v) ∨ (¬ z ≤ 16 ∧ (16 : Int) = v) := by omega
    obtain ⟨V1, hV1⟩ : ∃ V, ((W1.alloc (.cells #[.int .i64 line, .int .i64 (n : Int), .int .i64 u] 25)).alloc (.cells #[.int .i64 line, .int .i64 (n : Int), .int .i64 v] 25)) = V := ⟨_, rfl⟩
    have hbv : Below W1.heap.size W1 V1 := by rw [← hV1]; exact ((Below.refl _ _).alloc (Nat.le_refl _) _).alloc (by simp) _
    have hx1 : V1.heap[W1.heap.size]? = some (.cells #[.int .i64 line, .int .i64 (n : Int), .int .i64 u] 25 (0, 0)) := by rw [← hV1]; exact (heap_alloc_old _ _ (by simp)).trans (heap_alloc_new W1 _)
    have hx2 : V1.heap[W1.heap.size + 1]? = some (.cells #[.int .i64 line, .int .i64 (n : Int), .int .i64 v] 25 (0, 0)) := by rw [← hV1]; exact alloc_at _ _ _ (by simp)
    have HB1 := Lib.hid (bvia hb1 hbv (Nat.le_refl _))
    have HX1 := Lib.hid hx1
    have HX2 := Lib.hid hx2
    have HV1 := Lib.hid hV1
    clear hsh hdv hv1 hline hn hW hrm hb1 hz hv hbv hx1 hx2 hV1
    rcases hcases with ⟨hz16, hzv⟩ | ⟨hz16, hzv⟩
    all_goals
      have HZV := Lib.hid hzv
      clear hzv
      go_wp2_with fail
      rw [HZV.out, HV1.out]
      refine (replayed_any line u n A cap xs V1 HSH.out (show RdI V1 .u32 A xs.length xs from Rd.below HR.out HB1.out) (by omega) HU.out).mono ?_
      rintro e W2 ⟨q1, rfl, ho1, hb2⟩
      obtain ⟨A1, c1, rfl, hg1⟩ := own_rd ho1
      have HB2 := Lib.hid (HB1.out.trans (hb2.mono HB1.out.size))
      have y1 := belowBox hb2 HX1.out
      have y2 := belowBox hb2 HX2.out
      have x0 := boxAt (i := 0) y2 rfl
      have x1 := boxAt (i := 1) y2 rfl
      have x2 := boxAt (i := 2) y2 rfl
      have HY1 := Lib.hid y1
      have HY2 := Lib.hid y2
      have HG1 := Lib.hid hg1
      clear ho1 hb2 hg1 y1 y2
      go_wp2_with fail
      refine (replayed_any line v n A cap xs W2 HSV.out (show RdI W2 .u32 A xs.length xs from Rd.below HR.out HB2.out) (by omega) HU.out).mono ?_
      rintro e W3 ⟨q2, rfl, ho2, hb3⟩
      obtain ⟨A2, c2, rfl, hg2⟩ := own_rd ho2
      have HB3 := Lib.hid (HB2.out.trans (hb3.mono HB2.out.size))
      have HZ1 := Lib.hid (belowBox hb3 HY1.out)
      have HZ2 := Lib.hid (belowBox hb3 HY2.out)
      have HG1' := Lib.hid (Rd.below HG1.out hb3)
      have HG2 := Lib.hid hg2
      clear ho2 hb3 hg2 x0 x1 x2
      go_wp2_with fail
      go_loop [59] (fun i => ∃ k : Nat, k ≤ xs.length ∧ i = .int .i64 k) (fun i => xs.length - (intOf i).toNat)
      case atStart => exact ⟨0, Nat.zero_le _, rfl⟩
      case round =>
        obtain ⟨k, hk, rfl⟩ := hrel
        by_cases hlt : k < xs.length
        · obtain ⟨a1, e1, y1⟩ := (show RdB W3 A1 xs.length _ from HG1'.out).at k hlt
          subst e1
          obtain ⟨a2, e2, y2⟩ := (show RdB W3 A2 xs.length _ from HG2.out).at k hlt
          subst e2
          have hwh := ways_hit line u v n (by omega) HDV.out (by omega) HV.out.2.2 xs HU.out k hlt
          obtain ⟨g1, hg1⟩ : ∃ g1, gb (replayL line n u (List.replicate n []) xs).2 k = g1 := ⟨_, rfl⟩
          obtain ⟨g2, hg2⟩ : ∃ g2, gb (replayL line n v (List.replicate n []) xs).2 k = g2 := ⟨_, rfl⟩
          rw [hg1, hg2] at hwh
          rw [hg1] at y1
          rw [hg2] at y2
          clear hg1 hg2
          cases g1
          · clear hwh
            go_wp2_with fail
            go_round
            case rel => exact ⟨k + 1, by omega, by go_num⟩
            case measure => simp [intOf]; omega
          · obtain rfl := hwh rfl
            clear hwh
            go_wp2_with fail
            go_round
            case rel => exact ⟨k + 1, by omega, by go_num⟩
            case measure => simp [intOf]; omega
        · have z0 := boxAt (i := 0) HZ1.out rfl
          have z1 := boxAt (i := 1) HZ1.out rfl
          have z2 := boxAt (i := 2) HZ1.out rfl
          go_wp2_with fail
          refine (filled_any line u n A cap xs W3 HSH.out (show RdI W3 .u32 A xs.length xs from Rd.below HR.out HB3.out) (by omega) HU.out).mono ?_
          rintro e W4 ⟨g4, c4, vs4, rfl, ho4, hb4⟩
          have HB4 := Lib.hid (HB3.out.trans (hb4.mono HB3.out.size))
          obtain ⟨V4, hV4⟩ : ∃ V, W4.alloc (.cells #[.int .i64 line, .int .i64 (n : Int), .int .i64 u, .slice (some ⟨g4, 0, none⟩) n c4] 36) = V := ⟨_, rfl⟩
          have hbv4 : Below W4.heap.size W4 V4 := by rw [← hV4]; exact balloc _ _
          have hxv4 : V4.heap[W4.heap.size]? = some (.cells #[.int .i64 line, .int .i64 (n : Int), .int .i64 u, .slice (some ⟨g4, 0, none⟩) n c4] 36 (0, 0)) := by rw [← hV4]; exact heap_alloc_new _ _
          have HBV := Lib.hid (HB4.out.trans (hbv4.mono HB4.out.size))
          have HXV := Lib.hid hxv4
          have hd4 := belowBox hbv4 (belowBox hb4 HZ2.out)
          have x0 := boxAt (i := 0) hd4 rfl
          have x1 := boxAt (i := 1) hd4 rfl
          have x2 := boxAt (i := 2) hd4 rfl
          have HC4 := Lib.hid (belowBox hbv4 (belowBox hb4 HZ1.out))
          have HO4 := Lib.hid (ho4.upd (Upd.of_below hbv4) fun k hk (e : W4.heap.size ≤ k) => by have := (ho4.foot_lt k hk).2; omega)
          clear ho4 hb4 z0 z1 z2 hbv4 hxv4 hd4
          go_wp2_with fail
          refine (filled_any line v n A cap xs V4 HSV.out (show RdI V4 .u32 A xs.length xs from Rd.below HR.out HBV.out) (by omega) HU.out).mono ?_
          rintro e W5 ⟨g5, c5, vs5, rfl, ho5, hb5⟩
          obtain ⟨V5, hV5⟩ : ∃ V, W5.alloc (.cells #[.int .i64 line, .int .i64 (n : Int), .int .i64 v, .slice (some ⟨g5, 0, none⟩) n c5] 36) = V := ⟨_, rfl⟩
          have hbv5 : Below W5.heap.size W5 V5 := by rw [← hV5]; exact balloc _ _
          have hxv5 : V5.heap[W5.heap.size]? = some (.cells #[.int .i64 line, .int .i64 (n : Int), .int .i64 v, .slice (some ⟨g5, 0, none⟩) n c5] 36 (0, 0)) := by rw [← hV5]; exact heap_alloc_new _ _
          have hb45 : Below V4.heap.size V4 V5 := hb5.trans (hbv5.mono hb5.size)
          have HB5 := Lib.hid (HBV.out.trans (hb45.mono HBV.out.size))
          have HX5 := Lib.hid (belowBox hb45 HXV.out)
          have HY5 := Lib.hid hxv5
          have HC5 := Lib.hid (belowBox hb45 HC4.out)
          have HLN := Lib.hid (lns_line line (by omega) xs HU.out)
          have hs4 := (HO4.out.rdSets (by rw [replayL_sets line n u (by omega) HDV.out xs _ HU.out]; exact allU_run _ (allU_new n) HLN.out)).below hb45
          have hs5 := ((ho5.upd (Upd.of_below hbv5) fun k hk (e : W5.heap.size ≤ k) => by have := (ho5.foot_lt k hk).2; omega).rdSets (by rw [replayL_sets line n v (by omega) HDV.out xs _ HU.out]; exact allU_run _ (allU_new n) HLN.out))
          have hset := ways_sets u v n HV.out.2.2 (lns line xs)
          rw [← replayL_sets line n u (by omega) HDV.out xs _ HU.out, ← replayL_sets line n v (by omega) HDV.out xs _ HU.out] at hset
          obtain ⟨L4, hL4⟩ : ∃ L4, (replayL line n u (List.replicate n []) xs).1 = L4 := ⟨_, rfl⟩
          obtain ⟨L5, hL5⟩ : ∃ L5, (replayL line n v (List.replicate n []) xs).1 = L5 := ⟨_, rfl⟩
          have hn4 : L4.length = n := by rw [← hL4, replayL_sets line n u (by omega) HDV.out xs _ HU.out, runL_length, List.length_replicate]
          have hn5 : L5.length = n := by rw [← hL5, replayL_sets line n v (by omega) HDV.out xs _ HU.out, runL_length, List.length_replicate]
          rw [hL4] at hs4 hset
          rw [hL5] at hs5 hset
          have H4 := Lib.hid hs4
          have H5 := Lib.hid hs5
          have HSET := Lib.hid hset
          have HN4 := Lib.hid hn4
          have HN5 := Lib.hid hn5
          have w0 := boxAt (i := 0) HX5.out rfl
          have w3 := boxAt (i := 3) HX5.out rfl
          have v3 := boxAt (i := 3) HY5.out rfl
          have k2 := boxAt (i := 2) HC5.out rfl
          clear hs4 hs5 hset hL4 hL5 hn4 hn5 hbv5 hxv5 hb5 hb45 ho5 x0 x1 x2
          go_wp2_with fail
          go_loopw [95] (fun i wr => ∃ k : Nat, k ≤ n ∧ i = .int .i64 k ∧ Hid (Below V5.heap.size V5 wr)) (fun i _ => n - (intOf i).toNat)
          case atStart => exact ⟨0, Nat.zero_le _, rfl, Lib.hid (Below.refl _ _)⟩
          case round =>
            obtain ⟨k, hk, rfl, hI⟩ := hrel
            by_cases hlt : k < n
            · obtain ⟨A6, c6, e6, hn6, hc6, hr6⟩ := (H4.out.each k (by rw [HN4.out]; exact hlt)).rd
              obtain ⟨A7, c7, e7, hn7, hc7, hr7⟩ := (H5.out.each k (by rw [HN5.out]; exact hlt)).rd
              obtain ⟨hs1', hs2', hs3'⟩ := HSET.out k hlt
              have hvl4 : k < vs4.length := by have := H4.out.row.len; rw [HN4.out] at this; omega
              have hvl5 : k < vs5.length := by have := H5.out.row.len; rw [HN5.out] at this; omega
              have hcell4 : V5.cell? ⟨g4, k, none⟩ = some (.slice A6 (gl L4 k).length c6) := by
                obtain ⟨ad, e, h⟩ := H4.out.row.cell k hvl4
                cases e
                rw [add_off, ← gv_get vs4 k hvl4, e6] at h
                exact h
              have hcell5 : V5.cell? ⟨g5, k, none⟩ = some (.slice A7 (gl L5 k).length c7) := by
                obtain ⟨ad, e, h⟩ := H5.out.row.cell k hvl5
                cases e
                rw [add_off, ← gv_get vs5 k hvl5, e7] at h
                exact h
              have heq : ∀ W', Below V5.heap.size V5 W' → Calls Try.prog 17 #[.slice A6 (gl L4 k).length c6, .slice A7 (gl L4 k).length c7] W' fun e w' => e = .returned (.bool true) ∧ Below W'.heap.size W' w' := fun W' hb => by
                have := equal_u32 A6 A7 (gl L4 k).length c6 (gl L4 k).length c7 (gl L4 k) ((gl L5 k).take (gl L4 k).length) W' (Rd.below hr6 hb) (RdI.take (Rd.below hr7 hb) _ hs1')
                rw [decide_eq_true hs2'] at this
                exact this
              obtain ⟨p, hp⟩ : ∃ p, (gl L4 k).length = p := ⟨_, rfl⟩
              obtain ⟨q, hq⟩ : ∃ q, (gl L5 k).length = q := ⟨_, rfl⟩
              rw [hp, hq] at hs3' hs1'
              rw [hp] at hcell4 heq
              rw [hq] at hcell5 hc7
              have hkp : ∀ W', Below V5.heap.size V5 W' → W'.cell? ⟨W4.heap.size, 3, none⟩ = some (.slice (some ⟨g4, 0, none⟩) n c4) ∧ W'.cell? ⟨W5.heap.size, 3, none⟩ = some (.slice (some ⟨g5, 0, none⟩) n c5) ∧ W'.cell? ⟨g4, k, none⟩ = some (.slice A6 p c6) ∧ W'.cell? ⟨g5, k, none⟩ = some (.slice A7 q c7) ∧ W'.cell? ⟨W1.heap.size, 2, none⟩ = some (.int .i64 u) := fun W' h =>
                ⟨bkeep h (boxAt (i := 3) HX5.out rfl), bkeep h (boxAt (i := 3) HY5.out rfl), bkeep h hcell4, bkeep h hcell5, bkeep h (boxAt (i := 2) HC5.out rfl)⟩
              obtain ⟨s1, s2, s3, s4, s5⟩ := hkp wr hI.out
              have hpq : ¬ (q : Int) < (p : Int) := by omega
              have hpc : (p : Int) ≤ (c7 : Int) := by omega
              have hp0 : (0 : Int) ≤ (p : Int) := by omega
              have HKP := Lib.hid hkp
              have HEQ := Lib.hid heq
              have hthird : (decide ((p : Int) < u) = true ∧ decide (p < q) = false) ∨ (decide ((p : Int) < u) = false ∧ True) := by
                by_cases h : (p : Int) < u
                · exact .inl ⟨decide_eq_true h, decide_eq_false (by have := hs3' (by omega); omega)⟩
                · exact .inr ⟨decide_eq_false h, trivial⟩
              have hpqd : decide (q < p) = false := decide_eq_false (by omega)
              clear hkp heq hs1' hs2' hs3' hc6 hc7 hn6 hn7 hr6 hr7 e6 e7 hcell4 hcell5 hp hq hvl4 hvl5 w0 w3 v3 k2
              rcases hthird with ⟨hpu, hpq2⟩ | ⟨hpu, _⟩
              all_goals
                go_wp2_with fail
                have heqq : ∀ q' : After wr.heap.size wr, Calls Try.prog 17 #[.slice A6 p c6, .slice A7 p c7] q'.W fun e w' => e = .returned (.bool true) ∧ Below q'.W.heap.size q'.W w' := fun q' => HEQ.out q'.W (hI.out.trans (q'.below.mono hI.out.size))
                have HEQQ := Lib.hid heqq
                have f1 := After.cell s1
                have f2 := After.cell s2
                have f3 := After.cell s3
                have f4 := After.cell s4
                have f5 := After.cell s5
                clear heqq
                refine region_after (Below.refl wr.heap.size wr) (by kernel_rfl) (by kernel_rfl) ?_
                repeat (go_big_quiet_step (first
                  | (go_at_call 17; exact calls_after (Nat.le_refl _) (HEQQ.out _))))
                refine wpQuiet_nil ?_
                intro _ hw'
                obtain ⟨nq, hw''⟩ := hw'
                subst hw''
                clear f1 f2 f3 f4 f5
                go_wp2_with fail
                go_roundw
                case rel => exact ⟨k + 1, by omega, by go_num, Lib.hid (hI.out.trans (nq.below.mono hI.out.size))⟩
                case measure => simp [intOf]; omega
            · go_wp2_with fail
              refine (sane_any wr).mono ?_
              rintro e W9 ⟨rfl, hb9⟩
              go_wp2_with fail
              go_ret
              exact ⟨rfl, (HB5.out.trans (hI.out.mono HB5.out.size)).trans (hb9.mono (by have := hI.out.size; have := HB5.out.size; omega))⟩
end Go.Proofs.Ytdkacdfhapgboaa
