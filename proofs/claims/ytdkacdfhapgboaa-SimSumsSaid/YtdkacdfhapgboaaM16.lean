/- Part 16 of the texts that the proof stands on: FeedX, Same, SameX, FeedY. -/
import Derived.Test.YtdkacdfhapgboaaM15
import Derived.BigQuiet
import Derived.Deep.QuietTactic
import Derived.Deep.RegionHeld3

/- sim.Feed in full: a short feed of a simulation without numbers ends well. No program in sight. -/
set_option linter.unusedVariables false
set_option linter.unusedSimpArgs false
namespace Go.Proofs.Ytdkacdfhapgboaa
open Go.RowKit

theorem add1_up (c : List Int) (j k : Nat) (hj : j < c.length) (hk : k < c.length) : gi (add1 c j) k ≤ gi c k + 1 := by
  rw [add1_gi c j k hj hk]
  split <;> omega
theorem acts_up (K : GC) (s : GS) (e c : List Int) (hl : c.length = 14) (h1 : 4 ≤ K.il ∧ K.il ≤ 256) (h2 : 4 ≤ K.dl ∧ K.dl ≤ 256) (h3 : 4 ≤ K.ll) (hu : EvU e) (hw : wfB (gi e 0) (gi e 4) (gi e 5) = true) (i : Nat) (hi : i < 14) : gi (s.acts K e c).2 i ≤ gi c i + 4300000002 := by
  have ac : ∀ (j : Nat) (m d : Nat), j + 2 < 14 → m ≤ 65538 → d ≤ 4300000000 → gi (addC c j m d) i ≤ gi c i + 4300000000 := fun j m d hj hm hd => (addC_le c j m d hl hj ⟨by omega, by omega⟩ ⟨by omega, by omega⟩ i hi).2
  have a1 : ∀ j, j < 14 → gi (add1 c j) i ≤ gi c i + 1 := fun j hj => add1_up c j i (by omega) (by omega)
  have a2 : ∀ j k, j < 14 → k < 14 → gi (add1 (add1 c j) k) i ≤ gi c i + 2 := fun j k hj hk => by
    have := add1_up (add1 c j) k i (by rw [add1_len]; omega) (by rw [add1_len]; omega)
    have := a1 j hj
    omega
  unfold GS.acts
  split
  · rename_i hk
    rw [hk] at hw
    have hn : 1 ≤ gi e 5 ∧ gi e 5 ≤ 65536 := by simpa [wfB] using hw
    obtain ⟨b1, b2⟩ := acc_le K.il K.iw K.ll K.lw (gi e 2) (gi e 5) s.I s.L h1 h3 hu.pc.1 hn
    have := ac 1 _ _ (by omega) b1 b2
    dsimp only
    omega
  · split
    · rename_i hk
      rw [hk] at hw
      have hn : 1 ≤ gi e 5 ∧ gi e 5 ≤ 65536 := by simpa [wfB] using hw
      obtain ⟨b1, b2⟩ := acc_le K.dl K.dw K.ll K.lw (gi e 3) (gi e 5) s.D s.L h2 h3 hu.a.1 hn
      have := ac 4 _ _ (by omega) b1 b2
      dsimp only
      omega
    · split
      · rename_i hk
        rw [hk] at hw
        have hn : 1 ≤ gi e 5 ∧ gi e 5 ≤ 65536 := by simpa [wfB] using hw
        obtain ⟨b1, b2⟩ := acc_le K.dl K.dw K.ll K.lw (gi e 3) (gi e 5) s.D s.L h2 h3 hu.a.1 hn
        have := ac 7 _ _ (by omega) b1 b2
        dsimp only
        omega
      · split
        · rename_i hk
          rw [hk] at hw
          have hn : 1 ≤ gi e 5 ∧ gi e 5 ≤ 65536 := by simpa [wfB] using hw
          obtain ⟨b1, b2⟩ := acc_le K.dl K.dw K.ll K.lw (gi e 3) (gi e 5) s.D s.L h2 h3 hu.a.1 hn
          have h4 := ac 4 _ _ (by omega) b1 b2
          have h5 := add1_up (addC c 4 ((runL s.D.length K.dw s.D (linI K.dl (gi e 3) (gi e 5))).2.length : Int) ((farL K.dl K.ll s.L.length K.lw s.L (runL s.D.length K.dw s.D (linI K.dl (gi e 3) (gi e 5))).2).2 : Int)) 7 i (by rw [addC_len]; omega) (by rw [addC_len]; omega)
          dsimp only
          omega
        · split
          · show gi (if _ then _ else _) i ≤ _
            split
            · have := a1 10 (by omega); omega
            · have := a2 10 11 (by omega) (by omega); omega
          · show gi (if _ then _ else _) i ≤ _
            split
            · have := a1 12 (by omega); omega
            · have := a2 12 13 (by omega) (by omega); omega
theorem mem_rowN {N : List (List Int)} {pc : Int} {c : List Int} (hc : c ∈ rowN N pc) : c ∈ N ∨ c = pc :: List.replicate 13 0 := by
  unfold rowN at hc
  split at hc
  · exact .inl hc
  · rcases List.mem_append.1 hc with h1 | h1
    · exact .inl (List.mem_of_mem_take h1)
    · rcases List.mem_cons.1 h1 with h2 | h2
      · exact .inr h2
      · exact .inl (List.mem_of_mem_drop h2)
/-- One event of a simulation with small numbers. -/
theorem ev_some {K : GC} {t : Int} {nI nD nL : Nat} {s : GS} (hok : GOk K t nI nD nL s) (b : Int) (hb : 0 ≤ b) (hn : ∀ c ∈ s.N, ∀ j, 1 ≤ j → j < 14 → gi c j ≤ b) (hb2 : b + 4300000002 ≤ 1099511627776) {e : List Int} (hu : EvU e) :
    ∃ s', s.ev K e = some s' ∧ ∀ c ∈ s'.N, ∀ j, 1 ≤ j → j < 14 → gi c j ≤ b + 4300000002 := by
  have hc : (s.called K e).N = s.N := by unfold GS.called; split <;> rfl
  unfold GS.ev
  split
  · rename_i hon
    rw [hc]
    have hw : wfB (gi e 0) (gi e 4) (gi e 5) = true := by simp at hon; exact hon.2
    have h1 := hok.n.row (gi e 2)
    obtain ⟨h2, _⟩ := rowN_at (pc := gi e 2) hok.n.sorted
    have hg : gn (rowN s.N (gi e 2)) (posN s.N (gi e 2)) = (rowN s.N (gi e 2))[posN s.N (gi e 2)] := by simp [gn, List.getD_eq_getElem?_getD, h2]
    have hm : gn (rowN s.N (gi e 2)) (posN s.N (gi e 2)) ∈ rowN s.N (gi e 2) := by rw [hg]; exact List.getElem_mem h2
    have hl := h1.len _ hm
    obtain ⟨i1, i2, _⟩ := shapeB_line hok.i.1
    obtain ⟨d1, d2, _⟩ := shapeB_line hok.d.1
    obtain ⟨l1, l2, _⟩ := shapeB_line hok.l.1
    have hrb : ∀ c ∈ rowN s.N (gi e 2), ∀ j, 1 ≤ j → j < 14 → gi c j ≤ b := fun c hc j hj1 hj => by
      rcases mem_rowN hc with h3 | h3
      · exact hn c h3 j hj1 hj
      · rw [h3, zeros_gi _ j hj1 hj]; exact hb
    have hup : ∀ j, 1 ≤ j → j < 14 → gi ((s.called K e).acts K e (gn (rowN s.N (gi e 2)) (posN s.N (gi e 2)))).2 j ≤ b + 4300000002 := fun j hj1 hj => by
      have h3 := acts_up K (s.called K e) e _ hl ⟨i1, i2⟩ ⟨d1, d2⟩ l1 hu hw j hj
      have h4 := hrb _ hm j hj1 hj
      omega
    have hgr := grows_acts K (s.called K e) e _ hl
    have hov : (cntX ((s.called K e).acts K e (gn (rowN s.N (gi e 2)) (posN s.N (gi e 2)))).2).any overN = false := over_false _ fun j hj1 hj => by
      have h3 := hup j hj1 hj
      have h4 := hgr.up j hj
      have h5 := (h1.num _ hm j hj1 hj).1
      omega
    dsimp only
    rw [if_neg (by rw [hov]; simp)]
    refine ⟨_, rfl, fun c hc j hj1 hj => ?_⟩
    rcases List.mem_or_eq_of_mem_set hc with h3 | h3
    · have := hrb c h3 j hj1 hj; omega
    · rw [h3]; exact hup j hj1 hj
  · refine ⟨_, rfl, fun c h j hj1 hj => ?_⟩
    rw [hc] at h
    have := hn c h j hj1 hj
    omega
theorem feed_some {K : GC} {t : Int} {nI nD nL : Nat} : ∀ (es : List (List Int)) {s : GS} (b : Int), GOk K t nI nD nL s → 0 ≤ b → (∀ c ∈ s.N, ∀ j, 1 ≤ j → j < 14 → gi c j ≤ b) → b + 4300000002 * (es.length : Int) ≤ 1099511627776 → (∀ e ∈ es, EvU e) → ∃ s', s.feed K es = some s'
  | [], s, b, _, _, _, _, _ => ⟨s, rfl⟩
  | e :: es, s, b, hok, hb, hn, hb2, hu => by
    have hlen : ((e :: es).length : Int) = es.length + 1 := by simp
    rw [hlen] at hb2
    obtain ⟨s1, h1, h2⟩ := ev_some hok b hb hn (by omega) (hu e (List.mem_cons_self ..))
    obtain ⟨s2, h3⟩ := feed_some es (b + 4300000002) (hok.ev h1) (by omega) h2 (by omega) fun x hx => hu x (List.mem_cons_of_mem _ hx)
    refine ⟨s2, ?_⟩
    unfold GS.feed at h3 ⊢
    rw [List.foldlM_cons, h1]
    exact h3
end Go.Proofs.Ytdkacdfhapgboaa

/- Equal lists, equal caches: the specification's own comparisons. -/
set_option linter.unusedVariables false
set_option linter.unusedSimpArgs false
namespace Go.Proofs.Ytdkacdfhapgboaa
open Go.RowKit

set_option maxHeartbeats 1000000 in
theorem sameWords_true (A A' : Option Addr) (n c c' : Nat) (xs : List Int) (w : World) (h : RdI w .u32 A n xs) (h' : RdI w .u32 A' n xs) :
    Calls Try.prog 43 #[.slice A n c, .slice A' n c'] w fun e w' => e = .returned (.bool true) ∧ Below w.heap.size w w' := by
  have hle := h.le
  have H := Lib.hid h
  have H' := Lib.hid h'
  clear h h'
  go_enter Try.func43, Try.ntmps43
  go_wp2_with fail
  go_loopw [5] (fun i wr => ∃ k : Nat, k ≤ n ∧ i = .int .i64 k ∧ Hid (Below w.heap.size w wr)) (fun i _ => n - (intOf i).toNat)
  case atStart => exact ⟨0, Nat.zero_le _, rfl, Lib.hid (Below.refl _ _)⟩
  case round =>
    obtain ⟨k, hk, rfl, hI⟩ := hrel
    by_cases hlt : k < n
    · obtain ⟨ad, rfl, hc⟩ := RdI.at (show RdI wr .u32 A n xs from Rd.below H.out hI.out) k hlt
      obtain ⟨ad', rfl, hc'⟩ := RdI.at (show RdI wr .u32 A' n xs from Rd.below H'.out hI.out) k hlt
      obtain ⟨x, hx⟩ : ∃ x, gi xs k = x := ⟨_, rfl⟩
      rw [hx] at hc hc'
      clear hx
      go_wp2_with fail
      go_quiet (fail)
      go_wp2_with fail
      go_roundw
      case rel => exact ⟨k + 1, by omega, by go_num, Lib.hid (bdrewN hI.out _)⟩
      case measure => simp [intOf]; omega
    · go_wp2_with fail
      go_ret
      exact ⟨rfl, hI.out⟩

attribute [local irreducible] World.setCell in
set_option maxRecDepth 100000 in
set_option maxHeartbeats 1000000 in
theorem sameCache_true (line ways : Int) (n g c g' c' : Nat) (vs vs' : List Value) (L : List (List Int)) (w : World) (h : RdSets w (some ⟨g, 0, none⟩) vs L) (h' : RdSets w (some ⟨g', 0, none⟩) vs' L) (hn : L.length = n) :
    Calls Try.prog 21 #[.agg #[.int .i64 line, .int .i64 (n : Int), .int .i64 ways, .slice (some ⟨g, 0, none⟩) n c], .agg #[.int .i64 line, .int .i64 (n : Int), .int .i64 ways, .slice (some ⟨g', 0, none⟩) n c']] w fun e w' => e = .returned (.bool true) ∧ Below w.heap.size w w' := by
  have H := Lib.hid h
  have H' := Lib.hid h'
  have HN := Lib.hid hn
  have hle := h.row.le
  rw [hn] at hle
  clear h h' hn
  go_enter Try.func21, Try.ntmps21
  go_wp2_with fail
  obtain ⟨V0, hV0⟩ : ∃ V, ((w.alloc (.cells #[.int .i64 line, .int .i64 (n : Int), .int .i64 ways, .slice (some ⟨g, 0, none⟩) n c] 36)).alloc (.cells #[.int .i64 line, .int .i64 (n : Int), .int .i64 ways, .slice (some ⟨g', 0, none⟩) n c'] 36)) = V := ⟨_, rfl⟩
  have hb0 : Below w.heap.size w V0 := by rw [← hV0]; exact ((Below.refl _ _).alloc (Nat.le_refl _) _).alloc (by simp) _
  have hx0 : V0.heap[w.heap.size]? = some (.cells #[.int .i64 line, .int .i64 (n : Int), .int .i64 ways, .slice (some ⟨g, 0, none⟩) n c] 36 (0, 0)) := by rw [← hV0]; exact (heap_alloc_old _ _ (by simp)).trans (heap_alloc_new w _)
  have hx1 : V0.heap[w.heap.size + 1]? = some (.cells #[.int .i64 line, .int .i64 (n : Int), .int .i64 ways, .slice (some ⟨g', 0, none⟩) n c'] 36 (0, 0)) := by rw [← hV0]; exact alloc_at _ _ _ (by simp)
  rw [hV0]
  have HX0 := Lib.hid hx0
  have HX1 := Lib.hid hx1
  have HB0 := Lib.hid hb0
  clear hV0 hx0 hx1 hb0
  go_loopw [5] (fun i wr => ∃ k : Nat, k ≤ n ∧ i = .int .i64 k ∧ Hid (Below V0.heap.size V0 wr)) (fun i _ => n - (intOf i).toNat)
  case atStart => exact ⟨0, Nat.zero_le _, rfl, Lib.hid (Below.refl _ _)⟩
  case round =>
    obtain ⟨k, hk, rfl, hI⟩ := hrel
    have s1 := boxAt (i := 3) (belowBox hI.out HX0.out) rfl
    have s2 := boxAt (i := 3) (belowBox hI.out HX1.out) rfl
    by_cases hlt : k < n
    · obtain ⟨A6, c6, e6, hn6, hc6, hr6⟩ := (H.out.each k (by rw [HN.out]; exact hlt)).rd
      obtain ⟨A7, c7, e7, hn7, hc7, hr7⟩ := (H'.out.each k (by rw [HN.out]; exact hlt)).rd
      have hvl4 : k < vs.length := by have := H.out.row.len; rw [HN.out] at this; omega
      have hvl5 : k < vs'.length := by have := H'.out.row.len; rw [HN.out] at this; omega
      have hbw : Below w.heap.size w wr := HB0.out.trans (hI.out.mono HB0.out.size)
      have s3 : wr.cell? ⟨g, k, none⟩ = some (.slice A6 (gl L k).length c6) := by
        obtain ⟨ad, e, h⟩ := H.out.row.cell k hvl4
        cases e
        rw [add_off, ← gv_get vs k hvl4, e6] at h
        exact bkeep hbw h
      have s4 : wr.cell? ⟨g', k, none⟩ = some (.slice A7 (gl L k).length c7) := by
        obtain ⟨ad, e, h⟩ := H'.out.row.cell k hvl5
        cases e
        rw [add_off, ← gv_get vs' k hvl5, e7] at h
        exact bkeep hbw h
      have heqq : ∀ q' : After wr.heap.size wr, Calls Try.prog 43 #[.slice A6 (gl L k).length c6, .slice A7 (gl L k).length c7] q'.W fun e w' => e = .returned (.bool true) ∧ Below q'.W.heap.size q'.W w' := fun q' =>
        sameWords_true A6 A7 _ c6 c7 (gl L k) q'.W (Rd.below hr6 (hbw.trans (q'.below.mono hbw.size))) (Rd.below hr7 (hbw.trans (q'.below.mono hbw.size)))
      obtain ⟨p, hp⟩ : ∃ p, (gl L k).length = p := ⟨_, rfl⟩
      rw [hp] at s3 s4 heqq
      have HEQQ := Lib.hid heqq
      clear e6 e7 hn6 hn7 hc6 hc7 hr6 hr7 hvl4 hvl5 hbw heqq hp
      go_wp2_with fail
      have f1 := After.cell s1
      have f2 := After.cell s2
      have f3 := After.cell s3
      have f4 := After.cell s4
      refine region_after (Below.refl wr.heap.size wr) (by kernel_rfl) (by kernel_rfl) ?_
      repeat (go_big_quiet_step (first
        | (go_at_call 43; exact calls_after (Nat.le_refl _) (HEQQ.out _))))
      refine wpQuiet_nil ?_
      intro _ hw'
      obtain ⟨nq, hw''⟩ := hw'
      subst hw''
      clear f1 f2 f3 f4
      go_wp2_with fail
      go_roundw
      case rel => exact ⟨k + 1, by omega, by go_num, Lib.hid (hI.out.trans (nq.below.mono hI.out.size))⟩
      case measure => simp [intOf]; omega
    · go_wp2_with fail
      go_ret
      exact ⟨rfl, HB0.out.trans (hI.out.mono HB0.out.size)⟩
end Go.Proofs.Ytdkacdfhapgboaa

/- Two simulations that read alike are the same to the specification's own comparison. (printed by gen/samex.py) -/
set_option linter.unusedVariables false
set_option linter.unusedSimpArgs false
namespace Go.Proofs.Ytdkacdfhapgboaa
open Go.RowKit

set_option maxRecDepth 100000 in
set_option maxHeartbeats 2000000 in
theorem samePredS_true (t h r : Int) (A A' R R' : Option Addr) (c c' rc rc' : Nat) (cs rs : List Int) (hist : Int) (w : World) (h1 : RdI w .i64 A cs.length cs) (h1' : RdI w .i64 A' cs.length cs) (h2 : RdI w .u32 R rs.length rs) (h2' : RdI w .u32 R' rs.length rs) :
    Calls Try.prog 68 #[.agg #[.int .i64 t, .int .i64 h, .int .i64 r, .slice A cs.length c, .int .u32 hist, .slice R rs.length rc], .agg #[.int .i64 t, .int .i64 h, .int .i64 r, .slice A' cs.length c', .int .u32 hist, .slice R' rs.length rc']] w
      fun e w' => e = .returned (.bool true) ∧ Below w.heap.size w w' := by
  obtain ⟨W0, hW0⟩ : ∃ W0, (w.alloc (.cells #[.int .i64 t, .int .i64 h, .int .i64 r, .slice A cs.length c, .int .u32 hist, .slice R rs.length rc] 52)).alloc (.cells #[.int .i64 t, .int .i64 h, .int .i64 r, .slice A' cs.length c', .int .u32 hist, .slice R' rs.length rc'] 52) = W0 := ⟨_, rfl⟩
  have hb0 : Below w.heap.size w W0 := by rw [← hW0]; exact ((Below.refl _ _).alloc (Nat.le_refl _) _).alloc (by simp) _
  have hx0 : W0.heap[w.heap.size]? = some (.cells #[.int .i64 t, .int .i64 h, .int .i64 r, .slice A cs.length c, .int .u32 hist, .slice R rs.length rc] 52 (0, 0)) := by rw [← hW0]; exact (heap_alloc_old _ _ (by simp)).trans (heap_alloc_new w _)
  have hx1 : W0.heap[w.heap.size + 1]? = some (.cells #[.int .i64 t, .int .i64 h, .int .i64 r, .slice A' cs.length c', .int .u32 hist, .slice R' rs.length rc'] 52 (0, 0)) := by rw [← hW0]; exact alloc_at _ _ _ (by simp)
  obtain ⟨c0, c1, c2, c3, c4, c5, _⟩ := box6 hx0
  obtain ⟨d0, d1, d2, d3, d4, d5, _⟩ := box6 hx1
  have H1 := Lib.hid (show RdI W0 .i64 A cs.length cs from Rd.below h1 hb0)
  have H1' := Lib.hid (show RdI W0 .i64 A' cs.length cs from Rd.below h1' hb0)
  have H2 := Lib.hid (show RdI W0 .u32 R rs.length rs from Rd.below h2 hb0)
  have H2' := Lib.hid (show RdI W0 .u32 R' rs.length rs from Rd.below h2' hb0)
  have HX0 := Lib.hid hx0
  have HX1 := Lib.hid hx1
  have HB0 := Lib.hid hb0
  have hle := h1.le
  clear h1 h1' h2 h2' hx0 hx1 hb0
  go_enter Try.func68, Try.ntmps68
  go_wp2_with fail
  refine (sameWords_true R R' rs.length rc rc' rs _ H2.out H2'.out).mono ?_
  rintro e W1 ⟨rfl, hb1⟩
  have HB1 := Lib.hid (HB0.out.trans (hb1.mono HB0.out.size))
  have K1 := Lib.hid (show RdI W1 .i64 A cs.length cs from Rd.below H1.out hb1)
  have K1' := Lib.hid (show RdI W1 .i64 A' cs.length cs from Rd.below H1'.out hb1)
  have Y0 := Lib.hid (belowBox hb1 HX0.out)
  have Y1 := Lib.hid (belowBox hb1 HX1.out)
  obtain ⟨e0, e1, e2, e3, e4, e5, _⟩ := box6 Y0.out
  obtain ⟨g0, g1, g2, g3, g4, g5, _⟩ := box6 Y1.out
  clear c0 c1 c2 c3 c4 c5 d0 d1 d2 d3 d4 d5 hb1
  go_wp2_with fail
  clear e0 e1 e2 e3 e4 e5 g0 g1 g2 g3 g4 g5
  go_loopw [5] (fun i wr => ∃ k : Nat, k ≤ cs.length ∧ i = .int .i64 k ∧ Hid (Below W1.heap.size W1 wr)) (fun i _ => cs.length - (intOf i).toNat)
  case atStart => exact ⟨0, Nat.zero_le _, rfl, Lib.hid (Below.refl _ _)⟩
  case round =>
    obtain ⟨k, hk, rfl, hI⟩ := hrel
    have s1 := boxAt (i := 3) (belowBox hI.out Y0.out) rfl
    have s2 := boxAt (i := 3) (belowBox hI.out Y1.out) rfl
    by_cases hlt : k < cs.length
    · obtain ⟨ad, rfl, hc⟩ := RdI.at (show RdI wr .i64 A cs.length cs from Rd.below K1.out hI.out) k hlt
      obtain ⟨ad', rfl, hc'⟩ := RdI.at (show RdI wr .i64 A' cs.length cs from Rd.below K1'.out hI.out) k hlt
      obtain ⟨x, hx⟩ : ∃ x, gi cs k = x := ⟨_, rfl⟩
      rw [hx] at hc hc'
      clear hx
      go_wp2_with fail
      go_quiet (fail)
      go_wp2_with fail
      go_roundw
      case rel => exact ⟨k + 1, by omega, by go_num, Lib.hid (bdrewN hI.out _)⟩
      case measure => simp [intOf]; omega
    · go_wp2_with fail
      go_ret
      exact ⟨rfl, HB1.out.trans (hI.out.mono HB1.out.size)⟩

set_option maxRecDepth 100000 in
set_option maxHeartbeats 4000000 in
theorem sameSim_true (il iw dl dw ll lw pt ph pr : Int) (gI kI gD kD gL kL gI' kI' gD' kD' gL' kL' : Nat) (A A' R R' N N' : Option Addr) (ca ca' ra ra' nc nc' : Nat) (vI vD vL vI' vD' vL' : List Value) (LI LD LL : List (List Int)) (cs rs : List Int) (hist : Int) (ns : List (List Int)) (w : World)
    (hI : RdSets w (some ⟨gI, 0, none⟩) vI LI) (hD : RdSets w (some ⟨gD, 0, none⟩) vD LD) (hL : RdSets w (some ⟨gL, 0, none⟩) vL LL) (hI' : RdSets w (some ⟨gI', 0, none⟩) vI' LI) (hD' : RdSets w (some ⟨gD', 0, none⟩) vD' LD) (hL' : RdSets w (some ⟨gL', 0, none⟩) vL' LL)
    (hA : RdI w .i64 A cs.length cs) (hA' : RdI w .i64 A' cs.length cs) (hR : RdI w .u32 R rs.length rs) (hR' : RdI w .u32 R' rs.length rs) (hN : RdN w N ns) (hN' : RdN w N' ns) :
    Calls Try.prog 29 #[.agg #[.int .i64 il, .int .i64 (LI.length : Int), .int .i64 iw, .int .i64 dl, .int .i64 (LD.length : Int), .int .i64 dw, .int .i64 ll, .int .i64 (LL.length : Int), .int .i64 lw, .int .i64 pt, .int .i64 ph, .int .i64 pr, .int .i64 il, .int .i64 (LI.length : Int), .int .i64 iw, .slice (some ⟨gI, 0, none⟩) LI.length kI, .int .i64 dl, .int .i64 (LD.length : Int), .int .i64 dw, .slice (some ⟨gD, 0, none⟩) LD.length kD, .int .i64 ll, .int .i64 (LL.length : Int), .int .i64 lw, .slice (some ⟨gL, 0, none⟩) LL.length kL, .int .i64 pt, .int .i64 ph, .int .i64 pr, .slice A cs.length ca, .int .u32 hist, .slice R rs.length ra, .slice N ns.length nc], .agg #[.int .i64 il, .int .i64 (LI.length : Int), .int .i64 iw, .int .i64 dl, .int .i64 (LD.length : Int), .int .i64 dw, .int .i64 ll, .int .i64 (LL.length : Int), .int .i64 lw, .int .i64 pt, .int .i64 ph, .int .i64 pr, .int .i64 il, .int .i64 (LI.length : Int), .int .i64 iw, .slice (some ⟨gI', 0, none⟩) LI.length kI', .int .i64 dl, .int .i64 (LD.length : Int), .int .i64 dw, .slice (some ⟨gD', 0, none⟩) LD.length kD', .int .i64 ll, .int .i64 (LL.length : Int), .int .i64 lw, .slice (some ⟨gL', 0, none⟩) LL.length kL', .int .i64 pt, .int .i64 ph, .int .i64 pr, .slice A' cs.length ca', .int .u32 hist, .slice R' rs.length ra', .slice N' ns.length nc']] w fun e w' => e = .returned (.bool true) ∧ Below w.heap.size w w' := by
  obtain ⟨W0, hW0⟩ : ∃ W0, (w.alloc (.cells #[.int .i64 il, .int .i64 (LI.length : Int), .int .i64 iw, .int .i64 dl, .int .i64 (LD.length : Int), .int .i64 dw, .int .i64 ll, .int .i64 (LL.length : Int), .int .i64 lw, .int .i64 pt, .int .i64 ph, .int .i64 pr, .int .i64 il, .int .i64 (LI.length : Int), .int .i64 iw, .slice (some ⟨gI, 0, none⟩) LI.length kI, .int .i64 dl, .int .i64 (LD.length : Int), .int .i64 dw, .slice (some ⟨gD, 0, none⟩) LD.length kD, .int .i64 ll, .int .i64 (LL.length : Int), .int .i64 lw, .slice (some ⟨gL, 0, none⟩) LL.length kL, .int .i64 pt, .int .i64 ph, .int .i64 pr, .slice A cs.length ca, .int .u32 hist, .slice R rs.length ra, .slice N ns.length nc] 67)).alloc (.cells #[.int .i64 il, .int .i64 (LI.length : Int), .int .i64 iw, .int .i64 dl, .int .i64 (LD.length : Int), .int .i64 dw, .int .i64 ll, .int .i64 (LL.length : Int), .int .i64 lw, .int .i64 pt, .int .i64 ph, .int .i64 pr, .int .i64 il, .int .i64 (LI.length : Int), .int .i64 iw, .slice (some ⟨gI', 0, none⟩) LI.length kI', .int .i64 dl, .int .i64 (LD.length : Int), .int .i64 dw, .slice (some ⟨gD', 0, none⟩) LD.length kD', .int .i64 ll, .int .i64 (LL.length : Int), .int .i64 lw, .slice (some ⟨gL', 0, none⟩) LL.length kL', .int .i64 pt, .int .i64 ph, .int .i64 pr, .slice A' cs.length ca', .int .u32 hist, .slice R' rs.length ra', .slice N' ns.length nc'] 67) = W0 := ⟨_, rfl⟩
  have hb0 : Below w.heap.size w W0 := by rw [← hW0]; exact ((Below.refl _ _).alloc (Nat.le_refl _) _).alloc (by simp) _
  have hx0 : W0.heap[w.heap.size]? = some (.cells #[.int .i64 il, .int .i64 (LI.length : Int), .int .i64 iw, .int .i64 dl, .int .i64 (LD.length : Int), .int .i64 dw, .int .i64 ll, .int .i64 (LL.length : Int), .int .i64 lw, .int .i64 pt, .int .i64 ph, .int .i64 pr, .int .i64 il, .int .i64 (LI.length : Int), .int .i64 iw, .slice (some ⟨gI, 0, none⟩) LI.length kI, .int .i64 dl, .int .i64 (LD.length : Int), .int .i64 dw, .slice (some ⟨gD, 0, none⟩) LD.length kD, .int .i64 ll, .int .i64 (LL.length : Int), .int .i64 lw, .slice (some ⟨gL, 0, none⟩) LL.length kL, .int .i64 pt, .int .i64 ph, .int .i64 pr, .slice A cs.length ca, .int .u32 hist, .slice R rs.length ra, .slice N ns.length nc] 67 (0, 0)) := by rw [← hW0]; exact (heap_alloc_old _ _ (by simp)).trans (heap_alloc_new w _)
  have hx1 : W0.heap[w.heap.size + 1]? = some (.cells #[.int .i64 il, .int .i64 (LI.length : Int), .int .i64 iw, .int .i64 dl, .int .i64 (LD.length : Int), .int .i64 dw, .int .i64 ll, .int .i64 (LL.length : Int), .int .i64 lw, .int .i64 pt, .int .i64 ph, .int .i64 pr, .int .i64 il, .int .i64 (LI.length : Int), .int .i64 iw, .slice (some ⟨gI', 0, none⟩) LI.length kI', .int .i64 dl, .int .i64 (LD.length : Int), .int .i64 dw, .slice (some ⟨gD', 0, none⟩) LD.length kD', .int .i64 ll, .int .i64 (LL.length : Int), .int .i64 lw, .slice (some ⟨gL', 0, none⟩) LL.length kL', .int .i64 pt, .int .i64 ph, .int .i64 pr, .slice A' cs.length ca', .int .u32 hist, .slice R' rs.length ra', .slice N' ns.length nc'] 67 (0, 0)) := by rw [← hW0]; exact alloc_at _ _ _ (by simp)
  have HX := Lib.hid hx0
  have HY := Lib.hid hx1
  have HB := Lib.hid hb0
  have HI := Lib.hid (hI.below hb0)
  have HI' := Lib.hid (hI'.below hb0)
  have HD := Lib.hid (hD.below hb0)
  have HD' := Lib.hid (hD'.below hb0)
  have HL := Lib.hid (hL.below hb0)
  have HL' := Lib.hid (hL'.below hb0)
  have HA := Lib.hid (Rd.below hA hb0)
  have HA' := Lib.hid (Rd.below hA' hb0)
  have HR := Lib.hid (Rd.below hR hb0)
  have HR' := Lib.hid (Rd.below hR' hb0)
  have HN := Lib.hid (hN.below hb0)
  have HN' := Lib.hid (hN'.below hb0)
  have hle := hN.le
  clear hI hD hL hI' hD' hL' hA hA' hR hR' hN hN' hx0 hx1 hb0
  have c0 := boxAt (i := 0) HX.out rfl
  have d0 := boxAt (i := 0) HY.out rfl
  have c1 := boxAt (i := 1) HX.out rfl
  have d1 := boxAt (i := 1) HY.out rfl
  have c2 := boxAt (i := 2) HX.out rfl
  have d2 := boxAt (i := 2) HY.out rfl
  have c3 := boxAt (i := 3) HX.out rfl
  have d3 := boxAt (i := 3) HY.out rfl
  have c4 := boxAt (i := 4) HX.out rfl
  have d4 := boxAt (i := 4) HY.out rfl
  have c5 := boxAt (i := 5) HX.out rfl
  have d5 := boxAt (i := 5) HY.out rfl
  have c6 := boxAt (i := 6) HX.out rfl
  have d6 := boxAt (i := 6) HY.out rfl
  have c7 := boxAt (i := 7) HX.out rfl
  have d7 := boxAt (i := 7) HY.out rfl
  have c8 := boxAt (i := 8) HX.out rfl
  have d8 := boxAt (i := 8) HY.out rfl
  have c9 := boxAt (i := 9) HX.out rfl
  have d9 := boxAt (i := 9) HY.out rfl
  have c10 := boxAt (i := 10) HX.out rfl
  have d10 := boxAt (i := 10) HY.out rfl
  have c11 := boxAt (i := 11) HX.out rfl
  have d11 := boxAt (i := 11) HY.out rfl
  have c12 := boxAt (i := 12) HX.out rfl
  have d12 := boxAt (i := 12) HY.out rfl
  have c13 := boxAt (i := 13) HX.out rfl
  have d13 := boxAt (i := 13) HY.out rfl
  have c14 := boxAt (i := 14) HX.out rfl
  have d14 := boxAt (i := 14) HY.out rfl
  have c15 := boxAt (i := 15) HX.out rfl
  have d15 := boxAt (i := 15) HY.out rfl
  have c16 := boxAt (i := 16) HX.out rfl
  have d16 := boxAt (i := 16) HY.out rfl
  have c17 := boxAt (i := 17) HX.out rfl
  have d17 := boxAt (i := 17) HY.out rfl
  have c18 := boxAt (i := 18) HX.out rfl
  have d18 := boxAt (i := 18) HY.out rfl
  have c19 := boxAt (i := 19) HX.out rfl
  have d19 := boxAt (i := 19) HY.out rfl
  have c20 := boxAt (i := 20) HX.out rfl
  have d20 := boxAt (i := 20) HY.out rfl
  have c21 := boxAt (i := 21) HX.out rfl
  have d21 := boxAt (i := 21) HY.out rfl
  have c22 := boxAt (i := 22) HX.out rfl
  have d22 := boxAt (i := 22) HY.out rfl
  have c23 := boxAt (i := 23) HX.out rfl
  have d23 := boxAt (i := 23) HY.out rfl
  have c24 := boxAt (i := 24) HX.out rfl
  have d24 := boxAt (i := 24) HY.out rfl
  have c25 := boxAt (i := 25) HX.out rfl
  have d25 := boxAt (i := 25) HY.out rfl
  have c26 := boxAt (i := 26) HX.out rfl
  have d26 := boxAt (i := 26) HY.out rfl
  have c27 := boxAt (i := 27) HX.out rfl
  have d27 := boxAt (i := 27) HY.out rfl
  have c28 := boxAt (i := 28) HX.out rfl
  have d28 := boxAt (i := 28) HY.out rfl
  have c29 := boxAt (i := 29) HX.out rfl
  have d29 := boxAt (i := 29) HY.out rfl
  have c30 := boxAt (i := 30) HX.out rfl
  have d30 := boxAt (i := 30) HY.out rfl
  go_enter Try.func29, Try.ntmps29
  go_wp2_with fail
  refine (sameCache_true il iw LI.length gI kI gI' kI' vI vI' LI _ HI.out HI'.out rfl).mono ?_
  rintro e WI ⟨rfl, hb⟩
  replace HI := Lib.hid (HI.out.below hb)
  replace HI' := Lib.hid (HI'.out.below hb)
  replace HD := Lib.hid (HD.out.below hb)
  replace HD' := Lib.hid (HD'.out.below hb)
  replace HL := Lib.hid (HL.out.below hb)
  replace HL' := Lib.hid (HL'.out.below hb)
  replace HA := Lib.hid (Rd.below HA.out hb)
  replace HA' := Lib.hid (Rd.below HA'.out hb)
  replace HR := Lib.hid (Rd.below HR.out hb)
  replace HR' := Lib.hid (Rd.below HR'.out hb)
  replace HN := Lib.hid (HN.out.below hb)
  replace HN' := Lib.hid (HN'.out.below hb)
  replace HB := Lib.hid (bvia HB.out hb (Nat.le_refl _))
  replace HX := Lib.hid (belowBox hb HX.out)
  replace HY := Lib.hid (belowBox hb HY.out)
  clear c0 d0 c1 d1 c2 d2 c3 d3 c4 d4 c5 d5 c6 d6 c7 d7 c8 d8 c9 d9 c10 d10 c11 d11 c12 d12 c13 d13 c14 d14 c15 d15 c16 d16 c17 d17 c18 d18 c19 d19 c20 d20 c21 d21 c22 d22 c23 d23 c24 d24 c25 d25 c26 d26 c27 d27 c28 d28 c29 d29 c30 d30
  clear hb
  have c0 := boxAt (i := 0) HX.out rfl
  have d0 := boxAt (i := 0) HY.out rfl
  have c1 := boxAt (i := 1) HX.out rfl
  have d1 := boxAt (i := 1) HY.out rfl
  have c2 := boxAt (i := 2) HX.out rfl
  have d2 := boxAt (i := 2) HY.out rfl
  have c3 := boxAt (i := 3) HX.out rfl
  have d3 := boxAt (i := 3) HY.out rfl
  have c4 := boxAt (i := 4) HX.out rfl
  have d4 := boxAt (i := 4) HY.out rfl
  have c5 := boxAt (i := 5) HX.out rfl
  have d5 := boxAt (i := 5) HY.out rfl
  have c6 := boxAt (i := 6) HX.out rfl
  have d6 := boxAt (i := 6) HY.out rfl
  have c7 := boxAt (i := 7) HX.out rfl
  have d7 := boxAt (i := 7) HY.out rfl
  have c8 := boxAt (i := 8) HX.out rfl
  have d8 := boxAt (i := 8) HY.out rfl
  have c9 := boxAt (i := 9) HX.out rfl
  have d9 := boxAt (i := 9) HY.out rfl
  have c10 := boxAt (i := 10) HX.out rfl
  have d10 := boxAt (i := 10) HY.out rfl
  have c11 := boxAt (i := 11) HX.out rfl
  have d11 := boxAt (i := 11) HY.out rfl
  have c12 := boxAt (i := 12) HX.out rfl
  have d12 := boxAt (i := 12) HY.out rfl
  have c13 := boxAt (i := 13) HX.out rfl
  have d13 := boxAt (i := 13) HY.out rfl
  have c14 := boxAt (i := 14) HX.out rfl
  have d14 := boxAt (i := 14) HY.out rfl
  have c15 := boxAt (i := 15) HX.out rfl
  have d15 := boxAt (i := 15) HY.out rfl
  have c16 := boxAt (i := 16) HX.out rfl
  have d16 := boxAt (i := 16) HY.out rfl
  have c17 := boxAt (i := 17) HX.out rfl
  have d17 := boxAt (i := 17) HY.out rfl
  have c18 := boxAt (i := 18) HX.out rfl
  have d18 := boxAt (i := 18) HY.out rfl
  have c19 := boxAt (i := 19) HX.out rfl
  have d19 := boxAt (i := 19) HY.out rfl
  have c20 := boxAt (i := 20) HX.out rfl
  have d20 := boxAt (i := 20) HY.out rfl
  have c21 := boxAt (i := 21) HX.out rfl
  have d21 := boxAt (i := 21) HY.out rfl
  have c22 := boxAt (i := 22) HX.out rfl
  have d22 := boxAt (i := 22) HY.out rfl
  have c23 := boxAt (i := 23) HX.out rfl
  have d23 := boxAt (i := 23) HY.out rfl
  have c24 := boxAt (i := 24) HX.out rfl
  have d24 := boxAt (i := 24) HY.out rfl
  have c25 := boxAt (i := 25) HX.out rfl
  have d25 := boxAt (i := 25) HY.out rfl
  have c26 := boxAt (i := 26) HX.out rfl
  have d26 := boxAt (i := 26) HY.out rfl
  have c27 := boxAt (i := 27) HX.out rfl
  have d27 := boxAt (i := 27) HY.out rfl
  have c28 := boxAt (i := 28) HX.out rfl
  have d28 := boxAt (i := 28) HY.out rfl
  have c29 := boxAt (i := 29) HX.out rfl
  have d29 := boxAt (i := 29) HY.out rfl
  have c30 := boxAt (i := 30) HX.out rfl
  have d30 := boxAt (i := 30) HY.out rfl
  go_wp2_with fail
  refine (sameCache_true dl dw LD.length gD kD gD' kD' vD vD' LD _ HD.out HD'.out rfl).mono ?_
  rintro e WD ⟨rfl, hb⟩
  replace HI := Lib.hid (HI.out.below hb)
  replace HI' := Lib.hid (HI'.out.below hb)
  replace HD := Lib.hid (HD.out.below hb)
  replace HD' := Lib.hid (HD'.out.below hb)
  replace HL := Lib.hid (HL.out.below hb)
  replace HL' := Lib.hid (HL'.out.below hb)
  replace HA := Lib.hid (Rd.below HA.out hb)
  replace HA' := Lib.hid (Rd.below HA'.out hb)
  replace HR := Lib.hid (Rd.below HR.out hb)
  replace HR' := Lib.hid (Rd.below HR'.out hb)
  replace HN := Lib.hid (HN.out.below hb)
  replace HN' := Lib.hid (HN'.out.below hb)
  replace HB := Lib.hid (bvia HB.out hb (Nat.le_refl _))
  replace HX := Lib.hid (belowBox hb HX.out)
  replace HY := Lib.hid (belowBox hb HY.out)
  clear c0 d0 c1 d1 c2 d2 c3 d3 c4 d4 c5 d5 c6 d6 c7 d7 c8 d8 c9 d9 c10 d10 c11 d11 c12 d12 c13 d13 c14 d14 c15 d15 c16 d16 c17 d17 c18 d18 c19 d19 c20 d20 c21 d21 c22 d22 c23 d23 c24 d24 c25 d25 c26 d26 c27 d27 c28 d28 c29 d29 c30 d30
  clear hb
  have c0 := boxAt (i := 0) HX.out rfl
  have d0 := boxAt (i := 0) HY.out rfl
  have c1 := boxAt (i := 1) HX.out rfl
  have d1 := boxAt (i := 1) HY.out rfl
  have c2 := boxAt (i := 2) HX.out rfl
  have d2 := boxAt (i := 2) HY.out rfl
  have c3 := boxAt (i := 3) HX.out rfl
  have d3 := boxAt (i := 3) HY.out rfl
  have c4 := boxAt (i := 4) HX.out rfl
  have d4 := boxAt (i := 4) HY.out rfl
  have c5 := boxAt (i := 5) HX.out rfl
  have d5 := boxAt (i := 5) HY.out rfl
  have c6 := boxAt (i := 6) HX.out rfl
  have d6 := boxAt (i := 6) HY.out rfl
  have c7 := boxAt (i := 7) HX.out rfl
  have d7 := boxAt (i := 7) HY.out rfl
  have c8 := boxAt (i := 8) HX.out rfl
  have d8 := boxAt (i := 8) HY.out rfl
  have c9 := boxAt (i := 9) HX.out rfl
  have d9 := boxAt (i := 9) HY.out rfl
  have c10 := boxAt (i := 10) HX.out rfl
  have d10 := boxAt (i := 10) HY.out rfl
  have c11 := boxAt (i := 11) HX.out rfl
  have d11 := boxAt (i := 11) HY.out rfl
  have c12 := boxAt (i := 12) HX.out rfl
  have d12 := boxAt (i := 12) HY.out rfl
  have c13 := boxAt (i := 13) HX.out rfl
  have d13 := boxAt (i := 13) HY.out rfl
  have c14 := boxAt (i := 14) HX.out rfl
  have d14 := boxAt (i := 14) HY.out rfl
  have c15 := boxAt (i := 15) HX.out rfl
  have d15 := boxAt (i := 15) HY.out rfl
  have c16 := boxAt (i := 16) HX.out rfl
  have d16 := boxAt (i := 16) HY.out rfl
  have c17 := boxAt (i := 17) HX.out rfl
  have d17 := boxAt (i := 17) HY.out rfl
  have c18 := boxAt (i := 18) HX.out rfl
  have d18 := boxAt (i := 18) HY.out rfl
  have c19 := boxAt (i := 19) HX.out rfl
  have d19 := boxAt (i := 19) HY.out rfl
  have c20 := boxAt (i := 20) HX.out rfl
  have d20 := boxAt (i := 20) HY.out rfl
  have c21 := boxAt (i := 21) HX.out rfl
  have d21 := boxAt (i := 21) HY.out rfl
  have c22 := boxAt (i := 22) HX.out rfl
  have d22 := boxAt (i := 22) HY.out rfl
  have c23 := boxAt (i := 23) HX.out rfl
  have d23 := boxAt (i := 23) HY.out rfl
  have c24 := boxAt (i := 24) HX.out rfl
  have d24 := boxAt (i := 24) HY.out rfl
  have c25 := boxAt (i := 25) HX.out rfl
  have d25 := boxAt (i := 25) HY.out rfl
  have c26 := boxAt (i := 26) HX.out rfl
  have d26 := boxAt (i := 26) HY.out rfl
  have c27 := boxAt (i := 27) HX.out rfl
  have d27 := boxAt (i := 27) HY.out rfl
  have c28 := boxAt (i := 28) HX.out rfl
  have d28 := boxAt (i := 28) HY.out rfl
  have c29 := boxAt (i := 29) HX.out rfl
  have d29 := boxAt (i := 29) HY.out rfl
  have c30 := boxAt (i := 30) HX.out rfl
  have d30 := boxAt (i := 30) HY.out rfl
  go_wp2_with fail
  refine (sameCache_true ll lw LL.length gL kL gL' kL' vL vL' LL _ HL.out HL'.out rfl).mono ?_
  rintro e WL ⟨rfl, hb⟩
  replace HI := Lib.hid (HI.out.below hb)
  replace HI' := Lib.hid (HI'.out.below hb)
  replace HD := Lib.hid (HD.out.below hb)
  replace HD' := Lib.hid (HD'.out.below hb)
  replace HL := Lib.hid (HL.out.below hb)
  replace HL' := Lib.hid (HL'.out.below hb)
  replace HA := Lib.hid (Rd.below HA.out hb)
  replace HA' := Lib.hid (Rd.below HA'.out hb)
  replace HR := Lib.hid (Rd.below HR.out hb)
  replace HR' := Lib.hid (Rd.below HR'.out hb)
  replace HN := Lib.hid (HN.out.below hb)
  replace HN' := Lib.hid (HN'.out.below hb)
  replace HB := Lib.hid (bvia HB.out hb (Nat.le_refl _))
  replace HX := Lib.hid (belowBox hb HX.out)
  replace HY := Lib.hid (belowBox hb HY.out)
  clear c0 d0 c1 d1 c2 d2 c3 d3 c4 d4 c5 d5 c6 d6 c7 d7 c8 d8 c9 d9 c10 d10 c11 d11 c12 d12 c13 d13 c14 d14 c15 d15 c16 d16 c17 d17 c18 d18 c19 d19 c20 d20 c21 d21 c22 d22 c23 d23 c24 d24 c25 d25 c26 d26 c27 d27 c28 d28 c29 d29 c30 d30
  clear hb
  have c0 := boxAt (i := 0) HX.out rfl
  have d0 := boxAt (i := 0) HY.out rfl
  have c1 := boxAt (i := 1) HX.out rfl
  have d1 := boxAt (i := 1) HY.out rfl
  have c2 := boxAt (i := 2) HX.out rfl
  have d2 := boxAt (i := 2) HY.out rfl
  have c3 := boxAt (i := 3) HX.out rfl
  have d3 := boxAt (i := 3) HY.out rfl
  have c4 := boxAt (i := 4) HX.out rfl
  have d4 := boxAt (i := 4) HY.out rfl
  have c5 := boxAt (i := 5) HX.out rfl
  have d5 := boxAt (i := 5) HY.out rfl
  have c6 := boxAt (i := 6) HX.out rfl
  have d6 := boxAt (i := 6) HY.out rfl
  have c7 := boxAt (i := 7) HX.out rfl
  have d7 := boxAt (i := 7) HY.out rfl
  have c8 := boxAt (i := 8) HX.out rfl
  have d8 := boxAt (i := 8) HY.out rfl
  have c9 := boxAt (i := 9) HX.out rfl
  have d9 := boxAt (i := 9) HY.out rfl
  have c10 := boxAt (i := 10) HX.out rfl
  have d10 := boxAt (i := 10) HY.out rfl
  have c11 := boxAt (i := 11) HX.out rfl
  have d11 := boxAt (i := 11) HY.out rfl
  have c12 := boxAt (i := 12) HX.out rfl
  have d12 := boxAt (i := 12) HY.out rfl
  have c13 := boxAt (i := 13) HX.out rfl
  have d13 := boxAt (i := 13) HY.out rfl
  have c14 := boxAt (i := 14) HX.out rfl
  have d14 := boxAt (i := 14) HY.out rfl
  have c15 := boxAt (i := 15) HX.out rfl
  have d15 := boxAt (i := 15) HY.out rfl
  have c16 := boxAt (i := 16) HX.out rfl
  have d16 := boxAt (i := 16) HY.out rfl
  have c17 := boxAt (i := 17) HX.out rfl
  have d17 := boxAt (i := 17) HY.out rfl
  have c18 := boxAt (i := 18) HX.out rfl
  have d18 := boxAt (i := 18) HY.out rfl
  have c19 := boxAt (i := 19) HX.out rfl
  have d19 := boxAt (i := 19) HY.out rfl
  have c20 := boxAt (i := 20) HX.out rfl
  have d20 := boxAt (i := 20) HY.out rfl
  have c21 := boxAt (i := 21) HX.out rfl
  have d21 := boxAt (i := 21) HY.out rfl
  have c22 := boxAt (i := 22) HX.out rfl
  have d22 := boxAt (i := 22) HY.out rfl
  have c23 := boxAt (i := 23) HX.out rfl
  have d23 := boxAt (i := 23) HY.out rfl
  have c24 := boxAt (i := 24) HX.out rfl
  have d24 := boxAt (i := 24) HY.out rfl
  have c25 := boxAt (i := 25) HX.out rfl
  have d25 := boxAt (i := 25) HY.out rfl
  have c26 := boxAt (i := 26) HX.out rfl
  have d26 := boxAt (i := 26) HY.out rfl
  have c27 := boxAt (i := 27) HX.out rfl
  have d27 := boxAt (i := 27) HY.out rfl
  have c28 := boxAt (i := 28) HX.out rfl
  have d28 := boxAt (i := 28) HY.out rfl
  have c29 := boxAt (i := 29) HX.out rfl
  have d29 := boxAt (i := 29) HY.out rfl
  have c30 := boxAt (i := 30) HX.out rfl
  have d30 := boxAt (i := 30) HY.out rfl
  go_wp2_with fail
  refine (samePredS_true pt ph pr A A' R R' ca ca' ra ra' cs rs hist _ HA.out HA'.out HR.out HR'.out).mono ?_
  rintro e WP ⟨rfl, hb⟩
  replace HI := Lib.hid (HI.out.below hb)
  replace HI' := Lib.hid (HI'.out.below hb)
  replace HD := Lib.hid (HD.out.below hb)
  replace HD' := Lib.hid (HD'.out.below hb)
  replace HL := Lib.hid (HL.out.below hb)
  replace HL' := Lib.hid (HL'.out.below hb)
  replace HA := Lib.hid (Rd.below HA.out hb)
  replace HA' := Lib.hid (Rd.below HA'.out hb)
  replace HR := Lib.hid (Rd.below HR.out hb)
  replace HR' := Lib.hid (Rd.below HR'.out hb)
  replace HN := Lib.hid (HN.out.below hb)
  replace HN' := Lib.hid (HN'.out.below hb)
  replace HB := Lib.hid (bvia HB.out hb (Nat.le_refl _))
  replace HX := Lib.hid (belowBox hb HX.out)
  replace HY := Lib.hid (belowBox hb HY.out)
  clear c0 d0 c1 d1 c2 d2 c3 d3 c4 d4 c5 d5 c6 d6 c7 d7 c8 d8 c9 d9 c10 d10 c11 d11 c12 d12 c13 d13 c14 d14 c15 d15 c16 d16 c17 d17 c18 d18 c19 d19 c20 d20 c21 d21 c22 d22 c23 d23 c24 d24 c25 d25 c26 d26 c27 d27 c28 d28 c29 d29 c30 d30
  clear hb
  have c0 := boxAt (i := 0) HX.out rfl
  have d0 := boxAt (i := 0) HY.out rfl
  have c1 := boxAt (i := 1) HX.out rfl
  have d1 := boxAt (i := 1) HY.out rfl
  have c2 := boxAt (i := 2) HX.out rfl
  have d2 := boxAt (i := 2) HY.out rfl
  have c3 := boxAt (i := 3) HX.out rfl
  have d3 := boxAt (i := 3) HY.out rfl
  have c4 := boxAt (i := 4) HX.out rfl
  have d4 := boxAt (i := 4) HY.out rfl
  have c5 := boxAt (i := 5) HX.out rfl
  have d5 := boxAt (i := 5) HY.out rfl
  have c6 := boxAt (i := 6) HX.out rfl
  have d6 := boxAt (i := 6) HY.out rfl
  have c7 := boxAt (i := 7) HX.out rfl
  have d7 := boxAt (i := 7) HY.out rfl
  have c8 := boxAt (i := 8) HX.out rfl
  have d8 := boxAt (i := 8) HY.out rfl
  have c9 := boxAt (i := 9) HX.out rfl
  have d9 := boxAt (i := 9) HY.out rfl
  have c10 := boxAt (i := 10) HX.out rfl
  have d10 := boxAt (i := 10) HY.out rfl
  have c11 := boxAt (i := 11) HX.out rfl
  have d11 := boxAt (i := 11) HY.out rfl
  have c12 := boxAt (i := 12) HX.out rfl
  have d12 := boxAt (i := 12) HY.out rfl
  have c13 := boxAt (i := 13) HX.out rfl
  have d13 := boxAt (i := 13) HY.out rfl
  have c14 := boxAt (i := 14) HX.out rfl
  have d14 := boxAt (i := 14) HY.out rfl
  have c15 := boxAt (i := 15) HX.out rfl
  have d15 := boxAt (i := 15) HY.out rfl
  have c16 := boxAt (i := 16) HX.out rfl
  have d16 := boxAt (i := 16) HY.out rfl
  have c17 := boxAt (i := 17) HX.out rfl
  have d17 := boxAt (i := 17) HY.out rfl
  have c18 := boxAt (i := 18) HX.out rfl
  have d18 := boxAt (i := 18) HY.out rfl
  have c19 := boxAt (i := 19) HX.out rfl
  have d19 := boxAt (i := 19) HY.out rfl
  have c20 := boxAt (i := 20) HX.out rfl
  have d20 := boxAt (i := 20) HY.out rfl
  have c21 := boxAt (i := 21) HX.out rfl
  have d21 := boxAt (i := 21) HY.out rfl
  have c22 := boxAt (i := 22) HX.out rfl
  have d22 := boxAt (i := 22) HY.out rfl
  have c23 := boxAt (i := 23) HX.out rfl
  have d23 := boxAt (i := 23) HY.out rfl
  have c24 := boxAt (i := 24) HX.out rfl
  have d24 := boxAt (i := 24) HY.out rfl
  have c25 := boxAt (i := 25) HX.out rfl
  have d25 := boxAt (i := 25) HY.out rfl
  have c26 := boxAt (i := 26) HX.out rfl
  have d26 := boxAt (i := 26) HY.out rfl
  have c27 := boxAt (i := 27) HX.out rfl
  have d27 := boxAt (i := 27) HY.out rfl
  have c28 := boxAt (i := 28) HX.out rfl
  have d28 := boxAt (i := 28) HY.out rfl
  have c29 := boxAt (i := 29) HX.out rfl
  have d29 := boxAt (i := 29) HY.out rfl
  have c30 := boxAt (i := 30) HX.out rfl
  have d30 := boxAt (i := 30) HY.out rfl
  go_wp2_with fail
  clear c0 d0 c1 d1 c2 d2 c3 d3 c4 d4 c5 d5 c6 d6 c7 d7 c8 d8 c9 d9 c10 d10 c11 d11 c12 d12 c13 d13 c14 d14 c15 d15 c16 d16 c17 d17 c18 d18 c19 d19 c20 d20 c21 d21 c22 d22 c23 d23 c24 d24 c25 d25 c26 d26 c27 d27 c28 d28 c29 d29 c30 d30
  go_loopw [5] (fun i wr => ∃ k : Nat, k ≤ ns.length ∧ i = .int .i64 k ∧ Hid (Below WP.heap.size WP wr)) (fun i _ => ns.length - (intOf i).toNat)
  case atStart => exact ⟨0, Nat.zero_le _, rfl, Lib.hid (Below.refl _ _)⟩
  case round =>
    obtain ⟨k, hk, rfl, hI⟩ := hrel
    have s1 := boxAt (i := 30) (belowBox hI.out HX.out) rfl
    have s2 := boxAt (i := 30) (belowBox hI.out HY.out) rfl
    by_cases hlt : k < ns.length
    · obtain ⟨ad, rfl, x0, x1, x2, x3, x4, x5, x6, x7, x8, x9, x10, x11, x12, x13⟩ := (HN.out.below hI.out).at14 k hlt
      obtain ⟨ad', rfl, y0, y1, y2, y3, y4, y5, y6, y7, y8, y9, y10, y11, y12, y13⟩ := (HN'.out.below hI.out).at14 k hlt
      obtain ⟨x, hx⟩ : ∃ x, gn ns k = x := ⟨_, rfl⟩
      rw [hx] at x0 x1 x2 x3 x4 x5 x6 x7 x8 x9 x10 x11 x12 x13 y0 y1 y2 y3 y4 y5 y6 y7 y8 y9 y10 y11 y12 y13
      clear hx
      go_wp2_with fail
      go_quiet (fail)
      go_wp2_with fail
      go_roundw
      case rel => exact ⟨k + 1, by omega, by go_num, Lib.hid (bdrewN hI.out _)⟩
      case measure => simp [intOf]; omega
    · go_wp2_with fail
      go_ret
      exact ⟨rfl, HB.out.trans (hI.out.mono HB.out.size)⟩
end Go.Proofs.Ytdkacdfhapgboaa

/- sim.Feed in full: the lines in the caches stay in their range. No program in sight. -/
set_option linter.unusedVariables false
set_option linter.unusedSimpArgs false
namespace Go.Proofs.Ytdkacdfhapgboaa

theorem allU_acc {line w : Int} {n : Nat} {L : List (List Int)} (at_ k : Int) (h1 : 1 ≤ line) (h2 : line ≤ 4294967296) (h : AllU L) : AllU (runL n w L (linI line at_ k)).1 :=
  allU_run _ h fun y hy => by
    have h3 := linI_lt line at_ k h1 h2 y hy
    have h4 : (4294967296 : Int) / line ≤ 4294967296 := Int.ediv_le_self _ (by omega)
    exact ⟨h3.1, by omega⟩
theorem allU_far {line ll lw : Int} {n : Nat} (h1 : 1 ≤ ll) (h2 : ll ≤ 4294967296) : ∀ (xs : List Int) (L : List (List Int)), AllU L → AllU (farL line ll n lw L xs).1
  | [], L, h => h
  | x :: xs, L, h => allU_far h1 h2 xs _ (allU_acc _ _ h1 h2 h)
/-- All lines are in their range. -/
structure GU (s : GS) : Prop where
  i : AllU s.I
  d : AllU s.D
  l : AllU s.L
theorem GU.acts {K : GC} {s : GS} (h : GU s) (hi : 1 ≤ K.il ∧ K.il ≤ 4294967296) (hd : 1 ≤ K.dl ∧ K.dl ≤ 4294967296) (hl : 1 ≤ K.ll ∧ K.ll ≤ 4294967296) (e c : List Int) (N : List (List Int)) : GU { (s.acts K e c).1 with N := N } := by
  unfold GS.acts
  split
  · exact ⟨allU_acc _ _ hi.1 hi.2 h.i, h.d, allU_far hl.1 hl.2 _ _ h.l⟩
  · split
    · exact ⟨h.i, allU_acc _ _ hd.1 hd.2 h.d, allU_far hl.1 hl.2 _ _ h.l⟩
    · split
      · exact ⟨h.i, allU_acc _ _ hd.1 hd.2 h.d, allU_far hl.1 hl.2 _ _ h.l⟩
      · split
        · exact ⟨h.i, allU_acc _ _ hd.1 hd.2 h.d, allU_far hl.1 hl.2 _ _ h.l⟩
        · split
          · exact ⟨h.i, h.d, h.l⟩
          · exact ⟨h.i, h.d, h.l⟩
theorem GU.ev {K : GC} {s s' : GS} (h : GU s) (hi : 1 ≤ K.il ∧ K.il ≤ 4294967296) (hd : 1 ≤ K.dl ∧ K.dl ≤ 4294967296) (hl : 1 ≤ K.ll ∧ K.ll ≤ 4294967296) {e : List Int} (he : s.ev K e = some s') : GU s' := by
  have hc : GU (s.called K e) := by
    unfold GS.called
    split
    · exact ⟨h.i, h.d, h.l⟩
    · exact h
  unfold GS.ev at he
  split at he
  · dsimp only at he
    split at he
    · cases he
    · cases he
      exact hc.acts hi hd hl _ _ _
  · cases he
    exact hc
theorem GU.feed {K : GC} (hi : 1 ≤ K.il ∧ K.il ≤ 4294967296) (hd : 1 ≤ K.dl ∧ K.dl ≤ 4294967296) (hl : 1 ≤ K.ll ∧ K.ll ≤ 4294967296) : ∀ (es : List (List Int)) {s s' : GS}, GU s → s.feed K es = some s' → GU s'
  | [], s, s', h, he => by
    unfold GS.feed at he
    cases he
    exact h
  | e :: es, s, s', h, he => by
    unfold GS.feed at he
    rw [List.foldlM_cons] at he
    cases h1 : s.ev K e with
    | none => rw [h1] at he; cases he
    | some s1 =>
      rw [h1] at he
      exact GU.feed hi hd hl es (h.ev hi hd hl h1) he
end Go.Proofs.Ytdkacdfhapgboaa
