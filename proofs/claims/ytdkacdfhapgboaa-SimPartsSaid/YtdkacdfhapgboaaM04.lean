/- Part 4 of the texts that the proof stands on: Hand, Maps, Wf, Find, InsN, FeedD, FeedF, FeedI, FeedJ, FeedK. -/
import Derived.Test.YtdkacdfhapgboaaM03
import Derived.MapKept
import Derived.Deep.RegionHeld3

/- (*sim.feeder).exec, load, store. (printed by gen/hand.py) -/
set_option linter.unusedVariables false
set_option linter.unusedSimpArgs false
namespace Go.Proofs.Ytdkacdfhapgboaa
open Go.RowKit

/-- The feeder's caches, as a handler finds them: C is the one that it uses. -/
structure HandW (w : World) (B fb o gC cC gL cL : Nat) (vC vL : List Value) (LC LL : List (List Int)) (lineC waysC ll lw : Int) : Prop where
  c : OwnSets w B gC cC vC LC
  l : OwnSets w B gL cL vL LL
  apart : ∀ k, foot gC vC LC.length k → ¬ foot gL vL LL.length k
  ge : B ≤ w.heap.size
  sC : shapeB lineC LC.length waysC = true
  sL : shapeB ll LL.length lw = true
  mC : Small waysC LC
  mL : Small lw LL
  fC : ¬ foot gC vC LC.length fb
  fL : ¬ foot gL vL LL.length fb
  c0 : w.cell? ⟨fb, o, none⟩ = some (.int .i64 lineC)
  c1 : w.cell? ⟨fb, o + 1, none⟩ = some (.int .i64 (LC.length : Int))
  c2 : w.cell? ⟨fb, o + 2, none⟩ = some (.int .i64 waysC)
  c3 : w.cell? ⟨fb, o + 3, none⟩ = some (.slice (some ⟨gC, 0, none⟩) LC.length cC)
  l0 : w.cell? ⟨fb, 20, none⟩ = some (.int .i64 ll)
  l1 : w.cell? ⟨fb, 21, none⟩ = some (.int .i64 (LL.length : Int))
  l2 : w.cell? ⟨fb, 22, none⟩ = some (.int .i64 lw)
  l3 : w.cell? ⟨fb, 23, none⟩ = some (.slice (some ⟨gL, 0, none⟩) LL.length cL)
theorem box6e {w : World} {b : Nat} {a0 a1 a2 a3 a4 a5 : Value} {t : TypeId} (h : w.heap[b]? = some (.cells #[a0, a1, a2, a3, a4, a5] t (0, 0))) : w.cell? ⟨b, 2, none⟩ = some a2 ∧ w.cell? ⟨b, 3, none⟩ = some a3 ∧ w.cell? ⟨b, 5, none⟩ = some a5 := by
  obtain ⟨_, _, h2, h3, _, h5, _⟩ := box6 h
  exact ⟨h2, h3, h5⟩

attribute [local irreducible] World.setCell in
set_option maxRecDepth 100000 in
set_option maxHeartbeats 2000000 in
theorem exec_any (B fb gC cC gL cL cb co : Nat) (vC vL : List Value) (LC LL : List (List Int)) (lineC waysC ll lw : Int) (cur : Array Value) (t : TypeId) (x1 x2 x3 kind thread pc ea eb en : Int) (w : World) (H : HandW w B fb 12 gC cC gL cL vC vL LC LL lineC waysC ll lw)
    (hcb : w.heap[cb]? = some (.cells cur t (0, 0))) (e1 : cur[co + 1]? = some (.int .i64 x1)) (e2 : cur[co + 2]? = some (.int .i64 x2)) (e3 : cur[co + 3]? = some (.int .i64 x3)) (hcC : ¬ foot gC vC LC.length cb) (hcL : ¬ foot gL vL LL.length cb)
    (hx1 : 0 ≤ x1 ∧ x1 ≤ 2199023255552) (hx2 : 0 ≤ x2 ∧ x2 ≤ 2199023255552) (hx3 : 0 ≤ x3 ∧ x3 ≤ 2199023255552) (ha : 0 ≤ pc ∧ pc < 4294967296) (hn : 1 ≤ en ∧ en ≤ 65536) :
    Calls Try.prog 81 #[.pointer (some ⟨fb, 0, none⟩), .pointer (some ⟨cb, co, none⟩), .agg #[.int .i64 kind, .int .i64 thread, .int .u32 pc, .int .u32 ea, .int .u32 eb, .int .i64 en]] w fun e w' => e = .returned (.tuple #[]) ∧
      ∃ vC' vL' W0 W1, MemI W0 B gC cC gL cL vC' vC vL' vL (runL LC.length waysC LC (linI lineC pc en)).1 (farL lineC ll LL.length lw LL (runL LC.length waysC LC (linI lineC pc en)).2).1 W1 ∧ Below w.heap.size w W0 ∧
        w' = ((W1.setCell ⟨cb, co + 1, none⟩ (.int .i64 (x1 + 1))).setCell ⟨cb, co + 2, none⟩ (.int .i64 (x2 + ((runL LC.length waysC LC (linI lineC pc en)).2.length : Int)))).setCell ⟨cb, co + 3, none⟩ (.int .i64 (x3 + ((farL lineC ll LL.length lw LL (runL LC.length waysC LC (linI lineC pc en)).2).2 : Int))) := by
  obtain ⟨W0, hW0⟩ : ∃ W0, w.alloc (.cells #[.int .i64 kind, .int .i64 thread, .int .u32 pc, .int .u32 ea, .int .u32 eb, .int .i64 en] 71) = W0 := ⟨_, rfl⟩
  have hb0 : Below w.heap.size w W0 := by rw [← hW0]; exact balloc w _
  have hs0 : W0.heap.size = w.heap.size + 1 := by rw [← hW0]; simp
  have hu0 : Upd (fun _ => False) w W0 := by rw [← hW0]; exact Upd.alloc _ _ _
  obtain ⟨a2, a3, a5⟩ := box6e (show W0.heap[w.heap.size]? = _ by rw [← hW0]; exact heap_alloc_new w _)
  have hCu := H.c.upd hu0 fun _ _ h => h
  have hLu := H.l.upd hu0 fun _ _ h => h
  have hltC := H.c.foot_lt
  have hltL := H.l.foot_lt
  have g0 := bkeep hb0 H.c0
  have g1 := bkeep hb0 H.c1
  have g2 := bkeep hb0 H.c2
  have g3 := bkeep hb0 H.c3
  have hcb0 := belowBox hb0 hcb
  have hfb := World.block_lt_of_cell? w _ H.l0
  dsimp only at hfb
  have hcbl := (Array.getElem?_eq_some_iff.1 hcb).1
  have hmem := memory_any B fb gC cC gL cL vC vL LC LL lineC waysC ll lw pc en W0.drew (hCu.upd (Upd.drew (fun _ => False) W0) fun _ _ h => h) (hLu.upd (Upd.drew (fun _ => False) W0) fun _ _ h => h) H.apart (Nat.le_trans H.ge hb0.size) H.sC H.sL H.mC H.mL H.fC H.fL (bkeep hb0 H.l0) (bkeep hb0 H.l1) (bkeep hb0 H.l2) (bkeep hb0 H.l3) ha hn
  obtain ⟨R, hR⟩ : ∃ R, runL LC.length waysC LC (linI lineC pc en) = R := ⟨_, rfl⟩
  obtain ⟨q1, q2, q3, q4, q5, q6⟩ := shapeB_line H.sC
  obtain ⟨r1, _, _, _, _, _⟩ := shapeB_line H.sL
  have hRl : R.1.length = LC.length := by rw [← hR]; exact runL_length _ _ _ _
  have hRn : R.2.length ≤ 65538 := by
    have h1 := (runL_sub LC.length waysC (linI lineC pc en) LC).2
    have h2 := nLines_le lineC pc en q1 ha.1 hn
    rw [linI_len] at h1
    rw [hR] at h1
    omega
  have hDn : (farL lineC ll LL.length lw LL R.2).2 ≤ 4300000000 := by
    have h1 := farL_le lineC ll LL.length lw r1 ⟨by omega, by omega⟩ R.2 LL
    have h3 := Nat.mul_le_mul_right 65538 hRn
    omega
  have hFl : (farL lineC ll LL.length lw LL R.2).1.length = LL.length := farL_length _ _ _ _ _ _
  rw [hR] at hmem ⊢
  obtain ⟨m, hm⟩ : ∃ m, R.2.length = m := ⟨_, rfl⟩
  obtain ⟨FD, hFD⟩ : ∃ FD, farL lineC ll LL.length lw LL R.2 = FD := ⟨_, rfl⟩
  rw [hFD] at hmem hDn hFl ⊢
  rw [hm] at hmem hRn ⊢
  obtain ⟨d, hd⟩ : ∃ d, FD.2 = d := ⟨_, rfl⟩
  rw [hd] at hmem hDn ⊢
  have HM := Lib.hid hmem
  have hout : ∀ (W0' : World) (vC' vL' : List Value) (W1 : World), Below W0.heap.size W0 W0' → MemI W0' B gC cC gL cL vC' vC vL' vL R.1 FD.1 W1 → ∀ b, b < W0.heap.size → ¬ foot gC vC LC.length b → ¬ foot gL vL LL.length b → W1.heap[b]? = W0.heap[b]? := fun W0' vC' vL' W1 h1 h2 b h3 h4 h5 => by
    have h6 := h1.size
    exact ((h2.out (b := b) (by omega) (by rw [hRl]; exact h4) (by rw [hFl]; exact h5)).1).trans (h1.block b h3)
  have keep : ∀ (W1 : World) (b i : Nat) (v : Value), W1.heap[b]? = W0.heap[b]? → W0.cell? ⟨b, i, none⟩ = some v → W1.cell? ⟨b, i, none⟩ = some v := fun W1 b i v h1 h2 => by
    unfold World.cell? at h2 ⊢
    rw [h1]
    exact h2
  have hxw : ¬ foot gC vC LC.length w.heap.size ∧ ¬ foot gL vL LL.length w.heap.size := ⟨fun h => by have := (hltC _ h).2; omega, fun h => by have := (hltL _ h).2; omega⟩
  have HOUT := Lib.hid hout
  have HK := Lib.hid keep
  have HXW := Lib.hid hxw
  have HFB := Lib.hid (And.intro H.fC H.fL)
  have HCB := Lib.hid hcb0
  have HCF := Lib.hid (And.intro hcC hcL)
  clear hmem hout keep hxw hCu hLu hltC hltL H hcb hcb0 hcC hcL hR hFD hd hm hRl hFl
  go_enter Try.func81, Try.ntmps81
  go_wp2_with fail
  go_region_held3 (fun W' => W'.cell? ⟨fb, 12, none⟩ = some (.int .i64 lineC) ∧ W'.cell? ⟨fb, 13, none⟩ = some (.int .i64 (LC.length : Int)) ∧ W'.cell? ⟨fb, 14, none⟩ = some (.int .i64 waysC) ∧ W'.cell? ⟨fb, 15, none⟩ = some (.slice (some ⟨gC, 0, none⟩) LC.length cC) ∧ W'.cell? ⟨w.heap.size, 2, none⟩ = some (.int .u32 pc) ∧ W'.cell? ⟨w.heap.size, 5, none⟩ = some (.int .i64 en))
    (first | exact ⟨g0, g1, g2, g3, a2, a5⟩ | exact ⟨HK.out _ _ _ _ hf1 g0, HK.out _ _ _ _ hf1 g1, HK.out _ _ _ _ hf1 g2, HK.out _ _ _ _ hf1 g3, HK.out _ _ _ _ hw1 a2, HK.out _ _ _ _ hw1 a5⟩)
    (first
      | (go_at_call 99; refine HM.out.mono ?_; rintro e W1 ⟨vC', vL', W0', rfl, hM1, hB1⟩; replace hB1 : Below W0.heap.size W0 W0' := (bdrewN (Below.refl _ W0) 1).trans hB1; have hf1 := HOUT.out _ _ _ _ hB1 hM1 fb (by omega) HFB.out.1 HFB.out.2; have hw1 := HOUT.out _ _ _ _ hB1 hM1 w.heap.size (by omega) HXW.out.1 HXW.out.2))
  have hc1 := (HOUT.out _ _ _ _ hB1 hM1 cb (by omega) HCF.out.1 HCF.out.2).trans HCB.out
  have y1 := boxAt hc1 e1
  have y2 := boxAt hc1 e2
  have y3 := boxAt hc1 e3
  have d0 : ∀ o, W1.frozen? ⟨cb, o, none⟩ = false := fun o => boxFree hc1
  have HM1 := Lib.hid hM1
  have HB1 := Lib.hid (bvia hb0 hB1 (Nat.le_refl _))
  clear hM1 hB1 hf1 hw1 hc1 g0 g1 g2 g3 a2 a3 a5
  go_wp2_with fail
  go_end0
  exact ⟨rfl, vC', vL', W0', W1, HM1.out, HB1.out, rfl⟩

attribute [local irreducible] World.setCell in
set_option maxRecDepth 100000 in
set_option maxHeartbeats 2000000 in
theorem load_any (B fb gC cC gL cL cb co : Nat) (vC vL : List Value) (LC LL : List (List Int)) (lineC waysC ll lw : Int) (cur : Array Value) (t : TypeId) (x1 x2 x3 kind thread pc ea eb en : Int) (w : World) (H : HandW w B fb 16 gC cC gL cL vC vL LC LL lineC waysC ll lw)
    (hcb : w.heap[cb]? = some (.cells cur t (0, 0))) (e1 : cur[co + 4]? = some (.int .i64 x1)) (e2 : cur[co + 5]? = some (.int .i64 x2)) (e3 : cur[co + 6]? = some (.int .i64 x3)) (hcC : ¬ foot gC vC LC.length cb) (hcL : ¬ foot gL vL LL.length cb)
    (hx1 : 0 ≤ x1 ∧ x1 ≤ 2199023255552) (hx2 : 0 ≤ x2 ∧ x2 ≤ 2199023255552) (hx3 : 0 ≤ x3 ∧ x3 ≤ 2199023255552) (ha : 0 ≤ ea ∧ ea < 4294967296) (hn : 1 ≤ en ∧ en ≤ 65536) :
    Calls Try.prog 82 #[.pointer (some ⟨fb, 0, none⟩), .pointer (some ⟨cb, co, none⟩), .agg #[.int .i64 kind, .int .i64 thread, .int .u32 pc, .int .u32 ea, .int .u32 eb, .int .i64 en]] w fun e w' => e = .returned (.tuple #[]) ∧
      ∃ vC' vL' W0 W1, MemI W0 B gC cC gL cL vC' vC vL' vL (runL LC.length waysC LC (linI lineC ea en)).1 (farL lineC ll LL.length lw LL (runL LC.length waysC LC (linI lineC ea en)).2).1 W1 ∧ Below w.heap.size w W0 ∧
        w' = ((W1.setCell ⟨cb, co + 4, none⟩ (.int .i64 (x1 + 1))).setCell ⟨cb, co + 5, none⟩ (.int .i64 (x2 + ((runL LC.length waysC LC (linI lineC ea en)).2.length : Int)))).setCell ⟨cb, co + 6, none⟩ (.int .i64 (x3 + ((farL lineC ll LL.length lw LL (runL LC.length waysC LC (linI lineC ea en)).2).2 : Int))) := by
  obtain ⟨W0, hW0⟩ : ∃ W0, w.alloc (.cells #[.int .i64 kind, .int .i64 thread, .int .u32 pc, .int .u32 ea, .int .u32 eb, .int .i64 en] 71) = W0 := ⟨_, rfl⟩
  have hb0 : Below w.heap.size w W0 := by rw [← hW0]; exact balloc w _
  have hs0 : W0.heap.size = w.heap.size + 1 := by rw [← hW0]; simp
  have hu0 : Upd (fun _ => False) w W0 := by rw [← hW0]; exact Upd.alloc _ _ _
  obtain ⟨a2, a3, a5⟩ := box6e (show W0.heap[w.heap.size]? = _ by rw [← hW0]; exact heap_alloc_new w _)
  have hCu := H.c.upd hu0 fun _ _ h => h
  have hLu := H.l.upd hu0 fun _ _ h => h
  have hltC := H.c.foot_lt
  have hltL := H.l.foot_lt
  have g0 := bkeep hb0 H.c0
  have g1 := bkeep hb0 H.c1
  have g2 := bkeep hb0 H.c2
  have g3 := bkeep hb0 H.c3
  have hcb0 := belowBox hb0 hcb
  have hfb := World.block_lt_of_cell? w _ H.l0
  dsimp only at hfb
  have hcbl := (Array.getElem?_eq_some_iff.1 hcb).1
  have hmem := memory_any B fb gC cC gL cL vC vL LC LL lineC waysC ll lw ea en W0.drew (hCu.upd (Upd.drew (fun _ => False) W0) fun _ _ h => h) (hLu.upd (Upd.drew (fun _ => False) W0) fun _ _ h => h) H.apart (Nat.le_trans H.ge hb0.size) H.sC H.sL H.mC H.mL H.fC H.fL (bkeep hb0 H.l0) (bkeep hb0 H.l1) (bkeep hb0 H.l2) (bkeep hb0 H.l3) ha hn
  obtain ⟨R, hR⟩ : ∃ R, runL LC.length waysC LC (linI lineC ea en) = R := ⟨_, rfl⟩
  obtain ⟨q1, q2, q3, q4, q5, q6⟩ := shapeB_line H.sC
  obtain ⟨r1, _, _, _, _, _⟩ := shapeB_line H.sL
  have hRl : R.1.length = LC.length := by rw [← hR]; exact runL_length _ _ _ _
  have hRn : R.2.length ≤ 65538 := by
    have h1 := (runL_sub LC.length waysC (linI lineC ea en) LC).2
    have h2 := nLines_le lineC ea en q1 ha.1 hn
    rw [linI_len] at h1
    rw [hR] at h1
    omega
  have hDn : (farL lineC ll LL.length lw LL R.2).2 ≤ 4300000000 := by
    have h1 := farL_le lineC ll LL.length lw r1 ⟨by omega, by omega⟩ R.2 LL
    have h3 := Nat.mul_le_mul_right 65538 hRn
    omega
  have hFl : (farL lineC ll LL.length lw LL R.2).1.length = LL.length := farL_length _ _ _ _ _ _
  rw [hR] at hmem ⊢
  obtain ⟨m, hm⟩ : ∃ m, R.2.length = m := ⟨_, rfl⟩
  obtain ⟨FD, hFD⟩ : ∃ FD, farL lineC ll LL.length lw LL R.2 = FD := ⟨_, rfl⟩
  rw [hFD] at hmem hDn hFl ⊢
  rw [hm] at hmem hRn ⊢
  obtain ⟨d, hd⟩ : ∃ d, FD.2 = d := ⟨_, rfl⟩
  rw [hd] at hmem hDn ⊢
  have HM := Lib.hid hmem
  have hout : ∀ (W0' : World) (vC' vL' : List Value) (W1 : World), Below W0.heap.size W0 W0' → MemI W0' B gC cC gL cL vC' vC vL' vL R.1 FD.1 W1 → ∀ b, b < W0.heap.size → ¬ foot gC vC LC.length b → ¬ foot gL vL LL.length b → W1.heap[b]? = W0.heap[b]? := fun W0' vC' vL' W1 h1 h2 b h3 h4 h5 => by
    have h6 := h1.size
    exact ((h2.out (b := b) (by omega) (by rw [hRl]; exact h4) (by rw [hFl]; exact h5)).1).trans (h1.block b h3)
  have keep : ∀ (W1 : World) (b i : Nat) (v : Value), W1.heap[b]? = W0.heap[b]? → W0.cell? ⟨b, i, none⟩ = some v → W1.cell? ⟨b, i, none⟩ = some v := fun W1 b i v h1 h2 => by
    unfold World.cell? at h2 ⊢
    rw [h1]
    exact h2
  have hxw : ¬ foot gC vC LC.length w.heap.size ∧ ¬ foot gL vL LL.length w.heap.size := ⟨fun h => by have := (hltC _ h).2; omega, fun h => by have := (hltL _ h).2; omega⟩
  have HOUT := Lib.hid hout
  have HK := Lib.hid keep
  have HXW := Lib.hid hxw
  have HFB := Lib.hid (And.intro H.fC H.fL)
  have HCB := Lib.hid hcb0
  have HCF := Lib.hid (And.intro hcC hcL)
  clear hmem hout keep hxw hCu hLu hltC hltL H hcb hcb0 hcC hcL hR hFD hd hm hRl hFl
  go_enter Try.func82, Try.ntmps82
  go_wp2_with fail
  go_region_held3 (fun W' => W'.cell? ⟨fb, 16, none⟩ = some (.int .i64 lineC) ∧ W'.cell? ⟨fb, 17, none⟩ = some (.int .i64 (LC.length : Int)) ∧ W'.cell? ⟨fb, 18, none⟩ = some (.int .i64 waysC) ∧ W'.cell? ⟨fb, 19, none⟩ = some (.slice (some ⟨gC, 0, none⟩) LC.length cC) ∧ W'.cell? ⟨w.heap.size, 3, none⟩ = some (.int .u32 ea) ∧ W'.cell? ⟨w.heap.size, 5, none⟩ = some (.int .i64 en))
    (first | exact ⟨g0, g1, g2, g3, a3, a5⟩ | exact ⟨HK.out _ _ _ _ hf1 g0, HK.out _ _ _ _ hf1 g1, HK.out _ _ _ _ hf1 g2, HK.out _ _ _ _ hf1 g3, HK.out _ _ _ _ hw1 a3, HK.out _ _ _ _ hw1 a5⟩)
    (first
      | (go_at_call 99; refine HM.out.mono ?_; rintro e W1 ⟨vC', vL', W0', rfl, hM1, hB1⟩; replace hB1 : Below W0.heap.size W0 W0' := (bdrewN (Below.refl _ W0) 1).trans hB1; have hf1 := HOUT.out _ _ _ _ hB1 hM1 fb (by omega) HFB.out.1 HFB.out.2; have hw1 := HOUT.out _ _ _ _ hB1 hM1 w.heap.size (by omega) HXW.out.1 HXW.out.2))
  have hc1 := (HOUT.out _ _ _ _ hB1 hM1 cb (by omega) HCF.out.1 HCF.out.2).trans HCB.out
  have y1 := boxAt hc1 e1
  have y2 := boxAt hc1 e2
  have y3 := boxAt hc1 e3
  have d0 : ∀ o, W1.frozen? ⟨cb, o, none⟩ = false := fun o => boxFree hc1
  have HM1 := Lib.hid hM1
  have HB1 := Lib.hid (bvia hb0 hB1 (Nat.le_refl _))
  clear hM1 hB1 hf1 hw1 hc1 g0 g1 g2 g3 a2 a3 a5
  go_wp2_with fail
  go_end0
  exact ⟨rfl, vC', vL', W0', W1, HM1.out, HB1.out, rfl⟩

attribute [local irreducible] World.setCell in
set_option maxRecDepth 100000 in
set_option maxHeartbeats 2000000 in
theorem store_any (B fb gC cC gL cL cb co : Nat) (vC vL : List Value) (LC LL : List (List Int)) (lineC waysC ll lw : Int) (cur : Array Value) (t : TypeId) (x1 x2 x3 kind thread pc ea eb en : Int) (w : World) (H : HandW w B fb 16 gC cC gL cL vC vL LC LL lineC waysC ll lw)
    (hcb : w.heap[cb]? = some (.cells cur t (0, 0))) (e1 : cur[co + 7]? = some (.int .i64 x1)) (e2 : cur[co + 8]? = some (.int .i64 x2)) (e3 : cur[co + 9]? = some (.int .i64 x3)) (hcC : ¬ foot gC vC LC.length cb) (hcL : ¬ foot gL vL LL.length cb)
    (hx1 : 0 ≤ x1 ∧ x1 ≤ 2199023255552) (hx2 : 0 ≤ x2 ∧ x2 ≤ 2199023255552) (hx3 : 0 ≤ x3 ∧ x3 ≤ 2199023255552) (ha : 0 ≤ ea ∧ ea < 4294967296) (hn : 1 ≤ en ∧ en ≤ 65536) :
    Calls Try.prog 83 #[.pointer (some ⟨fb, 0, none⟩), .pointer (some ⟨cb, co, none⟩), .agg #[.int .i64 kind, .int .i64 thread, .int .u32 pc, .int .u32 ea, .int .u32 eb, .int .i64 en]] w fun e w' => e = .returned (.tuple #[]) ∧
      ∃ vC' vL' W0 W1, MemI W0 B gC cC gL cL vC' vC vL' vL (runL LC.length waysC LC (linI lineC ea en)).1 (farL lineC ll LL.length lw LL (runL LC.length waysC LC (linI lineC ea en)).2).1 W1 ∧ Below w.heap.size w W0 ∧
        w' = ((W1.setCell ⟨cb, co + 7, none⟩ (.int .i64 (x1 + 1))).setCell ⟨cb, co + 8, none⟩ (.int .i64 (x2 + ((runL LC.length waysC LC (linI lineC ea en)).2.length : Int)))).setCell ⟨cb, co + 9, none⟩ (.int .i64 (x3 + ((farL lineC ll LL.length lw LL (runL LC.length waysC LC (linI lineC ea en)).2).2 : Int))) := by
  obtain ⟨W0, hW0⟩ : ∃ W0, w.alloc (.cells #[.int .i64 kind, .int .i64 thread, .int .u32 pc, .int .u32 ea, .int .u32 eb, .int .i64 en] 71) = W0 := ⟨_, rfl⟩
  have hb0 : Below w.heap.size w W0 := by rw [← hW0]; exact balloc w _
  have hs0 : W0.heap.size = w.heap.size + 1 := by rw [← hW0]; simp
  have hu0 : Upd (fun _ => False) w W0 := by rw [← hW0]; exact Upd.alloc _ _ _
  obtain ⟨a2, a3, a5⟩ := box6e (show W0.heap[w.heap.size]? = _ by rw [← hW0]; exact heap_alloc_new w _)
  have hCu := H.c.upd hu0 fun _ _ h => h
  have hLu := H.l.upd hu0 fun _ _ h => h
  have hltC := H.c.foot_lt
  have hltL := H.l.foot_lt
  have g0 := bkeep hb0 H.c0
  have g1 := bkeep hb0 H.c1
  have g2 := bkeep hb0 H.c2
  have g3 := bkeep hb0 H.c3
  have hcb0 := belowBox hb0 hcb
  have hfb := World.block_lt_of_cell? w _ H.l0
  dsimp only at hfb
  have hcbl := (Array.getElem?_eq_some_iff.1 hcb).1
  have hmem := memory_any B fb gC cC gL cL vC vL LC LL lineC waysC ll lw ea en W0.drew (hCu.upd (Upd.drew (fun _ => False) W0) fun _ _ h => h) (hLu.upd (Upd.drew (fun _ => False) W0) fun _ _ h => h) H.apart (Nat.le_trans H.ge hb0.size) H.sC H.sL H.mC H.mL H.fC H.fL (bkeep hb0 H.l0) (bkeep hb0 H.l1) (bkeep hb0 H.l2) (bkeep hb0 H.l3) ha hn
  obtain ⟨R, hR⟩ : ∃ R, runL LC.length waysC LC (linI lineC ea en) = R := ⟨_, rfl⟩
  obtain ⟨q1, q2, q3, q4, q5, q6⟩ := shapeB_line H.sC
  obtain ⟨r1, _, _, _, _, _⟩ := shapeB_line H.sL
  have hRl : R.1.length = LC.length := by rw [← hR]; exact runL_length _ _ _ _
  have hRn : R.2.length ≤ 65538 := by
    have h1 := (runL_sub LC.length waysC (linI lineC ea en) LC).2
    have h2 := nLines_le lineC ea en q1 ha.1 hn
    rw [linI_len] at h1
    rw [hR] at h1
    omega
  have hDn : (farL lineC ll LL.length lw LL R.2).2 ≤ 4300000000 := by
    have h1 := farL_le lineC ll LL.length lw r1 ⟨by omega, by omega⟩ R.2 LL
    have h3 := Nat.mul_le_mul_right 65538 hRn
    omega
  have hFl : (farL lineC ll LL.length lw LL R.2).1.length = LL.length := farL_length _ _ _ _ _ _
  rw [hR] at hmem ⊢
  obtain ⟨m, hm⟩ : ∃ m, R.2.length = m := ⟨_, rfl⟩
  obtain ⟨FD, hFD⟩ : ∃ FD, farL lineC ll LL.length lw LL R.2 = FD := ⟨_, rfl⟩
  rw [hFD] at hmem hDn hFl ⊢
  rw [hm] at hmem hRn ⊢
  obtain ⟨d, hd⟩ : ∃ d, FD.2 = d := ⟨_, rfl⟩
  rw [hd] at hmem hDn ⊢
  have HM := Lib.hid hmem
  have hout : ∀ (W0' : World) (vC' vL' : List Value) (W1 : World), Below W0.heap.size W0 W0' → MemI W0' B gC cC gL cL vC' vC vL' vL R.1 FD.1 W1 → ∀ b, b < W0.heap.size → ¬ foot gC vC LC.length b → ¬ foot gL vL LL.length b → W1.heap[b]? = W0.heap[b]? := fun W0' vC' vL' W1 h1 h2 b h3 h4 h5 => by
    have h6 := h1.size
    exact ((h2.out (b := b) (by omega) (by rw [hRl]; exact h4) (by rw [hFl]; exact h5)).1).trans (h1.block b h3)
  have keep : ∀ (W1 : World) (b i : Nat) (v : Value), W1.heap[b]? = W0.heap[b]? → W0.cell? ⟨b, i, none⟩ = some v → W1.cell? ⟨b, i, none⟩ = some v := fun W1 b i v h1 h2 => by
    unfold World.cell? at h2 ⊢
    rw [h1]
    exact h2
  have hxw : ¬ foot gC vC LC.length w.heap.size ∧ ¬ foot gL vL LL.length w.heap.size := ⟨fun h => by have := (hltC _ h).2; omega, fun h => by have := (hltL _ h).2; omega⟩
  have HOUT := Lib.hid hout
  have HK := Lib.hid keep
  have HXW := Lib.hid hxw
  have HFB := Lib.hid (And.intro H.fC H.fL)
  have HCB := Lib.hid hcb0
  have HCF := Lib.hid (And.intro hcC hcL)
  clear hmem hout keep hxw hCu hLu hltC hltL H hcb hcb0 hcC hcL hR hFD hd hm hRl hFl
  go_enter Try.func83, Try.ntmps83
  go_wp2_with fail
  go_region_held3 (fun W' => W'.cell? ⟨fb, 16, none⟩ = some (.int .i64 lineC) ∧ W'.cell? ⟨fb, 17, none⟩ = some (.int .i64 (LC.length : Int)) ∧ W'.cell? ⟨fb, 18, none⟩ = some (.int .i64 waysC) ∧ W'.cell? ⟨fb, 19, none⟩ = some (.slice (some ⟨gC, 0, none⟩) LC.length cC) ∧ W'.cell? ⟨w.heap.size, 3, none⟩ = some (.int .u32 ea) ∧ W'.cell? ⟨w.heap.size, 5, none⟩ = some (.int .i64 en))
    (first | exact ⟨g0, g1, g2, g3, a3, a5⟩ | exact ⟨HK.out _ _ _ _ hf1 g0, HK.out _ _ _ _ hf1 g1, HK.out _ _ _ _ hf1 g2, HK.out _ _ _ _ hf1 g3, HK.out _ _ _ _ hw1 a3, HK.out _ _ _ _ hw1 a5⟩)
    (first
      | (go_at_call 99; refine HM.out.mono ?_; rintro e W1 ⟨vC', vL', W0', rfl, hM1, hB1⟩; replace hB1 : Below W0.heap.size W0 W0' := (bdrewN (Below.refl _ W0) 1).trans hB1; have hf1 := HOUT.out _ _ _ _ hB1 hM1 fb (by omega) HFB.out.1 HFB.out.2; have hw1 := HOUT.out _ _ _ _ hB1 hM1 w.heap.size (by omega) HXW.out.1 HXW.out.2))
  have hc1 := (HOUT.out _ _ _ _ hB1 hM1 cb (by omega) HCF.out.1 HCF.out.2).trans HCB.out
  have y1 := boxAt hc1 e1
  have y2 := boxAt hc1 e2
  have y3 := boxAt hc1 e3
  have d0 : ∀ o, W1.frozen? ⟨cb, o, none⟩ = false := fun o => boxFree hc1
  have HM1 := Lib.hid hM1
  have HB1 := Lib.hid (bvia hb0 hB1 (Nat.le_refl _))
  clear hM1 hB1 hf1 hw1 hc1 g0 g1 g2 g3 a2 a3 a5
  go_wp2_with fail
  go_end0
  exact ⟨rfl, vC', vL', W0', W1, HM1.out, HB1.out, rfl⟩
end Go.Proofs.Ytdkacdfhapgboaa

/- Maps with integer keys, entry by entry. -/
set_option linter.unusedVariables false
set_option linter.unusedSimpArgs false
namespace Go.Proofs.Ytdkacdfhapgboaa
open Go.RowKit

section
variable {P : Program} {W : World} {t kt et : TypeId} {kd : IntKind} {b clock : Nat} {es : Array MapEntry}
theorem run_mapNew (hu : P.underlying t = some (.map kt et)) (hk : P.underlying kt = some (.int kd)) (hW : W.heap[b]? = some (.map es clock)) (x : Int) (v : Value) (hn : Instr.findNow (.int kd) (.int kd x) es.toList 0 = some none) :
    (Instr.mapUpdate t (.map (some b)) (.int kd x) v).run P W = .ok () (W.putObj b (.map (es.push ⟨.int kd x, v, clock⟩) (clock + 1))) := by
  simp [Instr.mapUpdate, run_underlying hu, MapKept.run_getObj_map hW, MapKept.run_checkKey hk (show MapKept.IsKey (.int kd) (.int kd x) from rfl), MapKept.run_findKey hk hn, MapKept.run_setObj_map _ hW, World.putObj]
theorem run_mapLook (hu : P.underlying t = some (.map kt et)) (hk : P.underlying kt = some (.int kd)) (hW : W.heap[b]? = some (.map es clock)) (x : Int) (i : Nat) (v : Value) (hn : Instr.findNow (.int kd) (.int kd x) es.toList 0 = some (some (i, v))) :
    (Instr.lookup t (.map (some b)) (.int kd x) true).run P W = .ok (.tuple #[v, .bool true]) W := by
  simp [Instr.lookup, run_underlying hu, MapKept.run_getObj_map hW, MapKept.run_checkKey hk (show MapKept.IsKey (.int kd) (.int kd x) from rfl), MapKept.run_findKey hk hn]
end
end Go.Proofs.Ytdkacdfhapgboaa

/- sim.wellFormed, handlers; the numbers of an instruction in short lists. -/
set_option linter.unusedVariables false
set_option linter.unusedSimpArgs false
namespace Go.Proofs.Ytdkacdfhapgboaa
open Go.RowKit

theorem wf_mem (kind thread pc ea eb en : Int) (w : World) (hk : kind = 1 ∨ kind = 2 ∨ kind = 3 ∨ kind = 4) (hn : 1 ≤ en ∧ en ≤ 65536) :
    Calls Try.prog 62 #[.agg #[.int .i64 kind, .int .i64 thread, .int .u32 pc, .int .u32 ea, .int .u32 eb, .int .i64 en]] w fun e w' => e = .returned (.bool true) ∧ Below w.heap.size w w' := by
  obtain ⟨h1, h2⟩ := hn
  rcases hk with rfl | rfl | rfl | rfl
  all_goals
    go_enter Try.func62, Try.ntmps62
    go_wp2
    go_ret
    exact ⟨rfl, balloc w _⟩

/-- The handlers, by kinds. -/
abbrev handE : Array MapEntry := #[⟨.int .i64 1, .func (.func 81) #[] #[], 0⟩, ⟨.int .i64 2, .func (.func 82) #[] #[], 1⟩, ⟨.int .i64 3, .func (.func 83) #[] #[], 2⟩, ⟨.int .i64 4, .func (.func 84) #[] #[], 3⟩, ⟨.int .i64 5, .func (.func 85) #[] #[], 4⟩, ⟨.int .i64 7, .func (.func 86) #[] #[], 5⟩]
theorem putObj_get {W : World} {b : Nat} {o o' : Obj} (h : W.heap[b]? = some o) : (W.putObj b o').heap[b]? = some o' := by
  have := (Array.getElem?_eq_some_iff.1 h).1
  simp [World.putObj, this]
theorem putObj_upd (W : World) (b : Nat) (o : Obj) : Upd (fun k => k = b) W (W.putObj b o) := ⟨rfl, rfl, rfl, by simp [World.putObj], fun k _ hn => by simp [World.putObj, Ne.symm hn]⟩
set_option maxHeartbeats 1000000 in
theorem handlers_any (w : World) :
    Calls Try.prog 61 #[] w fun e w' => e = .returned (.map (some w.heap.size)) ∧ w'.heap[w.heap.size]? = some (.map handE 6) ∧ Below w.heap.size w w' := by
  have hK : Try.prog.underlying 3 = some (.int .i64) := Try.underlying3
  have hM : Try.prog.underlying 118 = some (.map 3 121) := Try.underlying118
  have h0 : (Instr.makeMap 118 none).run Try.prog w = .ok (.map (some w.heap.size)) (w.alloc (.map #[] 0)) := rfl
  obtain ⟨W0, hW0⟩ : ∃ W0, w.alloc (.map #[] 0) = W0 := ⟨_, rfl⟩
  rw [hW0] at h0
  have hx0 : W0.heap[w.heap.size]? = some (.map #[] 0) := by rw [← hW0]; exact heap_alloc_new w _
  have hb0 : Below w.heap.size w W0 := by rw [← hW0]; exact balloc w _
  have stp : ∀ (W : World) (es : Array MapEntry) (c : Nat) (x : Int) (v : Value), W.heap[w.heap.size]? = some (.map es c) → Below w.heap.size w W → Instr.findNow (.int .i64) (.int .i64 x) es.toList 0 = some none →
      ∃ W', (Instr.mapUpdate 118 (.map (some w.heap.size)) (.int .i64 x) v).run Try.prog W = .ok () W' ∧ W'.heap[w.heap.size]? = some (.map (es.push ⟨.int .i64 x, v, c⟩) (c + 1)) ∧ Below w.heap.size w W' := fun W es c x v h1 h2 h3 =>
    ⟨_, run_mapNew hM hK h1 x v h3, putObj_get h1, h2.trans ((putObj_upd W _ _).below h2.size fun k hk => by omega)⟩
  obtain ⟨W1, r1, x1, b1⟩ := stp W0 _ _ 1 (.func (.func 81) #[] #[]) hx0 hb0 rfl
  obtain ⟨W2, r2, x2, b2⟩ := stp W1 _ _ 2 (.func (.func 82) #[] #[]) x1 b1 rfl
  obtain ⟨W3, r3, x3, b3⟩ := stp W2 _ _ 3 (.func (.func 83) #[] #[]) x2 b2 rfl
  obtain ⟨W4, r4, x4, b4⟩ := stp W3 _ _ 4 (.func (.func 84) #[] #[]) x3 b3 rfl
  obtain ⟨W5, r5, x5, b5⟩ := stp W4 _ _ 5 (.func (.func 85) #[] #[]) x4 b4 rfl
  obtain ⟨W6, r6, x6, b6⟩ := stp W5 _ _ 7 (.func (.func 86) #[] #[]) x5 b5 rfl
  have HX := Lib.hid (And.intro x6 b6)
  clear stp hx0 x1 x2 x3 x4 x5 x6 hb0 b1 b2 b3 b4 b5 b6 hK hM
  go_enter Try.func61, Try.ntmps61
  go_wp2
  go_ret
  exact ⟨rfl, HX.out.1, HX.out.2⟩
end Go.Proofs.Ytdkacdfhapgboaa

/- byPC: where an instruction's numbers are. -/
set_option linter.unusedVariables false
set_option linter.unusedSimpArgs false
namespace Go.Proofs.Ytdkacdfhapgboaa
open Go.RowKit

theorem isNaN_any (x : Int) (w : World) : Calls Try.prog 100 #[.int .u32 x] w fun e w' => e = .returned (.bool false) ∧ w = w' := by
  go_enter Try.func100, Try.ntmps100
  go_wp2
  go_ret
  exact ⟨rfl, rfl⟩
def cmpI (x y : Int) : Int := if x < y then -1 else if y < x then 1 else 0
theorem compare_any (x y : Int) (w : World) : Calls Try.prog 89 #[.int .u32 x, .int .u32 y] w fun e w' => e = .returned (.int .i64 (cmpI x y)) ∧ w = w' := by
  cases h1 : decide (x < y) <;> cases h2 : decide (y < x)
  all_goals
    go_enter Try.func89, Try.ntmps89
    go_wp2_with (go_at_call 100; refine (isNaN_any _ _).mono ?_; rintro e w' ⟨rfl, rfl⟩)
    go_ret
    refine ⟨?_, rfl⟩
    simp only [decide_eq_false_iff_not, decide_eq_true_eq] at h1 h2
    simp [cmpI, h1, h2]
theorem byPC1_any (c : List Int) (pc : Int) (w : World) : Calls Try.prog 88 #[.agg #[.int .u32 (gi c 0), .int .i64 (gi c 1), .int .i64 (gi c 2), .int .i64 (gi c 3), .int .i64 (gi c 4), .int .i64 (gi c 5), .int .i64 (gi c 6), .int .i64 (gi c 7), .int .i64 (gi c 8), .int .i64 (gi c 9), .int .i64 (gi c 10), .int .i64 (gi c 11), .int .i64 (gi c 12), .int .i64 (gi c 13)], .int .u32 pc] w fun e w' =>
    e = .returned (.int .i64 (cmpI (gi c 0) pc)) ∧ Below w.heap.size w w' := by
  go_enter Try.func88, Try.ntmps88
  go_wp2_with (go_at_call 89; refine (compare_any _ _ _).mono ?_; rintro e w' ⟨rfl, rfl⟩)
  go_ret
  exact ⟨rfl, balloc w _⟩

/-- Where the numbers of pc are, or should be. -/
structure FindI (ns : List (List Int)) (pc : Int) (i j : Nat) : Prop where
  le : i ≤ j ∧ j ≤ ns.length
  lo : ∀ k, k < i → gi (gn ns k) 0 < pc
  hi : ∀ k, j ≤ k → k < ns.length → pc ≤ gi (gn ns k) 0
def foundB (ns : List (List Int)) (pc : Int) (i : Nat) : Bool := decide (i < ns.length) && decide (gi (gn ns i) 0 = pc)
def sortedN (ns : List (List Int)) : Prop := ∀ i j, i < j → j < ns.length → gi (gn ns i) 0 < gi (gn ns j) 0

set_option maxRecDepth 100000 in
set_option maxHeartbeats 1000000 in
theorem search_any (A : Option Addr) (nc : Nat) (ns : List (List Int)) (pc : Int) (w : World) (h : RdN w A ns) (hs : sortedN ns) (hl : ns.length ≤ 1000000) :
    Calls Try.prog 87 #[.slice A ns.length nc, .int .u32 pc, .func (.func 88) #[] #[]] w fun e w' => ∃ i : Nat, e = .returned (.tuple #[.int .i64 (i : Int), .bool (foundB ns pc i)]) ∧ FindI ns pc i i ∧ Below w.heap.size w w' := by
  have H := Lib.hid h
  have HS := Lib.hid hs
  clear h hs
  go_enter Try.func87, Try.ntmps87
  go_wp2
  go_loopw [9, 10] (fun lo hi wr => ∃ i j : Nat, lo = .int .i64 i ∧ hi = .int .i64 j ∧ Hid (FindI ns pc i j) ∧ i ≤ j ∧ j ≤ ns.length ∧ Hid (Below w.heap.size w wr)) (fun lo hi _ => (intOf hi).toNat - (intOf lo).toNat)
  case atStart => exact ⟨0, ns.length, rfl, rfl, Lib.hid ⟨⟨Nat.zero_le _, Nat.le_refl _⟩, fun k hk => absurd hk (Nat.not_lt_zero _), fun k h1 h2 => by omega⟩, Nat.zero_le _, Nat.le_refl _, Lib.hid (Below.refl _ _)⟩
  case round =>
    obtain ⟨i, j, rfl, rfl, hF, h1, h2, hB⟩ := hrel
    by_cases hlt : i < j
    · obtain ⟨ad, e0, x0, x1, x2, x3, x4, x5, x6, x7, x8, x9, x10, x11, x12, x13⟩ := (H.out.below hB.out).at14 ((i + j) / 2) (by omega)
      subst e0
      obtain ⟨c, hc⟩ : ∃ c, gn ns ((i + j) / 2) = c := ⟨_, rfl⟩
      rw [hc] at x0 x1 x2 x3 x4 x5 x6 x7 x8 x9 x10 x11 x12 x13
      have HC := Lib.hid hc
      clear hc
      by_cases hlo : gi c 0 < pc
      · have hcm : cmpI (gi c 0) pc = -1 := by simp [cmpI, hlo]
        have HLO := Lib.hid hlo
        go_wp2_with fail
        refine (byPC1_any c pc _).mono ?_
        rintro e W2 ⟨rfl, hb2⟩
        rw [hcm]
        clear hcm hlo
        go_wp2_with fail
        go_roundw
        case rel =>
          refine ⟨(i + j) / 2 + 1, j, by go_num, rfl, Lib.hid ⟨⟨by omega, h2⟩, fun k hk => ?_, hF.out.hi⟩, by omega, h2, Lib.hid (bvia hB.out hb2 (Nat.le_refl _))⟩
          have h5 := HLO.out
          rw [← HC.out] at h5
          by_cases hkm : k = (i + j) / 2
          · rw [hkm]; exact h5
          · have := HS.out k ((i + j) / 2) (by omega) (by omega); omega
        case measure => simp [intOf]; omega
      · have hcm : cmpI (gi c 0) pc = 0 ∨ cmpI (gi c 0) pc = 1 := by
          simp only [cmpI, hlo, if_false]
          split <;> simp
        have HLO := Lib.hid hlo
        rcases hcm with hcm | hcm
        all_goals
          go_wp2_with fail
          refine (byPC1_any c pc _).mono ?_
          rintro e W2 ⟨rfl, hb2⟩
          rw [hcm]
          clear hcm
          go_wp2_with fail
          go_roundw
          case rel =>
            refine ⟨i, (i + j) / 2, rfl, by go_num, Lib.hid ⟨⟨by omega, by omega⟩, hF.out.lo, fun k h3 h4 => ?_⟩, by omega, by omega, Lib.hid (bvia hB.out hb2 (Nat.le_refl _))⟩
            have h5 := HLO.out
            rw [← HC.out] at h5
            by_cases hkm : k = (i + j) / 2
            · rw [hkm]; omega
            · have := HS.out ((i + j) / 2) k (by omega) h4; omega
          case measure => simp [intOf]; omega
    · obtain rfl : i = j := by omega
      by_cases hil : i < ns.length
      · obtain ⟨ad, e0, x0, x1, x2, x3, x4, x5, x6, x7, x8, x9, x10, x11, x12, x13⟩ := (H.out.below hB.out).at14 i hil
        subst e0
        obtain ⟨c, hc⟩ : ∃ c, gn ns i = c := ⟨_, rfl⟩
        rw [hc] at x0 x1 x2 x3 x4 x5 x6 x7 x8 x9 x10 x11 x12 x13
        have HC := Lib.hid hc
        clear hc
        have hcm : (cmpI (gi c 0) pc = 0 ∧ foundB ns pc i = true) ∨ (cmpI (gi c 0) pc = -1 ∧ foundB ns pc i = false) ∨ (cmpI (gi c 0) pc = 1 ∧ foundB ns pc i = false) := by
          unfold foundB cmpI
          rw [HC.out, decide_eq_true hil]
          rcases Int.lt_trichotomy (gi c 0) pc with h | h | h
          · exact .inr (.inl ⟨by simp [h], by simp; omega⟩)
          · exact .inl ⟨by simp [h], by simp [h]⟩
          · exact .inr (.inr ⟨by simp [h]; omega, by simp; omega⟩)
        rcases hcm with ⟨hcm, hfb⟩ | ⟨hcm, hfb⟩ | ⟨hcm, hfb⟩
        all_goals
          go_wp2_with fail
          refine (byPC1_any c pc _).mono ?_
          rintro e W2 ⟨rfl, hb2⟩
          rw [hcm]
          clear hcm
          go_wp2
          go_ret2
          exact ⟨i, by rw [hfb]; rfl, hF.out, bvia hB.out hb2 (Nat.le_refl _)⟩
      · have hfb : foundB ns pc i = false := by simp [foundB, hil]
        go_wp2
        go_ret2
        exact ⟨i, by rw [hfb]; rfl, hF.out, hB.out⟩
theorem byPC_any (A : Option Addr) (nc : Nat) (ns : List (List Int)) (pc : Int) (w : World) (h : RdN w A ns) (hs : sortedN ns) (hl : ns.length ≤ 1000000) :
    Calls Try.prog 63 #[.slice A ns.length nc, .int .u32 pc] w fun e w' => ∃ i : Nat, e = .returned (.tuple #[.int .i64 (i : Int), .bool (foundB ns pc i)]) ∧ FindI ns pc i i ∧ Below w.heap.size w w' := by
  go_enter Try.func63, Try.ntmps63
  go_wp2_with fail
  refine (search_any A nc ns pc _ h hs hl).mono ?_
  rintro e W ⟨i, rfl, hF, hb⟩
  have HF := Lib.hid hF
  clear hF
  go_wp2
  go_ret2
  exact ⟨i, rfl, HF.out, hb⟩
end Go.Proofs.Ytdkacdfhapgboaa

/- slices.Insert into a nil list of numbers; slices.Clone of a nil list of numbers. -/
set_option linter.unusedVariables false
set_option linter.unusedSimpArgs false
namespace Go.Proofs.Ytdkacdfhapgboaa
open Go.RowKit

def cntCells (c : List Int) : List Value := (List.range 14).map (cntV c)
theorem cntCells_lit (c : List Int) : cntCells c = [.int .u32 (gi c 0), .int .i64 (gi c 1), .int .i64 (gi c 2), .int .i64 (gi c 3), .int .i64 (gi c 4), .int .i64 (gi c 5), .int .i64 (gi c 6), .int .i64 (gi c 7), .int .i64 (gi c 8), .int .i64 (gi c 9), .int .i64 (gi c 10), .int .i64 (gi c 11), .int .i64 (gi c 12), .int .i64 (gi c 13)] := rfl
theorem info_cnt : (Try.prog.info? 79).map (fun i => (i.zero, i.size, i.bytes)) = some (some (.agg #[.int .u32 0, .int .i64 0, .int .i64 0, .int .i64 0, .int .i64 0, .int .i64 0, .int .i64 0, .int .i64 0, .int .i64 0, .int .i64 0, .int .i64 0, .int .i64 0, .int .i64 0, .int .i64 0]), 14, 112) := by kernel_rfl

set_option maxRecDepth 100000 in
theorem cloneN_nil (w : World) : Calls Try.prog 60 #[.slice none 0 0] w fun e w' => e = .returned (.slice none 0 0) ∧ w = w' := by
  have hnil := fun (W : World) => Lib.run_eql_slice_nil (P := Try.prog) W 65 79 none 0 0 0 0 Try.underlying65
  go_enter Try.func60, Try.ntmps60
  go_wp2
  go_ret
  exact ⟨rfl, rfl⟩

set_option maxRecDepth 100000 in
set_option maxHeartbeats 1000000 in
theorem insertN_nil (g : Nat) (c : List Int) (w : World) (hx : w.heap[g]? = some (cntObj c)) :
    Calls Try.prog 64 #[.slice none 0 0, .int .i64 0, .slice (some ⟨g, 0, none⟩) 1 1] w fun e w' => ∃ v, e = .returned v ∧ w'.ownsRow w.heap.size 79 14 v 1 (cntCells c) ∧ Below w.heap.size w w' := by
  obtain ⟨i0, hi, hz0, hz1, hz2⟩ := info_parts info_cnt
  have HX := Lib.hid hx
  clear hx
  go_enter Try.func64, Try.ntmps64
  go_wp2_with (at_builtin; refine wpList_append_own_at _ rfl _ _ 65 rfl w.heap.size 79 i0 _ 14 112 Try.underlying65 hi hz0 hz1 hz2 rfl (by decide) _ 0 [] rfl (World.ownsRow_nil _ _ _ _) ⟨g, 0, none⟩ 1 1 (cntCells c) rfl rfl ?c1 ?c2 ?c3 ?c4 ?c5 ?_)
  case c1 =>
    intro j u hj
    have hjl : j < 14 := by
      have := (List.getElem?_eq_some_iff.1 hj).1
      simpa [cntCells] using this
    have e : (⟨g, 0, none⟩ : Addr).add j = ⟨g, j, none⟩ := by unfold Addr.add; split <;> simp_all
    rw [e]
    exact boxAt HX.out (by rw [← hj, cntCells_lit, List.getElem?_toArray])
  case c2 =>
    intro u hu
    simp only [cntCells, List.mem_map, List.mem_range] at hu
    obtain ⟨j, _, rfl⟩ := hu
    cases j <;> rfl
  case c3 => unfold maxLen; omega
  case c4 => omega
  case c5 => omega
  intro v2 w2 hown2 hgrow2 _ hat2
  have HO := Lib.hid hown2
  have HG := Lib.hid hgrow2
  clear hown2 hgrow2
  go_wp2
  go_ret
  exact ⟨v2, rfl, HO.out, (Upd.of_grown HG.out).below (Nat.le_refl _) fun k hk => by simp [Value.ownBlock] at hk⟩
end Go.Proofs.Ytdkacdfhapgboaa

/- Words for sim.Feed of a simulation without numbers, fed events of one instruction. (printed by gen/feed.py) -/
set_option linter.unusedVariables false
set_option linter.unusedSimpArgs false
namespace Go.Proofs.Ytdkacdfhapgboaa
open Go.RowKit

/-- A list of events, six numbers each. -/
def evV (e : List Int) (j : Nat) : Value := match j with | 0 => .int .i64 (gi e 0) | 1 => .int .i64 (gi e 1) | 2 => .int .u32 (gi e 2) | 3 => .int .u32 (gi e 3) | 4 => .int .u32 (gi e 4) | j + 5 => .int .i64 (gi e (j + 5))
structure RdE (w : World) (A : Option Addr) (es : List (List Int)) : Prop where
  le : es.length ≤ 9223372036854775807
  cell : ∀ k, k < es.length → ∀ j, j < 6 → ∃ ad, A = some ad ∧ w.cell? (ad.add (k * 6 + j)) = some (evV (gn es k) j)
theorem RdE.below {w W : World} {A : Option Addr} {es : List (List Int)} (h : RdE w A es) (hb : Below w.heap.size w W) : RdE W A es :=
  ⟨h.le, fun k hk j hj => let ⟨ad, e, hc⟩ := h.cell k hk j hj; ⟨ad, e, bkeep hb hc⟩⟩
theorem RdE.at6 {w : World} {A : Option Addr} {es : List (List Int)} (h : RdE w A es) (k : Nat) (hk : k < es.length) : ∃ ad, A = some ad ∧ w.cell? (ad.add (k * 6)) = some (.int .i64 (gi (gn es k) 0)) ∧ w.cell? ⟨(ad.add (k * 6)).block, (ad.add (k * 6)).off + 1, none⟩ = some (.int .i64 (gi (gn es k) 1)) ∧
    w.cell? ⟨(ad.add (k * 6)).block, (ad.add (k * 6)).off + 2, none⟩ = some (.int .u32 (gi (gn es k) 2)) ∧ w.cell? ⟨(ad.add (k * 6)).block, (ad.add (k * 6)).off + 3, none⟩ = some (.int .u32 (gi (gn es k) 3)) ∧
    w.cell? ⟨(ad.add (k * 6)).block, (ad.add (k * 6)).off + 4, none⟩ = some (.int .u32 (gi (gn es k) 4)) ∧ w.cell? ⟨(ad.add (k * 6)).block, (ad.add (k * 6)).off + 5, none⟩ = some (.int .i64 (gi (gn es k) 5)) := by
  obtain ⟨ad, e, h0⟩ := h.cell k hk 0 (by omega)
  have hh : ∀ j, j ≠ 0 → j < 6 → w.cell? ⟨(ad.add (k * 6)).block, (ad.add (k * 6)).off + j, none⟩ = some (evV (gn es k) j) := fun j hj0 hj => by
    obtain ⟨ad', e', h'⟩ := h.cell k hk j hj
    rw [e] at e'
    cases e'
    exact cell_add hj0 h'
  exact ⟨ad, e, h0, hh 1 (by omega) (by omega), hh 2 (by omega) (by omega), hh 3 (by omega) (by omega), hh 4 (by omega) (by omega), hh 5 (by omega) (by omega)⟩

/-! ### What a feed computes -/
structure FS where
  (I D L : List (List Int))
  c : List Int
def addC (c : List Int) (j : Nat) (m d : Int) : List Int := ((c.set j (gi c j + 1)).set (j + 1) (gi c (j + 1) + m)).set (j + 2) (gi c (j + 2) + d)
def FS.step (il iw dl dw ll lw : Int) (s : FS) (e : List Int) : FS :=
  if gi e 0 = 1 then
    let R := runL s.I.length iw s.I (linI il (gi e 2) (gi e 5))
    let F := farL il ll s.L.length lw s.L R.2
    ⟨R.1, s.D, F.1, addC s.c 1 R.2.length F.2⟩
  else
    let R := runL s.D.length dw s.D (linI dl (gi e 3) (gi e 5))
    let F := farL dl ll s.L.length lw s.L R.2
    ⟨s.I, R.1, F.1, addC s.c 4 R.2.length F.2⟩
def FS.run (il iw dl dw ll lw : Int) (s : FS) (es : List (List Int)) : FS := es.foldl (FS.step il iw dl dw ll lw) s

/-- Three caches apart from each other. -/
structure Feet (W : World) (B gI kI gD kD gL kL : Nat) (vI vD vL : List Value) (LI LD LL : List (List Int)) : Prop where
  i : OwnSets W B gI kI vI LI
  d : OwnSets W B gD kD vD LD
  l : OwnSets W B gL kL vL LL
  id : ∀ k, foot gI vI LI.length k → ¬ foot gD vD LD.length k
  il : ∀ k, foot gI vI LI.length k → ¬ foot gL vL LL.length k
  dl : ∀ k, foot gD vD LD.length k → ¬ foot gL vL LL.length k
def feetP (gI gD gL : Nat) (vI vD vL : List Value) (nI nD nL : Nat) (k : Nat) : Prop := foot gI vI nI k ∨ foot gD vD nD k ∨ foot gL vL nL k
theorem Feet.upd {F : Nat → Prop} {W W' : World} {B gI kI gD kD gL kL : Nat} {vI vD vL : List Value} {LI LD LL : List (List Int)} (h : Feet W B gI kI gD kD gL kL vI vD vL LI LD LL) (hu : Upd F W W') (hn : ∀ k, feetP gI gD gL vI vD vL LI.length LD.length LL.length k → ¬ F k) : Feet W' B gI kI gD kD gL kL vI vD vL LI LD LL :=
  ⟨h.i.upd hu fun k hk => hn k (.inl hk), h.d.upd hu fun k hk => hn k (.inr (.inl hk)), h.l.upd hu fun k hk => hn k (.inr (.inr hk)), h.id, h.il, h.dl⟩
theorem Feet.lt {W : World} {B gI kI gD kD gL kL : Nat} {vI vD vL : List Value} {LI LD LL : List (List Int)} (h : Feet W B gI kI gD kD gL kL vI vD vL LI LD LL) (k : Nat) (hk : feetP gI gD gL vI vD vL LI.length LD.length LL.length k) : B ≤ k ∧ k < W.heap.size := by
  rcases hk with hk | hk | hk
  · exact h.i.foot_lt k hk
  · exact h.d.foot_lt k hk
  · exact h.l.foot_lt k hk

theorem OwnP.upd {F : Nat → Prop} {W W' : World} {B b : Nat} {t h r : Int} {g c : Nat} {cs : List Int} {hist : Int} {v : Value} {rs : List Int} (H : OwnP W B b t h r g c cs hist v rs) (hu : Upd F W W') (hn : ∀ k, (k = b ∨ k = g ∨ blk v = some k) → ¬ F k) : OwnP W' B b t h r g c cs hist v rs :=
  ⟨(hu.block b (Array.getElem?_eq_some_iff.1 H.box).1 (hn b (.inl rfl))).trans H.box, own_upd H.cnt hu fun k hk => hn k (.inr (.inl (by simpa [Value.ownBlock] using hk.symm))), H.ret.upd hu fun k hk => hn k (.inr (.inr hk)), H.ge⟩
theorem feet_new {W3 W4 W5 W6 W8 : World} {fb gI kI gD kD gL kL : Nat} {uI uD uL : List Value} {LI LD LL : List (List Int)} (hfb : fb < W3.heap.size) (h4 : OwnSets W4 W3.drew.heap.size gI kI uI LI) (h5 : OwnSets W5 W4.heap.size gD kD uD LD) (h6 : OwnSets W6 W5.heap.size gL kL uL LL)
    (b4 : Below W3.drew.heap.size W3.drew W4) (b5 : Below W4.heap.size W4 W5) (b6 : Below W5.heap.size W5 W6) (hu : Upd (fun k => k = fb) W6 W8) :
    Feet W8 W3.heap.size gI kI gD kD gL kL uI uD uL LI LD LL ∧ W3.heap.size ≤ W8.heap.size := by
  have e0 : W3.drew.heap.size = W3.heap.size := rfl
  have s4 := b4.size
  have s5 := b5.size
  have s6 := b6.size
  have s8 := hu.size
  have l4 := h4.foot_lt
  have l5 := h5.foot_lt
  have l6 := h6.foot_lt
  have u5 := Upd.of_below b5
  have u6 := Upd.of_below b6
  refine ⟨⟨?_, ?_, ?_, fun k hk e => ?_, fun k hk e => ?_, fun k hk e => ?_⟩, by omega⟩
  · exact (((h4.upd u5 fun k hk e => by have := (l4 k hk).2; omega).upd u6 fun k hk e => by have := (l4 k hk).2; omega).upd hu fun k hk e => by have := (l4 k hk).1; omega).base fun k hk => (l4 k hk).1
  · exact ((h5.upd u6 fun k hk e => by have := (l5 k hk).2; omega).upd hu fun k hk e => by have := (l5 k hk).1; omega).base fun k hk => by have := (l5 k hk).1; omega
  · exact (h6.upd hu fun k hk e => by have := (l6 k hk).1; omega).base fun k hk => by have := (l6 k hk).1; omega
  · have := (l4 k hk).2; have := (l5 k e).1; omega
  · have := (l4 k hk).2; have := (l6 k e).1; omega
  · have := (l5 k hk).2; have := (l6 k e).1; omega
theorem wp_of_run {P : Program} {o : Oper} {a : Act} {w w' : World} {K : Act → World → Prop} {Q : Exit → Act → World → Prop} {v : Value} (hr : (execOp a.eval o).run P w = .ok (.value v) w') (h : K (a.put o.dst v) w') : o.wp P a w K Q := by
  unfold Oper.wp
  rw [hr]
  exact h
theorem range_sub {W : World} {b : Nat} {cs : Array Value} {t : TypeId} (h : W.heap[b]? = some (.cells cs t (0, 0))) (o : Nat) (xs : List Value) (hx : (cs.toList.drop o).take xs.length = xs) : W.rangeAt b o xs := fun j v hj => by
  have hjl := (List.getElem?_eq_some_iff.1 hj).1
  refine boxAt h ?_
  rw [← hx, List.getElem?_take, if_pos hjl, List.getElem?_drop] at hj
  rw [← hj, Array.getElem?_toList]
end Go.Proofs.Ytdkacdfhapgboaa

/- Words for the loop of sim.Feed: three caches behind an access. -/
set_option linter.unusedVariables false
set_option linter.unusedSimpArgs false
namespace Go.Proofs.Ytdkacdfhapgboaa
open Go.RowKit

/-- Behind an access through the first cache. -/
theorem Feet.memI {W W0 W1 : World} {B gI kI gD kD gL kL : Nat} {vI vD vL vI' vL' : List Value} {LI LD LL LI' LL' : List (List Int)} (h : Feet W B gI kI gD kD gL kL vI vD vL LI LD LL) (b0 : Below W.heap.size W W0)
    (M : MemI W0 B gI kI gL kL vI' vI vL' vL LI' LL' W1) (e1 : LI'.length = LI.length) (e2 : LL'.length = LL.length) :
    Feet W1 B gI kI gD kD gL kL vI' vD vL' LI' LD LL' ∧ Upd (feetP gI gD gL vI vD vL LI.length LD.length LL.length) W W1 ∧ ∀ k, feetP gI gD gL vI' vD vL' LI.length LD.length LL.length k → feetP gI gD gL vI vD vL LI.length LD.length LL.length k ∨ W.heap.size ≤ k := by
  have hM := M.upd
  have fC := M.freshC
  have fL := M.freshL
  rw [e1, e2] at hM
  rw [e1] at fC
  rw [e2] at fL
  have hs := b0.size
  have hu : Upd (feetP gI gD gL vI vD vL LI.length LD.length LL.length) W W1 := ((Upd.of_below b0).mono (G := fun k => feetP gI gD gL vI vD vL LI.length LD.length LL.length k ∨ W.heap.size ≤ k) fun _ h => .inr h).trans hM (fun k hk => hk.elim (fun h => .inl (.inl (.inl h))) fun h => .inl (.inl (.inr (.inr h)))) |> fun h => ⟨h.os, h.tape, h.output, h.size, fun k hk hn => h.block k hk fun hh => hh.elim hn (by omega)⟩
  have hd : Upd (fun k => foot gI vI LI.length k ∨ foot gL vL LL.length k ∨ W.heap.size ≤ k) W W1 := ((Upd.of_below b0).mono (G := fun k => foot gI vI LI.length k ∨ foot gL vL LL.length k ∨ W.heap.size ≤ k) fun _ h => .inr (.inr h)).trans hM fun k hk => hk.elim (fun h => .inl (.inl h)) fun h => .inl (.inr (.inl h))
  refine ⟨⟨M.c, h.d.upd hd fun k hk e => ?_, M.l, fun k hk e => ?_, fun k hk e => M.apart k hk e, fun k hk e => ?_⟩, hu, fun k hk => ?_⟩
  · rcases e with e | e | e
    · exact h.id k e hk
    · exact h.dl k hk e
    · have := (h.d.foot_lt k hk).2; omega
  · rw [e1] at hk
    rcases fC k hk with h1 | h1
    · exact h.id k h1 e
    · have := (h.d.foot_lt k e).2; omega
  · rw [e2] at e
    rcases fL k e with h1 | h1
    · exact h.dl k hk h1
    · have := (h.d.foot_lt k hk).2; omega
  · rcases hk with hk | hk | hk
    · exact (fC k hk).imp (fun h => .inl h) fun h => by omega
    · exact .inl (.inr (.inl hk))
    · exact (fL k hk).imp (fun h => .inr (.inr h)) fun h => by omega
/-- Behind an access through the second cache. -/
theorem Feet.memD {W W0 W1 : World} {B gI kI gD kD gL kL : Nat} {vI vD vL vD' vL' : List Value} {LI LD LL LD' LL' : List (List Int)} (h : Feet W B gI kI gD kD gL kL vI vD vL LI LD LL) (b0 : Below W.heap.size W W0)
    (M : MemI W0 B gD kD gL kL vD' vD vL' vL LD' LL' W1) (e1 : LD'.length = LD.length) (e2 : LL'.length = LL.length) :
    Feet W1 B gI kI gD kD gL kL vI vD' vL' LI LD' LL' ∧ Upd (feetP gI gD gL vI vD vL LI.length LD.length LL.length) W W1 ∧ ∀ k, feetP gI gD gL vI vD' vL' LI.length LD.length LL.length k → feetP gI gD gL vI vD vL LI.length LD.length LL.length k ∨ W.heap.size ≤ k := by
  have hM := M.upd
  have fC := M.freshC
  have fL := M.freshL
  rw [e1, e2] at hM
  rw [e1] at fC
  rw [e2] at fL
  have hs := b0.size
  have hu : Upd (feetP gI gD gL vI vD vL LI.length LD.length LL.length) W W1 := ((Upd.of_below b0).mono (G := fun k => feetP gI gD gL vI vD vL LI.length LD.length LL.length k ∨ W.heap.size ≤ k) fun _ h => .inr h).trans hM (fun k hk => hk.elim (fun h => .inl (.inl (.inr (.inl h)))) fun h => .inl (.inl (.inr (.inr h)))) |> fun h => ⟨h.os, h.tape, h.output, h.size, fun k hk hn => h.block k hk fun hh => hh.elim hn (by omega)⟩
  have hd : Upd (fun k => foot gD vD LD.length k ∨ foot gL vL LL.length k ∨ W.heap.size ≤ k) W W1 := ((Upd.of_below b0).mono (G := fun k => foot gD vD LD.length k ∨ foot gL vL LL.length k ∨ W.heap.size ≤ k) fun _ h => .inr (.inr h)).trans hM fun k hk => hk.elim (fun h => .inl (.inl h)) fun h => .inl (.inr (.inl h))
  refine ⟨⟨h.i.upd hd fun k hk e => ?_, M.c, M.l, fun k hk e => ?_, fun k hk e => ?_, fun k hk e => M.apart k hk e⟩, hu, fun k hk => ?_⟩
  · rcases e with e | e | e
    · exact h.id k hk e
    · exact h.il k hk e
    · have := (h.i.foot_lt k hk).2; omega
  · rw [e1] at e
    rcases fC k e with h1 | h1
    · exact h.id k hk h1
    · have := (h.i.foot_lt k hk).2; omega
  · rw [e2] at e
    rcases fL k e with h1 | h1
    · exact h.il k hk h1
    · have := (h.i.foot_lt k hk).2; omega
  · rcases hk with hk | hk | hk
    · exact .inl (.inl hk)
    · exact (fC k hk).imp (fun h => .inr (.inl h)) fun h => by omega
    · exact (fL k hk).imp (fun h => .inr (.inr h)) fun h => by omega

/-! ### A count's row -/
theorem cntCells_set (c : List Int) (j : Nat) (x : Int) (hl : c.length = 14) (h1 : 1 ≤ j) (h2 : j < 14) : (cntCells c).set j (.int .i64 x) = cntCells (c.set j x) := by
  apply List.ext_getElem
  · simp [cntCells]
  · intro i hi1 hi2
    have hi : i < 14 := by simpa [cntCells] using hi2
    rw [List.getElem_set]
    have e : gi (c.set j x) i = if j = i then x else gi c i := by
      rw [gi_get _ _ (by simp [hl]; exact hi), List.getElem_set]
      split
      · rfl
      · rw [gi_get _ _ (by omega)]
    simp only [cntCells, List.getElem_map, List.getElem_range]
    cases i with
    | zero =>
      rw [if_neg (by omega)]
      simp only [cntV]
      rw [e, if_neg (by omega)]
    | succ i =>
      simp only [cntV]
      rw [e]
      split <;> rfl
theorem addC_len (c : List Int) (j : Nat) (m d : Int) : (addC c j m d).length = c.length := by simp [addC]
theorem addC_gi (c : List Int) (j : Nat) (m d : Int) (hl : c.length = 14) (hj : j + 2 < 14) (i : Nat) (hi : i < 14) : gi (addC c j m d) i = if i = j then gi c j + 1 else if i = j + 1 then gi c (j + 1) + m else if i = j + 2 then gi c (j + 2) + d else gi c i := by
  unfold addC
  rw [gi_get _ _ (by simp [hl]; exact hi), List.getElem_set, List.getElem_set, List.getElem_set]
  by_cases e1 : i = j
  · subst e1; simp
  · by_cases e2 : i = j + 1
    · subst e2; simp
    · by_cases e3 : i = j + 2
      · subst e3; simp
      · simp [e1, e2, e3, Ne.symm e1, Ne.symm e2, Ne.symm e3, gi_get c i (by omega)]
end Go.Proofs.Ytdkacdfhapgboaa

/- What the loop of sim.Feed carries. -/
set_option linter.unusedVariables false
set_option linter.unusedSimpArgs false
namespace Go.Proofs.Ytdkacdfhapgboaa
open Go.RowKit

/-- What does not change in the loop. -/
structure FP where
  (il iw dl dw ll lw pt ph pr hist : Int)
  (nI nD nL ca ra nc nr fb pb gI kI gD kD gL kL mb B : Nat)
  (A R : Option Addr)
  X : Nat → Prop
  W9 : World
/-- The feeder's box. -/
def fCells (P : FP) (vN : Value) : Array Value := #[.int .i64 P.il, .int .i64 (P.nI : Int), .int .i64 P.iw, .int .i64 P.dl, .int .i64 (P.nD : Int), .int .i64 P.dw, .int .i64 P.ll, .int .i64 (P.nL : Int), .int .i64 P.lw, .int .i64 P.pt, .int .i64 P.ph, .int .i64 P.pr,
  .int .i64 P.il, .int .i64 (P.nI : Int), .int .i64 P.iw, .slice (some ⟨P.gI, 0, none⟩) P.nI P.kI, .int .i64 P.dl, .int .i64 (P.nD : Int), .int .i64 P.dw, .slice (some ⟨P.gD, 0, none⟩) P.nD P.kD, .int .i64 P.ll, .int .i64 (P.nL : Int), .int .i64 P.lw, .slice (some ⟨P.gL, 0, none⟩) P.nL P.kL,
  .int .i64 P.pt, .int .i64 P.ph, .int .i64 P.pr, .slice P.A P.nc P.ca, .int .u32 P.hist, .slice P.R P.nr P.ra, vN, .pointer (some ⟨P.pb, 0, none⟩)]
abbrev FP.feet (P : FP) (uI uD uL : List Value) (k : Nat) : Prop := feetP P.gI P.gD P.gL uI uD uL P.nI P.nD P.nL k
structure FI (P : FP) (S : FS) (vN : Value) (uI uD uL : List Value) (W : World) : Prop where
  feet : Feet W P.B P.gI P.kI P.gD P.kD P.gL P.kL uI uD uL S.I S.D S.L
  ge : P.B ≤ W.heap.size
  nI : S.I.length = P.nI
  nD : S.D.length = P.nD
  nL : S.L.length = P.nL
  sI : Small P.iw S.I
  sD : Small P.dw S.D
  sL : Small P.lw S.L
  box : W.heap[P.fb]? = some (.cells (fCells P vN) 115 (0, 0))
  mp : W.heap[P.mb]? = some (.map handE 6)
  out : ∀ b, P.X b → b < W.heap.size ∧ ¬ P.feet uI uD uL b
  xf : P.X P.fb
  xm : P.X P.mb
  mf : P.mb ≠ P.fb
  keep : Upd (fun b => ¬ P.X b ∨ b = P.fb) P.W9 W
/-- The row of the count. -/
structure FRow (P : FP) (S : FS) (g cap : Nat) (uI uD uL : List Value) (W : World) : Prop where
  row : W.ownsRow P.B 79 14 (.slice (some ⟨g, 0, none⟩) 1 cap) 1 (cntCells S.c)
  out : ¬ P.feet uI uD uL g
  x : ¬ P.X g
theorem FI.below {P : FP} {S : FS} {vN : Value} {uI uD uL : List Value} {W W' : World} (h : FI P S vN uI uD uL W) (hb : Below W.heap.size W W') : FI P S vN uI uD uL W' := by
  have hs := hb.size
  refine ⟨h.feet.upd (Upd.of_below hb) fun k hk e => ?_, by have := h.ge; omega, h.nI, h.nD, h.nL, h.sI, h.sD, h.sL, belowBox hb h.box, belowBox hb h.mp, fun b hx => ⟨by have := (h.out b hx).1; omega, (h.out b hx).2⟩, h.xf, h.xm, h.mf, ?_⟩
  · have := (h.feet.lt k hk).2; omega
  · exact (h.keep.trans ((Upd.of_below hb).mono (G := fun b => (¬ P.X b ∨ b = P.fb) ∨ W.heap.size ≤ b) fun _ h => .inr h) fun b hb' => by
      rcases hb' with h1 | h1
      · exact .inl h1
      · exact .inl (.inl fun hx => by have := (h.out b hx).1; omega))
theorem FRow.below {P : FP} {S : FS} {g cap : Nat} {uI uD uL : List Value} {W W' : World} (h : FRow P S g cap uI uD uL W) (hb : Below W.heap.size W W') : FRow P S g cap uI uD uL W' :=
  ⟨own_upd h.row (Upd.of_below hb) fun k hk e => by have := (h.row.lt k hk).2; omega, h.out, h.x⟩
theorem FI.handI {P : FP} {S : FS} {vN : Value} {uI uD uL : List Value} {W : World} (h : FI P S vN uI uD uL W) (s1 : shapeB P.il P.nI P.iw = true) (s2 : shapeB P.ll P.nL P.lw = true) : HandW W P.B P.fb 12 P.gI P.kI P.gL P.kL uI uL S.I S.L P.il P.iw P.ll P.lw := by
  have ho := (h.out _ h.xf).2
  refine ⟨h.feet.i, h.feet.l, h.feet.il, h.ge, by rw [h.nI]; exact s1, by rw [h.nL]; exact s2, h.sI, h.sL, fun hk => ho (.inl (by rw [← h.nI]; exact hk)), fun hk => ho (.inr (.inr (by rw [← h.nL]; exact hk))), ?_, ?_, ?_, ?_, ?_, ?_, ?_, ?_⟩
  · exact boxAt h.box rfl
  · rw [h.nI]; exact boxAt h.box rfl
  · exact boxAt h.box rfl
  · rw [h.nI]; exact boxAt h.box rfl
  · exact boxAt h.box rfl
  · rw [h.nL]; exact boxAt h.box rfl
  · exact boxAt h.box rfl
  · rw [h.nL]; exact boxAt h.box rfl
theorem FI.handD {P : FP} {S : FS} {vN : Value} {uI uD uL : List Value} {W : World} (h : FI P S vN uI uD uL W) (s1 : shapeB P.dl P.nD P.dw = true) (s2 : shapeB P.ll P.nL P.lw = true) : HandW W P.B P.fb 16 P.gD P.kD P.gL P.kL uD uL S.D S.L P.dl P.dw P.ll P.lw := by
  have ho := (h.out _ h.xf).2
  refine ⟨h.feet.d, h.feet.l, h.feet.dl, h.ge, by rw [h.nD]; exact s1, by rw [h.nL]; exact s2, h.sD, h.sL, fun hk => ho (.inr (.inl (by rw [← h.nD]; exact hk))), fun hk => ho (.inr (.inr (by rw [← h.nL]; exact hk))), ?_, ?_, ?_, ?_, ?_, ?_, ?_, ?_⟩
  · exact boxAt h.box rfl
  · rw [h.nD]; exact boxAt h.box rfl
  · exact boxAt h.box rfl
  · rw [h.nD]; exact boxAt h.box rfl
  · exact boxAt h.box rfl
  · rw [h.nL]; exact boxAt h.box rfl
  · exact boxAt h.box rfl
  · rw [h.nL]; exact boxAt h.box rfl
/-- Three numbers of the count are stored. -/
theorem FRow.add {P : FP} {S : FS} {g cap : Nat} {uI uD uL : List Value} {W : World} (h : FRow P S g cap uI uD uL W) (hl : S.c.length = 14) (j : Nat) (h1 : 1 ≤ j) (h2 : j + 2 < 14) (m d : Int) (S' : FS) (hc : S'.c = addC S.c j m d) :
    FRow P S' g cap uI uD uL (((W.setCell ⟨g, j, none⟩ (.int .i64 (gi S.c j + 1))).setCell ⟨g, j + 1, none⟩ (.int .i64 (gi S.c (j + 1) + m))).setCell ⟨g, j + 2, none⟩ (.int .i64 (gi S.c (j + 2) + d))) := by
  have r1 := (h.row.stored j (.int .i64 (gi S.c j + 1))).1
  have r2 := (r1.stored (j + 1) (.int .i64 (gi S.c (j + 1) + m))).1
  have r3 := (r2.stored (j + 2) (.int .i64 (gi S.c (j + 2) + d))).1
  rw [cntCells_set _ _ _ hl h1 (by omega), cntCells_set _ _ _ (by simp [hl]) (by omega) (by omega), cntCells_set _ _ _ (by simp [hl]) (by omega) h2] at r3
  refine ⟨?_, h.out, h.x⟩
  rw [hc]
  exact r3
end Go.Proofs.Ytdkacdfhapgboaa

/- What the loop of sim.Feed carries, behind a handler and behind a new count. -/
set_option linter.unusedVariables false
set_option linter.unusedSimpArgs false
namespace Go.Proofs.Ytdkacdfhapgboaa
open Go.RowKit

theorem FI.move {P : FP} {S S' : FS} {vN : Value} {uI uD uL uI' uD' uL' : List Value} {W W1 : World} (h : FI P S vN uI uD uL W) (hF : Feet W1 P.B P.gI P.kI P.gD P.kD P.gL P.kL uI' uD' uL' S'.I S'.D S'.L) (hu : Upd (P.feet uI uD uL) W W1)
    (hf : ∀ k, P.feet uI' uD' uL' k → P.feet uI uD uL k ∨ W.heap.size ≤ k) (nI : S'.I.length = P.nI) (nD : S'.D.length = P.nD) (nL : S'.L.length = P.nL) (sI : Small P.iw S'.I) (sD : Small P.dw S'.D) (sL : Small P.lw S'.L) : FI P S' vN uI' uD' uL' W1 := by
  have hs := hu.size
  have hx : ∀ b, P.X b → W1.heap[b]? = W.heap[b]? := fun b hb => hu.block b (h.out b hb).1 (h.out b hb).2
  refine ⟨hF, by have := h.ge; omega, nI, nD, nL, sI, sD, sL, (hx _ h.xf).trans h.box, (hx _ h.xm).trans h.mp, fun b hb => ⟨by have := (h.out b hb).1; omega, fun hk => ?_⟩, h.xf, h.xm, h.mf, ?_⟩
  · rcases hf b hk with h1 | h1
    · exact (h.out b hb).2 h1
    · have := (h.out b hb).1; omega
  · exact h.keep.trans hu fun b hb => .inl (.inl fun hx => (h.out b hx).2 hb)
theorem FRow.move {P : FP} {S S' : FS} {g cap : Nat} {uI uD uL uI' uD' uL' : List Value} {W W1 : World} (h : FRow P S g cap uI uD uL W) (hu : Upd (P.feet uI uD uL) W W1) (hf : ∀ k, P.feet uI' uD' uL' k → P.feet uI uD uL k ∨ W.heap.size ≤ k) (hc : S'.c = S.c) : FRow P S' g cap uI' uD' uL' W1 := by
  have hg := h.row.lt g rfl
  refine ⟨own_upd (by rw [hc]; exact h.row) hu fun k hk e => ?_, fun hk => ?_, h.x⟩
  · have e2 : g = k := by simpa [Value.ownBlock] using hk
    exact h.out (e2 ▸ e)
  · rcases hf g hk with h1 | h1
    · exact h.out h1
    · omega
/-- A store into the count's row. -/
theorem FI.count {P : FP} {S S' : FS} {vN : Value} {uI uD uL : List Value} {W W' : World} {g : Nat} (h : FI P S vN uI uD uL W) (hg : ¬ P.feet uI uD uL g) (hx : ¬ P.X g) (hu : Upd (fun k => k = g) W W') (hI : S'.I = S.I) (hD : S'.D = S.D) (hL : S'.L = S.L) : FI P S' vN uI uD uL W' := by
  have hs := hu.size
  have e : ∀ k, P.feet uI uD uL k → ¬ k = g := fun k hk e => hg (e ▸ hk)
  have e' : ∀ b, P.X b → ¬ b = g := fun b hb e => hx (e ▸ hb)
  refine ⟨?_, by have := h.ge; omega, by rw [hI]; exact h.nI, by rw [hD]; exact h.nD, by rw [hL]; exact h.nL, by rw [hI]; exact h.sI, by rw [hD]; exact h.sD, by rw [hL]; exact h.sL, (hu.block _ (h.out _ h.xf).1 (e' _ h.xf)).trans h.box, (hu.block _ (h.out _ h.xm).1 (e' _ h.xm)).trans h.mp, fun b hb => ⟨by have := (h.out b hb).1; omega, (h.out b hb).2⟩, h.xf, h.xm, h.mf, h.keep.trans hu fun b hb => .inl (.inl (by rw [hb]; exact hx))⟩
  rw [hI, hD, hL]
  exact h.feet.upd hu fun k hk => e k (by rw [h.nI, h.nD, h.nL] at hk; exact hk)

theorem runL_len1 (n : Nat) (ways : Int) (xs : List Int) (L : List (List Int)) : (runL n ways L xs).1.length = L.length := runL_length _ _ _ _
theorem FI.exec {P : FP} {S : FS} {vN : Value} {uI uD uL uI' uL' : List Value} {W W0 W1 : World} {g cap : Nat} (h : FI P S vN uI uD uL W) (hr : FRow P S g cap uI uD uL W) (hl : S.c.length = 14) (b0 : Below W.heap.size W W0) (e : List Int) (he : gi e 0 = 1)
    (M : MemI W0 P.B P.gI P.kI P.gL P.kL uI' uI uL' uL (runL S.I.length P.iw S.I (linI P.il (gi e 2) (gi e 5))).1 (farL P.il P.ll S.L.length P.lw S.L (runL S.I.length P.iw S.I (linI P.il (gi e 2) (gi e 5))).2).1 W1) :
    ∀ W', W' = ((W1.setCell ⟨g, 1, none⟩ (.int .i64 (gi S.c 1 + 1))).setCell ⟨g, 2, none⟩ (.int .i64 (gi S.c 2 + ((runL S.I.length P.iw S.I (linI P.il (gi e 2) (gi e 5))).2.length : Int)))).setCell ⟨g, 3, none⟩ (.int .i64 (gi S.c 3 + ((farL P.il P.ll S.L.length P.lw S.L (runL S.I.length P.iw S.I (linI P.il (gi e 2) (gi e 5))).2).2 : Int))) →
      FI P (S.step P.il P.iw P.dl P.dw P.ll P.lw e) vN uI' uD uL' W' ∧ FRow P (S.step P.il P.iw P.dl P.dw P.ll P.lw e) g cap uI' uD uL' W' := by
  intro W' hW'
  have hS : S.step P.il P.iw P.dl P.dw P.ll P.lw e = ⟨(runL S.I.length P.iw S.I (linI P.il (gi e 2) (gi e 5))).1, S.D, (farL P.il P.ll S.L.length P.lw S.L (runL S.I.length P.iw S.I (linI P.il (gi e 2) (gi e 5))).2).1, addC S.c 1 (runL S.I.length P.iw S.I (linI P.il (gi e 2) (gi e 5))).2.length (farL P.il P.ll S.L.length P.lw S.L (runL S.I.length P.iw S.I (linI P.il (gi e 2) (gi e 5))).2).2⟩ := by
    unfold FS.step
    rw [if_pos he]
  rw [hS]
  obtain ⟨R, hR⟩ : ∃ R, runL S.I.length P.iw S.I (linI P.il (gi e 2) (gi e 5)) = R := ⟨_, rfl⟩
  have e1 : R.1.length = S.I.length := by rw [← hR]; exact runL_len1 _ _ _ _
  have m1 : Small P.iw R.1 := by rw [← hR]; exact runL_small _ h.sI
  rw [hR] at M hW' ⊢
  obtain ⟨F, hF⟩ : ∃ F, farL P.il P.ll S.L.length P.lw S.L R.2 = F := ⟨_, rfl⟩
  have e2 : F.1.length = S.L.length := by rw [← hF]; exact farL_length _ _ _ _ _ _
  have m2 : Small P.lw F.1 := by rw [← hF]; exact farL_small _ h.sL
  rw [hF] at M hW' ⊢
  obtain ⟨f1, hu, hf⟩ := h.feet.memI b0 M e1 e2
  rw [h.nI, h.nD, h.nL] at hu hf
  have h1 : FI P ⟨R.1, S.D, F.1, S.c⟩ vN uI' uD uL' W1 := h.move f1 hu hf (e1.trans h.nI) h.nD (e2.trans h.nL) m1 h.sD m2
  have r1 : FRow P ⟨R.1, S.D, F.1, S.c⟩ g cap uI' uD uL' W1 := hr.move hu hf rfl
  have r2 := r1.add hl 1 (by omega) (by omega) R.2.length F.2 ⟨R.1, S.D, F.1, addC S.c 1 R.2.length F.2⟩ rfl
  refine ⟨h1.count (g := g) r1.out r1.x ?_ rfl rfl rfl, by rw [hW']; exact r2⟩
  rw [hW']
  exact (((Upd.setCell W1 ⟨g, 1, none⟩ _).trans (Upd.setCell _ ⟨g, 2, none⟩ _) fun _ h => .inl h).trans (Upd.setCell _ ⟨g, 3, none⟩ _) fun _ h => .inl h)
theorem FI.load {P : FP} {S : FS} {vN : Value} {uI uD uL uD' uL' : List Value} {W W0 W1 : World} {g cap : Nat} (h : FI P S vN uI uD uL W) (hr : FRow P S g cap uI uD uL W) (hl : S.c.length = 14) (b0 : Below W.heap.size W W0) (e : List Int) (he : gi e 0 = 2)
    (M : MemI W0 P.B P.gD P.kD P.gL P.kL uD' uD uL' uL (runL S.D.length P.dw S.D (linI P.dl (gi e 3) (gi e 5))).1 (farL P.dl P.ll S.L.length P.lw S.L (runL S.D.length P.dw S.D (linI P.dl (gi e 3) (gi e 5))).2).1 W1) :
    ∀ W', W' = ((W1.setCell ⟨g, 4, none⟩ (.int .i64 (gi S.c 4 + 1))).setCell ⟨g, 5, none⟩ (.int .i64 (gi S.c 5 + ((runL S.D.length P.dw S.D (linI P.dl (gi e 3) (gi e 5))).2.length : Int)))).setCell ⟨g, 6, none⟩ (.int .i64 (gi S.c 6 + ((farL P.dl P.ll S.L.length P.lw S.L (runL S.D.length P.dw S.D (linI P.dl (gi e 3) (gi e 5))).2).2 : Int))) →
      FI P (S.step P.il P.iw P.dl P.dw P.ll P.lw e) vN uI uD' uL' W' ∧ FRow P (S.step P.il P.iw P.dl P.dw P.ll P.lw e) g cap uI uD' uL' W' := by
  intro W' hW'
  have hS : S.step P.il P.iw P.dl P.dw P.ll P.lw e = ⟨S.I, (runL S.D.length P.dw S.D (linI P.dl (gi e 3) (gi e 5))).1, (farL P.dl P.ll S.L.length P.lw S.L (runL S.D.length P.dw S.D (linI P.dl (gi e 3) (gi e 5))).2).1, addC S.c 4 (runL S.D.length P.dw S.D (linI P.dl (gi e 3) (gi e 5))).2.length (farL P.dl P.ll S.L.length P.lw S.L (runL S.D.length P.dw S.D (linI P.dl (gi e 3) (gi e 5))).2).2⟩ := by
    unfold FS.step
    rw [if_neg (by omega)]
  rw [hS]
  obtain ⟨R, hR⟩ : ∃ R, runL S.D.length P.dw S.D (linI P.dl (gi e 3) (gi e 5)) = R := ⟨_, rfl⟩
  have e1 : R.1.length = S.D.length := by rw [← hR]; exact runL_len1 _ _ _ _
  have m1 : Small P.dw R.1 := by rw [← hR]; exact runL_small _ h.sD
  rw [hR] at M hW' ⊢
  obtain ⟨F, hF⟩ : ∃ F, farL P.dl P.ll S.L.length P.lw S.L R.2 = F := ⟨_, rfl⟩
  have e2 : F.1.length = S.L.length := by rw [← hF]; exact farL_length _ _ _ _ _ _
  have m2 : Small P.lw F.1 := by rw [← hF]; exact farL_small _ h.sL
  rw [hF] at M hW' ⊢
  obtain ⟨f1, hu, hf⟩ := h.feet.memD b0 M e1 e2
  rw [h.nI, h.nD, h.nL] at hu hf
  have h1 : FI P ⟨S.I, R.1, F.1, S.c⟩ vN uI uD' uL' W1 := h.move f1 hu hf h.nI (e1.trans h.nD) (e2.trans h.nL) h.sI m1 m2
  have r1 : FRow P ⟨S.I, R.1, F.1, S.c⟩ g cap uI uD' uL' W1 := hr.move hu hf rfl
  have r2 := r1.add hl 4 (by omega) (by omega) R.2.length F.2 ⟨S.I, R.1, F.1, addC S.c 4 R.2.length F.2⟩ rfl
  refine ⟨h1.count (g := g) r1.out r1.x ?_ rfl rfl rfl, by rw [hW']; exact r2⟩
  rw [hW']
  exact (((Upd.setCell W1 ⟨g, 4, none⟩ _).trans (Upd.setCell _ ⟨g, 5, none⟩ _) fun _ h => .inl h).trans (Upd.setCell _ ⟨g, 6, none⟩ _) fun _ h => .inl h)
/-- A new count: its row is new, and the feeder holds it. -/
theorem FI.newCount {P : FP} {S S' : FS} {vN : Value} {uI uD uL : List Value} {W W1 : World} {g cap : Nat} (h : FI P S vN uI uD uL W) (hb : Below W.heap.size W W1) (ho : W1.ownsRow W.heap.size 79 14 (.slice (some ⟨g, 0, none⟩) 1 cap) 1 (cntCells S'.c))
    (hI : S'.I = S.I) (hD : S'.D = S.D) (hL : S'.L = S.L) : FI P S' (.slice (some ⟨g, 0, none⟩) 1 cap) uI uD uL (W1.setCell ⟨P.fb, 30, none⟩ (.slice (some ⟨g, 0, none⟩) 1 cap)) ∧ FRow P S' g cap uI uD uL (W1.setCell ⟨P.fb, 30, none⟩ (.slice (some ⟨g, 0, none⟩) 1 cap)) := by
  have h1 := h.below hb
  have hs := hb.size
  have hg := ho.lt g rfl
  have hu : Upd (fun k => k = P.fb) W1 (W1.setCell ⟨P.fb, 30, none⟩ (.slice (some ⟨g, 0, none⟩) 1 cap)) := Upd.setCell W1 ⟨P.fb, 30, none⟩ _
  have hfo := h1.out _ h1.xf
  have hfw := (h.out _ h.xf).1
  have hmw := (h.out _ h.xm).1
  refine ⟨⟨?_, by have := h1.ge; have := hu.size; omega, by rw [hI]; exact h.nI, by rw [hD]; exact h.nD, by rw [hL]; exact h.nL, by rw [hI]; exact h.sI, by rw [hD]; exact h.sD, by rw [hL]; exact h.sL, set1_heap h1.box 30 _, (hu.block _ (by omega) h.mf).trans h1.mp, fun b hx => ⟨by have := (h1.out b hx).1; have := hu.size; omega, (h1.out b hx).2⟩, h.xf, h.xm, h.mf, h1.keep.trans hu fun b hb => .inl (.inr hb)⟩, ⟨own_base' (own_upd ho hu fun k hk e => ?_) fun k hk => ?_, fun hk => ?_, fun hx => ?_⟩⟩
  · rw [hI, hD, hL]
    refine h1.feet.upd hu fun k hk e => ?_
    rw [h1.nI, h1.nD, h1.nL] at hk
    exact hfo.2 (e ▸ hk)
  · have := (ho.lt k hk).1; omega
  · have := (ho.lt k hk).1; have := h.ge; omega
  · have := h.feet.lt g (by rw [h.nI, h.nD, h.nL]; exact hk); omega
  · have := (h.out g hx).1; omega
end Go.Proofs.Ytdkacdfhapgboaa

/- What a feed computes, event by event. No program in sight. -/
set_option linter.unusedVariables false
set_option linter.unusedSimpArgs false
namespace Go.Proofs.Ytdkacdfhapgboaa

theorem FS.run_succ (il iw dl dw ll lw : Int) (S : FS) (es : List (List Int)) (k : Nat) (hk : k < es.length) : FS.run il iw dl dw ll lw S (es.take (k + 1)) = (FS.run il iw dl dw ll lw S (es.take k)).step il iw dl dw ll lw (gn es k) := by
  unfold FS.run
  rw [List.take_succ_eq_append_getElem hk, List.foldl_append]
  have e : gn es k = es[k] := by simp [gn, List.getD_eq_getElem?_getD, List.getElem?_eq_getElem hk]
  rw [e]
  rfl
theorem FS.step_len (il iw dl dw ll lw : Int) (S : FS) (e : List Int) : (S.step il iw dl dw ll lw e).c.length = S.c.length := by
  unfold FS.step
  split <;> simp [addC_len]
theorem FS.step_pc (il iw dl dw ll lw : Int) (S : FS) (e : List Int) (hl : S.c.length = 14) : gi (S.step il iw dl dw ll lw e).c 0 = gi S.c 0 := by
  unfold FS.step
  split
  · rw [addC_gi _ _ _ _ hl (by omega) 0 (by omega)]; simp
  · rw [addC_gi _ _ _ _ hl (by omega) 0 (by omega)]; simp
theorem acc_le (line ways ll lw at_ n : Int) (L K : List (List Int)) (h1 : 4 ≤ line ∧ line ≤ 256) (h2 : 4 ≤ ll) (ha : 0 ≤ at_) (hn : 1 ≤ n ∧ n ≤ 65536) :
    (runL L.length ways L (linI line at_ n)).2.length ≤ 65538 ∧ (farL line ll K.length lw K (runL L.length ways L (linI line at_ n)).2).2 ≤ 4300000000 := by
  have e1 := (runL_sub L.length ways (linI line at_ n) L).2
  have e2 := nLines_le line at_ n h1.1 ha hn
  rw [linI_len] at e1
  have e3 := farL_le line ll K.length lw h2 ⟨by omega, by omega⟩ (runL L.length ways L (linI line at_ n)).2 K
  have e4 : (runL L.length ways L (linI line at_ n)).2.length ≤ 65538 := by omega
  have e5 := Nat.mul_le_mul_right 65538 e4
  exact ⟨e4, by omega⟩
theorem addC_le (c : List Int) (j : Nat) (m d : Int) (hl : c.length = 14) (hj : j + 2 < 14) (hm : 0 ≤ m ∧ m ≤ 4300000000) (hd : 0 ≤ d ∧ d ≤ 4300000000) (i : Nat) (hi : i < 14) : gi c i ≤ gi (addC c j m d) i ∧ gi (addC c j m d) i ≤ gi c i + 4300000000 := by
  rw [addC_gi c j m d hl hj i hi]
  by_cases e1 : i = j
  · subst e1; simp; omega
  · by_cases e2 : i = j + 1
    · subst e2; simp; omega
    · by_cases e3 : i = j + 2
      · subst e3; simp; omega
      · simp [e1, e2, e3]; omega
theorem FS.step_le (il iw dl dw ll lw : Int) (S : FS) (e : List Int) (hl : S.c.length = 14) (h1 : 4 ≤ il ∧ il ≤ 256) (h2 : 4 ≤ dl ∧ dl ≤ 256) (h3 : 4 ≤ ll) (ha : 0 ≤ gi e 2) (hb : 0 ≤ gi e 3) (hn : 1 ≤ gi e 5 ∧ gi e 5 ≤ 65536) (i : Nat) (hi : i < 14) :
    gi S.c i ≤ gi (S.step il iw dl dw ll lw e).c i ∧ gi (S.step il iw dl dw ll lw e).c i ≤ gi S.c i + 4300000000 := by
  unfold FS.step
  split
  · obtain ⟨b1, b2⟩ := acc_le il iw ll lw (gi e 2) (gi e 5) S.I S.L h1 h3 ha hn
    exact addC_le S.c 1 _ _ hl (by omega) ⟨by omega, by omega⟩ ⟨by omega, by omega⟩ i hi
  · obtain ⟨b1, b2⟩ := acc_le dl dw ll lw (gi e 3) (gi e 5) S.D S.L h2 h3 hb hn
    exact addC_le S.c 4 _ _ hl (by omega) ⟨by omega, by omega⟩ ⟨by omega, by omega⟩ i hi
end Go.Proofs.Ytdkacdfhapgboaa
