/- Part 2 of the texts that the proof stands on: Access, Acc, PredN, PredM, After, PredK, Counter, Replay, Win, Train, CallR, RetP, OwnedP, Chg. -/
import Derived.Test.YtdkacdfhapgboaaM01
import Derived.Maps.OwnIn
import Derived.Deep.RegionHeld3
import Derived.Deep.QuietTactic
import Derived.BigQuiet
import Derived.StillTail
import Derived.Laws.Bits64b
import Derived.Maps.AppendAt
import Derived.ArgAppend
import Derived.StillTailTactics

/- sim.access: what it does to the sets of a cache that the call owns. -/
set_option linter.unusedVariables false
set_option linter.unusedSimpArgs false
namespace Go.Proofs.Ytdkacdfhapgboaa
open Go.RowKit Go.Shelf
attribute [local go_sem] Oper.semAt_some

def vals (xs : List U32) : List Int := xs.map (·.1)
theorem vals_snoc (xs : List U32) (x : U32) : vals (xs ++ [x]) = vals xs ++ [x.1] := by simp [vals]
theorem nLines_le (line at_ cnt : Int) (h1 : 4 ≤ line) (ha : 0 ≤ at_) (hc : 1 ≤ cnt ∧ cnt ≤ 65536) : nLines line at_ cnt ≤ 65538 := by
  unfold nLines
  have h : (at_ + cnt - 1) / line ≤ at_ / line + 65536 := by
    have e : at_ = line * (at_ / line) + at_ % line := (Int.mul_ediv_add_emod at_ line).symm
    have hm := Int.emod_lt_of_pos at_ (show 0 < line by omega)
    have h2 : (at_ + cnt - 1) / line < at_ / line + 65537 := by
      rw [Int.ediv_lt_iff_lt_mul (by omega)]
      have : 4 * 65537 ≤ line * 65537 := Int.mul_le_mul_of_nonneg_right h1 (by omega)
      rw [Int.add_mul, Int.mul_comm (at_ / line) line, Int.mul_comm 65537 line]
      omega
    omega
  omega

/-- What the loop of access keeps: n₀ is the heap's size at the call, W0 five blocks later the loop begins. -/
structure AccI (w : World) (B g c : Nat) (vs : List Value) (L : List (List Int)) (line ways : Int) (pre : List Int) (vs' : List Value) (vo : Value) (W : World) : Prop where
  sets : OwnSets W B g c vs' (runL L.length ways L pre).1
  box : Boxed W (w.heap.size + 1) 22 vo
  out : W.ownsRow (w.heap.size + 5) 30 1 vo (runL L.length ways L pre).2.length (nums .u32 (runL L.length ways L pre).2)
  outapart : ∀ k, vo.ownBlock = some k → ¬ foot g vs' L.length k
  fresh : ∀ k, foot g vs' L.length k → foot g vs L.length k ∨ w.heap.size + 5 ≤ k
  cbox : W.heap[w.heap.size]? = some (.cells #[.int .i64 line, .int .i64 (L.length : Int), .int .i64 ways, .slice (some ⟨g, 0, none⟩) L.length c] 36 (0, 0))
  upd : Upd (foot g vs L.length) w W
  size : w.heap.size + 5 ≤ W.heap.size

/-- Behind a round: what the append has done to the other blocks is F. -/
theorem acc_step {w W W1 W2 : World} {B g c g1 c1 : Nat} {vs vs' : List Value} {L : List (List Int)} {line ways : Int} {pre : List Int} {vo vo' : Value} {x : Int} (hI : AccI w B g c vs L line ways pre vs' vo W)
    (h0 : OwnSets w B g c vs L) (hL : 1 ≤ L.length) (hsm : Small ways L) (l : List Int) (hl : l = frontL (gl (runL L.length ways L pre).1 (setNo L.length x)) x)
    (ho : W1.ownsRow B 30 1 (.slice (some ⟨g1, 0, none⟩) l.length c1) l.length (nums .u32 l)) (hg : W.grownBy W1 (gv vs' (setNo L.length x)).ownBlock) (hat : (gv vs' (setNo L.length x)).ownBlock = some g1 ∨ W.heap.size ≤ g1)
    (hu : Upd (fun k => k = w.heap.size + 1 ∨ vo.ownBlock = some k) W1 W2)
    (hbox : Boxed W2 (w.heap.size + 1) 22 vo') (hout : W2.ownsRow (w.heap.size + 5) 30 1 vo' (runL L.length ways L (pre ++ [x])).2.length (nums .u32 (runL L.length ways L (pre ++ [x])).2))
    (hva : ∀ k, vo'.ownBlock = some k → vo.ownBlock = some k ∨ W1.heap.size ≤ k) (m : Nat) (hm : m = min l.length ways.toNat) :
    AccI w B g c vs L line ways (pre ++ [x]) (vs'.set (setNo L.length x) (.slice (some ⟨g1, 0, none⟩) m c1)) vo' (W2.setCell ⟨g, setNo L.length x, none⟩ (.slice (some ⟨g1, 0, none⟩) m c1)) := by
  obtain ⟨s, hs⟩ : ∃ s, s = setNo L.length x := ⟨_, rfl⟩
  obtain ⟨L', hL'⟩ : ∃ L', L' = (runL L.length ways L pre).1 := ⟨_, rfl⟩
  have hlen : L'.length = L.length := by rw [hL', runL_length]
  have hsl : s < L.length := by rw [hs]; exact setNo_lt _ hL x
  have hsets := hI.sets
  rw [← hL'] at hsets hl
  rw [← hs] at hl hg hat ⊢
  have hft := h0.foot_lt
  have hgf : foot g vs L.length g := .inl rfl
  have hgn := (hft g hgf).2
  have hfl : ∀ k, foot g vs' L.length k → k ≠ w.heap.size ∧ k ≠ w.heap.size + 1 := fun k hk => by
    rcases hI.fresh k hk with h | h
    · have := (hft k h).2; omega
    · omega
  have hvoW : ∀ k, vo.ownBlock = some k → w.heap.size + 5 ≤ k ∧ k < W.heap.size := fun k hk => hI.out.lt k hk
  have hWsz := hI.size
  have hW1 := hg.size
  have hW2 := hu.size
  have hsv : ∀ k, (gv vs' s).ownBlock = some k → foot g vs' L.length k := fun k hk => .inr ⟨s, hsl, hk⟩
  have hg1W : g1 < W1.heap.size := (ho.lt g1 rfl).2
  have hg1f : foot g vs L.length g1 ∨ w.heap.size + 5 ≤ g1 := by
    rcases hat with e | e
    · exact hI.fresh g1 (hsv g1 e)
    · exact .inr (by omega)
  have hF : ∀ k, foot g vs' L'.length k → ¬ (k = w.heap.size + 1 ∨ vo.ownBlock = some k) := fun k hk hor => by
    rw [hlen] at hk
    rcases hor with h | h
    · exact (hfl k hk).2 h
    · exact hI.outapart k h hk
  have hF1 : ¬ (g1 = w.heap.size + 1 ∨ vo.ownBlock = some g1) := fun hor => by
    rcases hat with e | e
    · exact hF g1 (by rw [hlen]; exact hsv g1 e) hor
    · rcases hor with h | h
      · omega
      · have := (hvoW g1 h).2; omega
  obtain ⟨hst, hft'⟩ := sets_step hsets (by omega) ho hg hat hu hF hF1 m (by rw [hm]; exact Nat.min_le_left _ _)
  have hrun : (runL L.length ways L (pre ++ [x])).1 = L'.set s (l.take m) := by
    rw [runL_snoc]
    simp only
    rw [← hL', touchL, ← hs, ← hl, hm]
    congr 1
    rw [List.take_eq_take_iff]
    omega
  have hsc : Upd (fun k => k = g) W2 (W2.setCell ⟨g, s, none⟩ (.slice (some ⟨g1, 0, none⟩) m c1)) := Upd.setCell W2 ⟨g, s, none⟩ _
  have hvog : ∀ k, vo'.ownBlock = some k → k ≠ g := fun k hk e => by
    subst e
    rcases hva k hk with h | h
    · have := (hvoW k h).1; omega
    · omega
  refine ⟨by rw [hrun]; exact hst, ?_, own_upd hout hsc fun k hk e => hvog k hk e, ?_, ?_, ?_, ?_, by have := hsc.size; omega⟩
  · show (W2.setCell _ _).heap[w.heap.size + 1]? = _
    rw [hsc.block _ hbox.lt (by omega)]; exact hbox
  · intro k hk hf
    rcases hft' k (by rw [hlen]; exact hf) with h | h
    · rw [hlen] at h
      rcases hva k hk with h1 | h1
      · exact hI.outapart k h1 h
      · have := (hsets.foot_lt k (by rw [hlen]; exact h)).2; omega
    · subst h
      rcases hva k hk with h1 | h1
      · rcases hat with e | e
        · exact hI.outapart k h1 (hsv k e)
        · have := (hvoW k h1).2; omega
      · omega
  · intro k hf
    rcases hft' k (by rw [hlen]; exact hf) with h | h
    · rw [hlen] at h; exact hI.fresh k h
    · subst h; exact hg1f
  · have h1 : w.heap.size < W.heap.size := by omega
    rw [hsc.block _ (by omega) (by omega), hu.block _ (by omega) (fun h => by
      rcases h with h | h
      · omega
      · have := (hvoW _ h).1; omega), hg.block _ h1 (fun e => (hfl _ (hsv _ e.symm)).1 rfl)]
    exact hI.cbox
  · have u1 : Upd (foot g vs L.length) w W1 := hI.upd.trans (Upd.of_grown hg) fun k hk => by
      rcases hI.fresh k (hsv k hk) with h | h
      · exact .inl h
      · exact .inr (by omega)
    have u2 : Upd (foot g vs L.length) w W2 := u1.trans hu fun k hk => by
      rcases hk with h | h
      · exact .inr (by omega)
      · have := (hvoW k h).1; exact .inr (by omega)
    exact u2.trans hsc fun k hk => by subst hk; exact .inl hgf

theorem AccI.nc {w W W' : World} {B g c : Nat} {vs vs' : List Value} {L : List (List Int)} {line ways : Int} {pre : List Int} {vo : Value} {row : Option Nat} (h : AccI w B g c vs L line ways pre vs' vo W)
    (hg : W.grownBy W' row) (hr : ∀ r, row = some r → w.heap.size + 5 ≤ r ∧ ∃ o : Obj, W.heap[r]? = some o ∧ o.isCells = false) : AccI w B g c vs L line ways pre vs' vo W' := by
  have hr' := fun r e => (hr r e).2
  refine ⟨h.sets.nc hg hr', heap_nc h.box hg hr', own_nc h.out hg hr', h.outapart, h.fresh, heap_nc h.cbox hg hr', h.upd.trans (Upd.of_grown hg) fun k hk => ?_, Nat.le_trans h.size hg.size⟩
  have := (hr k hk).1
  exact .inr (by omega)

theorem acc_cells {w W W1 W2 : World} {B g c : Nat} {vs vs' : List Value} {L : List (List Int)} {line ways : Int} {pre : List Int} {vo : Value} {s : Nat} (hI : AccI w B g c vs L line ways pre vs' vo W)
    (h0 : ∀ k, foot g vs L.length k → B ≤ k ∧ k < w.heap.size) (hs : s < L.length) (hg : W.grownBy W1 (gv vs' s).ownBlock) (hu : Upd (fun k => k = w.heap.size + 1 ∨ vo.ownBlock = some k) W1 W2) :
    W2.cell? ⟨g, s, none⟩ = some (gv vs' s) ∧ W2.frozen? ⟨g, s, none⟩ = false ∧ W2.cell? ⟨w.heap.size, 2, none⟩ = some (.int .i64 ways) := by
  have hsets := hI.sets
  have hlen := runL_length (L.length : Int) ways pre L
  have hvl := hsets.vlen
  have hne := hsets.ne s (by omega)
  have hgw : g < w.heap.size := (h0 g (.inl rfl)).2
  have hWsz := hI.size
  have hgb : W2.heap[g]? = W.heap[g]? := (hu.block g (by have := hg.size; omega) fun h => by
    rcases h with h | h
    · omega
    · have := (hI.out.lt _ h).1; omega).trans (hg.block g (by omega) fun e => hne e.symm)
  have hcw : ∀ k, (gv vs' s).ownBlock = some k → k ≠ w.heap.size := fun k hk => by
    rcases hI.fresh k (.inr ⟨s, hs, hk⟩) with h | h
    · have := (h0 k h).2; omega
    · omega
  have hcb : W2.heap[w.heap.size]? = W.heap[w.heap.size]? := (hu.block _ (by have := hg.size; omega) fun h => by
    rcases h with h | h
    · omega
    · have := (hI.out.lt _ h).1; omega).trans (hg.block _ (by omega) fun e => hcw _ e.symm rfl)
  have hr := hsets.row
  rw [hlen] at hr
  have hcell := hr.cellAt s (by omega)
  rw [List.getElem?_eq_getElem (by omega), ← gv_get] at hcell
  have hfr := hr.frozenAt s
  refine ⟨?_, ?_, ?_⟩
  · simp only [World.cell?, hgb] at hcell ⊢
    exact hcell
  · simp only [World.frozen?, hgb] at hfr ⊢
    exact hfr
  · simp [World.cell?, hcb, hI.cbox]

/-- Behind an append to the slice in a box, and the store: all that is owed. -/
theorem app_facts {V w2 : World} {n B k m : Nat} {t e : TypeId} {v v' : Value} {xs ys : List Value} {tmp : Obj} (hv : Boxed V B t v) (hte : t ≠ e) (hrow : V.ownsRow n e 1 v k xs) (hown : w2.ownsRow n e 1 v' m ys) (hgrow : (V.alloc tmp).grownBy w2 v.ownBlock)
    (hat : v'.ownBlock = v.ownBlock ∨ v'.ownBlock = some (V.heap.size + 1)) :
    w2.cell? ⟨B, 0, none⟩ = some v ∧ w2.frozen? ⟨B, 0, none⟩ = false ∧ Boxed (w2.setCell ⟨B, 0, none⟩ v') B t v' ∧ (w2.setCell ⟨B, 0, none⟩ v').ownsRow n e 1 v' m ys ∧ Upd (fun k => k = B ∨ v.ownBlock = some k) V (w2.setCell ⟨B, 0, none⟩ v') ∧
      (∀ k, v'.ownBlock = some k → v.ownBlock = some k ∨ V.heap.size ≤ k) := by
  have hv1 : Boxed w2 B t v := (hv.alloc tmp).kept hgrow (hv.not_row hte hrow)
  refine ⟨hv1.cell, hv1.frozen, hv1.set v', hown.kept (grownBy_setCell' w2 B v') (.inr (hv1.not_row hte hown).symm), ?_, ?_⟩
  · refine ((Upd.alloc (fun k => k = B ∨ v.ownBlock = some k) V tmp).trans (Upd.of_grown hgrow) fun k h => .inl (.inr h)).trans (Upd.setCell _ _ _) fun k h => .inl (.inl h)
  · intro k hk
    rcases hat with h | h
    · exact .inl (h ▸ hk)
    · rw [h] at hk
      have : V.heap.size + 1 = k := by simpa using hk
      exact .inr (by omega)

/-- The end of a round. -/
theorem acc_end {w W W1 W2 : World} {B g c g1 c1 : Nat} {vs vs' : List Value} {L : List (List Int)} {line ways : Int} {pre : List Int} {vo vo' : Value} {x : Int} {s : Nat} (hs : s = setNo L.length x) (hI : AccI w B g c vs L line ways pre vs' vo W)
    (h0 : OwnSets w B g c vs L) (hL : 1 ≤ L.length) (hsm : Small ways L) (l : List Int) (hl : l = frontL (gl (runL L.length ways L pre).1 s) x)
    (ho : W1.ownsRow B 30 1 (.slice (some ⟨g1, 0, none⟩) l.length c1) l.length (nums .u32 l)) (hg : W.grownBy W1 (gv vs' s).ownBlock) (hat : (gv vs' s).ownBlock = some g1 ∨ W.heap.size ≤ g1)
    (hu : Upd (fun k => k = w.heap.size + 1 ∨ vo.ownBlock = some k) W1 W2)
    (hbox : Boxed W2 (w.heap.size + 1) 22 vo') (hout : W2.ownsRow (w.heap.size + 5) 30 1 vo' (runL L.length ways L (pre ++ [x])).2.length (nums .u32 (runL L.length ways L (pre ++ [x])).2))
    (hva : ∀ k, vo'.ownBlock = some k → vo.ownBlock = some k ∨ W1.heap.size ≤ k) (m : Nat) (hm : m = min l.length ways.toNat) :
    KeepsFrom (w.heap.size + 5) W (W2.setCell ⟨g, s, none⟩ (.slice (some ⟨g1, 0, none⟩) m c1)) ∧ KeepB [w.heap.size + 1 + 1 + 1, w.heap.size + 1 + 1, w.heap.size + 1 + 1 + 2] W (W2.setCell ⟨g, s, none⟩ (.slice (some ⟨g1, 0, none⟩) m c1)) ∧
      ∃ vs' vo, AccI w B g c vs L line ways (pre ++ [x]) vs' vo (W2.setCell ⟨g, s, none⟩ (.slice (some ⟨g1, 0, none⟩) m c1)) := by
  subst hs
  have hft := h0.foot_lt
  have hsl : setNo L.length x < L.length := setNo_lt _ hL x
  have hU : Upd (fun k => k = g ∨ k = w.heap.size + 1 ∨ vo.ownBlock = some k ∨ (gv vs' (setNo L.length x)).ownBlock = some k) W (W2.setCell ⟨g, setNo L.length x, none⟩ (.slice (some ⟨g1, 0, none⟩) m c1)) :=
    (((Upd.of_grown hg).mono fun k h => .inr (.inr (.inr h))).trans hu fun k h => .inl (.inr (by rcases h with h | h; exact .inl h; exact .inr (.inl h)))).trans (Upd.setCell _ _ _) fun k h => .inl (.inl h)
  have hcells : ∀ k, (k = g ∨ k = w.heap.size + 1 ∨ vo.ownBlock = some k ∨ (gv vs' (setNo L.length x)).ownBlock = some k) → ∃ o : Obj, W.heap[k]? = some o ∧ o.isCells = true := by
    have own : ∀ {b : Nat} {e : TypeId} {sz : Nat} {v : Value} {n : Nat} {cs : List Value} {k : Nat}, W.ownsRow b e sz v n cs → v.ownBlock = some k → ∃ o : Obj, W.heap[k]? = some o ∧ o.isCells = true := fun h hk => by
      rcases h.2 with ⟨rfl, _⟩ | ⟨g', cap, cur, rfl, _, hh, _⟩
      · simp [Value.ownBlock] at hk
      · obtain rfl : g' = _ := by simpa [Value.ownBlock] using hk
        exact ⟨_, hh, rfl⟩
    rintro k (rfl | rfl | h | h)
    · exact own hI.sets.row rfl
    · exact ⟨_, hI.box, rfl⟩
    · exact own hI.out h
    · have hl' := runL_length (L.length : Int) ways pre L
      exact own (hI.sets.each _ (by omega)) h
  have hlt : ∀ k, (k = g ∨ k = w.heap.size + 1 ∨ vo.ownBlock = some k ∨ (gv vs' (setNo L.length x)).ownBlock = some k) → k < w.heap.size + 2 ∨ w.heap.size + 5 ≤ k := by
    rintro k (rfl | rfl | h | h)
    · have := (hft _ (.inl rfl)).2; omega
    · omega
    · exact .inr (hI.out.lt k h).1
    · rcases hI.fresh k (.inr ⟨_, hsl, h⟩) with h | h
      · have := (hft k h).2; omega
      · omega
  refine ⟨⟨hU.size, fun k o _ hk hc => ?_⟩, fun b hb o ho' _ => ?_, _, _, acc_step hI h0 hL hsm l hl ho hg hat hu hbox hout hva m hm⟩
  · rw [hU.block k (Array.getElem?_eq_some_iff.1 hk).1 fun h => by
      obtain ⟨o', ho', hc'⟩ := hcells k h
      rw [hk] at ho'; cases ho'; rw [hc] at hc'; cases hc']
    exact hk
  · rw [hU.block b (Array.getElem?_eq_some_iff.1 ho').1 fun h => by
      have := hlt b h
      simp at hb
      omega]
    exact ho'
theorem keep_pre {W V X : World} {n : Nat} {bs : List Nat} {P : Prop} (h1 : KeepsOthers W V) (h2 : KeepB bs W V) (h : KeepsFrom n V X ∧ KeepB bs V X ∧ P) : KeepsFrom n W X ∧ KeepB bs W X ∧ P :=
  ⟨(h1.from n).trans h.1, h2.trans h.2.1, h.2.2⟩

set_option maxRecDepth 100000 in
set_option maxHeartbeats 1000000 in
theorem access_in (B g c : Nat) (vs : List Value) (L : List (List Int)) (line ways at_ cnt : Int) (w : World) (h : OwnSets w B g c vs L) (hB : B ≤ w.heap.size)
    (h1 : 4 ≤ line) (h2 : line ≤ 4294967296) (hs1 : 1 ≤ L.length) (hs2 : L.length ≤ 1024) (hw1 : 1 ≤ ways) (hw2 : ways ≤ 16) (hsm : Small ways L) (ha : 0 ≤ at_ ∧ at_ < 4294967296) (hc : 1 ≤ cnt ∧ cnt ≤ 65536) :
    CallsIn Fence.wide 5 Try.prog 74 #[.agg #[.int .i64 line, .int .i64 (L.length : Int), .int .i64 ways, .slice (some ⟨g, 0, none⟩) L.length c], .int .u32 at_, .int .i64 cnt] w fun e w' =>
      ∃ vs' vo, e = .returned vo ∧ AccI w B g c vs L line ways (vals (linesL line at_ cnt (by omega) h2)) vs' vo w' := by
  refine callsIn_of_wp_marks Try.func74 rfl trivial ?_ rfl
  simp only [Try.ntmps74, List.size_toArray, List.length_cons, List.length_nil, Nat.reduceAdd, Nat.reduceSub, Array.replicate_succ, Array.replicate_zero, List.push_toArray, List.append_toArray, List.nil_append, List.cons_append]
  gi_wp2_with (refine ⟨trivial, ?_⟩; gi_at_call 95; refine (callsIn_wide.2 (lines_any _ _ _ _ _ _)).mono ?_; rintro e w' ⟨rfl, rfl⟩)
  obtain ⟨W0, hW0⟩ : ∃ W0, (((((w.alloc (.cells #[.int .i64 line, .int .i64 (L.length : Int), .int .i64 ways, .slice (some ⟨g, 0, none⟩) L.length c] 36)).alloc (.cells #[.slice none 0 0] 22)).alloc
    (.cells #[.int .i64 line, .int .i64 (L.length : Int), .int .i64 ways] 25)).alloc (.cells #[.int .u32 at_] 30)).alloc (.cells #[.int .i64 cnt] 3)) = W0 := ⟨_, rfl⟩
  rw [hW0]
  have hsz : W0.heap.size = w.heap.size + 5 := by rw [← hW0]; simp
  have hu00 : Upd (fun _ => False) w W0 := by
    rw [← hW0]
    exact ((((Upd.alloc _ _ _).trans (Upd.alloc (fun _ => False) _ _) (fun _ h => h.elim)).trans (Upd.alloc (fun _ => False) _ _) (fun _ h => h.elim)).trans (Upd.alloc (fun _ => False) _ _) (fun _ h => h.elim)).trans (Upd.alloc (fun _ => False) _ _) (fun _ h => h.elim)
  have hu0 : Upd (foot g vs L.length) w W0 := hu00.mono fun _ h => h.elim
  have hb0 : W0.heap[w.heap.size]? = some (.cells #[.int .i64 line, .int .i64 (L.length : Int), .int .i64 ways, .slice (some ⟨g, 0, none⟩) L.length c] 36 (0, 0)) := by
    rw [← hW0]
    rw [heap_alloc_old _ _ (by simp <;> omega), heap_alloc_old _ _ (by simp <;> omega), heap_alloc_old _ _ (by simp <;> omega), heap_alloc_old _ _ (by simp <;> omega)]; exact heap_alloc_new w _
  have hb1 : W0.heap[w.heap.size + 1]? = some (.cells #[.slice none 0 0] 22 (0, 0)) := by
    rw [← hW0]
    rw [heap_alloc_old _ _ (by simp <;> omega), heap_alloc_old _ _ (by simp <;> omega), heap_alloc_old _ _ (by simp <;> omega)]
    have := heap_alloc_new (w.alloc (.cells #[.int .i64 line, .int .i64 (L.length : Int), .int .i64 ways, .slice (some ⟨g, 0, none⟩) L.length c] 36)) (.cells #[.slice none 0 0] 22)
    simpa using this
  have hb2 : W0.heap[w.heap.size + 1 + 1]? = some (.cells #[.int .i64 line, .int .i64 (L.length : Int), .int .i64 ways] 25 (0, 0)) := by
    rw [← hW0]
    rw [heap_alloc_old _ _ (by simp <;> omega), heap_alloc_old _ _ (by simp <;> omega)]
    have := heap_alloc_new ((w.alloc (.cells #[.int .i64 line, .int .i64 (L.length : Int), .int .i64 ways, .slice (some ⟨g, 0, none⟩) L.length c] 36)).alloc (.cells #[.slice none 0 0] 22)) (.cells #[.int .i64 line, .int .i64 (L.length : Int), .int .i64 ways] 25)
    simpa using this
  have hb3 : W0.heap[w.heap.size + 1 + 1 + 1]? = some (.cells #[.int .u32 at_] 30 (0, 0)) := by
    rw [← hW0]
    rw [heap_alloc_old _ _ (by simp <;> omega)]
    have := heap_alloc_new (((w.alloc (.cells #[.int .i64 line, .int .i64 (L.length : Int), .int .i64 ways, .slice (some ⟨g, 0, none⟩) L.length c] 36)).alloc (.cells #[.slice none 0 0] 22)).alloc (.cells #[.int .i64 line, .int .i64 (L.length : Int), .int .i64 ways] 25)) (.cells #[.int .u32 at_] 30)
    simpa using this
  have hb4 : W0.heap[w.heap.size + 1 + 1 + 2]? = some (.cells #[.int .i64 cnt] 3 (0, 0)) := by
    rw [← hW0]
    have := heap_alloc_new ((((w.alloc (.cells #[.int .i64 line, .int .i64 (L.length : Int), .int .i64 ways, .slice (some ⟨g, 0, none⟩) L.length c] 36)).alloc (.cells #[.slice none 0 0] 22)).alloc (.cells #[.int .i64 line, .int .i64 (L.length : Int), .int .i64 ways] 25)).alloc (.cells #[.int .u32 at_] 30)) (.cells #[.int .i64 cnt] 3)
    simpa using this
  clear hW0
  have hft := h.foot_lt
  have hst : AccI w B g c vs L line ways [] vs (.slice none 0 0) W0 :=
    ⟨h.upd hu00 (fun _ _ h => h), hb1, World.ownsRow_nil _ _ _ _, fun k hk => by simp [Value.ownBlock] at hk, fun k hk => .inl hk, hb0, hu0, by omega⟩
  refine wpIn_rangeFunc_ownG rfl (by decide) (gf := 104) (lb := #[.pointer (some ⟨w.heap.size + 1 + 1 + 1, 0, none⟩), .pointer (some ⟨w.heap.size + 1 + 1, 0, none⟩), .pointer (some ⟨w.heap.size + 1 + 1 + 2, 0, none⟩)]) rfl trivial (enters_of Try.func104 (by kernel_rfl) rfl)
    (lines_stops _ _ _ _ (by decide) line (L.length : Int) ways at_ cnt (by omega) h2 ha hc W0 hb3 hb2 hb4) KeepB.trans (fun W l o o' _ hl ho _ => KeepB.putObj _ W l o o' hl ho) (Below.refl _ _) (fun _ => rfl)
    (fun pre W => ∃ vs' vo, AccI w B g c vs L line ways (vals pre) vs' vo W) (fun _ _ _ => False)
    (fun pre W W' row hs hg hr => by
      obtain ⟨vs', vo, hI⟩ := hs
      exact ⟨vs', vo, hI.nc hg fun r e => ⟨by have := (hr r e).1; omega, (hr r e).2⟩⟩)
    (fun _ _ _ _ _ hs _ _ => hs) ⟨vs, _, hst⟩
    (fun x => { tmps := #[.agg #[.int .i64 line, .int .i64 (L.length : Int), .int .i64 ways, .slice (some ⟨g, 0, none⟩) L.length c], .int .u32 at_, .int .i64 cnt, .pointer (some ⟨w.heap.size, 0, none⟩), undef, undef, .slice none 0 0, .pointer (some ⟨w.heap.size + 1, 0, none⟩),
      .int .u32 x.1, undef, undef, undef, .pointer (some ⟨w.heap.size, 0, none⟩), .agg #[.int .i64 line, .int .i64 (L.length : Int), .int .i64 ways], .int .u32 at_, .int .i64 cnt,
      .func (.func 104) #[] #[.pointer (some ⟨w.heap.size + 1 + 1 + 1, 0, none⟩), .pointer (some ⟨w.heap.size + 1 + 1, 0, none⟩), .pointer (some ⟨w.heap.size + 1 + 1 + 2, 0, none⟩)], .int .u32 x.1,
      undef, undef, undef, undef, undef, undef, undef, undef, undef, undef, undef, undef, undef, undef, undef, undef, undef, undef, undef, undef, undef, undef, undef, undef, undef, undef, undef, undef, undef, undef, undef, undef, undef, undef], defers := [] }) ?assign ?body ?done ?stop
  case assign =>
    intro l x W K hK
    gi_wp2
    exact hK
  case body =>
    rintro l pre x W ⟨vs', vo, hI⟩ hlen
    obtain ⟨x, hx0, hx1⟩ := x
    obtain ⟨Av, cv, rfl, _⟩ := own_rd hI.out
    have hb := hI.cbox
    have c1 : W.cell? ⟨w.heap.size, 1, none⟩ = some (.int .i64 (L.length : Int)) := by simp [World.cell?, hb]
    have c3 : W.cell? ⟨w.heap.size, 3, none⟩ = some (.slice (some ⟨g, 0, none⟩) L.length c) := by simp [World.cell?, hb]
    have i0 : (0 : Int) ≤ x % (L.length : Int) := Int.emod_nonneg _ (by omega)
    have i1 : x % (L.length : Int) < (L.length : Int) := Int.emod_lt_of_pos _ (by omega)
    have i2 : (1 : Int) ≤ (L.length : Int) := by omega
    have HI := Lib.hid hI
    have HFT := Lib.hid hft
    have HLEN := Lib.hid (show pre.length ≤ 65538 by have := nLines_le line at_ cnt h1 ha.1 hc; omega)
    clear hI hst hb0 hb1 hb2 hb3 hb4 hu0 hu00 hb hft hs2 hlen
    gi_wp2_with fail
    refine region_quiet_nd (by kernel_rfl) (by kernel_rfl) (by kernel_rfl) ?_
    repeat (gi_big_quiet_step (fail))
    refine wpQuietIn_nil ?_
    rintro _ ⟨nq, rfl⟩
    have hgd : W.grownBy (W.drewN nq) none := ⟨rfl, rfl, rfl, Nat.le_refl _, fun _ _ _ => rfl⟩
    have hk0 : KeepsOthers W (W.drewN nq) := ⟨Nat.le_refl _, fun _ _ h _ => h⟩
    have hkb0 : KeepB [w.heap.size + 1 + 1 + 1, w.heap.size + 1 + 1, w.heap.size + 1 + 1 + 2] W (W.drewN nq) := fun _ _ _ h _ => h
    have hI := HI.out.nc hgd (fun r e => by cases e)
    clear c1 c3 HI hgd
    generalize W.drewN nq = V at *
    obtain ⟨s, hs⟩ : ∃ s, s = setNo L.length x := ⟨_, rfl⟩
    have hsx : (x % (L.length : Int)).toNat = s := hs.symm
    obtain ⟨L', hL'⟩ : ∃ L', L' = (runL L.length ways L (vals pre)).1 := ⟨_, rfl⟩
    have hlenL : L'.length = L.length := by rw [hL', runL_length]
    have hsl : s < L.length := by rw [hs]; exact setNo_lt _ hs1 x
    have hset := hI.sets
    rw [← hL'] at hset
    have hrow := hset.each s (by omega)
    have hsm' : (gl L' s).length ≤ 16 := by
      have := runL_small (sets := (L.length : Int)) (ways := ways) (vals pre) hsm
      rw [← hL'] at this
      have := this s (by omega)
      omega
    have hvlen := hset.vlen
    have hcs : V.cell? ⟨g, s, none⟩ = some (gv vs' s) := by
      rw [hset.row.cellAt s (by omega), gv_get vs' s (by omega)]
      exact List.getElem?_eq_getElem _
    have hBV : B ≤ V.heap.size := by have := hI.size; omega
    have HI := Lib.hid hI
    have HROW := Lib.hid hrow
    have HS := Lib.hid hs
    have HL' := Lib.hid hL'
    have HSM := Lib.hid hsm'
    have HSET := Lib.hid hset
    have HLL := Lib.hid hlenL
    rw [hsx]
    clear hI hrow hs hL' hset hvlen hsm' hsx i0 i1 i2 hlenL
    have HX : Hid (decide (x ∈ gl L' s) = hitL L.length L' x) := by unfold hitL; rw [HS.out]; rfl
    cases hx : decide (x ∈ gl L' s) <;> rw [hx] at HX
    · skip
      gi_wp2_with fail
      refine ⟨trivial, ?_⟩
      refine (CallsIn.inRound l (callsIn_wide.2 (front_any B _ _ _ _ _ HROW.out hBV (by have := HSM.out; omega)))).mono ?_
      rintro e V1 ⟨g1, c1, rfl, ho1, hg1, hat1⟩
      have hI := HI.out
      have hapt : (gv vs' s).ownBlock ≠ some (w.heap.size + 1) ∧ (gv vs' s).ownBlock ≠ some w.heap.size := by
        constructor <;>
        · intro e
          rcases hI.fresh _ (.inr ⟨s, hsl, e⟩) with h | h
          · have := HFT.out _ h; omega
          · omega
      have hbox1 : Boxed V1 (w.heap.size + 1) 22 _ := hI.box.kept hg1 fun e => hapt.1 e.symm
      have hcb1 : V1.heap[w.heap.size]? = some (.cells #[.int .i64 line, .int .i64 (L.length : Int), .int .i64 ways, .slice (some ⟨g, 0, none⟩) L.length c] 36 (0, 0)) := by
        rw [hg1.block _ (by have := hI.size; omega) fun e => hapt.2 e.symm]; exact hI.cbox
      have hout1 : V1.ownsRow (w.heap.size + 5) 30 1 (.slice Av (runL L.length ways L (vals pre)).2.length cv) (runL L.length ways L (vals pre)).2.length (nums .u32 (runL L.length ways L (vals pre)).2) := by
        refine hI.out.kept hg1 ?_
        cases hk : (Value.slice Av (runL L.length ways L (vals pre)).2.length cv).ownBlock with
        | none => exact .inl rfl
        | some k => exact .inr fun e => hI.outapart k hk (.inr ⟨s, hsl, e.symm⟩)
      have hv1 := hbox1.cell
      have hol : (runL L.length ways L (vals pre)).2.length ≤ 65538 := by
        have := runL_out_le L.length ways (vals pre) L
        have := HLEN.out
        simp [vals] at *
        omega
      have hsz1 : w.heap.size + 5 ≤ V1.heap.size := Nat.le_trans hI.size hg1.size
      have HOUT := Lib.hid hout1
      have HBOX := Lib.hid hbox1
      have HCB := Lib.hid hcb1
      have HO := Lib.hid ho1
      have HG := Lib.hid hg1
      have HAT := Lib.hid hat1
      clear hout1 hbox1 hcb1 ho1 hg1 hat1 hI
      gi_wp2_with (gi_at_builtin; refine wpListIn_append_own_at _ rfl _ _ 22 rfl (w.heap.size + 5) 30 _ _ 1 4 rfl rfl rfl rfl rfl rfl (by decide) _ _ _ rfl (HOUT.out.alloc _) ⟨V1.heap.size, 0, none⟩ 1 1 [.int .u32 x] rfl rfl ?c1 ?c2 ?c3 ?c4 ?c5 ?_)
      case c1 =>
        intro j u hj
        match j, hj with
        | 0, hj => simp at hj; subst hj; simp [Addr.add]
      case c2 => intro u hu; simp at hu; subst hu; rfl
      case c3 => unfold maxLen; omega
      case c4 => omega
      case c5 => simp; omega
      intro v2 w2 hown2 hgrow2 _ hat2
      obtain ⟨g2, c2, rfl⟩ := ownsRow_succ hown2
      obtain ⟨f1, f2, f3, f4, f5, f6⟩ := app_facts HBOX.out (by decide) HOUT.out hown2 hgrow2 hat2
      obtain ⟨k1, k2, k3⟩ := acc_cells HI.out HFT.out hsl HG.out f5
      obtain ⟨W2, hW2⟩ : ∃ W2, w2.setCell ⟨w.heap.size + 1, 0, none⟩ (.slice (some ⟨g2, 0, none⟩) ((runL L.length ways L (vals pre)).2.length + 1) c2) = W2 := ⟨_, rfl⟩
      rw [hW2] at k1 k2 k3 f3 f4 f5
      have hrn : (runL L.length ways L (vals pre ++ [x])).2 = (runL L.length ways L (vals pre)).2 ++ [x] := by
        rw [runL_snoc, ← HL'.out, ← HX.out]; rfl
      have hout2 : W2.ownsRow (w.heap.size + 5) 30 1 (.slice (some ⟨g2, 0, none⟩) ((runL L.length ways L (vals pre)).2.length + 1) c2) (runL L.length ways L (vals pre ++ [x])).2.length (nums .u32 (runL L.length ways L (vals pre ++ [x])).2) := by
        rw [hrn, List.length_append, nums_append]; exact f4
      have F3 := Lib.hid f3
      have F5 := Lib.hid f5
      have F6 := Lib.hid f6
      have FO := Lib.hid hout2
      clear f3 f4 f5 f6 hout2 hrn hown2 hgrow2 hat2
      have hcap := (own_caps HO.out).1
      have hfl : 1 ≤ (frontL (gl L' s) x).length := by simp [frontL]
      have hlL : frontL (gl L' s) x = frontL (gl (runL L.length ways L (vals pre)).1 s) x := by rw [HL'.out]
      have HLL2 := Lib.hid hlL
      clear hlL
      by_cases hmw : ways < ((frontL (gl L' s) x).length : Int)
      · have hmc : 0 ≤ ways ∧ ways ≤ (c1 : Int) := by omega
        gi_wp2
        try rw [hsz]
        refine keep_pre hk0 hkb0 ?_
        simp only [vals_snoc]
        exact acc_end HS.out HI.out h hs1 hsm _ HLL2.out HO.out HG.out HAT.out F5.out F3.out FO.out F6.out _ (by omega)
      · gi_wp2
        try rw [hsz]
        refine keep_pre hk0 hkb0 ?_
        simp only [vals_snoc]
        exact acc_end HS.out HI.out h hs1 hsm _ HLL2.out HO.out HG.out HAT.out F5.out F3.out FO.out F6.out _ (by omega)
    · gi_wp2_with fail
      refine ⟨trivial, ?_⟩
      refine (CallsIn.inRound l (callsIn_wide.2 (front_any B _ _ _ _ _ HROW.out hBV (by have := HSM.out; omega)))).mono ?_
      rintro e V1 ⟨g1, c1, rfl, ho1, hg1, hat1⟩
      have HO := Lib.hid ho1
      have HG := Lib.hid hg1
      have HAT := Lib.hid hat1
      clear ho1 hg1 hat1
      obtain ⟨k1, k2, k3⟩ := acc_cells HI.out HFT.out hsl HG.out (Upd.refl _ _)
      have hrn : (runL L.length ways L (vals pre ++ [x])).2 = (runL L.length ways L (vals pre)).2 := by
        rw [runL_snoc, ← HL'.out, ← HX.out]; simp [missL]
      have hout2 : V1.ownsRow (w.heap.size + 5) 30 1 (.slice Av (runL L.length ways L (vals pre)).2.length cv) (runL L.length ways L (vals pre ++ [x])).2.length (nums .u32 (runL L.length ways L (vals pre ++ [x])).2) := by
        rw [hrn]
        have hI := HI.out
        refine hI.out.kept HG.out ?_
        cases hk : (Value.slice Av (runL L.length ways L (vals pre)).2.length cv).ownBlock with
        | none => exact .inl rfl
        | some k => exact .inr fun e => hI.outapart k hk (.inr ⟨s, hsl, e.symm⟩)
      have hbox1 : Boxed V1 (w.heap.size + 1) 22 (.slice Av (runL L.length ways L (vals pre)).2.length cv) := HI.out.box.kept HG.out fun e => by
        rcases HI.out.fresh _ (.inr ⟨s, hsl, e.symm⟩) with h | h
        · have := HFT.out _ h; omega
        · omega
      have FO := Lib.hid hout2
      have F3 := Lib.hid hbox1
      clear hout2 hbox1 hrn
      have hcap := (own_caps HO.out).1
      have hfl : 1 ≤ (frontL (gl L' s) x).length := by simp [frontL]
      have hlL : frontL (gl L' s) x = frontL (gl (runL L.length ways L (vals pre)).1 s) x := by rw [HL'.out]
      have HLL2 := Lib.hid hlL
      clear hlL
      by_cases hmw : ways < ((frontL (gl L' s) x).length : Int)
      · have hmc : 0 ≤ ways ∧ ways ≤ (c1 : Int) := by omega
        gi_wp2
        try rw [hsz]
        refine keep_pre hk0 hkb0 ?_
        simp only [vals_snoc]
        exact acc_end HS.out HI.out h hs1 hsm _ HLL2.out HO.out HG.out HAT.out (Upd.refl _ _) F3.out FO.out (fun _ h => .inl h) _ (by omega)
      · gi_wp2
        try rw [hsz]
        refine keep_pre hk0 hkb0 ?_
        simp only [vals_snoc]
        exact acc_end HS.out HI.out h hs1 hsm _ HLL2.out HO.out HG.out HAT.out (Upd.refl _ _) F3.out FO.out (fun _ h => .inl h) _ (by omega)
  case done =>
    rintro D xs W hD hxs ⟨vs', vo, hI⟩ hK
    have hv := hI.box.cell
    subst hxs
    have HI := Lib.hid hI
    clear hI hst hb0 hb1 hb2 hb3 hb4 hu0 hu00
    gi_wp2
    refine ⟨by simp, .inl ⟨_, _, rfl, run_takeDeferred hK, ?_⟩⟩
    refine ⟨_, results_tmp rfl _ _ _, vs', vo, rfl, HI.out.nc (grownBy_putObj' _ D (.deferred none)) (fun r e => by cases e; exact ⟨by omega, _, hK, rfl⟩)⟩
  case stop =>
    rintro D c pre W _ _ h _
    exact h.elim
/-- sim.access: the lines that were missed; the sets lie as the list of lines has left them, on their own blocks or on new ones. -/
theorem access_any (B g c : Nat) (vs : List Value) (L : List (List Int)) (line ways at_ cnt : Int) (w : World) (h : OwnSets w B g c vs L) (hB : B ≤ w.heap.size)
    (h1 : 4 ≤ line) (h2 : line ≤ 4294967296) (hs1 : 1 ≤ L.length) (hs2 : L.length ≤ 1024) (hw1 : 1 ≤ ways) (hw2 : ways ≤ 16) (hsm : Small ways L) (ha : 0 ≤ at_ ∧ at_ < 4294967296) (hc : 1 ≤ cnt ∧ cnt ≤ 65536) :
    Calls Try.prog 74 #[.agg #[.int .i64 line, .int .i64 (L.length : Int), .int .i64 ways, .slice (some ⟨g, 0, none⟩) L.length c], .int .u32 at_, .int .i64 cnt] w fun e w' =>
      ∃ vs' vo, e = .returned vo ∧ OwnSets w' B g c vs' (runL L.length ways L (vals (linesL line at_ cnt (by omega) h2))).1 ∧
        w'.ownsRow (w.heap.size + 5) 30 1 vo (runL L.length ways L (vals (linesL line at_ cnt (by omega) h2))).2.length (nums .u32 (runL L.length ways L (vals (linesL line at_ cnt (by omega) h2))).2) ∧
        (∀ k, vo.ownBlock = some k → ¬ foot g vs' L.length k) ∧ (∀ k, foot g vs' L.length k → foot g vs L.length k ∨ w.heap.size + 5 ≤ k) ∧ Upd (foot g vs L.length) w w' ∧ w.heap.size + 5 ≤ w'.heap.size := by
  refine (callsIn_wide.1 (access_in B g c vs L line ways at_ cnt w h hB h1 h2 hs1 hs2 hw1 hw2 hsm ha hc)).mono ?_
  rintro e w' ⟨vs', vo, he, hI⟩
  exact ⟨vs', vo, he, hI.sets, hI.out, hI.outapart, hI.fresh, hI.upd, hI.size⟩
end Go.Proofs.Ytdkacdfhapgboaa

/- sim.Access. -/
set_option linter.unusedVariables false
set_option linter.unusedSimpArgs false
namespace Go.Proofs.Ytdkacdfhapgboaa
open Go.RowKit

theorem box4 {w : World} {b : Nat} {a0 a1 a2 a3 : Value} {t : TypeId} (h : w.heap[b]? = some (.cells #[a0, a1, a2, a3] t (0, 0))) :
    w.cell? ⟨b, 0, none⟩ = some a0 ∧ w.cell? ⟨b, 1, none⟩ = some a1 ∧ w.cell? ⟨b, 2, none⟩ = some a2 ∧ w.cell? ⟨b, 3, none⟩ = some a3 ∧ (∀ o, w.frozen? ⟨b, o, none⟩ = false) := by
  refine ⟨?_, ?_, ?_, ?_, fun o => ?_⟩ <;> simp [World.cell?, World.frozen?, h]
theorem belowBox {w W : World} {b : Nat} {o : Obj} (hb : Below w.heap.size w W) (h : w.heap[b]? = some o) : W.heap[b]? = some o := (hb.block b (Array.getElem?_eq_some_iff.1 h).1).trans h
theorem alloc_at (w : World) (o : Obj) (n : Nat) (h : w.heap.size = n) : (w.alloc o).heap[n]? = some o := by subst h; exact heap_alloc_new w o

abbrev emptyC : Value := .agg #[.int .i64 0, .int .i64 0, .int .i64 0, .slice none 0 0]

set_option maxRecDepth 100000 in
set_option maxHeartbeats 1000000 in
theorem Access_bad (line sets ways : Int) (A : Option Addr) (c : Nat) (vs : List Value) (L : List (List Int)) (at_ cnt : Int) (w : World) (h : RdSets w A vs L) (hq : decide (cacheOk line sets ways L) = false) :
    Calls Try.prog 35 #[.agg #[.int .i64 line, .int .i64 sets, .int .i64 ways, .slice A L.length c], .int .u32 at_, .int .i64 cnt] w fun e w' => e = .returned (.tuple #[emptyC, .slice none 0 0, .int .i64 330]) ∧ Below w.heap.size w w' := by
  obtain ⟨W0, hW0⟩ : ∃ W0, (w.alloc (.cells #[.int .i64 line, .int .i64 sets, .int .i64 ways, .slice A L.length c] 36)).alloc (.cells #[.int .i64 0, .int .i64 0, .int .i64 0, .slice none 0 0] 36) = W0 := ⟨_, rfl⟩
  have hb0 : Below w.heap.size w W0 := by rw [← hW0]; exact ((Below.refl _ _).alloc (Nat.le_refl _) _).alloc (by simp) _
  have hx0 : W0.heap[w.heap.size]? = some (.cells #[.int .i64 line, .int .i64 sets, .int .i64 ways, .slice A L.length c] 36 (0, 0)) := by rw [← hW0]; exact (heap_alloc_old _ _ (by simp)).trans (heap_alloc_new w _)
  have hx1 : W0.heap[w.heap.size + 1]? = some (.cells #[.int .i64 0, .int .i64 0, .int .i64 0, .slice none 0 0] 36 (0, 0)) := by rw [← hW0]; exact alloc_at _ _ _ (by simp)
  have hsz : W0.heap.size = w.heap.size + 2 := by rw [← hW0]; simp
  obtain ⟨p0, p1, p2, p3, _⟩ := box4 hx0
  have H := Lib.hid (h.below hb0)
  have HX := Lib.hid hx1
  clear h hx0 hx1
  go_enter Try.func35, Try.ntmps35
  go_wp2_with fail
  refine (cache_any _ _ _ _ _ _ _ _ H.out).mono ?_
  rintro e W ⟨rfl, hb⟩
  have hy := belowBox hb HX.out
  obtain ⟨q0, q1, q2, q3, d0⟩ := box4 hy
  have HY := Lib.hid hy
  rw [hq]
  clear hy
  go_wp2
  (try simp only [Exit.inBlock, Exit.then])
  refine bodyPost_ret (v := .tuple #[emptyC, .slice none 0 0, .int .i64 330]) (results_cell3 rfl rfl rfl rfl (run_loadVar_row (P := Try.prog) _ _ 36 36 _ (0, 0) _ (set4_heap HY.out _ _ _ _) Try.underlying36 rfl (by kernel_rfl))) rfl ?_
  exact ⟨rfl, bset4 (hb0.trans (hb.mono (by omega))) (by omega) _ _ _ _⟩
set_option maxRecDepth 100000 in
set_option maxHeartbeats 1000000 in
theorem Access_num (line sets ways : Int) (A : Option Addr) (c : Nat) (vs : List Value) (L : List (List Int)) (at_ cnt : Int) (w : World) (h : RdSets w A vs L) (hq : decide (cacheOk line sets ways L) = true) (hn : cnt < 1 ∨ 65536 < cnt) :
    Calls Try.prog 35 #[.agg #[.int .i64 line, .int .i64 sets, .int .i64 ways, .slice A L.length c], .int .u32 at_, .int .i64 cnt] w fun e w' => e = .returned (.tuple #[emptyC, .slice none 0 0, .int .i64 1]) ∧ Below w.heap.size w w' := by
  obtain ⟨W0, hW0⟩ : ∃ W0, (w.alloc (.cells #[.int .i64 line, .int .i64 sets, .int .i64 ways, .slice A L.length c] 36)).alloc (.cells #[.int .i64 0, .int .i64 0, .int .i64 0, .slice none 0 0] 36) = W0 := ⟨_, rfl⟩
  have hb0 : Below w.heap.size w W0 := by rw [← hW0]; exact ((Below.refl _ _).alloc (Nat.le_refl _) _).alloc (by simp) _
  have hx0 : W0.heap[w.heap.size]? = some (.cells #[.int .i64 line, .int .i64 sets, .int .i64 ways, .slice A L.length c] 36 (0, 0)) := by rw [← hW0]; exact (heap_alloc_old _ _ (by simp)).trans (heap_alloc_new w _)
  have hx1 : W0.heap[w.heap.size + 1]? = some (.cells #[.int .i64 0, .int .i64 0, .int .i64 0, .slice none 0 0] 36 (0, 0)) := by rw [← hW0]; exact alloc_at _ _ _ (by simp)
  have hsz : W0.heap.size = w.heap.size + 2 := by rw [← hW0]; simp
  obtain ⟨p0, p1, p2, p3, _⟩ := box4 hx0
  have H := Lib.hid (h.below hb0)
  have HX := Lib.hid hx1
  clear h hx0 hx1
  go_enter Try.func35, Try.ntmps35
  go_wp2_with fail
  refine (cache_any _ _ _ _ _ _ _ _ H.out).mono ?_
  rintro e W ⟨rfl, hb⟩
  have hy := belowBox hb HX.out
  obtain ⟨q0, q1, q2, q3, d0⟩ := box4 hy
  have HY := Lib.hid hy
  rw [hq]
  clear hy
  rcases hn with hn | hn
  · go_wp2
    (try simp only [Exit.inBlock, Exit.then])
    refine bodyPost_ret (v := .tuple #[emptyC, .slice none 0 0, .int .i64 1]) (results_cell3 rfl rfl rfl rfl (run_loadVar_row (P := Try.prog) _ _ 36 36 _ (0, 0) _ (set4_heap HY.out _ _ _ _) Try.underlying36 rfl (by kernel_rfl))) rfl ?_
    exact ⟨rfl, bset4 (hb0.trans (hb.mono (by omega))) (by omega) _ _ _ _⟩
  · have hn0 : 1 ≤ cnt := by omega
    go_wp2
    (try simp only [Exit.inBlock, Exit.then])
    refine bodyPost_ret (v := .tuple #[emptyC, .slice none 0 0, .int .i64 1]) (results_cell3 rfl rfl rfl rfl (run_loadVar_row (P := Try.prog) _ _ 36 36 _ (0, 0) _ (set4_heap HY.out _ _ _ _) Try.underlying36 rfl (by kernel_rfl))) rfl ?_
    exact ⟨rfl, bset4 (hb0.trans (hb.mono (by omega))) (by omega) _ _ _ _⟩

set_option maxRecDepth 100000 in
set_option maxHeartbeats 1000000 in
theorem Access_ok (line ways : Int) (A : Option Addr) (c : Nat) (vs : List Value) (L : List (List Int)) (at_ cnt : Int) (w : World) (h : RdSets w A vs L) (hq : cacheOk line L.length ways L) (hA : A = none → c = 0) (ha : 0 ≤ at_ ∧ at_ < 4294967296) (hn : 1 ≤ cnt ∧ cnt ≤ 65536) (h1 : 1 ≤ line) (h2 : line ≤ 4294967296) :
    Calls Try.prog 35 #[.agg #[.int .i64 line, .int .i64 (L.length : Int), .int .i64 ways, .slice A L.length c], .int .u32 at_, .int .i64 cnt] w fun e w' => ∃ g c' vs' vo, e = .returned (.tuple #[.agg #[.int .i64 line, .int .i64 (L.length : Int), .int .i64 ways, .slice (some ⟨g, 0, none⟩) L.length c'], vo, .int .i64 0]) ∧
      OwnSets w' w.heap.size g c' vs' (runL L.length ways L (vals (linesL line at_ cnt h1 h2))).1 ∧
      w'.ownsRow w.heap.size 30 1 vo (runL L.length ways L (vals (linesL line at_ cnt h1 h2))).2.length (nums .u32 (runL L.length ways L (vals (linesL line at_ cnt h1 h2))).2) ∧ Below w.heap.size w w' := by
  obtain ⟨hq1, hq2, hq3⟩ := hq
  obtain ⟨l1, l2, l3, l4, l5, l6⟩ := shapeB_line hq1
  clear hq2
  have hqd : decide (cacheOk line L.length ways L) = true := decide_eq_true ⟨hq1, rfl, hq3⟩
  obtain ⟨W0, hW0⟩ : ∃ W0, (w.alloc (.cells #[.int .i64 line, .int .i64 (L.length : Int), .int .i64 ways, .slice A L.length c] 36)).alloc (.cells #[.int .i64 0, .int .i64 0, .int .i64 0, .slice none 0 0] 36) = W0 := ⟨_, rfl⟩
  have hb0 : Below w.heap.size w W0 := by rw [← hW0]; exact ((Below.refl _ _).alloc (Nat.le_refl _) _).alloc (by simp) _
  have hx0 : W0.heap[w.heap.size]? = some (.cells #[.int .i64 line, .int .i64 (L.length : Int), .int .i64 ways, .slice A L.length c] 36 (0, 0)) := by rw [← hW0]; exact (heap_alloc_old _ _ (by simp)).trans (heap_alloc_new w _)
  have hx1 : W0.heap[w.heap.size + 1]? = some (.cells #[.int .i64 0, .int .i64 0, .int .i64 0, .slice none 0 0] 36 (0, 0)) := by rw [← hW0]; exact alloc_at _ _ _ (by simp)
  have hsz : W0.heap.size = w.heap.size + 2 := by rw [← hW0]; simp
  obtain ⟨p0, p1, p2, p3, _⟩ := box4 hx0
  have H := Lib.hid (h.below hb0)
  have HX := Lib.hid hx1
  have HX0 := Lib.hid hx0
  clear h hx0 hx1
  go_enter Try.func35, Try.ntmps35
  go_wp2_with fail
  refine (cache_any _ _ _ _ _ _ _ _ H.out).mono ?_
  rintro e W ⟨rfl, hb⟩
  have hy := belowBox hb HX.out
  obtain ⟨q0, q1, q2, q3, d0⟩ := box4 hy
  have HY := Lib.hid hy
  rw [hqd]
  clear hy
  obtain ⟨n1, n2⟩ := hn
  have hx := belowBox hb HX0.out
  obtain ⟨s0, s1, s2, s3, _⟩ := box4 hx
  have hwsz := hb.size
  clear hx d0 q0 q1 q2 q3
  go_wp2_with fail
  refine (owned_any _ _ _ _ _ _ _ _ (H.out.below hb) hA (by omega) (by omega) (fun i hi => by have := (hq3 i hi).1; omega)).mono ?_
  rintro e W2 ⟨g, c', vs1, rfl, ho, hb2⟩
  have HY2 := belowBox hb2 HY.out
  have hft := ho.foot_lt
  have hw2 := hb2.size
  obtain ⟨W3, hW3⟩ : ∃ W3, W2.alloc (.cells #[.int .i64 line, .int .i64 (L.length : Int), .int .i64 ways, .slice (some ⟨g, 0, none⟩) L.length c'] 36) = W3 := ⟨_, rfl⟩
  have hbx3 : W3.heap[W2.heap.size]? = some (.cells #[.int .i64 line, .int .i64 (L.length : Int), .int .i64 ways, .slice (some ⟨g, 0, none⟩) L.length c'] 36 (0, 0)) := by rw [← hW3]; exact heap_alloc_new _ _
  have hbr3 : W3.heap[w.heap.size + 1]? = some (.cells #[.int .i64 0, .int .i64 0, .int .i64 0, .slice none 0 0] 36 (0, 0)) := by rw [← hW3]; exact (heap_alloc_old _ _ (by omega)).trans HY2
  have hs3 : W3.heap.size = W2.heap.size + 1 := by rw [← hW3]; simp
  have ho3 : OwnSets W3 W.heap.size g c' vs1 L := ho.upd (F := fun _ => False) (by rw [← hW3]; exact Upd.alloc _ _ _) fun _ _ h => h
  have hb3 : Below W.heap.size W W3 := by rw [← hW3]; exact hb2.alloc hw2 _
  have HO3 := Lib.hid ho3
  have HBX := Lib.hid hbx3
  have HBR := Lib.hid hbr3
  have HF := Lib.hid hft
  clear hbr3 ho3 ho HY2 HY hft
  obtain ⟨t0, t1, t2, t3, _⟩ := box4 hbx3
  clear hbx3
  go_wp2_with fail
  refine (access_any W.heap.size g c' vs1 L line ways at_ cnt W3 HO3.out (by omega) l1 h2 (by omega) (by omega) (by omega) l6 (fun i hi => by have := (hq3 i hi).1; omega) ha ⟨n1, n2⟩).mono ?_
  rintro e W4 ⟨vs4, vo, rfl, hs4, ho4, hap4, hfr4, hu4, hz4⟩
  have hbx4 : W4.heap[W2.heap.size]? = some (.cells #[.int .i64 line, .int .i64 (L.length : Int), .int .i64 ways, .slice (some ⟨g, 0, none⟩) L.length c'] 36 (0, 0)) := (hu4.block _ (by omega) fun h => by have := (HF.out _ h).2; omega).trans HBX.out
  have hbr4 : W4.heap[w.heap.size + 1]? = some (.cells #[.int .i64 0, .int .i64 0, .int .i64 0, .slice none 0 0] 36 (0, 0)) := (hu4.block _ (by omega) fun h => by have := (HF.out _ h).1; omega).trans HBR.out
  obtain ⟨a0, a1, a2, a3, _⟩ := box4 hbx4
  obtain ⟨b0, b1, b2, b3, d0⟩ := box4 hbr4
  have hbw : Below w.heap.size w W4 := (hb0.trans (hb.mono (by omega))).trans ((hb3.mono (by omega)).trans (hu4.below (by omega) fun k hk => by have := (HF.out k hk).1; omega))
  have HR := Lib.hid hbr4
  have HS4 := Lib.hid hs4
  have HO4 := Lib.hid ho4
  have HF4 := Lib.hid hfr4
  clear hbx4 hbr4 hs4 ho4 hap4 hfr4 hu4 hb3 hb2 hb
  go_wp2
  (try simp only [Exit.inBlock, Exit.then])
  refine bodyPost_ret (v := .tuple #[.agg #[.int .i64 line, .int .i64 (L.length : Int), .int .i64 ways, .slice (some ⟨g, 0, none⟩) L.length c'], vo, .int .i64 0]) (results_cell3 rfl rfl rfl rfl (run_loadVar_row (P := Try.prog) _ _ 36 36 _ (0, 0) _ (set4_heap HR.out _ _ _ _) Try.underlying36 rfl (by kernel_rfl))) rfl ?_
  have hup : Upd (fun k => k = w.heap.size + 1) W4 ((((W4.setCell ⟨w.heap.size + 1, 0, none⟩ (.int .i64 line)).setCell ⟨w.heap.size + 1, 1, none⟩ (.int .i64 (L.length : Int))).setCell ⟨w.heap.size + 1, 2, none⟩ (.int .i64 ways)).setCell ⟨w.heap.size + 1, 3, none⟩ (.slice (some ⟨g, 0, none⟩) L.length c')) :=
    (((Upd.setCell W4 ⟨w.heap.size + 1, 0, none⟩ _).trans (Upd.setCell _ ⟨w.heap.size + 1, 1, none⟩ _) fun _ h => .inl h).trans (Upd.setCell _ ⟨w.heap.size + 1, 2, none⟩ _) fun _ h => .inl h).trans (Upd.setCell _ ⟨w.heap.size + 1, 3, none⟩ _) fun _ h => .inl h
  refine ⟨g, c', vs4, vo, rfl, ?_, ?_, bset4 hbw (by omega) _ _ _ _⟩
  · have hl := runL_length (L.length : Int) ways (vals (linesL line at_ cnt h1 h2)) L
    refine (HS4.out.upd hup ?_).base ?_
    · intro k hk e
      have := (HS4.out.foot_lt k hk).1
      omega
    · intro k hk
      have := (HS4.out.foot_lt k hk).1
      omega
  · refine own_base' (own_upd HO4.out hup fun k hk e => ?_) fun k hk => ?_
    · have := (HO4.out.lt k hk).1; omega
    · have := (HO4.out.lt k hk).1; omega
end Go.Proofs.Ytdkacdfhapgboaa

/- sim.newPred, NewPred. -/
set_option linter.unusedVariables false
set_option linter.unusedSimpArgs false
namespace Go.Proofs.Ytdkacdfhapgboaa
open Go.RowKit

theorem box6 {w : World} {b : Nat} {a0 a1 a2 a3 a4 a5 : Value} {t : TypeId} (h : w.heap[b]? = some (.cells #[a0, a1, a2, a3, a4, a5] t (0, 0))) :
    w.cell? ⟨b, 0, none⟩ = some a0 ∧ w.cell? ⟨b, 1, none⟩ = some a1 ∧ w.cell? ⟨b, 2, none⟩ = some a2 ∧ w.cell? ⟨b, 3, none⟩ = some a3 ∧ w.cell? ⟨b, 4, none⟩ = some a4 ∧ w.cell? ⟨b, 5, none⟩ = some a5 ∧ (∀ o, w.frozen? ⟨b, o, none⟩ = false) := by
  refine ⟨?_, ?_, ?_, ?_, ?_, ?_, fun o => ?_⟩ <;> simp [World.cell?, World.frozen?, h]
theorem set1_heap {W : World} {b : Nat} {cs : Array Value} {t : TypeId} (h : W.heap[b]? = some (.cells cs t (0, 0))) (i : Nat) (v : Value) : (W.setCell ⟨b, i, none⟩ v).heap[b]? = some (.cells (cs.setIfInBounds i v) t (0, 0)) := by
  obtain ⟨hb, e⟩ := Array.getElem?_eq_some_iff.1 h
  simp [World.setCell, e, hb, Array.getElem_modify, Array.getElem?_modify]
theorem set6_heap {W : World} {b : Nat} {a0 a1 a2 a3 a4 a5 : Value} {t : TypeId} (h : W.heap[b]? = some (.cells #[a0, a1, a2, a3, a4, a5] t (0, 0))) (v0 v1 v2 v3 v4 v5 : Value) :
    ((((((W.setCell ⟨b, 0, none⟩ v0).setCell ⟨b, 1, none⟩ v1).setCell ⟨b, 2, none⟩ v2).setCell ⟨b, 3, none⟩ v3).setCell ⟨b, 4, none⟩ v4).setCell ⟨b, 5, none⟩ v5).heap[b]? = some (.cells #[v0, v1, v2, v3, v4, v5] t (0, 0)) := by
  exact set1_heap (set1_heap (set1_heap (set1_heap (set1_heap (set1_heap h 0 v0) 1 v1) 2 v2) 3 v3) 4 v4) 5 v5
theorem bset6 {B : Nat} {W0 W : World} (h : Below B W0 W) {b : Nat} (hb : B ≤ b) (v0 v1 v2 v3 v4 v5 : Value) : Below B W0 ((((((W.setCell ⟨b, 0, none⟩ v0).setCell ⟨b, 1, none⟩ v1).setCell ⟨b, 2, none⟩ v2).setCell ⟨b, 3, none⟩ v3).setCell ⟨b, 4, none⟩ v4).setCell ⟨b, 5, none⟩ v5) :=
  (((((h.setCell hb _).setCell hb _).setCell hb _).setCell hb _).setCell hb _).setCell hb _
theorem Upd.set {F : Nat → Prop} {W0 W : World} (h : Upd F W0 W) {b : Nat} (hF : F b) (i : Nat) (v : Value) : Upd F W0 (W.setCell ⟨b, i, none⟩ v) :=
  h.trans (Upd.setCell W ⟨b, i, none⟩ v) fun k (e : k = b) => .inl (e ▸ hF)
theorem uset6 (W : World) (b : Nat) (v0 v1 v2 v3 v4 v5 : Value) : Upd (fun k => k = b) W ((((((W.setCell ⟨b, 0, none⟩ v0).setCell ⟨b, 1, none⟩ v1).setCell ⟨b, 2, none⟩ v2).setCell ⟨b, 3, none⟩ v3).setCell ⟨b, 4, none⟩ v4).setCell ⟨b, 5, none⟩ v5) :=
  ((((((Upd.refl (fun k => k = b) W).set rfl 0 v0).set rfl 1 v1).set rfl 2 v2).set rfl 3 v3).set rfl 4 v4).set rfl 5 v5
theorem cell_upd {F : Nat → Prop} {W W' : World} (h : Upd F W W') {b o : Nat} {v : Value} (hc : W.cell? ⟨b, o, none⟩ = some v) (hF : ¬ F b) : W'.cell? ⟨b, o, none⟩ = some v := by
  have hb := World.block_lt_of_cell? W _ hc
  have e := h.block b hb hF
  simp only [World.cell?, e] at hc ⊢
  exact hc
theorem below_drew_alloc {w : World} (o : Obj) : Below w.heap.size w (w.alloc o).drew := bdrewN (balloc w o) 1

attribute [local irreducible] World.setCell in
set_option maxRecDepth 100000 in
set_option maxHeartbeats 1000000 in
theorem newPred_any (t : Nat) (h r : Int) (ht : t ≤ 12) (w : World) :
    Calls Try.prog 45 #[.agg #[.int .i64 (t : Int), .int .i64 h, .int .i64 r]] w fun e w' => ∃ g, e = .returned (.agg #[.int .i64 (t : Int), .int .i64 h, .int .i64 r, .slice (some ⟨g, 0, none⟩) (2 ^ t) (2 ^ t), .int .u32 0, .slice none 0 0]) ∧
      w'.ownsRow w.heap.size 3 1 (.slice (some ⟨g, 0, none⟩) (2 ^ t) (2 ^ t)) (2 ^ t) (List.replicate (2 ^ t) (.int .i64 1)) ∧ Below w.heap.size w w' := by
  have hn : 1 ≤ 2 ^ t ∧ 2 ^ t ≤ 4096 := ⟨Nat.one_le_two_pow, by have := Nat.pow_le_pow_right (show 0 < 2 by omega) ht; simpa using this⟩
  obtain ⟨W0, hW0⟩ : ∃ W0, (w.alloc (.cells #[.int .i64 (t : Int), .int .i64 h, .int .i64 r] 50)).alloc (.cells #[.int .i64 0, .int .i64 0, .int .i64 0, .slice none 0 0, .int .u32 0, .slice none 0 0] 52) = W0 := ⟨_, rfl⟩
  have hb0 : Below w.heap.size w W0 := by rw [← hW0]; exact ((Below.refl _ _).alloc (Nat.le_refl _) _).alloc (by simp) _
  have hx0 : W0.heap[w.heap.size]? = some (.cells #[.int .i64 (t : Int), .int .i64 h, .int .i64 r] 50 (0, 0)) := by rw [← hW0]; exact (heap_alloc_old _ _ (by simp)).trans (heap_alloc_new w _)
  have hx1 : W0.heap[w.heap.size + 1]? = some (.cells #[.int .i64 0, .int .i64 0, .int .i64 0, .slice none 0 0, .int .u32 0, .slice none 0 0] 52 (0, 0)) := by rw [← hW0]; have := heap_alloc_new (w.alloc (.cells #[.int .i64 (t : Int), .int .i64 h, .int .i64 r] 50)) (.cells #[.int .i64 0, .int .i64 0, .int .i64 0, .slice none 0 0, .int .u32 0, .slice none 0 0] 52); simpa using this
  have hsz : W0.heap.size = w.heap.size + 2 := by rw [← hW0]; simp
  have c0 : W0.cell? ⟨w.heap.size, 0, none⟩ = some (.int .i64 (t : Int)) := by simp [World.cell?, hx0]
  have c1 : W0.cell? ⟨w.heap.size, 1, none⟩ = some (.int .i64 h) := by simp [World.cell?, hx0]
  have c2 : W0.cell? ⟨w.heap.size, 2, none⟩ = some (.int .i64 r) := by simp [World.cell?, hx0]
  have kq : ∀ W, Below W0.heap.size W0 W → W.cell? ⟨w.heap.size, 0, none⟩ = some (.int .i64 (t : Int)) ∧ W.cell? ⟨w.heap.size, 1, none⟩ = some (.int .i64 h) ∧ W.cell? ⟨w.heap.size, 2, none⟩ = some (.int .i64 r) := fun W h => ⟨bkeep h c0, bkeep h c1, bkeep h c2⟩
  have kq2 : ∀ W v0 v1 v2 v3 v4 v5, Below W0.heap.size W0 W → (((((((W.setCell ⟨w.heap.size + 1, 0, none⟩ v0).setCell ⟨w.heap.size + 1, 1, none⟩ v1).setCell ⟨w.heap.size + 1, 2, none⟩ v2).setCell ⟨w.heap.size + 1, 3, none⟩ v3).setCell ⟨w.heap.size + 1, 4, none⟩ v4).setCell ⟨w.heap.size + 1, 5, none⟩ v5).cell? ⟨w.heap.size, 0, none⟩ = some (.int .i64 (t : Int)) ∧ ((((((W.setCell ⟨w.heap.size + 1, 0, none⟩ v0).setCell ⟨w.heap.size + 1, 1, none⟩ v1).setCell ⟨w.heap.size + 1, 2, none⟩ v2).setCell ⟨w.heap.size + 1, 3, none⟩ v3).setCell ⟨w.heap.size + 1, 4, none⟩ v4).setCell ⟨w.heap.size + 1, 5, none⟩ v5).cell? ⟨w.heap.size, 1, none⟩ = some (.int .i64 h) ∧ ((((((W.setCell ⟨w.heap.size + 1, 0, none⟩ v0).setCell ⟨w.heap.size + 1, 1, none⟩ v1).setCell ⟨w.heap.size + 1, 2, none⟩ v2).setCell ⟨w.heap.size + 1, 3, none⟩ v3).setCell ⟨w.heap.size + 1, 4, none⟩ v4).setCell ⟨w.heap.size + 1, 5, none⟩ v5).cell? ⟨w.heap.size, 2, none⟩ = some (.int .i64 r)) := fun W v0 v1 v2 v3 v4 v5 hb => by
    obtain ⟨p0, p1, p2⟩ := kq W hb
    have hu := uset6 W (w.heap.size + 1) v0 v1 v2 v3 v4 v5
    exact ⟨cell_upd hu p0 (by omega), cell_upd hu p1 (by omega), cell_upd hu p2 (by omega)⟩
  obtain ⟨n, hnn⟩ : ∃ n, n = 2 ^ t := ⟨_, rfl⟩
  have hw : IntKind.i64.wrap ((2 : Int) ^ t) = (n : Int) := by
    rw [hnn, Int.natCast_pow]
    rw [IntKind.wrap_i64]
    have : ((2 ^ t : Nat) : Int) = (2 : Int) ^ t := by simp
    omega
  rw [← hnn] at hn ⊢
  have hqq : (W0.alloc (.cells #[.int .i64 1] 3)).drew.cell? ⟨w.heap.size + 2, 0, none⟩ = some (.int .i64 1) := by
    have := heap_alloc_new W0 (.cells #[.int .i64 1] 3)
    rw [hsz] at this
    show (W0.alloc (.cells #[.int .i64 1] 3)).cell? _ = _
    simp [World.cell?, this]
  have HX1 := Lib.hid hx1
  have HQQ := Lib.hid hqq
  have HW := Lib.hid hw
  clear hw hnn hx0 hx1 hqq
  go_enter Try.func45, Try.ntmps45
  go_wp2_with fail
  go_region_held3 (fun w' => w'.cell? ⟨w.heap.size, 0, none⟩ = some (.int .i64 (t : Int)) ∧ w'.cell? ⟨w.heap.size, 1, none⟩ = some (.int .i64 h) ∧ w'.cell? ⟨w.heap.size, 2, none⟩ = some (.int .i64 r)) (first | exact ⟨c0, c1, c2⟩ | exact kq _ (below_drew_alloc _) | exact kq _ hb2 | exact kq2 _ _ _ _ _ _ _ hb2)
    (first | (go_at_call 75; rw [HW.out]; refine (repeat_ones _ n hn _ HQQ.out).mono ?_; rintro e W2 ⟨rfl, ho2, hb⟩; have hb2 := (below_drew_alloc _).trans (hb.mono (by simp)); obtain ⟨s0, s1, s2, s3, s4, s5, d0⟩ := box6 (belowBox hb2 HX1.out)))
  have e3 : (W0.alloc (.cells #[.int .i64 1] 3)).drew.heap.size = w.heap.size + 2 + 1 := by
    show (W0.alloc (.cells #[.int .i64 1] 3)).heap.size = _
    simp [hsz]
  rw [e3] at ho2
  have HO := Lib.hid ho2
  have HB := Lib.hid (belowBox hb2 HX1.out)
  have hbw := hb0.trans (hb2.mono (by omega))
  clear ho2 hb hb2 s0 s1 s2 s3 s4 s5
  go_wp2
  (try simp only [Exit.inBlock, Exit.then])
  refine bodyPost_ret (v := .agg #[.int .i64 (t : Int), .int .i64 h, .int .i64 r, .slice (some ⟨w.heap.size + 2 + 1, 0, none⟩) n n, .int .u32 0, .slice none 0 0]) (results_cell1 rfl rfl (run_loadVar_row (P := Try.prog) _ _ 52 52 _ (0, 0) _ (set6_heap HB.out _ _ _ _ _ _) Try.underlying52 rfl (by kernel_rfl))) rfl ?_
  refine ⟨_, rfl, own_base' (own_upd HO.out (uset6 W2 (w.heap.size + 1) _ _ _ _ _ _) fun k hk e => ?_) fun k hk => ?_, bset6 hbw (by omega) _ _ _ _ _ _⟩
  · have := (HO.out.lt k hk).1; omega
  · have := (HO.out.lt k hk).1; omega
end Go.Proofs.Ytdkacdfhapgboaa

/- sim.NewPred. -/
set_option linter.unusedVariables false
set_option linter.unusedSimpArgs false
namespace Go.Proofs.Ytdkacdfhapgboaa
open Go.RowKit

abbrev emptyP : Value := .agg #[.int .i64 0, .int .i64 0, .int .i64 0, .slice none 0 0, .int .u32 0, .slice none 0 0]
theorem predShapeB_le {t h r : Int} (hs : predShapeB t h r = true) : 0 ≤ t ∧ t ≤ 12 ∧ 0 ≤ h ∧ h ≤ 12 ∧ 0 ≤ r ∧ r ≤ 32 := by
  simp [predShapeB] at hs
  omega

attribute [local irreducible] World.setCell in
set_option maxRecDepth 100000 in
set_option maxHeartbeats 1000000 in
theorem NewPred_bad (t h r : Int) (hs : predShapeB t h r = false) (w : World) :
    Calls Try.prog 22 #[.agg #[.int .i64 t, .int .i64 h, .int .i64 r]] w fun e w' => e = .returned (.tuple #[emptyP, .int .i64 330]) ∧ Below w.heap.size w w' := by
  obtain ⟨W0, hW0⟩ : ∃ W0, (w.alloc (.cells #[.int .i64 t, .int .i64 h, .int .i64 r] 50)).alloc (.cells #[.int .i64 0, .int .i64 0, .int .i64 0, .slice none 0 0, .int .u32 0, .slice none 0 0] 52) = W0 := ⟨_, rfl⟩
  have hb0 : Below w.heap.size w W0 := by rw [← hW0]; exact ((Below.refl _ _).alloc (Nat.le_refl _) _).alloc (by simp) _
  have hx0 : W0.heap[w.heap.size]? = some (.cells #[.int .i64 t, .int .i64 h, .int .i64 r] 50 (0, 0)) := by rw [← hW0]; exact (heap_alloc_old _ _ (by simp)).trans (heap_alloc_new w _)
  have hx1 : W0.heap[w.heap.size + 1]? = some (.cells #[.int .i64 0, .int .i64 0, .int .i64 0, .slice none 0 0, .int .u32 0, .slice none 0 0] 52 (0, 0)) := by rw [← hW0]; exact alloc_at _ _ _ (by simp)
  have hsz : W0.heap.size = w.heap.size + 2 := by rw [← hW0]; simp
  have c0 : W0.cell? ⟨w.heap.size, 0, none⟩ = some (.int .i64 t) := by simp [World.cell?, hx0]
  have c1 : W0.cell? ⟨w.heap.size, 1, none⟩ = some (.int .i64 h) := by simp [World.cell?, hx0]
  have c2 : W0.cell? ⟨w.heap.size, 2, none⟩ = some (.int .i64 r) := by simp [World.cell?, hx0]
  have HX1 := Lib.hid hx1
  clear hx0 hx1
  go_enter Try.func22, Try.ntmps22
  go_wp2_with fail
  refine (predShape_any _ _ _ _).mono ?_
  rintro e W ⟨rfl, hb⟩
  rw [hs]
  have HB := Lib.hid (belowBox hb HX1.out)
  obtain ⟨s0, s1, s2, s3, s4, s5, d0⟩ := box6 HB.out
  have hbw := hb0.trans (hb.mono (by omega))
  clear hb
  go_wp2
  (try simp only [Exit.inBlock, Exit.then])
  refine bodyPost_ret (v := .tuple #[emptyP, .int .i64 330]) (results_cell2 rfl rfl rfl (run_loadVar_row (P := Try.prog) _ _ 52 52 _ (0, 0) _ (set6_heap HB.out _ _ _ _ _ _) Try.underlying52 rfl (by kernel_rfl))) rfl ?_
  exact ⟨rfl, bset6 hbw (by omega) _ _ _ _ _ _⟩

attribute [local irreducible] World.setCell in
set_option maxRecDepth 100000 in
set_option maxHeartbeats 1000000 in
theorem NewPred_ok (t : Nat) (h r : Int) (hs : predShapeB t h r = true) (w : World) :
    Calls Try.prog 22 #[.agg #[.int .i64 (t : Int), .int .i64 h, .int .i64 r]] w fun e w' => ∃ g, e = .returned (.tuple #[.agg #[.int .i64 (t : Int), .int .i64 h, .int .i64 r, .slice (some ⟨g, 0, none⟩) (2 ^ t) (2 ^ t), .int .u32 0, .slice none 0 0], .int .i64 0]) ∧
      w'.ownsRow w.heap.size 3 1 (.slice (some ⟨g, 0, none⟩) (2 ^ t) (2 ^ t)) (2 ^ t) (List.replicate (2 ^ t) (.int .i64 1)) ∧ Below w.heap.size w w' := by
  have ht : t ≤ 12 := by have := predShapeB_le hs; omega
  obtain ⟨W0, hW0⟩ : ∃ W0, (w.alloc (.cells #[.int .i64 (t : Int), .int .i64 h, .int .i64 r] 50)).alloc (.cells #[.int .i64 0, .int .i64 0, .int .i64 0, .slice none 0 0, .int .u32 0, .slice none 0 0] 52) = W0 := ⟨_, rfl⟩
  have hb0 : Below w.heap.size w W0 := by rw [← hW0]; exact ((Below.refl _ _).alloc (Nat.le_refl _) _).alloc (by simp) _
  have hx0 : W0.heap[w.heap.size]? = some (.cells #[.int .i64 (t : Int), .int .i64 h, .int .i64 r] 50 (0, 0)) := by rw [← hW0]; exact (heap_alloc_old _ _ (by simp)).trans (heap_alloc_new w _)
  have hx1 : W0.heap[w.heap.size + 1]? = some (.cells #[.int .i64 0, .int .i64 0, .int .i64 0, .slice none 0 0, .int .u32 0, .slice none 0 0] 52 (0, 0)) := by rw [← hW0]; exact alloc_at _ _ _ (by simp)
  have hsz : W0.heap.size = w.heap.size + 2 := by rw [← hW0]; simp
  have c0 : W0.cell? ⟨w.heap.size, 0, none⟩ = some (.int .i64 (t : Int)) := by simp [World.cell?, hx0]
  have c1 : W0.cell? ⟨w.heap.size, 1, none⟩ = some (.int .i64 h) := by simp [World.cell?, hx0]
  have c2 : W0.cell? ⟨w.heap.size, 2, none⟩ = some (.int .i64 r) := by simp [World.cell?, hx0]
  have HX1 := Lib.hid hx1
  clear hx0 hx1
  go_enter Try.func22, Try.ntmps22
  go_wp2_with fail
  refine (predShape_any _ _ _ _).mono ?_
  rintro e W ⟨rfl, hb⟩
  rw [hs]
  have e0 := bkeep hb c0
  have e1 := bkeep hb c1
  have e2 := bkeep hb c2
  have hwsz := hb.size
  go_wp2_with fail
  refine (newPred_any t h r ht _).mono ?_
  rintro e W2 ⟨g, rfl, ho2, hb2⟩
  have HB := Lib.hid (belowBox hb2 (belowBox hb HX1.out))
  obtain ⟨s0, s1, s2, s3, s4, s5, d0⟩ := box6 HB.out
  have hbw := hb0.trans ((hb.trans (hb2.mono (by omega))).mono (by omega))
  obtain ⟨n, hn⟩ : ∃ n, n = 2 ^ t := ⟨_, rfl⟩
  rw [← hn] at ho2 ⊢
  have HO := Lib.hid ho2
  have HN := Lib.hid hn
  clear hb hb2 ho2 hn
  go_wp2
  (try simp only [Exit.inBlock, Exit.then])
  refine bodyPost_ret (v := .tuple #[.agg #[.int .i64 (t : Int), .int .i64 h, .int .i64 r, .slice (some ⟨g, 0, none⟩) n n, .int .u32 0, .slice none 0 0], .int .i64 0]) (results_cell2 rfl rfl rfl (run_loadVar_row (P := Try.prog) _ _ 52 52 _ (0, 0) _ (set6_heap HB.out _ _ _ _ _ _) Try.underlying52 rfl (by kernel_rfl))) rfl ?_
  rw [← HN.out]
  refine ⟨_, rfl, own_base' (own_upd HO.out (uset6 W2 (w.heap.size + 1) _ _ _ _ _ _) fun k hk e => ?_) fun k hk => ?_, bset6 hbw (by omega) _ _ _ _ _ _⟩
  · have := (HO.out.lt k hk).1; omega
  · have := (HO.out.lt k hk).1; omega
end Go.Proofs.Ytdkacdfhapgboaa

/- A region that draws its order, reads, and calls functions that make memory of their own and hand back what hangs on no memory: walked once. -/
set_option linter.unusedVariables false
namespace Go.Proofs.Ytdkacdfhapgboaa
open Go.RowKit

/-- A world in which all lies that lay in W0. -/
structure After (n : Nat) (W0 : World) where
  W : World
  below : Below n W0 W
instance {n : Nat} {W0 : World} : Nonempty (After n W0) := ⟨⟨W0, Below.refl _ _⟩⟩
theorem After.eq {n : Nat} {W0 W : World} (h : Below n W0 W) : ∃ q : After n W0, W = q.W := ⟨⟨W, h⟩, rfl⟩
theorem After.cell {W0 : World} {a : Addr} {v : Value} (hc : W0.cell? a = some v) (q : After W0.heap.size W0) : q.W.cell? a = some v := bkeep q.below hc
theorem region_after {P : Program} {n : Nat} {W0 : World} {id : Nat} {Q : Exit → Act → World → Prop} {a : Act} {w : World} {l : List Oper} (hw : Below n W0 w) (hm : P.follows .mixedOrders = true) (hB : Region.lexB .any l.toArray = true)
    (h : wpQuiet P l.toArray (fun w' => ∃ q : After n W0, w' = q.W) (fun a' => ∀ w', (∃ q : After n W0, w' = q.W) → Q .normal a' w') l a) : (Code.region id l.toArray true).wp P Q a w :=
  wp_region_quiet (C := fun w' => ∃ q : After n W0, w' = q.W) hm hB (After.eq (bdrewN hw 1)) (by simpa using h)
/-- A contract, met inside such a region. -/
theorem calls_after {P : Program} {f : FuncId} {args : Array Value} {n : Nat} {W0 : World} {q : After n W0} {v : Value} (hn : n ≤ W0.heap.size) (h : Calls P f args q.W fun e w' => e = .returned v ∧ Below q.W.heap.size q.W w') :
    Calls P f args q.W fun e w'' => e = .returned v ∧ ∃ q' : After n W0, w'' = q'.W :=
  h.mono fun _ _ ⟨he, hb⟩ => ⟨he, After.eq (q.below.trans (hb.mono (Nat.le_trans hn q.below.size)))⟩
theorem calls_after_same {P : Program} {f : FuncId} {args : Array Value} {n : Nat} {W0 : World} {q : After n W0} {v : Value} (h : Calls P f args q.W fun e w' => e = .returned v ∧ q.W = w') :
    Calls P f args q.W fun e w'' => e = .returned v ∧ ∃ q' : After n W0, w'' = q'.W :=
  h.mono fun _ _ ⟨he, hb⟩ => ⟨he, q, hb.symm⟩

/-! ### A region that reads, and ends in operations of one forced order: the reads walked once -/
/-- One world alone. -/
structure Just (W0 : World) where
  W : World
  eq : W = W0
instance {W0 : World} : Nonempty (Just W0) := ⟨⟨W0, rfl⟩⟩
theorem Just.cell {W0 : World} {a : Addr} {v : Value} (hc : W0.cell? a = some v) (q : Just W0) : q.W.cell? a = some v := by rw [q.eq]; exact hc
theorem still_of_quiet {P : Program} {ops : Array Oper} {W0 : World} {Q : Act → Prop} : ∀ (l : List Oper) (a : Act), wpQuiet P ops (fun w' => ∃ q : Just W0, w' = q.W) Q l a → wpStill P ops W0 Q l a
  | [], a, h => h
  | o :: rest, a, h => by
    unfold wpQuiet at h
    unfold wpStill
    split
    · rename_i hw
      rw [if_pos hw] at h
      obtain ⟨v, h1, h2⟩ := h
      have h3 := h1 W0 ⟨⟨W0, rfl⟩, rfl⟩
      unfold Oper.quietAt at h3
      unfold Oper.still
      cases hr : (execOp a.eval o).run P W0 with
      | ok n w' =>
        rw [hr] at h3
        cases n with
        | value u => obtain ⟨e1, e2⟩ := h3; exact ⟨e1, by rw [e2]; exact still_of_quiet rest _ h2⟩
        | skip => obtain ⟨e1, e2⟩ := h3; exact ⟨e1, by rw [← e2]; exact still_of_quiet rest _ h2⟩
        | enter f args =>
          obtain ⟨e1, e2⟩ := h3
          exact ⟨e1, v, e2.mono fun e w'' ⟨he, q, hq⟩ => ⟨he, hq.trans q.eq⟩, still_of_quiet rest _ h2⟩
        | _ => exact h3.elim
      | halt x w' => rw [hr] at h3; exact h3.elim
    · rename_i hw
      rw [if_neg hw] at h
      exact still_of_quiet rest _ h
theorem region_tail {P : Program} {id : Nat} {Q : Exit → Act → World → Prop} {a : Act} {w w0 : World} {l : List Oper} (n : Nat) (hd : w.drew = w0) (hm : P.follows .mixedOrders = true) (hB : Region.lexTailB .any l.toArray n = true)
    (h : wpQuiet P l.toArray (fun w' => ∃ q : Just w0, w' = q.W) (fun a' => wpList P l.toArray Q (l.drop n) a' w0) (l.take n) a) : (Code.region id l.toArray true).wp P Q a w := by
  subst hd
  exact wp_region_still_tail n hm hB (still_of_quiet _ _ h)
end Go.Proofs.Ytdkacdfhapgboaa

/- sim.pred: the check of a predictor. -/
set_option linter.unusedVariables false
set_option linter.unusedSimpArgs false
namespace Go.Proofs.Ytdkacdfhapgboaa
open Go.RowKit

def predOk (t h r : Int) (cs : List Int) (hist : Int) (rs : List Int) : Prop := predShapeB t h r = true ∧ (cs.length : Int) = 2 ^ t.toNat ∧ cs.any badN = false ∧ hist < 2 ^ h.toNat ∧ (rs.length : Int) ≤ r
instance (t h r : Int) (cs : List Int) (hist : Int) (rs : List Int) : Decidable (predOk t h r cs hist rs) := by unfold predOk; infer_instance

set_option maxRecDepth 100000 in
set_option maxHeartbeats 1000000 in
theorem pred_any (t h r : Int) (A : Option Addr) (c : Nat) (cs : List Int) (hist : Int) (R : Option Addr) (rl rc : Nat) (w : World) (hc : RdI w .i64 A cs.length cs) (rs : List Int) (hr : rs.length = rl) (hh : 0 ≤ hist ∧ hist < 4294967296) :
    Calls Try.prog 46 #[.agg #[.int .i64 t, .int .i64 h, .int .i64 r, .slice A cs.length c, .int .u32 hist, .slice R rl rc]] w fun e w' => e = .returned (.bool (decide (predOk t h r cs hist rs))) ∧ Below w.heap.size w w' := by
  subst hr
  obtain ⟨h1, h2⟩ := hh
  obtain ⟨W0, hW0⟩ : ∃ W0, w.alloc (.cells #[.int .i64 t, .int .i64 h, .int .i64 r, .slice A cs.length c, .int .u32 hist, .slice R rs.length rc] 52) = W0 := ⟨_, rfl⟩
  have hb0 : Below w.heap.size w W0 := by rw [← hW0]; exact balloc w _
  have hx0 : W0.heap[w.heap.size]? = some (.cells #[.int .i64 t, .int .i64 h, .int .i64 r, .slice A cs.length c, .int .u32 hist, .slice R rs.length rc] 52 (0, 0)) := by rw [← hW0]; exact heap_alloc_new w _
  obtain ⟨c0, c1, c2, c3, c4, c5, _⟩ := box6 hx0
  have k0 := After.cell c0
  have k1 := After.cell c1
  have k2 := After.cell c2
  have k3 := After.cell c3
  have k4 := After.cell c4
  have k5 := After.cell c5
  have HC := Lib.hid (Rd.below hc hb0)
  clear hc hx0
  cases hs : predShapeB t h r
  · have hf : decide (predOk t h r cs hist rs) = false := by simp [predOk, hs]
    rw [hf]
    have hpre : ∀ W, Calls Try.prog 44 #[.agg #[.int .i64 t, .int .i64 h, .int .i64 r]] W fun e w' => e = .returned (.bool false) ∧ Below W.heap.size W w' := fun W => by rw [← hs]; exact predShape_any t h r W
    go_enter Try.func46, Try.ntmps46
    go_wp2_with fail
    refine region_after (Below.refl W0.heap.size W0) (by kernel_rfl) (by kernel_rfl) ?_
    repeat (go_big_quiet_step (first
      | (go_at_call 44; exact calls_after (Nat.le_refl _) (hpre _))))
    refine wpQuiet_nil ?_
    intro _ hw'
    obtain ⟨nq, hw''⟩ := hw'
    subst hw''
    go_wp2
    go_ret
    exact ⟨rfl, hb0.trans (nq.below.mono hb0.size)⟩
  · obtain ⟨t1, t2, u1, u2, r1, r2⟩ := predShapeB_le hs
    obtain ⟨t, rfl⟩ := Int.eq_ofNat_of_zero_le t1
    obtain ⟨h, rfl⟩ := Int.eq_ofNat_of_zero_le u1
    have hpre : ∀ W, Calls Try.prog 44 #[.agg #[.int .i64 (t : Int), .int .i64 (h : Int), .int .i64 r]] W fun e w' => e = .returned (.bool true) ∧ Below W.heap.size W w' := fun W => by rw [← hs]; exact predShape_any t h r W
    have hpow : ∀ t : Nat, t ≤ 12 → ∃ n : Int, IntKind.i64.wrap ((2 : Int) ^ t) = n ∧ n = 2 ^ t := fun t ht => by
      obtain ⟨m, hm⟩ : ∃ m : Nat, m = 2 ^ t := ⟨_, rfl⟩
      have h4 : m ≤ 4096 := by rw [hm]; have := Nat.pow_le_pow_right (show 0 < 2 by omega) ht; simpa using this
      have e : (2 : Int) ^ t = (m : Int) := by rw [hm]; simp
      rw [e]
      exact ⟨m, by rw [IntKind.wrap_i64]; omega, rfl⟩
    obtain ⟨N, hN, hN2⟩ := hpow t (by omega)
    obtain ⟨M, hM, hM2⟩ := hpow h (by omega)
    have hcon : ∀ q : After W0.heap.size W0, Calls Try.prog 77 #[.slice A cs.length c, .func (.func 76) #[] #[]] q.W fun e w' => e = .returned (.bool (cs.any badN)) ∧ q.W = w' := fun q =>
      containsFunc_pred A cs.length c cs q.W (Rd.below HC.out q.below)
    have hok : decide (predOk t h r cs hist rs) = (((cs.length : Int) == N) && (!(cs.any badN) && (decide (hist < M) && decide ((rs.length : Int) ≤ r)))) := by
      rw [hN2, hM2]
      simp only [predOk, hs, Int.toNat_natCast, true_and]
      cases cs.any badN <;> simp [Bool.decide_and, Bool.beq_eq_decide_eq]
    rw [hok]
    have HP := Lib.hid hpre
    have HCON := Lib.hid hcon
    clear hok hN2 hM2 hpow hs hpre hcon
    cases q1 : ((cs.length : Int) == N)
    · go_enter Try.func46, Try.ntmps46
      go_wp2_with fail
      refine region_after (Below.refl W0.heap.size W0) (by kernel_rfl) (by kernel_rfl) ?_
      repeat (go_big_quiet_step (first
        | (go_at_call 44; exact calls_after (Nat.le_refl _) (HP.out _))))
      refine wpQuiet_nil ?_
      intro _ hw'
      obtain ⟨nq, hw''⟩ := hw'
      subst hw''
      go_wp2
      go_ret
      exact ⟨rfl, hb0.trans (nq.below.mono hb0.size)⟩
    · cases q2 : cs.any badN
      · cases q3 : decide (hist < M)
        · rw [q2] at HCON
          go_enter Try.func46, Try.ntmps46
          go_wp2_with fail
          refine region_after (Below.refl W0.heap.size W0) (by kernel_rfl) (by kernel_rfl) ?_
          repeat (go_big_quiet_step (first
            | (go_at_call 44; exact calls_after (Nat.le_refl _) (HP.out _))
            | (go_at_call 77; exact calls_after_same (HCON.out _))))
          refine wpQuiet_nil ?_
          intro _ hw'
          obtain ⟨nq, hw''⟩ := hw'
          subst hw''
          go_wp2
          go_ret
          exact ⟨rfl, hb0.trans (nq.below.mono hb0.size)⟩
        · cases q4 : decide ((rs.length : Int) ≤ r)
          all_goals
            rw [q2] at HCON
            go_enter Try.func46, Try.ntmps46
            go_wp2_with fail
            refine region_after (Below.refl W0.heap.size W0) (by kernel_rfl) (by kernel_rfl) ?_
            repeat (go_big_quiet_step (first
              | (go_at_call 44; exact calls_after (Nat.le_refl _) (HP.out _))
              | (go_at_call 77; exact calls_after_same (HCON.out _))))
            refine wpQuiet_nil ?_
            intro _ hw'
            obtain ⟨nq, hw''⟩ := hw'
            subst hw''
            go_wp2
            go_ret
            exact ⟨rfl, hb0.trans (nq.below.mono hb0.size)⟩
      · rw [q2] at HCON
        go_enter Try.func46, Try.ntmps46
        go_wp2_with fail
        refine region_after (Below.refl W0.heap.size W0) (by kernel_rfl) (by kernel_rfl) ?_
        repeat (go_big_quiet_step (first
          | (go_at_call 44; exact calls_after (Nat.le_refl _) (HP.out _))
          | (go_at_call 77; exact calls_after_same (HCON.out _))))
        refine wpQuiet_nil ?_
        intro _ hw'
        obtain ⟨nq, hw''⟩ := hw'
        subst hw''
        go_wp2
        go_ret
        exact ⟨rfl, hb0.trans (nq.below.mono hb0.size)⟩
end Go.Proofs.Ytdkacdfhapgboaa

/- (*sim.predictor).counter: which counter is asked. -/
set_option linter.unusedVariables false
set_option linter.unusedSimpArgs false
namespace Go.Proofs.Ytdkacdfhapgboaa
open Go.RowKit

theorem bits_u32_range (o : BinOp) (x y : Int) : 0 ≤ bits o .u32 x y ∧ bits o .u32 x y < 4294967296 := by
  unfold bits
  dsimp only
  rw [IntKind.wrap_u32]
  omega
/-- Which counter. -/
def ctrI (pc hist : Int) (n : Nat) : Int := bits .xor .u32 (pc / 4) hist % (n : Int)
theorem ctrI_range (pc hist : Int) (n : Nat) (hn : 1 ≤ n) : 0 ≤ ctrI pc hist n ∧ ctrI pc hist n < n :=
  ⟨Int.emod_nonneg _ (by omega), Int.emod_lt_of_pos _ (by omega)⟩

set_option maxHeartbeats 1000000 in
theorem counter_any (b : Nat) (ad : Addr) (n c : Nat) (pc hist : Int) (hn : 1 ≤ n) (hp : 0 ≤ pc ∧ pc < 4294967296) (w : World) (h3 : w.cell? ⟨b, 3, none⟩ = some (.slice (some ad) n c)) (h4 : w.cell? ⟨b, 4, none⟩ = some (.int .u32 hist)) (hle : n ≤ 9223372036854775807) :
    Calls Try.prog 47 #[.pointer (some ⟨b, 0, none⟩), .int .u32 pc] w fun e w' => e = .returned (.pointer (some (ad.add (ctrI pc hist n).toNat))) ∧ ∃ q, w' = w.drewN q := by
  obtain ⟨p1, p2⟩ := hp
  obtain ⟨x, hx⟩ : ∃ x, bits .xor .u32 (pc / 4) hist = x := ⟨_, rfl⟩
  obtain ⟨x1, x2⟩ : 0 ≤ x ∧ x < 4294967296 := hx ▸ bits_u32_range _ _ _
  obtain ⟨y, hy⟩ : ∃ y, x % (n : Int) = y := ⟨_, rfl⟩
  have hc : ctrI pc hist n = y := by unfold ctrI; rw [hx, hy]
  obtain ⟨y1, y2⟩ := ctrI_range pc hist n hn
  rw [hc] at y1 y2 ⊢
  have hn0 : (1 : Int) ≤ (n : Int) := by omega
  clear hc
  go_enter Try.func47, Try.ntmps47
  go_wp2_with fail
  go_quiet (fail)
  go_wp2
  go_ret
  exact ⟨rfl, _, rfl⟩
end Go.Proofs.Ytdkacdfhapgboaa

/- sim.Replay. -/
set_option linter.unusedVariables false
set_option linter.unusedSimpArgs false
namespace Go.Proofs.Ytdkacdfhapgboaa
open Go.RowKit Go.Shelf

/-- The lines of an access, as numbers. -/
def linI (line at_ cnt : Int) : List Int := (List.range (nLines line at_ cnt)).map (lineNo line at_)
theorem vals_linesL (line at_ cnt : Int) (h1 : 1 ≤ line) (h2 : line ≤ 4294967296) : vals (linesL line at_ cnt h1 h2) = linI line at_ cnt := by simp [vals, linesL, linI]

/-- Accesses of one byte, one after the other: the sets behind them, and whether each one hit. -/
def replayL (line sets ways : Int) : List (List Int) → List Int → List (List Int) × List Bool
  | L, [] => (L, [])
  | L, x :: xs => let r := runL sets ways L (linI line x 1); let q := replayL line sets ways r.1 xs; (q.1, ((r.2.length : Int) == 0) :: q.2)
theorem replayL_snoc (line sets ways : Int) (xs : List Int) (x : Int) : ∀ L, replayL line sets ways L (xs ++ [x]) =
    ((runL sets ways (replayL line sets ways L xs).1 (linI line x 1)).1, (replayL line sets ways L xs).2 ++ [(((runL sets ways (replayL line sets ways L xs).1 (linI line x 1)).2.length : Int) == 0)]) := by
  induction xs with
  | nil => intro L; simp [replayL]
  | cons y ys ih =>
    intro L
    simp only [List.cons_append, replayL, ih]
theorem replayL_length (line sets ways : Int) (xs : List Int) : ∀ L, (replayL line sets ways L xs).1.length = L.length ∧ (replayL line sets ways L xs).2.length = xs.length := by
  induction xs with
  | nil => intro L; simp [replayL]
  | cons x xs ih =>
    intro L
    have := ih (runL sets ways L (linI line x 1)).1
    rw [runL_length] at this
    simp only [replayL, List.length_cons]
    omega
theorem replayL_small {line sets ways : Int} (xs : List Int) : ∀ {L : List (List Int)}, Small ways L → Small ways (replayL line sets ways L xs).1 := by
  induction xs with
  | nil => intro L h; exact h
  | cons x xs ih => intro L h; exact ih (runL_small _ h)
theorem small_new (ways : Int) (n : Nat) : Small ways (List.replicate n []) := by
  intro i hi
  rw [List.length_replicate] at hi
  simp [gl, List.getD_eq_getElem?_getD, List.getElem?_replicate, hi]

structure RepI (w : World) (b g c n : Nat) (line ways : Int) (pre : List Int) (v : Value) (W : World) : Prop where
  sets : ∃ vs, OwnSets W w.heap.size g c vs (replayL line n ways (List.replicate n []) pre).1 ∧ ∀ k, v.ownBlock = some k → ¬ foot g vs n k
  out : W.ownsRow w.heap.size 4 1 v pre.length (bools (replayL line n ways (List.replicate n []) pre).2)
  box : W.heap[b]? = some (.cells #[.int .i64 line, .int .i64 (n : Int), .int .i64 ways, .slice (some ⟨g, 0, none⟩) n c] 36 (0, 0))
  below : Below w.heap.size w W
  ge : w.heap.size ≤ b

theorem own_ne {w : World} {base n b : Nat} {e t : TypeId} {sz : Nat} {v : Value} {cs : List Value} {a : Array Value} (h : w.ownsRow base e sz v n cs) (hb : w.heap[b]? = some (.cells a t (0, 0))) (hte : t ≠ e) : v.ownBlock ≠ some b := by
  intro hk
  rcases h.2 with ⟨rfl, _⟩ | ⟨g', cap, cur, rfl, _, hh, _⟩
  · simp [Value.ownBlock] at hk
  · obtain rfl : g' = b := by simpa [Value.ownBlock] using hk
    rw [hb] at hh
    simp at hh
    exact hte hh.2
theorem foot_ne {w : World} {B g c b : Nat} {vs : List Value} {L : List (List Int)} {t : TypeId} {a : Array Value} (h : OwnSets w B g c vs L) (hb : w.heap[b]? = some (.cells a t (0, 0))) (h1 : t ≠ 22) (h2 : t ≠ 30) : ¬ foot g vs L.length b := by
  rintro (rfl | ⟨i, hi, e⟩)
  · exact own_ne h.row hb h1 rfl
  · exact own_ne (h.each i hi) hb h2 e

/-- Behind the access and the append of a round. -/
theorem RepI.step {w W W1 W2 : World} {b g c n : Nat} {line ways : Int} {pre : List Int} {x : Int} {v v2 : Value} {vs' : List Value} {tmp : Obj} (h : RepI w b g c n line ways pre v W) {vs : List Value}
    (hvs : OwnSets W w.heap.size g c vs (replayL line n ways (List.replicate n []) pre).1) (hap : ∀ k, v.ownBlock = some k → ¬ foot g vs n k)
    (hs : OwnSets W1 w.heap.size g c vs' (runL n ways (replayL line n ways (List.replicate n []) pre).1 (linI line x 1)).1)
    (hfr : ∀ k, foot g vs' n k → foot g vs n k ∨ W.heap.size + 5 ≤ k) (hu : Upd (foot g vs n) W W1)
    (ho : W2.ownsRow w.heap.size 4 1 v2 (pre.length + 1) (bools (replayL line n ways (List.replicate n []) pre).2 ++ [.bool (((runL n ways (replayL line n ways (List.replicate n []) pre).1 (linI line x 1)).2.length : Int) == 0)]))
    (hg : (W1.alloc tmp).grownBy W2 v.ownBlock) (hat : v2.ownBlock = v.ownBlock ∨ v2.ownBlock = some (W1.heap.size + 1)) : RepI w b g c n line ways (pre ++ [x]) v2 W2 := by
  have hl0 : (replayL line n ways (List.replicate n []) pre).1.length = n := by rw [(replayL_length _ _ _ _ _).1]; simp
  have hl1 : (runL n ways (replayL line n ways (List.replicate n []) pre).1 (linI line x 1)).1.length = n := by rw [runL_length, hl0]
  have hU2 : Upd (fun k => v.ownBlock = some k) W1 W2 := (Upd.alloc _ _ _).trans (Upd.of_grown hg) fun k h => .inl h
  have hf1 : ∀ k, foot g vs' n k → v.ownBlock ≠ some k := fun k hk e => by
    rcases hfr k hk with h1 | h1
    · exact hap k e h1
    · have := (h.out.lt k e).2; omega
  have hlt1 := hs.foot_lt
  rw [hl1] at hlt1
  have hbf : ¬ foot g vs n b := by have := foot_ne hvs h.box (by decide) (by decide); rwa [hl0] at this
  have hbl := (Array.getElem?_eq_some_iff.1 h.box).1
  have hW1 := hu.size
  refine ⟨⟨vs', ?_, ?_⟩, ?_, ?_, ?_, h.ge⟩
  · rw [replayL_snoc]
    refine hs.upd hU2 fun k hk e => ?_
    rw [hl1] at hk
    exact hf1 k hk e
  · intro k hk hf
    rcases hat with e | e
    · exact hf1 k hf (e ▸ hk)
    · have e2 : W1.heap.size + 1 = k := by rw [e] at hk; simpa using hk
      have := (hlt1 k hf).2
      omega
  · rw [replayL_snoc]
    simp only [List.length_append, List.length_cons, List.length_nil]
    simpa [bools] using ho
  · rw [hU2.block b (by omega) fun e => own_ne h.out h.box (by decide) e, hu.block b hbl hbf]
    exact h.box
  · have h1 : Below w.heap.size w W1 := h.below.trans (hu.below h.below.size fun k hk => by
      have := hvs.foot_lt k (by rw [hl0]; exact hk)
      exact this.1)
    exact h1.trans (hU2.below (by have := h1.size; omega) fun k e => (h.out.lt k e).1)

theorem replay_bad (line sets ways : Int) (A : Option Addr) (n c : Nat) (w : World) (hs : shapeB line sets ways = false) :
    Calls Try.prog 37 #[.agg #[.int .i64 line, .int .i64 sets, .int .i64 ways], .slice A n c] w fun e w' => e = .returned (.tuple #[.slice none 0 0, .int .i64 330]) ∧ Below w.heap.size w w' := by
  go_enter Try.func37, Try.ntmps37
  go_wp2_with fail
  refine (shape_any _ _ _ _).mono ?_
  rintro e W ⟨rfl, hb⟩
  rw [hs]
  go_wp2
  go_ret2
  exact ⟨rfl, bvia (balloc w _) hb (Nat.le_refl _)⟩

set_option maxRecDepth 100000 in
set_option maxHeartbeats 1000000 in
theorem replay_ok (line ways : Int) (n : Nat) (A : Option Addr) (ca : Nat) (l : List Int) (w : World) (hs : shapeB line n ways = true) (hl : RdI w .u32 A l.length l) (hl2 : l.length ≤ 1000) (hu : ∀ x ∈ l, 0 ≤ x ∧ x < 4294967296) :
    Calls Try.prog 37 #[.agg #[.int .i64 line, .int .i64 (n : Int), .int .i64 ways], .slice A l.length ca] w fun e w' => ∃ v, e = .returned (.tuple #[v, .int .i64 0]) ∧
      w'.ownsRow w.heap.size 4 1 v l.length (bools (replayL line n ways (List.replicate n []) l).2) ∧ Below w.heap.size w w' := by
  obtain ⟨l1, l2, l3, l4, l5, l6⟩ := shapeB_line hs
  have H := Lib.hid hl
  have HU := Lib.hid hu
  clear hl hu
  go_enter Try.func37, Try.ntmps37
  go_wp2_with fail
  refine (shape_any _ _ _ _).mono ?_
  rintro e W ⟨rfl, hb⟩
  rw [hs]
  have hbw : Below w.heap.size w W := bvia (balloc w _) hb (Nat.le_refl _)
  have hbx : W.heap[w.heap.size]? = some (.cells #[.int .i64 line, .int .i64 (n : Int), .int .i64 ways] 25 (0, 0)) := belowBox hb (heap_alloc_new w _)
  have e0 : W.cell? ⟨w.heap.size, 0, none⟩ = some (.int .i64 line) := by simp [World.cell?, hbx]
  have e1 : W.cell? ⟨w.heap.size, 1, none⟩ = some (.int .i64 (n : Int)) := by simp [World.cell?, hbx]
  have e2 : W.cell? ⟨w.heap.size, 2, none⟩ = some (.int .i64 ways) := by simp [World.cell?, hbx]
  have hll : (l.length : Int) ≤ 100000 := by omega
  have hwsz := hb.size
  simp at hwsz
  clear hb hbx
  go_wp2_with fail
  refine (empty_any _ _ _ (by omega) _).mono ?_
  rintro e W1 ⟨g, rfl, hos, hb1⟩
  obtain ⟨W2, hW2⟩ : ∃ W2, W1.alloc (.cells #[.int .i64 line, .int .i64 (n : Int), .int .i64 ways, .slice (some ⟨g, 0, none⟩) n n] 36) = W2 := ⟨_, rfl⟩
  have hI0 : RepI w W1.heap.size g n n line ways [] (.slice none 0 0) W2 := by
    rw [← hW2]
    refine ⟨⟨_, (hos.upd (F := fun _ => False) (Upd.alloc _ _ _) fun _ _ h => h).base fun k hk => by have := (hos.foot_lt k hk).1; omega, fun k hk => by simp [Value.ownBlock] at hk⟩, World.ownsRow_nil _ _ _ _, heap_alloc_new _ _, (hbw.trans (hb1.mono (by omega))).alloc (by have := hb1.size; omega) _, by have := hb1.size; omega⟩
  have hI := Lib.hid hI0
  clear hI0 hos hb1 hbw
  go_wp2_with fail
  have hlm : l.length ≤ 9223372036854775807 := by omega
  go_loopw [7, 22] (fun o i wr => ∃ k : Nat, k ≤ l.length ∧ i = .int .i64 k ∧ ∃ Av cv, o = .slice Av k cv ∧ Hid (RepI w W1.heap.size g n n line ways (l.take k) (.slice Av k cv) wr)) (fun _ i _ => l.length - (intOf i).toNat)
  case atStart => exact ⟨0, Nat.zero_le _, rfl, _, _, rfl, hI⟩
  case round =>
    obtain ⟨k, hk, rfl, Av, cv, rfl, hR⟩ := hrel
    by_cases hlt : k < l.length
    · obtain ⟨ad, rfl, hc⟩ := RdI.at (H.out.below hR.out.below) k hlt
      obtain ⟨u1, u2⟩ := HU.out _ (gi_mem l k hlt)
      have hsnoc : l.take (k + 1) = l.take k ++ [gi l k] := by rw [List.take_succ_eq_append_getElem hlt, gi_get l k hlt]
      obtain ⟨x, hx⟩ : ∃ x, x = gi l k := ⟨_, rfl⟩
      rw [← hx] at hc u1 u2 hsnoc
      obtain ⟨b0, b1, b2, b3, _⟩ := box4 hR.out.box
      obtain ⟨vs, hvs, hap⟩ := hR.out.sets
      have hl0 : (replayL line n ways (List.replicate n []) (l.take k)).1.length = n := by rw [(replayL_length _ _ _ _ _).1]; simp
      have hsm : Small ways (replayL line n ways (List.replicate n []) (l.take k)).1 := replayL_small _ (small_new _ _)
      have hwb := hR.out.below.size
      have HVS := Lib.hid hvs
      have HAP := Lib.hid hap
      have HSN := Lib.hid hsnoc
      have HSM := Lib.hid hsm
      have HL0 := Lib.hid hl0
      clear hx hvs hap hsnoc hsm hl0
      go_wp2_with fail
      have acc := access_any w.heap.size g n vs _ line ways x 1 wr HVS.out hwb l1 (by omega) (by have := HL0.out; omega) (by have := HL0.out; omega) l5 l6 HSM.out ⟨u1, u2⟩ ⟨by omega, by omega⟩
      rw [HL0.out] at acc
      refine acc.mono ?_
      rintro e W3 ⟨vs', vo, rfl, hs3, ho3, hap3, hfr3, hu3, hz3⟩
      rw [vals_linesL] at hs3 ho3
      obtain ⟨Ao, co, rfl, _⟩ := own_rd ho3
      have hout := own_upd hR.out.out hu3 fun k hk => HAP.out k hk
      rw [List.length_take, Nat.min_eq_left hk] at hout
      have hstep := fun (v2 : Value) (W4 : World) (tmp : Obj) => RepI.step (v2 := v2) (W2 := W4) (x := x) (tmp := tmp) hR.out HVS.out HAP.out hs3 hfr3 hu3
      rw [List.length_take, Nat.min_eq_left hk, ← HSN.out] at hstep
      have hsz3 := hu3.size
      obtain ⟨m, hm⟩ : ∃ m, m = (runL n ways (replayL line n ways (List.replicate n []) (l.take k)).1 (linI line x 1)).2.length := ⟨_, rfl⟩
      rw [← hm] at hstep ho3 ⊢
      have HOUT := Lib.hid hout
      have HST := Lib.hid hstep
      clear hout hstep hm hs3 ho3 hap3 hfr3 hu3
      obtain ⟨hit, hh⟩ : ∃ hit, ((m : Int) == 0) = hit := ⟨_, rfl⟩
      rw [hh] at HST
      go_wp2_with (at_builtin; refine wpList_append_own_at _ rfl _ _ 27 rfl w.heap.size 4 _ _ 1 1 rfl rfl rfl rfl rfl rfl (by decide) _ _ _ rfl (HOUT.out.alloc _) ⟨W3.heap.size, 0, none⟩ 1 1 [.bool hit] rfl rfl ?c1 ?c2 ?c3 ?c4 ?c5 ?_)
      case c1 =>
        intro j u hj
        match j, hj with
        | 0, hj => simp at hj; subst hj; simp [Addr.add]
      case c2 => intro u hu; simp at hu; subst hu; rfl
      case c3 => unfold maxLen; omega
      case c4 => omega
      case c5 => simp; omega
      intro v2 w2 hown2 hgrow2 _ hat2
      obtain ⟨g2, c2, rfl⟩ := ownsRow_succ hown2
      have HN := Lib.hid (HST.out _ w2 _ hown2 hgrow2 (by simpa using hat2))
      clear hown2 hgrow2 hat2
      go_wp2
      go_roundw
      case rel => exact ⟨k + 1, by omega, by go_num, _, _, rfl, HN⟩
      case measure => simp [intOf]; omega
    · obtain rfl : k = l.length := by omega
      have hR' := hR.out
      rw [List.take_length] at hR'
      have HR := Lib.hid hR'
      clear hR hR'
      go_wp2
      go_ret2
      exact ⟨_, rfl, HR.out.out, HR.out.below⟩
end Go.Proofs.Ytdkacdfhapgboaa

/- A slice of the call's own that need not begin at its row's head (behind x = x[1:]): words and laws. One cell an element. -/
set_option linter.unusedVariables false
set_option linter.unusedSimpArgs false
namespace Go.Proofs.Ytdkacdfhapgboaa
open Go.RowKit

/-- The block that a slice shows. -/
def blk : Value → Option Nat
  | .slice (some a) _ _ => some a.block
  | _ => none
structure OwnW (W : World) (B : Nat) (e : TypeId) (v : Value) (xs : List Value) : Prop where
  shape : (v = .slice none 0 0 ∧ xs = []) ∨ ∃ g off c cur, v = .slice (some ⟨g, off, none⟩) xs.length c ∧ B ≤ g ∧ W.heap[g]? = some (.cells cur e (0, 0)) ∧ xs.length ≤ c ∧ off + c ≤ cur.size ∧ c ≤ maxLen ∧ (cur.toList.drop off).take xs.length = xs
theorem OwnW.of_own {W : World} {B n : Nat} {e : TypeId} {v : Value} {xs : List Value} (h : W.ownsRow B e 1 v n xs) : OwnW W B e v xs := by
  have hl := h.1
  rw [Nat.mul_one] at hl
  subst hl
  rcases h.2 with ⟨h1, h2⟩ | ⟨g, cap, cur, h1, hb, hh, h2, h3, h4, h5⟩
  · exact ⟨.inl ⟨h1, List.eq_nil_of_length_eq_zero h2⟩⟩
  · exact ⟨.inr ⟨g, 0, cap, cur, h1, hb, hh, h2, by omega, h3, by rw [List.drop_zero]; rw [Nat.mul_one] at h5; exact h5⟩⟩
theorem OwnW.nil (W : World) (B : Nat) (e : TypeId) : OwnW W B e (.slice none 0 0) [] := ⟨.inl ⟨rfl, rfl⟩⟩
theorem OwnW.lt {W : World} {B : Nat} {e : TypeId} {v : Value} {xs : List Value} (h : OwnW W B e v xs) : ∀ k, blk v = some k → B ≤ k ∧ k < W.heap.size := by
  intro k hk
  rcases h.shape with ⟨rfl, _⟩ | ⟨g, off, c, cur, rfl, hb, hh, _⟩
  · simp [blk] at hk
  · have e : g = k := by simpa [blk] using hk
    subst e
    exact ⟨hb, (Array.getElem?_eq_some_iff.1 hh).1⟩
theorem OwnW.upd {F : Nat → Prop} {W W' : World} {B : Nat} {e : TypeId} {v : Value} {xs : List Value} (h : OwnW W B e v xs) (hu : Upd F W W') (hn : ∀ k, blk v = some k → ¬ F k) : OwnW W' B e v xs := by
  rcases h.shape with h0 | ⟨g, off, c, cur, rfl, hb, hh, rest⟩
  · exact ⟨.inl h0⟩
  · exact ⟨.inr ⟨g, off, c, cur, rfl, hb, by rw [hu.block g (Array.getElem?_eq_some_iff.1 hh).1 (hn g rfl)]; exact hh, rest⟩⟩
theorem OwnW.drewN {W : World} {B : Nat} {e : TypeId} {v : Value} {xs : List Value} (h : OwnW W B e v xs) (q : Nat) : OwnW (W.drewN q) B e v xs := ⟨h.shape⟩
theorem OwnW.base {W : World} {B B' : Nat} {e : TypeId} {v : Value} {xs : List Value} (h : OwnW W B e v xs) (hB : ∀ k, blk v = some k → B' ≤ k) : OwnW W B' e v xs := by
  rcases h.shape with h0 | ⟨g, off, c, cur, rfl, hb, rest⟩
  · exact ⟨.inl h0⟩
  · exact ⟨.inr ⟨g, off, c, cur, rfl, hB g rfl, rest⟩⟩
theorem OwnW.ne {W : World} {B b : Nat} {e t : TypeId} {v : Value} {xs : List Value} {a : Array Value} (h : OwnW W B e v xs) (hb : W.heap[b]? = some (.cells a t (0, 0))) (hte : t ≠ e) : blk v ≠ some b := by
  intro hk
  rcases h.shape with ⟨rfl, _⟩ | ⟨g, off, c, cur, rfl, _, hh, _⟩
  · simp [blk] at hk
  · have e2 : g = b := by simpa [blk] using hk
    subst e2
    rw [hb] at hh
    simp at hh
    exact hte hh.2
/-- It is a slice of its length. -/
theorem OwnW.slice {W : World} {B : Nat} {e : TypeId} {v : Value} {xs : List Value} (h : OwnW W B e v xs) : ∃ A c, v = .slice A xs.length c ∧ xs.length ≤ c ∧ (A = none → c = 0) ∧ Rd W A xs.length 1 xs := by
  rcases h.shape with ⟨rfl, rfl⟩ | ⟨g, off, c, cur, rfl, hb, hh, h1, h2, h3, h4⟩
  · exact ⟨none, 0, rfl, Nat.le_refl _, fun _ => rfl, by simp, by simp, fun j hj => absurd hj (by simp)⟩
  · refine ⟨_, c, rfl, h1, (fun e => nomatch e), by simp, by simp only [maxLen] at h3; omega, fun j hj => ⟨_, rfl, ?_⟩⟩
    have e1 : (⟨g, off, none⟩ : Addr).add j = ⟨g, off + j, none⟩ := by unfold Addr.add; split <;> simp_all
    rw [e1]
    have e2 : cur.toList[off + j]? = some xs[j] := by
      have : ((cur.toList.drop off).take xs.length)[j]? = some xs[j] := by rw [h4]; exact List.getElem?_eq_getElem hj
      rw [List.getElem?_take, if_pos hj, List.getElem?_drop] at this
      exact this
    simp only [World.cell?, hh]
    simpa using e2
/-- The first m. -/
theorem OwnW.take {W : World} {B g off c : Nat} {e : TypeId} {xs : List Value} (h : OwnW W B e (.slice (some ⟨g, off, none⟩) xs.length c) xs) (m : Nat) (hm : m ≤ xs.length) : OwnW W B e (.slice (some ⟨g, off, none⟩) m c) (xs.take m) := by
  rcases h.shape with ⟨h0, _⟩ | ⟨g', off', c', cur, h0, hb, hh, h1, h2, h3, h4⟩
  · simp at h0
  · simp only [Value.slice.injEq, Option.some.injEq, Addr.mk.injEq, and_true, true_and] at h0
    obtain ⟨⟨rfl, rfl⟩, rfl⟩ := h0
    have hl : (xs.take m).length = m := by rw [List.length_take]; omega
    refine ⟨.inr ⟨g, off, c, cur, by rw [hl], hb, hh, by omega, h2, h3, ?_⟩⟩
    rw [hl, ← h4, List.take_take, Nat.min_eq_left hm]
/-- All but the first. -/
theorem OwnW.tail {W : World} {B g off c : Nat} {e : TypeId} {x : Value} {xs : List Value} (h : OwnW W B e (.slice (some ⟨g, off, none⟩) (xs.length + 1) c) (x :: xs)) : OwnW W B e (.slice (some ⟨g, off + 1, none⟩) xs.length (c - 1)) xs := by
  rcases h.shape with ⟨h0, _⟩ | ⟨g', off', c', cur, h0, hb, hh, h1, h2, h3, h4⟩
  · simp at h0
  · simp only [Value.slice.injEq, Option.some.injEq, Addr.mk.injEq, and_true, true_and] at h0
    obtain ⟨⟨rfl, rfl⟩, _, rfl⟩ := h0
    rw [List.length_cons] at h1 h4
    refine ⟨.inr ⟨g, off + 1, c - 1, cur, rfl, hb, hh, by omega, by omega, by omega, ?_⟩⟩
    have := congrArg (List.drop 1) h4
    rw [List.drop_take, List.drop_drop] at this
    simpa using this
/-- Append of one. -/
theorem run_append_win {P : Program} {W : World} {B q : Nat} {t ty e : TypeId} {i : TypeInfo} {z : Value} {bytes : Nat} (ht : P.underlying t = some (.slice e)) (hi : P.info? e = some i) (hz : i.zero = some z) (hsize : i.size = 1) (hby : i.bytes = bytes) (hzs : z.cells.size = 1)
    {v : Value} {xs : List Value} {x : Value} (h : OwnW W B e v xs) (hB : B ≤ W.heap.size) (hq : W.cell? ⟨q, 0, none⟩ = some x) (h1 : x.oneCell' = true) (h63 : xs.length + 1 ≤ maxLen) (hbytes : (xs.length + 1) * bytes ≤ 140737488355328) :
    ∃ v' W', (Builtin.append_ #[t, t] ty #[v, .slice (some ⟨q, 0, none⟩) 1 1]).run P W = .ok v' W' ∧ OwnW W' B e v' (xs ++ [x]) ∧ Upd (fun k => blk v = some k) W W' ∧ (blk v' = blk v ∨ ∃ k, blk v' = some k ∧ W.heap.size ≤ k) := by
  have hnews : ∀ j u, [x][j]? = some u → W.cell? ((⟨q, 0, none⟩ : Addr).add j) = some u := fun j u hu => by
    match j, hu with
    | 0, hu => simp at hu; subst hu; exact hq
  have h1' : ∀ u ∈ [x], u.oneCell' = true := fun u hu => by simp at hu; subst hu; exact h1
  rcases h.shape with ⟨rfl, rfl⟩ | ⟨g, off, c, cur, rfl, hb, hh, k1, k2, k3, k4⟩
  · obtain ⟨v', W', hr, ho, hg, _⟩ := run_append_own (P := P) W W.heap.size t ty e i z 1 bytes ht hi hz hsize hby hzs (by omega) (.slice none 0 0) 0 [] (World.ownsRow_nil _ _ _ _) ⟨q, 0, none⟩ 1 1 [x] (by simp) hnews h1' (by unfold maxLen; omega) (by simpa using hbytes) (Nat.le_refl _)
    have ho' := OwnW.of_own ho
    refine ⟨v', W', hr, ?_, (Upd.of_grown hg).mono fun k hk => by simp [Value.ownBlock] at hk, ?_⟩
    · exact ho'.base fun k hk => Nat.le_trans hB (ho'.lt k hk).1
    · cases e : blk v' with
      | none => exact .inl rfl
      | some k => exact .inr ⟨k, rfl, (ho'.lt k e).1⟩
  · by_cases hroom : xs.length + 1 ≤ c
    · have hr := run_append_room_cells (P := P) W t ty e i ht hi g off xs.length c ⟨q, 0, none⟩ 1 1 [x] (by simp [hsize]) hnews h1' hroom
        (fun j hj => by
          have : j = 0 := by simpa using hj
          subst this
          simp only [World.cell?, hh, hsize]
          simp
          omega)
        (fun j hj => by simp [World.frozen?, hh])
      refine ⟨_, _, hr, ?_, Upd.setCell W ⟨g, off + xs.length * i.size + 0, none⟩ _ |>.mono fun k hk => by simp [blk]; exact hk.symm, .inl rfl⟩
      rw [hsize, Nat.mul_one]
      have hs : (W.setCell ⟨g, off + xs.length, none⟩ x).heap[g]? = _ := set1_heap hh (off + xs.length) x
      refine ⟨.inr ⟨g, off, c, _, by simp, hb, hs, by simpa using hroom, by simpa using k2, k3, ?_⟩⟩
      have hsz : off + xs.length < cur.toList.length := by simp; omega
      simp only [Array.toList_setIfInBounds, List.length_append, List.length_cons, List.length_nil]
      rw [List.drop_set, if_neg (by omega), Nat.add_sub_cancel_left, List.take_add_one, List.take_set_of_le (by omega), k4]
      rw [List.getElem?_set_self (by simp; omega)]
      rfl
    · obtain ⟨v', W', hr, ho, hg⟩ := run_append_arg_grows (P := P) W t ty e i z 1 bytes ht hi hz hsize hby hzs (by omega) ⟨g, off, none⟩ xs.length c xs (by simp) (fun j u hu => by
          obtain ⟨A, c', e1, _, _, hrd⟩ := h.slice
          cases e1
          obtain ⟨hj, rfl⟩ := List.getElem?_eq_some_iff.1 hu
          obtain ⟨ad, e2, hc⟩ := hrd.cell j hj
          cases e2
          exact hc) ⟨q, 0, none⟩ 1 1 [x] (by simp) hnews (by omega) h63 hbytes
      have ho' := OwnW.of_own ho
      refine ⟨v', W', hr, ho'.base fun k hk => Nat.le_trans hB (ho'.lt k hk).1, (Upd.of_grown hg).mono (fun k hk => nomatch hk), ?_⟩
      cases e : blk v' with
      | none =>
        rcases ho'.shape with ⟨_, h0⟩ | ⟨g', off', c', cur', rfl, _⟩
        · simp at h0
        · simp [blk] at e
      | some k => exact .inr ⟨k, rfl, (ho'.lt k e).1⟩
end Go.Proofs.Ytdkacdfhapgboaa

/- (*sim.predictor).train on a predictor that the call owns. -/
set_option linter.unusedVariables false
set_option linter.unusedSimpArgs false
namespace Go.Proofs.Ytdkacdfhapgboaa
open Go.RowKit

/-- A predictor in its box, with rows of its own. -/
structure OwnP (W : World) (B b : Nat) (t h r : Int) (g c : Nat) (cs : List Int) (hist : Int) (v : Value) (rs : List Int) : Prop where
  box : W.heap[b]? = some (.cells #[.int .i64 t, .int .i64 h, .int .i64 r, .slice (some ⟨g, 0, none⟩) cs.length c, .int .u32 hist, v] 104 (0, 0))
  cnt : W.ownsRow B 3 1 (.slice (some ⟨g, 0, none⟩) cs.length c) cs.length (nums .i64 cs)
  ret : OwnW W B 30 v (nums .u32 rs)
  ge : B ≤ b

def trainC (old : Int) (taken : Bool) : Int := match taken with | true => min (old + 1) 3 | false => max (old - 1) 0
def trainH (h : Int) (hist : Int) (taken : Bool) : Int :=
  let m : Int := 2 ^ h.toNat
  let h1 := IntKind.u32.wrap (hist * 2) % m
  match taken with | true => bits .or .u32 h1 (1 % m) | false => h1
def trainR (old : Int) (taken : Bool) : Bool := decide (2 ≤ old) == taken

theorem OwnP.drewN {W : World} {B b : Nat} {t h r : Int} {g c : Nat} {cs : List Int} {hist : Int} {v : Value} {rs : List Int} (H : OwnP W B b t h r g c cs hist v rs) (q : Nat) : OwnP (W.drewN q) B b t h r g c cs hist v rs :=
  ⟨H.box, H.cnt, H.ret.drewN q, H.ge⟩
theorem OwnP.gne {W : World} {B b : Nat} {t h r : Int} {g c : Nat} {cs : List Int} {hist : Int} {v : Value} {rs : List Int} (H : OwnP W B b t h r g c cs hist v rs) : g ≠ b ∧ blk v ≠ some b ∧ blk v ≠ some g := by
  refine ⟨fun e => own_ne H.cnt H.box (by decide) (by rw [e]; rfl), H.ret.ne H.box (by decide), fun e => ?_⟩
  obtain ⟨cur, _, hh, _⟩ := own_open H.cnt
  exact H.ret.ne hh (by decide) e
/-- A new history. -/
theorem OwnP.setHist {W : World} {B b : Nat} {t h r : Int} {g c : Nat} {cs : List Int} {hist : Int} {v : Value} {rs : List Int} (H : OwnP W B b t h r g c cs hist v rs) (x : Int) : OwnP (W.setCell ⟨b, 4, none⟩ (.int .u32 x)) B b t h r g c cs x v rs := by
  obtain ⟨n1, n2, n3⟩ := H.gne
  have hu : Upd (fun k => k = b) W (W.setCell ⟨b, 4, none⟩ (.int .u32 x)) := Upd.setCell W ⟨b, 4, none⟩ _
  refine ⟨set1_heap H.box 4 _, own_upd H.cnt hu fun k hk e => ?_, H.ret.upd hu fun k hk e => n2 (e ▸ hk), H.ge⟩
  have e2 : g = k := by simpa [Value.ownBlock] using hk
  exact n1 (e2.trans e)
/-- A new counter. -/
theorem OwnP.setCnt {W : World} {B b : Nat} {t h r : Int} {g c : Nat} {cs : List Int} {hist : Int} {v : Value} {rs : List Int} (H : OwnP W B b t h r g c cs hist v rs) (i : Nat) (x : Int) : OwnP (W.setCell ⟨g, i, none⟩ (.int .i64 x)) B b t h r g c (cs.set i x) hist v rs := by
  obtain ⟨n1, n2, n3⟩ := H.gne
  have hu : Upd (fun k => k = g) W (W.setCell ⟨g, i, none⟩ (.int .i64 x)) := Upd.setCell W ⟨g, i, none⟩ _
  have h1 := (H.cnt.stored i (.int .i64 x)).1
  have e : (nums .i64 cs).set i (.int .i64 x) = nums .i64 (cs.set i x) := by simp [nums, List.map_set]
  rw [e] at h1
  refine ⟨?_, by simpa using h1, H.ret.upd hu fun k hk e => n3 (e ▸ hk), H.ge⟩
  rw [hu.block b (Array.getElem?_eq_some_iff.1 H.box).1 (fun e => n1 e.symm), List.length_set]
  exact H.box

theorem pow_u32 (h : Nat) (hh : h ≤ 12) : ∃ m : Int, IntKind.u32.wrap ((2 : Int) ^ h) = m ∧ m = 2 ^ h ∧ 1 ≤ m ∧ m ≤ 4096 := by
  obtain ⟨m, hm⟩ : ∃ m : Nat, m = 2 ^ h := ⟨_, rfl⟩
  have h4 : m ≤ 4096 := by rw [hm]; have := Nat.pow_le_pow_right (show 0 < 2 by omega) hh; simpa using this
  have h5 : 1 ≤ m := by rw [hm]; exact Nat.one_le_two_pow
  have e : (2 : Int) ^ h = (m : Int) := by rw [hm]; simp
  rw [e]
  exact ⟨m, by rw [IntKind.wrap_u32]; omega, rfl, by omega, by omega⟩

set_option pp.maxSteps 100000 in
attribute [local irreducible] World.setCell in
set_option maxRecDepth 100000 in
set_option maxHeartbeats 1000000 in
theorem train_any (B b : Nat) (t r : Int) (h : Nat) (g c : Nat) (cs : List Int) (hist : Int) (v : Value) (rs : List Int) (pc : Int) (taken : Bool) (w : World) (H : OwnP w B b t h r g c cs hist v rs)
    (hh : h ≤ 12) (hn : 1 ≤ cs.length) (hp : 0 ≤ pc ∧ pc < 4294967296) (hi : 0 ≤ hist ∧ hist < 4294967296) (hcs : ∀ x ∈ cs, 0 ≤ x ∧ x ≤ 3) :
    Calls Try.prog 50 #[.pointer (some ⟨b, 0, none⟩), .int .u32 pc, .bool taken] w fun e w' =>
      e = .returned (.bool (trainR (gi cs (ctrI pc hist cs.length).toNat) taken)) ∧ OwnP w' B b t h r g c (cs.set (ctrI pc hist cs.length).toNat (trainC (gi cs (ctrI pc hist cs.length).toNat) taken)) (trainH h hist taken) v rs ∧ Upd (fun k => k = b ∨ k = g) w w' := by
  obtain ⟨y1, y2⟩ := ctrI_range pc hist cs.length hn
  obtain ⟨i, hi'⟩ : ∃ i, i = (ctrI pc hist cs.length).toNat := ⟨_, rfl⟩
  have hil : i < cs.length := by omega
  have hlen := H.cnt.1
  have hcap := own_caps H.cnt
  obtain ⟨m, hm1, hm2, m1, m2⟩ := pow_u32 h hh
  obtain ⟨x, hx⟩ : ∃ x, IntKind.u32.wrap (hist * 2) = x := ⟨_, rfl⟩
  have hx12 : 0 ≤ x ∧ x < 4294967296 := by rw [← hx, IntKind.wrap_u32]; omega
  obtain ⟨x1, x2⟩ := hx12
  have hm0 : ¬ m = 0 := by omega
  obtain ⟨z, hz⟩ : ∃ z, x % m = z := ⟨_, rfl⟩
  have hz12 : 0 ≤ z ∧ z < m := hz ▸ ⟨Int.emod_nonneg _ hm0, Int.emod_lt_of_pos _ (by omega)⟩
  obtain ⟨z1, z2⟩ := hz12
  have ht1 : x.tmod m = z := by rw [Int.tmod_eq_emod_of_nonneg x1, hz]
  have ht2 : IntKind.u32.wrap z = z := by rw [IntKind.wrap_u32]; omega
  obtain ⟨old, ho⟩ : ∃ old, old = gi cs i := ⟨_, rfl⟩
  obtain ⟨o1, o2⟩ := hcs _ (gi_mem cs i hil)
  rw [← ho] at o1 o2
  obtain ⟨c0, c1, c2, c3, c4, c5, df⟩ := box6 H.box
  rw [← hi', ← ho]
  have HH := Lib.hid H
  have HI := Lib.hid hi'.symm
  have HM := Lib.hid hm2
  have HX := Lib.hid hx
  have HZ := Lib.hid hz
  have HO := Lib.hid ho
  clear hi' hcs H ho c0 c1 c2 c5 df hm2 hz
  go_enter Try.func50, Try.ntmps50
  go_wp2_with fail
  refine (counter_any b ⟨g, 0, none⟩ cs.length c pc hist hn hp w c3 c4 (by omega)).mono ?_
  rintro e V ⟨rfl, q, rfl⟩
  have e3 : (⟨g, 0, none⟩ : Addr).add (ctrI pc hist cs.length).toNat = ⟨g, i, none⟩ := by rw [HI.out]; unfold Addr.add; split <;> simp_all
  rw [e3]
  obtain ⟨V, hV⟩ : ∃ V, w.drewN q = V := ⟨_, rfl⟩
  have HV : OwnP V B b t h r g c cs hist v rs := hV ▸ HH.out.drewN q
  have hu0 : Upd (fun k => k = b ∨ k = g) w V := hV ▸ Upd.drewN _ _ _
  obtain ⟨c0, c1, c2, c3, c4, c5, df⟩ := box6 HV.box
  have cg : V.cell? ⟨g, i, none⟩ = some (.int .i64 old) := by
    rw [HV.cnt.cellAt i (by omega), List.getElem?_eq_getElem (by simp; omega), nums_get, ← HO.out]
  have fg : V.frozen? ⟨g, i, none⟩ = false := HV.cnt.frozenAt i
  have HV' := Lib.hid HV
  rw [hV]
  clear HV hV e3 HH
  obtain ⟨V2, hV2⟩ : ∃ V2, V.drew = V2 := ⟨_, rfl⟩
  have HD : OwnP V2 B b t h r g c cs hist v rs := hV2 ▸ HV'.out.drewN 1
  obtain ⟨W3, hW3⟩ : ∃ W3, V2.setCell ⟨b, 4, none⟩ (.int .u32 z) = W3 := ⟨_, rfl⟩
  have H3 : OwnP W3 B b t h r g c cs z v rs := hW3 ▸ HD.setHist z
  have hu3 : Upd (fun k => k = b ∨ k = g) w W3 := by
    rw [← hW3, ← hV2]
    exact (hu0.trans (Upd.drew (fun k => k = b ∨ k = g) V) fun k h => .inl h).set (.inl rfl) 4 _
  obtain ⟨_, _, _, _, d4, _, df2⟩ := box6 HD.box
  obtain ⟨a0, a1, a2, a3, a4, a5, af⟩ := box6 H3.box
  have ag : W3.cell? ⟨g, i, none⟩ = some (.int .i64 old) := by
    rw [H3.cnt.cellAt i (by omega), List.getElem?_eq_getElem (by simp; omega), nums_get, ← HO.out]
  have agf : W3.frozen? ⟨g, i, none⟩ = false := H3.cnt.frozenAt i
  have H3' := Lib.hid H3
  have U3 := Lib.hid hu3
  clear HD H3 hu3 hu0
  have hH : trainH h hist false = z := by unfold trainH; simp [hx, ← HM.out, HZ.out]
  have hclose : ∀ x, trainC old taken = x → taken = false → OwnP (W3.setCell ⟨g, i, none⟩ (.int .i64 x)) B b t h r g c (cs.set i (trainC old taken)) (trainH h hist taken) v rs ∧ Upd (fun k => k = b ∨ k = g) w (W3.setCell ⟨g, i, none⟩ (.int .i64 x)) := fun x hx ht => by
    subst hx ht
    rw [hH]
    exact ⟨H3'.out.setCnt i _, U3.out.set (.inr rfl) i _⟩
  have HCL := Lib.hid hclose
  clear hclose hH
  have ho4 : old = 0 ∨ old = 1 ∨ old = 2 ∨ old = 3 := by omega
  cases taken
  · rcases ho4 with rfl | rfl | rfl | rfl
    all_goals
      go_wp2_with fail
      go_still_tail 18, (by kernel_rfl)
      change wpList _ _ _ _ _ V.drew
      rw [hV2]
      go_wp2
      go_ret
      exact ⟨rfl, HCL.out _ rfl (by trivial)⟩
  · clear HCL
    obtain ⟨y, hy⟩ : ∃ y, (1 : Int) % m = y := ⟨_, rfl⟩
    have hy1 : (1 : Int).tmod m = y := by rw [Int.tmod_eq_emod_of_nonneg (by omega), hy]
    have hy12 : 0 ≤ y ∧ y < m := hy ▸ ⟨Int.emod_nonneg _ hm0, Int.emod_lt_of_pos _ (by omega)⟩
    obtain ⟨y3, y4⟩ := hy12
    have hy2 : IntKind.u32.wrap y = y := by rw [IntKind.wrap_u32]; omega
    obtain ⟨u, hu⟩ : ∃ u, bits .or .u32 z y = u := ⟨_, rfl⟩
    have hH : Hid (trainH h hist true = u) := Lib.hid (by unfold trainH; simp [hx, ← HM.out, HZ.out, hy, hu])
    have hW : ∀ xx, ∃ W4 W5 W6, W3.setCell ⟨g, i, none⟩ (.int .i64 xx) = W4 ∧ W4.drew = W5 ∧ W5.setCell ⟨b, 4, none⟩ (.int .u32 u) = W6 ∧ W4.cell? ⟨b, 1, none⟩ = some (.int .i64 h) ∧ W4.cell? ⟨b, 4, none⟩ = some (.int .u32 z) ∧ W5.cell? ⟨b, 4, none⟩ = some (.int .u32 z) ∧ W5.cell? ⟨b, 1, none⟩ = some (.int .i64 h) ∧ W5.frozen? ⟨b, 4, none⟩ = false ∧
        Hid (OwnP W6 B b t h r g c (cs.set i xx) u v rs ∧ Upd (fun k => k = b ∨ k = g) w W6) := fun xx => by
      have P4 := H3'.out.setCnt i xx
      have P5 := P4.drewN 1
      have U6 : Upd (fun k => k = b ∨ k = g) w (((W3.setCell ⟨g, i, none⟩ (.int .i64 xx)).drew).setCell ⟨b, 4, none⟩ (.int .u32 u)) := ((U3.out.set (.inr rfl) i _).trans (Upd.drew (fun k => k = b ∨ k = g) _) fun k h => .inl h).set (.inl rfl) 4 _
      obtain ⟨_, p1, _, _, p4, _, _⟩ := box6 P4.box
      obtain ⟨_, p51, _, _, p5, _, pf⟩ := box6 P5.box
      exact ⟨_, _, _, rfl, rfl, rfl, p1, p4, p5, p51, pf 4, Lib.hid ⟨P5.setHist u, U6⟩⟩
    have HW := Lib.hid hW
    clear hW hy
    rcases ho4 with rfl | rfl | rfl | rfl
    · obtain ⟨W4, W5, W6, w1, w2, w3, w4, w5, w6, w61, w7, w8⟩ := HW.out 1
      go_wp2_with fail
      go_still_tail 18, (by kernel_rfl)
      change wpList _ _ _ _ _ V.drew
      rw [hV2]
      go_wp2
      go_still_tail 17, (by kernel_rfl)
      try change wpList _ _ _ _ _ W4.drew
      try rw [w2]
      go_wp2
      go_ret
      exact ⟨rfl, by rw [hH.out]; exact w8.out⟩
    · obtain ⟨W4, W5, W6, w1, w2, w3, w4, w5, w6, w61, w7, w8⟩ := HW.out 2
      go_wp2_with fail
      go_still_tail 18, (by kernel_rfl)
      change wpList _ _ _ _ _ V.drew
      rw [hV2]
      go_wp2
      go_still_tail 17, (by kernel_rfl)
      try change wpList _ _ _ _ _ W4.drew
      try rw [w2]
      go_wp2
      go_ret
      exact ⟨rfl, by rw [hH.out]; exact w8.out⟩
    · obtain ⟨W4, W5, W6, w1, w2, w3, w4, w5, w6, w61, w7, w8⟩ := HW.out 3
      go_wp2_with fail
      go_still_tail 18, (by kernel_rfl)
      change wpList _ _ _ _ _ V.drew
      rw [hV2]
      go_wp2
      go_still_tail 17, (by kernel_rfl)
      try change wpList _ _ _ _ _ W4.drew
      try rw [w2]
      go_wp2
      go_ret
      exact ⟨rfl, by rw [hH.out]; exact w8.out⟩
    · obtain ⟨W4, W5, W6, w1, w2, w3, w4, w5, w6, w61, w7, w8⟩ := HW.out 3
      go_wp2_with fail
      go_still_tail 18, (by kernel_rfl)
      change wpList _ _ _ _ _ V.drew
      rw [hV2]
      go_wp2
      go_still_tail 17, (by kernel_rfl)
      try change wpList _ _ _ _ _ W4.drew
      try rw [w2]
      go_wp2
      go_ret
      exact ⟨rfl, by rw [hH.out]; exact w8.out⟩
end Go.Proofs.Ytdkacdfhapgboaa

/- (*sim.predictor).call and .ret on a predictor that the call owns. -/
set_option linter.unusedVariables false
set_option linter.unusedSimpArgs false
namespace Go.Proofs.Ytdkacdfhapgboaa
open Go.RowKit

/-- The return stack behind a call. -/
def callL (r : Int) (rs : List Int) (a : Int) : List Int := match decide (r < ((rs ++ [a]).length : Int)) with | true => (rs ++ [a]).drop 1 | false => rs ++ [a]

/-- A new slice of returns is stored. -/
theorem OwnP.setRet {W W' : World} {B b : Nat} {t h r : Int} {g c : Nat} {cs : List Int} {hist : Int} {v v' : Value} {rs rs' : List Int} (H : OwnP W B b t h r g c cs hist v rs) (hu : Upd (fun k => blk v = some k) W W')
    (ho : OwnW W' B 30 v' (nums .u32 rs')) : OwnP (W'.setCell ⟨b, 5, none⟩ v') B b t h r g c cs hist v' rs' ∧ W'.heap[b]? = W.heap[b]? := by
  obtain ⟨n1, n2, n3⟩ := H.gne
  have hbb : W'.heap[b]? = W.heap[b]? := hu.block b (Array.getElem?_eq_some_iff.1 H.box).1 n2
  have hbx := hbb.trans H.box
  have hs : Upd (fun k => k = b) W' (W'.setCell ⟨b, 5, none⟩ v') := Upd.setCell W' ⟨b, 5, none⟩ _
  refine ⟨⟨set1_heap hbx 5 _, own_upd (own_upd H.cnt hu fun k hk e => ?_) hs fun k hk e => ?_, ho.upd hs fun k hk e => ho.ne hbx (by decide) (e ▸ hk), H.ge⟩, hbb⟩
  · have e2 : g = k := by simpa [Value.ownBlock] using hk
    exact n3 (e2 ▸ e)
  · have e2 : g = k := by simpa [Value.ownBlock] using hk
    exact n1 (e2.trans e)

theorem OwnW.none0 {W : World} {B g off c n : Nat} {e : TypeId} {xs : List Value} (h : OwnW W B e (.slice (some ⟨g, off, none⟩) n c) xs) : OwnW W B e (.slice (some ⟨g, off, none⟩) 0 0) [] := by
  rcases h.shape with ⟨h0, _⟩ | ⟨g', off', c', cur, h0, hb, hh, h1, h2, h3, h4⟩
  · simp at h0
  · simp only [Value.slice.injEq, Option.some.injEq, Addr.mk.injEq, and_true, true_and] at h0
    obtain ⟨⟨rfl, rfl⟩, _, rfl⟩ := h0
    exact ⟨.inr ⟨g, off, 0, cur, rfl, hb, hh, Nat.le_refl _, by omega, by simp [maxLen], rfl⟩⟩

attribute [local irreducible] World.setCell in
set_option maxRecDepth 100000 in
set_option maxHeartbeats 1000000 in
theorem call_any (B b : Nat) (t h r : Int) (g c : Nat) (cs : List Int) (hist : Int) (v : Value) (rs : List Int) (a : Int) (w : World) (H : OwnP w B b t h r g c cs hist v rs) (hB : B ≤ w.heap.size) (hl : rs.length ≤ 1000) :
    Calls Try.prog 52 #[.pointer (some ⟨b, 0, none⟩), .int .u32 a] w fun e w' => e = .returned (.tuple #[]) ∧ ∃ v', OwnP w' B b t h r g c cs hist v' (callL r rs a) ∧ Upd (fun k => k = b ∨ blk v = some k) w w' := by
  obtain ⟨A, cv, rfl, hcv, hA, _⟩ := H.ret.slice
  rw [nums_length] at H hcv ⊢
  obtain ⟨W0, hW0⟩ : ∃ W0, w.alloc (.cells #[.int .u32 a] 30) = W0 := ⟨_, rfl⟩
  have hu0 : ∀ F, Upd F w W0 := fun F => by rw [← hW0]; exact Upd.alloc _ _ _
  have H0 : OwnP W0 B b t h r g c cs hist (.slice A rs.length cv) rs :=
    ⟨by rw [(hu0 (fun _ => False)).block b (Array.getElem?_eq_some_iff.1 H.box).1 id]; exact H.box, own_upd H.cnt (hu0 (fun _ => False)) fun _ _ h => h, H.ret.upd (hu0 (fun _ => False)) fun _ _ h => h, H.ge⟩
  obtain ⟨i0, hi, hz0, hz1, hz2⟩ := info_parts info_u32
  have hqc : W0.cell? ⟨w.heap.size, 0, none⟩ = some (.int .u32 a) := by
    have := heap_alloc_new w (.cells #[.int .u32 a] 30)
    rw [← hW0]
    simp only [World.cell?, this]
    rfl
  obtain ⟨v', W1, hrun, ho1, hu1, hbk⟩ := run_append_win (P := Try.prog) (t := 22) (ty := 22) Try.underlying22 hi hz0 hz1 hz2 rfl H0.ret (by have := (hu0 (fun _ => False)).size; omega) hqc rfl (by simp [maxLen]; omega) (by simp; omega)
  have ho1' : OwnW W1 B 30 v' (nums .u32 (rs ++ [a])) := by rw [nums_append]; exact ho1
  obtain ⟨H2, hbb⟩ := H0.setRet hu1 ho1'
  obtain ⟨g2, off2, c', rfl, hc'⟩ : ∃ g2 off2 c', v' = .slice (some ⟨g2, off2, none⟩) (nums .u32 (rs ++ [a])).length c' ∧ (nums .u32 (rs ++ [a])).length ≤ c' := by
    rcases ho1'.shape with ⟨_, e⟩ | ⟨g2, off2, c', cur, e, _, _, e2, _⟩
    · simp [nums] at e
    · exact ⟨g2, off2, c', e, e2⟩
  have hln : (nums .u32 (rs ++ [a])).length = rs.length + 1 := by simp
  rw [hln] at H2 hc' hrun hbk
  obtain ⟨W2, hW2⟩ : ∃ W2, W1.setCell ⟨b, 5, none⟩ (.slice (some ⟨g2, off2, none⟩) (rs.length + 1) c') = W2 := ⟨_, rfl⟩
  rw [hW2] at H2
  obtain ⟨_, _, _, _, _, w5, _⟩ := box6 H.box
  obtain ⟨_, _, _, _, _, u5, uf⟩ := box6 (hbb.trans H0.box)
  obtain ⟨_, _, v2, _, _, v5, vf⟩ := box6 H2.box
  have hgb := H.gne
  have hu2 : Upd (fun k => k = b ∨ blk (.slice A rs.length cv) = some k) w W2 := by
    rw [← hW2]
    exact ((hu0 (fun k => k = b ∨ blk (.slice A rs.length cv) = some k)).trans hu1 fun k h => .inl (.inr h)).set (.inl rfl) 5 _
  have HH2 := Lib.hid H2
  have HU2 := Lib.hid hu2
  have HR := Lib.hid H2.ret
  clear H2 hu2 hu1 ho1 ho1' H0 H hbb hbk hu0 hqc
  by_cases hgt : r < (rs.length : Int) + 1
  · have hcl : callL r rs a = (rs ++ [a]).drop 1 := by unfold callL; rw [decide_eq_true (by simp; omega)]
    by_cases hc1 : c' = 1
    · subst hc1
      have hrs : rs = [] := List.eq_nil_of_length_eq_zero (by omega)
      have hrl : rs.length = 0 := by rw [hrs]; rfl
      have hnew : ∀ q, OwnP ((W2.drewN q).setCell ⟨b, 5, none⟩ (.slice (some ⟨g2, off2, none⟩) 0 0)) B b t h r g c cs hist (.slice (some ⟨g2, off2, none⟩) 0 0) (callL r rs a) := fun q => by
        rw [hcl, hrs]
        exact ((HH2.out.drewN q).setRet (Upd.refl _ _) (HR.out.drewN q).none0).1
      have HNEW := Lib.hid hnew
      clear hcl hnew hrs hrl
      go_enter Try.func52, Try.ntmps52
      go_wp2_with (at_builtin; refine wpList_append_eq (by rfl) (.tmp 9) (.tmp 11) 22 22 (by rfl) _ _ (by rfl) (by rfl) hrun ?_)
      go_wp2
      go_quiet (fail)
      go_wp2
      go_end0
      exact ⟨rfl, _, HNEW.out nq, ((HU2.out.trans (Upd.drewN (fun k => k = b ∨ blk (.slice A rs.length cv) = some k) _ nq) fun k h => .inl h).set (.inl rfl) 5 _)⟩
    · have hnew : ∀ q, OwnP ((W2.drewN q).setCell ⟨b, 5, none⟩ (.slice (some ⟨g2, off2 + 1, none⟩) rs.length (c' - 1))) B b t h r g c cs hist (.slice (some ⟨g2, off2 + 1, none⟩) rs.length (c' - 1)) (callL r rs a) := fun q => by
        rw [hcl]
        obtain ⟨y, ys, hy⟩ : ∃ y ys, rs ++ [a] = y :: ys := by
          cases h : rs ++ [a] with
          | nil => simp at h
          | cons y ys => exact ⟨y, ys, rfl⟩
        have hyl : ys.length = rs.length := by have := congrArg List.length hy; simp at this; omega
        have hr := HR.out.drewN q
        rw [hy] at hr ⊢
        have e1 : nums .u32 (y :: ys) = .int .u32 y :: nums .u32 ys := rfl
        have e2 : rs.length + 1 = (nums .u32 ys).length + 1 := by simp [hyl]
        rw [e1, e2] at hr
        have := hr.tail
        rw [nums_length, hyl] at this
        exact ((HH2.out.drewN q).setRet (Upd.refl _ _) this).1
      have HNEW := Lib.hid hnew
      have hc2 : ¬ 1 = c' := fun e => hc1 e.symm
      have hc3 : (1 : Int) ≤ (c' : Int) := by omega
      clear hcl hnew
      go_enter Try.func52, Try.ntmps52
      go_wp2_with (at_builtin; refine wpList_append_eq (by rfl) (.tmp 9) (.tmp 11) 22 22 (by rfl) _ _ (by rfl) (by rfl) hrun ?_)
      go_wp2
      go_quiet (fail)
      go_wp2
      go_end0
      exact ⟨rfl, _, HNEW.out nq, ((HU2.out.trans (Upd.drewN (fun k => k = b ∨ blk (.slice A rs.length cv) = some k) _ nq) fun k h => .inl h).set (.inl rfl) 5 _)⟩
  · have hcl : callL r rs a = rs ++ [a] := by unfold callL; rw [decide_eq_false (by simp; omega)]
    go_enter Try.func52, Try.ntmps52
    go_wp2_with (at_builtin; refine wpList_append_eq (by rfl) (.tmp 9) (.tmp 11) 22 22 (by rfl) _ _ (by rfl) (by rfl) hrun ?_)
    go_wp2
    go_quiet (fail)
    go_wp2
    go_end0
    refine ⟨rfl, _, by rw [hcl]; exact HH2.out.drewN nq, (HU2.out.trans (Upd.drewN (fun k => k = b ∨ blk (.slice A rs.length cv) = some k) _ nq) fun k h => .inl h)⟩
end Go.Proofs.Ytdkacdfhapgboaa

/- (*sim.predictor).ret on a predictor that the call owns. -/
set_option linter.unusedVariables false
set_option linter.unusedSimpArgs false
namespace Go.Proofs.Ytdkacdfhapgboaa
open Go.RowKit

/-- Whether a return is foreseen. -/
def retB (rs : List Int) (a : Int) : Bool := match rs.length with | 0 => false | n + 1 => gi rs n == a

attribute [local irreducible] World.setCell in
set_option maxRecDepth 100000 in
set_option maxHeartbeats 1000000 in
theorem ret_any (B b : Nat) (t h r : Int) (g c : Nat) (cs : List Int) (hist : Int) (v : Value) (rs : List Int) (a : Int) (w : World) (H : OwnP w B b t h r g c cs hist v rs) (hl : rs.length ≤ 1000) :
    Calls Try.prog 54 #[.pointer (some ⟨b, 0, none⟩), .int .u32 a] w fun e w' => e = .returned (.bool (retB rs a)) ∧ ∃ v', OwnP w' B b t h r g c cs hist v' rs.dropLast ∧ Upd (fun k => k = b ∨ blk v = some k) w w' ∧ (blk v' = none ∨ blk v' = blk v) := by
  obtain ⟨A, cv, rfl, hcv, hA, hrd⟩ := H.ret.slice
  obtain ⟨_, _, _, _, _, c5, df⟩ := box6 H.box
  have HH := Lib.hid H
  have HRD := Lib.hid hrd
  rw [nums_length] at c5 hcv ⊢
  cases hn : rs.length with
  | zero =>
    have hrs : rs = [] := List.eq_nil_of_length_eq_zero hn
    rw [hn] at c5
    clear H hrd
    go_enter Try.func54, Try.ntmps54
    go_wp2
    go_ret
    refine ⟨by rw [hrs]; rfl, _, by have := HH.out; rw [hrs] at this ⊢; exact this, Upd.refl _ _, .inr (by simp [blk])⟩
  | succ n =>
    rcases H.ret.shape with ⟨h0, h1⟩ | ⟨g2, off2, c2, cur, h0, _⟩
    · have := congrArg List.length h1; rw [nums_length, List.length_nil] at this; omega
    · cases h0
      obtain ⟨ad, e1, hc⟩ := RdI.at (xs := rs) (by have := HRD.out; rw [nums_length] at this; exact this) n (by omega)
      cases e1
      have hb : retB rs a = (gi rs n == a) := by unfold retB; rw [hn]
      have hdl : rs.dropLast = rs.take n := by rw [List.dropLast_eq_take, hn]; rfl
      have hret := H.ret
      have hlen2 : (nums .u32 rs).length = n + 1 := by rw [nums_length, hn]
      have ht := OwnW.take (xs := nums .u32 rs) (by exact hret) n (by omega)
      have e3 : (nums .u32 rs).take n = nums .u32 (rs.take n) := by simp [nums, List.map_take]
      rw [e3] at ht
      have hnew := (H.setRet (Upd.refl _ _) ht).1
      rw [← hdl] at hnew
      have HN := Lib.hid hnew
      obtain ⟨x, hx⟩ : ∃ x, gi rs n = x := ⟨_, rfl⟩
      rw [hx] at hc hb
      rw [hb]
      rw [hn] at c5 hcv
      have e4 : (⟨g2, off2, none⟩ : Addr).add n = ⟨g2, off2 + n, none⟩ := by unfold Addr.add; split <;> simp_all
      rw [e4] at hc
      have hc0 : n < cv := by omega
      have hc1 : (n : Int) < (n : Int) + 1 := by omega
      clear hnew ht hret H hrd e3 hdl hb
      cases hq : (x == a)
      all_goals
        go_enter Try.func54, Try.ntmps54
        go_wp2
        go_ret
        exact ⟨rfl, _, HN.out, (Upd.refl _ _).set (.inl rfl) 5 _, .inr rfl⟩
end Go.Proofs.Ytdkacdfhapgboaa

/- sim.ownedPred: a predictor in a box, with rows of its own. -/
set_option linter.unusedVariables false
set_option linter.unusedSimpArgs false
namespace Go.Proofs.Ytdkacdfhapgboaa
open Go.RowKit

/-- A predictor that is read. -/
structure RdP (w : World) (A : Option Addr) (c : Nat) (cs : List Int) (R : Option Addr) (rc : Nat) (rs : List Int) : Prop where
  cnt : RdI w .i64 A cs.length cs
  cnil : A = none → c = 0
  ccap : cs.length ≤ c
  ret : RdI w .u32 R rs.length rs
  rnil : R = none → rc = 0
  rcap : rs.length ≤ rc
theorem RdP.below {w w1 : World} {A R : Option Addr} {c rc : Nat} {cs rs : List Int} (h : RdP w A c cs R rc rs) (hb : Below w.heap.size w w1) : RdP w1 A c cs R rc rs :=
  ⟨Rd.below h.cnt hb, h.cnil, h.ccap, Rd.below h.ret hb, h.rnil, h.rcap⟩

theorem ownP_new {w X : World} {t h r hist : Int} {v3 v5 v1 v2 : Value} {cs rs : List Int} (hb : Below w.heap.size w X) (hx : X.heap[w.heap.size]? = some (.cells #[.int .i64 t, .int .i64 h, .int .i64 r, v3, .int .u32 hist, v5] 52 (0, 0)))
    (ho1 : X.ownsRow (w.heap.size + 1) 3 1 v1 cs.length (nums .i64 cs)) (ho2 : X.ownsRow (w.heap.size + 1) 30 1 v2 rs.length (nums .u32 rs)) (h1 : 1 ≤ cs.length) :
    ((X.setCell ⟨w.heap.size, 3, none⟩ v1).setCell ⟨w.heap.size, 5, none⟩ v2).heap[w.heap.size]? = some (.cells #[.int .i64 t, .int .i64 h, .int .i64 r, v1, .int .u32 hist, v2] 52 (0, 0)) ∧
      ∃ g c', v1 = .slice (some ⟨g, 0, none⟩) cs.length c' ∧ OwnP (((X.setCell ⟨w.heap.size, 3, none⟩ v1).setCell ⟨w.heap.size, 5, none⟩ v2).alloc (.cells #[.int .i64 t, .int .i64 h, .int .i64 r, v1, .int .u32 hist, v2] 104)) w.heap.size X.heap.size t h r g c' cs hist v2 rs ∧
        Below w.heap.size w (((X.setCell ⟨w.heap.size, 3, none⟩ v1).setCell ⟨w.heap.size, 5, none⟩ v2).alloc (.cells #[.int .i64 t, .int .i64 h, .int .i64 r, v1, .int .u32 hist, v2] 104)) := by
  have hu : Upd (fun k => k = w.heap.size) X ((X.setCell ⟨w.heap.size, 3, none⟩ v1).setCell ⟨w.heap.size, 5, none⟩ v2) := ((Upd.refl (fun k => k = w.heap.size) X).set rfl 3 v1).set rfl 5 v2
  have hsz : ((X.setCell ⟨w.heap.size, 3, none⟩ v1).setCell ⟨w.heap.size, 5, none⟩ v2).heap.size = X.heap.size := by simp [World.setCell]
  refine ⟨set1_heap (set1_heap hx 3 v1) 5 v2, ?_⟩
  rcases ho1.2 with ⟨_, e⟩ | ⟨g, c', cur, rfl, _⟩
  · omega
  · have ua : Upd (fun k => k = w.heap.size) X (((X.setCell ⟨w.heap.size, 3, none⟩ (.slice (some ⟨g, 0, none⟩) cs.length c')).setCell ⟨w.heap.size, 5, none⟩ v2).alloc (.cells #[.int .i64 t, .int .i64 h, .int .i64 r, .slice (some ⟨g, 0, none⟩) cs.length c', .int .u32 hist, v2] 104)) := hu.trans (Upd.alloc (fun _ => False) _ _) fun _ h => h.elim
    refine ⟨g, c', rfl, ⟨alloc_at _ _ _ hsz, own_base' (own_upd ho1 ua fun k hk e => ?_) fun k hk => ?_, ((OwnW.of_own ho2).upd ua fun k hk e => ?_).base fun k hk => ?_, by have := hb.size; omega⟩, hb.trans (ua.below hb.size fun k e => by omega)⟩
    · have := (ho1.lt k hk).1; omega
    · have := (ho1.lt k hk).1; omega
    · have := ((OwnW.of_own ho2).lt k hk).1; omega
    · have := ((OwnW.of_own ho2).lt k hk).1; omega

attribute [local irreducible] World.setCell in
set_option maxRecDepth 100000 in
set_option maxHeartbeats 1000000 in
theorem ownedPred_any (t h r : Int) (A R : Option Addr) (c rc : Nat) (cs rs : List Int) (hist : Int) (w : World) (H : RdP w A c cs R rc rs) (h1 : 1 ≤ cs.length) (h2 : cs.length ≤ 4096) (h3 : rs.length ≤ 1000) :
    Calls Try.prog 58 #[.agg #[.int .i64 t, .int .i64 h, .int .i64 r, .slice A cs.length c, .int .u32 hist, .slice R rs.length rc]] w fun e w' => ∃ b g c' v, e = .returned (.pointer (some ⟨b, 0, none⟩)) ∧ OwnP w' w.heap.size b t h r g c' cs hist v rs ∧ Below w.heap.size w w' := by
  obtain ⟨W0, hW0⟩ : ∃ W0, w.alloc (.cells #[.int .i64 t, .int .i64 h, .int .i64 r, .slice A cs.length c, .int .u32 hist, .slice R rs.length rc] 52) = W0 := ⟨_, rfl⟩
  have hb0 : Below w.heap.size w W0 := by rw [← hW0]; exact balloc w _
  have hx0 : W0.heap[w.heap.size]? = some (.cells #[.int .i64 t, .int .i64 h, .int .i64 r, .slice A cs.length c, .int .u32 hist, .slice R rs.length rc] 52 (0, 0)) := by rw [← hW0]; exact heap_alloc_new w _
  obtain ⟨c0, c1, c2, c3, c4, c5, df⟩ := box6 hx0
  have HC := Lib.hid (H.below hb0)
  have HX := Lib.hid hx0
  have hone1 : ∀ u ∈ nums .i64 cs, u.oneCell' = true := nums_one _ _
  have hone2 : ∀ u ∈ nums .u32 rs, u.oneCell' = true := nums_one _ _
  have H1 := Lib.hid hone1
  have H2 := Lib.hid hone2
  clear H hx0 hone1 hone2
  go_enter Try.func58, Try.ntmps58
  go_wp2_with fail
  have hbd : Below W0.heap.size W0 W0.drew := bdrewN (Below.refl _ _) 1
  have R0 := Lib.hid (HC.out.below hbd)
  go_region_with (first
    | (go_at_call 79; refine (clone_int _ _ _ _ W0.drew R0.out.cnt R0.out.cnil H1.out (by omega)).mono ?_; rintro e W1 ⟨v1, rfl, ho1, hb1⟩; obtain ⟨A1, a1, rfl, _⟩ := own_rd ho1; have HB1 := Lib.hid (hbd.trans (hb1.mono (Nat.le_refl _))); obtain ⟨p0, p1, p2, p3, p4, p5, pf⟩ := box6 (belowBox HB1.out HX.out))
    | (go_at_call 79; refine (clone_int _ _ _ _ W2 (HC.out.below HB2.out).cnt (HC.out.below HB2.out).cnil H1.out (by omega)).mono ?_; rintro e W1 ⟨v1, rfl, ho1, hb1⟩; obtain ⟨A1, a1, rfl, _⟩ := own_rd ho1; have HB1 := Lib.hid (HB2.out.trans (hb1.mono HB2.out.size)); obtain ⟨p0, p1, p2, p3, p4, p5, pf⟩ := box6 (belowBox HB1.out HX.out))
    | (go_at_call 19; refine (clone_u32 _ _ _ _ W0.drew R0.out.ret R0.out.rnil H2.out (by omega)).mono ?_; rintro e W2 ⟨v2, rfl, ho2, hb2⟩; obtain ⟨A2, a2, rfl, _⟩ := own_rd ho2; have HB2 := Lib.hid (hbd.trans (hb2.mono (Nat.le_refl _))); obtain ⟨q0, q1, q2, q3, q4, q5, qf⟩ := box6 (belowBox HB2.out HX.out))
    | (go_at_call 19; refine (clone_u32 _ _ _ _ W1 (HC.out.below HB1.out).ret (HC.out.below HB1.out).rnil H2.out (by omega)).mono ?_; rintro e W2 ⟨v2, rfl, ho2, hb2⟩; obtain ⟨A2, a2, rfl, _⟩ := own_rd ho2; have HB2 := Lib.hid (HB1.out.trans (hb2.mono HB1.out.size)); obtain ⟨q0, q1, q2, q3, q4, q5, qf⟩ := box6 (belowBox HB2.out HX.out)))
  all_goals
    have hsz0 : W0.drew.heap.size = w.heap.size + 1 := by
      show W0.heap.size = _
      rw [← hW0]; simp
    try rw [hsz0] at hb1
    try rw [hsz0] at hb2
    try rw [hsz0] at ho1
    try rw [hsz0] at ho2
    have hW1 := HB1.out.size
    have hW2 := HB2.out.size
    have hs0 : W0.heap.size = w.heap.size + 1 := hsz0
    have L := Lib.hid (ownP_new (t := t) (h := h) (r := r) (hist := hist) (X := W2) (hb0.trans (HB2.out.mono hb0.size)) (belowBox HB2.out HX.out) (own_base' (own_upd ho1 (Upd.of_below hb2) fun k hk e => by have := (ho1.lt k hk).2; omega) fun k hk => by have := (ho1.lt k hk).1; omega) (own_base' ho2 fun k hk => by have := (ho2.lt k hk).1; omega) h1)
    obtain ⟨hy, g, c', e, hP, hB⟩ := L.out
    cases e
    obtain ⟨y0, y1, y2, y3, y4, y5, _⟩ := box6 hy
    have HP := Lib.hid hP
    have HB := Lib.hid hB
    obtain ⟨Y, hY⟩ : ∃ Y, (W2.setCell ⟨w.heap.size, 3, none⟩ (.slice (some ⟨g, 0, none⟩) cs.length a1)).setCell ⟨w.heap.size, 5, none⟩ (.slice A2 rs.length a2) = Y := ⟨_, rfl⟩
    have hYs : Y.heap.size = W2.heap.size := by rw [← hY]; unfold World.setCell; simp
    rw [hY] at y0 y1 y2 y3 y4 y5 HP HB
    clear hP hB hy L ho1 ho2 hb1 hb2 p0 p1 p2 p3 p4 p5 pf q0 q1 q2 q3 q4 q5 qf
    go_wp2
    go_ret
    exact ⟨_, _, _, _, rfl, HP.out, HB.out⟩
end Go.Proofs.Ytdkacdfhapgboaa

/- sim.changed at its three closures. (printed by gen/chg.py) -/
set_option linter.unusedVariables false
set_option linter.unusedSimpArgs false
namespace Go.Proofs.Ytdkacdfhapgboaa
open Go.RowKit

theorem predOk_len {t h r hist : Int} {cs rs : List Int} (hq : predOk t h r cs hist rs) : 1 ≤ cs.length ∧ cs.length ≤ 4096 ∧ rs.length ≤ 32 := by
  obtain ⟨t1, t2, u1, u2, r1, r2⟩ := predShapeB_le hq.1
  obtain ⟨n, rfl⟩ := Int.eq_ofNat_of_zero_le t1
  have h1 := hq.2.1
  have h2 := hq.2.2.2.2
  simp only [Int.toNat_natCast] at h1
  have e : cs.length = 2 ^ n := by
    have : ((2 : Int) ^ n) = ((2 ^ n : Nat) : Int) := by simp
    omega
  have h4 : 2 ^ n ≤ 4096 := by have := Nat.pow_le_pow_right (show 0 < 2 by omega) (show n ≤ 12 by omega); simpa using this
  have h5 : 1 ≤ 2 ^ n := Nat.one_le_two_pow
  omega
abbrev zeroP : Obj := .cells #[.int .i64 0, .int .i64 0, .int .i64 0, .slice none 0 0, .int .u32 0, .slice none 0 0] 52

attribute [local irreducible] World.setCell in
set_option maxRecDepth 100000 in
set_option maxHeartbeats 1000000 in
theorem chg_train_bad (z1 z2 : Addr) (t h r : Int) (A R : Option Addr) (c rc : Nat) (cs rs : List Int) (hist : Int) (w : World) (hc : RdI w .i64 A cs.length cs) (hq : ¬ predOk t h r cs hist rs) (hh : 0 ≤ hist ∧ hist < 4294967296) :
    Calls Try.prog 48 #[.agg #[.int .i64 t, .int .i64 h, .int .i64 r, .slice A cs.length c, .int .u32 hist, .slice R rs.length rc], .func (.func 49) #[] #[.pointer (some z1), .pointer (some z2)]] w fun e w' =>
      e = .returned (.tuple #[emptyP, .int .i64 330]) ∧ Below w.heap.size w w' := by
  obtain ⟨W0, hW0⟩ : ∃ W0, (w.alloc (.cells #[.int .i64 t, .int .i64 h, .int .i64 r, .slice A cs.length c, .int .u32 hist, .slice R rs.length rc] 52)).alloc zeroP = W0 := ⟨_, rfl⟩
  have hb0 : Below w.heap.size w W0 := by rw [← hW0]; exact ((Below.refl _ _).alloc (Nat.le_refl _) _).alloc (by simp) _
  have hx0 : W0.heap[w.heap.size]? = some (.cells #[.int .i64 t, .int .i64 h, .int .i64 r, .slice A cs.length c, .int .u32 hist, .slice R rs.length rc] 52 (0, 0)) := by rw [← hW0]; exact (heap_alloc_old _ _ (by simp)).trans (heap_alloc_new w _)
  have hx1 : W0.heap[w.heap.size + 1]? = some zeroP := by rw [← hW0]; exact alloc_at _ _ _ (by simp)
  have hsz : W0.heap.size = w.heap.size + 2 := by rw [← hW0]; simp
  obtain ⟨p0, p1, p2, p3, p4, p5, _⟩ := box6 hx0
  have HC := Lib.hid (Rd.below hc hb0)
  have HX := Lib.hid hx1
  clear hx0 hx1 hc
  go_enter Try.func48, Try.ntmps48
  go_wp2_with fail
  refine (pred_any t h r A c cs hist R _ rc _ HC.out rs rfl hh).mono ?_
  rintro e W ⟨rfl, hb⟩
  rw [decide_eq_false hq]
  have HY := Lib.hid (belowBox hb HX.out)
  obtain ⟨q0, q1, q2, q3, q4, q5, d0⟩ := box6 HY.out
  have hws := hb.size
  clear hq
  go_wp2
  (try simp only [Exit.inBlock, Exit.then])
  refine bodyPost_ret (v := .tuple #[emptyP, .int .i64 330]) (results_cell2 rfl rfl rfl (run_loadVar_row (P := Try.prog) _ _ 52 52 _ (0, 0) _ (set6_heap HY.out _ _ _ _ _ _) Try.underlying52 rfl (by kernel_rfl))) rfl ?_
  exact ⟨rfl, bset6 (hb0.trans (hb.mono (by omega))) (by omega) _ _ _ _ _ _⟩

attribute [local irreducible] World.setCell in
set_option maxRecDepth 100000 in
set_option maxHeartbeats 1000000 in
theorem chg_train_ok (z1 z2 : Addr) (t h r : Int) (A R : Option Addr) (c rc : Nat) (cs rs : List Int) (hist : Int) (w : World) (H : RdP w A c cs R rc rs) (hq : predOk t h r cs hist rs) (hh : 0 ≤ hist ∧ hist < 4294967296)
    (E : Nat → Prop) (hE : ∀ k, E k → k < w.heap.size) (Z : World → Prop) (hZ : ∀ W1 W2, Upd (fun k => w.heap.size ≤ k) W1 W2 → w.heap.size ≤ W1.heap.size → Z W1 → Z W2) (cs' : List Int) (hist' : Int) (rs' : List Int)
    (hby : ∀ W B b g c' v, OwnP W B b t h r g c' cs hist v rs → w.heap.size ≤ B → B ≤ W.heap.size → Below w.heap.size w W → Calls Try.prog 49 #[.pointer (some ⟨b, 0, none⟩), .pointer (some z1), .pointer (some z2)] W fun e W' =>
      e = .returned (.tuple #[]) ∧ Z W' ∧ ∃ v', OwnP W' B b t h r g c' cs' hist' v' rs' ∧ Upd (fun k => B ≤ k ∨ E k) W W') :
    Calls Try.prog 48 #[.agg #[.int .i64 t, .int .i64 h, .int .i64 r, .slice A cs.length c, .int .u32 hist, .slice R rs.length rc], .func (.func 49) #[] #[.pointer (some z1), .pointer (some z2)]] w fun e w' =>
      ∃ g c' v', e = .returned (.tuple #[.agg #[.int .i64 t, .int .i64 h, .int .i64 r, .slice (some ⟨g, 0, none⟩) cs'.length c', .int .u32 hist', v'], .int .i64 0]) ∧
        w'.ownsRow w.heap.size 3 1 (.slice (some ⟨g, 0, none⟩) cs'.length c') cs'.length (nums .i64 cs') ∧ OwnW w' w.heap.size 30 v' (nums .u32 rs') ∧ blk v' ≠ some g ∧ Z w' ∧ Upd E w w' := by
  obtain ⟨hl1, hl2, hl3⟩ := predOk_len hq
  obtain ⟨W0, hW0⟩ : ∃ W0, (w.alloc (.cells #[.int .i64 t, .int .i64 h, .int .i64 r, .slice A cs.length c, .int .u32 hist, .slice R rs.length rc] 52)).alloc zeroP = W0 := ⟨_, rfl⟩
  have hb0 : Below w.heap.size w W0 := by rw [← hW0]; exact ((Below.refl _ _).alloc (Nat.le_refl _) _).alloc (by simp) _
  have hx0 : W0.heap[w.heap.size]? = some (.cells #[.int .i64 t, .int .i64 h, .int .i64 r, .slice A cs.length c, .int .u32 hist, .slice R rs.length rc] 52 (0, 0)) := by rw [← hW0]; exact (heap_alloc_old _ _ (by simp)).trans (heap_alloc_new w _)
  have hx1 : W0.heap[w.heap.size + 1]? = some zeroP := by rw [← hW0]; exact alloc_at _ _ _ (by simp)
  have hsz : W0.heap.size = w.heap.size + 2 := by rw [← hW0]; simp
  obtain ⟨p0, p1, p2, p3, p4, p5, _⟩ := box6 hx0
  have HC := Lib.hid (H.below hb0)
  have HX := Lib.hid hx1
  have HX0 := Lib.hid hx0
  have HBY := Lib.hid hby
  have HQ := Lib.hid hq
  clear hx0 hx1 H hby
  go_enter Try.func48, Try.ntmps48
  go_wp2_with fail
  refine (pred_any t h r A c cs hist R _ rc _ HC.out.cnt rs rfl hh).mono ?_
  rintro e W ⟨rfl, hb⟩
  rw [decide_eq_true hq]
  obtain ⟨s0, s1, s2, s3, s4, s5, _⟩ := box6 (belowBox hb HX0.out)
  have HCW := Lib.hid (HC.out.below hb)
  have HY := Lib.hid (belowBox hb HX.out)
  have hws := hb.size
  clear hq
  go_wp2_with fail
  refine (ownedPred_any t h r A R c rc cs rs hist _ HCW.out hl1 hl2 (by omega)).mono ?_
  rintro e W2 ⟨b, g, c', v, rfl, hP, hb2⟩
  have hw2 := hb2.size
  have hbw : Below w.heap.size w W2 := hb0.trans ((hb.trans (hb2.mono hb.size)).mono (by omega))
  have HY2 := Lib.hid (belowBox hb2 HY.out)
  have HB2 := Lib.hid hbw
  have HP := Lib.hid hP
  clear hP hb2 hb hbw
  go_wp2_with fail
  refine (HBY.out _ _ _ _ _ _ HP.out (by omega) (by omega) HB2.out).mono ?_
  rintro e W3 ⟨rfl, hZ3, v', hP3, hu3⟩
  have hw3 := hu3.size
  have hbx := (hu3.block (w.heap.size + 1) (by omega) (fun hk => by
    rcases hk with hk | hk
    · omega
    · have := hE _ hk; omega)).trans HY2.out
  obtain ⟨q0, q1, q2, q3, q4, q5, d0⟩ := box6 hbx
  obtain ⟨y0, y1, y2, y3, y4, y5, _⟩ := box6 hP3.box
  obtain ⟨A5, c5, rfl, _⟩ := hP3.ret.slice
  rw [nums_length] at hP3 y5
  have HR := Lib.hid hbx
  have HP3 := Lib.hid hP3
  have HU3 := Lib.hid hu3
  have HZ3 := Lib.hid hZ3
  clear hbx hP3 hu3 hZ3
  go_wp2
  (try simp only [Exit.inBlock, Exit.then])
  refine bodyPost_ret (v := .tuple #[.agg #[.int .i64 t, .int .i64 h, .int .i64 r, .slice (some ⟨g, 0, none⟩) cs'.length c', .int .u32 hist', .slice A5 rs'.length c5], .int .i64 0]) (results_cell2 rfl rfl rfl (run_loadVar_row (P := Try.prog) _ _ 52 52 _ (0, 0) _ (set6_heap HR.out _ _ _ _ _ _) Try.underlying52 rfl (by kernel_rfl))) rfl ?_
  have hu : Upd (fun k => k = w.heap.size + 1) W3 _ := uset6 W3 (w.heap.size + 1) (.int .i64 t) (.int .i64 h) (.int .i64 r) (.slice (some ⟨g, 0, none⟩) cs'.length c') (.int .u32 hist') (.slice A5 rs'.length c5)
  have hlt := fun k hk => HP3.out.cnt.lt k hk
  have hlt2 := fun k hk => HP3.out.ret.lt k hk
  refine ⟨g, c', _, rfl, own_base' (own_upd HP3.out.cnt hu fun k hk e => ?_) fun k hk => ?_, (HP3.out.ret.upd hu fun k hk e => ?_).base fun k hk => ?_, HP3.out.gne.2.2, hZ _ _ (hu.mono fun k hk => by omega) (by omega) HZ3.out, ?_⟩
  · have := (hlt k hk).1; omega
  · have := (hlt k hk).1; omega
  · have := (hlt2 k hk).1; omega
  · have := (hlt2 k hk).1; omega
  · refine (((Upd.of_below HB2.out).mono (G := fun k => w.heap.size ≤ k ∨ E k) fun i hi => .inl hi).trans (HU3.out.mono (G := fun k => w.heap.size ≤ k ∨ E k) fun i hi => ?_) fun i hi => .inl hi).trans hu (fun i hi => .inl (.inl (by omega))) |> fun h => ⟨h.os, h.tape, h.output, h.size, fun k hk hn => h.block k hk fun hh => ?_⟩
    · rcases hi with hi | hi
      · exact .inl (by omega)
      · exact .inr hi
    · rcases hh with hh | hh
      · omega
      · exact hn hh

attribute [local irreducible] World.setCell in
set_option maxRecDepth 100000 in
set_option maxHeartbeats 1000000 in
theorem chg_call_bad (z1 : Addr) (t h r : Int) (A R : Option Addr) (c rc : Nat) (cs rs : List Int) (hist : Int) (w : World) (hc : RdI w .i64 A cs.length cs) (hq : ¬ predOk t h r cs hist rs) (hh : 0 ≤ hist ∧ hist < 4294967296) :
    Calls Try.prog 48 #[.agg #[.int .i64 t, .int .i64 h, .int .i64 r, .slice A cs.length c, .int .u32 hist, .slice R rs.length rc], .func (.func 51) #[] #[.pointer (some z1)]] w fun e w' =>
      e = .returned (.tuple #[emptyP, .int .i64 330]) ∧ Below w.heap.size w w' := by
  obtain ⟨W0, hW0⟩ : ∃ W0, (w.alloc (.cells #[.int .i64 t, .int .i64 h, .int .i64 r, .slice A cs.length c, .int .u32 hist, .slice R rs.length rc] 52)).alloc zeroP = W0 := ⟨_, rfl⟩
  have hb0 : Below w.heap.size w W0 := by rw [← hW0]; exact ((Below.refl _ _).alloc (Nat.le_refl _) _).alloc (by simp) _
  have hx0 : W0.heap[w.heap.size]? = some (.cells #[.int .i64 t, .int .i64 h, .int .i64 r, .slice A cs.length c, .int .u32 hist, .slice R rs.length rc] 52 (0, 0)) := by rw [← hW0]; exact (heap_alloc_old _ _ (by simp)).trans (heap_alloc_new w _)
  have hx1 : W0.heap[w.heap.size + 1]? = some zeroP := by rw [← hW0]; exact alloc_at _ _ _ (by simp)
  have hsz : W0.heap.size = w.heap.size + 2 := by rw [← hW0]; simp
  obtain ⟨p0, p1, p2, p3, p4, p5, _⟩ := box6 hx0
  have HC := Lib.hid (Rd.below hc hb0)
  have HX := Lib.hid hx1
  clear hx0 hx1 hc
  go_enter Try.func48, Try.ntmps48
  go_wp2_with fail
  refine (pred_any t h r A c cs hist R _ rc _ HC.out rs rfl hh).mono ?_
  rintro e W ⟨rfl, hb⟩
  rw [decide_eq_false hq]
  have HY := Lib.hid (belowBox hb HX.out)
  obtain ⟨q0, q1, q2, q3, q4, q5, d0⟩ := box6 HY.out
  have hws := hb.size
  clear hq
  go_wp2
  (try simp only [Exit.inBlock, Exit.then])
  refine bodyPost_ret (v := .tuple #[emptyP, .int .i64 330]) (results_cell2 rfl rfl rfl (run_loadVar_row (P := Try.prog) _ _ 52 52 _ (0, 0) _ (set6_heap HY.out _ _ _ _ _ _) Try.underlying52 rfl (by kernel_rfl))) rfl ?_
  exact ⟨rfl, bset6 (hb0.trans (hb.mono (by omega))) (by omega) _ _ _ _ _ _⟩

attribute [local irreducible] World.setCell in
set_option maxRecDepth 100000 in
set_option maxHeartbeats 1000000 in
theorem chg_call_ok (z1 : Addr) (t h r : Int) (A R : Option Addr) (c rc : Nat) (cs rs : List Int) (hist : Int) (w : World) (H : RdP w A c cs R rc rs) (hq : predOk t h r cs hist rs) (hh : 0 ≤ hist ∧ hist < 4294967296)
    (E : Nat → Prop) (hE : ∀ k, E k → k < w.heap.size) (Z : World → Prop) (hZ : ∀ W1 W2, Upd (fun k => w.heap.size ≤ k) W1 W2 → w.heap.size ≤ W1.heap.size → Z W1 → Z W2) (cs' : List Int) (hist' : Int) (rs' : List Int)
    (hby : ∀ W B b g c' v, OwnP W B b t h r g c' cs hist v rs → w.heap.size ≤ B → B ≤ W.heap.size → Below w.heap.size w W → Calls Try.prog 51 #[.pointer (some ⟨b, 0, none⟩), .pointer (some z1)] W fun e W' =>
      e = .returned (.tuple #[]) ∧ Z W' ∧ ∃ v', OwnP W' B b t h r g c' cs' hist' v' rs' ∧ Upd (fun k => B ≤ k ∨ E k) W W') :
    Calls Try.prog 48 #[.agg #[.int .i64 t, .int .i64 h, .int .i64 r, .slice A cs.length c, .int .u32 hist, .slice R rs.length rc], .func (.func 51) #[] #[.pointer (some z1)]] w fun e w' =>
      ∃ g c' v', e = .returned (.tuple #[.agg #[.int .i64 t, .int .i64 h, .int .i64 r, .slice (some ⟨g, 0, none⟩) cs'.length c', .int .u32 hist', v'], .int .i64 0]) ∧
        w'.ownsRow w.heap.size 3 1 (.slice (some ⟨g, 0, none⟩) cs'.length c') cs'.length (nums .i64 cs') ∧ OwnW w' w.heap.size 30 v' (nums .u32 rs') ∧ blk v' ≠ some g ∧ Z w' ∧ Upd E w w' := by
  obtain ⟨hl1, hl2, hl3⟩ := predOk_len hq
  obtain ⟨W0, hW0⟩ : ∃ W0, (w.alloc (.cells #[.int .i64 t, .int .i64 h, .int .i64 r, .slice A cs.length c, .int .u32 hist, .slice R rs.length rc] 52)).alloc zeroP = W0 := ⟨_, rfl⟩
  have hb0 : Below w.heap.size w W0 := by rw [← hW0]; exact ((Below.refl _ _).alloc (Nat.le_refl _) _).alloc (by simp) _
  have hx0 : W0.heap[w.heap.size]? = some (.cells #[.int .i64 t, .int .i64 h, .int .i64 r, .slice A cs.length c, .int .u32 hist, .slice R rs.length rc] 52 (0, 0)) := by rw [← hW0]; exact (heap_alloc_old _ _ (by simp)).trans (heap_alloc_new w _)
  have hx1 : W0.heap[w.heap.size + 1]? = some zeroP := by rw [← hW0]; exact alloc_at _ _ _ (by simp)
  have hsz : W0.heap.size = w.heap.size + 2 := by rw [← hW0]; simp
  obtain ⟨p0, p1, p2, p3, p4, p5, _⟩ := box6 hx0
  have HC := Lib.hid (H.below hb0)
  have HX := Lib.hid hx1
  have HX0 := Lib.hid hx0
  have HBY := Lib.hid hby
  have HQ := Lib.hid hq
  clear hx0 hx1 H hby
  go_enter Try.func48, Try.ntmps48
  go_wp2_with fail
  refine (pred_any t h r A c cs hist R _ rc _ HC.out.cnt rs rfl hh).mono ?_
  rintro e W ⟨rfl, hb⟩
  rw [decide_eq_true hq]
  obtain ⟨s0, s1, s2, s3, s4, s5, _⟩ := box6 (belowBox hb HX0.out)
  have HCW := Lib.hid (HC.out.below hb)
  have HY := Lib.hid (belowBox hb HX.out)
  have hws := hb.size
  clear hq
  go_wp2_with fail
  refine (ownedPred_any t h r A R c rc cs rs hist _ HCW.out hl1 hl2 (by omega)).mono ?_
  rintro e W2 ⟨b, g, c', v, rfl, hP, hb2⟩
  have hw2 := hb2.size
  have hbw : Below w.heap.size w W2 := hb0.trans ((hb.trans (hb2.mono hb.size)).mono (by omega))
  have HY2 := Lib.hid (belowBox hb2 HY.out)
  have HB2 := Lib.hid hbw
  have HP := Lib.hid hP
  clear hP hb2 hb hbw
  go_wp2_with fail
  refine (HBY.out _ _ _ _ _ _ HP.out (by omega) (by omega) HB2.out).mono ?_
  rintro e W3 ⟨rfl, hZ3, v', hP3, hu3⟩
  have hw3 := hu3.size
  have hbx := (hu3.block (w.heap.size + 1) (by omega) (fun hk => by
    rcases hk with hk | hk
    · omega
    · have := hE _ hk; omega)).trans HY2.out
  obtain ⟨q0, q1, q2, q3, q4, q5, d0⟩ := box6 hbx
  obtain ⟨y0, y1, y2, y3, y4, y5, _⟩ := box6 hP3.box
  obtain ⟨A5, c5, rfl, _⟩ := hP3.ret.slice
  rw [nums_length] at hP3 y5
  have HR := Lib.hid hbx
  have HP3 := Lib.hid hP3
  have HU3 := Lib.hid hu3
  have HZ3 := Lib.hid hZ3
  clear hbx hP3 hu3 hZ3
  go_wp2
  (try simp only [Exit.inBlock, Exit.then])
  refine bodyPost_ret (v := .tuple #[.agg #[.int .i64 t, .int .i64 h, .int .i64 r, .slice (some ⟨g, 0, none⟩) cs'.length c', .int .u32 hist', .slice A5 rs'.length c5], .int .i64 0]) (results_cell2 rfl rfl rfl (run_loadVar_row (P := Try.prog) _ _ 52 52 _ (0, 0) _ (set6_heap HR.out _ _ _ _ _ _) Try.underlying52 rfl (by kernel_rfl))) rfl ?_
  have hu : Upd (fun k => k = w.heap.size + 1) W3 _ := uset6 W3 (w.heap.size + 1) (.int .i64 t) (.int .i64 h) (.int .i64 r) (.slice (some ⟨g, 0, none⟩) cs'.length c') (.int .u32 hist') (.slice A5 rs'.length c5)
  have hlt := fun k hk => HP3.out.cnt.lt k hk
  have hlt2 := fun k hk => HP3.out.ret.lt k hk
  refine ⟨g, c', _, rfl, own_base' (own_upd HP3.out.cnt hu fun k hk e => ?_) fun k hk => ?_, (HP3.out.ret.upd hu fun k hk e => ?_).base fun k hk => ?_, HP3.out.gne.2.2, hZ _ _ (hu.mono fun k hk => by omega) (by omega) HZ3.out, ?_⟩
  · have := (hlt k hk).1; omega
  · have := (hlt k hk).1; omega
  · have := (hlt2 k hk).1; omega
  · have := (hlt2 k hk).1; omega
  · refine (((Upd.of_below HB2.out).mono (G := fun k => w.heap.size ≤ k ∨ E k) fun i hi => .inl hi).trans (HU3.out.mono (G := fun k => w.heap.size ≤ k ∨ E k) fun i hi => ?_) fun i hi => .inl hi).trans hu (fun i hi => .inl (.inl (by omega))) |> fun h => ⟨h.os, h.tape, h.output, h.size, fun k hk hn => h.block k hk fun hh => ?_⟩
    · rcases hi with hi | hi
      · exact .inl (by omega)
      · exact .inr hi
    · rcases hh with hh | hh
      · omega
      · exact hn hh

attribute [local irreducible] World.setCell in
set_option maxRecDepth 100000 in
set_option maxHeartbeats 1000000 in
theorem chg_ret_bad (z1 z2 : Addr) (t h r : Int) (A R : Option Addr) (c rc : Nat) (cs rs : List Int) (hist : Int) (w : World) (hc : RdI w .i64 A cs.length cs) (hq : ¬ predOk t h r cs hist rs) (hh : 0 ≤ hist ∧ hist < 4294967296) :
    Calls Try.prog 48 #[.agg #[.int .i64 t, .int .i64 h, .int .i64 r, .slice A cs.length c, .int .u32 hist, .slice R rs.length rc], .func (.func 53) #[] #[.pointer (some z1), .pointer (some z2)]] w fun e w' =>
      e = .returned (.tuple #[emptyP, .int .i64 330]) ∧ Below w.heap.size w w' := by
  obtain ⟨W0, hW0⟩ : ∃ W0, (w.alloc (.cells #[.int .i64 t, .int .i64 h, .int .i64 r, .slice A cs.length c, .int .u32 hist, .slice R rs.length rc] 52)).alloc zeroP = W0 := ⟨_, rfl⟩
  have hb0 : Below w.heap.size w W0 := by rw [← hW0]; exact ((Below.refl _ _).alloc (Nat.le_refl _) _).alloc (by simp) _
  have hx0 : W0.heap[w.heap.size]? = some (.cells #[.int .i64 t, .int .i64 h, .int .i64 r, .slice A cs.length c, .int .u32 hist, .slice R rs.length rc] 52 (0, 0)) := by rw [← hW0]; exact (heap_alloc_old _ _ (by simp)).trans (heap_alloc_new w _)
  have hx1 : W0.heap[w.heap.size + 1]? = some zeroP := by rw [← hW0]; exact alloc_at _ _ _ (by simp)
  have hsz : W0.heap.size = w.heap.size + 2 := by rw [← hW0]; simp
  obtain ⟨p0, p1, p2, p3, p4, p5, _⟩ := box6 hx0
  have HC := Lib.hid (Rd.below hc hb0)
  have HX := Lib.hid hx1
  clear hx0 hx1 hc
  go_enter Try.func48, Try.ntmps48
  go_wp2_with fail
  refine (pred_any t h r A c cs hist R _ rc _ HC.out rs rfl hh).mono ?_
  rintro e W ⟨rfl, hb⟩
  rw [decide_eq_false hq]
  have HY := Lib.hid (belowBox hb HX.out)
  obtain ⟨q0, q1, q2, q3, q4, q5, d0⟩ := box6 HY.out
  have hws := hb.size
  clear hq
  go_wp2
  (try simp only [Exit.inBlock, Exit.then])
  refine bodyPost_ret (v := .tuple #[emptyP, .int .i64 330]) (results_cell2 rfl rfl rfl (run_loadVar_row (P := Try.prog) _ _ 52 52 _ (0, 0) _ (set6_heap HY.out _ _ _ _ _ _) Try.underlying52 rfl (by kernel_rfl))) rfl ?_
  exact ⟨rfl, bset6 (hb0.trans (hb.mono (by omega))) (by omega) _ _ _ _ _ _⟩

attribute [local irreducible] World.setCell in
set_option maxRecDepth 100000 in
set_option maxHeartbeats 1000000 in
theorem chg_ret_ok (z1 z2 : Addr) (t h r : Int) (A R : Option Addr) (c rc : Nat) (cs rs : List Int) (hist : Int) (w : World) (H : RdP w A c cs R rc rs) (hq : predOk t h r cs hist rs) (hh : 0 ≤ hist ∧ hist < 4294967296)
    (E : Nat → Prop) (hE : ∀ k, E k → k < w.heap.size) (Z : World → Prop) (hZ : ∀ W1 W2, Upd (fun k => w.heap.size ≤ k) W1 W2 → w.heap.size ≤ W1.heap.size → Z W1 → Z W2) (cs' : List Int) (hist' : Int) (rs' : List Int)
    (hby : ∀ W B b g c' v, OwnP W B b t h r g c' cs hist v rs → w.heap.size ≤ B → B ≤ W.heap.size → Below w.heap.size w W → Calls Try.prog 53 #[.pointer (some ⟨b, 0, none⟩), .pointer (some z1), .pointer (some z2)] W fun e W' =>
      e = .returned (.tuple #[]) ∧ Z W' ∧ ∃ v', OwnP W' B b t h r g c' cs' hist' v' rs' ∧ Upd (fun k => B ≤ k ∨ E k) W W') :
    Calls Try.prog 48 #[.agg #[.int .i64 t, .int .i64 h, .int .i64 r, .slice A cs.length c, .int .u32 hist, .slice R rs.length rc], .func (.func 53) #[] #[.pointer (some z1), .pointer (some z2)]] w fun e w' =>
      ∃ g c' v', e = .returned (.tuple #[.agg #[.int .i64 t, .int .i64 h, .int .i64 r, .slice (some ⟨g, 0, none⟩) cs'.length c', .int .u32 hist', v'], .int .i64 0]) ∧
        w'.ownsRow w.heap.size 3 1 (.slice (some ⟨g, 0, none⟩) cs'.length c') cs'.length (nums .i64 cs') ∧ OwnW w' w.heap.size 30 v' (nums .u32 rs') ∧ blk v' ≠ some g ∧ Z w' ∧ Upd E w w' := by
  obtain ⟨hl1, hl2, hl3⟩ := predOk_len hq
  obtain ⟨W0, hW0⟩ : ∃ W0, (w.alloc (.cells #[.int .i64 t, .int .i64 h, .int .i64 r, .slice A cs.length c, .int .u32 hist, .slice R rs.length rc] 52)).alloc zeroP = W0 := ⟨_, rfl⟩
  have hb0 : Below w.heap.size w W0 := by rw [← hW0]; exact ((Below.refl _ _).alloc (Nat.le_refl _) _).alloc (by simp) _
  have hx0 : W0.heap[w.heap.size]? = some (.cells #[.int .i64 t, .int .i64 h, .int .i64 r, .slice A cs.length c, .int .u32 hist, .slice R rs.length rc] 52 (0, 0)) := by rw [← hW0]; exact (heap_alloc_old _ _ (by simp)).trans (heap_alloc_new w _)
  have hx1 : W0.heap[w.heap.size + 1]? = some zeroP := by rw [← hW0]; exact alloc_at _ _ _ (by simp)
  have hsz : W0.heap.size = w.heap.size + 2 := by rw [← hW0]; simp
  obtain ⟨p0, p1, p2, p3, p4, p5, _⟩ := box6 hx0
  have HC := Lib.hid (H.below hb0)
  have HX := Lib.hid hx1
  have HX0 := Lib.hid hx0
  have HBY := Lib.hid hby
  have HQ := Lib.hid hq
  clear hx0 hx1 H hby
  go_enter Try.func48, Try.ntmps48
  go_wp2_with fail
  refine (pred_any t h r A c cs hist R _ rc _ HC.out.cnt rs rfl hh).mono ?_
  rintro e W ⟨rfl, hb⟩
  rw [decide_eq_true hq]
  obtain ⟨s0, s1, s2, s3, s4, s5, _⟩ := box6 (belowBox hb HX0.out)
  have HCW := Lib.hid (HC.out.below hb)
  have HY := Lib.hid (belowBox hb HX.out)
  have hws := hb.size
  clear hq
  go_wp2_with fail
  refine (ownedPred_any t h r A R c rc cs rs hist _ HCW.out hl1 hl2 (by omega)).mono ?_
  rintro e W2 ⟨b, g, c', v, rfl, hP, hb2⟩
  have hw2 := hb2.size
  have hbw : Below w.heap.size w W2 := hb0.trans ((hb.trans (hb2.mono hb.size)).mono (by omega))
  have HY2 := Lib.hid (belowBox hb2 HY.out)
  have HB2 := Lib.hid hbw
  have HP := Lib.hid hP
  clear hP hb2 hb hbw
  go_wp2_with fail
  refine (HBY.out _ _ _ _ _ _ HP.out (by omega) (by omega) HB2.out).mono ?_
  rintro e W3 ⟨rfl, hZ3, v', hP3, hu3⟩
  have hw3 := hu3.size
  have hbx := (hu3.block (w.heap.size + 1) (by omega) (fun hk => by
    rcases hk with hk | hk
    · omega
    · have := hE _ hk; omega)).trans HY2.out
  obtain ⟨q0, q1, q2, q3, q4, q5, d0⟩ := box6 hbx
  obtain ⟨y0, y1, y2, y3, y4, y5, _⟩ := box6 hP3.box
  obtain ⟨A5, c5, rfl, _⟩ := hP3.ret.slice
  rw [nums_length] at hP3 y5
  have HR := Lib.hid hbx
  have HP3 := Lib.hid hP3
  have HU3 := Lib.hid hu3
  have HZ3 := Lib.hid hZ3
  clear hbx hP3 hu3 hZ3
  go_wp2
  (try simp only [Exit.inBlock, Exit.then])
  refine bodyPost_ret (v := .tuple #[.agg #[.int .i64 t, .int .i64 h, .int .i64 r, .slice (some ⟨g, 0, none⟩) cs'.length c', .int .u32 hist', .slice A5 rs'.length c5], .int .i64 0]) (results_cell2 rfl rfl rfl (run_loadVar_row (P := Try.prog) _ _ 52 52 _ (0, 0) _ (set6_heap HR.out _ _ _ _ _ _) Try.underlying52 rfl (by kernel_rfl))) rfl ?_
  have hu : Upd (fun k => k = w.heap.size + 1) W3 _ := uset6 W3 (w.heap.size + 1) (.int .i64 t) (.int .i64 h) (.int .i64 r) (.slice (some ⟨g, 0, none⟩) cs'.length c') (.int .u32 hist') (.slice A5 rs'.length c5)
  have hlt := fun k hk => HP3.out.cnt.lt k hk
  have hlt2 := fun k hk => HP3.out.ret.lt k hk
  refine ⟨g, c', _, rfl, own_base' (own_upd HP3.out.cnt hu fun k hk e => ?_) fun k hk => ?_, (HP3.out.ret.upd hu fun k hk e => ?_).base fun k hk => ?_, HP3.out.gne.2.2, hZ _ _ (hu.mono fun k hk => by omega) (by omega) HZ3.out, ?_⟩
  · have := (hlt k hk).1; omega
  · have := (hlt k hk).1; omega
  · have := (hlt2 k hk).1; omega
  · have := (hlt2 k hk).1; omega
  · refine (((Upd.of_below HB2.out).mono (G := fun k => w.heap.size ≤ k ∨ E k) fun i hi => .inl hi).trans (HU3.out.mono (G := fun k => w.heap.size ≤ k ∨ E k) fun i hi => ?_) fun i hi => .inl hi).trans hu (fun i hi => .inl (.inl (by omega))) |> fun h => ⟨h.os, h.tape, h.output, h.size, fun k hk hn => h.block k hk fun hh => ?_⟩
    · rcases hi with hi | hi
      · exact .inl (by omega)
      · exact .inr hi
    · rcases hh with hh | hh
      · omega
      · exact hn hh
end Go.Proofs.Ytdkacdfhapgboaa
