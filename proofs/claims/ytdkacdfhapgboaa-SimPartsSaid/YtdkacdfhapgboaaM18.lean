/- Part 18 of the texts that the proof stands on: Parts. -/
import Derived.Test.YtdkacdfhapgboaaM17

/- SimParts hands back true. (printed by gen/parts.py) -/
set_option linter.unusedVariables false
set_option linter.unusedSimpArgs false
namespace Go.Proofs.Ytdkacdfhapgboaa
open Go.RowKit

theorem split_feed {K : GC} {s0 s : GS} {es : List (List Int)} (h : s0.feed K es = some s) (q : Nat) : ∃ s1, s0.feed K (es.take q) = some s1 ∧ s1.feed K (es.drop q) = some s := by
  rw [← List.take_append_drop q es, GS.feed_append] at h
  cases h1 : s0.feed K (es.take q) with
  | none => rw [h1] at h; cases h
  | some s1 => exact ⟨s1, rfl, by rw [h1] at h; exact h⟩
theorem gn_takeS (es : List (List Int)) (q k : Nat) (h : k < q) : gn (es.take q) k = gn es k := by
  simp [gn, List.getD_eq_getElem?_getD, List.getElem?_take, h]
theorem rdE_take {w : World} {A : Option Addr} {es : List (List Int)} (h : RdE w A es) (q : Nat) : RdE w A (es.take q) := by
  refine ⟨by have := h.le; rw [List.length_take]; omega, fun k hk j hj => ?_⟩
  rw [List.length_take] at hk
  rw [gn_takeS _ _ _ (by omega)]
  exact h.cell k (by omega) j hj
theorem allU_rd {w : World} {A : Option Addr} {vs : List Value} {L : List (List Int)} (h : RdSets w A vs L) : AllU L := fun i hi x hx => (h.each i hi).u32 x hx
theorem slice_drop {w : World} {A : Option Addr} {c q : Nat} {es : List (List Int)} (h : RdE w A es) (hq : q ≤ es.length) (hc : es.length ≤ c) (hz : A = none → c = 0) :
    ∃ A2 c2, (∀ W, (Instr.slice 68 (.slice A es.length c) (some (.int .i64 (q : Int))) none none).run Try.prog W = .ok (.slice A2 (es.drop q).length c2) W) ∧ RdE w A2 (es.drop q) ∧ (A2 = none → c2 = 0) := by
  have hs : ∀ W, (sizeOf (Try.prog.elem 68)).run Try.prog W = .ok 6 W := fun W => by kernel_rfl
  have hu : Try.prog.underlying 68 = some (.slice (Try.prog.elem 68)) := by kernel_rfl
  have hgn : ∀ k, gn (es.drop q) k = gn es (q + k) := fun k => by simp [gn, List.getD_eq_getElem?_getD, List.getElem?_drop]
  refine ⟨if c = q then A else A.map (·.add (q * 6)), c - q, fun W => ?_, ⟨by have := h.le; simp; omega, fun k hk j hj => ?_⟩, fun h2 => ?_⟩
  · rw [run_slice_l W 68 A es.length c hu .i64 (q : Int) (by omega) (by omega), hs]
    simp [Result.andThen, sliced]
  · simp only [List.length_drop] at hk
    rw [if_neg (by omega), hgn]
    obtain ⟨ad, e, hcell⟩ := h.cell (q + k) (by omega) j hj
    subst e
    refine ⟨_, rfl, ?_⟩
    rw [Go.Deep.add_add, show q * 6 + (k * 6 + j) = (q + k) * 6 + j by omega]
    exact hcell
  · by_cases hcq : c = q
    · omega
    · rw [if_neg hcq] at h2
      have := hz (by simpa using h2)
      omega
theorem gu_feed {K : GC} {s s' : GS} {nI nD nL : Int} (h1 : shapeB K.il nI K.iw = true) (h2 : shapeB K.dl nD K.dw = true) (h3 : shapeB K.ll nL K.lw = true) (es : List (List Int)) (h : GU s) (he : s.feed K es = some s') : GU s' := by
  obtain ⟨a1, a2, _⟩ := shapeB_line h1
  obtain ⟨b1, b2, _⟩ := shapeB_line h2
  obtain ⟨c1, c2, _⟩ := shapeB_line h3
  exact GU.feed ⟨by omega, by omega⟩ ⟨by omega, by omega⟩ ⟨by omega, by omega⟩ es h he
theorem fewB_true {i1 d1 l1 p0 : Int} {LI LD LL : List (List Int)} {n m q : Nat} (h : fewB i1 d1 l1 p0 LI LD LL n m q = true) : q ≤ 60 := by
  unfold fewB at h
  simp only [Bool.and_eq_true, decide_eq_true_eq] at h
  exact h.2.2.2.2
theorem nOk_of {ns : List (List Int)} (h : cntsOk ns) (h14 : ∀ c ∈ ns, c.length = 14) : NOk ns := by
  have hstep : ∀ d i, i + d + 1 < ns.length → gi (gn ns i) 0 < gi (gn ns (i + d + 1)) 0 := fun d => by
    induction d with
    | zero => intro i hi; have := (h (i + 1) hi).1 (by omega); simpa using this
    | succ d ih =>
      intro i hi
      have h1 := ih i (by omega)
      have h2 := (h (i + d + 1 + 1) (by omega)).1 (by omega)
      rw [show i + d + 1 + 1 - 1 = i + d + 1 by omega] at h2
      rw [show i + (d + 1) + 1 = i + d + 1 + 1 by omega]
      omega
  refine ⟨fun i j hij hj => ?_, h14, fun c hc j h1 hj => ?_⟩
  · have := hstep (j - i - 1) i (by omega)
    rw [show i + (j - i - 1) + 1 = j by omega] at this
    exact this
  · obtain ⟨k, hk, rfl⟩ := List.getElem_of_mem hc
    have h2 := cntsOk_num h k hk (j - 1) (by omega)
    rw [cntX_gi _ _ (by omega), show j - 1 + 1 = j by omega] at h2
    have e : gn ns k = ns[k] := by simp [gn, List.getD_eq_getElem?_getD, hk]
    rw [e] at h2
    exact h2

theorem boxAlS {W : World} {b : Nat} {o x : Obj} (h : W.heap[b]? = some x) : (W.alloc o).heap[b]? = some x := by
  rw [heap_alloc_old _ _ (Array.getElem?_eq_some_iff.1 h).1]
  exact h
/-- A simulation that was fed, in a box. -/
structure YR (i0 i2 d0 d2 l0 l2 p0 p2 : Int) (hn mI mD mL : Nat) (s : GS) (WB : World) (b gI kI gD kD gL kL : Nat) (aI aD aL : List Value) (N : Option Addr) (nc gP cP : Nat) (R : Option Addr) (r : Nat) (W : World) : Prop where
  box : W.heap[b]? = some (.cells #[.int .i64 i0, .int .i64 (mI : Int), .int .i64 i2, .int .i64 d0, .int .i64 (mD : Int), .int .i64 d2, .int .i64 l0, .int .i64 (mL : Int), .int .i64 l2, .int .i64 p0, .int .i64 (hn : Int), .int .i64 p2, .int .i64 i0, .int .i64 (mI : Int), .int .i64 i2, .slice (some ⟨gI, 0, none⟩) mI kI, .int .i64 d0, .int .i64 (mD : Int), .int .i64 d2, .slice (some ⟨gD, 0, none⟩) mD kD, .int .i64 l0, .int .i64 (mL : Int), .int .i64 l2, .slice (some ⟨gL, 0, none⟩) mL kL, .int .i64 p0, .int .i64 (hn : Int), .int .i64 p2, .slice (some ⟨gP, 0, none⟩) s.cs.length cP, .int .u32 s.hist, .slice R s.rs.length r, .slice N s.N.length nc] 67 (0, 0))
  i : RdSets W (some ⟨gI, 0, none⟩) aI s.I
  d : RdSets W (some ⟨gD, 0, none⟩) aD s.D
  l : RdSets W (some ⟨gL, 0, none⟩) aL s.L
  p : RdP W (some ⟨gP, 0, none⟩) cP s.cs R r s.rs
  n : RdN W N s.N
  nn : N = none → nc = 0
  bel : Below WB.heap.size WB W
def YE (i0 i2 d0 d2 l0 l2 p0 p2 : Int) (hn mI mD mL : Nat) (s : GS) (WB : World) (s11 s12 : Value) (W : World) : Prop :=
  ∃ b gI kI gD kD gL kL aI aD aL N nc gP cP R r, s11 = .pointer (some ⟨b, 0, none⟩) ∧ s12 = .int .i64 0 ∧ YR i0 i2 d0 d2 l0 l2 p0 p2 hn mI mD mL s WB b gI kI gD kD gL kL aI aD aL N nc gP cP R r W
/-- What stands behind a feed, whatever lies between. -/
theorem YE.mk {i0 i2 d0 d2 l0 l2 p0 p2 : Int} {hn mI mD mL : Nat} {s : GS} {WB Wf Wz : World} {b B gI kI gD kD gL kL : Nat} {aI aD aL : List Value} {N : Option Addr} {nc gP cP : Nat} {R : Option Addr} {r : Nat} (hu : GU s) (hf : FedR ⟨i0, i2, d0, d2, l0, l2, p2, hn⟩ p0 mI mD mL B gI kI aI gD kD aD gL kL aL N nc gP cP R r s Wf)
    (hba : Below WB.heap.size WB Wf) (hBB : WB.heap.size ≤ B) (hz : Upd (fun k => WB.heap.size ≤ k ∧ k < B) Wf Wz) (hx : Wz.heap[b]? = some (.cells #[.int .i64 i0, .int .i64 (mI : Int), .int .i64 i2, .int .i64 d0, .int .i64 (mD : Int), .int .i64 d2, .int .i64 l0, .int .i64 (mL : Int), .int .i64 l2, .int .i64 p0, .int .i64 (hn : Int), .int .i64 p2, .int .i64 i0, .int .i64 (mI : Int), .int .i64 i2, .slice (some ⟨gI, 0, none⟩) mI kI, .int .i64 d0, .int .i64 (mD : Int), .int .i64 d2, .slice (some ⟨gD, 0, none⟩) mD kD, .int .i64 l0, .int .i64 (mL : Int), .int .i64 l2, .slice (some ⟨gL, 0, none⟩) mL kL, .int .i64 p0, .int .i64 (hn : Int), .int .i64 p2, .slice (some ⟨gP, 0, none⟩) s.cs.length cP, .int .u32 s.hist, .slice R s.rs.length r, .slice N s.N.length nc] 67 (0, 0))) :
    YE i0 i2 d0 d2 l0 l2 p0 p2 hn mI mD mL s WB (.pointer (some ⟨b, 0, none⟩)) (.int .i64 0) Wz := by
  obtain ⟨hp, hn', hnn⟩ := hf.rest Wz (hz.mono fun k hk => hk.2)
  exact ⟨b, gI, kI, gD, kD, gL, kL, aI, aD, aL, N, nc, gP, cP, R, r, rfl, rfl, ⟨hx, (hf.i.upd hz fun k hk e => by have := (hf.i.foot_lt k hk).1; omega).rdSets hu.i, (hf.d.upd hz fun k hk e => by have := (hf.d.foot_lt k hk).1; omega).rdSets hu.d, (hf.l.upd hz fun k hk e => by have := (hf.l.foot_lt k hk).1; omega).rdSets hu.l, hp, hn', hnn, hba.trans (hz.below hba.size fun k hk => hk.1)⟩⟩

attribute [local irreducible] World.setCell World.setRow in
set_option maxRecDepth 1000000 in
set_option maxHeartbeats 8000000 in
theorem parts_any (k0 k1 k2 k3 k4 k5 k6 k7 k8 k9 k10 k11 i0 i1 i2 d0 d1 d2 l0 l1 l2 p0 p1 p2 : Int) (AI AD AL A R N AE : Option Addr) (ci cd cl ca ra nc ce : Nat) (vI vD vL : List Value) (LI LD LL : List (List Int)) (cs rs : List Int) (hist : Int) (ns es : List (List Int)) (a2 : Int) (w : World)
    (hI : RdSets w AI vI LI) (hD : RdSets w AD vD LD) (hL : RdSets w AL vL LL) (zI : AI = none → ci = 0) (zD : AD = none → cd = 0) (zL : AL = none → cl = 0) (hP : RdP w A ca cs R ra rs) (hN : RdN w N ns) (zN : N = none → nc = 0) (h14 : ∀ c ∈ ns, c.length = 14) (hh : 0 ≤ hist ∧ hist < 4294967296)
    (he : RdE w AE es) (hce : es.length ≤ ce) (zE : AE = none → ce = 0) (hev : ∀ k, k < es.length → EvU (gn es k)) (ha : 0 ≤ a2 ∧ a2 < 65536) :
    Calls Try.prog 10 #[.agg #[.int .i64 k0, .int .i64 k1, .int .i64 k2, .int .i64 k3, .int .i64 k4, .int .i64 k5, .int .i64 k6, .int .i64 k7, .int .i64 k8, .int .i64 k9, .int .i64 k10, .int .i64 k11, .int .i64 i0, .int .i64 i1, .int .i64 i2, .slice AI LI.length ci, .int .i64 d0, .int .i64 d1, .int .i64 d2, .slice AD LD.length cd, .int .i64 l0, .int .i64 l1, .int .i64 l2, .slice AL LL.length cl, .int .i64 p0, .int .i64 p1, .int .i64 p2, .slice A cs.length ca, .int .u32 hist, .slice R rs.length ra, .slice N ns.length nc], .slice AE es.length ce, .int .u16 a2] w fun e w' => e = .returned (.bool true) ∧ Below w.heap.size w w' := by
  obtain ⟨W0, hW0⟩ : ∃ W0, w.alloc (.cells #[.int .i64 k0, .int .i64 k1, .int .i64 k2, .int .i64 k3, .int .i64 k4, .int .i64 k5, .int .i64 k6, .int .i64 k7, .int .i64 k8, .int .i64 k9, .int .i64 k10, .int .i64 k11, .int .i64 i0, .int .i64 i1, .int .i64 i2, .slice AI LI.length ci, .int .i64 d0, .int .i64 d1, .int .i64 d2, .slice AD LD.length cd, .int .i64 l0, .int .i64 l1, .int .i64 l2, .slice AL LL.length cl, .int .i64 p0, .int .i64 p1, .int .i64 p2, .slice A cs.length ca, .int .u32 hist, .slice R rs.length ra, .slice N ns.length nc] 67) = W0 := ⟨_, rfl⟩
  have hb0 : Below w.heap.size w W0 := by rw [← hW0]; exact balloc w _
  have hx0 : W0.heap[w.heap.size]? = some (.cells #[.int .i64 k0, .int .i64 k1, .int .i64 k2, .int .i64 k3, .int .i64 k4, .int .i64 k5, .int .i64 k6, .int .i64 k7, .int .i64 k8, .int .i64 k9, .int .i64 k10, .int .i64 k11, .int .i64 i0, .int .i64 i1, .int .i64 i2, .slice AI LI.length ci, .int .i64 d0, .int .i64 d1, .int .i64 d2, .slice AD LD.length cd, .int .i64 l0, .int .i64 l1, .int .i64 l2, .slice AL LL.length cl, .int .i64 p0, .int .i64 p1, .int .i64 p2, .slice A cs.length ca, .int .u32 hist, .slice R rs.length ra, .slice N ns.length nc] 67 (0, 0)) := by rw [← hW0]; exact heap_alloc_new w _
  have hel := he.le
  have HI := Lib.hid (hI.below hb0)
  have HD := Lib.hid (hD.below hb0)
  have HL := Lib.hid (hL.below hb0)
  have HP := Lib.hid (hP.below hb0)
  have HN := Lib.hid (hN.below hb0)
  have HE := Lib.hid (he.below hb0)
  have HB0 := Lib.hid hb0
  have HX0 := Lib.hid hx0
  have HEV := Lib.hid hev
  have H14 := Lib.hid h14
  have ZI := Lib.hid zI
  have ZD := Lib.hid zD
  have ZL := Lib.hid zL
  have ZN := Lib.hid zN
  have ZE := Lib.hid zE
  have HR0 := Lib.hid (range_sub hx0 0 [.int .i64 k0, .int .i64 k1, .int .i64 k2, .int .i64 k3, .int .i64 k4, .int .i64 k5, .int .i64 k6, .int .i64 k7, .int .i64 k8, .int .i64 k9, .int .i64 k10, .int .i64 k11, .int .i64 i0, .int .i64 i1, .int .i64 i2, .slice AI LI.length ci, .int .i64 d0, .int .i64 d1, .int .i64 d2, .slice AD LD.length cd, .int .i64 l0, .int .i64 l1, .int .i64 l2, .slice AL LL.length cl, .int .i64 p0, .int .i64 p1, .int .i64 p2, .slice A cs.length ca, .int .u32 hist, .slice R rs.length ra, .slice N ns.length nc] rfl)
  have hnle := hN.le
  clear hI hD hL hP hN he hb0 hx0 hev h14 zI zD zL zN zE
  go_enter Try.func10, Try.ntmps10
  go_wp2_with (with_reducible refine wpList_load_mid rfl 67 (Operand.tmp 3) rfl w.heap.size 0 rfl [.int .i64 k0, .int .i64 k1, .int .i64 k2, .int .i64 k3, .int .i64 k4, .int .i64 k5, .int .i64 k6, .int .i64 k7, .int .i64 k8, .int .i64 k9, .int .i64 k10, .int .i64 k11, .int .i64 i0, .int .i64 i1, .int .i64 i2, .slice AI LI.length ci, .int .i64 d0, .int .i64 d1, .int .i64 d2, .slice AD LD.length cd, .int .i64 l0, .int .i64 l1, .int .i64 l2, .slice AL LL.length cl, .int .i64 p0, .int .i64 p1, .int .i64 p2, .slice A cs.length ca, .int .u32 hist, .slice R rs.length ra, .slice N ns.length nc] _ HR0.out Try.underlying67 rfl (by kernel_rfl) ?_)
  refine (few_any k0 k1 k2 k3 k4 k5 k6 k7 k8 k9 k10 k11 i0 i1 i2 d0 d1 d2 l0 l1 l2 p0 p1 p2 AI AD AL A R N ci cd cl ca ra nc vI vD vL LI LD LL cs rs hist ns _ HI.out HD.out HL.out hnle).mono ?_
  rintro e W1 ⟨rfl, hb1⟩
  have HB1 := Lib.hid (bvia HB0.out hb1 (Nat.le_refl _))
  replace HI := Lib.hid (HI.out.below hb1)
  replace HD := Lib.hid (HD.out.below hb1)
  replace HL := Lib.hid (HL.out.below hb1)
  replace HP := Lib.hid (HP.out.below hb1)
  replace HN := Lib.hid (HN.out.below hb1)
  replace HE := Lib.hid (HE.out.below hb1)
  replace HX0 := Lib.hid (belowBox hb1 HX0.out)
  replace HR0 := Lib.hid (range_sub HX0.out 0 [.int .i64 k0, .int .i64 k1, .int .i64 k2, .int .i64 k3, .int .i64 k4, .int .i64 k5, .int .i64 k6, .int .i64 k7, .int .i64 k8, .int .i64 k9, .int .i64 k10, .int .i64 k11, .int .i64 i0, .int .i64 i1, .int .i64 i2, .slice AI LI.length ci, .int .i64 d0, .int .i64 d1, .int .i64 d2, .slice AD LD.length cd, .int .i64 l0, .int .i64 l1, .int .i64 l2, .slice AL LL.length cl, .int .i64 p0, .int .i64 p1, .int .i64 p2, .slice A cs.length ca, .int .u32 hist, .slice R rs.length ra, .slice N ns.length nc] rfl)
  clear hb1
  cases hfew : fewB i1 d1 l1 p0 LI LD LL cs.length rs.length ns.length
  · clear hfew
    go_wp2_with fail
    refine (sane_any _).mono ?_
    rintro e W2 ⟨rfl, hb2⟩
    have HB2 := Lib.hid (bvia HB1.out hb2 (Nat.le_refl _))
    clear hb2
    go_wp2_with fail
    go_ret
    exact ⟨rfl, HB2.out⟩
  have hns : ns.length ≤ 60 := fewB_true hfew
  clear hfew
  by_cases hlong : (60 : Int) < (es.length : Int)
  · go_wp2_with fail
    refine (sane_any _).mono ?_
    rintro e W2 ⟨rfl, hb2⟩
    have HB2 := Lib.hid (bvia HB1.out hb2 (Nat.le_refl _))
    clear hb2
    go_wp2_with fail
    go_ret
    exact ⟨rfl, HB2.out⟩
  have he60 : (es.length : Int) ≤ 60 := by omega
  clear hlong
  go_wp2_with fail
  go_loop [26] (fun i => ∃ k : Nat, k ≤ es.length ∧ i = .int .i64 k) (fun i => es.length - (intOf i).toNat)
  case atStart => exact ⟨0, Nat.zero_le _, rfl⟩
  case round =>
    obtain ⟨k, hk, rfl⟩ := hrel
    by_cases hlt : k < es.length
    · obtain ⟨ad, e0, x0, x1, x2, x3, x4, x5⟩ := HE.out.at6 k hlt
      subst e0
      obtain ⟨n5, hn5⟩ : ∃ n, gi (gn es k) 5 = n := ⟨_, rfl⟩
      rw [hn5] at x5
      clear x0 x1 x2 x3 x4 hn5
      by_cases q1 : 3000 < n5
      · by_cases q2 : n5 ≤ 65536
        · go_wp2_with fail
          refine (sane_any _).mono ?_
          rintro e W2 ⟨rfl, hb2⟩
          have HB2 := Lib.hid (bvia HB1.out hb2 (Nat.le_refl _))
          clear hb2
          go_wp2_with fail
          go_ret
          exact ⟨rfl, HB2.out⟩
        · go_wp2_with fail
          go_round
          case rel => exact ⟨k + 1, hlt, by go_num⟩
          case measure => simp [intOf]; omega
      · go_wp2_with fail
        go_round
        case rel => exact ⟨k + 1, hlt, by go_num⟩
        case measure => simp [intOf]; omega
    · obtain ⟨q, hq, hqe⟩ : ∃ q : Nat, a2 % ((es.length : Int) + 1) = (q : Int) ∧ q ≤ es.length := by
        have h1 := Int.emod_nonneg a2 (show (es.length : Int) + 1 ≠ 0 by omega)
        have h2 := Int.emod_lt_of_pos a2 (show (0 : Int) < (es.length : Int) + 1 by omega)
        exact ⟨(a2 % ((es.length : Int) + 1)).toNat, by omega, by omega⟩
      have hq0 : ¬ (es.length : Int) + 1 = 0 := by omega
      have hqt : Int.tmod a2 ((es.length : Int) + 1) = (q : Int) := by rw [Int.tmod_eq_emod_of_nonneg ha.1]; exact hq
      go_wp2_with (with_reducible refine wpList_load_mid rfl 67 (Operand.tmp 3) rfl w.heap.size 0 rfl [.int .i64 k0, .int .i64 k1, .int .i64 k2, .int .i64 k3, .int .i64 k4, .int .i64 k5, .int .i64 k6, .int .i64 k7, .int .i64 k8, .int .i64 k9, .int .i64 k10, .int .i64 k11, .int .i64 i0, .int .i64 i1, .int .i64 i2, .slice AI LI.length ci, .int .i64 d0, .int .i64 d1, .int .i64 d2, .slice AD LD.length cd, .int .i64 l0, .int .i64 l1, .int .i64 l2, .slice AL LL.length cl, .int .i64 p0, .int .i64 p1, .int .i64 p2, .slice A cs.length ca, .int .u32 hist, .slice R rs.length ra, .slice N ns.length nc] _ HR0.out Try.underlying67 rfl (by kernel_rfl) ?_)
      clear hq hqt hq0 hlt
      by_cases hok : SimOk k0 k1 k2 k3 k4 k5 k6 k7 k8 k9 k10 k11 i0 i1 i2 d0 d1 d2 l0 l1 l2 p0 p1 p2 LI LD LL cs rs hist ns
      rotate_left
      · have HBAD := Lib.hid hok
        clear hok
        refine (Feed_bad k0 k1 k2 k3 k4 k5 k6 k7 k8 k9 k10 k11 i0 i1 i2 d0 d1 d2 l0 l1 l2 p0 p1 p2 AI AD AL A R N AE ci cd cl ca ra nc es.length ce vI vD vL LI LD LL cs rs hist ns _ HI.out HD.out HL.out HP.out.cnt HN.out hh HBAD.out).mono ?_
        rintro e W2 ⟨rfl, hb2⟩
        have HB2 := Lib.hid (bvia HB1.out hb2 (Nat.le_refl _))
        clear hb2
        obtain ⟨W3, hW3⟩ : ∃ W3, (W2.alloc zeroS).setRow W2.heap.size zeroA = W3 := ⟨_, rfl⟩
        have hb23 : Below W2.heap.size W2 W3 := by rw [← hW3]; exact (balloc W2 zeroS).trans ((Upd.setRow _ _ _).below (by simp) fun k hk => by omega)
        have HB3 := Lib.hid (bvia HB2.out hb23 (Nat.le_refl _))
        have HW3 := Lib.hid hW3
        clear hb23 hW3
        go_wp2_with (refine wpList_store_row rfl 67 (.tmp 9) (.tmp 55) rfl W2.heap.size zeroA rfl rfl 67 _ (heap_alloc_new W2 zeroS) (by kernel_rfl) rfl (by simp [Value.oneCell', zeroA]) ?_; rw [HW3.out])
        refine (sane_any _).mono ?_
        rintro e W4 ⟨rfl, hb4⟩
        have HB4 := Lib.hid (bvia HB3.out hb4 (Nat.le_refl _))
        clear hb4
        go_wp2_with fail
        go_ret
        exact ⟨rfl, HB4.out⟩
      obtain ⟨hs, ⟨rfl, rfl, rfl⟩, ⟨rfl, rfl, rfl⟩, ⟨rfl, rfl, rfl⟩, ⟨rfl, rfl, rfl⟩, oI, oD, oL, oP, oLen, oN⟩ := hok
      have hlI := oI.2.1
      have hlD := oD.2.1
      have hlL := oL.2.1
      subst hlI
      subst hlD
      subst hlL
      have hp1 : 0 ≤ p1 := by have := oP.1; simp [predShapeB] at this; omega
      obtain ⟨hn, rfl⟩ := Int.eq_ofNat_of_zero_le hp1
      have HON := Lib.hid (nOk_of oN H14.out)
      have HOK0 : Hid (GOk ⟨i0, i2, d0, d2, l0, l2, p2, hn⟩ p0 LI.length LD.length LL.length ⟨LI, LD, LL, ns, cs, hist, rs⟩) := Lib.hid ⟨oI, oD, oL, HON.out, oP, hh.1⟩
      have HS := Lib.hid hs
      have OI := Lib.hid oI
      have OD := Lib.hid oD
      have OL := Lib.hid oL
      have OP := Lib.hid oP
      clear hs oI oD oL oP oLen oN hp1
      refine (Feed_any i0 i2 d0 d2 l0 l2 p0 (hn : Int) p2 AI AD AL A R N AE ci cd cl ca ra nc ce hn vI vD vL LI LD LL cs rs hist ns es _ HS.out HI.out HD.out HL.out ZI.out ZD.out ZL.out HP.out HN.out ZN.out HE.out OI.out OD.out OL.out OP.out HON.out rfl hh (by omega) (by omega) HEV.out).mono ?_
      rintro e W2 hF2
      have hb2 := hF2.bel
      have HB2 := Lib.hid (bvia HB1.out hb2 (Nat.le_refl _))
      cases hfd : GS.feed ⟨i0, i2, d0, d2, l0, l2, p2, hn⟩ ⟨LI, LD, LL, ns, cs, hist, rs⟩ es with
      | none =>
        have he2 := hF2.no hfd
        subst he2
        obtain ⟨W3, hW3⟩ : ∃ W3, (W2.alloc zeroS).setRow W2.heap.size zeroA = W3 := ⟨_, rfl⟩
        have hb23 : Below W2.heap.size W2 W3 := by rw [← hW3]; exact (balloc W2 zeroS).trans ((Upd.setRow _ _ _).below (by simp) fun k hk => by omega)
        have HB3 := Lib.hid (bvia HB2.out hb23 (Nat.le_refl _))
        have HW3 := Lib.hid hW3
        clear hb23 hW3 hF2 hfd hb2
        go_wp2_with (refine wpList_store_row rfl 67 (.tmp 9) (.tmp 55) rfl W2.heap.size zeroA rfl rfl 67 _ (heap_alloc_new W2 zeroS) (by kernel_rfl) rfl (by simp [Value.oneCell', zeroA]) ?_; rw [HW3.out])
        refine (sane_any _).mono ?_
        rintro e W4 ⟨rfl, hb4⟩
        have HB4 := Lib.hid (bvia HB3.out hb4 (Nat.le_refl _))
        clear hb4
        go_wp2_with fail
        go_ret
        exact ⟨rfl, HB4.out⟩
      | some s =>
        obtain ⟨gI5, kI5, aI5, gD5, kD5, aD5, gL5, kL5, aL5, N5, nc5, gP5, cP5, R5, r5, he5, fr5⟩ := hF2.ok s hfd
        dsimp only at he5
        subst he5
        obtain ⟨W3, hW3⟩ : ∃ W3, (W2.alloc zeroS).setRow W2.heap.size #[.int .i64 i0, .int .i64 (LI.length : Int), .int .i64 i2, .int .i64 d0, .int .i64 (LD.length : Int), .int .i64 d2, .int .i64 l0, .int .i64 (LL.length : Int), .int .i64 l2, .int .i64 p0, .int .i64 (hn : Int), .int .i64 p2, .int .i64 i0, .int .i64 (LI.length : Int), .int .i64 i2, .slice (some ⟨gI5, 0, none⟩) LI.length kI5, .int .i64 d0, .int .i64 (LD.length : Int), .int .i64 d2, .slice (some ⟨gD5, 0, none⟩) LD.length kD5, .int .i64 l0, .int .i64 (LL.length : Int), .int .i64 l2, .slice (some ⟨gL5, 0, none⟩) LL.length kL5, .int .i64 p0, .int .i64 (hn : Int), .int .i64 p2, .slice (some ⟨gP5, 0, none⟩) s.cs.length cP5, .int .u32 s.hist, .slice R5 s.rs.length r5, .slice N5 s.N.length nc5] = W3 := ⟨_, rfl⟩
        have hb23 : Below W2.heap.size W2 W3 := by rw [← hW3]; exact (balloc W2 zeroS).trans ((Upd.setRow _ _ _).below (by simp) fun k hk => by omega)
        have hx3 : W3.heap[W2.heap.size]? = some (.cells #[.int .i64 i0, .int .i64 (LI.length : Int), .int .i64 i2, .int .i64 d0, .int .i64 (LD.length : Int), .int .i64 d2, .int .i64 l0, .int .i64 (LL.length : Int), .int .i64 l2, .int .i64 p0, .int .i64 (hn : Int), .int .i64 p2, .int .i64 i0, .int .i64 (LI.length : Int), .int .i64 i2, .slice (some ⟨gI5, 0, none⟩) LI.length kI5, .int .i64 d0, .int .i64 (LD.length : Int), .int .i64 d2, .slice (some ⟨gD5, 0, none⟩) LD.length kD5, .int .i64 l0, .int .i64 (LL.length : Int), .int .i64 l2, .slice (some ⟨gL5, 0, none⟩) LL.length kL5, .int .i64 p0, .int .i64 (hn : Int), .int .i64 p2, .slice (some ⟨gP5, 0, none⟩) s.cs.length cP5, .int .u32 s.hist, .slice R5 s.rs.length r5, .slice N5 s.N.length nc5] 67 (0, 0)) := by rw [← hW3]; exact setRow_heap (heap_alloc_new W2 zeroS) _
        have HB3 := Lib.hid (bvia HB2.out hb23 (Nat.le_refl _))
        have b13 := bvia hb2 hb23 (Nat.le_refl _)
        have HW3 := Lib.hid hW3
        have HX3 := Lib.hid hx3
        have HB23 := Lib.hid hb23
        have HFR := Lib.hid fr5
        have HFD := Lib.hid hfd
        have HY3 := Lib.hid (belowBox b13 HX0.out)
        replace HI := Lib.hid (HI.out.below b13)
        replace HD := Lib.hid (HD.out.below b13)
        replace HL := Lib.hid (HL.out.below b13)
        replace HP := Lib.hid (HP.out.below b13)
        replace HN := Lib.hid (HN.out.below b13)
        replace HE := Lib.hid (HE.out.below b13)
        clear hb23 hW3 hx3 hF2 hfd hb2 fr5 b13
        go_wp2_with (refine wpList_store_row rfl 67 (.tmp 9) (.tmp 55) rfl W2.heap.size #[.int .i64 i0, .int .i64 (LI.length : Int), .int .i64 i2, .int .i64 d0, .int .i64 (LD.length : Int), .int .i64 d2, .int .i64 l0, .int .i64 (LL.length : Int), .int .i64 l2, .int .i64 p0, .int .i64 (hn : Int), .int .i64 p2, .int .i64 i0, .int .i64 (LI.length : Int), .int .i64 i2, .slice (some ⟨gI5, 0, none⟩) LI.length kI5, .int .i64 d0, .int .i64 (LD.length : Int), .int .i64 d2, .slice (some ⟨gD5, 0, none⟩) LD.length kD5, .int .i64 l0, .int .i64 (LL.length : Int), .int .i64 l2, .slice (some ⟨gL5, 0, none⟩) LL.length kL5, .int .i64 p0, .int .i64 (hn : Int), .int .i64 p2, .slice (some ⟨gP5, 0, none⟩) s.cs.length cP5, .int .u32 s.hist, .slice R5 s.rs.length r5, .slice N5 s.N.length nc5] rfl rfl 67 _ (heap_alloc_new W2 zeroS) (by kernel_rfl) rfl (by simp [Value.oneCell']) ?_; rw [HW3.out])
        obtain ⟨s1, h1, h2⟩ := split_feed HFD.out q
        have HF1 := Lib.hid h1
        have HF2 := Lib.hid h2
        clear h1 h2
        obtain ⟨e1, he1⟩ : ∃ l, es.take q = l := ⟨_, rfl⟩
        obtain ⟨e2, he2⟩ : ∃ l, es.drop q = l := ⟨_, rfl⟩
        have htq : e1.length = q := by rw [← he1, List.length_take]; omega
        rw [he1] at HF1
        rw [he2] at HF2
        have hE1 : RdE W3.drew AE e1 := by rw [← he1]; exact (rdE_take HE.out q).below (bdrewN (Below.refl _ W3) 1)
        have hev1 : ∀ k, k < e1.length → EvU (gn e1 k) := fun k hk => by rw [← he1, gn_takeS _ _ _ (by omega)]; exact HEV.out k (by omega)
        have HE1 := Lib.hid hE1
        have HEV1 := Lib.hid hev1
        have HTK := Lib.hid he1
        have HDR := Lib.hid he2
        clear he1 he2 hE1 hev1
        subst htq
        have hqc : (e1.length : Int) ≤ (ce : Int) := by omega
        obtain ⟨li1, li2, _⟩ := shapeB_line OI.out.1
        obtain ⟨ld1, ld2, _⟩ := shapeB_line OD.out.1
        obtain ⟨ll1, ll2, _⟩ := shapeB_line OL.out.1
        have HGU0 : Hid (GU ⟨LI, LD, LL, ns, cs, hist, rs⟩) := Lib.hid ⟨allU_rd HI.out, allU_rd HD.out, allU_rd HL.out⟩
        have HGU1 := Lib.hid (GU.feed (K := ⟨i0, i2, d0, d2, l0, l2, p2, hn⟩) ⟨by show 1 ≤ i0; omega, by show i0 ≤ 4294967296; omega⟩ ⟨by show 1 ≤ d0; omega, by show d0 ≤ 4294967296; omega⟩ ⟨by show 1 ≤ l0; omega, by show l0 ≤ 4294967296; omega⟩ e1 HGU0.out HF1.out)
        clear li1 li2 ld1 ld2 ll1 ll2
        have HI1 := Lib.hid (HI.out.below (bdrewN (Below.refl _ W3) 1))
        have HD1 := Lib.hid (HD.out.below (bdrewN (Below.refl _ W3) 1))
        have HL1 := Lib.hid (HL.out.below (bdrewN (Below.refl _ W3) 1))
        have HP1 := Lib.hid (HP.out.below (bdrewN (Below.refl _ W3) 1))
        have HN1 := Lib.hid (HN.out.below (bdrewN (Below.refl _ W3) 1))
        go_cut [11, 12] from 60 to 67 (fun s11 s12 wx => YE i0 i2 d0 d2 l0 l2 p0 p2 hn LI.length LD.length LL.length s1 W3 s11 s12 wx)
        case first =>
          have hrg : ∀ W' : World, W'.heap[w.heap.size]? = some (.cells #[.int .i64 i0, .int .i64 (LI.length : Int), .int .i64 i2, .int .i64 d0, .int .i64 (LD.length : Int), .int .i64 d2, .int .i64 l0, .int .i64 (LL.length : Int), .int .i64 l2, .int .i64 p0, .int .i64 (hn : Int), .int .i64 p2, .int .i64 i0, .int .i64 (LI.length : Int), .int .i64 i2, .slice AI LI.length ci, .int .i64 d0, .int .i64 (LD.length : Int), .int .i64 d2, .slice AD LD.length cd, .int .i64 l0, .int .i64 (LL.length : Int), .int .i64 l2, .slice AL LL.length cl, .int .i64 p0, .int .i64 (hn : Int), .int .i64 p2, .slice A cs.length ca, .int .u32 hist, .slice R rs.length ra, .slice N ns.length nc] 67 (0, 0)) → W'.rangeAt w.heap.size 0 [.int .i64 i0, .int .i64 (LI.length : Int), .int .i64 i2, .int .i64 d0, .int .i64 (LD.length : Int), .int .i64 d2, .int .i64 l0, .int .i64 (LL.length : Int), .int .i64 l2, .int .i64 p0, .int .i64 (hn : Int), .int .i64 p2, .int .i64 i0, .int .i64 (LI.length : Int), .int .i64 i2, .slice AI LI.length ci, .int .i64 d0, .int .i64 (LD.length : Int), .int .i64 d2, .slice AD LD.length cd, .int .i64 l0, .int .i64 (LL.length : Int), .int .i64 l2, .slice AL LL.length cl, .int .i64 p0, .int .i64 (hn : Int), .int .i64 p2, .slice A cs.length ca, .int .u32 hist, .slice R rs.length ra, .slice N ns.length nc] := fun W' h' => range_sub h' 0 _ rfl
          have HRG := Lib.hid hrg
          clear hrg
          refine wp_region_noPanic ?_
          refine wp_region_held_drew (S := fun W' => W'.heap[w.heap.size]? = some (.cells #[.int .i64 i0, .int .i64 (LI.length : Int), .int .i64 i2, .int .i64 d0, .int .i64 (LD.length : Int), .int .i64 d2, .int .i64 l0, .int .i64 (LL.length : Int), .int .i64 l2, .int .i64 p0, .int .i64 (hn : Int), .int .i64 p2, .int .i64 i0, .int .i64 (LI.length : Int), .int .i64 i2, .slice AI LI.length ci, .int .i64 d0, .int .i64 (LD.length : Int), .int .i64 d2, .slice AD LD.length cd, .int .i64 l0, .int .i64 (LL.length : Int), .int .i64 l2, .slice AL LL.length cl, .int .i64 p0, .int .i64 (hn : Int), .int .i64 p2, .slice A cs.length ca, .int .u32 hist, .slice R rs.length ra, .slice N ns.length nc] 67 (0, 0))) (by kernel_rfl) HY3.out (fun hH => ?_)
          refine wpAnyH_take (i := 0) (oi := { dst := some 61, op := Op.load 67 (Operand.tmp 3), type := 67, pos := "law.go:435", after := #[], guard := none }) (v := .agg #[.int .i64 i0, .int .i64 (LI.length : Int), .int .i64 i2, .int .i64 d0, .int .i64 (LD.length : Int), .int .i64 d2, .int .i64 l0, .int .i64 (LL.length : Int), .int .i64 l2, .int .i64 p0, .int .i64 (hn : Int), .int .i64 p2, .int .i64 i0, .int .i64 (LI.length : Int), .int .i64 i2, .slice AI LI.length ci, .int .i64 d0, .int .i64 (LD.length : Int), .int .i64 d2, .slice AD LD.length cd, .int .i64 l0, .int .i64 (LL.length : Int), .int .i64 l2, .slice AL LL.length cl, .int .i64 p0, .int .i64 (hn : Int), .int .i64 p2, .slice A cs.length ca, .int .u32 hist, .slice R rs.length ra, .slice N ns.length nc]) rfl (by kernel_rfl) (by kernel_rfl) (by kernel_rfl) (fun _ _ _ h => h) (yieldsIf_load_mid (by rfl) 67 (Operand.tmp 3) rfl w.heap.size 0 rfl [.int .i64 i0, .int .i64 (LI.length : Int), .int .i64 i2, .int .i64 d0, .int .i64 (LD.length : Int), .int .i64 d2, .int .i64 l0, .int .i64 (LL.length : Int), .int .i64 l2, .int .i64 p0, .int .i64 (hn : Int), .int .i64 p2, .int .i64 i0, .int .i64 (LI.length : Int), .int .i64 i2, .slice AI LI.length ci, .int .i64 d0, .int .i64 (LD.length : Int), .int .i64 d2, .slice AD LD.length cd, .int .i64 l0, .int .i64 (LL.length : Int), .int .i64 l2, .slice AL LL.length cl, .int .i64 p0, .int .i64 (hn : Int), .int .i64 p2, .slice A cs.length ca, .int .u32 hist, .slice R rs.length ra, .slice N ns.length nc] _ (fun W' h' => HRG.out W' h') Try.underlying67 rfl (by kernel_rfl)) hH ?_
          try simp only [Act.put, List.setIfInBounds_toArray, List.set_cons_zero, List.set_cons_succ]
          refine wpAnyH_take (i := 1) (oi := { dst := some 62, op := Op.move (Operand.tmp 1), type := 68, pos := "law.go:435", after := #[], guard := none }) (v := .slice AE es.length ce) rfl (by kernel_rfl) (by kernel_rfl) (by kernel_rfl) (fun _ _ _ h => h) (Or.inl ⟨by rfl, fun W' hW' => by go_simp⟩) hH ?_
          try simp only [Act.put, List.setIfInBounds_toArray, List.set_cons_zero, List.set_cons_succ]
          refine wpAnyH_take (i := 2) (oi := { dst := some 63, op := Op.move (Operand.tmp 8), type := 3, pos := "law.go:435", after := #[], guard := none }) (v := .int .i64 (e1.length : Int)) rfl (by kernel_rfl) (by kernel_rfl) (by kernel_rfl) (fun _ _ _ h => h) (Or.inl ⟨by rfl, fun W' hW' => by go_simp⟩) hH ?_
          try simp only [Act.put, List.setIfInBounds_toArray, List.set_cons_zero, List.set_cons_succ]
          refine wpAnyH_take (i := 3) (oi := { dst := some 64, op := Op.slice 68 (Operand.tmp 62) none (some (Operand.tmp 63)) none, type := 68, pos := "law.go:435", after := #[{ on := 1, ground := Ground.data }, { on := 2, ground := Ground.data }], guard := none }) (v := .slice AE e1.length ce) rfl (by kernel_rfl) (by kernel_rfl) (by kernel_rfl) (fun _ _ _ h => h) (Or.inl ⟨by rfl, fun W' hW' => by go_simp⟩) hH ?_
          try simp only [Act.put, List.setIfInBounds_toArray, List.set_cons_zero, List.set_cons_succ]
          refine wpAnyH_ready (rs := [4, 8]) (by kernel_rfl) (by simp) ?_
          refine AllReadyH.cons (o := { dst := some 65, op := Op.call { callee := Callee.value (Operand.func 28), args := #[Operand.tmp 61, Operand.tmp 64], argTypes := #[67, 68] }, type := 72, pos := "law.go:435", after := #[{ on := 0, ground := Ground.data }, { on := 3, ground := Ground.data }], guard := none }) rfl (fun K hK => ?_) (AllReadyH.cons (o := { dst := some 11, op := Op.alloc 67, type := 0, pos := "law.go:435", after := #[], guard := none }) rfl (fun K hK => ?_) AllReadyH.nil)
          · go_wp2_with fail
            refine (Feed_any i0 i2 d0 d2 l0 l2 p0 (hn : Int) p2 AI AD AL A R N AE ci cd cl ca ra nc ce hn vI vD vL LI LD LL cs rs hist ns e1 W3.drew HS.out HI1.out HD1.out HL1.out ZI.out ZD.out ZL.out HP1.out HN1.out ZN.out HE1.out OI.out OD.out OL.out OP.out HON.out rfl hh (by omega) (by omega) HEV1.out).mono ?_
            rintro e Wf hF
            obtain ⟨gI6, kI6, aI6, gD6, kD6, aD6, gL6, kL6, aL6, N6, nc6, gP6, cP6, R6, r6, he, fr⟩ := hF.ok s1 HF1.out
            dsimp only at he
            subst he
            have hbf := hF.bel
            have HFR := Lib.hid fr
            have HBF := Lib.hid hbf
            have hS4 := belowBox ((bdrewN (Below.refl _ W3) 1).trans hbf) HY3.out
            refine hK.out _ _ hS4 (fun hH4 => ?_)
            clear hK K
            try simp only [Act.put, List.setIfInBounds_toArray, List.set_cons_zero, List.set_cons_succ]
            refine wpAnyH_take (i := 5) (oi := { dst := some 60, op := Op.move (Operand.tmp 65), type := 72, pos := "law.go:435", after := #[{ on := 4, ground := Ground.data }], guard := none }) (v := .tuple #[.agg #[.int .i64 i0, .int .i64 (LI.length : Int), .int .i64 i2, .int .i64 d0, .int .i64 (LD.length : Int), .int .i64 d2, .int .i64 l0, .int .i64 (LL.length : Int), .int .i64 l2, .int .i64 p0, .int .i64 (hn : Int), .int .i64 p2, .int .i64 i0, .int .i64 (LI.length : Int), .int .i64 i2, .slice (some ⟨gI6, 0, none⟩) LI.length kI6, .int .i64 d0, .int .i64 (LD.length : Int), .int .i64 d2, .slice (some ⟨gD6, 0, none⟩) LD.length kD6, .int .i64 l0, .int .i64 (LL.length : Int), .int .i64 l2, .slice (some ⟨gL6, 0, none⟩) LL.length kL6, .int .i64 p0, .int .i64 (hn : Int), .int .i64 p2, .slice (some ⟨gP6, 0, none⟩) s1.cs.length cP6, .int .u32 s1.hist, .slice R6 s1.rs.length r6, .slice N6 s1.N.length nc6], .int .i64 0]) rfl (by kernel_rfl) (by kernel_rfl) (by kernel_rfl) (fun _ _ _ h => h) (Or.inl ⟨by rfl, fun W' hW' => by kernel_rfl⟩) hH4 ?_
            try simp only [Act.put, List.setIfInBounds_toArray, List.set_cons_zero, List.set_cons_succ]
            refine wpAnyH_take (i := 6) (oi := { dst := some 66, op := Op.extract (Operand.tmp 60) 0, type := 67, pos := "law.go:435", after := #[{ on := 5, ground := Ground.data }], guard := none }) (v := .agg #[.int .i64 i0, .int .i64 (LI.length : Int), .int .i64 i2, .int .i64 d0, .int .i64 (LD.length : Int), .int .i64 d2, .int .i64 l0, .int .i64 (LL.length : Int), .int .i64 l2, .int .i64 p0, .int .i64 (hn : Int), .int .i64 p2, .int .i64 i0, .int .i64 (LI.length : Int), .int .i64 i2, .slice (some ⟨gI6, 0, none⟩) LI.length kI6, .int .i64 d0, .int .i64 (LD.length : Int), .int .i64 d2, .slice (some ⟨gD6, 0, none⟩) LD.length kD6, .int .i64 l0, .int .i64 (LL.length : Int), .int .i64 l2, .slice (some ⟨gL6, 0, none⟩) LL.length kL6, .int .i64 p0, .int .i64 (hn : Int), .int .i64 p2, .slice (some ⟨gP6, 0, none⟩) s1.cs.length cP6, .int .u32 s1.hist, .slice R6 s1.rs.length r6, .slice N6 s1.N.length nc6]) rfl (by kernel_rfl) (by kernel_rfl) (by kernel_rfl) (fun _ _ _ h => h) (Or.inl ⟨by rfl, fun W' hW' => by kernel_rfl⟩) hH4 ?_
            try simp only [Act.put, List.setIfInBounds_toArray, List.set_cons_zero, List.set_cons_succ]
            refine wpAnyH_take (i := 7) (oi := { dst := some 67, op := Op.extract (Operand.tmp 60) 1, type := 53, pos := "law.go:435", after := #[{ on := 5, ground := Ground.data }, { on := 9, ground := Ground.gcOnly Departure.lateStores }], guard := none }) (v := .int .i64 0) rfl (by kernel_rfl) (by kernel_rfl) (by kernel_rfl) (fun _ _ _ h => h) (Or.inl ⟨by rfl, fun W' hW' => by kernel_rfl⟩) hH4 ?_
            try simp only [Act.put, List.setIfInBounds_toArray, List.set_cons_zero, List.set_cons_succ]
            refine wpAnyH_ready (rs := [8]) (by kernel_rfl) (by simp) ?_
            refine AllReadyH.cons (o := { dst := some 11, op := Op.alloc 67, type := 0, pos := "law.go:435", after := #[], guard := none }) rfl (fun K hK => ?_) AllReadyH.nil
            rw [if_pos (by rfl)]
            refine wp_of_run (v := .pointer (some ⟨Wf.heap.size, 0, none⟩)) (w' := Wf.alloc zeroS) (by kernel_rfl) ?_
            have hS5 := boxAlS (o := zeroS) hS4
            have hzz := heap_alloc_new Wf zeroS
            have hlt4 := (Array.getElem?_eq_some_iff.1 hS4).1
            refine hK.out _ _ hS5 (fun hH5 => ?_)
            clear hK K
            try simp only [Act.put, List.setIfInBounds_toArray, List.set_cons_zero, List.set_cons_succ]
            refine wpAnyH_ready (rs := [9]) (by kernel_rfl) (by simp) ?_
            refine AllReadyH.cons (o := { dst := none, op := Op.store 67 (Operand.tmp 11) (Operand.tmp 66), type := 0, pos := "law.go:435", after := #[{ on := 8, ground := Ground.data }, { on := 6, ground := Ground.data }, { on := 4, ground := Ground.chain }, { on := 0, ground := Ground.phase }, { on := 1, ground := Ground.phase }, { on := 2, ground := Ground.phase }, { on := 3, ground := Ground.phase }, { on := 4, ground := Ground.phase }, { on := 5, ground := Ground.phase }, { on := 6, ground := Ground.phase }, { on := 7, ground := Ground.textOnly Departure.lateStores }, { on := 8, ground := Ground.phase }], guard := none }) rfl (fun K hK => ?_) AllReadyH.nil
            rw [if_pos (by rfl)]
            refine wp_store_row 67 (.tmp 11) (.tmp 66) rfl Wf.heap.size #[.int .i64 i0, .int .i64 (LI.length : Int), .int .i64 i2, .int .i64 d0, .int .i64 (LD.length : Int), .int .i64 d2, .int .i64 l0, .int .i64 (LL.length : Int), .int .i64 l2, .int .i64 p0, .int .i64 (hn : Int), .int .i64 p2, .int .i64 i0, .int .i64 (LI.length : Int), .int .i64 i2, .slice (some ⟨gI6, 0, none⟩) LI.length kI6, .int .i64 d0, .int .i64 (LD.length : Int), .int .i64 d2, .slice (some ⟨gD6, 0, none⟩) LD.length kD6, .int .i64 l0, .int .i64 (LL.length : Int), .int .i64 l2, .slice (some ⟨gL6, 0, none⟩) LL.length kL6, .int .i64 p0, .int .i64 (hn : Int), .int .i64 p2, .slice (some ⟨gP6, 0, none⟩) s1.cs.length cP6, .int .u32 s1.hist, .slice R6 s1.rs.length r6, .slice N6 s1.N.length nc6] rfl rfl 67 _ hzz (by kernel_rfl) rfl (by simp [Value.oneCell']) ?_
            refine hK.out _ _ ((Upd.setRow _ _ _).block _ (Array.getElem?_eq_some_iff.1 hS5).1 (by omega) |>.trans hS5) (fun hH9 => ?_)
            clear hK K
            try simp only [Act.put, List.setIfInBounds_toArray, List.set_cons_zero, List.set_cons_succ]
            refine wpAnyH_take (i := 10) (oi := { dst := some 12, op := Op.assign (Operand.tmp 67), type := 53, pos := "law.go:435", after := #[{ on := 7, ground := Ground.data }, { on := 9, ground := Ground.chain }, { on := 0, ground := Ground.phase }, { on := 1, ground := Ground.phase }, { on := 2, ground := Ground.phase }, { on := 3, ground := Ground.phase }, { on := 4, ground := Ground.phase }, { on := 5, ground := Ground.phase }, { on := 6, ground := Ground.phase }, { on := 7, ground := Ground.phase }, { on := 8, ground := Ground.phase }, { on := 9, ground := Ground.phase }], guard := none }) (v := .int .i64 0) rfl (by kernel_rfl) (by kernel_rfl) (by kernel_rfl) (fun _ _ _ h => h) (Or.inl ⟨by rfl, fun W' hW' => by kernel_rfl⟩) hH9 ?_
            try simp only [Act.put, List.setIfInBounds_toArray, List.set_cons_zero, List.set_cons_succ]
            refine wpAnyH_done (by kernel_rfl) ?_ _
            refine NoPanic.normal ?_
            go_wp2_with fail
            go_meet
            case rel => exact YE.mk HGU1.out HFR.out ((bdrewN (Below.refl _ W3) 1).trans HBF.out) (Nat.le_refl _) ((Upd.alloc _ Wf zeroS).trans (Upd.setRow _ _ _) fun k hk => .inr (by omega)) (setRow_heap (heap_alloc_new Wf zeroS) _)
          · rw [if_pos (by rfl)]
            refine wp_of_run (v := .pointer (some ⟨W3.heap.size, 0, none⟩)) (w' := W3.drew.alloc zeroS) (by kernel_rfl) ?_
            have hS3 := boxAlS (o := zeroS) (show W3.drew.heap[w.heap.size]? = _ from HY3.out)
            refine hK.out _ _ hS3 (fun hH3 => ?_)
            clear hK K
            try simp only [Act.put, List.setIfInBounds_toArray, List.set_cons_zero, List.set_cons_succ]
            obtain ⟨Wa, hWa⟩ : ∃ W, W3.drew.alloc zeroS = W := ⟨_, rfl⟩
            have hba : Below W3.drew.heap.size W3.drew Wa := by rw [← hWa]; exact balloc _ _
            have hza : Wa.heap[W3.heap.size]? = some zeroS := by rw [← hWa]; exact heap_alloc_new W3.drew zeroS
            have hsa : Wa.heap.size = W3.heap.size + 1 := by rw [← hWa]; simp
            rw [hWa] at hS3 hH3 ⊢
            have HI2 := Lib.hid (HI1.out.below hba)
            have HD2 := Lib.hid (HD1.out.below hba)
            have HL2 := Lib.hid (HL1.out.below hba)
            have HP2 := Lib.hid (HP1.out.below hba)
            have HN2 := Lib.hid (HN1.out.below hba)
            have HE2 := Lib.hid (HE1.out.below hba)
            have hsa2 : W3.drew.heap.size ≤ Wa.heap.size := hba.size
            clear hWa
            refine wpAnyH_ready (rs := [4]) (by kernel_rfl) (by simp) ?_
            refine AllReadyH.cons (o := { dst := some 65, op := Op.call { callee := Callee.value (Operand.func 28), args := #[Operand.tmp 61, Operand.tmp 64], argTypes := #[67, 68] }, type := 72, pos := "law.go:435", after := #[{ on := 0, ground := Ground.data }, { on := 3, ground := Ground.data }], guard := none }) rfl (fun K hK => ?_) AllReadyH.nil
            go_wp2_with fail
            refine (Feed_any i0 i2 d0 d2 l0 l2 p0 (hn : Int) p2 AI AD AL A R N AE ci cd cl ca ra nc ce hn vI vD vL LI LD LL cs rs hist ns e1 Wa HS.out HI2.out HD2.out HL2.out ZI.out ZD.out ZL.out HP2.out HN2.out ZN.out HE2.out OI.out OD.out OL.out OP.out HON.out rfl hh (by omega) (by omega) HEV1.out).mono ?_
            rintro e Wf hF
            obtain ⟨gI6, kI6, aI6, gD6, kD6, aD6, gL6, kL6, aL6, N6, nc6, gP6, cP6, R6, r6, he, fr⟩ := hF.ok s1 HF1.out
            dsimp only at he
            subst he
            have hbf := hF.bel
            have hS4 := belowBox hbf hS3
            have hS5 := hS4
            have hzz := belowBox hbf hza
            have HZZ := Lib.hid hzz
            have HFR := Lib.hid fr
            have HBF := Lib.hid (((bdrewN (Below.refl _ W3) 1).trans hba).trans (hbf.mono hsa2))
            have hlt4 := (Array.getElem?_eq_some_iff.1 hS4).1
            have hltX := (Array.getElem?_eq_some_iff.1 HY3.out).1
            refine hK.out _ _ hS4 (fun hH4 => ?_)
            clear hK K
            try simp only [Act.put, List.setIfInBounds_toArray, List.set_cons_zero, List.set_cons_succ]
            refine wpAnyH_take (i := 5) (oi := { dst := some 60, op := Op.move (Operand.tmp 65), type := 72, pos := "law.go:435", after := #[{ on := 4, ground := Ground.data }], guard := none }) (v := .tuple #[.agg #[.int .i64 i0, .int .i64 (LI.length : Int), .int .i64 i2, .int .i64 d0, .int .i64 (LD.length : Int), .int .i64 d2, .int .i64 l0, .int .i64 (LL.length : Int), .int .i64 l2, .int .i64 p0, .int .i64 (hn : Int), .int .i64 p2, .int .i64 i0, .int .i64 (LI.length : Int), .int .i64 i2, .slice (some ⟨gI6, 0, none⟩) LI.length kI6, .int .i64 d0, .int .i64 (LD.length : Int), .int .i64 d2, .slice (some ⟨gD6, 0, none⟩) LD.length kD6, .int .i64 l0, .int .i64 (LL.length : Int), .int .i64 l2, .slice (some ⟨gL6, 0, none⟩) LL.length kL6, .int .i64 p0, .int .i64 (hn : Int), .int .i64 p2, .slice (some ⟨gP6, 0, none⟩) s1.cs.length cP6, .int .u32 s1.hist, .slice R6 s1.rs.length r6, .slice N6 s1.N.length nc6], .int .i64 0]) rfl (by kernel_rfl) (by kernel_rfl) (by kernel_rfl) (fun _ _ _ h => h) (Or.inl ⟨by rfl, fun W' hW' => by kernel_rfl⟩) hH4 ?_
            try simp only [Act.put, List.setIfInBounds_toArray, List.set_cons_zero, List.set_cons_succ]
            refine wpAnyH_take (i := 6) (oi := { dst := some 66, op := Op.extract (Operand.tmp 60) 0, type := 67, pos := "law.go:435", after := #[{ on := 5, ground := Ground.data }], guard := none }) (v := .agg #[.int .i64 i0, .int .i64 (LI.length : Int), .int .i64 i2, .int .i64 d0, .int .i64 (LD.length : Int), .int .i64 d2, .int .i64 l0, .int .i64 (LL.length : Int), .int .i64 l2, .int .i64 p0, .int .i64 (hn : Int), .int .i64 p2, .int .i64 i0, .int .i64 (LI.length : Int), .int .i64 i2, .slice (some ⟨gI6, 0, none⟩) LI.length kI6, .int .i64 d0, .int .i64 (LD.length : Int), .int .i64 d2, .slice (some ⟨gD6, 0, none⟩) LD.length kD6, .int .i64 l0, .int .i64 (LL.length : Int), .int .i64 l2, .slice (some ⟨gL6, 0, none⟩) LL.length kL6, .int .i64 p0, .int .i64 (hn : Int), .int .i64 p2, .slice (some ⟨gP6, 0, none⟩) s1.cs.length cP6, .int .u32 s1.hist, .slice R6 s1.rs.length r6, .slice N6 s1.N.length nc6]) rfl (by kernel_rfl) (by kernel_rfl) (by kernel_rfl) (fun _ _ _ h => h) (Or.inl ⟨by rfl, fun W' hW' => by kernel_rfl⟩) hH4 ?_
            try simp only [Act.put, List.setIfInBounds_toArray, List.set_cons_zero, List.set_cons_succ]
            refine wpAnyH_take (i := 7) (oi := { dst := some 67, op := Op.extract (Operand.tmp 60) 1, type := 53, pos := "law.go:435", after := #[{ on := 5, ground := Ground.data }, { on := 9, ground := Ground.gcOnly Departure.lateStores }], guard := none }) (v := .int .i64 0) rfl (by kernel_rfl) (by kernel_rfl) (by kernel_rfl) (fun _ _ _ h => h) (Or.inl ⟨by rfl, fun W' hW' => by kernel_rfl⟩) hH4 ?_
            try simp only [Act.put, List.setIfInBounds_toArray, List.set_cons_zero, List.set_cons_succ]
            refine wpAnyH_ready (rs := [9]) (by kernel_rfl) (by simp) ?_
            refine AllReadyH.cons (o := { dst := none, op := Op.store 67 (Operand.tmp 11) (Operand.tmp 66), type := 0, pos := "law.go:435", after := #[{ on := 8, ground := Ground.data }, { on := 6, ground := Ground.data }, { on := 4, ground := Ground.chain }, { on := 0, ground := Ground.phase }, { on := 1, ground := Ground.phase }, { on := 2, ground := Ground.phase }, { on := 3, ground := Ground.phase }, { on := 4, ground := Ground.phase }, { on := 5, ground := Ground.phase }, { on := 6, ground := Ground.phase }, { on := 7, ground := Ground.textOnly Departure.lateStores }, { on := 8, ground := Ground.phase }], guard := none }) rfl (fun K hK => ?_) AllReadyH.nil
            rw [if_pos (by rfl)]
            refine wp_store_row 67 (.tmp 11) (.tmp 66) rfl W3.heap.size #[.int .i64 i0, .int .i64 (LI.length : Int), .int .i64 i2, .int .i64 d0, .int .i64 (LD.length : Int), .int .i64 d2, .int .i64 l0, .int .i64 (LL.length : Int), .int .i64 l2, .int .i64 p0, .int .i64 (hn : Int), .int .i64 p2, .int .i64 i0, .int .i64 (LI.length : Int), .int .i64 i2, .slice (some ⟨gI6, 0, none⟩) LI.length kI6, .int .i64 d0, .int .i64 (LD.length : Int), .int .i64 d2, .slice (some ⟨gD6, 0, none⟩) LD.length kD6, .int .i64 l0, .int .i64 (LL.length : Int), .int .i64 l2, .slice (some ⟨gL6, 0, none⟩) LL.length kL6, .int .i64 p0, .int .i64 (hn : Int), .int .i64 p2, .slice (some ⟨gP6, 0, none⟩) s1.cs.length cP6, .int .u32 s1.hist, .slice R6 s1.rs.length r6, .slice N6 s1.N.length nc6] rfl rfl 67 _ hzz (by kernel_rfl) rfl (by simp [Value.oneCell']) ?_
            refine hK.out _ _ ((Upd.setRow _ _ _).block _ (Array.getElem?_eq_some_iff.1 hS5).1 (by omega) |>.trans hS5) (fun hH9 => ?_)
            clear hK K
            try simp only [Act.put, List.setIfInBounds_toArray, List.set_cons_zero, List.set_cons_succ]
            refine wpAnyH_take (i := 10) (oi := { dst := some 12, op := Op.assign (Operand.tmp 67), type := 53, pos := "law.go:435", after := #[{ on := 7, ground := Ground.data }, { on := 9, ground := Ground.chain }, { on := 0, ground := Ground.phase }, { on := 1, ground := Ground.phase }, { on := 2, ground := Ground.phase }, { on := 3, ground := Ground.phase }, { on := 4, ground := Ground.phase }, { on := 5, ground := Ground.phase }, { on := 6, ground := Ground.phase }, { on := 7, ground := Ground.phase }, { on := 8, ground := Ground.phase }, { on := 9, ground := Ground.phase }], guard := none }) (v := .int .i64 0) rfl (by kernel_rfl) (by kernel_rfl) (by kernel_rfl) (fun _ _ _ h => h) (Or.inl ⟨by rfl, fun W' hW' => by kernel_rfl⟩) hH9 ?_
            try simp only [Act.put, List.setIfInBounds_toArray, List.set_cons_zero, List.set_cons_succ]
            refine wpAnyH_done (by kernel_rfl) ?_ _
            refine NoPanic.normal ?_
            go_wp2_with fail
            go_meet
            case rel => exact YE.mk HGU1.out HFR.out HBF.out (by omega) ((Upd.setRow _ _ _).mono fun k (hk : k = W3.heap.size) => ⟨by omega, by omega⟩) (setRow_heap HZZ.out _)
        case rest =>
          obtain ⟨wo, rfl⟩ : ∃ wo : World, wo = wc := ⟨wc, rfl⟩
          obtain ⟨bY, gI6, kI6, gD6, kD6, gL6, kL6, aI6, aD6, aL6, N6, nc6, gP6, cP6, R6, r6, rfl, rfl, hY⟩ := hcut
          have HY := Lib.hid hY
          have HYB := Lib.hid hY.box
          have hbel := hY.bel
          have HOK1 := Lib.hid (HOK0.out.feed e1 HF1.out)
          obtain ⟨eI, eD, eL⟩ := HOK1.out.lens
          have HLE := Lib.hid (And.intro eI (And.intro eD eL))
          have hlen1 := feed_len e1 HOK0.out HF1.out
          have hsl1 : s1.N.length ≤ 120 := by simp at hlen1; omega
          obtain ⟨AE2, c2, hsl, hrd2, hz2⟩ := slice_drop (q := e1.length) HE.out hqe hce ZE.out
          rw [HDR.out] at hsl hrd2
          have hle2 : e2.length ≤ 60 := by rw [← HDR.out, List.length_drop]; omega
          have hev2 : ∀ k, k < e2.length → EvU (gn e2 k) := fun k hk => by
            have h1 : gn e2 k = gn es (e1.length + k) := by rw [← HDR.out]; simp [gn, List.getD_eq_getElem?_getD, List.getElem?_drop]
            have h2 : e2.length = es.length - e1.length := by rw [← HDR.out, List.length_drop]
            rw [h1]
            exact HEV.out _ (by omega)
          have HEV2 := Lib.hid hev2
          have HI2 := Lib.hid (hY.i.below (bdrewN (Below.refl _ wo) 1))
          have HD2 := Lib.hid (hY.d.below (bdrewN (Below.refl _ wo) 1))
          have HL2 := Lib.hid (hY.l.below (bdrewN (Below.refl _ wo) 1))
          have HP2 := Lib.hid (hY.p.below (bdrewN (Below.refl _ wo) 1))
          have HN2 := Lib.hid (hY.n.below (bdrewN (Below.refl _ wo) 1))
          have HE2 := Lib.hid (hrd2.below (hbel.trans ((bdrewN (Below.refl _ wo) 1).mono hbel.size)))
          have HGU2 := Lib.hid (gu_feed OI.out.1 OD.out.1 OL.out.1 e2 HGU1.out HF2.out)
          have HBC := Lib.hid hbel
          clear hY hbel eI eD eL hlen1 hrd2 hev2
          go_upto_region 14 with fail
          go_cut [13, 14] from 68 to 75 (fun s11 s12 wx => YE i0 i2 d0 d2 l0 l2 p0 p2 hn LI.length LD.length LL.length s wo s11 s12 wx)
          case first =>
            have hrg : ∀ W' : World, W'.heap[bY]? = some (.cells #[.int .i64 i0, .int .i64 (LI.length : Int), .int .i64 i2, .int .i64 d0, .int .i64 (LD.length : Int), .int .i64 d2, .int .i64 l0, .int .i64 (LL.length : Int), .int .i64 l2, .int .i64 p0, .int .i64 (hn : Int), .int .i64 p2, .int .i64 i0, .int .i64 (LI.length : Int), .int .i64 i2, .slice (some ⟨gI6, 0, none⟩) LI.length kI6, .int .i64 d0, .int .i64 (LD.length : Int), .int .i64 d2, .slice (some ⟨gD6, 0, none⟩) LD.length kD6, .int .i64 l0, .int .i64 (LL.length : Int), .int .i64 l2, .slice (some ⟨gL6, 0, none⟩) LL.length kL6, .int .i64 p0, .int .i64 (hn : Int), .int .i64 p2, .slice (some ⟨gP6, 0, none⟩) s1.cs.length cP6, .int .u32 s1.hist, .slice R6 s1.rs.length r6, .slice N6 s1.N.length nc6] 67 (0, 0)) → W'.rangeAt bY 0 [.int .i64 i0, .int .i64 (LI.length : Int), .int .i64 i2, .int .i64 d0, .int .i64 (LD.length : Int), .int .i64 d2, .int .i64 l0, .int .i64 (LL.length : Int), .int .i64 l2, .int .i64 p0, .int .i64 (hn : Int), .int .i64 p2, .int .i64 i0, .int .i64 (LI.length : Int), .int .i64 i2, .slice (some ⟨gI6, 0, none⟩) LI.length kI6, .int .i64 d0, .int .i64 (LD.length : Int), .int .i64 d2, .slice (some ⟨gD6, 0, none⟩) LD.length kD6, .int .i64 l0, .int .i64 (LL.length : Int), .int .i64 l2, .slice (some ⟨gL6, 0, none⟩) LL.length kL6, .int .i64 p0, .int .i64 (hn : Int), .int .i64 p2, .slice (some ⟨gP6, 0, none⟩) s1.cs.length cP6, .int .u32 s1.hist, .slice R6 s1.rs.length r6, .slice N6 s1.N.length nc6] := fun W' h' => range_sub h' 0 _ rfl
            have HRG := Lib.hid hrg
            clear hrg
            refine wp_region_noPanic ?_
            refine wp_region_held_drew (S := fun W' => W'.heap[bY]? = some (.cells #[.int .i64 i0, .int .i64 (LI.length : Int), .int .i64 i2, .int .i64 d0, .int .i64 (LD.length : Int), .int .i64 d2, .int .i64 l0, .int .i64 (LL.length : Int), .int .i64 l2, .int .i64 p0, .int .i64 (hn : Int), .int .i64 p2, .int .i64 i0, .int .i64 (LI.length : Int), .int .i64 i2, .slice (some ⟨gI6, 0, none⟩) LI.length kI6, .int .i64 d0, .int .i64 (LD.length : Int), .int .i64 d2, .slice (some ⟨gD6, 0, none⟩) LD.length kD6, .int .i64 l0, .int .i64 (LL.length : Int), .int .i64 l2, .slice (some ⟨gL6, 0, none⟩) LL.length kL6, .int .i64 p0, .int .i64 (hn : Int), .int .i64 p2, .slice (some ⟨gP6, 0, none⟩) s1.cs.length cP6, .int .u32 s1.hist, .slice R6 s1.rs.length r6, .slice N6 s1.N.length nc6] 67 (0, 0))) (by kernel_rfl) HYB.out (fun hH => ?_)
            refine wpAnyH_take (i := 0) (oi := { dst := some 69, op := Op.load 67 (Operand.tmp 11), type := 67, pos := "law.go:436", after := #[], guard := none }) (v := .agg #[.int .i64 i0, .int .i64 (LI.length : Int), .int .i64 i2, .int .i64 d0, .int .i64 (LD.length : Int), .int .i64 d2, .int .i64 l0, .int .i64 (LL.length : Int), .int .i64 l2, .int .i64 p0, .int .i64 (hn : Int), .int .i64 p2, .int .i64 i0, .int .i64 (LI.length : Int), .int .i64 i2, .slice (some ⟨gI6, 0, none⟩) LI.length kI6, .int .i64 d0, .int .i64 (LD.length : Int), .int .i64 d2, .slice (some ⟨gD6, 0, none⟩) LD.length kD6, .int .i64 l0, .int .i64 (LL.length : Int), .int .i64 l2, .slice (some ⟨gL6, 0, none⟩) LL.length kL6, .int .i64 p0, .int .i64 (hn : Int), .int .i64 p2, .slice (some ⟨gP6, 0, none⟩) s1.cs.length cP6, .int .u32 s1.hist, .slice R6 s1.rs.length r6, .slice N6 s1.N.length nc6]) rfl (by kernel_rfl) (by kernel_rfl) (by kernel_rfl) (fun _ _ _ h => h) (yieldsIf_load_mid (by rfl) 67 (Operand.tmp 11) rfl bY 0 rfl [.int .i64 i0, .int .i64 (LI.length : Int), .int .i64 i2, .int .i64 d0, .int .i64 (LD.length : Int), .int .i64 d2, .int .i64 l0, .int .i64 (LL.length : Int), .int .i64 l2, .int .i64 p0, .int .i64 (hn : Int), .int .i64 p2, .int .i64 i0, .int .i64 (LI.length : Int), .int .i64 i2, .slice (some ⟨gI6, 0, none⟩) LI.length kI6, .int .i64 d0, .int .i64 (LD.length : Int), .int .i64 d2, .slice (some ⟨gD6, 0, none⟩) LD.length kD6, .int .i64 l0, .int .i64 (LL.length : Int), .int .i64 l2, .slice (some ⟨gL6, 0, none⟩) LL.length kL6, .int .i64 p0, .int .i64 (hn : Int), .int .i64 p2, .slice (some ⟨gP6, 0, none⟩) s1.cs.length cP6, .int .u32 s1.hist, .slice R6 s1.rs.length r6, .slice N6 s1.N.length nc6] _ (fun W' h' => HRG.out W' h') Try.underlying67 rfl (by kernel_rfl)) hH ?_
            try simp only [Act.put, List.setIfInBounds_toArray, List.set_cons_zero, List.set_cons_succ]
            refine wpAnyH_take (i := 1) (oi := { dst := some 70, op := Op.move (Operand.tmp 1), type := 68, pos := "law.go:436", after := #[], guard := none }) (v := .slice AE es.length ce) rfl (by kernel_rfl) (by kernel_rfl) (by kernel_rfl) (fun _ _ _ h => h) (Or.inl ⟨by rfl, fun W' hW' => by go_simp⟩) hH ?_
            try simp only [Act.put, List.setIfInBounds_toArray, List.set_cons_zero, List.set_cons_succ]
            refine wpAnyH_take (i := 2) (oi := { dst := some 71, op := Op.move (Operand.tmp 8), type := 3, pos := "law.go:436", after := #[], guard := none }) (v := .int .i64 (e1.length : Int)) rfl (by kernel_rfl) (by kernel_rfl) (by kernel_rfl) (fun _ _ _ h => h) (Or.inl ⟨by rfl, fun W' hW' => by go_simp⟩) hH ?_
            try simp only [Act.put, List.setIfInBounds_toArray, List.set_cons_zero, List.set_cons_succ]
            refine wpAnyH_take (i := 3) (oi := { dst := some 72, op := Op.slice 68 (Operand.tmp 70) (some (Operand.tmp 71)) none none, type := 68, pos := "law.go:436", after := #[{ on := 1, ground := Ground.data }, { on := 2, ground := Ground.data }], guard := none }) (v := .slice AE2 e2.length c2) rfl (by kernel_rfl) (by kernel_rfl) (by kernel_rfl) (fun _ _ _ h => h) (Or.inl ⟨by rfl, fun W' hW' => by go_simp⟩) hH ?_
            try simp only [Act.put, List.setIfInBounds_toArray, List.set_cons_zero, List.set_cons_succ]
            refine wpAnyH_ready (rs := [4, 8]) (by kernel_rfl) (by simp) ?_
            refine AllReadyH.cons (o := { dst := some 73, op := Op.call { callee := Callee.value (Operand.func 28), args := #[Operand.tmp 69, Operand.tmp 72], argTypes := #[67, 68] }, type := 72, pos := "law.go:436", after := #[{ on := 0, ground := Ground.data }, { on := 3, ground := Ground.data }], guard := none }) rfl (fun K hK => ?_) (AllReadyH.cons (o := { dst := some 13, op := Op.alloc 67, type := 0, pos := "law.go:436", after := #[], guard := none }) rfl (fun K hK => ?_) AllReadyH.nil)
            · go_wp2_with fail
              refine (Feed_n i0 i2 d0 d2 l0 l2 p0 (hn : Int) p2 (some ⟨gI6, 0, none⟩) (some ⟨gD6, 0, none⟩) (some ⟨gL6, 0, none⟩) (some ⟨gP6, 0, none⟩) R6 N6 AE2 kI6 kD6 kL6 cP6 r6 nc6 c2 hn aI6 aD6 aL6 s1.I s1.D s1.L s1.cs s1.rs s1.hist s1.N e2 wo.drew LI.length LD.length LL.length (by rw [HLE.out.1, HLE.out.2.1, HLE.out.2.2]; exact HS.out) HI2.out HD2.out HL2.out (fun h => by cases h) (fun h => by cases h) (fun h => by cases h) HP2.out HN2.out HY.out.nn HE2.out (by rw [HLE.out.1]; exact HOK1.out.i) (by rw [HLE.out.2.1]; exact HOK1.out.d) (by rw [HLE.out.2.2]; exact HOK1.out.l) HOK1.out.p HOK1.out.n rfl (hist_lt HOK1.out) (by omega) (by omega) HEV2.out HLE.out.1 HLE.out.2.1 HLE.out.2.2).mono ?_
              rintro e Wf hF
              obtain ⟨gI7, kI7, aI7, gD7, kD7, aD7, gL7, kL7, aL7, N7, nc7, gP7, cP7, R7, r7, he, fr⟩ := hF.ok s HF2.out
              dsimp only at he
              subst he
              have hbf := hF.bel
              have HFR := Lib.hid fr
              have HBF := Lib.hid hbf
              have hS4 := belowBox ((bdrewN (Below.refl _ wo) 1).trans hbf) HYB.out
              refine hK.out _ _ hS4 (fun hH4 => ?_)
              clear hK K
              try simp only [Act.put, List.setIfInBounds_toArray, List.set_cons_zero, List.set_cons_succ]
              refine wpAnyH_take (i := 5) (oi := { dst := some 68, op := Op.move (Operand.tmp 73), type := 72, pos := "law.go:436", after := #[{ on := 4, ground := Ground.data }], guard := none }) (v := .tuple #[.agg #[.int .i64 i0, .int .i64 (LI.length : Int), .int .i64 i2, .int .i64 d0, .int .i64 (LD.length : Int), .int .i64 d2, .int .i64 l0, .int .i64 (LL.length : Int), .int .i64 l2, .int .i64 p0, .int .i64 (hn : Int), .int .i64 p2, .int .i64 i0, .int .i64 (LI.length : Int), .int .i64 i2, .slice (some ⟨gI7, 0, none⟩) LI.length kI7, .int .i64 d0, .int .i64 (LD.length : Int), .int .i64 d2, .slice (some ⟨gD7, 0, none⟩) LD.length kD7, .int .i64 l0, .int .i64 (LL.length : Int), .int .i64 l2, .slice (some ⟨gL7, 0, none⟩) LL.length kL7, .int .i64 p0, .int .i64 (hn : Int), .int .i64 p2, .slice (some ⟨gP7, 0, none⟩) s.cs.length cP7, .int .u32 s.hist, .slice R7 s.rs.length r7, .slice N7 s.N.length nc7], .int .i64 0]) rfl (by kernel_rfl) (by kernel_rfl) (by kernel_rfl) (fun _ _ _ h => h) (Or.inl ⟨by rfl, fun W' hW' => by kernel_rfl⟩) hH4 ?_
              try simp only [Act.put, List.setIfInBounds_toArray, List.set_cons_zero, List.set_cons_succ]
              refine wpAnyH_take (i := 6) (oi := { dst := some 74, op := Op.extract (Operand.tmp 68) 0, type := 67, pos := "law.go:436", after := #[{ on := 5, ground := Ground.data }], guard := none }) (v := .agg #[.int .i64 i0, .int .i64 (LI.length : Int), .int .i64 i2, .int .i64 d0, .int .i64 (LD.length : Int), .int .i64 d2, .int .i64 l0, .int .i64 (LL.length : Int), .int .i64 l2, .int .i64 p0, .int .i64 (hn : Int), .int .i64 p2, .int .i64 i0, .int .i64 (LI.length : Int), .int .i64 i2, .slice (some ⟨gI7, 0, none⟩) LI.length kI7, .int .i64 d0, .int .i64 (LD.length : Int), .int .i64 d2, .slice (some ⟨gD7, 0, none⟩) LD.length kD7, .int .i64 l0, .int .i64 (LL.length : Int), .int .i64 l2, .slice (some ⟨gL7, 0, none⟩) LL.length kL7, .int .i64 p0, .int .i64 (hn : Int), .int .i64 p2, .slice (some ⟨gP7, 0, none⟩) s.cs.length cP7, .int .u32 s.hist, .slice R7 s.rs.length r7, .slice N7 s.N.length nc7]) rfl (by kernel_rfl) (by kernel_rfl) (by kernel_rfl) (fun _ _ _ h => h) (Or.inl ⟨by rfl, fun W' hW' => by kernel_rfl⟩) hH4 ?_
              try simp only [Act.put, List.setIfInBounds_toArray, List.set_cons_zero, List.set_cons_succ]
              refine wpAnyH_take (i := 7) (oi := { dst := some 75, op := Op.extract (Operand.tmp 68) 1, type := 53, pos := "law.go:436", after := #[{ on := 5, ground := Ground.data }, { on := 9, ground := Ground.gcOnly Departure.lateStores }], guard := none }) (v := .int .i64 0) rfl (by kernel_rfl) (by kernel_rfl) (by kernel_rfl) (fun _ _ _ h => h) (Or.inl ⟨by rfl, fun W' hW' => by kernel_rfl⟩) hH4 ?_
              try simp only [Act.put, List.setIfInBounds_toArray, List.set_cons_zero, List.set_cons_succ]
              refine wpAnyH_ready (rs := [8]) (by kernel_rfl) (by simp) ?_
              refine AllReadyH.cons (o := { dst := some 13, op := Op.alloc 67, type := 0, pos := "law.go:436", after := #[], guard := none }) rfl (fun K hK => ?_) AllReadyH.nil
              rw [if_pos (by rfl)]
              refine wp_of_run (v := .pointer (some ⟨Wf.heap.size, 0, none⟩)) (w' := Wf.alloc zeroS) (by kernel_rfl) ?_
              have hS5 := boxAlS (o := zeroS) hS4
              have hzz := heap_alloc_new Wf zeroS
              have hlt4 := (Array.getElem?_eq_some_iff.1 hS4).1
              refine hK.out _ _ hS5 (fun hH5 => ?_)
              clear hK K
              try simp only [Act.put, List.setIfInBounds_toArray, List.set_cons_zero, List.set_cons_succ]
              refine wpAnyH_ready (rs := [9]) (by kernel_rfl) (by simp) ?_
              refine AllReadyH.cons (o := { dst := none, op := Op.store 67 (Operand.tmp 13) (Operand.tmp 74), type := 0, pos := "law.go:436", after := #[{ on := 8, ground := Ground.data }, { on := 6, ground := Ground.data }, { on := 4, ground := Ground.chain }, { on := 0, ground := Ground.phase }, { on := 1, ground := Ground.phase }, { on := 2, ground := Ground.phase }, { on := 3, ground := Ground.phase }, { on := 4, ground := Ground.phase }, { on := 5, ground := Ground.phase }, { on := 6, ground := Ground.phase }, { on := 7, ground := Ground.textOnly Departure.lateStores }, { on := 8, ground := Ground.phase }], guard := none }) rfl (fun K hK => ?_) AllReadyH.nil
              rw [if_pos (by rfl)]
              refine wp_store_row 67 (.tmp 13) (.tmp 74) rfl Wf.heap.size #[.int .i64 i0, .int .i64 (LI.length : Int), .int .i64 i2, .int .i64 d0, .int .i64 (LD.length : Int), .int .i64 d2, .int .i64 l0, .int .i64 (LL.length : Int), .int .i64 l2, .int .i64 p0, .int .i64 (hn : Int), .int .i64 p2, .int .i64 i0, .int .i64 (LI.length : Int), .int .i64 i2, .slice (some ⟨gI7, 0, none⟩) LI.length kI7, .int .i64 d0, .int .i64 (LD.length : Int), .int .i64 d2, .slice (some ⟨gD7, 0, none⟩) LD.length kD7, .int .i64 l0, .int .i64 (LL.length : Int), .int .i64 l2, .slice (some ⟨gL7, 0, none⟩) LL.length kL7, .int .i64 p0, .int .i64 (hn : Int), .int .i64 p2, .slice (some ⟨gP7, 0, none⟩) s.cs.length cP7, .int .u32 s.hist, .slice R7 s.rs.length r7, .slice N7 s.N.length nc7] rfl rfl 67 _ hzz (by kernel_rfl) rfl (by simp [Value.oneCell']) ?_
              refine hK.out _ _ ((Upd.setRow _ _ _).block _ (Array.getElem?_eq_some_iff.1 hS5).1 (by omega) |>.trans hS5) (fun hH9 => ?_)
              clear hK K
              try simp only [Act.put, List.setIfInBounds_toArray, List.set_cons_zero, List.set_cons_succ]
              refine wpAnyH_take (i := 10) (oi := { dst := some 14, op := Op.assign (Operand.tmp 75), type := 53, pos := "law.go:436", after := #[{ on := 7, ground := Ground.data }, { on := 9, ground := Ground.chain }, { on := 0, ground := Ground.phase }, { on := 1, ground := Ground.phase }, { on := 2, ground := Ground.phase }, { on := 3, ground := Ground.phase }, { on := 4, ground := Ground.phase }, { on := 5, ground := Ground.phase }, { on := 6, ground := Ground.phase }, { on := 7, ground := Ground.phase }, { on := 8, ground := Ground.phase }, { on := 9, ground := Ground.phase }], guard := none }) (v := .int .i64 0) rfl (by kernel_rfl) (by kernel_rfl) (by kernel_rfl) (fun _ _ _ h => h) (Or.inl ⟨by rfl, fun W' hW' => by kernel_rfl⟩) hH9 ?_
              try simp only [Act.put, List.setIfInBounds_toArray, List.set_cons_zero, List.set_cons_succ]
              refine wpAnyH_done (by kernel_rfl) ?_ _
              refine NoPanic.normal ?_
              go_wp2_with fail
              go_meet
              case rel => exact YE.mk HGU2.out HFR.out ((bdrewN (Below.refl _ wo) 1).trans HBF.out) (Nat.le_refl _) ((Upd.alloc _ Wf zeroS).trans (Upd.setRow _ _ _) fun k hk => .inr (by omega)) (setRow_heap (heap_alloc_new Wf zeroS) _)
            · rw [if_pos (by rfl)]
              refine wp_of_run (v := .pointer (some ⟨wo.heap.size, 0, none⟩)) (w' := wo.drew.alloc zeroS) (by kernel_rfl) ?_
              have hS3 := boxAlS (o := zeroS) (show wo.drew.heap[bY]? = _ from HYB.out)
              refine hK.out _ _ hS3 (fun hH3 => ?_)
              clear hK K
              try simp only [Act.put, List.setIfInBounds_toArray, List.set_cons_zero, List.set_cons_succ]
              obtain ⟨Wa, hWa⟩ : ∃ W, wo.drew.alloc zeroS = W := ⟨_, rfl⟩
              have hba : Below wo.drew.heap.size wo.drew Wa := by rw [← hWa]; exact balloc _ _
              have hza : Wa.heap[wo.heap.size]? = some zeroS := by rw [← hWa]; exact heap_alloc_new wo.drew zeroS
              have hsa : Wa.heap.size = wo.heap.size + 1 := by rw [← hWa]; simp
              rw [hWa] at hS3 hH3 ⊢
              have HJ2 := Lib.hid (HI2.out.below hba)
              have HK2 := Lib.hid (HD2.out.below hba)
              have HM2 := Lib.hid (HL2.out.below hba)
              have HQ2 := Lib.hid (HP2.out.below hba)
              have HT2 := Lib.hid (HN2.out.below hba)
              have HU2 := Lib.hid (HE2.out.below hba)
              have hsa2 : wo.drew.heap.size ≤ Wa.heap.size := hba.size
              clear hWa
              refine wpAnyH_ready (rs := [4]) (by kernel_rfl) (by simp) ?_
              refine AllReadyH.cons (o := { dst := some 73, op := Op.call { callee := Callee.value (Operand.func 28), args := #[Operand.tmp 69, Operand.tmp 72], argTypes := #[67, 68] }, type := 72, pos := "law.go:436", after := #[{ on := 0, ground := Ground.data }, { on := 3, ground := Ground.data }], guard := none }) rfl (fun K hK => ?_) AllReadyH.nil
              go_wp2_with fail
              refine (Feed_n i0 i2 d0 d2 l0 l2 p0 (hn : Int) p2 (some ⟨gI6, 0, none⟩) (some ⟨gD6, 0, none⟩) (some ⟨gL6, 0, none⟩) (some ⟨gP6, 0, none⟩) R6 N6 AE2 kI6 kD6 kL6 cP6 r6 nc6 c2 hn aI6 aD6 aL6 s1.I s1.D s1.L s1.cs s1.rs s1.hist s1.N e2 Wa LI.length LD.length LL.length (by rw [HLE.out.1, HLE.out.2.1, HLE.out.2.2]; exact HS.out) HJ2.out HK2.out HM2.out (fun h => by cases h) (fun h => by cases h) (fun h => by cases h) HQ2.out HT2.out HY.out.nn HU2.out (by rw [HLE.out.1]; exact HOK1.out.i) (by rw [HLE.out.2.1]; exact HOK1.out.d) (by rw [HLE.out.2.2]; exact HOK1.out.l) HOK1.out.p HOK1.out.n rfl (hist_lt HOK1.out) (by omega) (by omega) HEV2.out HLE.out.1 HLE.out.2.1 HLE.out.2.2).mono ?_
              rintro e Wf hF
              obtain ⟨gI7, kI7, aI7, gD7, kD7, aD7, gL7, kL7, aL7, N7, nc7, gP7, cP7, R7, r7, he, fr⟩ := hF.ok s HF2.out
              dsimp only at he
              subst he
              have hbf := hF.bel
              have hS4 := belowBox hbf hS3
              have hS5 := hS4
              have hzz := belowBox hbf hza
              have HZZ := Lib.hid hzz
              have HFR := Lib.hid fr
              have HBF := Lib.hid (((bdrewN (Below.refl _ wo) 1).trans hba).trans (hbf.mono hsa2))
              have hlt4 := (Array.getElem?_eq_some_iff.1 hS4).1
              have hltX := (Array.getElem?_eq_some_iff.1 HYB.out).1
              refine hK.out _ _ hS4 (fun hH4 => ?_)
              clear hK K
              try simp only [Act.put, List.setIfInBounds_toArray, List.set_cons_zero, List.set_cons_succ]
              refine wpAnyH_take (i := 5) (oi := { dst := some 68, op := Op.move (Operand.tmp 73), type := 72, pos := "law.go:436", after := #[{ on := 4, ground := Ground.data }], guard := none }) (v := .tuple #[.agg #[.int .i64 i0, .int .i64 (LI.length : Int), .int .i64 i2, .int .i64 d0, .int .i64 (LD.length : Int), .int .i64 d2, .int .i64 l0, .int .i64 (LL.length : Int), .int .i64 l2, .int .i64 p0, .int .i64 (hn : Int), .int .i64 p2, .int .i64 i0, .int .i64 (LI.length : Int), .int .i64 i2, .slice (some ⟨gI7, 0, none⟩) LI.length kI7, .int .i64 d0, .int .i64 (LD.length : Int), .int .i64 d2, .slice (some ⟨gD7, 0, none⟩) LD.length kD7, .int .i64 l0, .int .i64 (LL.length : Int), .int .i64 l2, .slice (some ⟨gL7, 0, none⟩) LL.length kL7, .int .i64 p0, .int .i64 (hn : Int), .int .i64 p2, .slice (some ⟨gP7, 0, none⟩) s.cs.length cP7, .int .u32 s.hist, .slice R7 s.rs.length r7, .slice N7 s.N.length nc7], .int .i64 0]) rfl (by kernel_rfl) (by kernel_rfl) (by kernel_rfl) (fun _ _ _ h => h) (Or.inl ⟨by rfl, fun W' hW' => by kernel_rfl⟩) hH4 ?_
              try simp only [Act.put, List.setIfInBounds_toArray, List.set_cons_zero, List.set_cons_succ]
              refine wpAnyH_take (i := 6) (oi := { dst := some 74, op := Op.extract (Operand.tmp 68) 0, type := 67, pos := "law.go:436", after := #[{ on := 5, ground := Ground.data }], guard := none }) (v := .agg #[.int .i64 i0, .int .i64 (LI.length : Int), .int .i64 i2, .int .i64 d0, .int .i64 (LD.length : Int), .int .i64 d2, .int .i64 l0, .int .i64 (LL.length : Int), .int .i64 l2, .int .i64 p0, .int .i64 (hn : Int), .int .i64 p2, .int .i64 i0, .int .i64 (LI.length : Int), .int .i64 i2, .slice (some ⟨gI7, 0, none⟩) LI.length kI7, .int .i64 d0, .int .i64 (LD.length : Int), .int .i64 d2, .slice (some ⟨gD7, 0, none⟩) LD.length kD7, .int .i64 l0, .int .i64 (LL.length : Int), .int .i64 l2, .slice (some ⟨gL7, 0, none⟩) LL.length kL7, .int .i64 p0, .int .i64 (hn : Int), .int .i64 p2, .slice (some ⟨gP7, 0, none⟩) s.cs.length cP7, .int .u32 s.hist, .slice R7 s.rs.length r7, .slice N7 s.N.length nc7]) rfl (by kernel_rfl) (by kernel_rfl) (by kernel_rfl) (fun _ _ _ h => h) (Or.inl ⟨by rfl, fun W' hW' => by kernel_rfl⟩) hH4 ?_
              try simp only [Act.put, List.setIfInBounds_toArray, List.set_cons_zero, List.set_cons_succ]
              refine wpAnyH_take (i := 7) (oi := { dst := some 75, op := Op.extract (Operand.tmp 68) 1, type := 53, pos := "law.go:436", after := #[{ on := 5, ground := Ground.data }, { on := 9, ground := Ground.gcOnly Departure.lateStores }], guard := none }) (v := .int .i64 0) rfl (by kernel_rfl) (by kernel_rfl) (by kernel_rfl) (fun _ _ _ h => h) (Or.inl ⟨by rfl, fun W' hW' => by kernel_rfl⟩) hH4 ?_
              try simp only [Act.put, List.setIfInBounds_toArray, List.set_cons_zero, List.set_cons_succ]
              refine wpAnyH_ready (rs := [9]) (by kernel_rfl) (by simp) ?_
              refine AllReadyH.cons (o := { dst := none, op := Op.store 67 (Operand.tmp 13) (Operand.tmp 74), type := 0, pos := "law.go:436", after := #[{ on := 8, ground := Ground.data }, { on := 6, ground := Ground.data }, { on := 4, ground := Ground.chain }, { on := 0, ground := Ground.phase }, { on := 1, ground := Ground.phase }, { on := 2, ground := Ground.phase }, { on := 3, ground := Ground.phase }, { on := 4, ground := Ground.phase }, { on := 5, ground := Ground.phase }, { on := 6, ground := Ground.phase }, { on := 7, ground := Ground.textOnly Departure.lateStores }, { on := 8, ground := Ground.phase }], guard := none }) rfl (fun K hK => ?_) AllReadyH.nil
              rw [if_pos (by rfl)]
              refine wp_store_row 67 (.tmp 13) (.tmp 74) rfl wo.heap.size #[.int .i64 i0, .int .i64 (LI.length : Int), .int .i64 i2, .int .i64 d0, .int .i64 (LD.length : Int), .int .i64 d2, .int .i64 l0, .int .i64 (LL.length : Int), .int .i64 l2, .int .i64 p0, .int .i64 (hn : Int), .int .i64 p2, .int .i64 i0, .int .i64 (LI.length : Int), .int .i64 i2, .slice (some ⟨gI7, 0, none⟩) LI.length kI7, .int .i64 d0, .int .i64 (LD.length : Int), .int .i64 d2, .slice (some ⟨gD7, 0, none⟩) LD.length kD7, .int .i64 l0, .int .i64 (LL.length : Int), .int .i64 l2, .slice (some ⟨gL7, 0, none⟩) LL.length kL7, .int .i64 p0, .int .i64 (hn : Int), .int .i64 p2, .slice (some ⟨gP7, 0, none⟩) s.cs.length cP7, .int .u32 s.hist, .slice R7 s.rs.length r7, .slice N7 s.N.length nc7] rfl rfl 67 _ hzz (by kernel_rfl) rfl (by simp [Value.oneCell']) ?_
              refine hK.out _ _ ((Upd.setRow _ _ _).block _ (Array.getElem?_eq_some_iff.1 hS5).1 (by omega) |>.trans hS5) (fun hH9 => ?_)
              clear hK K
              try simp only [Act.put, List.setIfInBounds_toArray, List.set_cons_zero, List.set_cons_succ]
              refine wpAnyH_take (i := 10) (oi := { dst := some 14, op := Op.assign (Operand.tmp 75), type := 53, pos := "law.go:436", after := #[{ on := 7, ground := Ground.data }, { on := 9, ground := Ground.chain }, { on := 0, ground := Ground.phase }, { on := 1, ground := Ground.phase }, { on := 2, ground := Ground.phase }, { on := 3, ground := Ground.phase }, { on := 4, ground := Ground.phase }, { on := 5, ground := Ground.phase }, { on := 6, ground := Ground.phase }, { on := 7, ground := Ground.phase }, { on := 8, ground := Ground.phase }, { on := 9, ground := Ground.phase }], guard := none }) (v := .int .i64 0) rfl (by kernel_rfl) (by kernel_rfl) (by kernel_rfl) (fun _ _ _ h => h) (Or.inl ⟨by rfl, fun W' hW' => by kernel_rfl⟩) hH9 ?_
              try simp only [Act.put, List.setIfInBounds_toArray, List.set_cons_zero, List.set_cons_succ]
              refine wpAnyH_done (by kernel_rfl) ?_ _
              refine NoPanic.normal ?_
              go_wp2_with fail
              go_meet
              case rel => exact YE.mk HGU2.out HFR.out HBF.out (by omega) ((Upd.setRow _ _ _).mono fun k (hk : k = wo.heap.size) => ⟨by omega, by omega⟩) (setRow_heap HZZ.out _)
          case rest =>
            obtain ⟨bZ, gI7, kI7, gD7, kD7, gL7, kL7, aI7, aD7, aL7, N7, nc7, gP7, cP7, R7, r7, rfl, rfl, hZ⟩ := hcut
            have hZB := hZ.bel
            have b3c := bvia HBC.out hZB (Nat.le_refl _)
            have HGUS : Hid (GU s) := Lib.hid HGU2.out
            have HOKS := Lib.hid (HOK0.out.feed es HFD.out)
            obtain ⟨eI, eD, eL⟩ := HOKS.out.lens
            have hlenS := feed_len es HOK0.out HFD.out
            have hslS : s.N.length ≤ 120 := by simp at hlenS; omega
            obtain ⟨hp5, hn5, _⟩ := HFR.out.rest W2 (Upd.refl _ _)
            have b2c := bvia HB23.out b3c (Nat.le_refl _)
            have HIx := Lib.hid ((HFR.out.i.rdSets HGUS.out.i).below b2c)
            have HDx := Lib.hid ((HFR.out.d.rdSets HGUS.out.d).below b2c)
            have HLx := Lib.hid ((HFR.out.l.rdSets HGUS.out.l).below b2c)
            have HPx := Lib.hid (hp5.below b2c)
            have HNx := Lib.hid (hn5.below b2c)
            have HXc := Lib.hid (belowBox b3c HX3.out)
            have HZ := Lib.hid hZ
            have HBE := Lib.hid (bvia HB3.out b3c (Nat.le_refl _))
            clear hZ hZB b3c b2c hp5 hn5 hlenS
            go_wp2_with fail
            refine (sane_any _).mono ?_
            rintro e W9 ⟨rfl, hb9⟩
            have HRX := Lib.hid (range_sub (belowBox hb9 HXc.out) 0 [.int .i64 i0, .int .i64 (LI.length : Int), .int .i64 i2, .int .i64 d0, .int .i64 (LD.length : Int), .int .i64 d2, .int .i64 l0, .int .i64 (LL.length : Int), .int .i64 l2, .int .i64 p0, .int .i64 (hn : Int), .int .i64 p2, .int .i64 i0, .int .i64 (LI.length : Int), .int .i64 i2, .slice (some ⟨gI5, 0, none⟩) LI.length kI5, .int .i64 d0, .int .i64 (LD.length : Int), .int .i64 d2, .slice (some ⟨gD5, 0, none⟩) LD.length kD5, .int .i64 l0, .int .i64 (LL.length : Int), .int .i64 l2, .slice (some ⟨gL5, 0, none⟩) LL.length kL5, .int .i64 p0, .int .i64 (hn : Int), .int .i64 p2, .slice (some ⟨gP5, 0, none⟩) s.cs.length cP5, .int .u32 s.hist, .slice R5 s.rs.length r5, .slice N5 s.N.length nc5] rfl)
            have HRZ := Lib.hid (range_sub (belowBox hb9 HZ.out.box) 0 [.int .i64 i0, .int .i64 (LI.length : Int), .int .i64 i2, .int .i64 d0, .int .i64 (LD.length : Int), .int .i64 d2, .int .i64 l0, .int .i64 (LL.length : Int), .int .i64 l2, .int .i64 p0, .int .i64 (hn : Int), .int .i64 p2, .int .i64 i0, .int .i64 (LI.length : Int), .int .i64 i2, .slice (some ⟨gI7, 0, none⟩) LI.length kI7, .int .i64 d0, .int .i64 (LD.length : Int), .int .i64 d2, .slice (some ⟨gD7, 0, none⟩) LD.length kD7, .int .i64 l0, .int .i64 (LL.length : Int), .int .i64 l2, .slice (some ⟨gL7, 0, none⟩) LL.length kL7, .int .i64 p0, .int .i64 (hn : Int), .int .i64 p2, .slice (some ⟨gP7, 0, none⟩) s.cs.length cP7, .int .u32 s.hist, .slice R7 s.rs.length r7, .slice N7 s.N.length nc7] rfl)
            have HB9 := Lib.hid hb9
            have HBF := Lib.hid (bvia HBE.out hb9 (Nat.le_refl _))
            clear hb9
            go_wp2_with (first
              | (with_reducible refine wpList_load_midW (by kernel_rfl) 67 (Operand.tmp 9) rfl W2.heap.size 0 rfl [.int .i64 i0, .int .i64 (LI.length : Int), .int .i64 i2, .int .i64 d0, .int .i64 (LD.length : Int), .int .i64 d2, .int .i64 l0, .int .i64 (LL.length : Int), .int .i64 l2, .int .i64 p0, .int .i64 (hn : Int), .int .i64 p2, .int .i64 i0, .int .i64 (LI.length : Int), .int .i64 i2, .slice (some ⟨gI5, 0, none⟩) LI.length kI5, .int .i64 d0, .int .i64 (LD.length : Int), .int .i64 d2, .slice (some ⟨gD5, 0, none⟩) LD.length kD5, .int .i64 l0, .int .i64 (LL.length : Int), .int .i64 l2, .slice (some ⟨gL5, 0, none⟩) LL.length kL5, .int .i64 p0, .int .i64 (hn : Int), .int .i64 p2, .slice (some ⟨gP5, 0, none⟩) s.cs.length cP5, .int .u32 s.hist, .slice R5 s.rs.length r5, .slice N5 s.N.length nc5] _ HRX.out Try.underlying67 rfl (by kernel_rfl) ?_)
              | (with_reducible refine wpList_load_midW (by kernel_rfl) 67 (Operand.tmp 13) rfl bZ 0 rfl [.int .i64 i0, .int .i64 (LI.length : Int), .int .i64 i2, .int .i64 d0, .int .i64 (LD.length : Int), .int .i64 d2, .int .i64 l0, .int .i64 (LL.length : Int), .int .i64 l2, .int .i64 p0, .int .i64 (hn : Int), .int .i64 p2, .int .i64 i0, .int .i64 (LI.length : Int), .int .i64 i2, .slice (some ⟨gI7, 0, none⟩) LI.length kI7, .int .i64 d0, .int .i64 (LD.length : Int), .int .i64 d2, .slice (some ⟨gD7, 0, none⟩) LD.length kD7, .int .i64 l0, .int .i64 (LL.length : Int), .int .i64 l2, .slice (some ⟨gL7, 0, none⟩) LL.length kL7, .int .i64 p0, .int .i64 (hn : Int), .int .i64 p2, .slice (some ⟨gP7, 0, none⟩) s.cs.length cP7, .int .u32 s.hist, .slice R7 s.rs.length r7, .slice N7 s.N.length nc7] _ HRZ.out Try.underlying67 rfl (by kernel_rfl) ?_))
            refine (sameSim_n i0 i2 d0 d2 l0 l2 p0 (hn : Int) p2 gI5 kI5 gD5 kD5 gL5 kL5 gI7 kI7 gD7 kD7 gL7 kL7 (some ⟨gP5, 0, none⟩) (some ⟨gP7, 0, none⟩) R5 R7 N5 N7 cP5 cP7 r5 r7 nc5 nc7 aI5 aD5 aL5 aI7 aD7 aL7 s.I s.D s.L s.cs s.rs s.hist s.N _ LI.length LD.length LL.length (HIx.out.below HB9.out) (HDx.out.below HB9.out) (HLx.out.below HB9.out) (HZ.out.i.below HB9.out) (HZ.out.d.below HB9.out) (HZ.out.l.below HB9.out) (HPx.out.below HB9.out).cnt (HZ.out.p.below HB9.out).cnt (HPx.out.below HB9.out).ret (HZ.out.p.below HB9.out).ret (HNx.out.below HB9.out) (HZ.out.n.below HB9.out) eI eD eL).mono ?_
            rintro e W10 ⟨rfl, hb10⟩
            have hb910 := bvia HB9.out hb10 (Nat.le_refl _)
            have HB10 := Lib.hid hb910
            have HRY := Lib.hid (range_sub (belowBox hb910 HXc.out) 0 [.int .i64 i0, .int .i64 (LI.length : Int), .int .i64 i2, .int .i64 d0, .int .i64 (LD.length : Int), .int .i64 d2, .int .i64 l0, .int .i64 (LL.length : Int), .int .i64 l2, .int .i64 p0, .int .i64 (hn : Int), .int .i64 p2, .int .i64 i0, .int .i64 (LI.length : Int), .int .i64 i2, .slice (some ⟨gI5, 0, none⟩) LI.length kI5, .int .i64 d0, .int .i64 (LD.length : Int), .int .i64 d2, .slice (some ⟨gD5, 0, none⟩) LD.length kD5, .int .i64 l0, .int .i64 (LL.length : Int), .int .i64 l2, .slice (some ⟨gL5, 0, none⟩) LL.length kL5, .int .i64 p0, .int .i64 (hn : Int), .int .i64 p2, .slice (some ⟨gP5, 0, none⟩) s.cs.length cP5, .int .u32 s.hist, .slice R5 s.rs.length r5, .slice N5 s.N.length nc5] rfl)
            have HBG := Lib.hid (bvia HBE.out hb910 (Nat.le_refl _))
            clear hb10 hb910
            go_wp2_with (with_reducible refine wpList_load_midW (by kernel_rfl) 67 (Operand.tmp 9) rfl W2.heap.size 0 rfl [.int .i64 i0, .int .i64 (LI.length : Int), .int .i64 i2, .int .i64 d0, .int .i64 (LD.length : Int), .int .i64 d2, .int .i64 l0, .int .i64 (LL.length : Int), .int .i64 l2, .int .i64 p0, .int .i64 (hn : Int), .int .i64 p2, .int .i64 i0, .int .i64 (LI.length : Int), .int .i64 i2, .slice (some ⟨gI5, 0, none⟩) LI.length kI5, .int .i64 d0, .int .i64 (LD.length : Int), .int .i64 d2, .slice (some ⟨gD5, 0, none⟩) LD.length kD5, .int .i64 l0, .int .i64 (LL.length : Int), .int .i64 l2, .slice (some ⟨gL5, 0, none⟩) LL.length kL5, .int .i64 p0, .int .i64 (hn : Int), .int .i64 p2, .slice (some ⟨gP5, 0, none⟩) s.cs.length cP5, .int .u32 s.hist, .slice R5 s.rs.length r5, .slice N5 s.N.length nc5] _ HRY.out Try.underlying67 rfl (by kernel_rfl) ?_)
            refine (Check_n i0 LI.length i2 d0 LD.length d2 l0 LL.length l2 p0 (hn : Int) p2 (some ⟨gI5, 0, none⟩) (some ⟨gD5, 0, none⟩) (some ⟨gL5, 0, none⟩) (some ⟨gP5, 0, none⟩) R5 N5 kI5 kD5 kL5 cP5 r5 nc5 aI5 aD5 aL5 s.I s.D s.L s.cs s.rs s.hist s.N _ LI.length LD.length LL.length HS.out (HIx.out.below HB10.out) (HDx.out.below HB10.out) (HLx.out.below HB10.out) (HPx.out.below HB10.out).cnt (HNx.out.below HB10.out) HOKS.out.i HOKS.out.d HOKS.out.l HOKS.out.p (hist_lt HOKS.out) (by omega) HOKS.out.n.cntsOk eI eD eL).mono ?_
            rintro e W11 ⟨rfl, hb11⟩
            have HBH := Lib.hid (bvia HBG.out hb11 (Nat.le_refl _))
            clear hb11
            go_wp2_with fail
            go_ret
            exact ⟨rfl, HBH.out⟩
end Go.Proofs.Ytdkacdfhapgboaa
