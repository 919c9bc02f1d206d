/- Part 4 of the texts that the proof stands on: MIp, MLo, MSp, MLr, MSl, MOn, MSnP, MSn, Args, MOa. -/
import Derived.Test.YtidojcogojchpaaM03
import Derived.OpenShut
import Derived.Deep.Slices
import Derived.Deep.Fields
import Derived.ChangeSame

/- reference: IsPages. (printed by gen/isp.py) -/
set_option linter.unusedVariables false
set_option linter.unusedSimpArgs false
namespace Go.Proofs.Ytidojcogojchpaa
open Go.RowKit Go.Shelf

def goodP (ps : List PV) (k : Nat) : Prop := 0 ≤ (gp ps k).n ∧ (gp ps k).n < 16777216 ∧ 0 ≤ (gp ps k).r ∧ (gp ps k).r ≤ 7 ∧ (gp ps k).bs.length = 256 ∧ (0 < k → (gp ps (k - 1)).n < (gp ps k).n)
instance (ps : List PV) (k : Nat) : Decidable (goodP ps k) := by unfold goodP; exact inferInstance
def isP (ps : List PV) : Bool := decide (∀ k, k < ps.length → goodP ps k)
theorem isP_not {ps : List PV} {k : Nat} (hk : k < ps.length) (h : ¬ goodP ps k) : isP ps = false := by
  unfold isP
  exact decide_eq_false fun h2 => h (h2 k hk)
theorem isP_all {ps : List PV} (h : ∀ k, k < ps.length → goodP ps k) : isP ps = true := by
  unfold isP
  exact decide_eq_true h
set_option maxRecDepth 100000 in
set_option maxHeartbeats 4000000 in
theorem IsPages_any (W : World) (A : Option Addr) (cap : Nat) (ps : List PV) (hrd : Rd W A ps.length 3 (flat ps)) :
    Calls Try.prog 13 #[.slice A ps.length cap] W fun e w' => e = .returned (.bool (isP ps)) ∧ Below W.heap.size W w' := by
  have HRD := Lib.hid hrd
  have hle := hrd.le
  clear hrd
  go_enter Try.func13, Try.ntmps13
  go_wp2_with fail
  go_loopw [3] (fun i wr => ∃ k : Nat, k ≤ ps.length ∧ i = .int .i64 k ∧ Hid (Below W.heap.size W wr ∧ ∀ j, j < k → goodP ps j)) (fun i _ => ps.length - (intOf i).toNat)
  case atStart => exact ⟨0, Nat.zero_le _, rfl, Lib.hid ⟨Below.refl _ _, fun j hj => by omega⟩⟩
  case round =>
    obtain ⟨k, hk, rfl, hI⟩ := hrel
    by_cases hlt : k < ps.length
    · obtain ⟨ad, e1, x0, x1, x2⟩ := (HRD.out.below hI.out.1).at3 k hlt
      subst e1
      obtain ⟨x, hx⟩ : ∃ x, (gp ps k).n = x := ⟨_, rfl⟩
      obtain ⟨r, hr'⟩ : ∃ r, (gp ps k).r = r := ⟨_, rfl⟩
      obtain ⟨bl, hbl⟩ : ∃ bl, (gp ps k).bs.length = bl := ⟨_, rfl⟩
      rw [hx] at x0
      rw [hr'] at x1
      rw [hbl] at x2
      have HB := Lib.hid hI.out.1
      by_cases c1 : x < 0
      · have HNE := Lib.hid (isP_not (ps := ps) hlt (fun h => by have := h.1; omega))
        clear hx hr' hbl  hI
        go_wp2_with fail
        go_ret
        exact ⟨by rw [HNE.out]; rfl, HB.out⟩
      · by_cases c2 : x ≥ 16777216
        · have HNE := Lib.hid (isP_not (ps := ps) hlt (fun h => by have := h.2.1; omega))
          clear hx hr' hbl  hI
          go_wp2_with fail
          go_ret
          exact ⟨by rw [HNE.out]; rfl, HB.out⟩
        · by_cases c3 : r < 0
          · have HNE := Lib.hid (isP_not (ps := ps) hlt (fun h => by have := h.2.2.1; omega))
            clear hx hr' hbl  hI
            go_wp2_with fail
            go_ret
            exact ⟨by rw [HNE.out]; rfl, HB.out⟩
          · by_cases c4 : r > 7
            · have HNE := Lib.hid (isP_not (ps := ps) hlt (fun h => by have := h.2.2.2.1; omega))
              clear hx hr' hbl  hI
              go_wp2_with fail
              go_ret
              exact ⟨by rw [HNE.out]; rfl, HB.out⟩
            · by_cases c5 : bl = 256
              · by_cases hk0 : k = 0
                · have HG : Hid (∀ j, j < k + 1 → goodP ps j) := Lib.hid fun j hj => by
                    by_cases e : j = k
                    · rw [e]; exact ⟨by omega, by omega, by omega, by omega, by omega, fun h => by omega⟩
                    · exact hI.out.2 j (by omega)
                  obtain ⟨wd, hwd⟩ : ∃ wd, wr.drew = wd := ⟨_, rfl⟩
                  have HBD : Hid (Below W.heap.size W wd) := Lib.hid (by rw [← hwd]; exact bdrewN HB.out 1)
                  have q5 : decide (0 < k) = false := by simp; omega
                  have hc5 : ((bl : Int) != 256) = false := by simp; omega
                  clear hx hr' hbl hI hk0 c5
                  go_wp2_with fail
                  refine region_tail 15 hwd (by kernel_rfl) (by kernel_rfl) ?_
                  simp only [List.take_succ_cons, List.take_zero, List.drop_succ_cons, List.drop_zero]
                  repeat (go_big_quiet_step (fail))
                  refine wpQuiet_nil ?_
                  go_wp2_with fail
                  go_roundw
                  case rel => exact ⟨k + 1, by omega, by go_num, Lib.hid ⟨HBD.out, HG.out⟩⟩
                  case measure => simp [intOf]; omega
                · obtain ⟨j, hj⟩ : ∃ j, k = j + 1 := ⟨k - 1, by omega⟩
                  obtain ⟨ad', e', z0, _, _⟩ := (HRD.out.below hI.out.1).at3 j (by omega)
                  cases e'
                  obtain ⟨y, hy⟩ : ∃ y, (gp ps j).n = y := ⟨_, rfl⟩
                  rw [hy] at z0
                  obtain ⟨wd, hwd⟩ : ∃ wd, wr.drew = wd := ⟨_, rfl⟩
                  have HBD : Hid (Below W.heap.size W wd) := Lib.hid (by rw [← hwd]; exact bdrewN HB.out 1)
                  have z6 := fun q => Just.cell (W0 := wd) (show wd.cell? _ = _ by rw [← hwd]; exact z0) q
                  have x6 := fun q => Just.cell (W0 := wd) (show wd.cell? _ = _ by rw [← hwd]; exact x0) q
                  have q5 : decide (0 < k) = true := by simp; omega
                  have hw1 : IntKind.i64.wrap ((k : Int) - 1) = (j : Int) := by rw [IntWalk.i64_in _ (by omega)]; omega
                  have hc5 : ((bl : Int) != 256) = false := by simp; omega
                  have hjl : j < ps.length := by omega
                  by_cases hyx : y < x
                  · have HG : Hid (∀ j, j < k + 1 → goodP ps j) := Lib.hid fun i hi => by
                      by_cases e : i = k
                      · rw [e]; exact ⟨by omega, by omega, by omega, by omega, by omega, fun h => by rw [show k - 1 = j by omega]; omega⟩
                      · exact hI.out.2 i (by omega)
                    have q6 : decide (y ≥ x) = false := by simp; omega
                    clear hx hr' hbl hI hk0 c5 hj hy z0 hyx
                    go_wp2_with fail
                    refine region_tail 15 hwd (by kernel_rfl) (by kernel_rfl) ?_
                    simp only [List.take_succ_cons, List.take_zero, List.drop_succ_cons, List.drop_zero]
                    repeat (go_big_quiet_step (fail))
                    refine wpQuiet_nil ?_
                    go_wp2_with fail
                    go_roundw
                    case rel => exact ⟨k + 1, by omega, by go_num, Lib.hid ⟨HBD.out, HG.out⟩⟩
                    case measure => simp [intOf]; omega
                  · have HNE := Lib.hid (isP_not (ps := ps) hlt (fun h => by have := h.2.2.2.2.2 (by omega); rw [show k - 1 = j by omega] at this; omega))
                    have q6 : decide (y ≥ x) = true := by simp; omega
                    clear hx hr' hbl hI hk0 c5 hj hy z0 hyx
                    go_wp2_with fail
                    refine region_tail 15 hwd (by kernel_rfl) (by kernel_rfl) ?_
                    simp only [List.take_succ_cons, List.take_zero, List.drop_succ_cons, List.drop_zero]
                    repeat (go_big_quiet_step (fail))
                    refine wpQuiet_nil ?_
                    go_wp2_with fail
                    go_ret
                    exact ⟨by rw [HNE.out]; rfl, HBD.out⟩
              · have HNE := Lib.hid (isP_not (ps := ps) hlt (fun h => by have := h.2.2.2.2.1; omega))
                have hc5 : ((bl : Int) != 256) = true := by simp; omega
                clear hx hr' hbl hI c5
                go_wp2_with fail
                go_ret
                exact ⟨by rw [HNE.out]; rfl, HB.out⟩
    · obtain rfl : k = ps.length := by omega
      have HG := Lib.hid (isP_all hI.out.2)
      go_wp2_with fail
      go_ret
      exact ⟨by rw [HG.out]; rfl, hI.out.1⟩
end Go.Proofs.Ytidojcogojchpaa

/- mem's laws: loaded. -/
set_option linter.unusedVariables false
set_option linter.unusedSimpArgs false
namespace Go.Proofs.Ytidojcogojchpaa
open Go.RowKit Go.Shelf

theorem isP_good {ps : List PV} (h : isP ps = true) (k : Nat) (hk : k < ps.length) : goodP ps k := of_decide_eq_true h k hk
theorem psOk_of {ps : List PV} (h : isP ps = true) (hu : ∀ p ∈ ps, ∀ x ∈ p.bs, 0 ≤ x ∧ x < 256) (hl : ps.length ≤ 2000) : PsOk ps := by
  have hg := isP_good h
  have hmem : ∀ p ∈ ps, ∃ k, k < ps.length ∧ gp ps k = p := fun p hp => by
    obtain ⟨k, hk, e⟩ := List.getElem_of_mem hp
    exact ⟨k, hk, by rw [gp_get ps k hk]; exact e⟩
  refine ⟨?_, fun p hp => ?_, fun p hp => ?_, hl⟩
  · refine List.pairwise_iff_getElem.2 fun i j hi hj hij => ?_
    have hj' : j < ps.length := by simpa using hj
    have key : ∀ d i, i + d + 1 < ps.length → (gp ps i).n < (gp ps (i + d + 1)).n := by
      intro d
      induction d with
      | zero => intro i hi; exact (hg (i + 1) hi).2.2.2.2.2 (by omega)
      | succ d ih =>
        intro i hi
        have h1 := ih i (by omega)
        have h2 := (hg (i + (d + 1) + 1) hi).2.2.2.2.2 (by omega)
        rw [show i + (d + 1) + 1 - 1 = i + d + 1 by omega] at h2
        omega
    have := key (j - i - 1) i (by omega)
    rw [show i + (j - i - 1) + 1 = j by omega, gp_get ps i (by omega), gp_get ps j hj'] at this
    simpa using this
  · obtain ⟨k, hk, rfl⟩ := hmem p hp
    exact ⟨(hg k hk).1, (hg k hk).2.1⟩
  · have hup := hu p hp
    obtain ⟨k, hk, rfl⟩ := hmem p hp
    exact ⟨(hg k hk).2.2.2.2.1, hup, ⟨(hg k hk).2.2.1, (hg k hk).2.2.2.1⟩⟩
/-- How loaded ends. -/
structure LoadedE (W : World) (ps : List PV) (e : Ending) (w' : World) : Prop where
  below : Below W.heap.size W w'
  res : ((ps.length ≤ 20 ∧ isP ps = true) ∧ ∃ mb, e = .returned (.tuple #[.pointer (some ⟨mb, 0, none⟩), .bool true]) ∧ LdI W mb ps w') ∨ (¬ (ps.length ≤ 20 ∧ isP ps = true) ∧ e = .returned (.tuple #[.pointer none, .bool false]))
set_option maxRecDepth 100000 in
set_option maxHeartbeats 2000000 in
theorem loaded_any (W : World) (A : Option Addr) (cap : Nat) (ps : List PV) (hrd : Rd W A ps.length 3 (flat ps)) (hby : BytesAt W 0 ps) (hu : ∀ p ∈ ps, ∀ x ∈ p.bs, 0 ≤ x ∧ x < 256) :
    Calls Try.prog 21 #[.slice A ps.length cap] W fun e w' => LoadedE W ps e w' := by
  have HRD := Lib.hid hrd
  have HBY := Lib.hid hby
  have HU := Lib.hid hu
  clear hrd hby hu
  by_cases hl : ps.length ≤ 20
  · have hc : ¬ (ps.length : Int) > 20 := by omega
    have HIP := Lib.hid (IsPages_any W A cap ps HRD.out)
    cases hp : isP ps with
    | false =>
      rw [hp] at HIP
      have HP := Lib.hid hp
      clear hp
      go_enter Try.func21, Try.ntmps21
      go_wp2_with fail
      refine HIP.out.mono ?_
      rintro e w1 ⟨rfl, hb1⟩
      have HB := Lib.hid hb1
      clear hb1
      go_wp2_with fail
      go_ret2
      exact ⟨HB.out, .inr ⟨fun h => by rw [HP.out] at h; exact absurd h.2 (by simp), rfl⟩⟩
    | true =>
      rw [hp] at HIP
      have HP := Lib.hid hp
      clear hp
      go_enter Try.func21, Try.ntmps21
      go_wp2_with fail
      refine HIP.out.mono ?_
      rintro e w1 ⟨rfl, hb1⟩
      have HB := Lib.hid hb1
      have HLD := Lib.hid (Load_any w1 A cap ps (HRD.out.below hb1) (HBY.out.below hb1) (psOk_of HP.out HU.out (by omega)))
      clear hb1
      go_wp2_with fail
      refine HLD.out.mono ?_
      rintro e w2 ⟨mb, rfl, hld⟩
      have HL := Lib.hid hld
      have hnp := fun (V : World) => run_neq_pointer_nil (P := Try.prog) V 25 (some ⟨mb, 0, none⟩) (by kernel_rfl)
      clear hld
      go_wp2_with fail
      go_ret2
      refine ⟨HB.out.trans (HL.out.below.mono HB.out.size), .inl ⟨⟨hl, HP.out⟩, mb, rfl, ?_⟩⟩
      obtain ⟨S, kp, ko, a1, a2, a3, a4⟩ := HL.out.ex
      exact ⟨⟨S, kp, ko, a1, a2, a3, fun x hx => by have := a4 x hx; have := HB.out.size; omega⟩, HB.out.trans (HL.out.below.mono HB.out.size)⟩
  · have hc : (ps.length : Int) > 20 := by omega
    go_enter Try.func21, Try.ntmps21
    go_wp2_with fail
    go_ret2
    exact ⟨Below.refl _ _, .inr ⟨fun h => hl h.1, rfl⟩⟩
end Go.Proofs.Ytidojcogojchpaa

/- reference: SamePages. (printed by gen/samep.py) -/
set_option linter.unusedVariables false
set_option linter.unusedSimpArgs false
namespace Go.Proofs.Ytidojcogojchpaa
open Go.RowKit Go.Shelf

def sameP (ps qs : List PV) : Bool := decide (ps.map PV.see = qs.map PV.see)
theorem sameP_not {ps qs : List PV} {k : Nat} (hk : k < ps.length) (hq : k < qs.length) (h : (gp ps k).see ≠ (gp qs k).see) : sameP ps qs = false := by
  refine decide_eq_false fun e => h ?_
  have := congrArg (fun l => l[k]?) e
  simpa [gp_get ps k hk, gp_get qs k hq, hk, hq] using this
theorem sameP_all {ps qs : List PV} (hl : ps.length = qs.length) (h : ∀ k, k < ps.length → (gp ps k).see = (gp qs k).see) : sameP ps qs = true := by
  refine decide_eq_true (List.ext_getElem (by simpa using hl) fun k h1 h2 => ?_)
  have hk : k < ps.length := by simpa using h1
  have := h k hk
  simpa [gp_get ps k hk, gp_get qs k (by omega)] using this
theorem str_eq {xs ys : List Int} (hx : ∀ x ∈ xs, 0 ≤ x ∧ x < 256) (hy : ∀ y ∈ ys, 0 ≤ y ∧ y < 256) : (strOfNums xs).toList = (strOfNums ys).toList ↔ xs = ys := by
  constructor
  · intro h
    refine bytesOf_inj hx hy ?_
    rw [← Lib.strOfNums_toList, ← Lib.strOfNums_toList, h]
  · intro h; rw [h]
theorem bytesIn_of {W : World} {A : Option Addr} {xs : List Int} (h : Rd W A xs.length 1 (nums .u8 xs)) : Lib.BytesIn W A xs.length xs := by
  have hc : ∀ i, i < xs.length → ∃ ad, A = some ad ∧ W.cell? (ad.add i) = some (.int .u8 (xs.getD i 0)) := fun i hi => by
    obtain ⟨ad, e, h1⟩ := h.cell i (by rw [nums_length]; exact hi)
    rw [nums_get] at h1
    exact ⟨ad, e, h1⟩
  by_cases h0 : 0 < xs.length
  · obtain ⟨ad, rfl, _⟩ := hc 0 h0
    exact Lib.BytesIn.of_cells fun i hi => by
      obtain ⟨ad', e, h1⟩ := hc i hi
      cases e
      exact h1
  · exact fun h => absurd h h0
set_option maxRecDepth 100000 in
set_option maxHeartbeats 4000000 in
theorem SamePages_any (W : World) (A B : Option Addr) (ca cb : Nat) (ps qs : List PV) (h1 : Rd W A ps.length 3 (flat ps)) (h2 : Rd W B qs.length 3 (flat qs)) (y1 : BytesAt W 0 ps) (y2 : BytesAt W 0 qs)
    (u1 : ∀ p ∈ ps, ∀ x ∈ p.bs, 0 ≤ x ∧ x < 256) (u2 : ∀ p ∈ qs, ∀ x ∈ p.bs, 0 ≤ x ∧ x < 256) :
    Calls Try.prog 24 #[.slice A ps.length ca, .slice B qs.length cb] W fun e w' => e = .returned (.bool (sameP ps qs)) ∧ Below W.heap.size W w' := by
  have H1 := Lib.hid h1
  have H2 := Lib.hid h2
  have Y1 := Lib.hid y1
  have Y2 := Lib.hid y2
  have U1 := Lib.hid u1
  have U2 := Lib.hid u2
  have hle1 := h1.le
  clear h1 h2 y1 y2 u1 u2
  by_cases hl : ps.length = qs.length
  · obtain ⟨m, hm⟩ : ∃ m, ps.length = m := ⟨_, rfl⟩
    have hm2 : qs.length = m := by omega
    have HM := Lib.hid hm
    have HM2 := Lib.hid hm2
    rw [hm] at hle1 ⊢
    rw [hm2]
    clear hm hm2 hl
    go_enter Try.func24, Try.ntmps24
    go_wp2_with fail
    go_loopw [5] (fun i wr => ∃ k : Nat, k ≤ m ∧ i = .int .i64 k ∧ Hid (Below W.heap.size W wr ∧ ∀ j, j < k → (gp ps j).see = (gp qs j).see)) (fun i _ => m - (intOf i).toNat)
    case atStart => exact ⟨0, Nat.zero_le _, rfl, Lib.hid ⟨Below.refl _ _, fun j hj => by omega⟩⟩
    case round =>
      obtain ⟨k, hk, rfl, hI⟩ := hrel
      by_cases hlt : k < m
      · obtain ⟨wd, hwd⟩ : ∃ wd, wr.drew = wd := ⟨_, rfl⟩
        have hbd : Below W.heap.size W wd := by rw [← hwd]; exact bdrewN hI.out.1 1
        have HBD := Lib.hid hbd
        have hkp : k < ps.length := by rw [HM.out]; exact hlt
        have hkq : k < qs.length := by rw [HM2.out]; exact hlt
        obtain ⟨ad, e1, a0, a1, a2⟩ := (H1.out.below hbd).at3 k hkp
        obtain rfl : A = some ad := e1
        obtain ⟨bd, e2, b0, b1, b2⟩ := (H2.out.below hbd).at3 k hkq
        obtain rfl : B = some bd := e2
        have hA := bytesIn_of ((Y1.out.below hbd) _ (gp_mem ps k hkp)).1
        have hB := bytesIn_of ((Y2.out.below hbd) _ (gp_mem qs k hkq)).1
        have hcA := hA.convert (P := Try.prog) rfl (gp ps k).c 42 5 9 Try.underlying42 Try.underlying5 Try.underlying9
        have hcB := hB.convert (P := Try.prog) rfl (gp qs k).c 42 5 9 Try.underlying42 Try.underlying5 Try.underlying9
        have hstr := str_eq (U1.out _ (gp_mem ps k hkp)) (U2.out _ (gp_mem qs k hkq))
        have hnot := fun h => sameP_not (ps := ps) (qs := qs) hkp hkq h
        obtain ⟨P, hP⟩ : ∃ P, gp ps k = P := ⟨_, rfl⟩
        obtain ⟨Q, hQ⟩ : ∃ Q, gp qs k = Q := ⟨_, rfl⟩
        rw [hP] at a0 a1 a2 hcA hstr hnot
        rw [hQ] at b0 b1 b2 hcB hstr hnot
        obtain ⟨pn, pr, pA, pc, pb⟩ := P
        obtain ⟨qn, qr, qA, qc, qb⟩ := Q
        simp only [] at a0 a1 a2 b0 b1 b2 hcA hcB hstr
        obtain ⟨sa, hsa⟩ : ∃ sa, strOfNums pb = sa := ⟨_, rfl⟩
        obtain ⟨sb, hsb⟩ : ∃ sb, strOfNums qb = sb := ⟨_, rfl⟩
        rw [hsa] at hcA hstr
        rw [hsb] at hcB hstr
        have f0 := fun q => Just.cell a0 q
        have f1 := fun q => Just.cell a1 q
        have f2 := fun q => Just.cell a2 q
        have g0 := fun q => Just.cell b0 q
        have g1 := fun q => Just.cell b1 q
        have g2 := fun q => Just.cell b2 q
        have kA : ∀ q : Just wd, _ := fun q => q.eq ▸ hcA
        have kB : ∀ q : Just wd, _ := fun q => q.eq ▸ hcB
        clear hA hB hcA hcB a0 a1 a2 b0 b1 b2 hsa hsb hbd
        by_cases c1 : pn = qn
        · have v1 : (pn != qn) = false := by simp [c1]
          by_cases c2 : pr = qr
          · have v2 : (pr != qr) = false := by simp [c2]
            by_cases c3 : sa.toList = sb.toList
            · have v3 : (!sa.toList == sb.toList) = false := by simp [c3]
              have HG : Hid (∀ j, j < k + 1 → (gp ps j).see = (gp qs j).see) := Lib.hid fun j hj => by
                by_cases e : j = k
                · rw [e, hP, hQ]; simp [PV.see, c1, c2, hstr.1 c3]
                · exact hI.out.2 j (by omega)
              clear hP hQ hstr hnot hI c1 c2 c3
              go_wp2_with fail
              refine region_tail 38 hwd (by kernel_rfl) (by kernel_rfl) ?_
              simp only [List.take_succ_cons, List.take_zero, List.drop_succ_cons, List.drop_zero]
              repeat (go_big_quiet_step (fail))
              refine wpQuiet_nil ?_
              go_wp2_with fail
              go_roundw
              case rel => exact ⟨k + 1, by omega, by go_num, Lib.hid ⟨HBD.out, HG.out⟩⟩
              case measure => simp [intOf]; omega
            · have v3 : (!sa.toList == sb.toList) = true := by simp [c3]
              have HNE := Lib.hid (hnot fun h => c3 (hstr.2 (by simpa [PV.see] using (congrArg (fun z => z.2.2) h))))
              clear hP hQ hstr hnot hI c1 c2 c3
              go_wp2_with fail
              refine region_tail 38 hwd (by kernel_rfl) (by kernel_rfl) ?_
              simp only [List.take_succ_cons, List.take_zero, List.drop_succ_cons, List.drop_zero]
              repeat (go_big_quiet_step (fail))
              refine wpQuiet_nil ?_
              go_wp2_with fail
              go_ret
              exact ⟨by rw [HNE.out]; rfl, HBD.out⟩
          · have v2 : (pr != qr) = true := by simp [c2]
            have HNE := Lib.hid (hnot fun h => c2 (by simpa [PV.see] using (congrArg (fun z => z.2.1) h)))
            clear hP hQ hstr hnot hI c1 c2
            go_wp2_with fail
            refine region_tail 38 hwd (by kernel_rfl) (by kernel_rfl) ?_
            simp only [List.take_succ_cons, List.take_zero, List.drop_succ_cons, List.drop_zero]
            repeat (go_big_quiet_step (fail))
            refine wpQuiet_nil ?_
            go_wp2_with fail
            go_ret
            exact ⟨by rw [HNE.out]; rfl, HBD.out⟩
        · have v1 : (pn != qn) = true := by simp [c1]
          have HNE := Lib.hid (hnot fun h => c1 (by simpa [PV.see] using (congrArg (fun z => z.1) h)))
          clear hP hQ hstr hnot hI c1
          go_wp2_with fail
          refine region_tail 38 hwd (by kernel_rfl) (by kernel_rfl) ?_
          simp only [List.take_succ_cons, List.take_zero, List.drop_succ_cons, List.drop_zero]
          repeat (go_big_quiet_step (fail))
          refine wpQuiet_nil ?_
          go_wp2_with fail
          go_ret
          exact ⟨by rw [HNE.out]; rfl, HBD.out⟩
      · obtain rfl : k = m := by omega
        have HG := Lib.hid (sameP_all (ps := ps) (qs := qs) (by rw [HM.out, HM2.out]) fun j hj => hI.out.2 j (by have := HM.out; omega))
        go_wp2_with fail
        go_ret
        exact ⟨by rw [HG.out]; rfl, hI.out.1⟩
  · have hb : ((ps.length : Int) != (qs.length : Int)) = true := by simp; omega
    have HNE : Hid (sameP ps qs = false) := Lib.hid (decide_eq_false fun e => hl (by simpa using congrArg List.length e))
    go_enter Try.func24, Try.ntmps24
    go_wp2_with fail
    go_ret
    exact ⟨by rw [HNE.out]; rfl, Below.refl _ _⟩
end Go.Proofs.Ytidojcogojchpaa

/- mem's laws: read. -/
set_option linter.unusedVariables false
set_option linter.unusedSimpArgs false
namespace Go.Proofs.Ytidojcogojchpaa
open Go.RowKit Go.Shelf

def needK (k : Int) : Int := if k = 3 then 1 else if k = 4 then 4 else if k = 5 then 3 else 0
theorem ReadE.base {A : PM} {at_ n need : Int} {W W1 w' : World} {e : Ending} (h : ReadE A at_ n need W1 e w') (hb : Below W.heap.size W W1) : ReadE A at_ n need W e w' := by
  obtain ⟨v, a, t, he, hr⟩ := h.res
  refine ⟨hb.trans (h.below.mono hb.size), v, a, t, he, ?_⟩
  cases hr with
  | arg hl => exact .arg hl
  | bad c h0 h1 hb => exact .bad c h0 h1 hb
  | ok v h0 h1 hk hrow => exact .ok v h0 h1 hk (own_base' hrow fun k hk => by have := (hrow.lt k hk).1; have := hb.size; omega)
set_option maxRecDepth 100000 in
set_option maxHeartbeats 2000000 in
theorem lread_any (W : World) (b : Nat) (S : MS) (A : PM) (kind pg n rt at_ : Int) (vb : Value) (h : MemIs W b S A) (ha : 0 ≤ at_ ∧ at_ < 4294967296) :
    Calls Try.prog 31 #[.pointer (some ⟨b, 0, none⟩), .agg #[.int .i64 kind, .int .i64 pg, .int .i64 n, .int .i64 rt, .int .u32 at_, vb]] W fun e w' => ReadE A at_ n (needK kind) W e w' := by
  obtain ⟨W1, hW1⟩ : ∃ W1, W.alloc (.cells #[.int .i64 kind, .int .i64 pg, .int .i64 n, .int .i64 rt, .int .u32 at_, vb] 54) = W1 := ⟨_, rfl⟩
  have hb1 : Below W.heap.size W W1 := by rw [← hW1]; exact balloc _ _
  have hx : W1.heap[W.heap.size]? = some (.cells #[.int .i64 kind, .int .i64 pg, .int .i64 n, .int .i64 rt, .int .u32 at_, vb] 54 (0, 0)) := by rw [← hW1]; exact heap_alloc_new _ _
  have c0 : W1.cell? ⟨W.heap.size, 0, none⟩ = some (.int .i64 kind) := by simp [World.cell?, hx]
  have c2 : W1.cell? ⟨W.heap.size, 2, none⟩ = some (.int .i64 n) := by simp [World.cell?, hx]
  have c4 : W1.cell? ⟨W.heap.size, 4, none⟩ = some (.int .u32 at_) := by simp [World.cell?, hx]
  have HM := Lib.hid (h.below hb1)
  have HB := Lib.hid hb1
  have HA := Lib.hid ha
  clear h hb1 ha hx
  go_enter Try.func31, Try.ntmps31
  by_cases k3 : kind = 3
  · subst k3
    go_wp2_with fail
    refine (Read_any W1 b S A at_ n HM.out HA.out).mono ?_
    rintro e w2 hr
    have h2 := hr.base HB.out
    obtain ⟨v, a, t, rfl, _⟩ := hr.res
    have H2 := Lib.hid h2
    clear hr h2
    go_wp2_with fail
    go_ret3
    exact H2.out
  · by_cases k4 : kind = 4
    · subst k4
      go_wp2_with fail
      refine (Fetch_any W1 b S A at_ n HM.out HA.out).mono ?_
      rintro e w2 hr
      have h2 := hr.base HB.out
      obtain ⟨v, a, t, rfl, _⟩ := hr.res
      have H2 := Lib.hid h2
      clear hr h2
      go_wp2_with fail
      go_ret3
      exact H2.out
    · by_cases k5 : kind = 5
      · subst k5
        go_wp2_with fail
        refine (Both_any W1 b S A at_ n HM.out HA.out).mono ?_
        rintro e w2 hr
        have h2 := hr.base HB.out
        obtain ⟨v, a, t, rfl, _⟩ := hr.res
        have H2 := Lib.hid h2
        clear hr h2
        go_wp2_with fail
        go_ret3
        exact H2.out
      · have hk : needK kind = 0 := by unfold needK; rw [if_neg k3, if_neg k4, if_neg k5]
        rw [hk]
        go_wp2_with fail
        refine (Peek_any W1 b S A at_ n HM.out HA.out).mono ?_
        rintro e w2 hr
        have h2 := hr.base HB.out
        obtain ⟨v, a, t, rfl, _⟩ := hr.res
        have H2 := Lib.hid h2
        clear hr h2
        go_wp2_with fail
        go_ret3
        exact H2.out
end Go.Proofs.Ytidojcogojchpaa

/- mem: what Save gives of what Load has made, in plain words. -/
set_option linter.unusedVariables false
set_option linter.unusedSimpArgs false
namespace Go.Proofs.Ytidojcogojchpaa
open Go.RowKit Go.Shelf

theorem PsOk.lt2 {ps : List PV} (h : PsOk ps) {i j : Nat} (hij : i < j) (hj : j < ps.length) : (gp ps i).n < (gp ps j).n := by
  have := List.pairwise_iff_getElem.1 h.up i j (by simp; omega) (by simp; omega) hij
  simpa [gp_get ps i (by omega), gp_get ps j hj] using this
theorem ldM_pg (ps : List PV) (h : PsOk ps) : ∀ k, k ≤ ps.length → ∀ j, j < k → (ldM (ps.take k)).pg (gp ps j).n = ⟨(gp ps j).r, (gp ps j).bs⟩
  | 0, _, j, hj => by omega
  | k + 1, hk, j, hj => by
    rw [ldM_snoc ps k hk]
    show updPg (ldM (ps.take k)).pg (gp ps k).n ⟨(gp ps k).r, (gp ps k).bs⟩ (gp ps j).n = _
    by_cases e : j = k
    · subst e; rw [updPg_same]
    · have hlt := h.lt2 (i := j) (j := k) (by omega) (by omega)
      rw [updPg_ne (by omega)]
      exact ldM_pg ps h k (by omega) j (by omega)
theorem save_load (ps : List PV) (h : PsOk ps) : seeM (ldM ps).ks (ldM ps).pg = ps.map PV.see := by
  have hk := ldM_ks ps h ps.length (Nat.le_refl _)
  rw [List.take_length] at hk
  unfold seeM
  rw [hk, List.map_map]
  refine List.map_congr_left fun p hp => ?_
  obtain ⟨j, hj, rfl⟩ := List.getElem_of_mem hp
  have := ldM_pg ps h ps.length (Nat.le_refl _) j hj
  rw [List.take_length, gp_get ps j hj] at this
  simp only [Function.comp, PV.see, this]
end Go.Proofs.Ytidojcogojchpaa

/- mem: one memory, or two, that a law has made: all that they read is new, and neither writes what the other reads. -/
set_option linter.unusedVariables false
set_option linter.unusedSimpArgs false
namespace Go.Proofs.Ytidojcogojchpaa
open Go.RowKit Go.Shelf

structure M1 (B : Nat) (W : World) (b : Nat) (A : PM) : Prop where
  ex : ∃ S, Mm W b S A ∧ ∀ k, S.reads A.ks b k → B ≤ k
structure M2 (B : Nat) (W : World) (b : Nat) (A : PM) (c : Nat) (C : PM) : Prop where
  ex : ∃ S T, Mm W b S A ∧ Mm W c T C ∧ (∀ k, S.reads A.ks b k → B ≤ k) ∧ (∀ k, T.reads C.ks c k → B ≤ k) ∧ (∀ k, S.foot b k → ¬ T.reads C.ks c k) ∧ ∀ k, T.foot c k → ¬ S.reads A.ks b k
section
variable {B : Nat} {W W' : World} {b c : Nat} {A A' C C' : PM}
theorem M1.below (h : M1 B W b A) (hb : Below W.heap.size W W') : M1 B W' b A := by
  obtain ⟨S, h1, h2⟩ := h.ex
  exact ⟨S, h1.below hb, h2⟩
theorem M2.below (h : M2 B W b A c C) (hb : Below W.heap.size W W') : M2 B W' b A c C := by
  obtain ⟨S, T, h1, h2, h3⟩ := h.ex
  exact ⟨S, T, h1.below hb, h2.below hb, h3⟩
theorem M2.symm (h : M2 B W b A c C) : M2 B W c C b A := by
  obtain ⟨S, T, h1, h2, h3, h4, h5, h6⟩ := h.ex
  exact ⟨T, S, h2, h1, h4, h3, h6, h5⟩
theorem M2.fst (h : M2 B W b A c C) : M1 B W b A := by
  obtain ⟨S, T, h1, h2, h3, h4, h5, h6⟩ := h.ex
  exact ⟨S, h1, h3⟩
theorem M2.snd (h : M2 B W b A c C) : M1 B W c C := h.symm.fst
theorem M1.size (h : M1 B W b A) : B ≤ W.heap.size := by
  obtain ⟨S, h1, h2⟩ := h.ex
  have h3 := h1.mem.lt b (.inl rfl)
  have h4 := h2 b (.inl rfl)
  omega
theorem M1.via {B1 : Nat} {W1 : World} (h : M1 B W b A) (hb : Below W1.heap.size W W') : True := trivial
theorem M1.base {B' : Nat} (h : M1 B W b A) (hB : B' ≤ B) : M1 B' W b A := by
  obtain ⟨S, h1, h2⟩ := h.ex
  exact ⟨S, h1, fun k hk => Nat.le_trans hB (h2 k hk)⟩
theorem M1.of_did {S : MS} (h1 : Mm W b S A) (h2 : ∀ k, S.reads A.ks b k → B ≤ k) (d : Did W b S A A' W') : M1 B W' b A' ∧ Below B W W' := by
  obtain ⟨S', m1, g1⟩ := d.ex
  have hs := (M1.mk ⟨S, h1, h2⟩ : M1 B W b A).size
  exact ⟨⟨S', m1, fun k hk => by rcases g1.reads k hk with e | e; exact h2 k e; omega⟩, g1.upd.below hs fun k hk => h2 k (h1.mem.foot_reads k hk)⟩
theorem M2.of_did {S T : MS} (h1 : Mm W b S A) (h2 : Mm W c T C) (h3 : ∀ k, S.reads A.ks b k → B ≤ k) (h4 : ∀ k, T.reads C.ks c k → B ≤ k) (h5 : ∀ k, S.foot b k → ¬ T.reads C.ks c k)
    (h6 : ∀ k, T.foot c k → ¬ S.reads A.ks b k) (d : Did W c T C C' W') : M2 B W' b A c C' ∧ Below B W W' := by
  obtain ⟨T', m1, g1⟩ := d.ex
  have hs := (M1.mk ⟨S, h1, h3⟩ : M1 B W b A).size
  have hl := h1.mem.lt
  refine ⟨⟨S, T', ⟨h1.mem.upd g1.upd fun k hk hf => h6 k hf hk, h1.bp⟩, m1, h3, fun k hk => ?_, fun k hk hr => ?_, fun k hk hr => ?_⟩, g1.upd.below hs fun k hk => h4 k (h2.mem.foot_reads k hk)⟩
  · rcases g1.reads k hk with e | e; exact h4 k e; omega
  · rcases g1.reads k hr with e | e
    · exact h5 k hk e
    · have := hl k (h1.mem.foot_reads k hk); omega
  · rcases g1.foot k hk with e | e
    · exact h6 k e hr
    · have := hl k hr; omega
/-- A box laid behind the memories: its block is none of theirs. -/
theorem M1.new_box (h : M1 B W b A) (o : Obj) : M1 B (W.alloc o) b A := h.below (balloc _ _)
theorem M2.new_box (h : M2 B W b A c C) (o : Obj) : M2 B (W.alloc o) b A c C := h.below (balloc _ _)
end
section
variable {B : Nat} {W : World} {b c : Nat} {A C : PM}
theorem M1.Map (h : M1 B W b A) (f n r : Int) :
    Calls Try.prog 33 #[.pointer (some ⟨b, 0, none⟩), .int .i64 f, .int .i64 n, .int .i64 r] W fun e w' => e = .returned (.int .i64 (mapR A f n r)) ∧ M1 B w' b (mapA A f n r) ∧ Below B W w' := by
  obtain ⟨S, h1, h2⟩ := h.ex
  exact (Map_all W b S A f n r h1).mono fun e w' ⟨a, d⟩ => ⟨a, M1.of_did h1 h2 d⟩
theorem M1.Unmap (h : M1 B W b A) (f n : Int) :
    Calls Try.prog 34 #[.pointer (some ⟨b, 0, none⟩), .int .i64 f, .int .i64 n] W fun e w' => e = .returned (.int .i64 (unmR A f n)) ∧ M1 B w' b (unmA A f n) ∧ Below B W w' := by
  obtain ⟨S, h1, h2⟩ := h.ex
  exact (Unmap_all W b S A f n h1).mono fun e w' ⟨a, d⟩ => ⟨a, M1.of_did h1 h2 d⟩
theorem M1.Protect (h : M1 B W b A) (f n r : Int) :
    Calls Try.prog 30 #[.pointer (some ⟨b, 0, none⟩), .int .i64 f, .int .i64 n, .int .i64 r] W fun e w' => e = .returned (.int .i64 (proR A f n r)) ∧ M1 B w' b (proA A f n r) ∧ Below B W w' := by
  obtain ⟨S, h1, h2⟩ := h.ex
  exact (Protect_all W b S A f n r h1).mono fun e w' ⟨a, d⟩ => ⟨a, M1.of_did h1 h2 d⟩
theorem M2.Map (h : M2 B W b A c C) (f n r : Int) :
    Calls Try.prog 33 #[.pointer (some ⟨c, 0, none⟩), .int .i64 f, .int .i64 n, .int .i64 r] W fun e w' => e = .returned (.int .i64 (mapR C f n r)) ∧ M2 B w' b A c (mapA C f n r) ∧ Below B W w' := by
  obtain ⟨S, T, h1, h2, h3, h4, h5, h6⟩ := h.ex
  exact (Map_all W c T C f n r h2).mono fun e w' ⟨a, d⟩ => ⟨a, M2.of_did h1 h2 h3 h4 h5 h6 d⟩
theorem M2.Unmap (h : M2 B W b A c C) (f n : Int) :
    Calls Try.prog 34 #[.pointer (some ⟨c, 0, none⟩), .int .i64 f, .int .i64 n] W fun e w' => e = .returned (.int .i64 (unmR C f n)) ∧ M2 B w' b A c (unmA C f n) ∧ Below B W w' := by
  obtain ⟨S, T, h1, h2, h3, h4, h5, h6⟩ := h.ex
  exact (Unmap_all W c T C f n h2).mono fun e w' ⟨a, d⟩ => ⟨a, M2.of_did h1 h2 h3 h4 h5 h6 d⟩
theorem M2.Protect (h : M2 B W b A c C) (f n r : Int) :
    Calls Try.prog 30 #[.pointer (some ⟨c, 0, none⟩), .int .i64 f, .int .i64 n, .int .i64 r] W fun e w' => e = .returned (.int .i64 (proR C f n r)) ∧ M2 B w' b A c (proA C f n r) ∧ Below B W w' := by
  obtain ⟨S, T, h1, h2, h3, h4, h5, h6⟩ := h.ex
  exact (Protect_all W c T C f n r h2).mono fun e w' ⟨a, d⟩ => ⟨a, M2.of_did h1 h2 h3 h4 h5 h6 d⟩
/-- Bytes that may be written into memories: they lie in an old block, or in one that is none of the memories'. -/
structure Src (B : Nat) (W : World) (Ad : Option Addr) (cap : Nat) (bs : List Int) (P : Nat → Prop) : Prop where
  cap : bs.length ≤ cap
  rd : Rd W Ad bs.length 1 (nums .u8 bs)
  u8 : ∀ x ∈ bs, 0 ≤ x ∧ x < 256
  lies : ∀ ad, Ad = some ad → ad.block < W.heap.size ∧ ¬ P ad.block
theorem M1.Write0 (h : M1 B W b A) (at_ : Int) (bs : List Int) (Ad : Option Addr) (cap : Nat) (ha : 0 ≤ at_ ∧ at_ < 4294967296) (hcap : bs.length ≤ cap) (hrd : Rd W Ad bs.length 1 (nums .u8 bs)) (hbs : ∀ x ∈ bs, 0 ≤ x ∧ x < 256) (hA : 0 < bs.length → ∀ ad, Ad = some ad → ad.block < B) :
    Calls Try.prog 23 #[.pointer (some ⟨b, 0, none⟩), .int .u32 at_, .slice Ad bs.length cap] W fun e w' => e = .returned (.tuple #[.int .u32 (wrA A 2 at_ bs.length), .bool (wrB A 2 at_ bs.length)]) ∧ M1 B w' b (wrM A 2 at_ bs) ∧ Below B W w' := by
  have hs := h.size
  obtain ⟨S, h1, h2⟩ := h.ex
  exact (Write_any W b S A at_ bs Ad cap h1.mem ha hcap hrd hbs fun h0 ad e => ⟨by have := hA h0 ad e; omega, fun hf => by have := h2 _ (h1.mem.foot_reads _ hf); have := hA h0 ad e; omega⟩).mono fun e w' hw => by
    obtain ⟨e1, d⟩ := Did.of_write hw h1.bp
    exact ⟨e1, M1.of_did h1 h2 d⟩
theorem M1.Poke0 (h : M1 B W b A) (at_ : Int) (bs : List Int) (Ad : Option Addr) (cap : Nat) (ha : 0 ≤ at_ ∧ at_ < 4294967296) (hcap : bs.length ≤ cap) (hrd : Rd W Ad bs.length 1 (nums .u8 bs)) (hbs : ∀ x ∈ bs, 0 ≤ x ∧ x < 256) (hA : 0 < bs.length → ∀ ad, Ad = some ad → ad.block < B) :
    Calls Try.prog 35 #[.pointer (some ⟨b, 0, none⟩), .int .u32 at_, .slice Ad bs.length cap] W fun e w' => e = .returned (.tuple #[.int .u32 (wrA A 0 at_ bs.length), .bool (wrB A 0 at_ bs.length)]) ∧ M1 B w' b (wrM A 0 at_ bs) ∧ Below B W w' := by
  have hs := h.size
  obtain ⟨S, h1, h2⟩ := h.ex
  exact (Poke_any W b S A at_ bs Ad cap h1.mem ha hcap hrd hbs fun h0 ad e => ⟨by have := hA h0 ad e; omega, fun hf => by have := h2 _ (h1.mem.foot_reads _ hf); have := hA h0 ad e; omega⟩).mono fun e w' hw => by
    obtain ⟨e1, d⟩ := Did.of_write hw h1.bp
    exact ⟨e1, M1.of_did h1 h2 d⟩
theorem M2.Write0 (h : M2 B W b A c C) (at_ : Int) (bs : List Int) (Ad : Option Addr) (cap : Nat) (ha : 0 ≤ at_ ∧ at_ < 4294967296) (hcap : bs.length ≤ cap) (hrd : Rd W Ad bs.length 1 (nums .u8 bs)) (hbs : ∀ x ∈ bs, 0 ≤ x ∧ x < 256) (hA : 0 < bs.length → ∀ ad, Ad = some ad → ad.block < B) :
    Calls Try.prog 23 #[.pointer (some ⟨c, 0, none⟩), .int .u32 at_, .slice Ad bs.length cap] W fun e w' => e = .returned (.tuple #[.int .u32 (wrA C 2 at_ bs.length), .bool (wrB C 2 at_ bs.length)]) ∧ M2 B w' b A c (wrM C 2 at_ bs) ∧ Below B W w' := by
  have hs := h.snd.size
  obtain ⟨S, T, h1, h2, h3, h4, h5, h6⟩ := h.ex
  exact (Write_any W c T C at_ bs Ad cap h2.mem ha hcap hrd hbs fun h0 ad e => ⟨by have := hA h0 ad e; omega, fun hf => by have := h4 _ (h2.mem.foot_reads _ hf); have := hA h0 ad e; omega⟩).mono fun e w' hw => by
    obtain ⟨e1, d⟩ := Did.of_write hw h2.bp
    exact ⟨e1, M2.of_did h1 h2 h3 h4 h5 h6 d⟩
theorem M2.Poke0 (h : M2 B W b A c C) (at_ : Int) (bs : List Int) (Ad : Option Addr) (cap : Nat) (ha : 0 ≤ at_ ∧ at_ < 4294967296) (hcap : bs.length ≤ cap) (hrd : Rd W Ad bs.length 1 (nums .u8 bs)) (hbs : ∀ x ∈ bs, 0 ≤ x ∧ x < 256) (hA : 0 < bs.length → ∀ ad, Ad = some ad → ad.block < B) :
    Calls Try.prog 35 #[.pointer (some ⟨c, 0, none⟩), .int .u32 at_, .slice Ad bs.length cap] W fun e w' => e = .returned (.tuple #[.int .u32 (wrA C 0 at_ bs.length), .bool (wrB C 0 at_ bs.length)]) ∧ M2 B w' b A c (wrM C 0 at_ bs) ∧ Below B W w' := by
  have hs := h.snd.size
  obtain ⟨S, T, h1, h2, h3, h4, h5, h6⟩ := h.ex
  exact (Poke_any W c T C at_ bs Ad cap h2.mem ha hcap hrd hbs fun h0 ad e => ⟨by have := hA h0 ad e; omega, fun hf => by have := h4 _ (h2.mem.foot_reads _ hf); have := hA h0 ad e; omega⟩).mono fun e w' hw => by
    obtain ⟨e1, d⟩ := Did.of_write hw h2.bp
    exact ⟨e1, M2.of_did h1 h2 h3 h4 h5 h6 d⟩
/-- The same with the bytes in a new block, laid just behind the memory. -/
theorem rd_lit (W : World) (bs : List Int) (hm : bs.length ≤ 1000000) : Rd (W.alloc (.cells (nums .u8 bs).toArray 5)) (some ⟨W.heap.size, 0, none⟩) bs.length 1 (nums .u8 bs) := rd_new W 5 (nums .u8 bs) bs.length 1 (by simp [nums]) (by omega)
theorem M1.WriteL (h : M1 B W b A) (at_ : Int) (bs : List Int) (n : Nat) (hn : bs.length = n) (hm : n ≤ 1000000) (ha : 0 ≤ at_ ∧ at_ < 4294967296) (hbs : ∀ x ∈ bs, 0 ≤ x ∧ x < 256) :
    Calls Try.prog 23 #[.pointer (some ⟨b, 0, none⟩), .int .u32 at_, .slice (some ⟨W.heap.size, 0, none⟩) n n] (W.alloc (.cells (nums .u8 bs).toArray 5)) fun e w' => e = .returned (.tuple #[.int .u32 (wrA A 2 at_ bs.length), .bool (wrB A 2 at_ bs.length)]) ∧ M1 B w' b (wrM A 2 at_ bs) ∧ Below B W w' := by
  subst hn
  have hs := h.size
  have h' := h.new_box (.cells (nums .u8 bs).toArray 5)
  obtain ⟨S, h1, h2⟩ := h.ex
  have hm1 := h1.below (balloc W (.cells (nums .u8 bs).toArray 5))
  refine (Write_any _ b S A at_ bs _ bs.length hm1.mem ha (Nat.le_refl _) (rd_lit W bs hm) hbs fun h0 ad e => ?_).mono fun e w' hw => ?_
  · obtain rfl : (⟨W.heap.size, 0, none⟩ : Addr) = ad := by injection e
    exact ⟨by simp, fun hf => Nat.lt_irrefl W.heap.size (h1.mem.lt W.heap.size (h1.mem.foot_reads _ hf))⟩
  · obtain ⟨e1, d⟩ := Did.of_write hw h1.bp
    have := M1.of_did hm1 h2 d
    exact ⟨e1, this.1, ((balloc _ _).mono hs).trans this.2⟩
theorem M1.PokeL (h : M1 B W b A) (at_ : Int) (bs : List Int) (n : Nat) (hn : bs.length = n) (hm : n ≤ 1000000) (ha : 0 ≤ at_ ∧ at_ < 4294967296) (hbs : ∀ x ∈ bs, 0 ≤ x ∧ x < 256) :
    Calls Try.prog 35 #[.pointer (some ⟨b, 0, none⟩), .int .u32 at_, .slice (some ⟨W.heap.size, 0, none⟩) n n] (W.alloc (.cells (nums .u8 bs).toArray 5)) fun e w' => e = .returned (.tuple #[.int .u32 (wrA A 0 at_ bs.length), .bool (wrB A 0 at_ bs.length)]) ∧ M1 B w' b (wrM A 0 at_ bs) ∧ Below B W w' := by
  subst hn
  have hs := h.size
  have h' := h.new_box (.cells (nums .u8 bs).toArray 5)
  obtain ⟨S, h1, h2⟩ := h.ex
  have hm1 := h1.below (balloc W (.cells (nums .u8 bs).toArray 5))
  refine (Poke_any _ b S A at_ bs _ bs.length hm1.mem ha (Nat.le_refl _) (rd_lit W bs hm) hbs fun h0 ad e => ?_).mono fun e w' hw => ?_
  · obtain rfl : (⟨W.heap.size, 0, none⟩ : Addr) = ad := by injection e
    exact ⟨by simp, fun hf => Nat.lt_irrefl W.heap.size (h1.mem.lt W.heap.size (h1.mem.foot_reads _ hf))⟩
  · obtain ⟨e1, d⟩ := Did.of_write hw h1.bp
    have := M1.of_did hm1 h2 d
    exact ⟨e1, this.1, ((balloc _ _).mono hs).trans this.2⟩
theorem M2.PokeL (h : M2 B W b A c C) (at_ : Int) (bs : List Int) (n : Nat) (hn : bs.length = n) (hm : n ≤ 1000000) (ha : 0 ≤ at_ ∧ at_ < 4294967296) (hbs : ∀ x ∈ bs, 0 ≤ x ∧ x < 256) :
    Calls Try.prog 35 #[.pointer (some ⟨c, 0, none⟩), .int .u32 at_, .slice (some ⟨W.heap.size, 0, none⟩) n n] (W.alloc (.cells (nums .u8 bs).toArray 5)) fun e w' => e = .returned (.tuple #[.int .u32 (wrA C 0 at_ bs.length), .bool (wrB C 0 at_ bs.length)]) ∧ M2 B w' b A c (wrM C 0 at_ bs) ∧ Below B W w' := by
  subst hn
  have hs := h.snd.size
  obtain ⟨S, T, h1, h2, h3, h4, h5, h6⟩ := h.ex
  have hb := balloc W (.cells (nums .u8 bs).toArray 5)
  refine (Poke_any _ c T C at_ bs _ bs.length (h2.below hb).mem ha (Nat.le_refl _) (rd_lit W bs hm) hbs fun h0 ad e => ?_).mono fun e w' hw => ?_
  · obtain rfl : (⟨W.heap.size, 0, none⟩ : Addr) = ad := by injection e
    exact ⟨by simp, fun hf => Nat.lt_irrefl W.heap.size (h2.mem.lt W.heap.size (h2.mem.foot_reads _ hf))⟩
  · obtain ⟨e1, d⟩ := Did.of_write hw h2.bp
    have := M2.of_did (h1.below hb) (h2.below hb) h3 h4 h5 h6 d
    exact ⟨e1, this.1, (hb.mono hs).trans this.2⟩
theorem M1.Clone (h : M1 B W b A) :
    Calls Try.prog 29 #[.pointer (some ⟨b, 0, none⟩)] W fun e w' => ∃ c, e = .returned (.pointer (some ⟨c, 0, none⟩)) ∧ M2 B w' b A c A ∧ Below B W w' := by
  have hs := h.size
  obtain ⟨S, h1, h2⟩ := h.ex
  obtain ⟨kp, ko, hp, ho⟩ := h1.maps
  refine (Clone_any W b S A h1.mem hp ho).mono ?_
  rintro e w' ⟨nb, S2, rfl, hc⟩
  obtain ⟨kq, kr, hq, hr⟩ := hc.maps
  have hlt := h1.mem.lt
  have hb0 := h2 b (.inl rfl)
  have hsz : W.heap.size ≤ w'.heap.size := hc.went.upd.size
  -- what the new memory reads: new blocks, or pages of the old one
  have hrd : ∀ k, S2.reads A.ks nb k → W.heap.size ≤ k ∨ ∃ n ∈ A.ks, k = S.at_ n := by
    rintro k (e | e | e | e | ⟨n, hn, e⟩)
    · exact .inl (hc.foot k (.inl e))
    · exact .inl (hc.foot k (.inr (.inl e)))
    · exact .inl (hc.foot k (.inr (.inr (.inl e))))
    · exact .inl (hc.foot k (.inr (.inr (.inr (.inl e)))))
    · exact .inr ⟨n, hn, by rw [e, hc.at_]⟩
  have hold : ∀ k, MS.foot { S with own := [] } b k → k = b ∨ S.bc = some k ∨ S.bp = some k ∨ S.bo = some k := by
    rintro k (e | e | e | e | ⟨n, hn, e⟩)
    · exact .inl e
    · exact .inr (.inl e)
    · exact .inr (.inr (.inl e))
    · exact .inr (.inr (.inr e))
    · cases hn
  refine ⟨nb, rfl, ⟨_, S2, ⟨hc.old, h1.bp⟩, ⟨hc.new, by rw [hq]; simp⟩, fun k hk => h2 k hk, fun k hk => ?_, fun k hk hr => ?_, fun k hk hr => ?_⟩, hc.went.upd.below hs fun k hk => h2 k (h1.mem.foot_reads k hk)⟩
  · rcases hrd k hk with e | ⟨n, hn, rfl⟩
    · omega
    · exact h2 _ (.inr (.inr (.inr (.inr ⟨n, hn, rfl⟩))))
  · have hk' := hold k hk
    rcases hrd k hr with e | ⟨n, hn, rfl⟩
    · have : k < W.heap.size := by
        rcases hk' with e | e | e | e
        · exact hlt k (.inl e)
        · exact hlt k (.inr (.inl e))
        · exact hlt k (.inr (.inr (.inl e)))
        · exact hlt k (.inr (.inr (.inr (.inl e))))
      omega
    · obtain ⟨p1, p2, p3, p4⟩ := h1.mem.page_ne n hn
      rcases hk' with e | e | e | e
      · exact p1 e
      · exact p2 e
      · exact p3 e
      · exact p4 e
  · have h3 := hc.foot k hk
    have h4 := hlt k hr
    omega
/-- The second of two is cloned; the clone takes its place. -/
theorem M2.Clone (h : M2 B W b A c C) :
    Calls Try.prog 29 #[.pointer (some ⟨c, 0, none⟩)] W fun e w' => ∃ d, e = .returned (.pointer (some ⟨d, 0, none⟩)) ∧ M2 B w' b A d C ∧ Below B W w' := by
  have hs := h.snd.size
  obtain ⟨S, T, h1, h2, h3, h4, h5, h6⟩ := h.ex
  obtain ⟨kp, ko, hp, ho⟩ := h2.maps
  refine (Clone_any W c T C h2.mem hp ho).mono ?_
  rintro e w' ⟨nb, S2, rfl, hc⟩
  obtain ⟨kq, kr, hq, hr⟩ := hc.maps
  have hlt := h1.mem.lt
  have hlt2 := h2.mem.lt
  have hrd : ∀ k, S2.reads C.ks nb k → W.heap.size ≤ k ∨ T.reads C.ks c k := by
    rintro k (e | e | e | e | ⟨n, hn, e⟩)
    · exact .inl (hc.foot k (.inl e))
    · exact .inl (hc.foot k (.inr (.inl e)))
    · exact .inl (hc.foot k (.inr (.inr (.inl e))))
    · exact .inl (hc.foot k (.inr (.inr (.inr (.inl e)))))
    · exact .inr (.inr (.inr (.inr (.inr ⟨n, hn, by rw [e, hc.at_]⟩))))
  refine ⟨nb, rfl, ⟨S, S2, ⟨h1.mem.upd hc.went.upd fun k hk hf => h6 k hf hk, h1.bp⟩, ⟨hc.new, by rw [hq]; simp⟩, h3, fun k hk => ?_, fun k hk hr => ?_, fun k hk hr => ?_⟩, hc.went.upd.below hs fun k hk => h4 k (h2.mem.foot_reads k hk)⟩
  · rcases hrd k hk with e | e
    · omega
    · exact h4 k e
  · rcases hrd k hr with e | e
    · have := hlt k (h1.mem.foot_reads k hk); omega
    · exact h5 k hk e
  · have h7 := hc.foot k hk
    have := hlt k hr
    omega
theorem M1.Mark (h : M1 B W b A) :
    Calls Try.prog 45 #[.pointer (some ⟨b, 0, none⟩)] W fun e w' => e = .returned (.tuple #[]) ∧ M1 B w' b { A with cg := [] } ∧ Below B W w' := by
  have hs := h.size
  obtain ⟨S, h1, h2⟩ := h.ex
  refine (Mark_any W b S A h1.mem).mono ?_
  rintro e w' ⟨rfl, m1, g1⟩
  exact ⟨rfl, ⟨S, ⟨m1, h1.bp⟩, h2⟩, g1.upd.below hs fun k hk => h2 k (h1.mem.foot_reads k hk)⟩
theorem New_M1 (w : World) : Calls Try.prog 39 #[] w fun e w' => ∃ b, e = .returned (.pointer (some ⟨b, 0, none⟩)) ∧ M1 w.heap.size w' b PM.new ∧ Below w.heap.size w w' := by
  refine (New_Mm w).mono ?_
  rintro e w' ⟨b, S, rfl, h1, h2, h3⟩
  exact ⟨b, rfl, ⟨S, h1, h3⟩, h2⟩
theorem LdI.m1 {ps : List PV} {W' : World} (h : LdI W b ps W') : M1 W.heap.size W' b (ldM ps) ∧ Below W.heap.size W W' := by
  obtain ⟨S, kp, ko, h1, h2, h3, h4⟩ := h.ex
  exact ⟨⟨S, ⟨h3, by rw [h1]; simp⟩, h4⟩, h.below⟩
/-- What a reading call of n bytes hands back. -/
structure RdU (A : PM) (at_ n need : Int) (W : World) (e : Ending) (w' : World) : Prop where
  ex : ∃ Ad cap, e = .returned (.tuple #[.slice Ad (rdL A need at_ n).length cap, .int .u32 (rdA A need at_ n), .bool (rdB A need at_ n)]) ∧ Rd w' Ad (rdL A need at_ n).length 1 (nums .u8 (rdL A need at_ n)) ∧ (rdL A need at_ n).length ≤ cap ∧ ∀ ad, Ad = some ad → W.heap.size ≤ ad.block
  below : Below W.heap.size W w'
  u8 : ∀ x ∈ rdL A need at_ n, 0 ≤ x ∧ x < 256
theorem rdL_u8 {S : MS} (h : MemIs W b S A) (need at_ n : Int) : ∀ x ∈ rdL A need at_ n, 0 ≤ x ∧ x < 256 := by
  intro x hx
  unfold rdL at hx
  by_cases hc : rdB A need at_ n = true
  · rw [if_pos hc] at hx
    have hok : allOk A need at_ n := by
      unfold rdB at hc
      split at hc
      · cases hc
      · exact firstBad_all (by simpa using hc)
    exact bytesN_u8 h hok x hx
  · rw [if_neg hc] at hx; cases hx
theorem ReadE.rdU {S : MS} {at_ n need : Int} {e : Ending} {w' : World} (hr : ReadE A at_ n need W e w') (h : MemIs W b S A) : RdU A at_ n need W e w' := by
  have hu := hr.u
  obtain ⟨v, e1, row⟩ := hu.res
  obtain ⟨Ad, cap, rfl, rd⟩ := own_rd row
  refine ⟨⟨Ad, cap, e1, rd, ?_, ?_⟩, hu.below, rdL_u8 h need at_ n⟩
  · rcases row.2 with ⟨e0, h0⟩ | ⟨g, cap', cur, e0, hb, hg, hn, hm, hs, ht⟩
    · injection e0 with e1 e2 e3; omega
    · injection e0 with e1 e2 e3; omega
  · intro ad had
    rcases row.2 with ⟨e0, h0⟩ | ⟨g, cap', cur, e0, hb, hg, hn, hm, hs, ht⟩
    · injection e0 with e1; rw [had] at e1; cases e1
    · injection e0 with e1; rw [had] at e1; injection e1 with e1; rw [e1]; exact hb
theorem M1.Read (h : M1 B W b A) (at_ n : Int) (ha : 0 ≤ at_ ∧ at_ < 4294967296) :
    Calls Try.prog 37 #[.pointer (some ⟨b, 0, none⟩), .int .u32 at_, .int .i64 n] W fun e w' => RdU A at_ n 1 W e w' := by
  obtain ⟨S, h1, h2⟩ := h.ex
  exact (Read_any W b S A at_ n h1.mem ha).mono fun e w' hr => hr.rdU h1.mem
theorem M1.Fetch (h : M1 B W b A) (at_ n : Int) (ha : 0 ≤ at_ ∧ at_ < 4294967296) :
    Calls Try.prog 55 #[.pointer (some ⟨b, 0, none⟩), .int .u32 at_, .int .i64 n] W fun e w' => RdU A at_ n 4 W e w' := by
  obtain ⟨S, h1, h2⟩ := h.ex
  exact (Fetch_any W b S A at_ n h1.mem ha).mono fun e w' hr => hr.rdU h1.mem
theorem M1.Both (h : M1 B W b A) (at_ n : Int) (ha : 0 ≤ at_ ∧ at_ < 4294967296) :
    Calls Try.prog 73 #[.pointer (some ⟨b, 0, none⟩), .int .u32 at_, .int .i64 n] W fun e w' => RdU A at_ n 3 W e w' := by
  obtain ⟨S, h1, h2⟩ := h.ex
  exact (Both_any W b S A at_ n h1.mem ha).mono fun e w' hr => hr.rdU h1.mem
theorem M1.Peek (h : M1 B W b A) (at_ n : Int) (ha : 0 ≤ at_ ∧ at_ < 4294967296) :
    Calls Try.prog 26 #[.pointer (some ⟨b, 0, none⟩), .int .u32 at_, .int .i64 n] W fun e w' => RdU A at_ n 0 W e w' := by
  obtain ⟨S, h1, h2⟩ := h.ex
  exact (Peek_any W b S A at_ n h1.mem ha).mono fun e w' hr => hr.rdU h1.mem
theorem M1.lread (h : M1 B W b A) (kind pg n rt at_ : Int) (vb : Value) (ha : 0 ≤ at_ ∧ at_ < 4294967296) :
    Calls Try.prog 31 #[.pointer (some ⟨b, 0, none⟩), .agg #[.int .i64 kind, .int .i64 pg, .int .i64 n, .int .i64 rt, .int .u32 at_, vb]] W fun e w' => RdU A at_ n (needK kind) W e w' := by
  obtain ⟨S, h1, h2⟩ := h.ex
  exact (lread_any W b S A kind pg n rt at_ vb h1.mem ha).mono fun e w' hr => hr.rdU h1.mem
/-- Sum, without cases. -/
noncomputable def smV (A : PM) (at_ n : Int) : Int := if rdB A 0 at_ n = true then sumF (bytesN A at_ n.toNat) else 0
theorem ReadR.flag {at_ n need : Int} {w' : World} {v : Value} {a : Int} {t : Bool} (h : ReadR A at_ n need W w' v a t) : t = rdB A need at_ n := by
  unfold rdB
  cases h with
  | arg hl => rw [if_pos hl]
  | bad c h0 h1 hb => rw [if_neg (by omega), firstBad_some hb]; rfl
  | ok v h0 h1 hk hr => rw [if_neg (by omega), firstBad_none hk]; rfl
theorem M1.Sum (h : M1 B W b A) (at_ n : Int) (ha : 0 ≤ at_ ∧ at_ < 4294967296) :
    Calls Try.prog 57 #[.pointer (some ⟨b, 0, none⟩), .int .u32 at_, .int .i64 n] W fun e w' => e = .returned (.tuple #[.int .u64 (smV A at_ n), .bool (rdB A 0 at_ n)]) ∧ Below W.heap.size W w' := by
  obtain ⟨S, h1, h2⟩ := h.ex
  refine (Sum_any W b S A at_ n h1.mem ha).mono ?_
  rintro e w' ⟨hb, ⟨v, a, rfl, hr⟩ | ⟨n0, n1, hok, rfl⟩⟩
  · have := hr.flag
    unfold smV
    rw [← this]
    exact ⟨rfl, hb⟩
  · have : rdB A 0 at_ n = true := by unfold rdB; rw [if_neg (by omega), firstBad_none hok]; rfl
    unfold smV
    rw [this]
    exact ⟨rfl, hb⟩
/-- Numbers handed back in a new row. -/
structure IntsU (L : List Int) (W : World) (e : Ending) (w' : World) : Prop where
  ex : ∃ Ad cap, e = .returned (.slice Ad L.length cap) ∧ Rd w' Ad L.length 1 (nums .i64 L) ∧ L.length ≤ cap ∧ ∀ ad, Ad = some ad → W.heap.size ≤ ad.block
  below : Below W.heap.size W w'
theorem M1.Changed (h : M1 B W b A) :
    Calls Try.prog 36 #[.pointer (some ⟨b, 0, none⟩)] W fun e w' => IntsU A.cg W e w' := by
  obtain ⟨S, h1, h2⟩ := h.ex
  refine (Changed_any W b S A h1.mem).mono ?_
  rintro e w' ⟨v, rfl, hk⟩
  obtain ⟨Ad, cap, rfl, rd⟩ := own_rd hk.row
  refine ⟨⟨Ad, cap, rfl, rd, ?_, ?_⟩, hk.below⟩
  · rcases hk.row.2 with ⟨e0, h0⟩ | ⟨g, cap', cur, e0, hb, hg, hn, hm, hs, ht⟩
    · injection e0 with e1 e2 e3; omega
    · injection e0 with e1 e2 e3; omega
  · intro ad had
    rcases hk.row.2 with ⟨e0, h0⟩ | ⟨g, cap', cur, e0, hb, hg, hn, hm, hs, ht⟩
    · injection e0 with e1; rw [had] at e1; cases e1
    · injection e0 with e1; rw [had] at e1; injection e1 with e1; rw [e1]; exact hb
structure SpansU (L : List (Int × Int)) (W : World) (e : Ending) (w' : World) : Prop where
  ex : ∃ Ad cap, e = .returned (.slice Ad L.length cap) ∧ Rd w' Ad L.length 2 (sflat L) ∧ ∀ ad, Ad = some ad → W.heap.size ≤ ad.block
  below : Below W.heap.size W w'
def diffL (A C : PM) : List (Int × Int) := (spans (posA A C (uni A.ks C.ks))).1
theorem Diff_M {B1 B2 : Nat} (h : M1 B1 W b A) (h' : M1 B2 W c C) :
    Calls Try.prog 17 #[.pointer (some ⟨b, 0, none⟩), .pointer (some ⟨c, 0, none⟩)] W fun e w' => SpansU (diffL A C) W e w' := by
  obtain ⟨S, h1, h2⟩ := h.ex
  obtain ⟨T, h3, h4⟩ := h'.ex
  refine (Diff_any W b c S T A C h1.mem h3.mem).mono ?_
  rintro e w' ⟨v, rfl, hk⟩
  obtain ⟨Ad, cap, rfl, rd⟩ := own_rd hk.row
  refine ⟨⟨Ad, cap, rfl, rd, ?_⟩, hk.below⟩
  intro ad had
  rcases hk.row.2 with ⟨e0, h0⟩ | ⟨g, cap', cur, e0, hb, hg, hn, hm, hs, ht⟩
  · injection e0 with e1; rw [had] at e1; cases e1
  · injection e0 with e1; rw [had] at e1; injection e1 with e1; rw [e1]; exact hb
/-- Pages handed back in new rows. -/
structure PagesU (A : PM) (W : World) (e : Ending) (w' : World) : Prop where
  ex : ∃ Ad cap ps, e = .returned (.slice Ad ps.length cap) ∧ Rd w' Ad ps.length 3 (flat ps) ∧ (∀ ad, Ad = some ad → W.heap.size ≤ ad.block) ∧ ps.map PV.see = seeM A.ks A.pg ∧ BytesAt w' W.heap.size ps ∧ ∀ p ∈ ps, ∀ x ∈ p.bs, 0 ≤ x ∧ x < 256
  below : Below W.heap.size W w'
theorem M1.Save (h : M1 B W b A) :
    Calls Try.prog 25 #[.pointer (some ⟨b, 0, none⟩)] W fun e w' => PagesU A W e w' := by
  obtain ⟨S, h1, h2⟩ := h.ex
  refine (Save_any W b S A h1.mem).mono ?_
  rintro e w' ⟨v, rfl, hk⟩
  obtain ⟨ps, row, see, by_⟩ := hk.ex
  obtain ⟨Ad, cap, rfl, rd⟩ := own_rd row
  refine ⟨⟨Ad, cap, ps, rfl, rd, ?_, see, by_, ?_⟩, hk.below⟩
  · intro ad had
    rcases row.2 with ⟨e0, h0⟩ | ⟨g, cap', cur, e0, hb, hg, hn, hm, hs, ht⟩
    · injection e0 with e1; rw [had] at e1; cases e1
    · injection e0 with e1; rw [had] at e1; injection e1 with e1; rw [e1]; exact hb
  · intro p hp x hx
    have hm : p.see ∈ seeM A.ks A.pg := by rw [← see]; exact List.mem_map.2 ⟨p, hp, rfl⟩
    obtain ⟨k, hk, e⟩ := List.mem_map.1 hm
    have hbs : (A.pg k).bs = p.bs := congrArg (fun t => t.2.2) e
    exact (h1.mem.page k hk).2.u8 x (by rw [hbs]; exact hx)
end
end Go.Proofs.Ytidojcogojchpaa

/- mem's laws: sane, in plain words. -/
set_option linter.unusedVariables false
set_option linter.unusedSimpArgs false
namespace Go.Proofs.Ytidojcogojchpaa
open Go.RowKit Go.Shelf

theorem allOk_nat {A : PM} {need at_ : Int} {n : Nat} (h : ∀ i, i < n → okA A need (pcAt at_ (i : Nat))) : allOk A need at_ n := by
  intro i i0 i1
  obtain ⟨k, rfl⟩ : ∃ k : Nat, i = k := ⟨i.toNat, by omega⟩
  exact h k (by omega)
theorem badAt_nat {A : PM} {need at_ : Int} {n : Int} {c : Nat} (hc : (c : Int) < n) (h : ∀ i, i < c → okA A need (pcAt at_ (i : Nat))) (hn : ¬ okA A need (pcAt at_ (c : Nat))) : badAt A need at_ n c :=
  ⟨by omega, hc, hn, fun i i0 i1 => by
    obtain ⟨k, rfl⟩ : ∃ k : Nat, i = k := ⟨i.toNat, by omega⟩
    exact h k (by omega)⟩
theorem rd_ok {A : PM} {need at_ n : Int} (h0 : 0 ≤ n) (hl : n ≤ 65536) (h : allOk A need at_ n) : rdA A need at_ n = 0 ∧ rdB A need at_ n = true ∧ rdL A need at_ n = bytesN A at_ n.toNat := by
  unfold rdL rdA rdB
  rw [if_neg (by omega), if_neg (by omega), firstBad_none h]
  exact ⟨rfl, rfl, rfl⟩
theorem rd_bad {A : PM} {need at_ n c : Int} (h0 : 0 ≤ n) (hl : n ≤ 65536) (h : badAt A need at_ n c) : rdA A need at_ n = pcAt at_ c ∧ rdB A need at_ n = false ∧ rdL A need at_ n = [] := by
  unfold rdL rdA rdB
  rw [if_neg (by omega), if_neg (by omega), firstBad_some h]
  exact ⟨rfl, rfl, rfl⟩
def sA1 : PM := mapA PM.new 1 1 3
def sA2 : PM := mapA sA1 2 1 1
def sA3 : PM := sA2.poke 510 [1, 2] 2
def sA4 : PM := { sA3 with cg := [] }
def sA5 : PM := sA4.poke 513 [9] 1
def sK6 : PM := sA5.poke 513 [7] 1
theorem s_map1 : mapR PM.new 1 1 3 = 0 := by kernel_rfl
theorem s_map2 : mapR sA1 2 1 1 = 0 := by kernel_rfl
theorem s_ks2 : sA2.ks = [1, 2] := by kernel_rfl
theorem s_w1 : wrA sA2 2 510 2 = 0 ∧ wrB sA2 2 510 2 = true := wr_ok (by omega) (allOk_nat (of_decide_eq_true (by kernel_rfl)))
theorem s_A3 : wrM sA2 2 510 [1, 2] = sA3 := by
  unfold wrM
  exact if_pos s_w1.2
theorem s_w2 : wrA sA3 2 511 2 = 512 ∧ wrB sA3 2 511 2 = false := wr_bad (c := ((1 : Nat) : Int)) (by omega) (badAt_nat (by decide) (of_decide_eq_true (by kernel_rfl)) (of_decide_eq_true (by kernel_rfl)))
theorem s_A3' : wrM sA3 2 511 [1, 2] = sA3 := by
  unfold wrM
  rw [if_neg (by rw [show ([1, 2] : List Int).length = 2 from rfl, s_w2.2]; simp)]
theorem s_r1 : rdA sA3 1 510 4 = 0 ∧ rdB sA3 1 510 4 = true ∧ rdL sA3 1 510 4 = [1, 2, 0, 0] := by
  obtain ⟨h1, h2, h3⟩ := rd_ok (A := sA3) (need := 1) (at_ := 510) (n := ((4 : Nat) : Int)) (by decide) (by decide) (allOk_nat (of_decide_eq_true (by kernel_rfl)))
  exact ⟨h1, h2, h3.trans (by kernel_rfl)⟩
theorem s_r2 : rdA sA3 1 510 300 = 768 ∧ rdB sA3 1 510 300 = false ∧ rdL sA3 1 510 300 = [] :=
  rd_bad (c := ((258 : Nat) : Int)) (by decide) (by decide) (badAt_nat (by decide) (of_decide_eq_true (by kernel_rfl)) (of_decide_eq_true (by kernel_rfl)))
theorem s_r3 : rdA sA3 4 256 1 = 256 ∧ rdB sA3 4 256 1 = false ∧ rdL sA3 4 256 1 = [] :=
  rd_bad (c := ((0 : Nat) : Int)) (by decide) (by decide) (badAt_nat (by decide) (of_decide_eq_true (by kernel_rfl)) (of_decide_eq_true (by kernel_rfl)))
theorem s_r4 : rdA sA3 0 256 1 = 0 ∧ rdB sA3 0 256 1 = true ∧ rdL sA3 0 256 1 = [0] := by
  obtain ⟨h1, h2, h3⟩ := rd_ok (A := sA3) (need := 0) (at_ := 256) (n := ((1 : Nat) : Int)) (by decide) (by decide) (allOk_nat (of_decide_eq_true (by kernel_rfl)))
  exact ⟨h1, h2, h3.trans (by kernel_rfl)⟩
theorem s_m3 : mapR sA3 1 1 7 = 5 := by kernel_rfl
theorem s_m4 : unmR sA3 2 2 = 5 := by kernel_rfl
theorem s_m5 : mapR sA3 16777215 2 1 = 1 := by kernel_rfl
theorem s_cg3 : sA3.cg = [1, 2] := by kernel_rfl
theorem s_uni : ∀ ys : List Int, ys = [] ∨ ys = [1, 2] → uni [1, 2] ys = [1, 2] := by
  intro ys hy
  refine up_ext (uni_up _ _) (List.pairwise_cons.2 ⟨by simp, List.pairwise_singleton _ _⟩) fun x => ?_
  rw [uni_mem]
  rcases hy with rfl | rfl <;> simp
theorem s_d1 : diffL sA3 PM.new = [(256, 512)] := by
  unfold diffL
  rw [show uni sA3.ks PM.new.ks = [1, 2] from s_uni [] (.inl rfl)]
  kernel_rfl
theorem s_w3 : wrA sA4 0 513 1 = 0 ∧ wrB sA4 0 513 1 = true := wr_ok (by omega) (allOk_nat (of_decide_eq_true (by kernel_rfl)))
theorem s_A5 : wrM sA4 0 513 [9] = sA5 := by
  unfold wrM
  exact if_pos s_w3.2
theorem s_w4 : wrA sA5 0 513 1 = 0 ∧ wrB sA5 0 513 1 = true := wr_ok (by omega) (allOk_nat (of_decide_eq_true (by kernel_rfl)))
theorem s_K6 : wrM sA5 0 513 [7] = sK6 := by
  unfold wrM
  exact if_pos s_w4.2
theorem s_s1 : smV sA5 510 0 = 14695981039346656037 ∧ rdB sA5 0 510 0 = true := by
  obtain ⟨h1, h2, h3⟩ := rd_ok (A := sA5) (need := 0) (at_ := 510) (n := ((0 : Nat) : Int)) (by decide) (by decide) (allOk_nat (of_decide_eq_true (by kernel_rfl)))
  have h2' : rdB sA5 0 510 0 = true := h2
  unfold smV
  rw [if_pos h2']
  exact ⟨by kernel_rfl, h2⟩
theorem s_s2 : smV sA5 0 1 = 0 ∧ rdB sA5 0 0 1 = false := by
  obtain ⟨h1, h2, h3⟩ := rd_bad (A := sA5) (need := 0) (at_ := 0) (n := 1) (c := ((0 : Nat) : Int)) (by decide) (by decide) (badAt_nat (by decide) (of_decide_eq_true (by kernel_rfl)) (of_decide_eq_true (by kernel_rfl)))
  unfold smV
  rw [h2]
  exact ⟨rfl, rfl⟩
theorem s_cg5 : sA5.cg = [2] := by kernel_rfl
theorem s_dif (n : Int) (j : Nat) (hn : n = 1 ∨ n = 2) (hj : j < 256) : dif sA5 sK6 n j = decide (n = 2 ∧ j = 1) := by
  have h5 : n ∈ sA5.ks := by show n ∈ sA2.ks; rw [s_ks2]; rcases hn with rfl | rfl <;> simp
  have h6 : n ∈ sK6.ks := by show n ∈ sA2.ks; rw [s_ks2]; rcases hn with rfl | rfl <;> simp
  have e6 : gi (sK6.pg n).bs j = if (n * 256 + j - 513) % 4294967296 < 1 then gi [7] ((n * 256 + j - 513) % 4294967296).toNat else gi (sA5.pg n).bs j := pokeB_gi sA5 513 [7] 1 n j hj
  have e5 : gi (sA5.pg n).bs j = if (n * 256 + j - 513) % 4294967296 < 1 then gi [9] ((n * 256 + j - 513) % 4294967296).toNat else gi (sA4.pg n).bs j := pokeB_gi sA4 513 [9] 1 n j hj
  unfold dif
  rw [e6, decide_eq_true h5, decide_eq_true h6]
  by_cases hc : (n * 256 + (j : Int) - 513) % 4294967296 < 1
  · have h0 : (n * 256 + (j : Int) - 513) % 4294967296 = 0 := by omega
    have hd : n = 2 ∧ j = 1 := by omega
    rw [if_pos hc, e5, if_pos hc, h0, decide_eq_true hd]; rfl
  · have hd : ¬ (n = 2 ∧ j = 1) := by omega
    rw [if_neg hc, decide_eq_false hd]; simp
set_option maxRecDepth 100000 in
theorem s_posP (n : Int) (hn : n = 1 ∨ n = 2) : posP sA5 sK6 n 256 = ((List.range 256).filter fun j => decide (n = 2 ∧ j = 1)).map fun (j : Nat) => n * 256 + (j : Int) := by
  unfold posP
  congr 1
  exact List.filter_congr fun j hj => s_dif n j hn (by simpa using hj)
set_option maxRecDepth 100000 in
theorem s_d2 : diffL sA5 sK6 = [(513, 1)] := by
  unfold diffL
  rw [show uni sA5.ks sK6.ks = [1, 2] from s_uni [1, 2] (.inr rfl)]
  rw [show posA sA5 sK6 [1, 2] = posP sA5 sK6 1 256 ++ posP sA5 sK6 2 256 by simp only [posA, List.flatMap_cons, List.flatMap_nil, List.append_nil], s_posP 1 (.inl rfl), s_posP 2 (.inr rfl)]
  kernel_rfl
end Go.Proofs.Ytidojcogojchpaa

/- mem's laws: sane hands back true. -/
set_option linter.unusedVariables false
set_option linter.unusedSimpArgs false
namespace Go.Proofs.Ytidojcogojchpaa
open Go.RowKit Go.Shelf

/-- Comparisons with a literal that lies in a new block. -/
theorem Equal_ints_lit (W : World) (A : Option Addr) (xs ys : List Int) (ca n : Nat) (hn : ys.length = n) (hl : n ≤ 1000000) (h1 : Rd W A xs.length 1 (nums .i64 xs)) :
    Calls Try.prog 56 #[.slice A xs.length ca, .slice (some ⟨W.heap.size, 0, none⟩) n n] (W.alloc (.cells (nums .i64 ys).toArray 3)) fun e w' => e = .returned (.bool (decide (xs = ys))) ∧ Below W.heap.size W w' := by
  subst hn
  refine (Equal_ints _ A (some ⟨W.heap.size, 0, none⟩) xs ys ca ys.length (h1.below (balloc _ _)) (rd_new W 3 (nums .i64 ys) ys.length 1 (by simp [nums]) (by omega))).mono ?_
  rintro e w' ⟨rfl, hb⟩
  exact ⟨rfl, bvia (balloc _ _) hb (Nat.le_refl _)⟩
theorem Equal_spans_lit (W : World) (A : Option Addr) (xs ys : List (Int × Int)) (ca n : Nat) (hn : ys.length = n) (hl : n ≤ 1000000) (h1 : Rd W A xs.length 2 (sflat xs)) :
    Calls Try.prog 16 #[.slice A xs.length ca, .slice (some ⟨W.heap.size, 0, none⟩) n n] (W.alloc (.cells (sflat ys).toArray 36)) fun e w' => e = .returned (.bool (decide (xs = ys))) ∧ Below W.heap.size W w' := by
  subst hn
  refine (Equal_spans _ A (some ⟨W.heap.size, 0, none⟩) xs ys ca ys.length (h1.below (balloc _ _)) (rd_new W 36 (sflat ys) ys.length 2 (sflat_len ys) (by omega))).mono ?_
  rintro e w' ⟨rfl, hb⟩
  exact ⟨rfl, bvia (balloc _ _) hb (Nat.le_refl _)⟩
set_option maxRecDepth 1000000 in
set_option maxHeartbeats 8000000 in
theorem sane_any (w : World) : Calls Try.prog 12 #[] w fun e w' => e = .returned (.bool true) ∧ Below w.heap.size w w' := by
  go_enter Try.func12, Try.ntmps12
  go_wp2_with fail
  refine (New_M1 w).mono ?_
  rintro e W1 ⟨b, rfl, m1, hb1⟩
  have M1 := Lib.hid m1
  have HB1 := Lib.hid hb1
  clear m1 hb1
  go_wp2_with fail
  refine (M1.out.Map 1 1 3).mono ?_
  rintro e W2 ⟨rfl, m2, hb2⟩
  rw [s_map1]
  have M2 : Hid (Ytidojcogojchpaa.M1 w.heap.size W2 b sA1) := Lib.hid m2
  have HB2 := Lib.hid (HB1.out.trans hb2)
  clear m2 hb2 M1 HB1
  go_wp2_with fail
  refine (M2.out.Map 2 1 1).mono ?_
  rintro e W3 ⟨rfl, m3, hb3⟩
  rw [s_map2]
  have M3 : Hid (Ytidojcogojchpaa.M1 w.heap.size W3 b sA2) := Lib.hid m3
  have HB3 := Lib.hid (HB2.out.trans hb3)
  clear m3 hb3 M2 HB2
  go_wp2_with fail
  refine (M3.out.WriteL 510 [1, 2] 2 rfl (by omega) (by omega) (by decide)).mono ?_
  rintro e W4 ⟨rfl, m4, hb4⟩
  rw [show ([1, 2] : List Int).length = 2 from rfl, s_w1.1, s_w1.2]
  rw [s_A3] at m4
  have M4 := Lib.hid m4
  have HB4 := Lib.hid (HB3.out.trans hb4)
  clear m4 hb4 M3 HB3
  go_wp2_with fail
  refine (M4.out.WriteL 511 [1, 2] 2 rfl (by omega) (by omega) (by decide)).mono ?_
  rintro e W5 ⟨rfl, m5, hb5⟩
  rw [show ([1, 2] : List Int).length = 2 from rfl, s_w2.1, s_w2.2]
  rw [s_A3'] at m5
  have M5 := Lib.hid m5
  have HB5 := Lib.hid (HB4.out.trans hb5)
  clear m5 hb5 M4 HB4
  go_wp2_with fail
  refine (M5.out.Read 510 4 (by omega)).mono ?_
  rintro e W6 ⟨⟨A6, c6, rfl, rd6, hc6, new6⟩, hb6, u6⟩
  have M6 := Lib.hid (M5.out.below hb6)
  have HB6 := Lib.hid (HB5.out.trans (hb6.mono M5.out.size))
  rw [s_r1.2.2] at rd6
  rw [s_r1.1, s_r1.2.1, s_r1.2.2]
  have R6 := Lib.hid rd6
  clear hb6 M5 HB5 rd6 hc6 new6 u6
  go_wp2_with fail
  refine (Equal_bytes _ A6 (some ⟨W6.heap.size, 0, none⟩) [1, 2, 0, 0] [1, 2, 0, 0] c6 4 (Rd.below R6.out (balloc _ _)) (rd_lit W6 [1, 2, 0, 0] (by decide)) (by decide) (by decide)).mono ?_
  rintro e W7 ⟨rfl, rfl⟩
  rw [show decide (([1, 2, 0, 0] : List Int) = [1, 2, 0, 0]) = true from rfl]
  have M7 := Lib.hid (M6.out.new_box (.cells (nums .u8 [1, 2, 0, 0]).toArray 5))
  have HB7 := Lib.hid (HB6.out.trans ((balloc W6 (.cells (nums .u8 [1, 2, 0, 0]).toArray 5)).mono M6.out.size))
  obtain ⟨W7, hW7⟩ : ∃ W7, W6.alloc (.cells (nums .u8 [1, 2, 0, 0]).toArray 5) = W7 := ⟨_, rfl⟩
  rw [hW7] at M7 HB7
  rw [hW7]
  clear hW7 M6 HB6 R6
  go_wp2_with fail
  refine (M7.out.Read 510 300 (by omega)).mono ?_
  rintro e W8 ⟨⟨A8, c8, rfl, rd8, hc8, new8⟩, hb8, u8⟩
  have M8 := Lib.hid (M7.out.below hb8)
  have HB8 := Lib.hid (HB7.out.trans (hb8.mono M7.out.size))
  rw [s_r2.1, s_r2.2.1, s_r2.2.2]
  clear hb8 M7 HB7 rd8 hc8 new8 u8
  go_wp2_with fail
  refine (M8.out.Fetch 256 1 (by omega)).mono ?_
  rintro e W9 ⟨⟨A9, c9, rfl, rd9, hc9, new9⟩, hb9, u9⟩
  have M9 := Lib.hid (M8.out.below hb9)
  have HB9 := Lib.hid (HB8.out.trans (hb9.mono M8.out.size))
  rw [s_r3.1, s_r3.2.1, s_r3.2.2]
  clear hb9 M8 HB8 rd9 hc9 new9 u9
  go_wp2_with fail
  refine (M9.out.Peek 256 1 (by omega)).mono ?_
  rintro e W10 ⟨⟨A10, c10, rfl, rd10, hc10, new10⟩, hb10, u10⟩
  have M10 := Lib.hid (M9.out.below hb10)
  have HB10 := Lib.hid (HB9.out.trans (hb10.mono M9.out.size))
  rw [s_r4.1, s_r4.2.1, s_r4.2.2]
  clear hb10 M9 HB9 rd10 hc10 new10 u10
  go_wp2_with fail
  refine (M10.out.Map 1 1 7).mono ?_
  rintro e W11 ⟨rfl, m11, hb11⟩
  rw [s_m3]
  have M11 : Hid (Ytidojcogojchpaa.M1 w.heap.size W11 b sA3) := Lib.hid m11
  have HB11 := Lib.hid (HB10.out.trans hb11)
  clear m11 hb11 M10 HB10
  go_wp2_with fail
  refine (M11.out.Unmap 2 2).mono ?_
  rintro e W12 ⟨rfl, m12, hb12⟩
  rw [s_m4]
  have M12 : Hid (Ytidojcogojchpaa.M1 w.heap.size W12 b sA3) := Lib.hid m12
  have HB12 := Lib.hid (HB11.out.trans hb12)
  clear m12 hb12 M11 HB11
  go_wp2_with fail
  refine (M12.out.Map 16777215 2 1).mono ?_
  rintro e W13 ⟨rfl, m13, hb13⟩
  rw [s_m5]
  have M13 : Hid (Ytidojcogojchpaa.M1 w.heap.size W13 b sA3) := Lib.hid m13
  have HB13 := Lib.hid (HB12.out.trans hb13)
  clear m13 hb13 M12 HB12
  go_wp2_with fail
  refine (M13.out.Changed).mono ?_
  rintro e W14 ⟨⟨A14, c14, rfl, rd14, hc14, new14⟩, hb14⟩
  rw [s_cg3] at rd14
  rw [s_cg3]
  have M14 := Lib.hid (M13.out.below hb14)
  have HB14 := Lib.hid (HB13.out.trans (hb14.mono M13.out.size))
  have R14 := Lib.hid rd14
  clear rd14 hc14 new14 hb14 M13 HB13
  go_wp2_with fail
  refine (Equal_ints_lit W14 A14 [1, 2] [1, 2] c14 2 rfl (by decide) R14.out).mono ?_
  rintro e W15 ⟨rfl, hb15⟩
  rw [show decide (([1, 2] : List Int) = [1, 2]) = true from rfl]
  have M15 := Lib.hid (M14.out.below hb15)
  have HB15 := Lib.hid (HB14.out.trans (hb15.mono M14.out.size))
  clear hb15 M14 HB14 R14
  go_wp2_with fail
  refine (New_M1 W15).mono ?_
  rintro e W16 ⟨bn, rfl, n16, hb16⟩
  have M16 := Lib.hid (M15.out.below hb16)
  have HB16 := Lib.hid (HB15.out.trans (hb16.mono M15.out.size))
  have N16 := Lib.hid n16
  clear n16 hb16 M15 HB15
  go_wp2_with fail
  refine (Diff_M M16.out N16.out).mono ?_
  rintro e W17 ⟨⟨A17, c17, rfl, rd17, new17⟩, hb17⟩
  rw [s_d1] at rd17
  rw [s_d1]
  have M17 := Lib.hid (M16.out.below hb17)
  have HB17 := Lib.hid (HB16.out.trans (hb17.mono M16.out.size))
  have R17 := Lib.hid rd17
  clear rd17 new17 hb17 M16 HB16 N16
  go_wp2_with fail
  refine (Equal_spans_lit W17 A17 [(256, 512)] [(256, 512)] c17 1 rfl (by decide) R17.out).mono ?_
  rintro e W18 ⟨rfl, hb18⟩
  rw [show decide (([(256, 512)] : List (Int × Int)) = [(256, 512)]) = true from rfl]
  have M18 := Lib.hid (M17.out.below hb18)
  have HB18 := Lib.hid (HB17.out.trans (hb18.mono M17.out.size))
  clear hb18 M17 HB17 R17
  go_wp2_with fail
  refine (M18.out.Mark).mono ?_
  rintro e W19 ⟨rfl, m19, hb19⟩
  have M19 : Hid (Ytidojcogojchpaa.M1 w.heap.size W19 b sA4) := Lib.hid m19
  have HB19 := Lib.hid (HB18.out.trans hb19)
  clear m19 hb19 M18 HB18
  go_wp2_with fail
  refine (M19.out.PokeL 513 [9] 1 rfl (by omega) (by omega) (by decide)).mono ?_
  rintro e W20 ⟨rfl, m20, hb20⟩
  rw [show ([9] : List Int).length = 1 from rfl, s_w3.1, s_w3.2]
  rw [s_A5] at m20
  have M20 := Lib.hid m20
  have HB20 := Lib.hid (HB19.out.trans hb20)
  clear m20 hb20 M19 HB19
  go_wp2_with fail
  refine (M20.out.Clone).mono ?_
  rintro e W21 ⟨c, rfl, m21, hb21⟩
  have M21 := Lib.hid m21
  have HB21 := Lib.hid (HB20.out.trans hb21)
  clear m21 hb21 M20 HB20
  go_wp2_with fail
  refine (M21.out.PokeL 513 [7] 1 rfl (by omega) (by omega) (by decide)).mono ?_
  rintro e W22 ⟨rfl, m22, hb22⟩
  rw [show ([7] : List Int).length = 1 from rfl, s_w4.1, s_w4.2]
  rw [s_K6] at m22
  have M22 := Lib.hid m22
  have HB22 := Lib.hid (HB21.out.trans hb22)
  clear m22 hb22 M21 HB21
  go_wp2_with fail
  refine (M22.out.fst.Sum 510 0 (by omega)).mono ?_
  rintro e W23 ⟨rfl, hb23⟩
  rw [s_s1.1, s_s1.2]
  have M23 := Lib.hid (M22.out.below hb23)
  have HB23 := Lib.hid (HB22.out.trans (hb23.mono M22.out.fst.size))
  clear hb23 M22 HB22
  go_wp2_with fail
  refine (M23.out.fst.Sum 0 1 (by omega)).mono ?_
  rintro e W24 ⟨rfl, hb24⟩
  rw [s_s2.1, s_s2.2]
  have M24 := Lib.hid (M23.out.below hb24)
  have HB24 := Lib.hid (HB23.out.trans (hb24.mono M23.out.fst.size))
  clear hb24 M23 HB23
  go_wp2_with fail
  refine (M24.out.fst.Changed).mono ?_
  rintro e W25 ⟨⟨A25, c25, rfl, rd25, hc25, new25⟩, hb25⟩
  rw [s_cg5] at rd25
  rw [s_cg5]
  have M25 := Lib.hid (M24.out.below hb25)
  have HB25 := Lib.hid (HB24.out.trans (hb25.mono M24.out.fst.size))
  have R25 := Lib.hid rd25
  clear rd25 hc25 new25 hb25 M24 HB24
  go_wp2_with fail
  refine (Equal_ints_lit W25 A25 [2] [2] c25 1 rfl (by decide) R25.out).mono ?_
  rintro e W26 ⟨rfl, hb26⟩
  rw [show decide (([2] : List Int) = [2]) = true from rfl]
  have M26 := Lib.hid (M25.out.below hb26)
  have HB26 := Lib.hid (HB25.out.trans (hb26.mono M25.out.fst.size))
  clear hb26 M25 HB25 R25
  go_wp2_with fail
  refine (Diff_M M26.out.fst M26.out.snd).mono ?_
  rintro e W27 ⟨⟨A27, c27, rfl, rd27, new27⟩, hb27⟩
  rw [s_d2] at rd27
  rw [s_d2]
  have HB27 := Lib.hid (HB26.out.trans (hb27.mono M26.out.fst.size))
  have S27 := Lib.hid (Nat.le_trans M26.out.fst.size hb27.size)
  have R27 := Lib.hid rd27
  clear rd27 new27 hb27 M26 HB26
  go_wp2_with fail
  refine (Equal_spans_lit W27 A27 [(513, 1)] [(513, 1)] c27 1 rfl (by decide) R27.out).mono ?_
  rintro e W28 ⟨rfl, hb28⟩
  rw [show decide (([(513, 1)] : List (Int × Int)) = [(513, 1)]) = true from rfl]
  have HB28 := Lib.hid (HB27.out.trans (hb28.mono S27.out))
  clear hb28 HB27 R27 S27
  go_wp2_with fail
  go_ret
  exact ⟨rfl, HB28.out⟩
end Go.Proofs.Ytidojcogojchpaa

/- Arguments as they come in: slices of numbers, numbers. -/
set_option linter.unusedVariables false
namespace Go.Proofs.Ytidojcogojchpaa
open Go.RowKit

theorem wf_u32 {n : Int} (h : (Lit.int .u32 n).wf = true) : 0 ≤ n ∧ n < 4294967296 := by
  have := bounds_u32 h
  omega
theorem wf_u8 {n : Int} (h : (Lit.int .u8 n).wf = true) : 0 ≤ n ∧ n < 256 := by
  have := bounds_u8 h
  omega
theorem wf_u16 {n : Int} (h : (Lit.int .u16 n).wf = true) : 0 ≤ n ∧ n < 65536 := by
  have := bounds_u16 h
  omega
/-- A slice of numbers that came in. -/
theorem row_rd {k : IntKind} {w : World} {a : Option Addr} {len cap : Nat} {zs : List Int}
    (h : (a = none ∧ len = 0 ∧ cap = 0 ∧ zs = []) ∨ ∃ x, a = some x ∧ len ≤ cap ∧ cap ≤ maxLen ∧ zs.length = cap ∧ (∀ i, i < zs.length → w.cell? (x.add i) = some (.int k (zs.getD i 0))) ∧ ∀ n ∈ zs, (Lit.int k n).wf = true) :
    ∃ xs : List Int, xs.length = len ∧ RdI w k a len xs ∧ (a = none → cap = 0) ∧ len ≤ cap ∧ len ≤ 9223372036854775807 ∧ ∀ n ∈ xs, (Lit.int k n).wf = true := by
  rcases h with ⟨rfl, rfl, rfl, rfl⟩ | ⟨x, rfl, h1, h2, h3, h4, h5⟩
  · exact ⟨[], rfl, ⟨by simp, by omega, fun j hj => absurd hj (by simp)⟩, fun _ => rfl, Nat.le_refl _, by omega, fun n hn => absurd hn (by simp)⟩
  · have hl : len ≤ 9223372036854775807 := by unfold maxLen at h2; omega
    refine ⟨zs.take len, by simp; omega, ⟨by simp; omega, hl, fun j hj => ⟨x, rfl, ?_⟩⟩, fun h => (by cases h), h1, hl, fun n hn => h5 n (List.mem_of_mem_take hn)⟩
    have hj' : j < len := by simp at hj; omega
    rw [h4 j (by omega)]
    simp [nums, List.getD_eq_getElem?_getD, List.getElem?_eq_getElem (show j < zs.length by omega)]
end Go.Proofs.Ytidojcogojchpaa

/- Arguments as they come in: bytes, pages, calls. -/
set_option linter.unusedVariables false
set_option linter.unusedSimpArgs false
namespace Go.Proofs.Ytidojcogojchpaa
open Go.RowKit Go.ChangeShapes Go.WideShapes Go.Deep

section
variable {H : Type} {enc : TypeId × Value → H} {P : Program} {w : World} {base : Nat} {spare : Nat → Bool} {held : Bool}
theorem open_slice_fields {t e : TypeId} {fs : Array Field} {fuel : Nat} {cs : List Value} {x : DataW H × List MemPlace} (ht : P.underlying t = some (.slice e)) (he : P.underlying e = some (.struct fs))
    (hone : oneCellFields P fs = true) (hC : P.cellsOf e = fs.size) (h : DataW.trod enc P w base spare held fuel t cs = some x) :
    (cs = [.slice none 0 0]) ∨
    ∃ (a : Addr) (len cap m : Nat), cs = [.slice (some a) len cap] ∧ len ≤ cap ∧ cap ≤ maxLen ∧ len ≤ m ∧
      ∀ i, i < m → ∀ (j : Nat) (f : Field), fs[j]? = some f → ∃ (v : Value) (n : Nat) (y : DataW H × List MemPlace), w.cell? (a.add (i * fs.size + j)) = some v ∧ DataW.trod enc P w base spare held n f.type [v] = some y := by
  rcases open_slice ht h with h0 | ⟨a, len, cap, m, n, D, Pl, hcs, hb, hl, hm, hmm, hx, hi⟩
  · exact .inl h0.1
  · refine .inr ⟨a, len, cap, m, hcs, hl, hm, by rw [hmm]; split <;> omega, fun i him j f hj => ?_⟩
    obtain ⟨cs', hc, ht'⟩ := hi i him
    rw [hC] at hc
    obtain ⟨ys, n', hn', hy, hlen, hyl, hf⟩ := DataW.trod_struct he ht'
    obtain ⟨_, hcl, hat⟩ := World.cells?_some hc
    obtain ⟨ho, hk⟩ := hone_of hone j f hj
    have hjl : j < fs.size := (Array.getElem?_eq_some_iff.1 hj).1
    have hcell := hat j hjl
    have hv : cs'[j]? = some (cs'[j]'(by omega)) := List.getElem?_eq_getElem (by omega)
    have h1 := hf j f hj
    rw [ho, hk] at h1
    have hone' : (cs'.drop j).take 1 = [cs'[j]'(by omega)] := by
      rw [List.drop_eq_getElem_cons (by omega)]
      rfl
    rw [hone'] at h1
    have hys : ys[j]? = some (ys[j]'(by omega)) := List.getElem?_eq_getElem (by omega)
    refine ⟨_, _, _, ?_, h1.trans hys⟩
    rw [← Go.Deep.add_add, hcell, hv]
/-- A cell that reads as a slice of numbers. -/
theorem slice_rdS {t e : TypeId} {k : IntKind} {fuel : Nat} {v : Value} {x : DataW H × List MemPlace} (ht : P.underlying t = some (.slice e)) (he : P.underlying e = some (.int k)) (hc : P.cellsOf e = 1)
    (hf : DataW.trod enc P w base spare held fuel t [v] = some x) : ∃ A c xs, v = .slice A xs.length c ∧ RdI w k A xs.length xs ∧ (A = none → c = 0) ∧ xs.length ≤ c ∧ (∀ n ∈ xs, (Lit.int k n).wf = true) ∧ c ≤ 9223372036854775807 := by
  rcases open_ints ht he hc hf with ⟨hcs, _⟩ | ⟨x, l, c, zs, hcs, _, hl, hm, hz, _, hcell, hwz⟩
  · obtain rfl : v = .slice none 0 0 := by simpa using hcs
    exact ⟨none, 0, [], rfl, ⟨by simp, by simp, fun j hj => absurd hj (by simp)⟩, fun _ => rfl, Nat.le_refl _, fun n hn => absurd hn (by simp), by omega⟩
  · obtain rfl : v = .slice (some x) l c := by simpa using hcs
    have hzl : l ≤ zs.length := by split at hz <;> omega
    have hle : l ≤ 9223372036854775807 := by unfold maxLen at hm; omega
    have hlt : (zs.take l).length = l := by rw [List.length_take]; omega
    refine ⟨some x, c, zs.take l, by rw [hlt], ⟨by simp [hlt], by omega, fun j hj => ⟨x, rfl, ?_⟩⟩, (fun h => by cases h), by omega, fun n hn => hwz n (List.mem_of_mem_take hn), by unfold maxLen at hm; omega⟩
    have hj' : j < l := by simpa [hlt] using hj
    rw [hcell j (by omega)]
    simp [nums, List.getD_eq_getElem?_getD, List.getElem?_eq_getElem (show j < zs.length by omega)]
end
theorem pick_list {T : Type} {Q : Nat → T → Prop} (z : T) : ∀ n : Nat, (∀ i, i < n → ∃ e, Q i e) → ∃ es : List T, es.length = n ∧ ∀ i, i < n → Q i (es.getD i z)
  | 0, _ => ⟨[], rfl, fun i hi => absurd hi (Nat.not_lt_zero _)⟩
  | n + 1, h => by
    obtain ⟨es, hl, he⟩ := pick_list z n fun i hi => h i (by omega)
    obtain ⟨e, hq⟩ := h n (by omega)
    refine ⟨es ++ [e], by simp [hl], fun i hi => ?_⟩
    by_cases h1 : i < n
    · have : (es ++ [e]).getD i z = es.getD i z := by simp [List.getD_eq_getElem?_getD, List.getElem?_append, hl, h1]
      rw [this]
      exact he i h1
    · obtain rfl : i = n := by omega
      have : (es ++ [e]).getD i z = e := by simp [List.getD_eq_getElem?_getD, List.getElem?_append, hl]
      rw [this]
      exact hq
theorem wf_i64' {n : Int} (h : (Lit.int .i64 n).wf = true) : -9223372036854775808 ≤ n ∧ n ≤ 9223372036854775807 := by
  have := bounds_i64 h
  omega
/-- Bytes that came in. -/
structure BsIn (W : World) (A : Option Addr) (c : Nat) (bs : List Int) : Prop where
  rd : Rd W A bs.length 1 (nums .u8 bs)
  cap : bs.length ≤ c
  u8 : ∀ x ∈ bs, 0 ≤ x ∧ x < 256
  le : c ≤ 9223372036854775807
  nil : A = none → c = 0
theorem BsIn.below {W W' : World} {A : Option Addr} {c : Nat} {bs : List Int} (h : BsIn W A c bs) (hb : Below W.heap.size W W') : BsIn W' A c bs := ⟨h.rd.below hb, h.cap, h.u8, h.le, h.nil⟩
/-- What is read lies in an old block. -/
theorem Rd.old {W : World} {A : Option Addr} {n sz : Nat} {cs : List Value} (h : Rd W A n sz cs) (h0 : 0 < n * sz) (ad : Addr) (e : A = some ad) : ad.block < W.heap.size := by
  obtain ⟨ad', e', hc⟩ := h.cell 0 (by rw [h.len]; exact h0)
  rw [e] at e'
  cases e'
  have := World.block_lt_of_cell? W (ad.add 0) hc
  rwa [addr_add_block] at this
/-- Pages that came in. -/
structure PsIn (W : World) (A : Option Addr) (c : Nat) (ps : List PV) : Prop where
  rd : Rd W A ps.length 3 (flat ps)
  by_ : BytesAt W 0 ps
  u8 : ∀ p ∈ ps, ∀ x ∈ p.bs, 0 ≤ x ∧ x < 256
  cap : ps.length ≤ c
theorem PsIn.below {W W' : World} {A : Option Addr} {c : Nat} {ps : List PV} (h : PsIn W A c ps) (hb : Below W.heap.size W W') : PsIn W' A c ps := ⟨h.rd.below hb, h.by_.below hb, h.u8, h.cap⟩
/-- A call, as it came in. -/
structure CV where
  kind : Int
  page : Int
  n : Int
  rt : Int
  at_ : Int
  A : Option Addr
  c : Nat
  bs : List Int
def CV.cells (x : CV) : List Value := [.int .i64 x.kind, .int .i64 x.page, .int .i64 x.n, .int .i64 x.rt, .int .u32 x.at_, .slice x.A x.bs.length x.c]
def cflat (xs : List CV) : List Value := xs.flatMap CV.cells
def gx (xs : List CV) (k : Nat) : CV := xs.getD k ⟨0, 0, 0, 0, 0, none, 0, []⟩
theorem gx_get (xs : List CV) (k : Nat) (h : k < xs.length) : gx xs k = xs[k] := by simp [gx, List.getD_eq_getElem?_getD, List.getElem?_eq_getElem h]
theorem gx_mem (xs : List CV) (k : Nat) (h : k < xs.length) : gx xs k ∈ xs := by rw [gx_get xs k h]; exact List.getElem_mem h
theorem cflat_len (xs : List CV) : (cflat xs).length = xs.length * 6 := by
  induction xs with
  | nil => rfl
  | cons x xs ih => rw [show cflat (x :: xs) = x.cells ++ cflat xs from rfl, List.length_append, ih]; simp [CV.cells]; omega
theorem cflat_get : ∀ (xs : List CV) (k j : Nat), k < xs.length → j < 6 → (cflat xs)[k * 6 + j]? = (gx xs k).cells[j]?
  | [], k, j, h, _ => by simp at h
  | p :: ps, 0, j, _, hj => by
    rw [show cflat (p :: ps) = p.cells ++ cflat ps from rfl, List.getElem?_append_left (by simp [CV.cells]; omega), Nat.zero_mul, Nat.zero_add]; rfl
  | p :: ps, k + 1, j, h, hj => by
    rw [show cflat (p :: ps) = p.cells ++ cflat ps from rfl, List.getElem?_append_right (by simp [CV.cells]; omega), show (k + 1) * 6 + j - p.cells.length = k * 6 + j by simp [CV.cells]; omega]
    rw [cflat_get ps k j (by simpa using h) hj]
    rfl
/-- A call whose bytes can be read. -/
structure COk (W : World) (x : CV) : Prop where
  bs : BsIn W x.A x.c x.bs
  at_ : 0 ≤ x.at_ ∧ x.at_ < 4294967296
  n : -9223372036854775808 ≤ x.n ∧ x.n ≤ 9223372036854775807
  kind : -9223372036854775808 ≤ x.kind ∧ x.kind ≤ 9223372036854775807
  page : -9223372036854775808 ≤ x.page ∧ x.page ≤ 9223372036854775807
  rt : -9223372036854775808 ≤ x.rt ∧ x.rt ≤ 9223372036854775807
theorem COk.below {W W' : World} {x : CV} (h : COk W x) (hb : Below W.heap.size W W') : COk W' x := ⟨h.bs.below hb, h.at_, h.n, h.kind, h.page, h.rt⟩
/-- Calls that came in. -/
structure CsIn (W : World) (A : Option Addr) (c : Nat) (xs : List CV) : Prop where
  rd : Rd W A xs.length 6 (cflat xs)
  ok : ∀ x ∈ xs, COk W x
  cap : xs.length ≤ c
  le : c ≤ 9223372036854775807
theorem CsIn.below {W W' : World} {A : Option Addr} {c : Nat} {xs : List CV} (h : CsIn W A c xs) (hb : Below W.heap.size W W') : CsIn W' A c xs := ⟨h.rd.below hb, fun x hx => (h.ok x hx).below hb, h.cap, h.le⟩
/-- The cells of a call. -/
structure CCells (W : World) (a : Addr) (x : CV) : Prop where
  c0 : W.cell? a = some (.int .i64 x.kind)
  c1 : W.cell? ⟨a.block, a.off + 1, none⟩ = some (.int .i64 x.page)
  c2 : W.cell? ⟨a.block, a.off + 2, none⟩ = some (.int .i64 x.n)
  c3 : W.cell? ⟨a.block, a.off + 3, none⟩ = some (.int .i64 x.rt)
  c4 : W.cell? ⟨a.block, a.off + 4, none⟩ = some (.int .u32 x.at_)
  c5 : W.cell? ⟨a.block, a.off + 5, none⟩ = some (.slice x.A x.bs.length x.c)
theorem CsIn.at {W : World} {A : Option Addr} {c : Nat} {xs : List CV} (h : CsIn W A c xs) (k : Nat) (hk : k < xs.length) : ∃ ad, A = some ad ∧ CCells W (ad.add (k * 6)) (gx xs k) := by
  have key : ∀ j, j < 6 → ∃ ad, A = some ad ∧ some (W.cell? (ad.add (k * 6 + j))) = some ((gx xs k).cells[j]?) := fun j hj => by
    have hl := cflat_len xs
    have hlt : k * 6 + j < (cflat xs).length := by omega
    obtain ⟨ad, e, hc⟩ := h.rd.cell (k * 6 + j) hlt
    refine ⟨ad, e, ?_⟩
    rw [hc, ← cflat_get xs k j hk hj, List.getElem?_eq_getElem hlt]
  obtain ⟨ad, e, h0⟩ := key 0 (by omega)
  have key' : ∀ j, j < 6 → W.cell? (ad.add (k * 6 + j)) = (gx xs k).cells[j]? := fun j hj => by
    obtain ⟨ad', e', h'⟩ := key j hj
    rw [e] at e'; cases e'
    simpa using h'
  exact ⟨ad, e, by simpa [CV.cells] using key' 0 (by omega), cell_at (by simpa [CV.cells] using key' 1 (by omega)) (by omega), cell_at (by simpa [CV.cells] using key' 2 (by omega)) (by omega), cell_at (by simpa [CV.cells] using key' 3 (by omega)) (by omega), cell_at (by simpa [CV.cells] using key' 4 (by omega)) (by omega), cell_at (by simpa [CV.cells] using key' 5 (by omega)) (by omega)⟩
section
variable {H : Type} {enc : TypeId × Value → H} {W : World} {base : Nat} {held : Bool}
set_option maxRecDepth 100000 in
theorem open_bytes {sp : Nat → Bool} {r : Reach} {b0 : Nat} {v : Value} {d : DataW H} {p : List MemPlace} (hv : Value.okWide Try.prog W r b0 42 v) (h : DataW.Trod enc Try.prog W base sp held 42 v d p) :
    ∃ (A : Option Addr) (c : Nat) (bs : List Int), v = .slice A bs.length c ∧ BsIn W A c bs := by
  obtain ⟨a0, len0, cap0, rfl⟩ := okWide_slice Try.underlying42 hv
  obtain ⟨fuel, hf⟩ := h
  obtain ⟨A, c, xs, e, h1, h2, h3, h4, h5⟩ := slice_rdS (k := .u8) Try.underlying42 Try.underlying5 (by kernel_rfl) hf
  exact ⟨A, c, xs, e, h1, h3, fun x hx => wf_u8 (h4 x hx), h5, h2⟩
set_option maxRecDepth 100000 in
theorem open_pages {sp : Nat → Bool} {r : Reach} {b0 : Nat} {v : Value} {d : DataW H} {p : List MemPlace} (hv : Value.okWide Try.prog W r b0 22 v) (h : DataW.Trod enc Try.prog W base sp held 22 v d p) :
    ∃ (A : Option Addr) (c : Nat) (ps : List PV), v = .slice A ps.length c ∧ PsIn W A c ps := by
  obtain ⟨a0, len0, cap0, rfl⟩ := okWide_slice Try.underlying22 hv
  obtain ⟨fuel, hf⟩ := h
  rcases open_slice_fields Try.underlying22 Try.underlying79 (by kernel_rfl) (by kernel_rfl) hf with hcs | ⟨a, len, cap, m, hcs, hl, hm, hlm, hx⟩
  · have hcs' : Value.slice a0 len0 cap0 = .slice none 0 0 := List.singleton_inj.1 hcs
    cases hcs'
    exact ⟨none, 0, [], rfl, ⟨rfl, by simp, fun j hj => absurd hj (by simp [flat])⟩, fun p hp => absurd hp (by simp), fun p hp => absurd hp (by simp), Nat.le_refl _⟩
  · have hcs' : Value.slice a0 len0 cap0 = .slice (some a) len cap := List.singleton_inj.1 hcs
    cases hcs'
    have hmx : maxLen = 9223372036854775807 := rfl
    obtain ⟨es, hel, hes⟩ := pick_list (Q := fun i (e : PV) => (∀ j, j < 3 → W.cell? (a.add (i * 3 + j)) = e.cells[j]?) ∧ BsIn W e.A e.c e.bs) ⟨0, 0, none, 0, []⟩ len0 fun i hi => by
      obtain ⟨v0, n0, y0, c0, t0⟩ := hx i (by omega) 0 _ rfl
      obtain ⟨v1, n1, y1, c1, t1⟩ := hx i (by omega) 1 _ rfl
      obtain ⟨v2, n2, y2, c2, t2⟩ := hx i (by omega) 2 _ rfl
      obtain ⟨x0, e0, _, u0⟩ := DataW.trod_int Try.underlying3 t0
      obtain ⟨x1, e1, _, u1⟩ := DataW.trod_int Try.underlying3 t1
      obtain ⟨A2, k2, bs2, e2, b1, b2, b3, b4, b5⟩ := slice_rdS (k := .u8) Try.underlying42 Try.underlying5 (by kernel_rfl) t2
      obtain rfl : v0 = _ := List.singleton_inj.1 e0
      obtain rfl : v1 = _ := List.singleton_inj.1 e1
      subst e2
      refine ⟨⟨x0, x1, A2, k2, bs2⟩, fun j hj => ?_, ⟨b1, b3, fun x hx => wf_u8 (b4 x hx), b5, b2⟩⟩
      match j, hj with
      | 0, _ => exact c0
      | 1, _ => exact c1
      | 2, _ => exact c2
    subst hel
    have hall : ∀ p ∈ es, BsIn W p.A p.c p.bs := fun p hp => by
      obtain ⟨k, hk, rfl⟩ := List.getElem_of_mem hp
      have := (hes k hk).2
      rwa [show es.getD k ⟨0, 0, none, 0, []⟩ = es[k] from gp_get es k hk] at this
    refine ⟨some a, cap0, es, rfl, ⟨flat_len es, by omega, fun j hj => ⟨a, rfl, ?_⟩⟩, fun p hp => ⟨(hall p hp).rd, (hall p hp).cap, fun ad e => Nat.zero_le _⟩, fun p hp => (hall p hp).u8, hl⟩
    have hj' : j < es.length * 3 := by rw [← flat_len]; exact hj
    have hk : j / 3 < es.length := by omega
    have e1 := (hes (j / 3) hk).1 (j % 3) (by omega)
    have e2 := flat_get es (j / 3) (j % 3) hk (by omega)
    rw [show j / 3 * 3 + j % 3 = j by omega] at e1 e2
    rw [e1]
    rw [List.getElem?_eq_getElem hj] at e2
    rw [e2]; rfl
set_option maxRecDepth 100000 in
theorem open_calls {sp : Nat → Bool} {r : Reach} {b0 : Nat} {v : Value} {d : DataW H} {p : List MemPlace} (hv : Value.okWide Try.prog W r b0 62 v) (h : DataW.Trod enc Try.prog W base sp held 62 v d p) :
    ∃ (A : Option Addr) (c : Nat) (xs : List CV), v = .slice A xs.length c ∧ CsIn W A c xs := by
  obtain ⟨a0, len0, cap0, rfl⟩ := okWide_slice Try.underlying62 hv
  obtain ⟨fuel, hf⟩ := h
  rcases open_slice_fields Try.underlying62 Try.underlying54 (by kernel_rfl) (by kernel_rfl) hf with hcs | ⟨a, len, cap, m, hcs, hl, hm, hlm, hx⟩
  · have hcs' : Value.slice a0 len0 cap0 = .slice none 0 0 := List.singleton_inj.1 hcs
    cases hcs'
    exact ⟨none, 0, [], rfl, ⟨rfl, by simp, fun j hj => absurd hj (by simp [cflat])⟩, fun p hp => absurd hp (by simp), Nat.le_refl _, by omega⟩
  · have hcs' : Value.slice a0 len0 cap0 = .slice (some a) len cap := List.singleton_inj.1 hcs
    cases hcs'
    have hmx : maxLen = 9223372036854775807 := rfl
    obtain ⟨es, hel, hes⟩ := pick_list (Q := fun i (e : CV) => (∀ j, j < 6 → W.cell? (a.add (i * 6 + j)) = e.cells[j]?) ∧ COk W e) ⟨0, 0, 0, 0, 0, none, 0, []⟩ len0 fun i hi => by
      obtain ⟨v0, n0, y0, c0, t0⟩ := hx i (by omega) 0 _ rfl
      obtain ⟨v1, n1, y1, c1, t1⟩ := hx i (by omega) 1 _ rfl
      obtain ⟨v2, n2, y2, c2, t2⟩ := hx i (by omega) 2 _ rfl
      obtain ⟨v3, n3, y3, c3, t3⟩ := hx i (by omega) 3 _ rfl
      obtain ⟨v4, n4, y4, c4, t4⟩ := hx i (by omega) 4 _ rfl
      obtain ⟨v5, n5, y5, c5, t5⟩ := hx i (by omega) 5 _ rfl
      obtain ⟨x0, e0, _, u0⟩ := DataW.trod_int Try.underlying3 t0
      obtain ⟨x1, e1, _, u1⟩ := DataW.trod_int Try.underlying3 t1
      obtain ⟨x2, e2, _, u2⟩ := DataW.trod_int Try.underlying3 t2
      obtain ⟨x3, e3, _, u3⟩ := DataW.trod_int Try.underlying3 t3
      obtain ⟨x4, e4, _, u4⟩ := DataW.trod_int Try.underlying34 t4
      obtain ⟨A5, k5, bs5, e5, b1, b2, b3, b4, b5⟩ := slice_rdS (k := .u8) Try.underlying42 Try.underlying5 (by kernel_rfl) t5
      obtain rfl : v0 = _ := List.singleton_inj.1 e0
      obtain rfl : v1 = _ := List.singleton_inj.1 e1
      obtain rfl : v2 = _ := List.singleton_inj.1 e2
      obtain rfl : v3 = _ := List.singleton_inj.1 e3
      obtain rfl : v4 = _ := List.singleton_inj.1 e4
      subst e5
      refine ⟨⟨x0, x1, x2, x3, x4, A5, k5, bs5⟩, fun j hj => ?_, ⟨⟨b1, b3, fun x hx => wf_u8 (b4 x hx), b5, b2⟩, wf_u32 u4, wf_i64' u2, wf_i64' u0, wf_i64' u1, wf_i64' u3⟩⟩
      match j, hj with
      | 0, _ => exact c0
      | 1, _ => exact c1
      | 2, _ => exact c2
      | 3, _ => exact c3
      | 4, _ => exact c4
      | 5, _ => exact c5
    subst hel
    refine ⟨some a, cap0, es, rfl, ⟨cflat_len es, by omega, fun j hj => ⟨a, rfl, ?_⟩⟩, fun x hx => ?_, hl, by omega⟩
    · have hj' : j < es.length * 6 := by rw [← cflat_len]; exact hj
      have hk : j / 6 < es.length := by omega
      have e1 := (hes (j / 6) hk).1 (j % 6) (by omega)
      have e2 := cflat_get es (j / 6) (j % 6) hk (by omega)
      rw [show j / 6 * 6 + j % 6 = j by omega] at e1 e2
      rw [e1]
      rw [List.getElem?_eq_getElem hj] at e2
      rw [e2]; rfl
    · obtain ⟨k, hk, rfl⟩ := List.getElem_of_mem hx
      have := (hes k hk).2
      rwa [show es.getD k ⟨0, 0, 0, 0, 0, none, 0, []⟩ = es[k] from gx_get es k hk] at this
set_option maxRecDepth 100000 in
/-- A call by value. -/
theorem open_call {sp : Nat → Bool} {r : Reach} {b0 : Nat} {v : Value} {d : DataW H} {p : List MemPlace} (hv : Value.okWide Try.prog W r b0 54 v) (h : DataW.Trod enc Try.prog W base sp held 54 v d p) :
    ∃ x : CV, v = .agg x.cells.toArray ∧ COk W x := by
  obtain ⟨cells, rfl, hsz⟩ := okWide_struct Try.underlying54 hv
  obtain ⟨l⟩ := cells
  match l, (show l.length = 6 from hsz.trans (by kernel_rfl)) with
  | [q0, q1, q2, q3, q4, q5], _ =>
    obtain ⟨fuel, hf⟩ := h
    obtain ⟨xs, n, _, _, _, hlen, hfl⟩ := DataW.trod_struct Try.underlying54 hf
    have hlen' : xs.length = 6 := hlen
    have some' : ∀ i, i < 6 → ∃ y, xs[i]? = some y := fun i hi => ⟨xs[i]'(by omega), List.getElem?_eq_getElem (by omega)⟩
    have fld : ∀ {ty : TypeId} {off : Nat} {l : List Value} {y : DataW H × List MemPlace}, DataW.trod enc Try.prog W base sp held n ty (([q0, q1, q2, q3, q4, q5].drop off).take (Try.prog.cellsOf ty)) = some y → Try.prog.cellsOf ty = 1 → ([q0, q1, q2, q3, q4, q5].drop off).take 1 = l → DataW.trod enc Try.prog W base sp held n ty l = some y := fun q hk hl => by
      rw [hk, hl] at q
      exact q
    obtain ⟨y0, ey0⟩ := some' 0 (by omega)
    obtain ⟨y1, ey1⟩ := some' 1 (by omega)
    obtain ⟨y2, ey2⟩ := some' 2 (by omega)
    obtain ⟨y3, ey3⟩ := some' 3 (by omega)
    obtain ⟨y4, ey4⟩ := some' 4 (by omega)
    obtain ⟨y5, ey5⟩ := some' 5 (by omega)
    have t0 : DataW.trod enc Try.prog W base sp held n 3 [q0] = some y0 := fld (off := 0) ((hfl 0 _ rfl).trans ey0) (by kernel_rfl) rfl
    have t1 : DataW.trod enc Try.prog W base sp held n 3 [q1] = some y1 := fld (off := 1) ((hfl 1 _ rfl).trans ey1) (by kernel_rfl) rfl
    have t2 : DataW.trod enc Try.prog W base sp held n 3 [q2] = some y2 := fld (off := 2) ((hfl 2 _ rfl).trans ey2) (by kernel_rfl) rfl
    have t3 : DataW.trod enc Try.prog W base sp held n 3 [q3] = some y3 := fld (off := 3) ((hfl 3 _ rfl).trans ey3) (by kernel_rfl) rfl
    have t4 : DataW.trod enc Try.prog W base sp held n 34 [q4] = some y4 := fld (off := 4) ((hfl 4 _ rfl).trans ey4) (by kernel_rfl) rfl
    have t5 : DataW.trod enc Try.prog W base sp held n 42 [q5] = some y5 := fld (off := 5) ((hfl 5 _ rfl).trans ey5) (by kernel_rfl) rfl
    obtain ⟨x0, e0, _, u0⟩ := DataW.trod_int Try.underlying3 t0
    obtain ⟨x1, e1, _, u1⟩ := DataW.trod_int Try.underlying3 t1
    obtain ⟨x2, e2, _, u2⟩ := DataW.trod_int Try.underlying3 t2
    obtain ⟨x3, e3, _, u3⟩ := DataW.trod_int Try.underlying3 t3
    obtain ⟨x4, e4, _, u4⟩ := DataW.trod_int Try.underlying34 t4
    obtain ⟨A5, k5, bs5, e5, b1, b2, b3, b4, b5⟩ := slice_rdS (k := .u8) Try.underlying42 Try.underlying5 (by kernel_rfl) t5
    obtain rfl : q0 = _ := List.singleton_inj.1 e0
    obtain rfl : q1 = _ := List.singleton_inj.1 e1
    obtain rfl : q2 = _ := List.singleton_inj.1 e2
    obtain rfl : q3 = _ := List.singleton_inj.1 e3
    obtain rfl : q4 = _ := List.singleton_inj.1 e4
    subst e5
    exact ⟨⟨x0, x1, x2, x3, x4, A5, k5, bs5⟩, rfl, ⟨b1, b3, fun x hx => wf_u8 (b4 x hx), b5, b2⟩, wf_u32 u4, wf_i64' u2, wf_i64' u0, wf_i64' u1, wf_i64' u3⟩
end
end Go.Proofs.Ytidojcogojchpaa
