/- candlinglaw33.SimParts: whatever the input (a simulation, events, a place to divide them), the call returns true; the input reads as it did. -/
import Derived.Test.YtdkacdfhapgboaaRows
import Derived.Test.YtdkacdfhapgboaaM18
import Derived.WalkKit
import Derived.ProofKit
import Derived.OpenShut
import Derived.ShutString
import Derived.ChangeOld
import Derived.Below
namespace Go.Proofs.Ytdkacdfhapgboaa.simParts
open Go.ChangeShapes Go.WideShapes Go.ChangeAt Go.RowKit
set_option linter.unusedVariables false

theorem own : ownKnob Try.prog.godebug = none := by kernel_rfl
theorem laidOut : laidOutB Try.prog = true := by kernel_rfl

/-! ### The walk -/
set_option maxRecDepth 100000 in
set_option maxHeartbeats 4000000 in
theorem walk (k0 k1 k2 k3 k4 k5 k6 k7 k8 k9 k10 k11 i0 i1 i2 d0 d1 d2 l0 l1 l2 p0 p1 p2 : Int) (AI AD AL A R N AE : Option Addr) (ci cd cl ca ra nc ce : Nat) (vI vD vL : List Value) (LI LD LL : List (List Int)) (cs rs : List Int) (hist : Int) (ns es : List (List Int)) (a2 : Int) (w : World) (hI : RdSets w AI vI LI) (hD : RdSets w AD vD LD) (hL : RdSets w AL vL LL) (zI : AI = none → ci = 0) (zD : AD = none → cd = 0) (zL : AL = none → cl = 0) (hP : RdP w A ca cs R ra rs) (hN : RdN w N ns) (zN : N = none → nc = 0) (h14 : ∀ c ∈ ns, c.length = 14) (hh : 0 ≤ hist ∧ hist < 4294967296) (he : RdE w AE es) (hce : es.length ≤ ce) (zE : AE = none → ce = 0) (hev : ∀ k, k < es.length → EvU (gn es k)) (wa : (Lit.int .u16 a2).wf = true) :
    Calls Try.prog 10 #[.agg #[.int .i64 k0, .int .i64 k1, .int .i64 k2, .int .i64 k3, .int .i64 k4, .int .i64 k5, .int .i64 k6, .int .i64 k7, .int .i64 k8, .int .i64 k9, .int .i64 k10, .int .i64 k11, .int .i64 i0, .int .i64 i1, .int .i64 i2, .slice AI LI.length ci, .int .i64 d0, .int .i64 d1, .int .i64 d2, .slice AD LD.length cd, .int .i64 l0, .int .i64 l1, .int .i64 l2, .slice AL LL.length cl, .int .i64 p0, .int .i64 p1, .int .i64 p2, .slice A cs.length ca, .int .u32 hist, .slice R rs.length ra, .slice N ns.length nc], .slice AE es.length ce, .int .u16 a2] w fun e w' => e = .returned (.bool true) ∧ Below w.heap.size w w' := by
  exact parts_any k0 k1 k2 k3 k4 k5 k6 k7 k8 k9 k10 k11 i0 i1 i2 d0 d1 d2 l0 l1 l2 p0 p1 p2 AI AD AL A R N AE ci cd cl ca ra nc ce vI vD vL LI LD LL cs rs hist ns es a2 w hI hD hL zI zD zL hP hN zN h14 hh he hce zE hev (wf_u16 wa)

/-! ### The row -/
set_option maxRecDepth 100000 in
set_option maxHeartbeats 4000000 in
theorem lifted (os : Os) (started : os.Started) (H : Type) (enc : TypeId × Value → H) :
    ReturnsInHanded {} Try.checked os 10 .any (Rows.simPartsSpec.pre6 enc Try.prog Try.f10 Rows.simPartsRow.domain false) (Rows.simPartsSpec.post enc Try.prog Try.f10 false true false false) := by
  refine returnsInHanded_of_change (C := Try.checked) own started (by kernel_rfl) Try.func10
    (ChangeSpec.witness6 (enc := enc) (C := Try.checked) false ⟨#[], #[.agg #[.int .i64 0, .int .i64 0, .int .i64 0, .int .i64 0, .int .i64 0, .int .i64 0, .int .i64 0, .int .i64 0, .int .i64 0, .int .i64 0, .int .i64 0, .int .i64 0, .int .i64 0, .int .i64 0, .int .i64 0, .slice none 0 0, .int .i64 0, .int .i64 0, .int .i64 0, .slice none 0 0, .int .i64 0, .int .i64 0, .int .i64 0, .slice none 0 0, .int .i64 0, .int .i64 0, .int .i64 0, .slice none 0 0, .int .u32 0, .slice none 0 0, .slice none 0 0], .slice none 0 0, .int .u16 0], []⟩ 8 (by kernel_rfl) (by kernel_rfl) (by kernel_rfl) (by kernel_rfl)) ?_
  intro W base args ds gs before hval0 hW hcnd _
  have hval : ∀ (j : Nat) t v, Try.f10.params[j]? = some t → args[j]? = some v → Value.okWide Try.prog W .any base t v := hval0
  have hW' := hW
  obtain ⟨p, q, hA0, hV, rfl, hfz, hnd⟩ := hW
  have hA : DataW.TrodAll enc Try.prog W 0 (fun _ => true) true Try.f10.params.toList args.toList ds p := hA0
  rw [Try.params10] at hA hval
  obtain ⟨v0, vs0, d0, ds0, p0, q0, hargs, rfl, rfl, h0, r0⟩ := trodAll_cons hA
  obtain ⟨v1, vs1, d1, ds1, p1, q1, rfl, rfl, rfl, h1, r1⟩ := trodAll_cons r0
  obtain ⟨v2, vs2, d2, ds2, p2, q2, rfl, rfl, rfl, h2, r2⟩ := trodAll_cons r1
  obtain ⟨rfl, rfl, rfl⟩ := trodAll_nil r2
  obtain rfl : args = #[v0, v1, v2] := by cases args; simp_all
  obtain ⟨rfl, rfl⟩ := trodVars_none hV
  have k0 := h0
  have lt0 : ∀ x ∈ p0, x.block < W.heap.size := by obtain ⟨m, hm⟩ := k0; exact DataW.trod_lt m _ _ _ hm
  have k1 := h1
  have lt1 : ∀ x ∈ p1, x.block < W.heap.size := by obtain ⟨m, hm⟩ := k1; exact DataW.trod_lt m _ _ _ hm
  have k2 := h2
  have lt2 : ∀ x ∈ p2, x.block < W.heap.size := by obtain ⟨m, hm⟩ := k2; exact DataW.trod_lt m _ _ _ hm
  obtain ⟨zk0, zk1, zk2, zk3, zk4, zk5, zk6, zk7, zk8, zk9, zk10, zk11, zi0, zi1, zi2, zd0, zd1, zd2, zl0, zl1, zl2, zp0, zp1, zp2, AI, AD, AL, A, R, N, ci, cd, cl, ca, ra, nc, vI, vD, vL, LI, LD, LL, cs, rs, hist, ns, rfl, hI, hD, hL, zI, zD, zL, hP, hN, zN, h14, hh⟩ := open_sim (hval 0 67 v0 rfl rfl) h0
  obtain ⟨AE, ce, es, rfl, he, zE, hce, hev⟩ := open_events (hval 1 68 v1 rfl rfl) h1
  obtain ⟨a2, rfl, rfl, rfl, wa⟩ := open_int Try.underlying44 (hval 2 44 v2 rfl rfl) h2
  clear hA0 hval0
  refine (walk zk0 zk1 zk2 zk3 zk4 zk5 zk6 zk7 zk8 zk9 zk10 zk11 zi0 zi1 zi2 zd0 zd1 zd2 zl0 zl1 zl2 zp0 zp1 zp2 AI AD AL A R N AE ci cd cl ca ra nc ce vI vD vL LI LD LL cs rs hist ns es a2 W hI hD hL zI zD zL hP hN zN h14 hh he hce zE hev wa).mono fun e W' ⟨he, bel⟩ => ?_
  subst he
  exact ⟨_, rfl, _, _, _, [], _, [], hW', trodAll_mk1 (shut_bool Try.underlying4 _), (trodAll_cons_mk (Below.trod laidOut (by kernel_rfl) (of_decide_eq_true (by kernel_rfl)) k0 bel lt0) (trodAll_cons_mk (Below.trod laidOut (by kernel_rfl) (of_decide_eq_true (by kernel_rfl)) k1 bel lt1) (trodAll_cons_mk (Below.trod laidOut (by kernel_rfl) (of_decide_eq_true (by kernel_rfl)) k2 bel lt2) trodAll_mk0))), rfl, bel.frame _, fun h => by cases h⟩

theorem over : Rows.simPartsRow.holds Try.pinned (OpenSpec.ofChange Rows.simPartsSpec) :=
  OpenClaim.holds_of_wide 10 Try.f10 rfl rfl rfl rfl rfl rfl rfl ⟨rfl, rfl, rfl, rfl, rfl⟩ rfl rfl rfl rfl rfl (by kernel_rfl) Try.func10 (by kernel_rfl)
    (of_decide_eq_true (by kernel_rfl)) (by unfold Func.isWrapper; first | (rw [if_pos (by decide +kernel)]; kernel_rfl) | (rw [if_neg (by decide +kernel)]; exact ⟨rfl, rfl⟩))
    (fun os started H enc _ => lifted os started H enc)

/-- The statement. -/
theorem proved : Rows.SimPartsSaid := over
#print axioms proved
end Go.Proofs.Ytdkacdfhapgboaa.simParts
