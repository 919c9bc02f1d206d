/- Part 7 of the texts that the proof stands on: SlE, Till, Chk, Tot, LawA, LawB, SanA. -/
import Derived.Test.YtdkacdfhapgboaaM06
import Derived.Deep.QuietTactic
import Derived.BigQuiet
import Derived.Deep.RegionHeld3
import Derived.Deep.DrawnRows
import Derived.Deep.AppendLies

/- package slices: Clone of structs. -/
namespace Go.Proofs.Ytdkacdfhapgboaa
open Go.RowKit

theorem info_ev : (Try.prog.info? 71).map (fun i => (i.zero, i.size, i.bytes)) = some (some (.agg #[.int .i64 0, .int .i64 0, .int .u32 0, .int .u32 0, .int .u32 0, .int .i64 0]), 6, 40) := by kernel_rfl
set_option maxHeartbeats 400000 in
theorem clone_ev (A : Option Addr) (n c : Nat) (cs : List Value) (w : World) (h : Rd w A n 6 cs) (hA : A = none → c = 0) (h1 : ∀ u ∈ cs, u.oneCell' = true) (hby : n * 40 ≤ 140737488355328) :
    Calls Try.prog 39 #[.slice A n c] w fun e w' => ∃ v, e = .returned v ∧ w'.ownsRow w.heap.size 71 6 v n cs ∧ Below w.heap.size w w' := by
  have hle := h.le
  have hlen := h.len
  have H := Lib.hid h
  have H1 := Lib.hid h1
  have HL := Lib.hid hlen
  have HB := Lib.hid hby
  have HN := Lib.hid hle
  clear h h1 hlen hby hle
  cases A with
  | none =>
    obtain rfl := hA rfl
    have hcs : cs = [] := by
      rcases cs with _ | ⟨u, us⟩
      · rfl
      · obtain ⟨ad, e, _⟩ := H.out.cell 0 (by simp)
        exact absurd e (by simp)
    subst hcs
    obtain rfl : n = 0 := by have := HL.out; simp at this; omega
    clear HL H H1 HB HN
    have hnil := fun (W : World) => Lib.run_eql_slice_nil (P := Try.prog) W 68 71 none 0 0 0 0 Try.underlying68
    go_enter Try.func39, Try.ntmps39
    go_wp2
    go_ret
    exact ⟨_, rfl, World.ownsRow_nil _ _ _ _, Below.refl _ _⟩
  | some ad =>
    clear hA
    obtain ⟨i0, hi, hz0, hz1, hz2⟩ := info_parts info_ev
    have HOWN := Lib.hid (World.ownsRow_lit (base := w.heap.size) (e := 71) (size := 6) w #[] 0 (Nat.le_refl _) (by decide) rfl)
    have HC : Hid (∀ j u, cs[j]? = some u → (w.alloc (.cells #[] 71)).cell? (ad.add j) = some u) := fun j u hu => by
      obtain ⟨hj, rfl⟩ := List.getElem?_eq_some_iff.1 hu
      obtain ⟨ad', e, hc⟩ := H.out.cell j hj
      obtain rfl := Option.some.inj e
      exact bkeep (balloc _ _) hc
    have hnil := fun (W : World) => Lib.run_eql_slice_nil (P := Try.prog) W 68 71 (some ad) n c 0 0 Try.underlying68
    go_enter Try.func39, Try.ntmps39
    go_wp2_with (at_builtin; refine wpList_append_own _ rfl _ _ 68 rfl w.heap.size 71 i0 (.agg #[.int .i64 0, .int .i64 0, .int .u32 0, .int .u32 0, .int .u32 0, .int .i64 0]) 6 40 Try.underlying68 hi hz0 hz1 hz2 rfl (by decide) _ 0 [] rfl HOWN.out ad n c cs rfl HL.out HC.out H1.out (by have := HN.out; unfold maxLen; omega) (by have := HB.out; omega) (by simp) ?_; intro v' w1 hown' hgrow _)
    go_ret
    refine ⟨_, rfl, ?_, (balloc _ _).grown hgrow (by simp) (fun k e => by cases e; exact Nat.le_refl _)⟩
    rw [Nat.zero_add, List.nil_append] at hown'
    exact hown'

theorem info_cntE : (Try.prog.info? 79).map (fun i => (i.zero, i.size, i.bytes)) = some (some (.agg #[.int .u32 0, .int .i64 0, .int .i64 0, .int .i64 0, .int .i64 0, .int .i64 0, .int .i64 0, .int .i64 0, .int .i64 0, .int .i64 0, .int .i64 0, .int .i64 0, .int .i64 0, .int .i64 0]), 14, 112) := by kernel_rfl
set_option maxHeartbeats 400000 in
theorem clone_cnt (A : Option Addr) (n c : Nat) (cs : List Value) (w : World) (h : Rd w A n 14 cs) (hA : A = none → c = 0) (h1 : ∀ u ∈ cs, u.oneCell' = true) (hby : n * 112 ≤ 140737488355328) :
    Calls Try.prog 60 #[.slice A n c] w fun e w' => ∃ v, e = .returned v ∧ w'.ownsRow w.heap.size 79 14 v n cs ∧ Below w.heap.size w w' := by
  have hle := h.le
  have hlen := h.len
  have H := Lib.hid h
  have H1 := Lib.hid h1
  have HL := Lib.hid hlen
  have HB := Lib.hid hby
  have HN := Lib.hid hle
  clear h h1 hlen hby hle
  cases A with
  | none =>
    obtain rfl := hA rfl
    have hcs : cs = [] := by
      rcases cs with _ | ⟨u, us⟩
      · rfl
      · obtain ⟨ad, e, _⟩ := H.out.cell 0 (by simp)
        exact absurd e (by simp)
    subst hcs
    obtain rfl : n = 0 := by have := HL.out; simp at this; omega
    clear HL H H1 HB HN
    have hnil := fun (W : World) => Lib.run_eql_slice_nil (P := Try.prog) W 65 79 none 0 0 0 0 Try.underlying65
    go_enter Try.func60, Try.ntmps60
    go_wp2
    go_ret
    exact ⟨_, rfl, World.ownsRow_nil _ _ _ _, Below.refl _ _⟩
  | some ad =>
    clear hA
    obtain ⟨i0, hi, hz0, hz1, hz2⟩ := info_parts info_cntE
    have HOWN := Lib.hid (World.ownsRow_lit (base := w.heap.size) (e := 79) (size := 14) w #[] 0 (Nat.le_refl _) (by decide) rfl)
    have HC : Hid (∀ j u, cs[j]? = some u → (w.alloc (.cells #[] 79)).cell? (ad.add j) = some u) := fun j u hu => by
      obtain ⟨hj, rfl⟩ := List.getElem?_eq_some_iff.1 hu
      obtain ⟨ad', e, hc⟩ := H.out.cell j hj
      obtain rfl := Option.some.inj e
      exact bkeep (balloc _ _) hc
    have hnil := fun (W : World) => Lib.run_eql_slice_nil (P := Try.prog) W 65 79 (some ad) n c 0 0 Try.underlying65
    go_enter Try.func60, Try.ntmps60
    go_wp2_with (at_builtin; refine wpList_append_own _ rfl _ _ 65 rfl w.heap.size 79 i0 (.agg #[.int .u32 0, .int .i64 0, .int .i64 0, .int .i64 0, .int .i64 0, .int .i64 0, .int .i64 0, .int .i64 0, .int .i64 0, .int .i64 0, .int .i64 0, .int .i64 0, .int .i64 0, .int .i64 0]) 14 112 Try.underlying65 hi hz0 hz1 hz2 rfl (by decide) _ 0 [] rfl HOWN.out ad n c cs rfl HL.out HC.out H1.out (by have := HN.out; unfold maxLen; omega) (by have := HB.out; omega) (by simp) ?_; intro v' w1 hown' hgrow _)
    go_ret
    refine ⟨_, rfl, ?_, (balloc _ _).grown hgrow (by simp) (fun k e => by cases e; exact Nat.le_refl _)⟩
    rw [Nat.zero_add, List.nil_append] at hown'
    exact hown'
end Go.Proofs.Ytdkacdfhapgboaa

/- A region that draws its order: what its loads read stays as it is TILL one operation (a store into a cell that the region loads): loads that this operation waits for are taken first. -/
set_option linter.unusedVariables false
namespace Go.Proofs.Ytdkacdfhapgboaa

section
variable {P : Program} {ops : Array Oper} {Q : Exit → Act → World → Prop} {md : Region.Mode} {S : World → Prop} {t : Nat}
/-- Whatever order is picked: S holds behind each operation till number t comes up. -/
def wpAnyT (P : Program) (md : Region.Mode) (ops : Array Oper) (Q : Exit → Act → World → Prop) (S : World → Prop) (t : Nat) : Nat → Array Bool → Act → World → Prop
  | 0, listed, a, w => Region.ready md ops listed = [] ∧ Q .normal a w
  | fuel + 1, listed, a, w =>
    (Region.ready md ops listed = [] → Q .normal a w) ∧
    ∀ i ∈ Region.ready md ops listed, wpOp P ops Q i (fun a' w' => if i = t then wpAny P md ops Q fuel (listed.setIfInBounds i true) a' w' else S w' ∧ wpAnyT P md ops Q S t fuel (listed.setIfInBounds i true) a' w') a w
theorem wpAny_of_till : ∀ (fuel : Nat) (listed : Array Bool) (a : Act) (w : World), wpAnyT P md ops Q S t fuel listed a w → wpAny P md ops Q fuel listed a w
  | 0, _, _, _, h => h
  | fuel + 1, _, _, _, h => ⟨h.1, fun i hi => wpOp_mono (fun a' w' h' => by
      by_cases e : i = t
      · rw [if_pos e] at h'; exact h'
      · rw [if_neg e] at h'; exact wpAny_of_till fuel _ a' w' h'.2) (h.2 i hi)⟩
/-- Number t waits for number i. -/
def waitsB (md : Region.Mode) (ops : Array Oper) (t i : Nat) : Bool := match ops[t]? with | some o => o.after.any fun e => Region.binds md e && e.on == i | none => false
theorem waitsB_spec {i : Nat} (h : waitsB md ops t i = true) {o : Oper} (ho : ops[t]? = some o) : ∃ e ∈ o.after, Region.binds md e = true ∧ e.on = i := by
  unfold waitsB at h
  rw [ho] at h
  obtain ⟨j, hj, hp⟩ := Array.any_eq_true.1 h
  simp only [Bool.and_eq_true, beq_iff_eq] at hp
  exact ⟨_, Array.getElem_mem hj, hp⟩
theorem wpAnyT_first {i : Nat} {oi : Oper} {v : Value} (hi : ops[i]? = some oi) (hti : t ≠ i) (hw : waitsB md ops t i = true) (hsel : ∀ (j : Nat) (o : Oper) cs b, ops[j]? = some o → o.op ≠ .select cs b)
    (hQ : ∀ c a w, Q (.panic c) (a.put oi.dst v) w → Q (.panic c) a w) :
    ∀ (fuel : Nat) (listed : Array Bool) (a : Act) (w : World),
      (∀ j oj, ops[j]? = some oj → j ≠ i → listed.getD j true = false → (∀ e ∈ oj.after, Region.binds md e = true → e.on ≠ i) → oi.apart ops oj = true) →
      i ∈ Region.ready md ops listed → YieldsIf P ops S oi v a → S w →
      wpAnyT P md ops Q S t fuel (listed.setIfInBounds i true) (a.put oi.dst v) w → wpAnyT P md ops Q S t (fuel + 1) listed a w := by
  intro fuel
  induction fuel with
  | zero =>
    intro listed a w _ hr hy hS H
    refine ⟨fun h => (by rw [h] at hr; cases hr), fun j hj => ?_⟩
    by_cases hji : j = i
    · subst hji; refine hy.wpOp hi hS ?_
      rw [if_neg (Ne.symm hti)]
      exact ⟨hS, H⟩
    · have := ready_mono hj hji
      rw [H.1] at this
      cases this
  | succ fuel ih =>
    intro listed a w hfree hr hy hS H
    refine ⟨fun h => (by rw [h] at hr; cases hr), fun j hj => ?_⟩
    by_cases hji : j = i
    · subst hji; refine hy.wpOp hi hS ?_
      rw [if_neg (Ne.symm hti)]
      exact ⟨hS, H⟩
    · have h1 := H.2 j (ready_mono hj hji)
      obtain ⟨hjun, oj, hoj, hall⟩ := mem_ready.1 hj
      have hnot : ∀ e ∈ oj.after, Region.binds md e = true → e.on ≠ i := fun e he hb heq => by
        have h1 := hall e he hb
        have h0 := (mem_ready.1 hr).1
        rw [heq] at h1
        rcases Nat.lt_or_ge i listed.size with h' | h'
        · simp [h'] at h0 h1; rw [h0] at h1; cases h1
        · simp [Array.getElem?_eq_none h'] at h1
      have hjt : j ≠ t := fun e => by
        subst e
        obtain ⟨e, he, hb, heq⟩ := waitsB_spec hw hoj
        exact hnot e he hb heq
      have h2 := wpOp_putIf hoj (hfree j oj hoj hji hjun hnot) (fun cs b => hsel i oi cs b hi) (fun cs b => hsel j oj cs b hoj) hQ hy h1
      have hfree' : ∀ k ok, ops[k]? = some ok → k ≠ i → (listed.setIfInBounds j true).getD k true = false →
          (∀ e ∈ ok.after, Region.binds md e = true → e.on ≠ i) → oi.apart ops ok = true := fun k ok hk hki hun hno => by
        refine hfree k ok hk hki ?_ hno
        by_cases hjk : j = k
        · subst hjk; exact hjun
        · rw [getD_set_ne true hjk] at hun; exact hun
      refine wpOp_mono (fun a' w' h3 => ?_) h2
      rw [if_neg hjt] at h3 ⊢
      refine ⟨h3.2.1, ih (listed.setIfInBounds j true) a' w' hfree' (ready_mono hr (Ne.symm hji)) h3.1 h3.2.1 ?_⟩
      rw [Array.setIfInBounds_comm _ _ hji]
      exact h3.2.2
/-- Take number i first. -/
theorem wpAnyT_take (i : Nat) (oi : Oper) (v : Value) {fuel : Nat} {listed : Array Bool} {a : Act} {w : World} (hi : ops[i]? = some oi) (hti : decide (t ≠ i) = true) (hw : waitsB md ops t i = true)
    (hs : Region.noSelect ops = true) (hf : Region.free md ops listed i = true) (hr : (Region.ready md ops listed).contains i = true)
    (hQ : ∀ c a w, Q (.panic c) (a.put oi.dst v) w → Q (.panic c) a w) (hy : YieldsIf P ops S oi v a) (hS : S w)
    (h : wpAnyT P md ops Q S t fuel (listed.setIfInBounds i true) (a.put oi.dst v) w) : wpAnyT P md ops Q S t (fuel + 1) listed a w :=
  wpAnyT_first hi (of_decide_eq_true hti) hw (Region.noSelect_spec hs) hQ fuel listed a w (Region.free_spec hi hf) (by simpa using hr) hy hS h
/-- Number i alone may come up now, and it is not t: behind it S is to be shown anew. -/
theorem wpAnyT_one (i : Nat) (o : Oper) {fuel : Nat} {listed : Array Bool} {a : Act} {w : World} (hr : Region.ready md ops listed = [i]) (hti : decide (i ≠ t) = true) (ho : ops[i]? = some o)
    (h : ∀ K' : Act → World → Prop, Shut (∀ a w, S w → wpAnyT P md ops Q S t fuel (listed.setIfInBounds i true) a w → K' a w) → if Region.wanted o (yielded ops a.tmps) = true then Oper.wp P o a w K' Q else K' (a.put o.dst undef) w) : wpAnyT P md ops Q S t (fuel + 1) listed a w :=
  ⟨fun h0 => (by rw [hr] at h0; cases h0), fun j hj => by
    rw [hr] at hj
    obtain rfl : j = i := by simpa using hj
    refine wpOp_step ho fun K' hK => h K' fun a w h1 h2 => hK a w ?_
    rw [if_neg (of_decide_eq_true hti)]
    exact ⟨h1, h2⟩⟩
/-- Number t alone may come up now: what follows it needs no S. -/
theorem wpAnyT_till (o : Oper) {fuel : Nat} {listed : Array Bool} {a : Act} {w : World} (hr : Region.ready md ops listed = [t]) (ho : ops[t]? = some o)
    (h : ∀ K' : Act → World → Prop, Shut (∀ a w, wpAny P md ops Q fuel (listed.setIfInBounds t true) a w → K' a w) → if Region.wanted o (yielded ops a.tmps) = true then Oper.wp P o a w K' Q else K' (a.put o.dst undef) w) : wpAnyT P md ops Q S t (fuel + 1) listed a w :=
  ⟨fun h0 => (by rw [hr] at h0; cases h0), fun j hj => by
    rw [hr] at hj
    obtain rfl : j = t := by simpa using hj
    refine wpOp_step ho fun K' hK => h K' fun a w h1 => hK a w ?_
    rw [if_pos rfl]
    exact h1⟩
/-- Number i or number t may come up now. -/
theorem wpAnyT_two (i : Nat) (o ot : Oper) {fuel : Nat} {listed : Array Bool} {a : Act} {w : World} (hr : Region.ready md ops listed = [i, t]) (hti : decide (i ≠ t) = true) (ho : ops[i]? = some o) (hot : ops[t]? = some ot)
    (h1 : ∀ K' : Act → World → Prop, Shut (∀ a w, S w → wpAnyT P md ops Q S t fuel (listed.setIfInBounds i true) a w → K' a w) → if Region.wanted o (yielded ops a.tmps) = true then Oper.wp P o a w K' Q else K' (a.put o.dst undef) w)
    (h2 : ∀ K' : Act → World → Prop, Shut (∀ a w, wpAny P md ops Q fuel (listed.setIfInBounds t true) a w → K' a w) → if Region.wanted ot (yielded ops a.tmps) = true then Oper.wp P ot a w K' Q else K' (a.put ot.dst undef) w) : wpAnyT P md ops Q S t (fuel + 1) listed a w :=
  ⟨fun h0 => (by rw [hr] at h0; cases h0), fun j hj => by
    rw [hr] at hj
    have hne : i ≠ t := of_decide_eq_true hti
    by_cases e : j = t
    · subst e
      refine wpOp_step hot fun K' hK => h2 K' fun a w h1 => hK a w ?_
      rw [if_pos rfl]
      exact h1
    · obtain rfl : j = i := by
        rcases List.mem_cons.1 hj with h | h
        · exact h
        · exact absurd (by simpa using h) e
      refine wpOp_step ho fun K' hK => h1 K' fun a w h1 h2 => hK a w ?_
      rw [if_neg hne]
      exact ⟨h1, h2⟩⟩
theorem wp_region_till (t : Nat) (S : World → Prop) {id : Nat} {a : Act} {w : World} (hm : P.follows .mixedOrders = true) (hS : S w.drew)
    (h : S w.drew → wpAnyT P .any ops Q S t ops.size (Array.replicate ops.size false) a w.drew) : (Code.region id ops true).wp P Q a w :=
  wp_region_any hm (wpAny_of_till _ _ _ _ (h hS))
/-- A load of a struct under a guard that lets it run. -/
theorem wpList_load_midW {rest : List Oper} {op : Oper} {a : Act} {w : World} (hw : Region.wanted op (yielded ops a.tmps) = true) (ty : TypeId) (x : Operand) (ho : op.op = .load ty x)
    (b o : Nat) (hx : a.eval x = .pointer (some ⟨b, o, none⟩)) (cs : List Value) (d : TypeDesc) (hc : w.rangeAt b o cs) (hu : P.underlying ty = some d) (hd : d.isRow = true) (hi : (P.info? ty).map (·.size) = some cs.length)
    (h : wpList P ops Q rest (a.put op.dst (.agg cs.toArray)) w) : wpList P ops Q (op :: rest) a w :=
  wpList_step fun K hK => by
    rw [if_pos hw]
    exact wp_load_mid ty x ho b o hx cs d hc hu hd hi (hK _ _ h)
end
end Go.Proofs.Ytdkacdfhapgboaa

/- sim.Check, Of of a valid simulation. (printed by gen/chk.py) -/
set_option linter.unusedVariables false
set_option linter.unusedSimpArgs false
namespace Go.Proofs.Ytdkacdfhapgboaa
open Go.RowKit

theorem cntsOk_sorted {ns : List (List Int)} (h : cntsOk ns) : sortedN ns := by
  intro i j hij hj
  induction j with
  | zero => omega
  | succ j ih =>
    have h1 := (h (j + 1) hj).1 (by omega)
    rw [Nat.add_sub_cancel] at h1
    by_cases e : i = j
    · rw [e]; exact h1
    · have := ih (by omega) (by omega); omega

set_option maxRecDepth 100000 in
set_option maxHeartbeats 1000000 in
theorem Check_ok (il is iw dl ds dw ll ls lw pt ph pr : Int) (AI AD AL A R N : Option Addr) (ci cd cl ca ra nc : Nat) (vI vD vL : List Value) (LI LD LL : List (List Int)) (cs rs : List Int) (hist : Int) (ns : List (List Int)) (w : World)
    (hs : simShapeB ⟨il, is, iw, dl, ds, dw, ll, ls, lw, pt, ph, pr⟩ = true) (hI : RdSets w AI vI LI) (hD : RdSets w AD vD LD) (hL : RdSets w AL vL LL) (hc : RdI w .i64 A cs.length cs) (hn : RdN w N ns)
    (oI : cacheOk il is iw LI) (oD : cacheOk dl ds dw LD) (oL : cacheOk ll ls lw LL) (oP : predOk pt ph pr cs hist rs) (hh : 0 ≤ hist ∧ hist < 4294967296) (hnl : ns.length ≤ 20000) (oN : cntsOk ns) :
    Calls Try.prog 30 #[.agg #[.int .i64 il, .int .i64 is, .int .i64 iw, .int .i64 dl, .int .i64 ds, .int .i64 dw, .int .i64 ll, .int .i64 ls, .int .i64 lw, .int .i64 pt, .int .i64 ph, .int .i64 pr, .int .i64 il, .int .i64 is, .int .i64 iw, .slice AI LI.length ci, .int .i64 dl, .int .i64 ds, .int .i64 dw, .slice AD LD.length cd, .int .i64 ll, .int .i64 ls, .int .i64 lw, .slice AL LL.length cl, .int .i64 pt, .int .i64 ph, .int .i64 pr, .slice A cs.length ca, .int .u32 hist, .slice R rs.length ra, .slice N ns.length nc]] w fun e w' => e = .returned (.int .i64 0) ∧ Below w.heap.size w w' := by
  obtain ⟨W0, hW0⟩ : ∃ W0, w.alloc (.cells #[.int .i64 il, .int .i64 is, .int .i64 iw, .int .i64 dl, .int .i64 ds, .int .i64 dw, .int .i64 ll, .int .i64 ls, .int .i64 lw, .int .i64 pt, .int .i64 ph, .int .i64 pr, .int .i64 il, .int .i64 is, .int .i64 iw, .slice AI LI.length ci, .int .i64 dl, .int .i64 ds, .int .i64 dw, .slice AD LD.length cd, .int .i64 ll, .int .i64 ls, .int .i64 lw, .slice AL LL.length cl, .int .i64 pt, .int .i64 ph, .int .i64 pr, .slice A cs.length ca, .int .u32 hist, .slice R rs.length ra, .slice N ns.length nc] 67) = W0 := ⟨_, rfl⟩
  have hb0 : Below w.heap.size w W0 := by rw [← hW0]; exact balloc w _
  have hx0 : W0.heap[w.heap.size]? = some (.cells #[.int .i64 il, .int .i64 is, .int .i64 iw, .int .i64 dl, .int .i64 ds, .int .i64 dw, .int .i64 ll, .int .i64 ls, .int .i64 lw, .int .i64 pt, .int .i64 ph, .int .i64 pr, .int .i64 il, .int .i64 is, .int .i64 iw, .slice AI LI.length ci, .int .i64 dl, .int .i64 ds, .int .i64 dw, .slice AD LD.length cd, .int .i64 ll, .int .i64 ls, .int .i64 lw, .slice AL LL.length cl, .int .i64 pt, .int .i64 ph, .int .i64 pr, .slice A cs.length ca, .int .u32 hist, .slice R rs.length ra, .slice N ns.length nc] 67 (0, 0)) := by rw [← hW0]; exact heap_alloc_new w _
  have HR0 : Hid (W0.rangeAt w.heap.size 0 [.int .i64 il, .int .i64 is, .int .i64 iw, .int .i64 dl, .int .i64 ds, .int .i64 dw, .int .i64 ll, .int .i64 ls, .int .i64 lw, .int .i64 pt, .int .i64 ph, .int .i64 pr, .int .i64 il, .int .i64 is, .int .i64 iw, .slice AI LI.length ci, .int .i64 dl, .int .i64 ds, .int .i64 dw, .slice AD LD.length cd, .int .i64 ll, .int .i64 ls, .int .i64 lw, .slice AL LL.length cl, .int .i64 pt, .int .i64 ph, .int .i64 pr, .slice A cs.length ca, .int .u32 hist, .slice R rs.length ra, .slice N ns.length nc]) := Lib.hid (range_sub hx0 0 _ rfl)
  have hst := sim_true il is iw dl ds dw ll ls lw pt ph pr AI AD AL A R N ci cd cl ca ra nc vI vD vL LI LD LL cs rs hist ns W0 hs (hI.below hb0) (hD.below hb0) (hL.below hb0) (Rd.below hc hb0) (hn.below hb0) oI oD oL oP hh hnl oN
  have HST := Lib.hid hst
  have HX := Lib.hid hx0
  have HN := Lib.hid (hn.below hb0)
  have ON := Lib.hid oN
  clear hst hx0 hI hD hL hc hn oI oD oL oP oN
  go_enter Try.func30, Try.ntmps30
  go_wp2_with (with_reducible refine wpList_load_mid rfl 67 (Operand.tmp 1) rfl w.heap.size 0 rfl [.int .i64 il, .int .i64 is, .int .i64 iw, .int .i64 dl, .int .i64 ds, .int .i64 dw, .int .i64 ll, .int .i64 ls, .int .i64 lw, .int .i64 pt, .int .i64 ph, .int .i64 pr, .int .i64 il, .int .i64 is, .int .i64 iw, .slice AI LI.length ci, .int .i64 dl, .int .i64 ds, .int .i64 dw, .slice AD LD.length cd, .int .i64 ll, .int .i64 ls, .int .i64 lw, .slice AL LL.length cl, .int .i64 pt, .int .i64 ph, .int .i64 pr, .slice A cs.length ca, .int .u32 hist, .slice R rs.length ra, .slice N ns.length nc] _ HR0.out Try.underlying67 rfl (by kernel_rfl) ?_)
  refine HST.out.mono ?_
  rintro e W1 ⟨rfl, hb⟩
  go_wp2_with fail
  refine (number_any _ _).mono ?_
  rintro e W2 ⟨rfl, rfl⟩
  go_wp2
  go_ret
  exact ⟨rfl, bvia hb0 hb (Nat.le_refl _)⟩

abbrev zeroCnt : Obj := .cells #[.int .u32 0, .int .i64 0, .int .i64 0, .int .i64 0, .int .i64 0, .int .i64 0, .int .i64 0, .int .i64 0, .int .i64 0, .int .i64 0, .int .i64 0, .int .i64 0, .int .i64 0, .int .i64 0] 79
attribute [local irreducible] World.setCell in
set_option maxRecDepth 100000 in
set_option maxHeartbeats 1000000 in
theorem Of_ok (il is iw dl ds dw ll ls lw pt ph pr : Int) (AI AD AL A R N : Option Addr) (ci cd cl ca ra nc : Nat) (vI vD vL : List Value) (LI LD LL : List (List Int)) (cs rs : List Int) (hist : Int) (ns : List (List Int)) (p : Int) (w : World)
    (hs : simShapeB ⟨il, is, iw, dl, ds, dw, ll, ls, lw, pt, ph, pr⟩ = true) (hI : RdSets w AI vI LI) (hD : RdSets w AD vD LD) (hL : RdSets w AL vL LL) (hc : RdI w .i64 A cs.length cs) (hn : RdN w N ns)
    (oI : cacheOk il is iw LI) (oD : cacheOk dl ds dw LD) (oL : cacheOk ll ls lw LL) (oP : predOk pt ph pr cs hist rs) (hh : 0 ≤ hist ∧ hist < 4294967296) (hnl : ns.length ≤ 20000) (oN : cntsOk ns) (k : Nat) (hk : k < ns.length) (hp : gi (gn ns k) 0 = p) :
    Calls Try.prog 40 #[.agg #[.int .i64 il, .int .i64 is, .int .i64 iw, .int .i64 dl, .int .i64 ds, .int .i64 dw, .int .i64 ll, .int .i64 ls, .int .i64 lw, .int .i64 pt, .int .i64 ph, .int .i64 pr, .int .i64 il, .int .i64 is, .int .i64 iw, .slice AI LI.length ci, .int .i64 dl, .int .i64 ds, .int .i64 dw, .slice AD LD.length cd, .int .i64 ll, .int .i64 ls, .int .i64 lw, .slice AL LL.length cl, .int .i64 pt, .int .i64 ph, .int .i64 pr, .slice A cs.length ca, .int .u32 hist, .slice R rs.length ra, .slice N ns.length nc], .int .u32 p] w fun e w' => e = .returned (.tuple #[.agg (cntCells (gn ns k)).toArray, .bool true]) ∧ Below w.heap.size w w' := by
  obtain ⟨W0, hW0⟩ : ∃ W0, (w.alloc (.cells #[.int .i64 il, .int .i64 is, .int .i64 iw, .int .i64 dl, .int .i64 ds, .int .i64 dw, .int .i64 ll, .int .i64 ls, .int .i64 lw, .int .i64 pt, .int .i64 ph, .int .i64 pr, .int .i64 il, .int .i64 is, .int .i64 iw, .slice AI LI.length ci, .int .i64 dl, .int .i64 ds, .int .i64 dw, .slice AD LD.length cd, .int .i64 ll, .int .i64 ls, .int .i64 lw, .slice AL LL.length cl, .int .i64 pt, .int .i64 ph, .int .i64 pr, .slice A cs.length ca, .int .u32 hist, .slice R rs.length ra, .slice N ns.length nc] 67)).alloc zeroCnt = W0 := ⟨_, rfl⟩
  have hb0 : Below w.heap.size w W0 := by rw [← hW0]; exact ((Below.refl _ _).alloc (Nat.le_refl _) _).alloc (by simp) _
  have hx0 : W0.heap[w.heap.size]? = some (.cells #[.int .i64 il, .int .i64 is, .int .i64 iw, .int .i64 dl, .int .i64 ds, .int .i64 dw, .int .i64 ll, .int .i64 ls, .int .i64 lw, .int .i64 pt, .int .i64 ph, .int .i64 pr, .int .i64 il, .int .i64 is, .int .i64 iw, .slice AI LI.length ci, .int .i64 dl, .int .i64 ds, .int .i64 dw, .slice AD LD.length cd, .int .i64 ll, .int .i64 ls, .int .i64 lw, .slice AL LL.length cl, .int .i64 pt, .int .i64 ph, .int .i64 pr, .slice A cs.length ca, .int .u32 hist, .slice R rs.length ra, .slice N ns.length nc] 67 (0, 0)) := by rw [← hW0]; exact (heap_alloc_old _ _ (by simp)).trans (heap_alloc_new w _)
  have HR0 : Hid (W0.rangeAt w.heap.size 0 [.int .i64 il, .int .i64 is, .int .i64 iw, .int .i64 dl, .int .i64 ds, .int .i64 dw, .int .i64 ll, .int .i64 ls, .int .i64 lw, .int .i64 pt, .int .i64 ph, .int .i64 pr, .int .i64 il, .int .i64 is, .int .i64 iw, .slice AI LI.length ci, .int .i64 dl, .int .i64 ds, .int .i64 dw, .slice AD LD.length cd, .int .i64 ll, .int .i64 ls, .int .i64 lw, .slice AL LL.length cl, .int .i64 pt, .int .i64 ph, .int .i64 pr, .slice A cs.length ca, .int .u32 hist, .slice R rs.length ra, .slice N ns.length nc]) := Lib.hid (range_sub hx0 0 _ rfl)
  have hst := sim_true il is iw dl ds dw ll ls lw pt ph pr AI AD AL A R N ci cd cl ca ra nc vI vD vL LI LD LL cs rs hist ns W0 hs (hI.below hb0) (hD.below hb0) (hL.below hb0) (Rd.below hc hb0) (hn.below hb0) oI oD oL oP hh hnl oN
  have HST := Lib.hid hst
  have HX := Lib.hid hx0
  have HN := Lib.hid (hn.below hb0)
  have ON := Lib.hid oN
  clear hst hx0 hI hD hL hc hn oI oD oL oP oN
  have hx1 : W0.heap[w.heap.size + 1]? = some zeroCnt := by rw [← hW0]; exact alloc_at _ _ _ (by simp)
  have hs0 : W0.heap.size = w.heap.size + 2 := by rw [← hW0]; simp
  have HX1 := Lib.hid hx1
  clear hx1
  go_enter Try.func40, Try.ntmps40
  go_wp2_with (with_reducible refine wpList_load_mid rfl 67 (Operand.tmp 2) rfl w.heap.size 0 rfl [.int .i64 il, .int .i64 is, .int .i64 iw, .int .i64 dl, .int .i64 ds, .int .i64 dw, .int .i64 ll, .int .i64 ls, .int .i64 lw, .int .i64 pt, .int .i64 ph, .int .i64 pr, .int .i64 il, .int .i64 is, .int .i64 iw, .slice AI LI.length ci, .int .i64 dl, .int .i64 ds, .int .i64 dw, .slice AD LD.length cd, .int .i64 ll, .int .i64 ls, .int .i64 lw, .slice AL LL.length cl, .int .i64 pt, .int .i64 ph, .int .i64 pr, .slice A cs.length ca, .int .u32 hist, .slice R rs.length ra, .slice N ns.length nc] _ HR0.out Try.underlying67 rfl (by kernel_rfl) ?_)
  refine HST.out.mono ?_
  rintro e W1 ⟨rfl, hb⟩
  have hw1 := hb.size
  have y30 := boxAt (i := 30) (belowBox hb HX.out) rfl
  go_wp2_with fail
  refine (byPC_any N nc ns p _ (HN.out.below hb) (cntsOk_sorted ON.out) (by omega)).mono ?_
  rintro e W2 ⟨i, rfl, hF, hb2⟩
  have hw2 := hb2.size
  have hik : i = k := by
    rcases Nat.lt_trichotomy i k with h | h | h
    · have h1 := hF.hi i (Nat.le_refl _) (by omega)
      have h2 := cntsOk_sorted ON.out i k h hk
      omega
    · exact h
    · have := hF.lo k h; omega
  subst hik
  have hfb : foundB ns p i = true := by simp [foundB, hk, hp]
  rw [hfb]
  have hb02 : Below W0.heap.size W0 W2 := bvia hb hb2 (Nat.le_refl _)
  have z30 := boxAt (i := 30) (belowBox hb02 HX.out) rfl
  obtain ⟨ad, e0, x0, x1, x2, x3, x4, x5, x6, x7, x8, x9, x10, x11, x12, x13⟩ := (HN.out.below hb02).at14 i hk
  subst e0
  obtain ⟨c, hc⟩ : ∃ c, gn ns i = c := ⟨_, rfl⟩
  rw [hc] at x0 x1 x2 x3 x4 x5 x6 x7 x8 x9 x10 x11 x12 x13
  have HCE := Lib.hid hc
  have HZ := Lib.hid (belowBox hb02 HX1.out)
  have hbw := Lib.hid (bvia hb0 hb02 (Nat.le_refl _))
  clear hc y30 hF hfb hp
  go_wp2_with (refine wpList_store_row rfl 79 (Operand.tmp 4) (Operand.tmp 26) rfl (w.heap.size + 1) #[.int .u32 (gi c 0), .int .i64 (gi c 1), .int .i64 (gi c 2), .int .i64 (gi c 3), .int .i64 (gi c 4), .int .i64 (gi c 5), .int .i64 (gi c 6), .int .i64 (gi c 7), .int .i64 (gi c 8), .int .i64 (gi c 9), .int .i64 (gi c 10), .int .i64 (gi c 11), .int .i64 (gi c 12), .int .i64 (gi c 13)] rfl rfl 79 _ HZ.out (by kernel_rfl) rfl (by simp [Value.oneCell']) ?_)
  go_wp2
  (try simp only [Exit.inBlock, Exit.then])
  refine bodyPost_ret (v := .tuple #[.agg #[.int .u32 (gi c 0), .int .i64 (gi c 1), .int .i64 (gi c 2), .int .i64 (gi c 3), .int .i64 (gi c 4), .int .i64 (gi c 5), .int .i64 (gi c 6), .int .i64 (gi c 7), .int .i64 (gi c 8), .int .i64 (gi c 9), .int .i64 (gi c 10), .int .i64 (gi c 11), .int .i64 (gi c 12), .int .i64 (gi c 13)], .bool true]) (results_cell2 rfl rfl rfl (run_loadVar_row (P := Try.prog) _ _ 79 79 _ (0, 0) _ (setRow_heap HZ.out _) Try.underlying79 rfl (by kernel_rfl))) rfl ?_
  refine ⟨by rw [HCE.out]; rfl, hbw.out.trans ((Upd.setRow _ _ _).below (by have := hbw.out.size; omega) fun k hk => by omega)⟩
end Go.Proofs.Ytdkacdfhapgboaa

/- sim.Total of a valid simulation. (printed by gen/tot.py) -/
set_option linter.unusedVariables false
set_option linter.unusedSimpArgs false
namespace Go.Proofs.Ytdkacdfhapgboaa
open Go.RowKit

/-- The first i sums, behind one count more. -/
def addL (o x : List Int) (i : Nat) : List Int := (List.range 13).map fun j => if j < i then gi o j + gi x j else gi o j
theorem addL_len (o x : List Int) (i : Nat) : (addL o x i).length = 13 := by simp [addL]
theorem addL_gi (o x : List Int) (i j : Nat) (hj : j < 13) : gi (addL o x i) j = if j < i then gi o j + gi x j else gi o j := by
  rw [gi_get _ _ (by rw [addL_len]; exact hj)]
  simp [addL]
theorem addL_succ (o x : List Int) (i : Nat) (hi : i < 13) : addL o x (i + 1) = (addL o x i).set i (gi o i + gi x i) := by
  apply gi_ext
  · simp [addL_len]
  · intro j hj
    rw [addL_len] at hj
    rw [addL_gi _ _ _ _ hj, gi_get ((addL o x i).set i (gi o i + gi x i)) j (by simp [addL_len, hj]), List.getElem_set]
    by_cases e : i = j
    · subst e; simp
    · rw [if_neg e, ← gi_get _ j (by rw [addL_len]; exact hj), addL_gi _ _ _ _ hj]
      by_cases h : j < i
      · rw [if_pos h, if_pos (by omega)]
      · rw [if_neg h, if_neg (by omega)]
theorem addL_zero (o x : List Int) (ho : o.length = 13) : addL o x 0 = o := by
  apply gi_ext
  · rw [addL_len, ho]
  · intro j hj
    rw [addL_len] at hj
    rw [addL_gi _ _ _ _ hj, if_neg (Nat.not_lt_zero _)]
/-- The sums of the first k counts. -/
def totL (ns : List (List Int)) : Nat → List Int
  | 0 => List.replicate 13 0
  | k + 1 => addL (totL ns k) (cntX (gn ns k)) 13
theorem totL_len (ns : List (List Int)) (k : Nat) : (totL ns k).length = 13 := by
  cases k with
  | zero => rfl
  | succ k => exact addL_len _ _ _
theorem cntsOk_num {ns : List (List Int)} (h : cntsOk ns) (k : Nat) (hk : k < ns.length) (j : Nat) (hj : j < 13) : 0 ≤ gi (cntX (gn ns k)) j ∧ gi (cntX (gn ns k)) j ≤ 1099511627776 := by
  have h1 := (h k hk).2
  have h2 := List.any_eq_false.1 h1 (gi (cntX (gn ns k)) j) (gi_mem _ _ (by rw [cntX_len]; exact hj))
  simp [bigN] at h2
  omega
theorem totL_le {ns : List (List Int)} (h : cntsOk ns) (j : Nat) (hj : j < 13) : ∀ k, k ≤ ns.length → 0 ≤ gi (totL ns k) j ∧ gi (totL ns k) j ≤ (k : Int) * 1099511627776
  | 0, _ => by
    simp only [totL]
    rw [gi_get _ _ (by simp; exact hj), List.getElem_replicate]
    omega
  | k + 1, hk => by
    obtain ⟨h1, h2⟩ := totL_le h j hj k (by omega)
    obtain ⟨h3, h4⟩ := cntsOk_num h k (by omega) j hj
    simp only [totL]
    rw [addL_gi _ _ _ _ hj, if_pos hj]
    constructor
    · omega
    · rw [Int.natCast_succ, Int.add_mul]; omega
def totObj (o : List Int) : Obj := .cells (.int .u32 0 :: nums .i64 o).toArray 79
theorem totObj_at {W : World} {b : Nat} {o : List Int} (h : W.heap[b]? = some (totObj o)) (j : Nat) (hj : j < o.length) : W.cell? ⟨b, j + 1, none⟩ = some (.int .i64 (gi o j)) ∧ W.frozen? ⟨b, j + 1, none⟩ = false := by
  refine ⟨boxAt h ?_, boxFree h⟩
  rw [List.getElem?_toArray, List.getElem?_cons_succ, List.getElem?_eq_getElem (by simpa using hj), nums_get]
theorem totObj_set {W : World} {b : Nat} {o : List Int} (h : W.heap[b]? = some (totObj o)) (j : Nat) (hj : j < o.length) (x : Int) : (W.setCell ⟨b, j + 1, none⟩ (.int .i64 x)).heap[b]? = some (totObj (o.set j x)) := by
  rw [set1_heap h (j + 1) _]
  simp [totObj, nums, List.map_set]

theorem totOne (T : List Int) : ((Value.int .u32 0 :: nums .i64 T).toArray.all (·.oneCell')) = true := by
  simp [nums, Value.oneCell']
attribute [local irreducible] World.setCell in
set_option maxRecDepth 100000 in
set_option maxHeartbeats 1000000 in
theorem Total_ok (il is iw dl ds dw ll ls lw pt ph pr : Int) (AI AD AL A R N : Option Addr) (ci cd cl ca ra nc : Nat) (vI vD vL : List Value) (LI LD LL : List (List Int)) (cs rs : List Int) (hist : Int) (ns : List (List Int)) (w : World)
    (hs : simShapeB ⟨il, is, iw, dl, ds, dw, ll, ls, lw, pt, ph, pr⟩ = true) (hI : RdSets w AI vI LI) (hD : RdSets w AD vD LD) (hL : RdSets w AL vL LL) (hc : RdI w .i64 A cs.length cs) (hn : RdN w N ns)
    (oI : cacheOk il is iw LI) (oD : cacheOk dl ds dw LD) (oL : cacheOk ll ls lw LL) (oP : predOk pt ph pr cs hist rs) (hh : 0 ≤ hist ∧ hist < 4294967296) (hnl : ns.length ≤ 20000) (oN : cntsOk ns) :
    Calls Try.prog 32 #[.agg #[.int .i64 il, .int .i64 is, .int .i64 iw, .int .i64 dl, .int .i64 ds, .int .i64 dw, .int .i64 ll, .int .i64 ls, .int .i64 lw, .int .i64 pt, .int .i64 ph, .int .i64 pr, .int .i64 il, .int .i64 is, .int .i64 iw, .slice AI LI.length ci, .int .i64 dl, .int .i64 ds, .int .i64 dw, .slice AD LD.length cd, .int .i64 ll, .int .i64 ls, .int .i64 lw, .slice AL LL.length cl, .int .i64 pt, .int .i64 ph, .int .i64 pr, .slice A cs.length ca, .int .u32 hist, .slice R rs.length ra, .slice N ns.length nc]] w fun e w' => e = .returned (.tuple #[.agg (.int .u32 0 :: nums .i64 (totL ns ns.length)).toArray, .int .i64 0]) ∧ Below w.heap.size w w' := by
  obtain ⟨W0, hW0⟩ : ∃ W0, (w.alloc (.cells #[.int .i64 il, .int .i64 is, .int .i64 iw, .int .i64 dl, .int .i64 ds, .int .i64 dw, .int .i64 ll, .int .i64 ls, .int .i64 lw, .int .i64 pt, .int .i64 ph, .int .i64 pr, .int .i64 il, .int .i64 is, .int .i64 iw, .slice AI LI.length ci, .int .i64 dl, .int .i64 ds, .int .i64 dw, .slice AD LD.length cd, .int .i64 ll, .int .i64 ls, .int .i64 lw, .slice AL LL.length cl, .int .i64 pt, .int .i64 ph, .int .i64 pr, .slice A cs.length ca, .int .u32 hist, .slice R rs.length ra, .slice N ns.length nc] 67)).alloc zeroCnt = W0 := ⟨_, rfl⟩
  have hb0 : Below w.heap.size w W0 := by rw [← hW0]; exact ((Below.refl _ _).alloc (Nat.le_refl _) _).alloc (by simp) _
  have hx0 : W0.heap[w.heap.size]? = some (.cells #[.int .i64 il, .int .i64 is, .int .i64 iw, .int .i64 dl, .int .i64 ds, .int .i64 dw, .int .i64 ll, .int .i64 ls, .int .i64 lw, .int .i64 pt, .int .i64 ph, .int .i64 pr, .int .i64 il, .int .i64 is, .int .i64 iw, .slice AI LI.length ci, .int .i64 dl, .int .i64 ds, .int .i64 dw, .slice AD LD.length cd, .int .i64 ll, .int .i64 ls, .int .i64 lw, .slice AL LL.length cl, .int .i64 pt, .int .i64 ph, .int .i64 pr, .slice A cs.length ca, .int .u32 hist, .slice R rs.length ra, .slice N ns.length nc] 67 (0, 0)) := by rw [← hW0]; exact (heap_alloc_old _ _ (by simp)).trans (heap_alloc_new w _)
  have HR0 : Hid (W0.rangeAt w.heap.size 0 [.int .i64 il, .int .i64 is, .int .i64 iw, .int .i64 dl, .int .i64 ds, .int .i64 dw, .int .i64 ll, .int .i64 ls, .int .i64 lw, .int .i64 pt, .int .i64 ph, .int .i64 pr, .int .i64 il, .int .i64 is, .int .i64 iw, .slice AI LI.length ci, .int .i64 dl, .int .i64 ds, .int .i64 dw, .slice AD LD.length cd, .int .i64 ll, .int .i64 ls, .int .i64 lw, .slice AL LL.length cl, .int .i64 pt, .int .i64 ph, .int .i64 pr, .slice A cs.length ca, .int .u32 hist, .slice R rs.length ra, .slice N ns.length nc]) := Lib.hid (range_sub hx0 0 _ rfl)
  have hst := sim_true il is iw dl ds dw ll ls lw pt ph pr AI AD AL A R N ci cd cl ca ra nc vI vD vL LI LD LL cs rs hist ns W0 hs (hI.below hb0) (hD.below hb0) (hL.below hb0) (Rd.below hc hb0) (hn.below hb0) oI oD oL oP hh hnl oN
  have HST := Lib.hid hst
  have HX := Lib.hid hx0
  have HN := Lib.hid (hn.below hb0)
  have ON := Lib.hid oN
  clear hst hx0 hI hD hL hc hn oI oD oL oP oN
  have hx1 : W0.heap[w.heap.size + 1]? = some zeroCnt := by rw [← hW0]; exact alloc_at _ _ _ (by simp)
  have hs0 : W0.heap.size = w.heap.size + 2 := by rw [← hW0]; simp
  have HX1 := Lib.hid hx1
  clear hx1
  go_enter Try.func32, Try.ntmps32
  go_wp2_with (with_reducible refine wpList_load_mid rfl 67 (Operand.tmp 1) rfl w.heap.size 0 rfl [.int .i64 il, .int .i64 is, .int .i64 iw, .int .i64 dl, .int .i64 ds, .int .i64 dw, .int .i64 ll, .int .i64 ls, .int .i64 lw, .int .i64 pt, .int .i64 ph, .int .i64 pr, .int .i64 il, .int .i64 is, .int .i64 iw, .slice AI LI.length ci, .int .i64 dl, .int .i64 ds, .int .i64 dw, .slice AD LD.length cd, .int .i64 ll, .int .i64 ls, .int .i64 lw, .slice AL LL.length cl, .int .i64 pt, .int .i64 ph, .int .i64 pr, .slice A cs.length ca, .int .u32 hist, .slice R rs.length ra, .slice N ns.length nc] _ HR0.out Try.underlying67 rfl (by kernel_rfl) ?_)
  refine HST.out.mono ?_
  rintro e W1 ⟨rfl, hb⟩
  have hw1 := hb.size
  obtain ⟨W2, hW2⟩ : ∃ W2, W1.alloc zeroCnt = W2 := ⟨_, rfl⟩
  have hb2 : Below W1.heap.size W1 W2 := by rw [← hW2]; exact balloc _ _
  have ho2 : W2.heap[W1.heap.size]? = some (totObj (totL ns 0)) := by rw [← hW2]; exact heap_alloc_new _ _
  have hs2 : W2.heap.size = W1.heap.size + 1 := by rw [← hW2]; simp
  go_wp2_with fail
  refine (numbers_any W1.heap.size 0 _).mono ?_
  rintro e W3 ⟨rfl, hr3, hs3, hb3⟩
  have y30 := boxAt (i := 30) (belowBox hb3 (belowBox hb2 (belowBox hb HX.out))) rfl
  have ho3 := belowBox hb3 ho2
  rw [hs2] at hr3
  have HR3 := Lib.hid hr3
  have HO3 := Lib.hid ho3
  have HN3 := Lib.hid (((HN.out.below hb).below hb2).below hb3)
  have HB3 := Lib.hid (bvia hb0 (bvia (bvia hb hb2 (Nat.le_refl _)) hb3 (Nat.le_refl _)) (Nat.le_refl _))
  have HB03 := Lib.hid (bvia (bvia hb hb2 (Nat.le_refl _)) hb3 (Nat.le_refl _))
  have hs13 : W1.heap.size + 2 = W3.heap.size := by omega
  have HZ3 := Lib.hid (belowBox hb3 (belowBox hb2 (belowBox hb HX1.out)))
  clear hr3 ho3 ho2 hb2 hb3 hb
  go_wp2_with fail
  go_loopw [18] (fun i wr => ∃ k : Nat, k ≤ ns.length ∧ i = .int .i64 k ∧ Hid (wr.heap[W1.heap.size]? = some (totObj (totL ns k)) ∧ Upd (fun b => b = W1.heap.size) W3 wr)) (fun i _ => ns.length - (intOf i).toNat)
  case atStart => exact ⟨0, Nat.zero_le _, rfl, Lib.hid ⟨HO3.out, Upd.refl _ _⟩⟩
  case round =>
    obtain ⟨k, hk, rfl, hI⟩ := hrel
    by_cases hlt : k < ns.length
    · obtain ⟨wo, rfl⟩ : ∃ wo, wo = wr := ⟨wr, rfl⟩
      have h0r : Below W0.heap.size W0 wo := HB03.out.trans (hI.out.2.below (by omega) fun b hb => by omega)
      obtain ⟨c, hc⟩ : ∃ c, gn ns k = c := ⟨_, rfl⟩
      obtain ⟨ad, e0, x0, x1, x2, x3, x4, x5, x6, x7, x8, x9, x10, x11, x12, x13⟩ := (HN.out.below h0r).at14 k hlt
      subst e0
      rw [hc] at x0 x1 x2 x3 x4 x5 x6 x7 x8 x9 x10 x11 x12 x13
      have hsr := hI.out.2.size
      obtain ⟨W5, hW5⟩ : ∃ W5, wo.alloc (cntObj c) = W5 := ⟨_, rfl⟩
      have h5 : W5.heap[wo.heap.size]? = some (cntObj c) := by rw [← hW5]; exact heap_alloc_new wo _
      have hb5 : Below wo.heap.size wo W5 := by rw [← hW5]; exact balloc wo _
      have HS5 : Hid (W5.heap.size = wo.heap.size + 1) := Lib.hid (by rw [← hW5]; simp)
      have H5 := Lib.hid h5
      have HB5 := Lib.hid hb5
      have HCE := Lib.hid hc
      clear h5 hb5 hc h0r
      go_wp2_with fail
      refine (numbers_any wo.heap.size 0 W5).mono ?_
      rintro e W6 ⟨rfl, hr6, hs6, hb6⟩
      have hn6 := Lib.hid (numRd_new H5.out hr6 hb6)
      have ho6 := Lib.hid (belowBox hb6 (belowBox HB5.out hI.out.1))
      have HSR := Lib.hid (belowBox hb6 (belowBox HB5.out ((hI.out.2.block (W1.heap.size + 1) (by omega) (by omega)).trans HR3.out)))
      have HB6 := Lib.hid (bvia HB5.out hb6 (Nat.le_refl _))
      have HK := Lib.hid (totL_le ON.out)
      have HX2 := Lib.hid (cntsOk_num ON.out k hlt)
      rw [HCE.out] at HX2
      clear hr6 hb6 x0 x1 x2 x3 x4 x5 x6 x7 x8 x9 x10 x11 x12 x13
      go_wp2_with fail
      go_loopw [24] (fun i wr => ∃ n : Nat, n ≤ 13 ∧ i = .int .i64 n ∧ Hid (wr.heap[W1.heap.size]? = some (totObj (addL (totL ns k) (cntX c) n)) ∧ Upd (fun b => b = W1.heap.size) W6 wr)) (fun i _ => 13 - (intOf i).toNat)
      case atStart => exact ⟨0, Nat.zero_le _, rfl, Lib.hid ⟨by rw [addL_zero _ _ (totL_len ns k)]; exact ho6.out, Upd.refl _ _⟩⟩
      case round =>
        obtain ⟨n, hn, rfl, hJ⟩ := hrel
        by_cases hl2 : n < 13
        · obtain ⟨z1, z2⟩ := totObj_at hJ.out.1 n (by rw [addL_len]; exact hl2)
          rw [addL_gi _ _ _ _ hl2, if_neg (Nat.lt_irrefl n)] at z1
          have hsq := hJ.out.2.size
          have z3 : wr.cell? ⟨W5.heap.size, n, none⟩ = some (.pointer (some ⟨wo.heap.size, n + 1, none⟩)) := by
            have h := cell_upd hJ.out.2 (hn6.out.ptr n hl2) (by have := HS5.out; omega)
            rw [Nat.zero_add] at h
            exact h
          have z4 : wr.cell? ⟨wo.heap.size, n + 1, none⟩ = some (.int .i64 (gi (cntX c) n)) := by
            have h := cell_upd hJ.out.2 (hn6.out.cell n hl2) (by omega)
            rw [Nat.zero_add] at h
            exact h
          have z5 : wr.cell? ⟨W1.heap.size + 1, n, none⟩ = some (.pointer (some ⟨W1.heap.size, n + 1, none⟩)) := by
            have h0 : W6.cell? ⟨W1.heap.size + 1, n, none⟩ = some (.pointer (some ⟨W1.heap.size, 0 + (n + 1), none⟩)) := boxAt HSR.out (by simp [ptrs, hl2])
            have h := cell_upd hJ.out.2 h0 (by omega)
            rw [Nat.zero_add] at h
            exact h
          obtain ⟨t1, t2⟩ := HK.out n hl2 k hk
          obtain ⟨t3, t4⟩ := HX2.out n hl2
          have HST2 := Lib.hid (show ∀ W', Upd (fun b => b = W1.heap.size) wr W' → W'.heap[W1.heap.size]? = some (totObj (addL (totL ns k) (cntX c) n)) → (W'.setCell ⟨W1.heap.size, n + 1, none⟩ (.int .i64 (gi (totL ns k) n + gi (cntX c) n))).heap[W1.heap.size]? = some (totObj (addL (totL ns k) (cntX c) (n + 1))) ∧ Upd (fun b => b = W1.heap.size) W6 (W'.setCell ⟨W1.heap.size, n + 1, none⟩ (.int .i64 (gi (totL ns k) n + gi (cntX c) n))) from fun W' hu hh' => ⟨by
            have := totObj_set hh' n (by rw [addL_len]; exact hl2) (gi (totL ns k) n + gi (cntX c) n)
            rw [← addL_succ _ _ _ hl2] at this
            exact this, (hJ.out.2.trans hu fun _ h => .inl h).set rfl _ _⟩)
          obtain ⟨s, hs⟩ : ∃ s, gi (totL ns k) n = s := ⟨_, rfl⟩
          obtain ⟨x, hx⟩ : ∃ x, gi (cntX c) n = x := ⟨_, rfl⟩
          rw [hs] at z1 t1 t2 HST2
          rw [hx] at z4 t3 t4 HST2
          have hsum : IntKind.i64.wrap (s + x) = s + x := by
            have : (k : Int) * 1099511627776 ≤ 20000 * 1099511627776 := Int.mul_le_mul_of_nonneg_right (by omega) (by omega)
            rw [IntKind.wrap_i64]; omega
          obtain ⟨V, hV⟩ : ∃ V, wr.drew = V := ⟨_, rfl⟩
          have hVu : Upd (fun b => b = W1.heap.size) wr V := by rw [← hV]; exact Upd.drew _ _
          have hVh : V.heap[W1.heap.size]? = some (totObj (addL (totL ns k) (cntX c) n)) := by rw [← hV]; exact hJ.out.1
          have v1 : V.cell? ⟨W1.heap.size, n + 1, none⟩ = some (.int .i64 s) := by rw [← hV]; exact z1
          have v2 : V.frozen? ⟨W1.heap.size, n + 1, none⟩ = false := by rw [← hV]; exact z2
          have v4 : V.cell? ⟨wo.heap.size, n + 1, none⟩ = some (.int .i64 x) := by rw [← hV]; exact z4
          have v5 : V.cell? ⟨W1.heap.size + 1, n, none⟩ = some (.pointer (some ⟨W1.heap.size, n + 1, none⟩)) := by rw [← hV]; exact z5
          have k1 := Just.cell v1
          have k4 := Just.cell v4
          have k5 := Just.cell v5
          have HN := Lib.hid (HST2.out V hVu hVh)
          clear t1 t2 t3 t4 hVu hVh HST2 hs hx
          go_wp2_with fail
          refine region_tail 11 hV (by kernel_rfl) (by kernel_rfl) ?_
          simp only [List.take_succ_cons, List.take_zero, List.drop_succ_cons, List.drop_zero]
          repeat (go_big_quiet_step (fail))
          refine wpQuiet_nil ?_
          go_wp2_with fail
          go_roundw
          case rel => exact ⟨n + 1, by omega, by go_num, HN⟩
          case measure => simp [intOf]; omega
        · obtain rfl : n = 13 := by omega
          go_wp2_with fail
          go_roundw
          case rel =>
            refine ⟨k + 1, by omega, by go_num, Lib.hid ⟨?_, ?_⟩⟩
            · simp only [totL]; rw [HCE.out]; exact hJ.out.1
            · exact (hI.out.2.trans ((Upd.of_below HB6.out).mono (G := fun b => b = W1.heap.size ∨ wo.heap.size ≤ b) fun _ h => .inr h) fun _ h => h.imp id fun h => by omega).trans hJ.out.2 fun _ h => .inl h
          case measure => simp [intOf]; omega
    · obtain rfl : k = ns.length := by omega
      have hu := hI.out.2
      have HZ := Lib.hid ((hu.block (w.heap.size + 1) (by omega) (by omega)).trans HZ3.out)
      have HO := Lib.hid hI.out.1
      have HT := Lib.hid (totL_len ns ns.length)
      have HBW := Lib.hid (HB3.out.trans (hu.below (by omega) fun b hb => by omega))
      obtain ⟨T, hT⟩ : ∃ T, totL ns ns.length = T := ⟨_, rfl⟩
      rw [hT] at HO HT
      have HTE := Lib.hid hT
      have HRG := Lib.hid (range_sub HO.out 0 (.int .u32 0 :: nums .i64 T) (by simp; exact List.take_of_length_le (by simp)))
      clear hu hI hT
      go_wp2_with (first | (with_reducible refine wpList_load_mid rfl 79 (Operand.tmp 4) rfl W1.heap.size 0 rfl (.int .u32 0 :: nums .i64 T) _ HRG.out Try.underlying79 rfl (by rw [List.length_cons, nums_length, HT.out]; kernel_rfl) ?_) | (refine wpList_store_row rfl 79 (Operand.tmp 2) (Operand.tmp 42) rfl (w.heap.size + 1) (.int .u32 0 :: nums .i64 T).toArray rfl rfl 79 _ HZ.out (by simp only [List.size_toArray, List.length_cons, nums_length, HT.out]; kernel_rfl) (by simp [HT.out]) (totOne T) ?_))
      go_wp2
      (try simp only [Exit.inBlock, Exit.then])
      refine bodyPost_ret (v := .tuple #[.agg (.int .u32 0 :: nums .i64 T).toArray, .int .i64 0]) (results_cell2 rfl rfl rfl (run_loadVar_row (P := Try.prog) _ _ 79 79 _ (0, 0) _ (setRow_heap HZ.out _) Try.underlying79 rfl (by simp only [List.size_toArray, List.length_cons, nums_length, HT.out]; kernel_rfl))) rfl ?_
      exact ⟨by rw [HTE.out], HBW.out.trans ((Upd.setRow _ _ _).below (by have := HBW.out.size; omega) fun k hk => by omega)⟩
end Go.Proofs.Ytdkacdfhapgboaa

/- Small functions of the statements: shaped, replayed. -/
set_option linter.unusedVariables false
set_option linter.unusedSimpArgs false
namespace Go.Proofs.Ytdkacdfhapgboaa
open Go.RowKit

def lineOf (x : Int) : Int := 4 * 2 ^ (x % 7).toNat
def setsOf (x : Int) : Nat := 2 ^ (x % 7).toNat
def waysOf (x : Int) : Int := 1 + x % 16
theorem mod7 (x : Int) : x % 7 = 0 ∨ x % 7 = 1 ∨ x % 7 = 2 ∨ x % 7 = 3 ∨ x % 7 = 4 ∨ x % 7 = 5 ∨ x % 7 = 6 := by omega
theorem power_line (x : Int) : powerB (lineOf x) 4 256 = true := by
  unfold lineOf
  rcases mod7 x with h | h | h | h | h | h | h <;> rw [h] <;> kernel_rfl
theorem power_sets (x : Int) : powerB (setsOf x) 1 1024 = true := by
  unfold setsOf
  rcases mod7 x with h | h | h | h | h | h | h <;> rw [h] <;> kernel_rfl
theorem shape_of (a b c : Int) : shapeB (lineOf a) (setsOf b) (waysOf c) = true := by
  have h1 : decide (1 ≤ waysOf c) = true := decide_eq_true (by unfold waysOf; omega)
  have h2 : decide (waysOf c ≤ 16) = true := decide_eq_true (by unfold waysOf; omega)
  simp only [shapeB, power_line, power_sets, h1, h2, Bool.and_self]
theorem lineOf_dvd (x : Int) : 4294967296 % lineOf x = 0 ∧ 4 ≤ lineOf x ∧ lineOf x ≤ 256 := by
  unfold lineOf
  rcases mod7 x with h | h | h | h | h | h | h <;> rw [h] <;> decide
theorem setsOf_le (x : Int) : 1 ≤ setsOf x ∧ setsOf x ≤ 64 := by
  unfold setsOf
  rcases mod7 x with h | h | h | h | h | h | h <;> rw [h] <;> decide

set_option maxRecDepth 100000 in
set_option maxHeartbeats 4000000 in
theorem shaped_any (a b c : Int) (ha : 0 ≤ a ∧ a < 256) (hb : 0 ≤ b ∧ b < 256) (hc : 0 ≤ c ∧ c < 256) (w : World) :
    Calls Try.prog 13 #[.int .u8 a, .int .u8 b, .int .u8 c] w fun e w' => e = .returned (.agg #[.int .i64 (lineOf a), .int .i64 (setsOf b : Int), .int .i64 (waysOf c)]) ∧ Below w.heap.size w w' := by
  obtain ⟨a1, a2⟩ := ha
  obtain ⟨b1, b2⟩ := hb
  obtain ⟨c1, c2⟩ := hc
  unfold lineOf setsOf waysOf
  obtain ⟨z, hz⟩ : ∃ z, c % 16 = z := ⟨_, rfl⟩
  have hz1 : c.tmod 16 = z := by rw [Int.tmod_eq_emod_of_nonneg c1, hz]
  have hz2 : 0 ≤ z ∧ z < 16 := by omega
  obtain ⟨z1, z2⟩ := hz2
  rcases mod7 a with h | h | h | h | h | h | h <;> rcases mod7 b with g | g | g | g | g | g | g
  all_goals
    have h' := Int.tmod_eq_emod_of_nonneg a1 (b := 7)
    rw [h] at h'
    have g' := Int.tmod_eq_emod_of_nonneg b1 (b := 7)
    rw [g] at g'
    rw [h, g, hz]
    clear h g hz
    go_enter Try.func13, Try.ntmps13
    go_wp2
    (try simp only [Exit.inBlock, Exit.then])
    refine bodyPost_ret (results_cell1 rfl rfl (run_loadVar_row (P := Try.prog) _ _ 25 25 _ (0, 0) _ (heap_alloc_new w _) Try.underlying25 rfl (by kernel_rfl))) rfl ?_
    exact ⟨rfl, balloc w _⟩

theorem replayL_len (line sets ways : Int) : ∀ (l : List Int) (L : List (List Int)), (replayL line sets ways L l).2.length = l.length
  | [], L => rfl
  | x :: xs, L => by simp only [replayL, List.length_cons, replayL_len line sets ways xs]
set_option maxRecDepth 100000 in
set_option maxHeartbeats 1000000 in
theorem replayed_any (line ways : Int) (n : Nat) (A : Option Addr) (ca : Nat) (l : List Int) (w : World) (hs : shapeB line n ways = true) (hl : RdI w .u32 A l.length l) (hl2 : l.length ≤ 1000) (hu : ∀ x ∈ l, 0 ≤ x ∧ x < 4294967296) :
    Calls Try.prog 14 #[.agg #[.int .i64 line, .int .i64 (n : Int), .int .i64 ways], .slice A l.length ca] w fun e w' => ∃ v, e = .returned (.tuple #[v, .bool true]) ∧
      w'.ownsRow w.heap.size 4 1 v l.length (bools (replayL line n ways (List.replicate n []) l).2) ∧ Below w.heap.size w w' := by
  obtain ⟨W0, hW0⟩ : ∃ W0, w.alloc (.cells #[.int .i64 line, .int .i64 (n : Int), .int .i64 ways] 25) = W0 := ⟨_, rfl⟩
  have hb0 : Below w.heap.size w W0 := by rw [← hW0]; exact balloc w _
  have hx0 : W0.heap[w.heap.size]? = some (.cells #[.int .i64 line, .int .i64 (n : Int), .int .i64 ways] 25 (0, 0)) := by rw [← hW0]; exact heap_alloc_new w _
  have hs0 : W0.heap.size = w.heap.size + 1 := by rw [← hW0]; simp
  have c0 : W0.cell? ⟨w.heap.size, 0, none⟩ = some (.int .i64 line) := by simp [World.cell?, hx0]
  have c1 : W0.cell? ⟨w.heap.size, 1, none⟩ = some (.int .i64 (n : Int)) := by simp [World.cell?, hx0]
  have c2 : W0.cell? ⟨w.heap.size, 2, none⟩ = some (.int .i64 ways) := by simp [World.cell?, hx0]
  have HL := Lib.hid (Rd.below hl hb0)
  have HU := Lib.hid hu
  have HS := Lib.hid hs
  clear hl hu hs hx0
  go_enter Try.func14, Try.ntmps14
  go_wp2_with fail
  refine (replay_ok line ways n A ca l _ HS.out HL.out hl2 HU.out).mono ?_
  rintro e W1 ⟨v, rfl, ho, hb⟩
  obtain ⟨Av, cv, rfl, _⟩ := own_rd ho
  have HO := Lib.hid ho
  clear ho
  go_wp2
  go_ret2
  exact ⟨_, rfl, own_base' HO.out fun k hk => by have := (HO.out.lt k hk).1; omega, bvia hb0 hb (Nat.le_refl _)⟩
end Go.Proofs.Ytdkacdfhapgboaa

/- A valid cache stays valid. No program in sight. -/
set_option linter.unusedVariables false
set_option linter.unusedSimpArgs false
namespace Go.Proofs.Ytdkacdfhapgboaa

theorem nodup_take (l : List Int) : (∀ j, j < l.length → gi l j ∉ l.take j) ↔ l.Nodup := by
  unfold List.Nodup
  rw [List.pairwise_iff_getElem]
  constructor
  · intro h i j hi hj hij e
    refine h j hj ?_
    rw [gi_get l j hj, List.mem_take_iff_getElem]
    exact ⟨i, by omega, e⟩
  · intro h j hj hm
    rw [gi_get l j hj, List.mem_take_iff_getElem] at hm
    obtain ⟨i, hi, e⟩ := hm
    exact h i j (by omega) hj (by omega) e
theorem setOk_iff (line sets ways : Int) (l : List Int) (i : Nat) : setOk line sets ways l i ↔ (l.length : Int) ≤ ways ∧ l.Nodup ∧ ∀ x ∈ l, x < 4294967296 / line ∧ x % sets = (i : Int) := by
  rw [← nodup_take]
  unfold setOk lineOk
  constructor
  · rintro ⟨h1, h2⟩
    refine ⟨h1, fun j hj => (h2 j hj).2.2, fun x hx => ?_⟩
    obtain ⟨j, hj, e⟩ := List.getElem_of_mem hx
    have := h2 j hj
    rw [gi_get l j hj, e] at this
    exact ⟨this.1, this.2.1⟩
  · rintro ⟨h1, h2, h3⟩
    exact ⟨h1, fun j hj => ⟨(h3 _ (gi_mem l j hj)).1, (h3 _ (gi_mem l j hj)).2, h2 j hj⟩⟩
theorem setNo_eq (sets x : Int) (h1 : 1 ≤ sets) : (setNo sets x : Int) = x % sets := by
  unfold setNo
  exact Int.toNat_of_nonneg (Int.emod_nonneg _ (by omega))
/-- One line more. -/
theorem cacheOk_touch {line sets ways : Int} {L : List (List Int)} (h : cacheOk line sets ways L) (x : Int) (hx : x < 4294967296 / line) : cacheOk line sets ways (touchL sets ways L x) := by
  obtain ⟨h1, h2, h3⟩ := h
  obtain ⟨_, _, s1, _, w1, _⟩ := shapeB_line h1
  refine ⟨h1, by rw [touchL_length]; exact h2, fun i hi => ?_⟩
  rw [touchL_length] at hi
  by_cases e : setNo sets x = i
  · subst e
    rw [gl_touch_same _ _ _ _ hi, setOk_iff]
    have h4 := (setOk_iff _ _ _ _ _).1 (h3 _ hi)
    refine ⟨?_, (frontL_nodup h4.2.1 x).sublist (List.take_sublist _ _), fun y hy => ?_⟩
    · rw [List.length_take]; omega
    · rcases (mem_frontL h4.2.1 x y).1 (List.mem_of_mem_take hy) with rfl | hy
      · exact ⟨hx, (setNo_eq sets y s1).symm⟩
      · exact h4.2.2 y hy
  · rw [gl_touch_other _ _ _ _ _ e]
    exact h3 i hi
theorem cacheOk_run {line sets ways : Int} : ∀ (xs : List Int) {L : List (List Int)}, cacheOk line sets ways L → (∀ x ∈ xs, x < 4294967296 / line) → cacheOk line sets ways (runL sets ways L xs).1
  | [], L, h, _ => h
  | x :: xs, L, h, hx => cacheOk_run xs (cacheOk_touch h x (hx x (by simp))) fun y hy => hx y (by simp [hy])
theorem linI_lt (line at_ cnt : Int) (h1 : 1 ≤ line) (h2 : line ≤ 4294967296) : ∀ x ∈ linI line at_ cnt, 0 ≤ x ∧ x < 4294967296 / line := by
  intro x hx
  unfold linI at hx
  obtain ⟨j, _, rfl⟩ := List.mem_map.1 hx
  have hq : 1 ≤ 4294967296 / line := by rw [Int.le_ediv_iff_mul_le (by omega)]; omega
  exact ⟨Int.emod_nonneg _ (by omega), Int.emod_lt_of_pos _ (by omega)⟩
theorem cacheOk_new {line ways : Int} {n : Nat} (h : shapeB line n ways = true) : cacheOk line n ways (List.replicate n []) := by
  obtain ⟨_, _, _, _, w1, _⟩ := shapeB_line h
  refine ⟨h, by simp, fun i hi => ?_⟩
  have e : gl (List.replicate n []) i = [] := by
    rw [List.length_replicate] at hi
    simp [gl, List.getD_eq_getElem?_getD, List.getElem?_replicate, hi]
  rw [e]
  exact ⟨by simp; omega, fun j hj => absurd hj (Nat.not_lt_zero _)⟩
/-- All lines are numbers from 0 to 2^32. -/
def AllU (L : List (List Int)) : Prop := ∀ i, i < L.length → ∀ x ∈ gl L i, 0 ≤ x ∧ x < 4294967296
theorem allU_touch {sets ways : Int} {L : List (List Int)} (h : AllU L) (x : Int) (hx : 0 ≤ x ∧ x < 4294967296) : AllU (touchL sets ways L x) := by
  intro i hi y hy
  rw [touchL_length] at hi
  by_cases e : setNo sets x = i
  · subst e
    rw [gl_touch_same _ _ _ _ hi] at hy
    have hy := List.mem_of_mem_take hy
    unfold frontL at hy
    rcases List.mem_cons.1 hy with rfl | hy
    · exact hx
    · exact h _ hi y (List.mem_of_mem_erase hy)
  · rw [gl_touch_other _ _ _ _ _ e] at hy
    exact h i hi y hy
theorem allU_run {sets ways : Int} : ∀ (xs : List Int) {L : List (List Int)}, AllU L → (∀ x ∈ xs, 0 ≤ x ∧ x < 4294967296) → AllU (runL sets ways L xs).1
  | [], L, h, _ => h
  | x :: xs, L, h, hx => allU_run xs (allU_touch h x (hx x (by simp))) fun y hy => hx y (by simp [hy])
theorem allU_new (n : Nat) : AllU (List.replicate n []) := by
  intro i hi x hx
  rw [List.length_replicate] at hi
  simp [gl, List.getD_eq_getElem?_getD, List.getElem?_replicate, hi] at hx
/-- What a call owns can be read. -/
theorem OwnSets.rdSets {w : World} {B g c : Nat} {vs : List Value} {L : List (List Int)} (h : OwnSets w B g c vs L) (hu : AllU L) : RdSets w (some ⟨g, 0, none⟩) vs L := by
  obtain ⟨A, cc, e, hr⟩ := own_rd h.row
  cases e
  refine ⟨hr, fun i hi => ⟨?_, hu i hi⟩⟩
  obtain ⟨A2, c2, e2, hr2⟩ := own_rd (h.each i hi)
  refine ⟨A2, c2, e2, ?_, ?_, hr2⟩
  · rintro rfl
    rcases (h.each i hi).2 with ⟨e3, _⟩ | ⟨g', cap, cur, e3, _⟩
    · rw [e3] at e2; simp only [Value.slice.injEq] at e2; exact e2.2.2.symm
    · rw [e3] at e2; simp at e2
  · rcases (h.each i hi).2 with ⟨e3, e4⟩ | ⟨g', cap, cur, e3, hb, hh, h5, _⟩
    · rw [e3] at e2; simp only [Value.slice.injEq] at e2; omega
    · rw [e3] at e2; simp only [Value.slice.injEq] at e2; omega
end Go.Proofs.Ytdkacdfhapgboaa

/- sane's simulation: New, Feed, Total, Of, Check at the chapter's example. (printed by gen/san.py) -/
set_option linter.unusedVariables false
set_option linter.unusedSimpArgs false
namespace Go.Proofs.Ytdkacdfhapgboaa
open Go.RowKit

def evS : List (List Int) := [[1, 0, 0, 0, 0, 4], [2, 0, 0, 64, 0, 4], [1, 0, 0, 0, 0, 4], [2, 0, 0, 64, 0, 4]]
def cntS : List Int := [0, 2, 1, 1, 2, 1, 1, 0, 0, 0, 0, 0, 0, 0]
theorem run_evS : FS.run 16 2 16 2 16 2 ⟨[[], []], [[], []], [[], []], 0 :: List.replicate 13 0⟩ evS = ⟨[[0], []], [[4], []], [[4, 0], []], cntS⟩ := by kernel_rfl
theorem shapeS : simShapeB ⟨16, 2, 2, 16, 2, 2, 16, 2, 2, 0, 0, 0⟩ = true := by kernel_rfl
theorem cacheI : cacheOk 16 2 2 [[0], []] := of_decide_eq_true (by kernel_rfl)
theorem cacheD : cacheOk 16 2 2 [[4], []] := of_decide_eq_true (by kernel_rfl)
theorem cacheL : cacheOk 16 2 2 [[4, 0], []] := of_decide_eq_true (by kernel_rfl)
theorem cacheE : cacheOk 16 2 2 [[], []] := of_decide_eq_true (by kernel_rfl)
theorem predS : predOk 0 0 0 [1] 0 [] := of_decide_eq_true (by kernel_rfl)
theorem cntsS : cntsOk [cntS] := by
  intro k hk
  obtain rfl : k = 0 := by simpa using hk
  exact ⟨fun h => absurd h (Nat.lt_irrefl _), by kernel_rfl⟩
instance (L : List (List Int)) : Decidable (AllU L) := by unfold AllU; infer_instance

structure NewS (w : World) (gi gd gl gp : Nat) : Prop where
  i : RdSets w (some ⟨gi, 0, none⟩) [.slice none 0 0, .slice none 0 0] [[], []]
  d : RdSets w (some ⟨gd, 0, none⟩) [.slice none 0 0, .slice none 0 0] [[], []]
  l : RdSets w (some ⟨gl, 0, none⟩) [.slice none 0 0, .slice none 0 0] [[], []]
  p : RdP w (some ⟨gp, 0, none⟩) 1 [1] none 0 []
theorem NewS.below {w W : World} {gi gd gl gp : Nat} (h : NewS w gi gd gl gp) (hb : Below w.heap.size w W) : NewS W gi gd gl gp := ⟨h.i.below hb, h.d.below hb, h.l.below hb, h.p.below hb⟩
theorem rdI_nil (w : World) (k : IntKind) : RdI w k none 0 [] := ⟨by simp, by omega, fun j hj => absurd hj (by simp)⟩
theorem new_s (w : World) : Calls Try.prog 31 #[.agg #[.int .i64 16, .int .i64 2, .int .i64 2, .int .i64 16, .int .i64 2, .int .i64 2, .int .i64 16, .int .i64 2, .int .i64 2, .int .i64 0, .int .i64 0, .int .i64 0]] w fun e w' => ∃ gi gd gl gp, e = .returned (.tuple #[.agg #[.int .i64 16, .int .i64 2, .int .i64 2, .int .i64 16, .int .i64 2, .int .i64 2, .int .i64 16, .int .i64 2, .int .i64 2, .int .i64 0, .int .i64 0, .int .i64 0, .int .i64 16, .int .i64 2, .int .i64 2, .slice (some ⟨gi, 0, none⟩) 2 2, .int .i64 16, .int .i64 2, .int .i64 2, .slice (some ⟨gd, 0, none⟩) 2 2, .int .i64 16, .int .i64 2, .int .i64 2, .slice (some ⟨gl, 0, none⟩) 2 2, .int .i64 0, .int .i64 0, .int .i64 0, .slice (some ⟨gp, 0, none⟩) 1 1, .int .u32 0, .slice none 0 0, .slice none 0 0], .int .i64 0]) ∧ NewS w' gi gd gl gp ∧ Below w.heap.size w w' := by
  refine (New_ok 16 2 16 2 16 2 0 0 2 2 2 0 w shapeS).mono ?_
  rintro e w' ⟨gi, gd, gl, gp, rfl, h1, h2, h3, h4, hb⟩
  refine ⟨gi, gd, gl, gp, rfl, ⟨h1.rdSets (allU_new 2), h2.rdSets (allU_new 2), h3.rdSets (allU_new 2), ?_⟩, hb⟩
  obtain ⟨A, c, e, hr⟩ := own_rd h4
  cases e
  exact ⟨hr, fun h => (by cases h), Nat.le_refl _, rdI_nil _ _, fun _ => rfl, Nat.le_refl _⟩

structure FedS (w : World) (gI gD gL gP cP rc g : Nat) (R : Option Addr) (vI vD vL : List Value) : Prop where
  i : RdSets w (some ⟨gI, 0, none⟩) vI [[0], []]
  d : RdSets w (some ⟨gD, 0, none⟩) vD [[4], []]
  l : RdSets w (some ⟨gL, 0, none⟩) vL [[4, 0], []]
  p : RdP w (some ⟨gP, 0, none⟩) cP [1] R rc []
  n : RdN w (some ⟨g, 0, none⟩) [cntS]
theorem FedS.below {w W : World} {gI gD gL gP cP rc g : Nat} {R : Option Addr} {vI vD vL : List Value} (h : FedS w gI gD gL gP cP rc g R vI vD vL) (hb : Below w.heap.size w W) : FedS W gI gD gL gP cP rc g R vI vD vL := ⟨h.i.below hb, h.d.below hb, h.l.below hb, h.p.below hb, h.n.below hb⟩
theorem feed_s (gi gd gl gp ce : Nat) (AE : Option Addr) (w : World) (h : NewS w gi gd gl gp) (he : RdE w AE evS) :
    Calls Try.prog 28 #[.agg #[.int .i64 16, .int .i64 2, .int .i64 2, .int .i64 16, .int .i64 2, .int .i64 2, .int .i64 16, .int .i64 2, .int .i64 2, .int .i64 0, .int .i64 0, .int .i64 0, .int .i64 16, .int .i64 2, .int .i64 2, .slice (some ⟨gi, 0, none⟩) 2 2, .int .i64 16, .int .i64 2, .int .i64 2, .slice (some ⟨gd, 0, none⟩) 2 2, .int .i64 16, .int .i64 2, .int .i64 2, .slice (some ⟨gl, 0, none⟩) 2 2, .int .i64 0, .int .i64 0, .int .i64 0, .slice (some ⟨gp, 0, none⟩) 1 1, .int .u32 0, .slice none 0 0, .slice none 0 0], .slice AE 4 ce] w fun e w' => ∃ gI kI gD kD gL kL gP cP rc g cap R vI vD vL, e = .returned (.tuple #[.agg #[.int .i64 16, .int .i64 2, .int .i64 2, .int .i64 16, .int .i64 2, .int .i64 2, .int .i64 16, .int .i64 2, .int .i64 2, .int .i64 0, .int .i64 0, .int .i64 0, .int .i64 16, .int .i64 2, .int .i64 2, .slice (some ⟨gI, 0, none⟩) 2 kI, .int .i64 16, .int .i64 2, .int .i64 2, .slice (some ⟨gD, 0, none⟩) 2 kD, .int .i64 16, .int .i64 2, .int .i64 2, .slice (some ⟨gL, 0, none⟩) 2 kL, .int .i64 0, .int .i64 0, .int .i64 0, .slice (some ⟨gP, 0, none⟩) 1 cP, .int .u32 0, .slice R 0 rc, .slice (some ⟨g, 0, none⟩) 1 cap], .int .i64 0]) ∧ (∀ W', Upd (fun k => k < w.heap.size) w' W' → FedS W' gI gD gL gP cP rc g R vI vD vL) ∧ Below w.heap.size w w' := by
  refine (Feed_one 16 2 16 2 16 2 0 0 0 (some ⟨gi, 0, none⟩) (some ⟨gd, 0, none⟩) (some ⟨gl, 0, none⟩) (some ⟨gp, 0, none⟩) none AE 2 2 2 1 0 ce _ _ _ [[], []] [[], []] [[], []] [1] [] 0 evS 0 w shapeS h.i h.d h.l (by simp) (by simp) (by simp) h.p he cacheE cacheE cacheE predS ⟨by omega, by omega⟩ (by decide) (by decide) ?_ ⟨by omega, by omega⟩).mono ?_
  · intro k hk
    have hk : k < 4 := hk
    have h4 : k = 0 ∨ k = 1 ∨ k = 2 ∨ k = 3 := by omega
    rcases h4 with rfl | rfl | rfl | rfl <;> exact ⟨by first | exact .inl rfl | exact .inr rfl, rfl, by decide, by decide, by decide⟩
  · rintro e w' ⟨gI, kI, aI, gD, kD, aD, gL, kL, aL, g, cap, gP, cP, R, rc, rfl, h1, h2, h3, h4, hb⟩
    rw [run_evS] at h1 h2 h3 h4
    refine ⟨gI, kI, gD, kD, gL, kL, gP, cP, rc, g, cap, R, aI, aD, aL, rfl, fun W' hu => ?_, hb⟩
    have l1 := h1.foot_lt
    have l2 := h2.foot_lt
    have l3 := h3.foot_lt
    exact ⟨(h1.upd hu fun k hk e => by have := (l1 k hk).1; omega).rdSets (of_decide_eq_true (by kernel_rfl)), (h2.upd hu fun k hk e => by have := (l2 k hk).1; omega).rdSets (of_decide_eq_true (by kernel_rfl)), (h3.upd hu fun k hk e => by have := (l3 k hk).1; omega).rdSets (of_decide_eq_true (by kernel_rfl)), (h4 W' hu).1, (h4 W' hu).2⟩
theorem total_s (gI kI gD kD gL kL gP cP rc g cap : Nat) (R : Option Addr) (vI vD vL : List Value) (w : World) (h : FedS w gI gD gL gP cP rc g R vI vD vL) :
    Calls Try.prog 32 #[.agg #[.int .i64 16, .int .i64 2, .int .i64 2, .int .i64 16, .int .i64 2, .int .i64 2, .int .i64 16, .int .i64 2, .int .i64 2, .int .i64 0, .int .i64 0, .int .i64 0, .int .i64 16, .int .i64 2, .int .i64 2, .slice (some ⟨gI, 0, none⟩) 2 kI, .int .i64 16, .int .i64 2, .int .i64 2, .slice (some ⟨gD, 0, none⟩) 2 kD, .int .i64 16, .int .i64 2, .int .i64 2, .slice (some ⟨gL, 0, none⟩) 2 kL, .int .i64 0, .int .i64 0, .int .i64 0, .slice (some ⟨gP, 0, none⟩) 1 cP, .int .u32 0, .slice R 0 rc, .slice (some ⟨g, 0, none⟩) 1 cap]] w fun e w' => e = .returned (.tuple #[.agg #[.int .u32 0, .int .i64 2, .int .i64 1, .int .i64 1, .int .i64 2, .int .i64 1, .int .i64 1, .int .i64 0, .int .i64 0, .int .i64 0, .int .i64 0, .int .i64 0, .int .i64 0, .int .i64 0], .int .i64 0]) ∧ Below w.heap.size w w' := by
  refine (Total_ok 16 2 2 16 2 2 16 2 2 0 0 0 (some ⟨gI, 0, none⟩) (some ⟨gD, 0, none⟩) (some ⟨gL, 0, none⟩) (some ⟨gP, 0, none⟩) R (some ⟨g, 0, none⟩) kI kD kL cP rc cap vI vD vL [[0], []] [[4], []] [[4, 0], []] [1] [] 0 [cntS] w shapeS h.i h.d h.l h.p.cnt h.n cacheI cacheD cacheL predS ⟨by omega, by omega⟩ (by decide) cntsS).mono ?_
  rintro e w' ⟨rfl, hb⟩
  exact ⟨by kernel_rfl, hb⟩
theorem of_s (gI kI gD kD gL kL gP cP rc g cap : Nat) (R : Option Addr) (vI vD vL : List Value) (w : World) (h : FedS w gI gD gL gP cP rc g R vI vD vL) :
    Calls Try.prog 40 #[.agg #[.int .i64 16, .int .i64 2, .int .i64 2, .int .i64 16, .int .i64 2, .int .i64 2, .int .i64 16, .int .i64 2, .int .i64 2, .int .i64 0, .int .i64 0, .int .i64 0, .int .i64 16, .int .i64 2, .int .i64 2, .slice (some ⟨gI, 0, none⟩) 2 kI, .int .i64 16, .int .i64 2, .int .i64 2, .slice (some ⟨gD, 0, none⟩) 2 kD, .int .i64 16, .int .i64 2, .int .i64 2, .slice (some ⟨gL, 0, none⟩) 2 kL, .int .i64 0, .int .i64 0, .int .i64 0, .slice (some ⟨gP, 0, none⟩) 1 cP, .int .u32 0, .slice R 0 rc, .slice (some ⟨g, 0, none⟩) 1 cap], .int .u32 0] w fun e w' => e = .returned (.tuple #[.agg #[.int .u32 0, .int .i64 2, .int .i64 1, .int .i64 1, .int .i64 2, .int .i64 1, .int .i64 1, .int .i64 0, .int .i64 0, .int .i64 0, .int .i64 0, .int .i64 0, .int .i64 0, .int .i64 0], .bool true]) ∧ Below w.heap.size w w' := by
  refine (Of_ok 16 2 2 16 2 2 16 2 2 0 0 0 (some ⟨gI, 0, none⟩) (some ⟨gD, 0, none⟩) (some ⟨gL, 0, none⟩) (some ⟨gP, 0, none⟩) R (some ⟨g, 0, none⟩) kI kD kL cP rc cap vI vD vL [[0], []] [[4], []] [[4, 0], []] [1] [] 0 [cntS] 0 w shapeS h.i h.d h.l h.p.cnt h.n cacheI cacheD cacheL predS ⟨by omega, by omega⟩ (by decide) cntsS 0 (by decide) rfl).mono ?_
  rintro e w' ⟨rfl, hb⟩
  exact ⟨by kernel_rfl, hb⟩
theorem check_s (gI kI gD kD gL kL gP cP rc g cap : Nat) (R : Option Addr) (vI vD vL : List Value) (w : World) (h : FedS w gI gD gL gP cP rc g R vI vD vL) :
    Calls Try.prog 30 #[.agg #[.int .i64 16, .int .i64 2, .int .i64 2, .int .i64 16, .int .i64 2, .int .i64 2, .int .i64 16, .int .i64 2, .int .i64 2, .int .i64 0, .int .i64 0, .int .i64 0, .int .i64 16, .int .i64 2, .int .i64 2, .slice (some ⟨gI, 0, none⟩) 2 kI, .int .i64 16, .int .i64 2, .int .i64 2, .slice (some ⟨gD, 0, none⟩) 2 kD, .int .i64 16, .int .i64 2, .int .i64 2, .slice (some ⟨gL, 0, none⟩) 2 kL, .int .i64 0, .int .i64 0, .int .i64 0, .slice (some ⟨gP, 0, none⟩) 1 cP, .int .u32 0, .slice R 0 rc, .slice (some ⟨g, 0, none⟩) 1 cap]] w fun e w' => e = .returned (.int .i64 0) ∧ Below w.heap.size w w' :=
  Check_ok 16 2 2 16 2 2 16 2 2 0 0 0 (some ⟨gI, 0, none⟩) (some ⟨gD, 0, none⟩) (some ⟨gL, 0, none⟩) (some ⟨gP, 0, none⟩) R (some ⟨g, 0, none⟩) kI kD kL cP rc cap vI vD vL [[0], []] [[4], []] [[4, 0], []] [1] [] 0 [cntS] w shapeS h.i h.d h.l h.p.cnt h.n cacheI cacheD cacheL predS ⟨by omega, by omega⟩ (by decide) cntsS
end Go.Proofs.Ytdkacdfhapgboaa
