/- Part 2 of the texts that the proof stands on: MX, MV, MQ, ML, MB, MR, MWp, Till, MLf, MWq, MWr, MRd, MSu. -/
import Derived.Test.YtidojcogojchpaaM01
import Derived.IntWalk
import Derived.Deep.WholeRow
import Derived.Deep.RegionHeld3
import Derived.Deep.DrawnRows

/- mem: Unmap, Mark, Changed. -/
set_option linter.unusedVariables false
set_option linter.unusedSimpArgs false
namespace Go.Proofs.Ytidojcogojchpaa
open Go.RowKit

def PM.del1 (A : PM) (x : Int) : PM := { A with ks := delI A.ks x, cg := insI A.cg x }
def PM.unmL (A : PM) (L : List Int) : PM := L.foldl (fun A x => A.del1 x) A
theorem unmL_snoc (A : PM) (x : Int) (L : List Int) : A.unmL (L ++ [x]) = (A.unmL L).del1 x := by simp [PM.unmL]
section
variable {W W1 : World} {b : Nat} {S : MS} {A : PM}
/-- A page is taken out of both maps. -/
theorem MemIs.out1 (h : MemIs W b S A) {kp ko : Nat} (hp : S.bp = some kp) (ho : S.bo = some ko) (hu : Upd (fun i => i = kp ∨ i = ko) W W1) (n : Int)
    (hmp : MapF W1 kp (delI A.ks n) (ptrTo S)) (hmo : MapF W1 ko (delI S.own n) (fun _ => .bool true)) :
    MemIs W1 b { S with own := delI S.own n } { A with ks := delI A.ks n } ∧ Went W W1 b S A.ks { S with own := delI S.own n } (delI A.ks n) := by
  obtain ⟨n1, n2, n3⟩ := h.box_ne
  have hl := h.lt
  have hsub : ∀ m ∈ delI A.ks n, m ∈ A.ks := fun m hm => ((mem_delI A.ks n m).1 hm).1
  have hsubo : ∀ m ∈ delI S.own n, m ∈ S.own := fun m hm => ((mem_delI S.own n m).1 hm).1
  refine ⟨⟨?_, ?_, ?_, h.chg.other hu fun i e => ?_, fun m hm => ⟨?_, (h.page m (hsub m hm)).2⟩, ?_, fun m hm => ?_, fun m hm q hq e => h.inj m (hsubo m hm) q (hsub q hq) e, h.ap1, h.ap2, h.nil⟩, hu.mono fun i e => ?_, fun k hk => ?_, fun k hk => ?_, rfl⟩
  · rw [hu.block b (hl b (.inl rfl)) fun e => by
      rcases e with e | e
      · exact n2 (e ▸ hp)
      · exact n3 (e ▸ ho)]
    exact h.box
  · show MapO W1 S.bp _ _
    rw [hp]; exact hmp
  · show MapO W1 S.bo _ _
    rw [ho]; exact hmo
  · rcases e with e | e
    · subst e; exact (h.ap1 _ hp).2
    · subst e; exact h.ap2 _ ho
  · have hk := hsub m hm
    rw [hu.block _ (hl _ (.inr (.inr (.inr (.inr ⟨m, hk, rfl⟩))))) fun e => by
      rcases e with e | e
      · exact (h.page_ne m hk).2.2.1 (e ▸ hp)
      · exact (h.page_ne m hk).2.2.2 (e ▸ ho)]
    exact (h.page m hk).1
  · have := List.length_filter_le (fun k => decide (k ≠ n)) A.ks
    have := h.le
    show (delI A.ks n).length ≤ 2000
    unfold delI; omega
  · obtain ⟨h1, h2⟩ := (mem_delI S.own n m).1 hm
    exact (mem_delI A.ks n m).2 ⟨h.sub m h1, h2⟩
  · rcases e with e | e
    · subst e; exact .inr (.inr (.inl hp))
    · subst e; exact .inr (.inr (.inr (.inl ho)))
  · rcases hk with e | e | e | e | ⟨m, hm, e⟩
    · exact .inl (.inl e)
    · exact .inl (.inr (.inl e))
    · exact .inl (.inr (.inr (.inl e)))
    · exact .inl (.inr (.inr (.inr (.inl e))))
    · exact .inl (.inr (.inr (.inr (.inr ⟨m, hsubo m hm, e⟩))))
  · rcases hk with e | e | e | e | ⟨m, hm, e⟩
    · exact .inl (.inl e)
    · exact .inl (.inr (.inl e))
    · exact .inl (.inr (.inr (.inl e)))
    · exact .inl (.inr (.inr (.inr (.inl e))))
    · exact .inl (.inr (.inr (.inr (.inr ⟨m, hsub m hm, e⟩))))
/-- .. by the two deletes. -/
theorem MemIs.dels (h : MemIs W b S A) {kp ko : Nat} (hp : S.bp = some kp) (ho : S.bo = some ko) (n : Int) :
    ∃ V1 V2 : World, (∀ ty, (Builtin.delete_ #[102, 3] ty #[.map (some kp), .int .i64 n]).run Try.prog W = .ok (.tuple #[]) V1) ∧ (∀ ty, (Builtin.delete_ #[99, 3] ty #[.map (some ko), .int .i64 n]).run Try.prog V1 = .ok (.tuple #[]) V2) ∧
      MemIs V2 b { S with own := delI S.own n } { A with ks := delI A.ks n } ∧ Went W V2 b S A.ks { S with own := delI S.own n } (delI A.ks n) ∧ V1.cell? ⟨b, 2, none⟩ = some (.map (some ko)) ∧ V1.frozen? ⟨b, 2, none⟩ = false := by
  have hpo : kp ≠ ko := fun e => (h.ap1 kp hp).1 (by rw [ho, e])
  obtain ⟨n1, n2, n3⟩ := h.box_ne
  obtain ⟨_, _, c2, _, _, f2⟩ := h.cells
  rw [ho] at c2
  have hm1 : MapF W kp A.ks (ptrTo S) := by have := h.pages; rw [hp] at this; exact this
  have hm2 : MapF W ko S.own (fun _ => .bool true) := by have := h.owns; rw [ho] at this; exact this
  have hw1 : ∃ V1, (∀ ty, (Builtin.delete_ #[102, 3] ty #[.map (some kp), .int .i64 n]).run Try.prog W = .ok (.tuple #[]) V1) ∧ MapF V1 kp (delI A.ks n) (ptrTo S) ∧ Upd (fun k => k = kp) W V1 := by
    obtain ⟨o, r, m⟩ := hm1.run_del (P := Try.prog) (ty := 0) Try.underlying102 Try.underlying3 n
    exact ⟨_, fun _ => r, m, putObj_upd _ _ _⟩
  obtain ⟨V1, r1, m1, u1⟩ := hw1
  have hm3 : MapF V1 ko S.own (fun _ => .bool true) := hm2.upd u1 fun e => hpo e.symm
  have hw2 : ∃ V2, (∀ ty, (Builtin.delete_ #[99, 3] ty #[.map (some ko), .int .i64 n]).run Try.prog V1 = .ok (.tuple #[]) V2) ∧ MapF V2 ko (delI S.own n) (fun _ => .bool true) ∧ Upd (fun k => k = ko) V1 V2 := by
    obtain ⟨o, r, m⟩ := hm3.run_del (P := Try.prog) (ty := 0) Try.underlying99 Try.underlying3 n
    exact ⟨_, fun _ => r, m, putObj_upd _ _ _⟩
  obtain ⟨V2, r2, m2, u2⟩ := hw2
  have hb1 := u1.block b (h.lt b (.inl rfl)) fun e => n2 (e ▸ hp)
  obtain ⟨g1, g2⟩ := h.out1 hp ho ((u1.mono fun _ e => .inl e).trans u2 fun _ e => .inl (.inr e)) n (m1.upd u2 hpo) m2
  refine ⟨V1, V2, r1, r2, g1, g2, ?_, ?_⟩
  · simp only [World.cell?] at c2 ⊢; rw [hb1]; exact c2
  · simp only [World.frozen?] at f2 ⊢; rw [hb1]; exact f2
end
set_option maxRecDepth 100000 in
set_option maxHeartbeats 1000000 in
theorem Unmap_nil (W : World) (a b : Int) : Calls Try.prog 34 #[.pointer none, .int .i64 a, .int .i64 b] W fun e w' => e = .returned (.int .i64 5) ∧ W = w' := by
  go_enter Try.func34, Try.ntmps34
  go_wp2
  go_ret
  exact ⟨rfl, rfl⟩
set_option maxRecDepth 100000 in
set_option maxHeartbeats 1000000 in
theorem Unmap_arg (W : World) (b : Nat) (S : MS) (A : PM) (f n : Int) (h : MemIs W b S A) (hw : withinB f n = false) :
    Calls Try.prog 34 #[.pointer (some ⟨b, 0, none⟩), .int .i64 f, .int .i64 n] W fun e w' => e = .returned (.int .i64 1) ∧ Below W.heap.size W w' := by
  have HW := Lib.hid (within_bad W (some ⟨b, 0, none⟩) f n hw)
  clear h hw
  go_enter Try.func34, Try.ntmps34
  go_wp2_with fail
  refine HW.out.mono ?_
  rintro e w1 ⟨rfl, rfl⟩
  go_wp2_with fail
  go_ret
  exact ⟨rfl, Below.refl _ _⟩
set_option maxRecDepth 100000 in
set_option maxHeartbeats 1000000 in
theorem Unmap_there (W : World) (b : Nat) (S : MS) (A : PM) (f n : Int) (h : MemIs W b S A) (hw : withinB f n = true) (hb : ((inL A.ks f n).length : Int) ≠ n) :
    Calls Try.prog 34 #[.pointer (some ⟨b, 0, none⟩), .int .i64 f, .int .i64 n] W fun e w' => e = .returned (.int .i64 5) ∧ Below W.heap.size W w' := by
  have HW := Lib.hid (within_ok W b S A f n h hw)
  have hl : (((inL A.ks f n).length : Int) != n) = true := by simpa using hb
  have hl2 : decide (((inL A.ks f n).length : Int) = n) = false := decide_eq_false hb
  clear h hw hb
  go_enter Try.func34, Try.ntmps34
  go_wp2_with fail
  refine HW.out.mono ?_
  rintro e w1 ⟨c, g, rfl, hI⟩
  have HB := Lib.hid hI.below
  clear hI
  go_wp2_with fail
  go_ret
  exact ⟨rfl, HB.out⟩
set_option maxRecDepth 100000 in
set_option maxHeartbeats 4000000 in
theorem Unmap_ok (W : World) (b : Nat) (S : MS) (A : PM) (f n : Int) (h : MemIs W b S A) (hw : withinB f n = true) (hb : ((inL A.ks f n).length : Int) = n) :
    Calls Try.prog 34 #[.pointer (some ⟨b, 0, none⟩), .int .i64 f, .int .i64 n] W fun e w' => e = .returned (.int .i64 0) ∧ OpE W b S A (A.unmL (inL A.ks f n)) w' := by
  have HW := Lib.hid (within_ok W b S A f n h hw)
  have H := Lib.hid h
  have hn1 : 1 ≤ n := (of_decide_eq_true hw).2.2.1
  obtain ⟨x0, hx0⟩ : ∃ x0, x0 ∈ A.ks := by
    cases hk : inL A.ks f n with
    | nil => rw [hk] at hb; simp at hb; omega
    | cons y ys => exact ⟨y, (inL_sub (f := f) (n := n) (by rw [hk]; simp)).1⟩
  obtain ⟨kp, ko, hkp, hko⟩ := h.some_maps hx0
  have HP := Lib.hid hkp
  have HO := Lib.hid hko
  have HS := Lib.hid (show ∀ x ∈ inL A.ks f n, x ∈ A.ks from fun x hx => (inL_sub hx).1)
  have HR := Lib.hid h.rng
  have hll := inL_le A.ks f n
  have hle := h.le
  obtain ⟨L, hL⟩ : ∃ L, inL A.ks f n = L := ⟨_, rfl⟩
  rw [hL] at HW HS hb hll ⊢
  clear h hw hL hkp hko hx0
  go_enter Try.func34, Try.ntmps34
  go_wp2_with fail
  refine HW.out.mono ?_
  rintro e w1 ⟨c, g, rfl, hI⟩
  have HB := Lib.hid hI.below
  have HM1 := Lib.hid (H.out.below hI.below)
  have HI := Lib.hid hI
  clear hI
  subst hb
  go_wp2_with fail
  go_loopw [28] (fun i wr => ∃ j : Nat, j ≤ L.length ∧ i = .int .i64 (j : Int) ∧ ∃ S', Hid (S'.bp = some kp ∧ S'.bo = some ko ∧ MemIs wr b S' (A.unmL (L.take j)) ∧ Went w1 wr b S A.ks S' (A.unmL (L.take j)).ks)) (fun i _ => L.length - (intOf i).toNat)
  case atStart => exact ⟨0, Nat.zero_le _, rfl, S, Lib.hid ⟨HP.out, HO.out, HM1.out, Went.refl _ _ _ _⟩⟩
  case round =>
    obtain ⟨j, hj, rfl, S', hJ⟩ := hrel
    by_cases hlt : j < L.length
    · obtain ⟨hp, ho, hM, hG⟩ := hJ.out
      obtain ⟨ad, e1, hc⟩ := RdI.at (own_rdC (HI.out.stays H.out hG)) j hlt
      obtain rfl : g = some ad := e1
      have hx : gi L j ∈ A.ks := HS.out _ (gi_mem L j hlt)
      have htk := take_gi L j hlt
      obtain ⟨x, hxe⟩ : ∃ x, gi L j = x := ⟨_, rfl⟩
      rw [hxe] at hc hx htk
      obtain ⟨V1, V2, d1, d2, hM2, hG2, hc2, hf2⟩ := hM.dels hp ho x
      obtain ⟨_, c1, _, _, _, _⟩ := hM.cells
      rw [hp] at c1
      have HT := Lib.hid (touch_any V2 b _ _ x hM2 (HR.out x hx))
      have HTK := Lib.hid htk
      have HG := Lib.hid (hG.trans hG2)
      have HP5 := Lib.hid hp
      have HO5 := Lib.hid ho
      clear hM hG hJ htk hxe hx hM2 hG2 hp ho
      go_wp2_with fail
      refine HT.out.mono ?_
      rintro e w5 ⟨rfl, ht⟩
      have HE := Lib.hid ht
      clear ht
      go_wp2_with fail
      go_roundw
      case rel =>
        obtain ⟨bc, hmm, hww⟩ := HE.out.ex
        exact ⟨j + 1, by omega, by go_num, { S' with own := delI S'.own x, bc := bc }, Lib.hid (by rw [HTK.out, unmL_snoc]; exact ⟨HP5.out, HO5.out, hmm, HG.out.trans hww⟩)⟩
      case measure => simp [intOf]; omega
    · obtain rfl : j = L.length := by omega
      have hI' := Lib.hid (show OpE w1 b S A (A.unmL L) wr from ⟨S', by have := hJ.out.2.2.1; rwa [List.take_length] at this, by have := hJ.out.2.2.2; rwa [List.take_length] at this⟩)
      clear hJ
      go_wp2_with fail
      go_ret
      obtain ⟨S2, a1, a2⟩ := hI'.out.ex
      exact ⟨rfl, ⟨S2, a1, (Went.of_below HB.out b S A.ks).trans a2⟩⟩
end Go.Proofs.Ytidojcogojchpaa

/- A region that draws its order, inside a fence (in a round too): it reads, and ends in operations of one forced order. -/
set_option linter.unusedVariables false
set_option linter.unusedSimpArgs false
namespace Go.Proofs.Ytidojcogojchpaa
open Go.RowKit Go.Shelf
def noDeferM (ops : Array Oper) : Bool := ops.all fun o => match o.op with | .defer _ => false | _ => true
theorem noDeferM_spec {ops : Array Oper} (h : noDeferM ops = true) (i : Nat) (o : Oper) (ho : ops[i]? = some o) : ∀ c, o.op ≠ .defer c := by
  intro c hc
  obtain ⟨hi, rfl⟩ := Array.getElem?_eq_some_iff.1 ho
  have := (Array.all_eq_true.1 h) i hi
  rw [hc] at this
  exact absurd this (by simp)
/-- A fence that lets all in. -/
structure Open (F : Fence) : Prop where
  fn : ∀ f, F.fn f
  depth : F.depth = none
  calls : ∀ {n : Nat} {P : Program} {f : FuncId} {args : Array Value} {w : World} {R : Ending → World → Prop}, Calls P f args w R → CallsIn F n P f args w R
theorem open_wide : Open Fence.wide := ⟨fun _ => trivial, rfl, fun h => callsIn_wide.2 h⟩
theorem open_round (l : Nat) : Open (Fence.wide.inRound l) := ⟨fun _ => trivial, rfl, fun h => CallsIn.inRound l (callsIn_wide.2 h)⟩
section
variable {F : Fence} {n : Nat} {P : Program} {ops : Array Oper} {md : Region.Mode} {w : World}
theorem wpOpIn_of_stOp (hO : Open F) (hnd : noDeferM ops = true) {i : Nat} {a : Act} {K : Act → Prop} {K' : Act → World → Prop} {Q' : Exit → Act → World → Prop} (h : ∀ a, K a → K' a w) (hh : stOp P ops w i K a) : wpOpIn F n P ops Q' i K' a w := by
  unfold stOp at hh
  unfold wpOpIn
  cases ho : ops[i]? with
  | none => simp only [ho] at hh ⊢; exact h _ hh
  | some o =>
    simp only [ho] at hh ⊢
    split
    · rename_i hw
      simp only [hw, if_true] at hh
      refine ⟨fun f _ => hO.fn f, ?_⟩
      rw [Oper.semAt_eq _ _ _ (noDeferM_spec hnd i o ho)]
      unfold Oper.still at hh
      cases hr : (execOp a.eval o).run P w with
      | ok x w' =>
        rw [hr] at hh
        cases x <;> simp only [Oper.stillUpon] at hh <;> simp only [Oper.uponIn]
        case value u => obtain ⟨rfl, h2⟩ := hh; exact h _ h2
        case skip => obtain ⟨rfl, h2⟩ := hh; exact h _ h2
        case enter f args =>
          obtain ⟨rfl, v, hc, h2⟩ := hh
          exact ⟨fun hd => absurd hd (by rw [hO.depth]; simp), (hO.calls hc).mono fun e w'' ⟨he, hw''⟩ => by subst he; subst hw''; exact h _ h2⟩
      | halt x w' => rw [hr] at hh; exact hh.elim
    · rename_i hw
      simp only [hw] at hh
      exact ⟨fun f _ => hO.fn f, h _ hh⟩
theorem wpAnyIn_of_head (hO : Open F) (hnd : noDeferM ops = true) {m g : Nat} {L : Array Bool → Act → Prop} {Q' : Exit → Act → World → Prop} (hL : ∀ listed a, L listed a → wpAnyIn F n P md ops Q' g listed a w) :
    ∀ (f : Nat) (listed : Array Bool) (a : Act), wpAnyL P md ops w m L f listed a → wpAnyIn F n P md ops Q' (f + g) listed a w
  | 0, listed, a, h => by rw [Nat.zero_add]; exact hL _ _ h
  | f + 1, listed, a, h => by
    rw [show f + 1 + g = (f + g) + 1 by omega]
    exact ⟨fun h0 => absurd h0 h.1, fun i hi => wpOpIn_of_stOp hO hnd (fun a' h' => wpAnyIn_of_head hO hnd hL f _ a' h') (h.2 i hi).2⟩
theorem wpAnyIn_of_seq {Q' : Exit → Act → World → Prop} : ∀ (l : List Oper) (k : Nat) (listed : Array Bool) (a : Act) (w : World), (∀ j, l[j]? = ops[k + j]?) →
    Region.seqB md ops l.length k listed = true → wpListIn F n P ops Q' l a w → wpAnyIn F n P md ops Q' l.length listed a w
  | [], _, _, _, _, _, hB, h => ⟨by simpa [Region.seqB] using hB, h⟩
  | o :: l, k, listed, a, w, hl, hB, h => by
    have h0 : ops[k]? = some o := by simpa using (hl 0).symm
    simp only [List.length_cons, Region.seqB, Bool.and_eq_true, decide_eq_true_eq] at hB
    refine ⟨fun h1 => (by rw [hB.1] at h1; cases h1), fun i hi => ?_⟩
    rw [hB.1] at hi
    have hik : i = k := by simpa using hi
    subst hik
    have hw : wpOpIn F n P ops Q' i (wpListIn F n P ops Q' l) a w := by unfold wpOpIn; simp only [h0]; exact h
    have hmono : ∀ {K K' : Act → World → Prop} {a : Act} {w : World}, (∀ a w, K a w → K' a w) → wpOpIn F n P ops Q' i K a w → wpOpIn F n P ops Q' i K' a w := fun {K K' a w} hk hh => by
      unfold wpOpIn at hh ⊢
      simp only [h0] at hh ⊢
      split
      · rename_i hw; simp only [hw, if_true] at hh; exact Oper.wpIn_mono hk hh
      · rename_i hw; simp only [hw] at hh; exact ⟨hh.1, hk _ _ hh.2⟩
    exact hmono (fun a' w' h' => wpAnyIn_of_seq l (i + 1) _ a' w' (fun j => by have := hl (j + 1); simpa [Nat.add_assoc, Nat.add_comm 1 j] using this) hB.2 h') hw
theorem region_tail_in {id : Nat} {Q : Exit → Act → World → Prop} {a : Act} {w0 : World} {l : List Oper} (m : Nat) (hO : Open F) (hd : w.drew = w0) (hnd : noDeferM l.toArray = true) (hm : P.follows .mixedOrders = true) (hB : Region.lexTailB .any l.toArray m = true)
    (h : wpQuiet P l.toArray (fun w' => ∃ q : Just w0, w' = q.W) (fun a' => wpListIn F n P l.toArray Q (l.drop m) a' w0) (l.take m) a) : (Code.region id l.toArray true).wpIn F n P Q a w := by
  subst hd
  have hs := still_of_quiet _ _ h
  simp only [Region.lexTailB, Bool.and_eq_true, decide_eq_true_eq] at hB
  obtain ⟨⟨⟨⟨hsel, hn⟩, hsk⟩, hc⟩, hlex⟩ := hB
  have hn' : m < l.length := by simpa using hn
  have htl : (l.take m).length = m := by simp; omega
  have hdl : (l.drop m).length = l.toArray.size - m := by simp
  have inv0 : HeadInv .any l.toArray m (Array.replicate l.toArray.size false) :=
    ⟨by simp, fun j oj _ hl => (by rw [getD_replicate_false] at hl; cases hl), fun t _ ht => getD_in (by simpa using ht) (getD_replicate_false _ _)⟩
  have H := wpAnyL_lex (md := .any) (g := l.toArray.size - m) hsel hsk hc hn (l.take m) 0 _ a (fun j hj => by
    have hj' : j < m := by rw [htl] at hj; exact hj
    simp [hj']) (by simpa using htl) inv0 (by rw [htl]; exact hlex) hs
  refine wpIn_region_any hm ?_
  have := wpAnyIn_of_head (F := F) (n := n) (Q' := Q) (g := l.toArray.size - m) hO hnd (fun listed a' hL => by
    have := wpAnyIn_of_seq (F := F) (n := n) (P := P) (md := .any) (Q' := Q) (l.drop m) m listed a' w.drew (fun j => by simp [List.getElem?_drop]) (by rw [hdl]; exact hL.1) hL.2
    rwa [hdl] at this) _ _ _ H
  rw [htl, show m + (l.toArray.size - m) = l.toArray.size by omega] at this
  exact this
end
end Go.Proofs.Ytidojcogojchpaa

/- mem.pieces: the parts of a range that lie in one page each. -/
set_option linter.unusedVariables false
set_option linter.unusedSimpArgs false
namespace Go.Proofs.Ytidojcogojchpaa
open Go.RowKit Go.Shelf
attribute [local go_sem] Oper.semAt_some

/-- Where the part that begins c bytes behind at lies: its address, how many bytes it has. -/
def pcAt (at_ c : Int) : Int := (at_ + c) % 4294967296
def pcLen (at_ n c : Int) : Int := min (n - c) (256 - pcAt at_ c % 256)
def pcCells (at_ n c : Int) : Array Value := #[.int .u32 (pcAt at_ c), .int .i64 (pcAt at_ c / 256), .int .i64 (pcAt at_ c % 256), .int .i64 (pcLen at_ n c)]
theorem pcLen_pos {at_ n c : Int} (h : c < n) : 1 ≤ pcLen at_ n c ∧ pcLen at_ n c ≤ n - c ∧ pcLen at_ n c ≤ 256 - pcAt at_ c % 256 := by
  unfold pcLen
  have := Int.emod_lt_of_pos (pcAt at_ c) (show (0 : Int) < 256 by omega)
  omega
theorem pcAt_range (at_ c : Int) : 0 ≤ pcAt at_ c ∧ pcAt at_ c < 4294967296 := ⟨Int.emod_nonneg _ (by omega), Int.emod_lt_of_pos _ (by omega)⟩
theorem pcAt_next (at_ n c : Int) : pcAt at_ (c + pcLen at_ n c) = (pcAt at_ c + pcLen at_ n c) % 4294967296 := by
  unfold pcAt
  rw [Int.emod_add_emod, Int.add_assoc]

/-- The two variables of the iterator. -/
structure Boxes (W : World) (Ba Bn : Nat) (a m : Int) : Prop where
  a : W.heap[Ba]? = some (.cells #[.int .u32 a] 34 (0, 0))
  n : W.heap[Bn]? = some (.cells #[.int .i64 m] 3 (0, 0))
/-- These blocks lie as they lay. -/
def KeepC (bs : List Nat) (W W' : World) : Prop := ∀ b ∈ bs, ∀ o : Obj, W.heap[b]? = some o → W'.heap[b]? = some o
theorem Boxes.kept {W W' : World} {Ba Bn : Nat} {a m : Int} (h : Boxes W Ba Bn a m) (k : KeepC [Ba, Bn] W W') : Boxes W' Ba Bn a m := ⟨k Ba (by simp) _ h.a, k Bn (by simp) _ h.n⟩
theorem Boxes.next {W : World} {Ba Bn : Nat} {a m : Int} (h : Boxes W Ba Bn a m) (hne : Ba ≠ Bn) (a' m' : Int) : Boxes ((W.setCell ⟨Ba, 0, none⟩ (.int .u32 a')).setCell ⟨Bn, 0, none⟩ (.int .i64 m')) Ba Bn a' m' ∧ Upd (fun k => k = Ba ∨ k = Bn) W ((W.setCell ⟨Ba, 0, none⟩ (.int .u32 a')).setCell ⟨Bn, 0, none⟩ (.int .i64 m')) := by
  obtain ⟨W1, hW1⟩ : ∃ W1, W.setCell ⟨Ba, 0, none⟩ (.int .u32 a') = W1 := ⟨_, rfl⟩
  rw [hW1]
  have u1 : Upd (fun k => k = Ba) W W1 := by rw [← hW1]; exact Upd.setCell W ⟨Ba, 0, none⟩ _
  have u2 : Upd (fun k => k = Bn) W1 (W1.setCell ⟨Bn, 0, none⟩ (.int .i64 m')) := Upd.setCell W1 ⟨Bn, 0, none⟩ _
  have ha1 : W1.heap[Ba]? = some (.cells #[.int .u32 a'] 34 (0, 0)) := by rw [← hW1, setCell_row h.a]; rfl
  have hn1 : W1.heap[Bn]? = some (.cells #[.int .i64 m] 3 (0, 0)) := by rw [u1.block Bn (Array.getElem?_eq_some_iff.1 h.n).1 fun e => hne e.symm]; exact h.n
  refine ⟨⟨?_, ?_⟩, (u1.mono fun _ e => .inl e).trans u2 fun _ e => .inl (.inr e)⟩
  · rw [u2.block Ba (Array.getElem?_eq_some_iff.1 ha1).1 hne]; exact ha1
  · rw [setCell_row hn1]; rfl

set_option maxRecDepth 100000 in
set_option maxHeartbeats 2000000 in
theorem pieces1_in (q l Ba Bn : Nat) (hq : 1 ≤ q) (hne : Ba ≠ Bn) (at_ n : Int) (hn : 0 ≤ n ∧ n ≤ 1000000) (J Jx : Int → World → Prop) (W : World)
    (hJu : ∀ c W W', J c W → Upd (fun k => k = Ba ∨ k = Bn) W W' → J c W')
    (hY : ∀ c W, 0 ≤ c → c < n → J c W → YieldAt Fence.wide (q - 1) Try.prog l #[.agg (pcCells at_ n c)] W fun e W' =>
      (e = .returned (.bool true) ∧ J (c + pcLen at_ n c) W' ∧ KeepC [Ba, Bn] W W') ∨ (e = .returned (.bool false) ∧ Jx c W'))
    (hB : Boxes W Ba Bn (pcAt at_ 0) n) (h0 : J 0 W) :
    CallsIn Fence.wide q Try.prog 132 #[.func (.yield l) #[] #[], .pointer (some ⟨Bn, 0, none⟩), .pointer (some ⟨Ba, 0, none⟩)] W fun e W' => (∃ v, e = .returned v) ∧
      (J n W' ∨ (∃ c, 0 ≤ c ∧ c < n ∧ Jx c W')) := by
  have HY := Lib.hid hY
  have HU := Lib.hid hJu
  have HB := Lib.hid hB
  have H0 := Lib.hid h0
  clear hY hJu hB h0
  refine callsIn_of_wp Try.func132 rfl trivial ?_ rfl
  simp only [Try.ntmps132, List.size_toArray, List.length_cons, List.length_nil, Nat.reduceAdd, Nat.reduceSub, Array.replicate_succ, Array.replicate_zero, List.push_toArray, List.append_toArray, List.nil_append, List.cons_append]
  gi_wp2_with fail
  gi_loopw [] (fun wr => ∃ c : Int, 0 ≤ c ∧ c ≤ n ∧ Hid (J c wr ∧ Boxes wr Ba Bn (pcAt at_ c) (n - c))) (fun wr => (intOf ((wr.cell? ⟨Bn, 0, none⟩).getD undef)).toNat)
  case atStart => exact ⟨0, by omega, by omega, Lib.hid ⟨H0.out, by rw [Int.sub_zero]; exact HB.out⟩⟩
  case round =>
    obtain ⟨c, c0, c1, hJ⟩ := hrel
    obtain ⟨hj, hb⟩ := hJ.out
    have ca : wr.cell? ⟨Ba, 0, none⟩ = some (.int .u32 (pcAt at_ c)) := by simp [World.cell?, hb.a]
    have cn : wr.cell? ⟨Bn, 0, none⟩ = some (.int .i64 (n - c)) := by simp [World.cell?, hb.n]
    have fa : wr.frozen? ⟨Ba, 0, none⟩ = false := by simp [World.frozen?, hb.a]
    have fn' : wr.frozen? ⟨Bn, 0, none⟩ = false := by simp [World.frozen?, hb.n]
    by_cases hlt : c < n
    · obtain ⟨fn, tmps, assign, body, hy, hR⟩ := HY.out c wr c0 hlt hj
      dsimp only [pcCells] at hy
      obtain ⟨k1, k2, k3⟩ := pcLen_pos (at_ := at_) hlt
      obtain ⟨a1, a2⟩ := pcAt_range at_ c
      have hnx := pcAt_next at_ n c
      have hmin : pcLen at_ n c = min (n - c) (256 - pcAt at_ c % 256) := rfl
      have HNX := Lib.hid hnx
      have HBX := Lib.hid hb
      obtain ⟨a, ha⟩ : ∃ a, pcAt at_ c = a := ⟨_, rfl⟩
      rw [ha] at hy ca a1 a2 k3 hmin HNX HBX
      rw [hmin] at hy k1 k2 k3 hR HNX
      have HJ := Lib.hid hj
      clear ha hj hb hJ hnx hmin
      have hf1 : 0 ≤ a % 256 := by omega
      have hf2 : a % 256 < 256 := by omega
      gi_wp2_with fail
      refine hR.mono ?_
      clear hR hy
      rintro e W3 (⟨rfl, hJ3, hk3⟩ | ⟨rfl, hJx⟩)
      · have hb3 := HBX.out.kept hk3
        have ca3 : W3.cell? ⟨Ba, 0, none⟩ = some (.int .u32 a) := by simp [World.cell?, hb3.a]
        have cn3 : W3.cell? ⟨Bn, 0, none⟩ = some (.int .i64 (n - c)) := by simp [World.cell?, hb3.n]
        have fa3 : W3.frozen? ⟨Ba, 0, none⟩ = false := by simp [World.frozen?, hb3.a]
        have fn3 : W3.frozen? ⟨Bn, 0, none⟩ = false := by simp [World.frozen?, hb3.n]
        have HB3 := Lib.hid hb3
        have HJ3 := Lib.hid hJ3
        clear hb3 hk3 hJ3 ca cn fa fn'
        gi_wp2_with fail
        generalize min (n - c) (256 - a % 256) = k at *
        have x1 : IntKind.u32.wrap k = k := by unfold IntKind.wrap; simp [IntKind.signed, IntKind.bits]; omega
        have x2 : IntKind.u32.wrap (a + k) = (a + k) % 4294967296 := by unfold IntKind.wrap; simp [IntKind.signed, IntKind.bits]
        have x3 : IntKind.i64.wrap (n - c - k) = n - c - k := IntWalk.i64_in _ (by omega)
        obtain ⟨a', ha'⟩ : ∃ a', (a + k) % 4294967296 = a' := ⟨_, rfl⟩
        rw [ha'] at x2 HNX
        have hne' : ¬ Bn = Ba := fun e => hne e.symm
        obtain ⟨hbx, hup⟩ := HB3.out.next hne a' (n - c - k)
        have HBX2 := Lib.hid (Boxes.mk hbx.a hbx.n : Boxes ((W3.setCell ⟨Ba, 0, none⟩ (.int .u32 a')).setCell ⟨Bn, 0, none⟩ (.int .i64 (n - c - k))).drew Ba Bn a' (n - c - k))
        have HJ5 := Lib.hid (HU.out _ _ _ (HU.out _ _ _ HJ3.out hup) (Upd.drew _ _))
        clear ha' hbx hup
        gi_region
        gi_wp2_with fail
        go_roundw
        case rel => exact ⟨c + k, by omega, by omega, Lib.hid ⟨HJ5.out, by rw [HNX.out, show n - (c + k) = n - c - k by omega]; exact HBX2.out⟩⟩
        case measure =>
          have e1 := HBX2.out.n
          have e0 := HBX.out.n
          simp [World.cell?, e1, e0, intOf]
          omega
      · have HX := Lib.hid hJx
        clear hJx
        gi_wp2_with fail
        refine bodyPost_ret (results_none rfl _ _ _) rfl ?_
        exact ⟨⟨_, rfl⟩, .inr ⟨c, c0, hlt, HX.out⟩⟩
    · obtain rfl : c = n := by omega
      have HJ := Lib.hid hj
      clear hj hb hJ
      gi_wp2_with fail
      go_end0
      exact ⟨⟨_, rfl⟩, .inl HJ.out⟩
end Go.Proofs.Ytidojcogojchpaa

/- A loop over mem.pieces. -/
set_option linter.unusedVariables false
set_option linter.unusedSimpArgs false
namespace Go.Proofs.Ytidojcogojchpaa
open Go.RowKit Go.Shelf
attribute [local go_sem] Oper.semAt_some

/-- The blocks of a loop's book-keeping. -/
def bkL (w : World) (Ba Bn : Nat) : List Nat := [Ba, Bn, w.heap.size, w.heap.size + 1]
def Bk (w : World) (Ba Bn k : Nat) : Prop := k ∈ bkL w Ba Bn
theorem KeepC.trans {bs : List Nat} {A B C : World} (h : KeepC bs A B) (k : KeepC bs B C) : KeepC bs A C := fun b hb o ho => k b hb o (h b hb o ho)
theorem KeepC.of_upd {bs : List Nat} {F : Nat → Prop} {A B : World} (h : Upd F A B) (hF : ∀ b ∈ bs, ¬ F b) : KeepC bs A B := fun b hb o ho => (h.block b (Array.getElem?_eq_some_iff.1 ho).1 (hF b hb)).trans ho
theorem KeepC.mono {bs cs : List Nat} {A B : World} (h : KeepC bs A B) (hc : ∀ b ∈ cs, b ∈ bs) : KeepC cs A B := fun b hb => h b (hc b hb)
/-- How the body of a round may be left. -/
def pcPost (bs : List Nat) (I Ix : Int → World → Prop) (c c' : Int) (W : World) : Exit → Act → World → Prop
  | .normal, _, W' => KeepC bs W W' ∧ I c' W'
  | .ret, _, W' => KeepC bs W W' ∧ Ix c W'
  | _, _, _ => False
set_option maxHeartbeats 1000000 in
theorem wpIn_pieces {g : Operand} {ps : Array Tmp} {assign body : Code} {Q : Exit → Act → World → Prop} {a : Act} {w : World} {q Ba Bn : Nat} (hq : 3 ≤ q) (hne : Ba ≠ Bn) (at_ n : Int) (hn : 0 ≤ n ∧ n ≤ 1000000)
    (hg : a.eval g = .func (.func 132) #[] #[.pointer (some ⟨Bn, 0, none⟩), .pointer (some ⟨Ba, 0, none⟩)]) (hps : ps.size = 1) (hB : Boxes w Ba Bn (pcAt at_ 0) n)
    (I Ix : Int → World → Prop) (hI : ∀ c W W', I c W → Upd (Bk w Ba Bn) W W' → I c W') (hIx : ∀ c W W', Ix c W → Upd (Bk w Ba Bn) W W' → Ix c W') (h0 : I 0 w) (a₁ : Int → Nat → Act)
    (hassign : ∀ (l : Nat) (c : Int) (W : World) (K : Act → World → Prop), K (a₁ c W.heap.size) (W.alloc (.cells (pcCells at_ n c) 149)) →
      assign.wpIn (Fence.wide.inRound l) (q - 1 - 1) Try.prog (Exit.then K (fun _ _ _ => False)) { tmps := (ps.zip #[.agg (pcCells at_ n c)]).foldl (fun t (p, v) => t.setIfInBounds p v) a.tmps, defers := [] } W)
    (hbody : ∀ (l : Nat) (c : Int) (W : World) (X : Nat), 0 ≤ c → c < n → I c W → w.heap.size + 2 ≤ X → W.heap[X]? = some (.cells (pcCells at_ n c) 149 (0, 0)) →
      body.wpIn (Fence.wide.inRound l) (q - 1 - 1) Try.prog (pcPost (bkL w Ba Bn) I Ix c (c + pcLen at_ n c) W) (a₁ c X) W)
    (hdone : ∀ (W : World), I n W → W.heap[w.heap.size]? = some (.deferred (some [])) → Q .normal { a with defers := { target := .collected w.heap.size, args := #[] } :: a.defers } W)
    (hstop : ∀ (c : Int) (W : World), 0 ≤ c → c < n → Ix c W → W.heap[w.heap.size]? = some (.deferred (some [])) → Code.ret.wpIn Fence.wide q Try.prog Q { a with defers := { target := .collected w.heap.size, args := #[] } :: a.defers } W) :
    (Code.rangeFunc g ps assign body).wpIn Fence.wide q Try.prog Q a w := by
  have hla : Ba < w.heap.size := (Array.getElem?_eq_some_iff.1 hB.a).1
  have hlb : Bn < w.heap.size := (Array.getElem?_eq_some_iff.1 hB.n).1
  refine wpIn_rangeFunc ?_
  intro fn hfn
  rw [show Fence.wide.round = none from rfl]
  obtain ⟨rec, hrec⟩ : ∃ rec : LoopState → Option Code → Loop, rec = fun st pe => { state := st, pending := pe, fn, tmps := a.tmps, params := ps, assign, body, defers := w.heap.size } := ⟨_, rfl⟩
  obtain ⟨W1, hW1⟩ : ∃ W1, (w.alloc (.deferred (some []))).alloc (.loop (rec .ready none)) = W1 := ⟨_, rfl⟩
  have hL1 : W1.heap[w.heap.size + 1]? = some (.loop (rec .ready none)) := by
    rw [← hW1]; have := World.alloc_heap_new (w.alloc (.deferred (some []))) (.loop (rec .ready none)); rwa [World.size_alloc] at this
  have hK1 : W1.heap[w.heap.size]? = some (.deferred (some [])) := by
    rw [← hW1]; exact (Below.heap_alloc _ _ _ (by simp)).trans (World.alloc_heap_new w _)
  have hb1 : Below w.heap.size w W1 := by
    rw [← hW1]; exact (((Below.refl _ w).alloc (Nat.le_refl _) _).alloc (by simp) _)
  have hI1 : I 0 W1 := hI _ _ _ h0 (Upd.any hb1)
  have hB1 : Boxes W1 Ba Bn (pcAt at_ 0) n := ⟨(hb1.block Ba hla).trans hB.a, (hb1.block Bn hlb).trans hB.n⟩
  have hin : ∀ k, (k = w.heap.size + 1) → Bk w Ba Bn k := fun k e => by subst e; simp [Bk, bkL]
  refine ⟨w.heap.size + 1, [{ target := .collected w.heap.size, args := #[] }], W1, { target := .fn (.func 132) #[.pointer (some ⟨Bn, 0, none⟩), .pointer (some ⟨Ba, 0, none⟩)], args := #[.func (.yield (w.heap.size + 1)) #[] #[]] }, W1, 132,
    #[.func (.yield (w.heap.size + 1)) #[] #[], .pointer (some ⟨Bn, 0, none⟩), .pointer (some ⟨Ba, 0, none⟩)], W1, ?_, ?_, ?_, ?_, fun _ => by omega, ?_⟩
  · rw [← hW1, hrec]; exact run_enterLoop_outer _ _ _ _ _
  · simp only [resolve, hg]
    simp [go_sem]
  · intro f' hf'; trivial
  · have eg : ∀ args w, (callFunc 132 args).run Try.prog w = .ok (.enter 132 args) w := enters_of Try.func132 (by kernel_rfl) rfl
    simp [invoke, go_sem, eg]
  · refine (pieces1_in (q - 1) (w.heap.size + 1) Ba Bn (by omega) hne at_ n hn
      (fun c W => I c W ∧ W.heap[w.heap.size + 1]? = some (.loop (rec .ready none)) ∧ W.heap[w.heap.size]? = some (.deferred (some [])))
      (fun c W => Ix c W ∧ W.heap[w.heap.size + 1]? = some (.loop (rec .done (some .ret))) ∧ W.heap[w.heap.size]? = some (.deferred (some [])))
      W1 ?_ ?_ hB1 ⟨hI1, hL1, hK1⟩).mono ?_
    · rintro c W W' ⟨hi, hl, hk⟩ hu
      refine ⟨hI _ _ _ hi (hu.mono fun k hk => by rcases hk with e | e <;> subst e <;> simp [Bk, bkL]), ?_, ?_⟩
      · rw [hu.block _ (Array.getElem?_eq_some_iff.1 hl).1 (by omega)]; exact hl
      · rw [hu.block _ (Array.getElem?_eq_some_iff.1 hk).1 (by omega)]; exact hk
    · -- one round
      rintro c W c0 c1 ⟨hi, hl, hk⟩
      have hlt : w.heap.size + 1 < W.heap.size := (Array.getElem?_eq_some_iff.1 hl).1
      have hy := run_yield (P := Try.prog) (args := #[.agg (pcCells at_ n c)]) hl (by rw [hrec]; exact hps.symm)
      rw [hrec] at hy
      obtain ⟨V, hV⟩ : ∃ V, W.alloc (.cells (pcCells at_ n c) 149) = V := ⟨_, rfl⟩
      have hbV : Below W.heap.size W V := by rw [← hV]; exact balloc _ _
      have hxV : V.heap[W.heap.size]? = some (.cells (pcCells at_ n c) 149 (0, 0)) := by rw [← hV]; exact heap_alloc_new _ _
      have hlV : V.heap[w.heap.size + 1]? = some (.loop (rec .ready none)) := (hbV.block _ hlt).trans hl
      have hkV : V.heap[w.heap.size]? = some (.deferred (some [])) := (hbV.block _ (by omega)).trans hk
      have hl2 : (V.putObj (w.heap.size + 1) (.loop { rec .ready none with state := .busy })).heap[w.heap.size + 1]? = some (.loop { rec .ready none with state := .busy }) := World.putObj_heap_same (by have := hbV.size; omega)
      have hk2 : (V.putObj (w.heap.size + 1) (.loop { rec .ready none with state := .busy })).heap[w.heap.size]? = some (.deferred (some [])) := (World.putObj_heap_other (by omega)).trans hkV
      have hx2 : (V.putObj (w.heap.size + 1) (.loop { rec .ready none with state := .busy })).heap[W.heap.size]? = some (.cells (pcCells at_ n c) 149 (0, 0)) := (World.putObj_heap_other (by omega)).trans hxV
      have hi2 : I c (V.putObj (w.heap.size + 1) (.loop { rec .ready none with state := .busy })) := hI _ _ _ (hI _ _ _ hi (Upd.any hbV)) ((putObj_upd _ _ _).mono hin)
      have hkeep : KeepC [Ba, Bn] W (V.putObj (w.heap.size + 1) (.loop { rec .ready none with state := .busy })) := (KeepC.of_upd (Upd.any (F := fun _ => False) hbV) fun _ _ h => h).trans (KeepC.of_upd (putObj_upd _ _ _) fun b hb e => by simp at hb; omega)
      refine ⟨fn, _, assign, body, hy, roundIn_of_wpIn hfn (hassign _ c W _ ⟨_, run_beginRound (by rw [hV]; exact hlV) (by rw [hrec]), ?_⟩)⟩
      rw [hV]
      refine wpIn_mono (hbody _ c _ W.heap.size c0 c1 hi2 (by omega) hx2) ?_
      have fin : ∀ (jump : Option Code) (W3 : World), KeepC (bkL w Ba Bn) (V.putObj (w.heap.size + 1) (.loop { rec .ready none with state := .busy })) W3 →
          (Instr.endRound (w.heap.size + 1) jump).run Try.prog W3 = .ok (.bool jump.isNone) (W3.putObj (w.heap.size + 1) (.loop (rec (if jump.isNone then .ready else .done) jump))) ∧
          (W3.putObj (w.heap.size + 1) (.loop (rec (if jump.isNone then .ready else .done) jump))).heap[w.heap.size + 1]? = some (.loop (rec (if jump.isNone then .ready else .done) jump)) ∧
          (W3.putObj (w.heap.size + 1) (.loop (rec (if jump.isNone then .ready else .done) jump))).heap[w.heap.size]? = some (.deferred (some [])) := fun jump W3 hk3 => by
        have hl3 := hk3 (w.heap.size + 1) (by simp [bkL]) _ hl2
        have := run_endRound (P := Try.prog) jump hl3
        rw [hrec] at this ⊢
        exact ⟨this, World.putObj_heap_same (Array.getElem?_eq_some_iff.1 hl3).1, (World.putObj_heap_other (by omega)).trans (hk3 w.heap.size (by simp [bkL]) _ hk2)⟩
      rintro e a3 W3 hp
      cases e with
      | normal =>
        obtain ⟨hk3, hi3⟩ := hp
        obtain ⟨hr, hl4, hk4⟩ := fin none W3 hk3
        refine ⟨_, _, hr, .inl ⟨rfl, ⟨hI _ _ _ hi3 ((putObj_upd _ _ _).mono hin), hl4, hk4⟩, ?_⟩⟩
        exact hkeep.trans ((hk3.mono fun b hb => by simp [bkL] at hb ⊢; omega).trans (KeepC.of_upd (putObj_upd _ _ _) fun b hb e => by simp at hb; omega))
      | ret =>
        obtain ⟨hk3, hi3⟩ := hp
        obtain ⟨hr, hl4, hk4⟩ := fin (some .ret) W3 hk3
        exact ⟨_, _, hr, .inr ⟨rfl, hIx _ _ _ hi3 ((putObj_upd _ _ _).mono hin), hl4, hk4⟩⟩
      | exit id => exact hp.elim
      | goto t => exact hp.elim
      | panic ch => exact hp.elim
      | outgrown => exact hp.elim
    · -- behind the iterator
      rintro e W2 ⟨⟨v, rfl⟩, (⟨hi, hl, hk⟩ | ⟨c, c0, c1, hi, hl, hk⟩)⟩
      · exact ⟨none, _, by have := run_endLoop (P := Try.prog) hl (by rw [hrec]; simp); rw [hrec] at this; exact this, hdone _ (hI _ _ _ hi ((putObj_upd _ _ _).mono hin)) ((World.putObj_heap_other (by omega)).trans hk)⟩
      · exact ⟨some .ret, _, by have := run_endLoop (P := Try.prog) hl (by rw [hrec]; simp); rw [hrec] at this; exact this, hstop c _ c0 c1 (hIx _ _ _ hi ((putObj_upd _ _ _).mono hin)) ((World.putObj_heap_other (by omega)).trans hk)⟩
end Go.Proofs.Ytidojcogojchpaa

/- mem: pieces, bad. -/
set_option linter.unusedVariables false
set_option linter.unusedSimpArgs false
namespace Go.Proofs.Ytidojcogojchpaa
open Go.RowKit Go.Shelf
attribute [local go_sem] Oper.semAt_some

/-! ### A list of new blocks -/
def allocs (w : World) (l : List Obj) : World := l.foldl World.alloc w
theorem allocs_size (w : World) (l : List Obj) : (allocs w l).heap.size = w.heap.size + l.length := by
  induction l generalizing w with
  | nil => rfl
  | cons o l ih => rw [allocs, List.foldl_cons, ← allocs, ih, World.size_alloc, List.length_cons]; omega
theorem allocs_below (w : World) (l : List Obj) : Below w.heap.size w (allocs w l) := by
  induction l generalizing w with
  | nil => exact Below.refl _ _
  | cons o l ih => exact (balloc w o).trans ((ih (w.alloc o)).mono (by simp))
theorem allocs_at (w : World) (l : List Obj) (i : Nat) (o : Obj) (h : l[i]? = some o) : (allocs w l).heap[w.heap.size + i]? = some o := by
  induction l generalizing w i with
  | nil => simp at h
  | cons p l ih =>
    cases i with
    | zero =>
      obtain rfl : p = o := by simpa using h
      have := (allocs_below (w.alloc p) l).block w.heap.size (by simp)
      exact this.trans (heap_alloc_new _ _)
    | succ i =>
      have := ih (w.alloc p) i (by simpa using h)
      rw [World.size_alloc, show w.heap.size + 1 + i = w.heap.size + (i + 1) by omega] at this
      exact this
theorem store_piece (V : World) (at_ n c : Int) : (storeCells ⟨V.heap.size, 0, none⟩ (pcCells at_ n c).toList).run Try.prog (V.alloc (.cells #[.int .u32 0, .int .i64 0, .int .i64 0, .int .i64 0] 149)) = .ok () (V.alloc (.cells (pcCells at_ n c) 149)) :=
  run_storeCells_new V _ _ _ (by rw [show (pcCells at_ n c).size = 4 from rfl]; kernel_rfl) rfl (by simp [pcCells, Value.oneCell'])
theorem pieces_any (at_ n : Int) (w : World) : Calls Try.prog 104 #[.int .u32 at_, .int .i64 n] w fun e w' =>
    e = .returned (.func (.func 132) #[] #[.pointer (some ⟨w.heap.size + 1, 0, none⟩), .pointer (some ⟨w.heap.size, 0, none⟩)]) ∧ (w.alloc (.cells #[.int .u32 at_] 34)).alloc (.cells #[.int .i64 n] 3) = w' := by
  go_enter Try.func104, Try.ntmps104
  go_wp2
  go_ret
  exact ⟨rfl, rfl⟩
theorem pc_page {at_ n c i : Int} (h0 : c ≤ i) (h1 : i < c + pcLen at_ n c) : pcAt at_ i = pcAt at_ c + (i - c) ∧ pcAt at_ i / 256 = pcAt at_ c / 256 := by
  have hk : pcLen at_ n c ≤ 256 - pcAt at_ c % 256 := Int.min_le_right _ _
  obtain ⟨a1, a2⟩ := pcAt_range at_ c
  have e : pcAt at_ i = pcAt at_ c + (i - c) := by
    have e1 : pcAt at_ i = (pcAt at_ c + (i - c)) % 4294967296 := by
      unfold pcAt
      rw [Int.emod_add_emod, show at_ + c + (i - c) = at_ + i by omega]
    rw [e1]
    exact Int.emod_eq_of_lt (by omega) (by omega)
  exact ⟨e, by rw [e]; omega⟩
/-- Has the page of an address these rights? -/
def okA (A : PM) (need a : Int) : Prop := a / 256 ∈ A.ks ∧ bits .and .i64 (A.pg (a / 256)).r need = need
instance (A : PM) (need a : Int) : Decidable (okA A need a) := by unfold okA; exact inferInstance
/-- How bad ends. -/
structure BadE (A : PM) (at_ n need : Int) (w : World) (e : Ending) (w' : World) : Prop where
  below : Below w.heap.size w w'
  res : (e = .returned (.tuple #[.int .u32 0, .bool false]) ∧ ∀ i, 0 ≤ i → i < n → okA A need (pcAt at_ i)) ∨ (∃ c, 0 ≤ c ∧ c < n ∧ e = .returned (.tuple #[.int .u32 (pcAt at_ c), .bool true]) ∧ ¬ okA A need (pcAt at_ c) ∧ ∀ i, 0 ≤ i → i < c → okA A need (pcAt at_ i))
/-- Between two rounds. -/
structure BadI (W : World) (b : Nat) (S : MS) (A : PM) (at_ need c : Int) (a8 : Int) (a9 : Bool) (V : World) : Prop where
  m : V.heap[W.heap.size]? = some (.cells #[.pointer (some ⟨b, 0, none⟩)] 25 (0, 0))
  nd : V.heap[W.heap.size + 1]? = some (.cells #[.int .i64 need] 3 (0, 0))
  x : V.heap[W.heap.size + 2]? = some (.cells #[.int .u32 a8] 34 (0, 0))
  is : V.heap[W.heap.size + 3]? = some (.cells #[.bool a9] 4 (0, 0))
  mem : MemIs V b S A
  below : Below W.heap.size W V
  ok : ∀ i, 0 ≤ i → i < c → okA A need (pcAt at_ i)
theorem BadI.upd {W : World} {b : Nat} {S : MS} {A : PM} {at_ need c a8 : Int} {a9 : Bool} {V V' : World} (h : BadI W b S A at_ need c a8 a9 V) (hl : ∀ k, S.reads A.ks b k → k < W.heap.size) {F : Nat → Prop} (hu : Upd F V V') (hF : ∀ k, F k → W.heap.size + 4 ≤ k) : BadI W b S A at_ need c a8 a9 V' := by
  have hb : ∀ k o, k < W.heap.size + 4 → V.heap[k]? = some o → V'.heap[k]? = some o := fun k o hk e => by
    rw [hu.block k (Array.getElem?_eq_some_iff.1 e).1 fun hf => by have := hF k hf; omega]; exact e
  exact ⟨hb _ _ (by omega) h.m, hb _ _ (by omega) h.nd, hb _ _ (by omega) h.x, hb _ _ (by omega) h.is, h.mem.upd hu fun k hk hf => by have := hl k hk; have := hF k hf; omega, h.below.trans (hu.below h.below.size fun k hf => by have := hF k hf; omega), h.ok⟩
/-- Both results are stored. -/
theorem BadI.set {W : World} {b : Nat} {S : MS} {A : PM} {at_ need c a8 : Int} {a9 : Bool} {V : World} (h : BadI W b S A at_ need c a8 a9 V) (hl : ∀ k, S.reads A.ks b k → k < W.heap.size) (x : Int) (t : Bool) :
    BadI W b S A at_ need c x t ((V.setCell ⟨W.heap.size + 2, 0, none⟩ (.int .u32 x)).setCell ⟨W.heap.size + 3, 0, none⟩ (.bool t)) ∧
    (V.setCell ⟨W.heap.size + 2, 0, none⟩ (.int .u32 x)).frozen? ⟨W.heap.size + 3, 0, none⟩ = false ∧
    ((V.setCell ⟨W.heap.size + 2, 0, none⟩ (.int .u32 x)).cell? ⟨W.heap.size + 3, 0, none⟩ = some (.bool a9)) ∧
    Upd (fun k => k = W.heap.size + 2 ∨ k = W.heap.size + 3) V ((V.setCell ⟨W.heap.size + 2, 0, none⟩ (.int .u32 x)).setCell ⟨W.heap.size + 3, 0, none⟩ (.bool t)) := by
  obtain ⟨W1, hW1⟩ : ∃ W1, V.setCell ⟨W.heap.size + 2, 0, none⟩ (.int .u32 x) = W1 := ⟨_, rfl⟩
  rw [hW1]
  have u1 : Upd (fun k => k = W.heap.size + 2) V W1 := by rw [← hW1]; exact Upd.setCell V ⟨W.heap.size + 2, 0, none⟩ _
  have u2 : Upd (fun k => k = W.heap.size + 3) W1 (W1.setCell ⟨W.heap.size + 3, 0, none⟩ (.bool t)) := Upd.setCell W1 ⟨W.heap.size + 3, 0, none⟩ _
  have hx1 : W1.heap[W.heap.size + 2]? = some (.cells #[.int .u32 x] 34 (0, 0)) := by rw [← hW1, setCell_row h.x]; rfl
  have hi1 : W1.heap[W.heap.size + 3]? = some (.cells #[.bool a9] 4 (0, 0)) := by rw [u1.block _ (Array.getElem?_eq_some_iff.1 h.is).1 (by omega)]; exact h.is
  have u := (u1.mono fun _ e => .inl e).trans (G := fun k => k = W.heap.size + 3) (F := fun k => k = W.heap.size + 2 ∨ k = W.heap.size + 3) u2 fun _ e => .inl (.inr e)
  have hb : ∀ k o, k < W.heap.size + 2 → V.heap[k]? = some o → (W1.setCell ⟨W.heap.size + 3, 0, none⟩ (.bool t)).heap[k]? = some o := fun k o hk e => by
    rw [u.block k (Array.getElem?_eq_some_iff.1 e).1 (by omega)]; exact e
  refine ⟨⟨hb _ _ (by omega) h.m, hb _ _ (by omega) h.nd, ?_, ?_, h.mem.upd u fun k hk hf => by have := hl k hk; omega, h.below.trans (u.below h.below.size fun k hf => by omega), h.ok⟩, by simp [World.frozen?, hi1], by simp [World.cell?, hi1], u⟩
  · rw [u2.block _ (Array.getElem?_eq_some_iff.1 hx1).1 (by omega)]; exact hx1
  · rw [setCell_row hi1]; rfl
theorem BadI.cells {W : World} {b : Nat} {S : MS} {A : PM} {at_ need c a8 : Int} {a9 : Bool} {V : World} (h : BadI W b S A at_ need c a8 a9 V) :
    V.cell? ⟨W.heap.size + 2, 0, none⟩ = some (.int .u32 a8) ∧ V.frozen? ⟨W.heap.size + 2, 0, none⟩ = false ∧ V.cell? ⟨W.heap.size + 3, 0, none⟩ = some (.bool a9) ∧ V.frozen? ⟨W.heap.size + 3, 0, none⟩ = false := by
  simp [World.cell?, World.frozen?, h.x, h.is]
set_option maxRecDepth 100000 in
set_option maxHeartbeats 4000000 in
theorem bad_in (W : World) (b : Nat) (S : MS) (A : PM) (at_ n need : Int) (h : MemIs W b S A) (ha : 0 ≤ at_ ∧ at_ < 4294967296) (hn : 0 ≤ n ∧ n ≤ 1000000) (hnd : 0 ≤ need ∧ need ≤ 7) :
    CallsIn Fence.wide 6 Try.prog 103 #[.pointer (some ⟨b, 0, none⟩), .int .u32 at_, .int .i64 n, .int .i64 need] W fun e w' => BadE A at_ n need W e w' := by
  have hl := h.lt
  refine callsIn_of_wp_marks Try.func103 rfl trivial ?_ rfl
  simp only [Try.ntmps103, List.size_toArray, List.length_cons, List.length_nil, Nat.reduceAdd, Nat.reduceSub, Array.replicate_succ, Array.replicate_zero, List.push_toArray, List.append_toArray, List.nil_append, List.cons_append]
  obtain ⟨W0, hW0⟩ : ∃ W0, allocs W [.cells #[.pointer (some ⟨b, 0, none⟩)] 25, .cells #[.int .i64 need] 3, .cells #[.int .u32 0] 34, .cells #[.bool false] 4, .cells #[.int .u32 at_] 34, .cells #[.int .i64 n] 3] = W0 := ⟨_, rfl⟩
  have HW0 : Hid (((((((W.alloc (.cells #[.pointer (some ⟨b, 0, none⟩)] 25)).alloc (.cells #[.int .i64 need] 3)).alloc (.cells #[.int .u32 0] 34)).alloc (.cells #[.bool false] 4)).alloc (.cells #[.int .u32 at_] 34)).alloc (.cells #[.int .i64 n] 3)) = W0) := Lib.hid hW0
  have hs0 : Hid (W0.heap.size = W.heap.size + 6) := Lib.hid (by rw [← hW0, allocs_size]; rfl)
  have hb : Below W.heap.size W W0 := by rw [← hW0]; exact allocs_below _ _
  have hB0 : Hid (Boxes W0 (W.heap.size + 4) (W.heap.size + 5) (pcAt at_ 0) n) := Lib.hid (by
    rw [← hW0, show pcAt at_ 0 = at_ by unfold pcAt; omega]
    exact ⟨allocs_at _ _ 4 _ rfl, allocs_at _ _ 5 _ rfl⟩)
  have hI0 : Hid (BadI W b S A at_ need 0 0 false W0) := Lib.hid (by
    rw [← hW0]
    exact ⟨allocs_at _ _ 0 _ rfl, allocs_at _ _ 1 _ rfl, allocs_at _ _ 2 _ rfl, allocs_at _ _ 3 _ rfl, h.below (by rw [hW0]; exact hb), (by rw [hW0]; exact hb), fun i a b => by omega⟩)
  clear hW0
  gi_wp2_with (refine ⟨trivial, ?_⟩; gi_at_call 104; refine (callsIn_wide.2 (pieces_any _ _ _)).mono ?_; rintro e w' ⟨rfl, rfl⟩)
  rw [HW0.out]
  refine wpIn_pieces (q := 6) (Ba := W.heap.size + 4) (Bn := W.heap.size + 5) (by omega) (by omega) at_ n hn rfl rfl hB0.out
    (fun c V => BadI W b S A at_ need c 0 false V) (fun c V => BadI W b S A at_ need c (pcAt at_ c) true V ∧ ¬ okA A need (pcAt at_ c)) ?_ ?_ hI0.out
    (fun c X => { tmps := #[.pointer (some ⟨b, 0, none⟩), .int .u32 at_, .int .i64 n, .int .i64 need, .pointer (some ⟨W.heap.size, 0, none⟩), undef, undef, .pointer (some ⟨W.heap.size + 1, 0, none⟩), .pointer (some ⟨W.heap.size + 2, 0, none⟩), .pointer (some ⟨W.heap.size + 3, 0, none⟩), .pointer (some ⟨X, 0, none⟩), undef, .int .u32 at_, .int .i64 n, .func (.func 132) #[] #[.pointer (some ⟨W.heap.size + 5, 0, none⟩), .pointer (some ⟨W.heap.size + 4, 0, none⟩)], .agg (pcCells at_ n c), undef, undef, undef, undef, undef, undef, undef, undef, undef, undef, undef, undef, undef, undef, undef, undef, undef, undef, undef, undef, undef], defers := [] }) ?_ ?_ ?_ ?_
  · intro c V V' hi hu
    exact hi.upd hl hu fun k hk => by have := hs0.out; simp [Bk, bkL] at hk; omega
  · rintro c V V' ⟨hi, hx⟩ hu
    exact ⟨hi.upd hl hu fun k hk => by have := hs0.out; simp [Bk, bkL] at hk; omega, hx⟩
  · intro l c V K hK
    gi_wp2_with fail
    rw [store_piece]
    gi_wp2_with fail
    exact hK
  · intro l c V X c0 c1 hi hX hx
    obtain ⟨g0, g1, g2, _, _, _⟩ := hi.mem.cells
    have cm : V.cell? ⟨W.heap.size, 0, none⟩ = some (.pointer (some ⟨b, 0, none⟩)) := by simp [World.cell?, hi.m]
    have cn : V.cell? ⟨W.heap.size + 1, 0, none⟩ = some (.int .i64 need) := by simp [World.cell?, hi.nd]
    have cx0 : V.cell? ⟨X, 0, none⟩ = some (.int .u32 (pcAt at_ c)) := by simp [World.cell?, hx, pcCells]
    have cx1 : V.cell? ⟨X, 1, none⟩ = some (.int .i64 (pcAt at_ c / 256)) := by simp [World.cell?, hx, pcCells]
    have hm1 : MemIs V.drew b S A := hi.mem.upd (Upd.drew (fun _ => False) V) fun _ _ h => h
    have hlk := hm1.pages.run_look (P := Try.prog) Try.underlying102 Try.underlying3 zero_page (pcAt at_ c / 256)
    obtain ⟨V1, hV1⟩ : ∃ V1, V.drew = V1 := ⟨_, rfl⟩
    obtain ⟨V2, hV2⟩ : ∃ V2, V1.drew = V2 := ⟨_, rfl⟩
    have k1 : ∀ {x : Addr} {v : Value}, V.cell? x = some v → ∀ q : Just V1, q.W.cell? x = some v := fun h q => Just.cell (by rw [← hV1]; exact h) q
    have k2 : ∀ {x : Addr} {v : Value}, V.cell? x = some v → ∀ q : Just V2, q.W.cell? x = some v := fun h q => Just.cell (by rw [← hV2, ← hV1]; exact h) q
    have a1 := k1 g1
    have a2 := k1 cm
    have a3 := k1 cx1
    have a4 := k2 cn
    rw [hV1] at hlk
    have hlk1 : ∀ q : Just V1, _ := fun q => q.eq ▸ hlk
    have hu2 : Upd (fun _ => False) V V2 := by rw [← hV2, ← hV1]; exact Upd.drewN _ V 2
    have hi2 : BadI W b S A at_ need c 0 false V2 := hi.upd hl hu2 fun _ h => h.elim
    obtain ⟨d2, e2, d3, e3⟩ := hi2.cells
    obtain ⟨hi3, e3', d3', u3⟩ := hi2.set hl (pcAt at_ c) true
    have cx2 : V2.cell? ⟨X, 0, none⟩ = some (.int .u32 (pcAt at_ c)) := (World.cell?_of_block (hu2.block X (Array.getElem?_eq_some_iff.1 hx).1 fun h => h)).trans cx0
    have HI := Lib.hid hi
    have HX := Lib.hid hx
    have HI2 := Lib.hid hi2
    have HI3 := Lib.hid hi3
    have HU3 := Lib.hid u3
    have HU2 := Lib.hid hu2
    clear hi2 hi3 u3 hu2
    have hs0' := hs0.out
    have fin : okA A need (pcAt at_ c) → pcPost (bkL W0 (W.heap.size + 4) (W.heap.size + 5)) (fun c V => BadI W b S A at_ need c 0 false V) (fun c V => BadI W b S A at_ need c (pcAt at_ c) true V ∧ ¬okA A need (pcAt at_ c)) c (c + pcLen at_ n c) V .normal { tmps := #[], defers := [] } V2 := fun hok => by
      refine ⟨KeepC.of_upd HU2.out fun _ _ h => h, ?_⟩
      have hi2 := HI2.out
      exact ⟨hi2.m, hi2.nd, hi2.x, hi2.is, hi2.mem, hi2.below, fun i i0 i1 => by
        rcases Int.lt_or_le i c with h1 | h1
        · exact hi2.ok i i0 h1
        · have := (pc_page h1 i1).2
          unfold okA at hok ⊢
          rw [this]; exact hok⟩
    have fin2 : ¬ okA A need (pcAt at_ c) → pcPost (bkL W0 (W.heap.size + 4) (W.heap.size + 5)) (fun c V => BadI W b S A at_ need c 0 false V) (fun c V => BadI W b S A at_ need c (pcAt at_ c) true V ∧ ¬okA A need (pcAt at_ c)) c (c + pcLen at_ n c) V .ret { tmps := #[], defers := [] } ((V2.setCell ⟨W.heap.size + 2, 0, none⟩ (.int .u32 (pcAt at_ c))).setCell ⟨W.heap.size + 3, 0, none⟩ (.bool true)) := fun hok =>
      ⟨(KeepC.of_upd HU2.out fun _ _ h => h).trans (KeepC.of_upd HU3.out fun x hx h => by simp [bkL] at hx; omega), HI3.out, hok⟩
    have FIN := Lib.hid fin
    have FIN2 := Lib.hid fin2
    clear fin fin2 hs0'
    by_cases hk : pcAt at_ c / 256 ∈ A.ks
    · rw [if_pos hk] at hlk1
      have cr := k2 (pg_cells (hi.mem.page _ hk).1).1
      clear hi hx hlk k1 k2
      gi_wp2_with fail
      refine region_tail_in 7 (open_round l) hV1 (by kernel_rfl) (by kernel_rfl) (by kernel_rfl) ?_
      simp only [List.take_succ_cons, List.take_zero, List.drop_succ_cons, List.drop_zero]
      repeat (go_big_quiet_step (fail))
      refine wpQuiet_nil ?_
      gi_wp2_with fail
      refine region_tail_in 11 (open_round l) hV2 (by kernel_rfl) (by kernel_rfl) (by kernel_rfl) ?_
      simp only [List.take_succ_cons, List.take_zero, List.drop_succ_cons, List.drop_zero]
      repeat (go_big_quiet_step (fail))
      refine wpQuiet_nil ?_
      gi_wp2_with fail
      · rename_i hc
        exact FIN2.out fun h => by simp [h.2] at hc
      · rename_i hc
        exact FIN.out ⟨hk, by simpa using hc⟩
    · rw [if_neg hk] at hlk1
      clear hi hx hlk k1 k2
      gi_wp2_with fail
      refine region_tail_in 7 (open_round l) hV1 (by kernel_rfl) (by kernel_rfl) (by kernel_rfl) ?_
      simp only [List.take_succ_cons, List.take_zero, List.drop_succ_cons, List.drop_zero]
      repeat (go_big_quiet_step (fail))
      refine wpQuiet_nil ?_
      gi_wp2_with fail
      refine region_tail_in 11 (open_round l) hV2 (by kernel_rfl) (by kernel_rfl) (by kernel_rfl) ?_
      simp only [List.take_succ_cons, List.take_zero, List.drop_succ_cons, List.drop_zero]
      repeat (go_big_quiet_step (fail))
      refine wpQuiet_nil ?_
      gi_wp2_with fail
      exact FIN2.out fun h => hk h.1
  · intro V hi hK
    obtain ⟨d2, e2, d3, e3⟩ := hi.cells
    obtain ⟨hi3, e3', d3', u3⟩ := hi.set hl 0 false
    have HI3 := Lib.hid hi3
    have HU3 := Lib.hid u3
    have HI := Lib.hid hi
    clear hi hi3 u3
    gi_wp2_with fail
    have hs0' := hs0.out
    have hK2 : ((V.setCell ⟨W.heap.size + 2, 0, none⟩ (.int .u32 0)).setCell ⟨W.heap.size + 3, 0, none⟩ (.bool false)).heap[W0.heap.size]? = some (.deferred (some [])) := by
      rw [HU3.out.block _ (Array.getElem?_eq_some_iff.1 hK).1 (by omega)]; exact hK
    refine ⟨by simp, .inl ⟨_, _, rfl, run_takeDeferred hK2, ?_⟩⟩
    have hi4 := HI3.out.upd hl (putObj_upd _ W0.heap.size (.deferred none)) fun k e => by omega
    obtain ⟨d2, e2, d3, e3⟩ := hi4.cells
    refine ⟨.tuple #[.int .u32 0, .bool false], ?_, hi4.below, .inl ⟨rfl, fun i i0 i1 => hi4.ok i i0 i1⟩⟩
    simp [results, Try.func103, go_sem, d2, d3]
  · rintro c V c0 c1 ⟨hi, hnk⟩ hK
    gi_wp2_with fail
    have hs0' := hs0.out
    refine ⟨by simp, .inl ⟨_, _, rfl, run_takeDeferred hK, ?_⟩⟩
    have hi4 := hi.upd hl (putObj_upd _ W0.heap.size (.deferred none)) fun k e => by omega
    obtain ⟨d2, e2, d3, e3⟩ := hi4.cells
    refine ⟨.tuple #[.int .u32 (pcAt at_ c), .bool true], ?_, hi4.below, .inr ⟨c, c0, c1, rfl, hnk, fun i i0 i1 => hi4.ok i i0 i1⟩⟩
    simp [results, Try.func103, go_sem, d2, d3]
end Go.Proofs.Ytidojcogojchpaa

/- mem: read. -/
set_option linter.unusedVariables false
set_option linter.unusedSimpArgs false
namespace Go.Proofs.Ytidojcogojchpaa
open Go.RowKit Go.Shelf
attribute [local go_sem] Oper.semAt_some

theorem bad_any (W : World) (b : Nat) (S : MS) (A : PM) (at_ n need : Int) (h : MemIs W b S A) (ha : 0 ≤ at_ ∧ at_ < 4294967296) (hn : 0 ≤ n ∧ n ≤ 1000000) (hnd : 0 ≤ need ∧ need ≤ 7) :
    Calls Try.prog 103 #[.pointer (some ⟨b, 0, none⟩), .int .u32 at_, .int .i64 n, .int .i64 need] W fun e w' => BadE A at_ n need W e w' :=
  callsIn_wide.1 (bad_in W b S A at_ n need h ha hn hnd)
/-- The byte at an address; n of them. -/
def byteAt (A : PM) (a : Int) : Int := gi (A.pg (a / 256)).bs (a % 256).toNat
def bytesN (A : PM) (at_ : Int) (n : Nat) : List Int := (List.range n).map fun (i : Nat) => byteAt A (pcAt at_ (i : Int))
theorem bytesN_len (A : PM) (at_ : Int) (n : Nat) : (bytesN A at_ n).length = n := by simp [bytesN]
theorem bytesN_more {A : PM} {at_ n c : Int} (h0 : 0 ≤ c) (h1 : c < n) (hok : PgOk (A.pg (pcAt at_ c / 256))) :
    bytesN A at_ (c + pcLen at_ n c).toNat = bytesN A at_ c.toNat ++ ((A.pg (pcAt at_ c / 256)).bs.drop (pcAt at_ c % 256).toNat).take (pcLen at_ n c).toNat := by
  obtain ⟨k1, k2, k3⟩ := pcLen_pos (at_ := at_) h1
  have hl := hok.len
  have hm := Int.emod_nonneg (pcAt at_ c) (show (256 : Int) ≠ 0 by omega)
  unfold bytesN
  rw [Int.toNat_add h0 (by omega), List.range_add, List.map_append, List.map_map]
  congr 1
  apply List.ext_getElem
  · simp; omega
  · intro i i1 i2
    have hi : i < (pcLen at_ n c).toNat := by simpa using i1
    obtain ⟨e1, e2⟩ := pc_page (at_ := at_) (n := n) (c := c) (i := c + i) (by omega) (by omega)
    have e3 : pcAt at_ (c + i) % 256 = pcAt at_ c % 256 + i := by omega
    simp only [List.getElem_map, List.getElem_range, Function.comp_apply, List.getElem_take, List.getElem_drop]
    rw [show ((c.toNat + i : Nat) : Int) = c + i by omega]
    unfold byteAt
    rw [e2, e3, show (pcAt at_ c % 256 + (i : Int)).toNat = (pcAt at_ c % 256).toNat + i by omega]
    exact gi_get _ _ (by omega)
/-- All bytes may be had. -/
def allOk (A : PM) (need at_ n : Int) : Prop := ∀ i, 0 ≤ i → i < n → okA A need (pcAt at_ i)
/-- The first byte that may not. -/
def badAt (A : PM) (need at_ n c : Int) : Prop := 0 ≤ c ∧ c < n ∧ ¬ okA A need (pcAt at_ c) ∧ ∀ i, 0 ≤ i → i < c → okA A need (pcAt at_ i)
inductive ReadR (A : PM) (at_ n need : Int) (W : World) (w' : World) : Value → Int → Bool → Prop
  | arg : n < 0 ∨ 65536 < n → ReadR A at_ n need W w' (.slice none 0 0) at_ false
  | bad (c : Int) : 0 ≤ n → n ≤ 65536 → badAt A need at_ n c → ReadR A at_ n need W w' (.slice none 0 0) (pcAt at_ c) false
  | ok (v : Value) : 0 ≤ n → n ≤ 65536 → allOk A need at_ n → w'.ownsRow W.heap.size 5 1 v n.toNat (nums .u8 (bytesN A at_ n.toNat)) → ReadR A at_ n need W w' v 0 true
/-- How read ends. -/
structure ReadE (A : PM) (at_ n need : Int) (W : World) (e : Ending) (w' : World) : Prop where
  below : Below W.heap.size W w'
  res : ∃ v a t, e = .returned (.tuple #[v, .int .u32 a, .bool t]) ∧ ReadR A at_ n need W w' v a t
theorem info_u8 : (Try.prog.info? 5).map (fun i => (i.zero, i.size, i.bytes)) = some (some (.int .u8 0), 1, 1) := by kernel_rfl
theorem info_u8' : ∃ i, Try.prog.info? 5 = some i ∧ i.size = 1 := by
  obtain ⟨i0, h, _, h1, _⟩ := info_parts info_u8
  exact ⟨i0, h, h1⟩
set_option maxRecDepth 100000 in
theorem read_arg (W : World) (b : Nat) (S : MS) (A : PM) (at_ n need : Int) (h : MemIs W b S A) (hn : n < 0 ∨ 65536 < n) :
    Calls Try.prog 68 #[.pointer (some ⟨b, 0, none⟩), .int .u32 at_, .int .i64 n, .int .i64 need] W fun e w' => ReadE A at_ n need W e w' := by
  clear h
  go_enter Try.func68, Try.ntmps68
  by_cases h0 : n < 0
  · go_wp2
    go_ret3
    exact ⟨balloc _ _, _, _, _, rfl, .arg hn⟩
  · have h1 : n > 65536 := by omega
    go_wp2
    go_ret3
    exact ⟨balloc _ _, _, _, _, rfl, .arg hn⟩
set_option maxRecDepth 100000 in
theorem read_nil (W : World) (at_ n need : Int) :
    Calls Try.prog 68 #[.pointer none, .int .u32 at_, .int .i64 n, .int .i64 need] W fun e w' => e = .returned (.tuple #[.slice none 0 0, .int .u32 at_, .bool false]) ∧ Below W.heap.size W w' := by
  go_enter Try.func68, Try.ntmps68
  go_wp2
  go_ret3
  exact ⟨rfl, balloc _ _⟩
theorem pg_range1 {W : World} {p : Nat} {g : Pg} (h : W.heap[p]? = some (pgObj g)) (j : Nat) : W.cell? ⟨p, j + 1, none⟩ = (nums .u8 g.bs)[j]? := by
  unfold pgObj at h
  simp [World.cell?, h, pgCells]
/-- A part of a page's bytes. -/
theorem slice_page (p : Nat) (l h : Int) (h0 : 0 ≤ l) (h1 : l < 256) (h2 : l ≤ h) (h3 : h ≤ 256) (W : World) :
    (Instr.sliceAt 96 (.pointer (some ⟨p, 1, none⟩)) (some (.int .i64 l)) (some (.int .i64 h)) none).run Try.prog W = .ok (.slice (some ⟨p, 1 + l.toNat, none⟩) (h - l).toNat (256 - l.toNat)) W := by
  have hal : Try.prog.arrayLen 96 = 256 := by kernel_rfl
  rw [run_sliceAt_array_lh W _ _ (by kernel_rfl) _ _ _ _ h0 h2 (by rw [hal]; exact h3), hal]
  have hsz : (sizeOf (Try.prog.elem 96)).run Try.prog W = .ok 1 W := by
    obtain ⟨i0, e0, e1⟩ := info_u8'
    rw [show Try.prog.elem 96 = 5 by kernel_rfl]
    simp [sizeOf, typeInfo, e0, e1]
  rw [hsz]
  simp only [Result.andThen, slicedAt]
  rw [if_neg (by omega), show h.toNat - l.toNat = (h - l).toNat by omega]
  unfold Addr.add
  simp
/-- Between two rounds. -/
structure RedI (W : World) (b : Nat) (S : MS) (A : PM) (at_ : Int) (g o cap : Nat) (c : Int) (V : World) : Prop where
  m : V.heap[W.heap.size]? = some (.cells #[.pointer (some ⟨b, 0, none⟩)] 25 (0, 0))
  out : V.heap[o]? = some (.cells #[.slice (some ⟨g, 0, none⟩) c.toNat cap] 42 (0, 0))
  row : V.ownsRow W.heap.size 5 1 (.slice (some ⟨g, 0, none⟩) c.toNat cap) c.toNat (nums .u8 (bytesN A at_ c.toNat))
  mem : MemIs V b S A
  below : Below W.heap.size W V
theorem RedI.upd {W : World} {b : Nat} {S : MS} {A : PM} {at_ c : Int} {g o cap : Nat} {V V' : World} (h : RedI W b S A at_ g o cap c V) (hl : ∀ k, S.reads A.ks b k → k < W.heap.size) {F : Nat → Prop} (hu : Upd F V V') (hF : ∀ k, F k → W.heap.size < k ∧ k ≠ g ∧ k ≠ o) : RedI W b S A at_ g o cap c V' := by
  have hb : ∀ k x, ¬ F k → V.heap[k]? = some x → V'.heap[k]? = some x := fun k x hk e => by
    rw [hu.block k (Array.getElem?_eq_some_iff.1 e).1 hk]; exact e
  exact ⟨hb _ _ (fun hf => by have := hF _ hf; omega) h.m, hb _ _ (fun hf => (hF _ hf).2.2 rfl) h.out, own_upd h.row hu fun k hk hf => by
      have e : g = k := by simpa [Value.ownBlock] using hk
      exact (hF _ hf).2.1 e.symm, h.mem.upd hu fun k hk hf => by have := hl k hk; have := hF k hf; omega, h.below.trans (hu.below h.below.size fun k hf => by have := hF k hf; omega)⟩
set_option maxRecDepth 100000 in
set_option maxHeartbeats 4000000 in
theorem read_in (W : World) (b : Nat) (S : MS) (A : PM) (at_ n need : Int) (h : MemIs W b S A) (ha : 0 ≤ at_ ∧ at_ < 4294967296) (hn : 0 ≤ n ∧ n ≤ 65536) (hnd : 0 ≤ need ∧ need ≤ 7) :
    CallsIn Fence.wide 8 Try.prog 68 #[.pointer (some ⟨b, 0, none⟩), .int .u32 at_, .int .i64 n, .int .i64 need] W fun e w' => ReadE A at_ n need W e w' := by
  obtain ⟨i0, hi0, hz0, hz1, hz2⟩ := info_parts info_u8
  have hnm : (n.toNat : Int) = n := by omega
  have hc0 : ¬ n < 0 := by omega
  have hc1 : ¬ n > 65536 := by omega
  have hm0 := Lib.hid (h.below (balloc W (.cells #[.pointer (some ⟨b, 0, none⟩)] 25)))
  have hl := h.lt
  refine callsIn_of_wp_marks Try.func68 rfl trivial ?_ rfl
  simp only [Try.ntmps68, List.size_toArray, List.length_cons, List.length_nil, Nat.reduceAdd, Nat.reduceSub, Array.replicate_succ, Array.replicate_zero, List.push_toArray, List.append_toArray, List.nil_append, List.cons_append]
  gi_wp2_with (refine ⟨trivial, ?_⟩; gi_at_call 103; refine (callsIn_wide.2 (bad_any _ b S A at_ n need hm0.out ha ⟨hn.1, by omega⟩ hnd)).mono ?_)
  rintro e w1 ⟨hb1, ⟨rfl, hok⟩ | ⟨c, c0, c1, rfl, hnk, hok⟩⟩
  · obtain ⟨W2, hmk, hown0, hg0⟩ := run_make_own (P := Try.prog) (w := w1) W.heap.size 42 5 i0 (.int .u8 0) 1 Try.underlying42 hi0 hz0 hz1 .i64 .i64 n.toNat (by rw [hz2]; omega) (by unfold maxLen; omega) (by have := hb1.size; simp at this; omega)
    rw [hnm] at hmk
    gi_wp2_with fail
    refine ⟨trivial, ?_⟩
    gi_at_call 104
    refine (callsIn_wide.2 (pieces_any _ _ _)).mono ?_
    rintro e w' ⟨rfl, rfl⟩
    gi_wp2_with fail
    have hlt2 : w1.heap.size < W2.heap.size := by
      rcases hown0.2 with ⟨h0, _⟩ | ⟨g, cap, cur, e1, _, hh, _⟩
      · cases h0
      · have := (Array.getElem?_eq_some_iff.1 hh).1
        simp at e1; omega
    obtain ⟨g, hg⟩ : ∃ g, w1.heap.size = g := ⟨_, rfl⟩
    obtain ⟨W4, hW4⟩ : ∃ W4, allocs W2 [.cells #[.slice (some ⟨w1.heap.size, 0, none⟩) 0 n.toNat] 42, .cells #[.int .u32 at_] 34, .cells #[.int .i64 n] 3] = W4 := ⟨_, rfl⟩
    have HW4 : ((W2.alloc (.cells #[.slice (some ⟨w1.heap.size, 0, none⟩) 0 n.toNat] 42)).alloc (.cells #[.int .u32 at_] 34)).alloc (.cells #[.int .i64 n] 3) = W4 := hW4
    rw [HW4]
    clear HW4
    rw [hg] at hW4 hown0 hlt2
    try simp only [World.size_alloc]
    rw [hg]
    have hs4 : W4.heap.size = W2.heap.size + 3 := by rw [← hW4, allocs_size]; rfl
    have hgrow : Below W.heap.size W W2 := ((balloc W _).trans (hb1.mono (by simp))).trans (((Upd.of_grown hg0).below (Nat.le_refl _) (fun k e => by cases e)).mono (by have := hb1.size; simp at this; omega))
    have hb24 : Below W2.heap.size W2 W4 := by rw [← hW4]; exact allocs_below _ _
    have hb4 : Below W.heap.size W W4 := hgrow.trans (hb24.mono hgrow.size)
    have hWg : W.heap.size < g := by have := hb1.size; simp at this; omega
    have hB4 : Boxes W4 (W2.heap.size + 1) (W2.heap.size + 1 + 1) (pcAt at_ 0) n := by
      rw [← hW4, show pcAt at_ 0 = at_ by unfold pcAt; omega]
      exact ⟨allocs_at _ _ 1 _ rfl, allocs_at _ _ 2 _ rfl⟩
    have hI4 : RedI W b S A at_ g W2.heap.size n.toNat 0 W4 := by
      refine ⟨?_, ?_, ?_, h.below hb4, hb4⟩
      · have e1 := heap_alloc_new W (.cells #[.pointer (some ⟨b, 0, none⟩)] 25)
        have e2 := (hb1.block W.heap.size (by simp)).trans e1
        have e3 := (((Upd.of_grown hg0).below (Nat.le_refl _) (fun k e => by cases e)).block W.heap.size (by have := hb1.size; simp at this; omega)).trans e2
        exact (hb24.block W.heap.size (by omega)).trans e3
      · rw [← hW4]; exact allocs_at _ _ 0 _ rfl
      · exact own_upd hown0 (Upd.any hb24 (F := fun _ => False)) fun _ _ h => h
    have HI4 := Lib.hid hI4
    have HB4 := Lib.hid hB4
    have HS4 := Lib.hid hs4
    have HG := Lib.hid hg
    have HL2 := Lib.hid hlt2
    clear hW4 hb24 hgrow hg0 hmk hg hI4 hB4 hs4 hlt2 hown0
    refine wpIn_pieces (q := 8) (Ba := W2.heap.size + 1) (Bn := W2.heap.size + 1 + 1) (by omega) (by omega) at_ n ⟨hn.1, by omega⟩ rfl rfl HB4.out
      (fun c V => RedI W b S A at_ g W2.heap.size n.toNat c V) (fun c V => False) ?_ ?_ HI4.out
      (fun c X => { tmps := #[.pointer (some ⟨b, 0, none⟩), .int .u32 at_, .int .i64 n, .int .i64 need, .pointer (some ⟨W.heap.size, 0, none⟩), undef, undef, undef, .slice none 0 0, .int .u32 0, .bool false, .int .u32 0, .bool false, .pointer (some ⟨W2.heap.size, 0, none⟩), .pointer (some ⟨X, 0, none⟩), .pointer (some ⟨b, 0, none⟩), .bool false, .bool false, .int .i64 n, .bool false, .bool false, .bool false, .int .i64 n, .bool false, .bool false, undef, .tuple #[.int .u32 0, .bool false], .pointer (some ⟨b, 0, none⟩), .int .u32 at_, .int .i64 n, .int .i64 need, .tuple #[.int .u32 0, .bool false], .int .u32 0, .bool false, .bool false, undef, .int .i64 n, .slice (some ⟨g, 0, none⟩) 0 n.toNat, .int .u32 at_, .int .i64 n, .func (.func 132) #[] #[.pointer (some ⟨W2.heap.size + 1 + 1, 0, none⟩), .pointer (some ⟨W2.heap.size + 1, 0, none⟩)], .agg (pcCells at_ n c), undef, undef, undef, undef, undef, undef, undef, undef, undef, undef, undef, undef, undef, undef, undef, undef, undef, undef, undef, undef], defers := [] }) ?_ ?_ ?_ ?_
    · intro c V V' hi hu
      exact hi.upd hl hu fun k hk => by have := HS4.out; have := HL2.out; simp [Bk, bkL] at hk; omega
    · rintro c V V' hi hu
      exact hi
    · intro l c V K hK
      gi_wp2_with fail
      rw [store_piece]
      gi_wp2_with fail
      exact hK
    · intro l c V X c0 c1 hi hX hx
      have hk := (hok c c0 c1).1
      obtain ⟨g0, g1, g2, _, _, _⟩ := hi.mem.cells
      obtain ⟨hpg, hpk⟩ := hi.mem.page _ hk
      obtain ⟨k1', k2', k3'⟩ := pcLen_pos (at_ := at_) c1
      have m0 := Int.emod_nonneg (pcAt at_ c) (show (256 : Int) ≠ 0 by omega)
      have m1 := Int.emod_lt_of_pos (pcAt at_ c) (show (0 : Int) < 256 by omega)
      have cm : V.cell? ⟨W.heap.size, 0, none⟩ = some (.pointer (some ⟨b, 0, none⟩)) := by simp [World.cell?, hi.m]
      have co : V.cell? ⟨W2.heap.size, 0, none⟩ = some (.slice (some ⟨g, 0, none⟩) c.toNat n.toNat) := by simp [World.cell?, hi.out]
      have cx1 : V.cell? ⟨X, 1, none⟩ = some (.int .i64 (pcAt at_ c / 256)) := by simp [World.cell?, hx, pcCells]
      have cx2 : V.cell? ⟨X, 2, none⟩ = some (.int .i64 (pcAt at_ c % 256)) := by simp [World.cell?, hx, pcCells]
      have cx3 : V.cell? ⟨X, 3, none⟩ = some (.int .i64 (pcLen at_ n c)) := by simp [World.cell?, hx, pcCells]
      have hm1 : MemIs V.drew b S A := hi.mem.upd (Upd.drew (fun _ => False) V) fun _ _ h => h
      have hlk := hm1.pages.run_look (P := Try.prog) Try.underlying102 Try.underlying3 zero_page (pcAt at_ c / 256)
      rw [if_pos hk] at hlk
      obtain ⟨V1, hV1⟩ : ∃ V1, V.drew = V1 := ⟨_, rfl⟩
      have k1 : ∀ {x : Addr} {v : Value}, V.cell? x = some v → ∀ q : Just V1, q.W.cell? x = some v := fun h q => Just.cell (by rw [← hV1]; exact h) q
      have a1 := k1 g1
      have a2 := k1 cm
      have a3 := k1 cx1
      have a4 := k1 cx2
      have a5 := k1 cx3
      have a6 := k1 co
      rw [hV1] at hlk
      have hlk1 : ∀ q : Just V1, _ := fun q => q.eq ▸ hlk
      obtain ⟨p, hp⟩ : ∃ p, S.at_ (pcAt at_ c / 256) = p := ⟨_, rfl⟩
      have hptr : ptrTo S (pcAt at_ c / 256) = .pointer (some ⟨p, 0, none⟩) := by rw [← hp]
      rw [hptr] at hlk1
      obtain ⟨fr, hfr⟩ : ∃ fr, pcAt at_ c % 256 = fr := ⟨_, rfl⟩
      obtain ⟨ln, hln⟩ : ∃ ln, pcLen at_ n c = ln := ⟨_, rfl⟩
      rw [hfr] at a4 m0 m1
      rw [hln] at a5 k1' k2' k3'
      rw [hfr] at k3'
      have hsl : ∀ q : Just V1, _ := fun q => slice_page p fr (fr + ln) m0 m1 (by omega) (by omega) q.W
      rw [show fr + ln - fr = ln by omega] at hsl
      have hwr : IntKind.i64.wrap (fr + ln) = fr + ln := IntWalk.i64_in _ (by omega)
      have hq1 : ¬ fr < 0 := by omega
      have hq2 : ¬ fr + ln < 0 := by omega
      have hq3 : fr ≤ fr + ln := by omega
      have hq4 : fr + ln ≤ 256 := by omega
      have HI := Lib.hid hi
      have HX := Lib.hid hx
      have HP := Lib.hid hp
      have HPG := Lib.hid hpg
      have HPK := Lib.hid hpk
      have HV1 := Lib.hid hV1
      have HFR := Lib.hid hfr
      have HLN := Lib.hid hln
      clear hi hx hlk k1 hptr hm1 hp hpg hpk hfr hln cx1 cx2 cx3 co cm g0 g1 g2
      gi_wp2_with fail
      refine region_tail_in 18 (open_round l) hV1 (by kernel_rfl) (by kernel_rfl) (by kernel_rfl) ?_
      simp only [List.take_succ_cons, List.take_zero, List.drop_succ_cons, List.drop_zero]
      repeat (go_big_quiet_step (fail))
      refine wpQuiet_nil ?_
      have hu1 : Upd (fun _ => False) V V1 := by rw [← HV1.out]; exact Upd.drew _ V
      have hi1 : RedI W b S A at_ g W2.heap.size n.toNat c V1 := HI.out.upd hl hu1 fun _ h => h.elim
      have hpl := HPK.out.len
      have hcl : ∀ (j : Nat) (u : Value), (nums .u8 (((A.pg (pcAt at_ c / 256)).bs.drop fr.toNat).take ln.toNat))[j]? = some u → V1.cell? ((⟨p, 1 + fr.toNat, none⟩ : Addr).add j) = some u := by
        intro j u hj
        have hpg1 : V1.heap[p]? = some (pgObj (A.pg (pcAt at_ c / 256))) := by
          have := HPG.out
          rw [HP.out] at this
          rw [hu1.block p (Array.getElem?_eq_some_iff.1 this).1 fun h => h]; exact this
        have hadd : (⟨p, 1 + fr.toNat, none⟩ : Addr).add j = ⟨p, fr.toNat + j + 1, none⟩ := by
          unfold Addr.add
          by_cases hj0 : j = 0
          · rw [if_pos hj0, hj0]; exact congrArg (fun k => (⟨p, k, none⟩ : Addr)) (by omega)
          · rw [if_neg hj0]; exact congrArg (fun k => (⟨p, k, none⟩ : Addr)) (by show 1 + fr.toNat + j = fr.toNat + j + 1; omega)
        rw [hadd, pg_range1 hpg1, ← hj]
        have hjl : j < ln.toNat := by
          have := (List.getElem?_eq_some_iff.1 hj).1
          simp [nums] at this; omega
        simp [nums, List.getElem?_take, hjl, List.getElem?_drop]
      rw [show (fr + ln).toNat - fr.toNat = ln.toNat by omega]
      refine wpListIn_append_fits V1 rfl (.tmp 42) (.tmp 59) 42 rfl W.heap.size 5 i0 1 Try.underlying42 hi0 hz1 g c.toNat n.toNat (nums .u8 (bytesN A at_ c.toNat)) rfl hi1.row ⟨p, 1 + fr.toNat, none⟩ ln.toNat (256 - fr.toNat) (nums .u8 (((A.pg (pcAt at_ c / 256)).bs.drop fr.toNat).take ln.toNat)) rfl (by simp [nums]; omega) hcl (nums_oneC _ _) (by omega) ?_
      intro w3 hown3 hg3
      have ho3 : w3.heap[W2.heap.size]? = some (.cells #[.slice (some ⟨g, 0, none⟩) c.toNat n.toNat] 42 (0, 0)) := by
        rw [hg3.block _ (Array.getElem?_eq_some_iff.1 hi1.out).1 (fun e => by have := HL2.out; simp at e; omega)]; exact hi1.out
      have co3 : w3.cell? ⟨W2.heap.size, 0, none⟩ = some (.slice (some ⟨g, 0, none⟩) c.toNat n.toNat) := by simp [World.cell?, ho3]
      have fo3 : w3.frozen? ⟨W2.heap.size, 0, none⟩ = false := by simp [World.frozen?, ho3]
      have HO3 := Lib.hid ho3
      have HOW := Lib.hid hown3
      have HG3 := Lib.hid hg3
      have HU1 := Lib.hid hu1
      have HI1 := Lib.hid hi1
      clear ho3 hown3 hg3 hu1 hi1 hcl
      gi_wp2_with fail
      have hL2 := HL2.out
      have hu3 : Upd (fun k => k = g) V1 w3 := (Upd.of_grown HG3.out).mono fun k e => by simpa using e.symm
      have hu4 : Upd (fun k => k = W2.heap.size) w3 (w3.setCell ⟨W2.heap.size, 0, none⟩ (.slice (some ⟨g, 0, none⟩) (c.toNat + ln.toNat) n.toNat)) := Upd.setCell w3 ⟨W2.heap.size, 0, none⟩ _
      have hu : Upd (fun k => k = g ∨ k = W2.heap.size) V (w3.setCell ⟨W2.heap.size, 0, none⟩ (.slice (some ⟨g, 0, none⟩) (c.toNat + ln.toNat) n.toNat)) :=
        (HU1.out.mono fun _ h => h.elim).trans (((hu3.mono fun _ e => .inl e).trans hu4 fun _ e => .inl (.inr e)) : Upd (fun k => k = g ∨ k = W2.heap.size) V1 _) fun _ e => .inl e
      have hi := HI.out
      have hlg : W.heap.size < W2.heap.size := by omega
      refine ⟨KeepC.of_upd hu fun x hx h => by have := HS4.out; simp [bkL] at hx; omega, ?_, ?_, ?_, ?_, ?_⟩
      · rw [hu.block _ (Array.getElem?_eq_some_iff.1 hi.m).1 (by omega)]; exact hi.m
      · rw [setCell_row HO3.out, HLN.out, Int.toNat_add c0 (by omega)]; rfl
      · rw [HLN.out, Int.toNat_add c0 (by omega)]
        have e := bytesN_more (A := A) (at_ := at_) (n := n) c0 c1 HPK.out
        rw [HLN.out, Int.toNat_add c0 (by omega), HFR.out] at e
        rw [e, nums_append]
        exact own_upd HOW.out hu4 fun k hk hf => by simp [Value.ownBlock] at hk; omega
      · exact hi.mem.upd hu fun k hk hf => by have := hl k hk; omega
      · exact hi.below.trans (hu.below hi.below.size fun k hf => by omega)
    · intro V hi hK
      have co : V.cell? ⟨W2.heap.size, 0, none⟩ = some (.slice (some ⟨g, 0, none⟩) n.toNat n.toNat) := by simp [World.cell?, hi.out]
      have HI := Lib.hid hi
      clear hi
      gi_wp2_with fail
      refine ⟨by simp, .inl ⟨_, _, rfl, run_takeDeferred hK, ?_⟩⟩
      have hi4 := HI.out.upd hl (putObj_upd _ W4.heap.size (.deferred none)) fun k e => by have := HS4.out; have := HL2.out; omega
      exact ⟨_, results_tmp3 rfl _ _ _, hi4.below, _, _, _, rfl, .ok _ hn.1 hn.2 hok hi4.row⟩
    · rintro c V c0 c1 hi hK
      exact hi.elim
  · gi_wp2_with fail
    exact ⟨_, results_tmp3 rfl _ _ _, (balloc _ _).trans (hb1.mono (by simp)), _, _, _, rfl, .bad c hn.1 hn.2 ⟨c0, c1, hnk, hok⟩⟩
/-- read of any memory that is there. -/
theorem read_any (W : World) (b : Nat) (S : MS) (A : PM) (at_ n need : Int) (h : MemIs W b S A) (ha : 0 ≤ at_ ∧ at_ < 4294967296) (hnd : 0 ≤ need ∧ need ≤ 7) :
    Calls Try.prog 68 #[.pointer (some ⟨b, 0, none⟩), .int .u32 at_, .int .i64 n, .int .i64 need] W fun e w' => ReadE A at_ n need W e w' := by
  by_cases hn : 0 ≤ n ∧ n ≤ 65536
  · exact callsIn_wide.1 (read_in W b S A at_ n need h ha hn hnd)
  · exact read_arg W b S A at_ n need h (by omega)
end Go.Proofs.Ytidojcogojchpaa

/- mem: what a write changes, in plain words. -/
set_option linter.unusedVariables false
set_option linter.unusedSimpArgs false
namespace Go.Proofs.Ytidojcogojchpaa
open Go.RowKit

/-- The bytes of page n behind a write of the first c of bs at an address. -/
def pokeB (A : PM) (at_ : Int) (bs : List Int) (c n : Int) : List Int := (List.range 256).map fun (j : Nat) => if (n * 256 + j - at_) % 4294967296 < c then gi bs ((n * 256 + j - at_) % 4294967296).toNat else gi (A.pg n).bs j
def pokeC (A : PM) (at_ : Int) (c : Int) : List Int := (List.range c.toNat).foldl (fun l (i : Nat) => insI l (pcAt at_ i / 256)) A.cg
def PM.poke (A : PM) (at_ : Int) (bs : List Int) (c : Int) : PM := { ks := A.ks, pg := fun n => ⟨(A.pg n).r, pokeB A at_ bs c n⟩, cg := pokeC A at_ c }
theorem pokeB_len (A : PM) (at_ : Int) (bs : List Int) (c n : Int) : (pokeB A at_ bs c n).length = 256 := by simp [pokeB]
theorem pokeB_gi (A : PM) (at_ : Int) (bs : List Int) (c n : Int) (j : Nat) (hj : j < 256) : gi (pokeB A at_ bs c n) j = if (n * 256 + j - at_) % 4294967296 < c then gi bs ((n * 256 + j - at_) % 4294967296).toNat else gi (A.pg n).bs j := by
  rw [gi_get _ _ (by rw [pokeB_len]; exact hj)]
  simp [pokeB]
theorem list_gi {xs ys : List Int} (hl : xs.length = ys.length) (h : ∀ j, j < xs.length → gi xs j = gi ys j) : xs = ys := by
  apply List.ext_getElem hl
  intro i i1 i2
  rw [← gi_get xs i i1, ← gi_get ys i i2]
  exact h i i1
theorem poke_zero (A : PM) (at_ : Int) (bs : List Int) (n : Int) (h : PgOk (A.pg n)) : (A.poke at_ bs 0).pg n = A.pg n := by
  show (⟨(A.pg n).r, pokeB A at_ bs 0 n⟩ : Pg) = A.pg n
  have : pokeB A at_ bs 0 n = (A.pg n).bs := list_gi (by rw [pokeB_len, h.len]) fun j hj => by
    rw [pokeB_len] at hj
    rw [pokeB_gi _ _ _ _ _ _ hj, if_neg (by have := Int.emod_nonneg (n * 256 + j - at_) (show (4294967296 : Int) ≠ 0 by omega); omega)]
  rw [this]
theorem poke_cg0 (A : PM) (at_ : Int) (bs : List Int) : (A.poke at_ bs 0).cg = A.cg := rfl
theorem fold_same (x : Int) : ∀ (l : List Nat) (f : Nat → Int) (cs : List Int), Up cs → x ∈ cs → (∀ i ∈ l, f i = x) → l.foldl (fun l i => insI l (f i)) cs = cs
  | [], _, _, _, _, _ => rfl
  | i :: l, f, cs, hu, hx, hf => by
    rw [List.foldl_cons, hf i (by simp), insI_mem hu hx]
    exact fold_same x l f cs hu hx fun k hk => hf k (List.mem_cons_of_mem _ hk)
theorem fold_up (f : Nat → Int) : ∀ (l : List Nat) (cs : List Int), Up cs → Up (l.foldl (fun l i => insI l (f i)) cs)
  | [], _, h => h
  | i :: l, cs, h => fold_up f l _ (up_insI _ h)
theorem poke_next_cg (A : PM) (at_ n c : Int) (bs : List Int) (hu : Up A.cg) (h0 : 0 ≤ c) (h1 : c < n) : pokeC A at_ (c + pcLen at_ n c) = insI (pokeC A at_ c) (pcAt at_ c / 256) := by
  obtain ⟨k1, k2, k3⟩ := pcLen_pos (at_ := at_) h1
  obtain ⟨m, hm⟩ : ∃ m : Nat, (pcLen at_ n c).toNat = m + 1 := ⟨(pcLen at_ n c).toNat - 1, by omega⟩
  unfold pokeC
  rw [Int.toNat_add h0 (by omega), hm, List.range_add, List.foldl_append, List.range_succ_eq_map, List.map_cons, List.foldl_cons, Nat.add_zero, show ((c.toNat : Nat) : Int) = c by omega]
  rw [List.foldl_map, List.foldl_map]
  refine fold_same (pcAt at_ c / 256) _ (fun i => pcAt at_ ((c.toNat + (i + 1) : Nat) : Int) / 256) _ (up_insI _ (fold_up (fun i => pcAt at_ (i : Int) / 256) _ _ hu)) ((mem_insI _ _ _).2 (.inl rfl)) fun i hi => ?_
  have hi' : i < m := by simpa using hi
  exact (pc_page (at_ := at_) (n := n) (c := c) (i := ((c.toNat + (i + 1) : Nat) : Int)) (by omega) (by omega)).2
theorem pc_off {at_ a d : Int} (h : (a - at_) % 4294967296 = d) (h0 : 0 ≤ a) (h1 : a < 4294967296) : pcAt at_ d = a := by
  unfold pcAt
  subst h
  rw [Int.add_emod_emod, show at_ + (a - at_) = a by omega]
  exact Int.emod_eq_of_lt h0 h1
theorem off_pc {at_ a c : Int} (h : pcAt at_ c = a) (h0 : 0 ≤ c) (h1 : c < 4294967296) : (a - at_) % 4294967296 = c := by
  subst h
  unfold pcAt
  rw [Int.emod_sub_emod, show at_ + c - at_ = c by omega]
  exact Int.emod_eq_of_lt h0 h1
/-- A page that the part does not touch. -/
theorem poke_other (A : PM) (at_ c m : Int) (bs : List Int) (n : Int) (hn : 0 ≤ n ∧ n < 16777216) (h0 : 0 ≤ c) (h1 : c < m) (hne : n ≠ pcAt at_ c / 256) : pokeB A at_ bs (c + pcLen at_ m c) n = pokeB A at_ bs c n := by
  refine list_gi (by rw [pokeB_len, pokeB_len]) fun j hj => ?_
  rw [pokeB_len] at hj
  rw [pokeB_gi _ _ _ _ _ _ hj, pokeB_gi _ _ _ _ _ _ hj]
  obtain ⟨d, hd⟩ : ∃ d, (n * 256 + (j : Int) - at_) % 4294967296 = d := ⟨_, rfl⟩
  rw [hd]
  obtain ⟨k1, k2, k3⟩ := pcLen_pos (at_ := at_) h1
  by_cases hc : d < c
  · rw [if_pos hc, if_pos (by omega)]
  · rw [if_neg hc, if_neg]
    intro h2
    have e := pc_off (at_ := at_) hd (by omega) (by omega)
    have := (pc_page (at_ := at_) (n := m) (c := c) (i := d) (by omega) h2).2
    rw [e] at this
    omega
/-- The page that it touches. -/
theorem poke_here (A : PM) (at_ c : Int) (bs : List Int) (hl : bs.length ≤ 65536) (h0 : 0 ≤ c) (h1 : c < bs.length) :
    pokeB A at_ bs (c + pcLen at_ bs.length c) (pcAt at_ c / 256) = (pokeB A at_ bs c (pcAt at_ c / 256)).take (pcAt at_ c % 256).toNat ++ (bs.drop c.toNat).take (pcLen at_ bs.length c).toNat ++ (pokeB A at_ bs c (pcAt at_ c / 256)).drop ((pcAt at_ c % 256).toNat + (pcLen at_ bs.length c).toNat) := by
  obtain ⟨k1, k2, k3⟩ := pcLen_pos (at_ := at_) h1
  have m0 := Int.emod_nonneg (pcAt at_ c) (show (256 : Int) ≠ 0 by omega)
  have m1 := Int.emod_lt_of_pos (pcAt at_ c) (show (0 : Int) < 256 by omega)
  have r := pcAt_range at_ c
  obtain ⟨fr, hfr⟩ : ∃ fr, pcAt at_ c % 256 = fr := ⟨_, rfl⟩
  obtain ⟨P, hP⟩ : ∃ P, pcAt at_ c / 256 = P := ⟨_, rfl⟩
  have hpa : pcAt at_ c = P * 256 + fr := by omega
  have hpi := fun i h2 h3 => (pc_page (at_ := at_) (n := bs.length) (c := c) (i := i) h2 h3).1
  obtain ⟨ln, hln⟩ : ∃ ln, pcLen at_ bs.length c = ln := ⟨_, rfl⟩
  rw [hfr] at m0 m1 k3 ⊢
  rw [hP, hln]
  rw [hln] at k1 k2 k3 hpi
  have hl3 : (pokeB A at_ bs c P).length = 256 := pokeB_len _ _ _ _ _
  refine list_gi (by simp [pokeB_len]; omega) fun j hj => ?_
  rw [pokeB_len] at hj
  rw [pokeB_gi _ _ _ _ _ _ hj]
  obtain ⟨d, hd⟩ : ∃ d, (P * 256 + (j : Int) - at_) % 4294967296 = d := ⟨_, rfl⟩
  have hd0 : 0 ≤ d := by rw [← hd]; exact Int.emod_nonneg _ (by omega)
  have e := pc_off (at_ := at_) hd (by omega) (by omega)
  have hold := pokeB_gi A at_ bs c P j hj
  rw [hd] at hold ⊢
  have hr : gi ((pokeB A at_ bs c P).take fr.toNat ++ (bs.drop c.toNat).take ln.toNat ++ (pokeB A at_ bs c P).drop (fr.toNat + ln.toNat)) j = if (fr : Int) ≤ j ∧ (j : Int) < fr + ln then gi bs (c.toNat + (j - fr.toNat)) else gi (pokeB A at_ bs c P) j := by
    unfold gi
    simp only [List.getD_eq_getElem?_getD]
    congr 1
    rw [List.append_assoc, List.getElem?_append]
    simp only [List.length_take, hl3, List.getElem?_append, List.length_drop]
    by_cases a1 : (j : Int) < fr
    · rw [if_pos (by omega), if_neg (by omega), List.getElem?_take, if_pos (by omega)]
    · rw [if_neg (by omega)]
      by_cases a2 : (j : Int) < fr + ln
      · rw [if_pos (by omega), if_pos (by omega), List.getElem?_take, if_pos (by omega), List.getElem?_drop]
        refine congrArg (fun (k : Nat) => bs[k]?.getD 0) ?_
        omega
      · rw [if_neg (by omega), if_neg (by omega), List.getElem?_drop]
        refine congrArg (fun (k : Nat) => (pokeB A at_ bs c P)[k]?.getD 0) ?_
        omega
  rw [hr]
  by_cases hin : fr ≤ (j : Int) ∧ (j : Int) < fr + ln
  · rw [if_pos hin]
    have e2 := hpi (c + ((j : Int) - fr)) (by omega) (by omega)
    have hdc : d = c + ((j : Int) - fr) := by
      have := off_pc (at_ := at_) (a := P * 256 + j) (c := c + ((j : Int) - fr)) (by rw [e2]; omega) (by omega) (by omega)
      omega
    rw [if_pos (by omega), hdc]
    congr 1; omega
  · rw [if_neg hin, hold]
    by_cases hc : d < c
    · rw [if_pos hc, if_pos (by omega)]
    · rw [if_neg hc, if_neg]
      intro h2
      have := hpi d (by omega) h2
      omega
theorem pokeB_u8 {A : PM} {at_ c n : Int} {bs : List Int} (hb : ∀ x ∈ bs, 0 ≤ x ∧ x < 256) (hp : PgOk (A.pg n)) (hc : c ≤ bs.length) : ∀ x ∈ pokeB A at_ bs c n, 0 ≤ x ∧ x < 256 := by
  intro x hx
  obtain ⟨j, hj, rfl⟩ := List.getElem_of_mem hx
  rw [pokeB_len] at hj
  rw [← gi_get _ _ (by rw [pokeB_len]; exact hj), pokeB_gi _ _ _ _ _ _ hj]
  have h0 := Int.emod_nonneg (n * 256 + j - at_) (show (4294967296 : Int) ≠ 0 by omega)
  split
  · exact hb _ (gi_mem bs _ (by omega))
  · exact hp.u8 _ (gi_mem _ _ (by rw [hp.len]; exact hj))
theorem MemIs.congr {W : World} {b : Nat} {S : MS} {A A' : PM} (h : MemIs W b S A) (h1 : A'.ks = A.ks) (h2 : A'.cg = A.cg) (h3 : ∀ n ∈ A.ks, A'.pg n = A.pg n) : MemIs W b S A' :=
  ⟨h.box, by rw [h1]; exact h.pages, h.owns, by rw [h2]; exact h.chg, fun n hn => by rw [h1] at hn; rw [h3 n hn]; exact h.page n hn, by rw [h1]; exact h.le, by rw [h1]; exact h.sub, by rw [h1]; exact h.inj, h.ap1, h.ap2, h.nil⟩
end Go.Proofs.Ytidojcogojchpaa

/- A region that draws its order: what its loads read stays as it is TILL one operation (a store into a cell that the region loads): loads that this operation waits for are taken first. -/
set_option linter.unusedVariables false
namespace Go.Proofs.Ytidojcogojchpaa

section
variable {P : Program} {ops : Array Oper} {Q : Exit → Act → World → Prop} {md : Region.Mode} {S : World → Prop} {t : Nat}
/-- Whatever order is picked: S holds behind each operation till number t comes up. -/
def wpAnyT (P : Program) (md : Region.Mode) (ops : Array Oper) (Q : Exit → Act → World → Prop) (S : World → Prop) (t : Nat) : Nat → Array Bool → Act → World → Prop
  | 0, listed, a, w => Region.ready md ops listed = [] ∧ Q .normal a w
  | fuel + 1, listed, a, w =>
    (Region.ready md ops listed = [] → Q .normal a w) ∧
    ∀ i ∈ Region.ready md ops listed, wpOp P ops Q i (fun a' w' => if i = t then wpAny P md ops Q fuel (listed.setIfInBounds i true) a' w' else S w' ∧ wpAnyT P md ops Q S t fuel (listed.setIfInBounds i true) a' w') a w
theorem wpAny_of_till : ∀ (fuel : Nat) (listed : Array Bool) (a : Act) (w : World), wpAnyT P md ops Q S t fuel listed a w → wpAny P md ops Q fuel listed a w
  | 0, _, _, _, h => h
  | fuel + 1, _, _, _, h => ⟨h.1, fun i hi => wpOp_mono (fun a' w' h' => by
      by_cases e : i = t
      · rw [if_pos e] at h'; exact h'
      · rw [if_neg e] at h'; exact wpAny_of_till fuel _ a' w' h'.2) (h.2 i hi)⟩
/-- Number t waits for number i. -/
def waitsB (md : Region.Mode) (ops : Array Oper) (t i : Nat) : Bool := match ops[t]? with | some o => o.after.any fun e => Region.binds md e && e.on == i | none => false
theorem waitsB_spec {i : Nat} (h : waitsB md ops t i = true) {o : Oper} (ho : ops[t]? = some o) : ∃ e ∈ o.after, Region.binds md e = true ∧ e.on = i := by
  unfold waitsB at h
  rw [ho] at h
  obtain ⟨j, hj, hp⟩ := Array.any_eq_true.1 h
  simp only [Bool.and_eq_true, beq_iff_eq] at hp
  exact ⟨_, Array.getElem_mem hj, hp⟩
theorem wpAnyT_first {i : Nat} {oi : Oper} {v : Value} (hi : ops[i]? = some oi) (hti : t ≠ i) (hw : waitsB md ops t i = true) (hsel : ∀ (j : Nat) (o : Oper) cs b, ops[j]? = some o → o.op ≠ .select cs b)
    (hQ : ∀ c a w, Q (.panic c) (a.put oi.dst v) w → Q (.panic c) a w) :
    ∀ (fuel : Nat) (listed : Array Bool) (a : Act) (w : World),
      (∀ j oj, ops[j]? = some oj → j ≠ i → listed.getD j true = false → (∀ e ∈ oj.after, Region.binds md e = true → e.on ≠ i) → oi.apart ops oj = true) →
      i ∈ Region.ready md ops listed → YieldsIf P ops S oi v a → S w →
      wpAnyT P md ops Q S t fuel (listed.setIfInBounds i true) (a.put oi.dst v) w → wpAnyT P md ops Q S t (fuel + 1) listed a w := by
  intro fuel
  induction fuel with
  | zero =>
    intro listed a w _ hr hy hS H
    refine ⟨fun h => (by rw [h] at hr; cases hr), fun j hj => ?_⟩
    by_cases hji : j = i
    · subst hji; refine hy.wpOp hi hS ?_
      rw [if_neg (Ne.symm hti)]
      exact ⟨hS, H⟩
    · have := ready_mono hj hji
      rw [H.1] at this
      cases this
  | succ fuel ih =>
    intro listed a w hfree hr hy hS H
    refine ⟨fun h => (by rw [h] at hr; cases hr), fun j hj => ?_⟩
    by_cases hji : j = i
    · subst hji; refine hy.wpOp hi hS ?_
      rw [if_neg (Ne.symm hti)]
      exact ⟨hS, H⟩
    · have h1 := H.2 j (ready_mono hj hji)
      obtain ⟨hjun, oj, hoj, hall⟩ := mem_ready.1 hj
      have hnot : ∀ e ∈ oj.after, Region.binds md e = true → e.on ≠ i := fun e he hb heq => by
        have h1 := hall e he hb
        have h0 := (mem_ready.1 hr).1
        rw [heq] at h1
        rcases Nat.lt_or_ge i listed.size with h' | h'
        · simp [h'] at h0 h1; rw [h0] at h1; cases h1
        · simp [Array.getElem?_eq_none h'] at h1
      have hjt : j ≠ t := fun e => by
        subst e
        obtain ⟨e, he, hb, heq⟩ := waitsB_spec hw hoj
        exact hnot e he hb heq
      have h2 := wpOp_putIf hoj (hfree j oj hoj hji hjun hnot) (fun cs b => hsel i oi cs b hi) (fun cs b => hsel j oj cs b hoj) hQ hy h1
      have hfree' : ∀ k ok, ops[k]? = some ok → k ≠ i → (listed.setIfInBounds j true).getD k true = false →
          (∀ e ∈ ok.after, Region.binds md e = true → e.on ≠ i) → oi.apart ops ok = true := fun k ok hk hki hun hno => by
        refine hfree k ok hk hki ?_ hno
        by_cases hjk : j = k
        · subst hjk; exact hjun
        · rw [getD_set_ne true hjk] at hun; exact hun
      refine wpOp_mono (fun a' w' h3 => ?_) h2
      rw [if_neg hjt] at h3 ⊢
      refine ⟨h3.2.1, ih (listed.setIfInBounds j true) a' w' hfree' (ready_mono hr (Ne.symm hji)) h3.1 h3.2.1 ?_⟩
      rw [Array.setIfInBounds_comm _ _ hji]
      exact h3.2.2
/-- Take number i first. -/
theorem wpAnyT_take (i : Nat) (oi : Oper) (v : Value) {fuel : Nat} {listed : Array Bool} {a : Act} {w : World} (hi : ops[i]? = some oi) (hti : decide (t ≠ i) = true) (hw : waitsB md ops t i = true)
    (hs : Region.noSelect ops = true) (hf : Region.free md ops listed i = true) (hr : (Region.ready md ops listed).contains i = true)
    (hQ : ∀ c a w, Q (.panic c) (a.put oi.dst v) w → Q (.panic c) a w) (hy : YieldsIf P ops S oi v a) (hS : S w)
    (h : wpAnyT P md ops Q S t fuel (listed.setIfInBounds i true) (a.put oi.dst v) w) : wpAnyT P md ops Q S t (fuel + 1) listed a w :=
  wpAnyT_first hi (of_decide_eq_true hti) hw (Region.noSelect_spec hs) hQ fuel listed a w (Region.free_spec hi hf) (by simpa using hr) hy hS h
/-- Number i alone may come up now, and it is not t: behind it S is to be shown anew. -/
theorem wpAnyT_one (i : Nat) (o : Oper) {fuel : Nat} {listed : Array Bool} {a : Act} {w : World} (hr : Region.ready md ops listed = [i]) (hti : decide (i ≠ t) = true) (ho : ops[i]? = some o)
    (h : ∀ K' : Act → World → Prop, Shut (∀ a w, S w → wpAnyT P md ops Q S t fuel (listed.setIfInBounds i true) a w → K' a w) → if Region.wanted o (yielded ops a.tmps) = true then Oper.wp P o a w K' Q else K' (a.put o.dst undef) w) : wpAnyT P md ops Q S t (fuel + 1) listed a w :=
  ⟨fun h0 => (by rw [hr] at h0; cases h0), fun j hj => by
    rw [hr] at hj
    obtain rfl : j = i := by simpa using hj
    refine wpOp_step ho fun K' hK => h K' fun a w h1 h2 => hK a w ?_
    rw [if_neg (of_decide_eq_true hti)]
    exact ⟨h1, h2⟩⟩
/-- Number t alone may come up now: what follows it needs no S. -/
theorem wpAnyT_till (o : Oper) {fuel : Nat} {listed : Array Bool} {a : Act} {w : World} (hr : Region.ready md ops listed = [t]) (ho : ops[t]? = some o)
    (h : ∀ K' : Act → World → Prop, Shut (∀ a w, wpAny P md ops Q fuel (listed.setIfInBounds t true) a w → K' a w) → if Region.wanted o (yielded ops a.tmps) = true then Oper.wp P o a w K' Q else K' (a.put o.dst undef) w) : wpAnyT P md ops Q S t (fuel + 1) listed a w :=
  ⟨fun h0 => (by rw [hr] at h0; cases h0), fun j hj => by
    rw [hr] at hj
    obtain rfl : j = t := by simpa using hj
    refine wpOp_step ho fun K' hK => h K' fun a w h1 => hK a w ?_
    rw [if_pos rfl]
    exact h1⟩
/-- Number i or number t may come up now. -/
theorem wpAnyT_two (i : Nat) (o ot : Oper) {fuel : Nat} {listed : Array Bool} {a : Act} {w : World} (hr : Region.ready md ops listed = [i, t]) (hti : decide (i ≠ t) = true) (ho : ops[i]? = some o) (hot : ops[t]? = some ot)
    (h1 : ∀ K' : Act → World → Prop, Shut (∀ a w, S w → wpAnyT P md ops Q S t fuel (listed.setIfInBounds i true) a w → K' a w) → if Region.wanted o (yielded ops a.tmps) = true then Oper.wp P o a w K' Q else K' (a.put o.dst undef) w)
    (h2 : ∀ K' : Act → World → Prop, Shut (∀ a w, wpAny P md ops Q fuel (listed.setIfInBounds t true) a w → K' a w) → if Region.wanted ot (yielded ops a.tmps) = true then Oper.wp P ot a w K' Q else K' (a.put ot.dst undef) w) : wpAnyT P md ops Q S t (fuel + 1) listed a w :=
  ⟨fun h0 => (by rw [hr] at h0; cases h0), fun j hj => by
    rw [hr] at hj
    have hne : i ≠ t := of_decide_eq_true hti
    by_cases e : j = t
    · subst e
      refine wpOp_step hot fun K' hK => h2 K' fun a w h1 => hK a w ?_
      rw [if_pos rfl]
      exact h1
    · obtain rfl : j = i := by
        rcases List.mem_cons.1 hj with h | h
        · exact h
        · exact absurd (by simpa using h) e
      refine wpOp_step ho fun K' hK => h1 K' fun a w h1 h2 => hK a w ?_
      rw [if_neg hne]
      exact ⟨h1, h2⟩⟩
theorem wp_region_till (t : Nat) (S : World → Prop) {id : Nat} {a : Act} {w : World} (hm : P.follows .mixedOrders = true) (hS : S w.drew)
    (h : S w.drew → wpAnyT P .any ops Q S t ops.size (Array.replicate ops.size false) a w.drew) : (Code.region id ops true).wp P Q a w :=
  wp_region_any hm (wpAny_of_till _ _ _ _ (h hS))
/-- A load of a struct under a guard that lets it run. -/
theorem wpList_load_midW {rest : List Oper} {op : Oper} {a : Act} {w : World} (hw : Region.wanted op (yielded ops a.tmps) = true) (ty : TypeId) (x : Operand) (ho : op.op = .load ty x)
    (b o : Nat) (hx : a.eval x = .pointer (some ⟨b, o, none⟩)) (cs : List Value) (d : TypeDesc) (hc : w.rangeAt b o cs) (hu : P.underlying ty = some d) (hd : d.isRow = true) (hi : (P.info? ty).map (·.size) = some cs.length)
    (h : wpList P ops Q rest (a.put op.dst (.agg cs.toArray)) w) : wpList P ops Q (op :: rest) a w :=
  wpList_step fun K hK => by
    rw [if_pos hw]
    exact wp_load_mid ty x ho b o hx cs d hc hu hd hi (hK _ _ h)
end
end Go.Proofs.Ytidojcogojchpaa

/- A region that draws its order, inside a fence: a plain proof will do. -/
set_option linter.unusedVariables false
namespace Go.Proofs.Ytidojcogojchpaa
open Go.RowKit
theorem wp_of_run {P : Program} {o : Oper} {a : Act} {w w' : World} {K : Act → World → Prop} {Q : Exit → Act → World → Prop} {v : Value} (hr : (execOp a.eval o).run P w = .ok (.value v) w') (h : K (a.put o.dst v) w') : o.wp P a w K Q := by
  unfold Oper.wp
  rw [hr]
  exact h
theorem wp_copy_run {P : Program} (w : World) {o : Oper} {a : Act} {K : Act → World → Prop} {Q : Exit → Act → World → Prop} (s x : Operand) (t tn : TypeId)
    (ho : o.op = .call { callee := .builtin .copy, args := #[s, x], argTypes := #[t, tn] }) (vs vx : Value) (hs : a.eval s = vs) (hx : a.eval x = vx)
    (v' : Value) (w' : World) (hr : (Builtin.copy_ #[t, tn] o.type #[vs, vx]).run P w = .ok v' w') (h : K (a.put o.dst v') w') : o.wp P a w K Q := by
  unfold Oper.wp execOp
  simp only [ho, resolve, invoke, builtin, Sem.run_bind, Sem.run_pure, Result.andThen_ok, List.map_toArray, List.map_cons, List.map_nil, hs, hx, hr]
  exact h
theorem rowsIn_wide {n : Nat} {P : Program} {row : String} {args : Array Value} {w : World} {R : Value → World → Prop} (h : Rows P row args w R) : RowsIn Fence.wide n P row args w R :=
  fun c cs _ => let ⟨v, w', r, s⟩ := h c cs; ⟨v, w', r, stepsIn_wide.2 s⟩
structure Open2 (F : Fence) : Prop extends Open F where
  rows : ∀ {n : Nat} {P : Program} {row : String} {args : Array Value} {w : World} {R : Value → World → Prop}, Rows P row args w R → RowsIn F n P row args w R
theorem open2_wide : Open2 Fence.wide := ⟨open_wide, fun h => rowsIn_wide h⟩
theorem open2_round (l : Nat) : Open2 (Fence.wide.inRound l) := ⟨open_round l, fun h => rowsIn_wide h⟩
section
variable {F : Fence} {n : Nat} {P : Program} {ops : Array Oper} {md : Region.Mode}
theorem wpOpIn_of_wpOp (hO : Open2 F) (hnd : noDeferM ops = true) {i : Nat} {a : Act} {w : World} {K K' : Act → World → Prop} {Q : Exit → Act → World → Prop} (hQ : ¬ LetsOut Q) (h : ∀ a w, K a w → K' a w) (hh : wpOp P ops Q i K a w) : wpOpIn F n P ops Q i K' a w := by
  unfold wpOp at hh
  unfold wpOpIn
  cases ho : ops[i]? with
  | none => simp only [ho] at hh ⊢; exact h _ _ hh
  | some o =>
    simp only [ho] at hh ⊢
    split
    · rename_i hw
      simp only [hw, if_true] at hh
      rcases hh with hh | hh
      · refine ⟨fun f _ => hO.fn f, ?_⟩
        rw [Oper.semAt_eq _ _ _ (noDeferM_spec hnd i o ho)]
        unfold Oper.wp at hh
        cases hr : (execOp a.eval o).run P w with
        | ok x w' =>
          rw [hr] at hh
          cases x <;> simp only [Oper.upon] at hh <;> simp only [Oper.uponIn]
          case value u => exact h _ _ hh
          case skip => exact h _ _ hh
          case defer d => exact h _ _ hh
          case enter f args =>
            refine ⟨fun hd => absurd hd (by rw [hO.depth]; simp), (hO.calls hh).mono fun e w'' he => ?_⟩
            cases e with
            | returned v => exact h _ _ he
            | panicked c => exact he
            | outgrown => exact he
          case row r args => exact ⟨fun hd => absurd hd (by rw [hO.depth]; simp), (hO.rows hh).mono fun v w'' he => h _ _ he⟩
        | halt x w' =>
          rw [hr] at hh
          cases x <;> simp only [Oper.upon] at hh <;> simp only [Oper.uponIn]
          exact hh
      · exact absurd hh.2 hQ
    · rename_i hw
      simp only [hw] at hh
      exact ⟨fun f _ => hO.fn f, h _ _ hh⟩
theorem wpAnyIn_of_wpAny (hO : Open2 F) (hnd : noDeferM ops = true) {Q : Exit → Act → World → Prop} (hQ : ¬ LetsOut Q) : ∀ (fuel : Nat) (listed : Array Bool) (a : Act) (w : World), wpAny P md ops Q fuel listed a w → wpAnyIn F n P md ops Q fuel listed a w
  | 0, _, _, _, h => h
  | fuel + 1, listed, a, w, h => ⟨h.1, fun i hi => wpOpIn_of_wpOp hO hnd hQ (fun a' w' h' => wpAnyIn_of_wpAny hO hnd hQ fuel _ a' w' h') (h.2 i hi)⟩
theorem region_till_in (t : Nat) (S : World → Prop) (hO : Open2 F) {id : Nat} {Q : Exit → Act → World → Prop} {a : Act} {w : World} (hnd : noDeferM ops = true) (hm : P.follows .mixedOrders = true) (hS : S w.drew) (Q0 : Exit → Act → World → Prop) (hQ : ¬ LetsOut Q0) (hQQ : ∀ e a w, Q0 e a w → Q e a w)
    (h : S w.drew → wpAnyT P .any ops Q0 S t ops.size (Array.replicate ops.size false) a w.drew) : (Code.region id ops true).wpIn F n P Q a w :=
  wpIn_mono (wpIn_region_any hm (wpAnyIn_of_wpAny hO hnd hQ _ _ _ _ (wpAny_of_till _ _ _ _ (h hS)))) hQQ
/-- Only the normal way out. -/
def normalQ (K : Act → World → Prop) : Exit → Act → World → Prop
  | .normal, a, w => K a w
  | _, _, _ => False
theorem normalQ_out (K : Act → World → Prop) : ¬ LetsOut (normalQ K) := by rintro ⟨a, w, h⟩; exact h
end
theorem region_till_in2 {F : Fence} {n : Nat} {P : Program} {ops : Array Oper} (t : Nat) (S : World → Prop) (hO : Open2 F) {id : Nat} {Q : Exit → Act → World → Prop} {a : Act} {w : World} (hnd : noDeferM ops = true) (hm : P.follows .mixedOrders = true) (hS : S w.drew)
    (h : S w.drew → wpAnyT P .any ops (normalQ (fun a w => Q .normal a w)) S t ops.size (Array.replicate ops.size false) a w.drew) : (Code.region id ops true).wpIn F n P Q a w :=
  region_till_in t S hO hnd hm hS (normalQ (fun a w => Q .normal a w)) (normalQ_out _) (fun e a w h => by cases e <;> first | exact h | exact h.elim) h
theorem wp_region_till2 {P : Program} {ops : Array Oper} (t : Nat) (S : World → Prop) {id : Nat} {Q : Exit → Act → World → Prop} {a : Act} {w : World} (hm : P.follows .mixedOrders = true) (hS : S w.drew)
    (h : S w.drew → wpAnyT P .any ops (normalQ (fun a w => Q .normal a w)) S t ops.size (Array.replicate ops.size false) a w.drew) : (Code.region id ops true).wp P Q a w :=
  wp_mono (wp_region_any hm (wpAny_of_till _ _ _ _ (h hS))) (fun e a w h => by cases e <;> first | exact h | exact h.elim)
section
variable {P : Program} {ops : Array Oper} {Q : Exit → Act → World → Prop} {md : Region.Mode} {S : World → Prop} {t : Nat}
theorem wpAnyT_firstN {i : Nat} {oi : Oper} {v : Value} (hi : ops[i]? = some oi) (hti : t ≠ i) (ht : ops.size ≤ t) (hsel : ∀ (j : Nat) (o : Oper) cs b, ops[j]? = some o → o.op ≠ .select cs b)
    (hQ : ∀ c a w, Q (.panic c) (a.put oi.dst v) w → Q (.panic c) a w) :
    ∀ (fuel : Nat) (listed : Array Bool) (a : Act) (w : World),
      (∀ j oj, ops[j]? = some oj → j ≠ i → listed.getD j true = false → (∀ e ∈ oj.after, Region.binds md e = true → e.on ≠ i) → oi.apart ops oj = true) →
      i ∈ Region.ready md ops listed → YieldsIf P ops S oi v a → S w →
      wpAnyT P md ops Q S t fuel (listed.setIfInBounds i true) (a.put oi.dst v) w → wpAnyT P md ops Q S t (fuel + 1) listed a w := by
  intro fuel
  induction fuel with
  | zero =>
    intro listed a w _ hr hy hS H
    refine ⟨fun h => (by rw [h] at hr; cases hr), fun j hj => ?_⟩
    by_cases hji : j = i
    · subst hji; refine hy.wpOp hi hS ?_
      rw [if_neg (Ne.symm hti)]
      exact ⟨hS, H⟩
    · have := ready_mono hj hji
      rw [H.1] at this
      cases this
  | succ fuel ih =>
    intro listed a w hfree hr hy hS H
    refine ⟨fun h => (by rw [h] at hr; cases hr), fun j hj => ?_⟩
    by_cases hji : j = i
    · subst hji; refine hy.wpOp hi hS ?_
      rw [if_neg (Ne.symm hti)]
      exact ⟨hS, H⟩
    · have h1 := H.2 j (ready_mono hj hji)
      obtain ⟨hjun, oj, hoj, hall⟩ := mem_ready.1 hj
      have hnot : ∀ e ∈ oj.after, Region.binds md e = true → e.on ≠ i := fun e he hb heq => by
        have h1 := hall e he hb
        have h0 := (mem_ready.1 hr).1
        rw [heq] at h1
        rcases Nat.lt_or_ge i listed.size with h' | h'
        · simp [h'] at h0 h1; rw [h0] at h1; cases h1
        · simp [Array.getElem?_eq_none h'] at h1
      have hjt : j ≠ t := fun e => by
        subst e
        have := (Array.getElem?_eq_some_iff.1 hoj).1
        omega
      have h2 := wpOp_putIf hoj (hfree j oj hoj hji hjun hnot) (fun cs b => hsel i oi cs b hi) (fun cs b => hsel j oj cs b hoj) hQ hy h1
      have hfree' : ∀ k ok, ops[k]? = some ok → k ≠ i → (listed.setIfInBounds j true).getD k true = false →
          (∀ e ∈ ok.after, Region.binds md e = true → e.on ≠ i) → oi.apart ops ok = true := fun k ok hk hki hun hno => by
        refine hfree k ok hk hki ?_ hno
        by_cases hjk : j = k
        · subst hjk; exact hjun
        · rw [getD_set_ne true hjk] at hun; exact hun
      refine wpOp_mono (fun a' w' h3 => ?_) h2
      rw [if_neg hjt] at h3 ⊢
      refine ⟨h3.2.1, ih (listed.setIfInBounds j true) a' w' hfree' (ready_mono hr (Ne.symm hji)) h3.1 h3.2.1 ?_⟩
      rw [Array.setIfInBounds_comm _ _ hji]
      exact h3.2.2
/-- Take number i first, where S holds to the end. -/
theorem wpAnyT_takeN (i : Nat) (oi : Oper) (v : Value) {fuel : Nat} {listed : Array Bool} {a : Act} {w : World} (hi : ops[i]? = some oi) (ht : decide (ops.size ≤ t) = true)
    (hs : Region.noSelect ops = true) (hf : Region.free md ops listed i = true) (hr : (Region.ready md ops listed).contains i = true)
    (hQ : ∀ c a w, Q (.panic c) (a.put oi.dst v) w → Q (.panic c) a w) (hy : YieldsIf P ops S oi v a) (hS : S w)
    (h : wpAnyT P md ops Q S t fuel (listed.setIfInBounds i true) (a.put oi.dst v) w) : wpAnyT P md ops Q S t (fuel + 1) listed a w :=
  wpAnyT_firstN hi (by have := of_decide_eq_true ht; have := (Array.getElem?_eq_some_iff.1 hi).1; omega) (of_decide_eq_true ht) (Region.noSelect_spec hs) hQ fuel listed a w (Region.free_spec hi hf) (by simpa using hr) hy hS h
end
end Go.Proofs.Ytidojcogojchpaa

/- mem: write, tools. -/
set_option linter.unusedVariables false
set_option linter.unusedSimpArgs false
namespace Go.Proofs.Ytidojcogojchpaa
open Go.RowKit Go.Shelf
attribute [local go_sem] Oper.semAt_some

theorem addr_add_add (ad : Addr) (l j : Nat) : (ad.add l).add j = ad.add (l + j) := by
  unfold Addr.add
  by_cases hl : l = 0
  · subst hl; simp
  · by_cases hj : j = 0
    · subst hj; simp
    · rw [if_neg hl, if_neg hj, if_neg (by omega)]
      simp only [Nat.add_assoc]
theorem addr_add_block (ad : Addr) (l : Nat) : (ad.add l).block = ad.block := by unfold Addr.add; split <;> rfl
/-- b[l:] -/
def tailA (A : Option Addr) (cap l : Nat) : Option Addr := if cap = l then A else A.map (·.add l)
theorem Rd.tailA {W : World} {A : Option Addr} {n cap l : Nat} {cs : List Value} (h : Rd W A n 1 cs) (hc : n ≤ cap) (hl : l ≤ n) : Rd W (tailA A cap l) (n - l) 1 (cs.drop l) := by
  have hn := h.len
  refine ⟨by simp; omega, by have := h.le; omega, fun j hj => ?_⟩
  have hj' : l + j < cs.length := by simp at hj; omega
  obtain ⟨ad, rfl, hcell⟩ := h.cell (l + j) hj'
  have : cap ≠ l := by simp at hn; omega
  refine ⟨ad.add l, by simp [Go.Proofs.Ytidojcogojchpaa.tailA, this], ?_⟩
  rw [addr_add_add, hcell]
  simp
theorem Rd.upd {F : Nat → Prop} {W W' : World} {A : Option Addr} {n sz : Nat} {cs : List Value} (h : Rd W A n sz cs) (hu : Upd F W W') (hF : ∀ ad, A = some ad → ¬ F ad.block) : Rd W' A n sz cs :=
  ⟨h.len, h.le, fun j hj => by
    obtain ⟨ad, e, hc⟩ := h.cell j hj
    refine ⟨ad, e, ?_⟩
    have hb := World.block_lt_of_cell? W (ad.add j) hc
    rw [World.cell?_of_block (hu.block (ad.add j).block hb (by rw [addr_add_block]; exact hF ad e))]
    exact hc⟩
theorem Rd.upd0 {F : Nat → Prop} {W W' : World} {A : Option Addr} {n sz : Nat} {cs : List Value} (h : Rd W A n sz cs) (hu : Upd F W W') (hF : 0 < n → ∀ ad, A = some ad → ¬ F ad.block) : Rd W' A n sz cs := by
  cases n with
  | zero => exact ⟨h.len, h.le, fun j hj => by have := h.len; omega⟩
  | succ n => exact h.upd hu (hF (by omega))
theorem size_u8 (W : World) : (sizeOf 5).run Try.prog W = .ok 1 W := by
  obtain ⟨i0, e0, e1⟩ := info_u8'
  simp [sizeOf, typeInfo, e0, e1]
theorem elem_u8 : Try.prog.elem 42 = 5 := by kernel_rfl
/-- b[:h] -/
theorem slice_head (A : Option Addr) (n cap : Nat) (h : Int) (h0 : 0 ≤ h) (h1 : h ≤ cap) (W : World) :
    (Instr.sliceAt 42 (.slice A n cap) none (some (.int .i64 h)) none).run Try.prog W = .ok (.slice A h.toNat cap) W := by
  have ht : Try.prog.underlying 42 = some (.slice (Try.prog.elem 42)) := by rw [elem_u8]; exact Try.underlying42
  rw [run_sliceAt_slice _ _ _ _ _ _ ht]
  rw [run_slice_h _ _ _ _ _ ht _ _ h0 h1, elem_u8, size_u8]
  simp [Result.andThen, sliced]
  intro _
  cases A <;> simp [Addr.add]
/-- b[l:] -/
theorem slice_tail (A : Option Addr) (n cap : Nat) (l : Int) (h0 : 0 ≤ l) (h1 : l ≤ n) (W : World) :
    (Instr.sliceAt 42 (.slice A n cap) (some (.int .i64 l)) none none).run Try.prog W = .ok (.slice (tailA A cap l.toNat) (n - l.toNat) (cap - l.toNat)) W := by
  have ht : Try.prog.underlying 42 = some (.slice (Try.prog.elem 42)) := by rw [elem_u8]; exact Try.underlying42
  rw [run_sliceAt_slice _ _ _ _ _ _ ht]
  rw [run_slice_l _ _ _ _ _ ht _ _ h0 h1, elem_u8, size_u8]
  simp [Result.andThen, sliced, tailA]
/-- A page's bytes from a place on. -/
theorem slice_page_from (p : Nat) (l : Int) (h0 : 0 ≤ l) (h1 : l < 256) (W : World) :
    (Instr.sliceAt 96 (.pointer (some ⟨p, 1, none⟩)) (some (.int .i64 l)) none none).run Try.prog W = .ok (.slice (some ⟨p, 1 + l.toNat, none⟩) (256 - l.toNat) (256 - l.toNat)) W := by
  have hal : Try.prog.arrayLen 96 = 256 := by kernel_rfl
  rw [run_sliceAt_array_l W _ _ (by kernel_rfl) _ _ h0 (by rw [hal]; omega), hal]
  rw [show Try.prog.elem 96 = 5 by kernel_rfl, size_u8]
  simp only [Result.andThen, slicedAt]
  rw [if_neg (by omega)]
  unfold Addr.add
  simp
theorem rowSet {W : World} {g : Nat} {c : Array Value} {t : TypeId} {fz : Nat × Nat} (h : W.heap[g]? = some (.cells c t fz)) (cs : Array Value) : (W.setRow g cs).heap[g]? = some (.cells cs t fz) := by
  obtain ⟨hb, e⟩ := Array.getElem?_eq_some_iff.1 h
  simp [World.setRow, e, hb, Array.getElem_modify, Array.getElem?_modify]
theorem upd_row (W : World) (g : Nat) (cs : Array Value) : Upd (fun k => k = g) W (W.setRow g cs) := by
  refine ⟨rfl, rfl, rfl, by simp [World.setRow], fun k _ hn => ?_⟩
  have : g ≠ k := fun e => hn e.symm
  simp [World.setRow, Array.getElem?_modify, this]
/-- A block of another kind is none of a memory's. -/
theorem MemIs.not_reads {W : World} {b : Nat} {S : MS} {A : PM} (h : MemIs W b S A) {k : Nat} {cs : Array Value} {t : TypeId} {fz : Nat × Nat} (hk : W.heap[k]? = some (.cells cs t fz)) (h1 : (t == 104) = false) (h2 : (t == 98) = false) : ¬ S.reads A.ks b k := by
  have key : ∀ {ob : Option Nat} {ks : List Int} {f : Int → Value}, MapO W ob ks f → ob ≠ some k := fun {ob ks f} hm e => by
    rw [e] at hm
    obtain ⟨es, c, h1, _⟩ := MapF.ex hm
    rw [hk] at h1; simp at h1
  rintro (rfl | e | e | e | ⟨n, hn, rfl⟩)
  · rw [h.box] at hk
    obtain ⟨_, rfl, _⟩ : _ ∧ 104 = t ∧ _ := by simpa using hk
    simp at h1
  · exact key h.chg e
  · exact key h.pages e
  · exact key h.owns e
  · rw [(h.page n hn).1] at hk
    obtain ⟨_, rfl, _⟩ : _ ∧ 98 = t ∧ _ := by simpa [pgObj] using hk
    simp at h2
/-- A page behind a copy into it. -/
theorem page_copy (r : Int) (old new : List Int) (fr : Nat) (hf : fr + new.length ≤ old.length) : (pgCells ⟨r, old⟩).take (1 + fr) ++ nums .u8 new ++ (pgCells ⟨r, old⟩).drop (1 + fr + new.length) = pgCells ⟨r, old.take fr ++ new ++ old.drop (fr + new.length)⟩ := by
  rw [show 1 + fr = fr + 1 by omega, show fr + 1 + new.length = (fr + new.length) + 1 by omega]
  simp [pgCells, nums, List.map_take, List.map_drop]
end Go.Proofs.Ytidojcogojchpaa

/- mem: write. -/
set_option linter.unusedVariables false
set_option linter.unusedSimpArgs false
namespace Go.Proofs.Ytidojcogojchpaa
open Go.RowKit Go.Shelf
attribute [local go_sem] Oper.semAt_some

inductive WriteR (A : PM) (at_ : Int) (bs : List Int) (need : Int) : PM → Int → Bool → Prop
  | arg : 65536 < bs.length → WriteR A at_ bs need A at_ false
  | bad (c : Int) : bs.length ≤ 65536 → badAt A need at_ bs.length c → WriteR A at_ bs need A (pcAt at_ c) false
  | ok : bs.length ≤ 65536 → allOk A need at_ bs.length → WriteR A at_ bs need (A.poke at_ bs bs.length) 0 true
/-- How write ends. -/
structure WriteE (W : World) (b : Nat) (S : MS) (A : PM) (at_ : Int) (bs : List Int) (need : Int) (e : Ending) (w' : World) : Prop where
  ex : ∃ S' A' a t, e = .returned (.tuple #[.int .u32 a, .bool t]) ∧ MemIs w' b S' A' ∧ Went W w' b S A.ks S' A'.ks ∧ WriteR A at_ bs need A' a t
/-- Between two rounds. -/
structure WrI (W Wl : World) (b bb : Nat) (S : MS) (A : PM) (at_ : Int) (bs : List Int) (c : Int) (V : World) : Prop where
  m : V.heap[W.heap.size]? = some (.cells #[.pointer (some ⟨b, 0, none⟩)] 25 (0, 0))
  ex : ∃ Sc, MemIs V b Sc (A.poke at_ bs c) ∧ Went W V b S A.ks Sc A.ks ∧ ∀ k, Sc.reads A.ks b k → k < W.heap.size ∨ Wl.heap.size + 2 ≤ k
  src : ∃ Ac cap, V.heap[bb]? = some (.cells #[.slice Ac (bs.length - c.toNat) cap] 42 (0, 0)) ∧ bs.length - c.toNat ≤ cap ∧ Rd V Ac (bs.length - c.toNat) 1 (nums .u8 (bs.drop c.toNat)) ∧ (0 < bs.length → ∀ ad, Ac = some ad → ad.block < W.heap.size ∧ ¬ S.foot b ad.block)
theorem WrI.upd {W Wl : World} {b bb : Nat} {S : MS} {A : PM} {at_ c : Int} {bs : List Int} {V V' : World} (h : WrI W Wl b bb S A at_ bs c V) {F : Nat → Prop} (hu : Upd F V V') (hbb : bb < Wl.heap.size) (hF : ∀ k, F k → W.heap.size < k ∧ k ≠ bb ∧ k < Wl.heap.size + 2) : WrI W Wl b bb S A at_ bs c V' := by
  have hb : ∀ k x, ¬ F k → V.heap[k]? = some x → V'.heap[k]? = some x := fun k x hk e => by
    rw [hu.block k (Array.getElem?_eq_some_iff.1 e).1 hk]; exact e
  obtain ⟨Sc, hm, hw, hr⟩ := h.ex
  obtain ⟨Ac, cap, h1, h2, h3, h4⟩ := h.src
  refine ⟨hb _ _ (fun hf => by have := hF _ hf; omega) h.m, ⟨Sc, hm.upd hu fun k hk hf => ?_, ⟨hw.upd.trans hu fun k hf => .inr (by have := hF k hf; omega), hw.foot, hw.reads, hw.bp⟩, hr⟩, ⟨Ac, cap, hb _ _ (fun hf => (hF _ hf).2.1 rfl) h1, h2, h3.upd0 hu fun h0 ad e hf => ?_, h4⟩⟩
  · have := hF k hf
    rcases hr k hk with e | e <;> omega
  · have := hF _ hf
    have := (h4 (by omega) ad e).1
    omega
set_option maxRecDepth 100000 in
set_option maxHeartbeats 4000000 in
theorem write_in (W : World) (b : Nat) (S : MS) (A : PM) (at_ need : Int) (bs : List Int) (Ad : Option Addr) (cap : Nat) (h : MemIs W b S A) (ha : 0 ≤ at_ ∧ at_ < 4294967296) (hnd : 0 ≤ need ∧ need ≤ 7)
    (hl : bs.length ≤ 65536) (hcap : bs.length ≤ cap) (hrd : Rd W Ad bs.length 1 (nums .u8 bs)) (hbs : ∀ x ∈ bs, 0 ≤ x ∧ x < 256) (hA : 0 < bs.length → ∀ ad, Ad = some ad → ad.block < W.heap.size ∧ ¬ S.foot b ad.block) :
    CallsIn Fence.wide 8 Try.prog 66 #[.pointer (some ⟨b, 0, none⟩), .int .u32 at_, .slice Ad bs.length cap, .int .i64 need] W fun e w' => WriteE W b S A at_ bs need e w' := by
  have hm0 := Lib.hid (h.below ((balloc W (.cells #[.pointer (some ⟨b, 0, none⟩)] 25)).trans ((balloc _ (.cells #[.slice Ad bs.length cap] 42)).mono (by simp))))
  have hlt := h.lt
  obtain ⟨n, hn⟩ : ∃ n : Int, (bs.length : Int) = n := ⟨_, rfl⟩
  have hn0 : 0 ≤ n ∧ n ≤ 65536 := by omega
  have hc1 : ¬ n > 65536 := by omega
  have HN := Lib.hid hn
  have HRD := Lib.hid hrd
  clear hrd
  refine callsIn_of_wp_marks Try.func66 rfl trivial ?_ rfl
  simp only [Try.ntmps66, List.size_toArray, List.length_cons, List.length_nil, Nat.reduceAdd, Nat.reduceSub, Array.replicate_succ, Array.replicate_zero, List.push_toArray, List.append_toArray, List.nil_append, List.cons_append]
  gi_wp2_with (refine ⟨trivial, ?_⟩; gi_at_call 103; refine (callsIn_wide.2 (bad_any _ b S A at_ n need hm0.out ha ⟨hn0.1, by omega⟩ hnd)).mono ?_)
  rintro e w1 ⟨hb1, hres⟩
  have hb : Below W.heap.size W w1 := ((balloc W (.cells #[.pointer (some ⟨b, 0, none⟩)] 25)).trans ((balloc _ (.cells #[.slice Ad bs.length cap] 42)).mono (by simp))).trans (hb1.mono (by simp; omega))
  have hs1 : W.heap.size + 2 ≤ w1.heap.size := by have := hb1.size; simp at this; omega
  have q0 : w1.heap[W.heap.size]? = some (.cells #[.pointer (some ⟨b, 0, none⟩)] 25 (0, 0)) := by
    have e1 := (balloc (W.alloc (.cells #[.pointer (some ⟨b, 0, none⟩)] 25)) (.cells #[.slice Ad bs.length cap] 42)).block W.heap.size (by simp)
    have e2 := hb1.block W.heap.size (by simp; omega)
    exact e2.trans (e1.trans (heap_alloc_new W _))
  have q1 : w1.heap[W.heap.size + 1]? = some (.cells #[.slice Ad bs.length cap] 42 (0, 0)) := by
    have e0 := heap_alloc_new (W.alloc (.cells #[.pointer (some ⟨b, 0, none⟩)] 25)) (.cells #[.slice Ad bs.length cap] 42)
    rw [World.size_alloc] at e0
    exact (hb1.block (W.heap.size + 1) (by simp)).trans e0
  rcases hres with ⟨rfl, hok⟩ | ⟨c, c0, c1, rfl, hnk, hok⟩
  · have cb : w1.cell? ⟨W.heap.size + 1, 0, none⟩ = some (.slice Ad bs.length cap) := by simp [World.cell?, q1]
    have HQ0 := Lib.hid q0
    have HQ1 := Lib.hid q1
    have HB := Lib.hid hb
    clear q0 q1 hb hb1
    gi_wp2_with fail
    refine ⟨trivial, ?_⟩
    gi_at_call 104
    refine (callsIn_wide.2 (pieces_any _ _ _)).mono ?_
    rintro e w' ⟨rfl, rfl⟩
    gi_wp2_with fail
    obtain ⟨Wl, hWl⟩ : ∃ Wl, allocs w1 [.cells #[.int .u32 at_] 34, .cells #[.int .i64 n] 3] = Wl := ⟨_, rfl⟩
    have HWl : (w1.alloc (.cells #[.int .u32 at_] 34)).alloc (.cells #[.int .i64 n] 3) = Wl := hWl
    rw [HWl]
    clear HWl
    have hsl : Wl.heap.size = w1.heap.size + 2 := by rw [← hWl, allocs_size]; rfl
    have hbl : Below w1.heap.size w1 Wl := by rw [← hWl]; exact allocs_below _ _
    have hBl : Boxes Wl w1.heap.size (w1.heap.size + 1) (pcAt at_ 0) n := by
      rw [← hWl, show pcAt at_ 0 = at_ by unfold pcAt; omega]
      exact ⟨allocs_at _ _ 0 _ rfl, allocs_at _ _ 1 _ rfl⟩
    have hIl : WrI W Wl b (W.heap.size + 1) S A at_ bs 0 Wl := by
      have hb := HB.out.trans (hbl.mono (by omega))
      have hm : MemIs Wl b S A := h.below hb
      refine ⟨(hbl.block _ (by omega)).trans HQ0.out, ⟨S, hm.congr rfl rfl fun k hk => poke_zero A at_ bs k (h.page k hk).2, Went.of_below hb _ _ _, fun k hk => .inl (hlt k hk)⟩, ⟨Ad, cap, (hbl.block _ (by omega)).trans HQ1.out, by omega, ?_, hA⟩⟩
      exact HRD.out.upd0 (Upd.of_below hb) fun h0 ad e hf => by have := (hA h0 ad e).1; omega
    have HSL := Lib.hid hsl
    have HBL := Lib.hid hBl
    have HIL := Lib.hid hIl
    clear hWl hbl hBl hIl hsl cb
    refine wpIn_pieces (q := 8) (Ba := w1.heap.size) (Bn := w1.heap.size + 1) (by omega) (by omega) at_ n ⟨hn0.1, by omega⟩ rfl rfl HBL.out
      (fun c V => WrI W Wl b (W.heap.size + 1) S A at_ bs c V) (fun c V => False) ?_ ?_ HIL.out
      (fun c X => { tmps := #[.pointer (some ⟨b, 0, none⟩), .int .u32 at_, .slice Ad bs.length cap, .int .i64 need, .pointer (some ⟨W.heap.size, 0, none⟩), undef, .pointer (some ⟨W.heap.size + 1, 0, none⟩), undef, .int .u32 0, .bool false, .int .u32 0, .bool false, .pointer (some ⟨X, 0, none⟩), .pointer (some ⟨b, 0, none⟩), .bool false, .bool false, .slice Ad bs.length cap, .int .i64 n, .bool false, .bool false, undef, .tuple #[.int .u32 0, .bool false], .pointer (some ⟨b, 0, none⟩), .int .u32 at_, .slice Ad bs.length cap, .int .i64 n, .int .i64 need, .tuple #[.int .u32 0, .bool false], .int .u32 0, .bool false, .bool false, undef, .int .u32 at_, .slice Ad bs.length cap, .int .i64 n, .func (.func 132) #[] #[.pointer (some ⟨w1.heap.size + 1, 0, none⟩), .pointer (some ⟨w1.heap.size, 0, none⟩)], .agg (pcCells at_ n c), undef, undef, undef, undef, undef, undef, undef, undef, undef, undef, undef, undef, undef, undef, undef, undef, undef, undef], defers := [] }) ?_ ?_ ?_ ?_
    · intro c V V' hi hu
      exact hi.upd hu (by have := HSL.out; omega) fun k hk => by have := HSL.out; simp [Bk, bkL] at hk; omega
    · rintro c V V' hi hu
      exact hi
    · intro l c V K hK
      gi_wp2_with fail
      rw [store_piece]
      gi_wp2_with fail
      exact hK
    · intro l c V X c0 c1 hi hX hx
      have hk := (hok c c0 c1).1
      obtain ⟨Sc, hmc, hwc, hrc⟩ := hi.ex
      obtain ⟨Ac, cpc, hbb, hcp0, hsrc, hAc⟩ := hi.src
      have hAc := hAc (by have := HN.out; omega)
      obtain ⟨k1', k2', k3'⟩ := pcLen_pos (at_ := at_) c1
      have m0 := Int.emod_nonneg (pcAt at_ c) (show (256 : Int) ≠ 0 by omega)
      have m1 := Int.emod_lt_of_pos (pcAt at_ c) (show (0 : Int) < 256 by omega)
      have hV1 : Wl.heap.size + 2 < V.heap.size := by have := (Array.getElem?_eq_some_iff.1 hx).1; omega
      have cm : V.cell? ⟨W.heap.size, 0, none⟩ = some (.pointer (some ⟨b, 0, none⟩)) := by simp [World.cell?, hi.m]
      have cb : V.cell? ⟨W.heap.size + 1, 0, none⟩ = some (.slice Ac (bs.length - c.toNat) cpc) := by simp [World.cell?, hbb]
      have cx1 : V.cell? ⟨X, 1, none⟩ = some (.int .i64 (pcAt at_ c / 256)) := by simp [World.cell?, hx, pcCells]
      have cx2 : V.cell? ⟨X, 2, none⟩ = some (.int .i64 (pcAt at_ c % 256)) := by simp [World.cell?, hx, pcCells]
      have cx3 : V.cell? ⟨X, 3, none⟩ = some (.int .i64 (pcLen at_ n c)) := by simp [World.cell?, hx, pcCells]
      have hd : Upd (fun _ => False) V V.drew := Upd.drew _ V
      have hCH := Lib.hid (change_any V.drew b Sc (A.poke at_ bs c) (pcAt at_ c / 256) (hmc.upd hd fun _ _ h => h) hk)
      obtain ⟨P, hP⟩ : ∃ P, pcAt at_ c / 256 = P := ⟨_, rfl⟩
      obtain ⟨fr, hfr⟩ : ∃ fr, pcAt at_ c % 256 = fr := ⟨_, rfl⟩
      obtain ⟨ln, hln⟩ : ∃ ln, pcLen at_ n c = ln := ⟨_, rfl⟩
      obtain ⟨nb, hnb⟩ : ∃ nb, bs.length - c.toNat = nb := ⟨_, rfl⟩
      rw [hP] at cx1 hCH hk
      rw [hfr] at cx2 m0 m1 k3'
      rw [hln] at cx3 k1' k2' k3'
      rw [hnb] at cb hbb hcp0 hsrc
      have hn' := HN.out
      have hs12 : ∀ W', _ := fun W' => slice_head Ac nb cpc ln (by omega) (by omega) W'
      have hs9 : ∀ W', _ := fun W' => slice_tail Ac nb cpc ln (by omega) (by omega) W'
      have HI := Lib.hid hi
      have HX := Lib.hid hx
      have HMC := Lib.hid hmc
      have HWC := Lib.hid hwc
      have HRC := Lib.hid hrc
      have HBB := Lib.hid hbb
      have HSRC := Lib.hid hsrc
      have HP := Lib.hid hP
      have HFR := Lib.hid hfr
      have HLN := Lib.hid hln
      have HNB := Lib.hid hnb
      have HV1 := Lib.hid hV1
      have hS0 : V.drew.cell? ⟨W.heap.size, 0, none⟩ = some (.pointer (some ⟨b, 0, none⟩)) ∧ V.drew.cell? ⟨X, 1, none⟩ = some (.int .i64 P) ∧ V.drew.cell? ⟨X, 2, none⟩ = some (.int .i64 fr) ∧ V.drew.cell? ⟨X, 3, none⟩ = some (.int .i64 ln) ∧ V.drew.cell? ⟨W.heap.size + 1, 0, none⟩ = some (.slice Ac nb cpc) := ⟨cm, cx1, cx2, cx3, cb⟩
      clear hi hx hmc hwc hrc hbb hsrc hP hfr hln hnb hd hV1 hn' cm cb cx1 cx2 cx3
      gi_wp2_with fail
      refine region_till_in2 14 (fun W' => W'.cell? ⟨W.heap.size, 0, none⟩ = some (.pointer (some ⟨b, 0, none⟩)) ∧ W'.cell? ⟨X, 1, none⟩ = some (.int .i64 P) ∧ W'.cell? ⟨X, 2, none⟩ = some (.int .i64 fr) ∧ W'.cell? ⟨X, 3, none⟩ = some (.int .i64 ln) ∧ W'.cell? ⟨W.heap.size + 1, 0, none⟩ = some (.slice Ac nb cpc)) (open2_round l) (by kernel_rfl) (by kernel_rfl) hS0 (fun hS => ?_)
      refine wpAnyT_takeN 0 _ (.pointer (some ⟨b, 0, none⟩)) (by rfl) (by kernel_rfl) (by kernel_rfl) (by kernel_rfl) (by kernel_rfl) (fun _ _ _ h => h) (Or.inl ⟨by rfl, fun W' hW' => by obtain ⟨s0, s1, s2, s3, s4⟩ := hW'; go_simp⟩) hS ?_
      try simp only [Act.put, List.setIfInBounds_toArray, List.set_cons_zero, List.set_cons_succ]
      refine wpAnyT_takeN 1 _ (.pointer (some ⟨X, 1, none⟩)) (by rfl) (by kernel_rfl) (by kernel_rfl) (by kernel_rfl) (by kernel_rfl) (fun _ _ _ h => h) (Or.inl ⟨by rfl, fun W' hW' => by obtain ⟨s0, s1, s2, s3, s4⟩ := hW'; go_simp⟩) hS ?_
      try simp only [Act.put, List.setIfInBounds_toArray, List.set_cons_zero, List.set_cons_succ]
      refine wpAnyT_takeN 2 _ (.int .i64 P) (by rfl) (by kernel_rfl) (by kernel_rfl) (by kernel_rfl) (by kernel_rfl) (fun _ _ _ h => h) (Or.inl ⟨by rfl, fun W' hW' => by obtain ⟨s0, s1, s2, s3, s4⟩ := hW'; go_simp⟩) hS ?_
      try simp only [Act.put, List.setIfInBounds_toArray, List.set_cons_zero, List.set_cons_succ]
      refine wpAnyT_takeN 6 _ (.pointer (some ⟨X, 2, none⟩)) (by rfl) (by kernel_rfl) (by kernel_rfl) (by kernel_rfl) (by kernel_rfl) (fun _ _ _ h => h) (Or.inl ⟨by rfl, fun W' hW' => by obtain ⟨s0, s1, s2, s3, s4⟩ := hW'; go_simp⟩) hS ?_
      try simp only [Act.put, List.setIfInBounds_toArray, List.set_cons_zero, List.set_cons_succ]
      refine wpAnyT_takeN 7 _ (.int .i64 fr) (by rfl) (by kernel_rfl) (by kernel_rfl) (by kernel_rfl) (by kernel_rfl) (fun _ _ _ h => h) (Or.inl ⟨by rfl, fun W' hW' => by obtain ⟨s0, s1, s2, s3, s4⟩ := hW'; go_simp⟩) hS ?_
      try simp only [Act.put, List.setIfInBounds_toArray, List.set_cons_zero, List.set_cons_succ]
      refine wpAnyT_takeN 9 _ (.slice Ac nb cpc) (by rfl) (by kernel_rfl) (by kernel_rfl) (by kernel_rfl) (by kernel_rfl) (fun _ _ _ h => h) (Or.inl ⟨by rfl, fun W' hW' => by obtain ⟨s0, s1, s2, s3, s4⟩ := hW'; go_simp⟩) hS ?_
      try simp only [Act.put, List.setIfInBounds_toArray, List.set_cons_zero, List.set_cons_succ]
      refine wpAnyT_takeN 10 _ (.pointer (some ⟨X, 3, none⟩)) (by rfl) (by kernel_rfl) (by kernel_rfl) (by kernel_rfl) (by kernel_rfl) (fun _ _ _ h => h) (Or.inl ⟨by rfl, fun W' hW' => by obtain ⟨s0, s1, s2, s3, s4⟩ := hW'; go_simp⟩) hS ?_
      try simp only [Act.put, List.setIfInBounds_toArray, List.set_cons_zero, List.set_cons_succ]
      refine wpAnyT_takeN 11 _ (.int .i64 ln) (by rfl) (by kernel_rfl) (by kernel_rfl) (by kernel_rfl) (by kernel_rfl) (fun _ _ _ h => h) (Or.inl ⟨by rfl, fun W' hW' => by obtain ⟨s0, s1, s2, s3, s4⟩ := hW'; go_simp⟩) hS ?_
      try simp only [Act.put, List.setIfInBounds_toArray, List.set_cons_zero, List.set_cons_succ]
      refine wpAnyT_takeN 12 _ (.slice Ac ln.toNat cpc) (by rfl) (by kernel_rfl) (by kernel_rfl) (by kernel_rfl) (by kernel_rfl) (fun _ _ _ h => h) (Or.inl ⟨by rfl, fun W' hW' => by obtain ⟨s0, s1, s2, s3, s4⟩ := hW'; go_simp⟩) hS ?_
      try simp only [Act.put, List.setIfInBounds_toArray, List.set_cons_zero, List.set_cons_succ]
      refine wpAnyT_one 3 _ (by kernel_rfl) (by kernel_rfl) (by rfl) (fun K' hK' => ?_)
      rw [if_pos (by rfl)]
      go_wp2_with fail
      refine hCH.out.mono ?_
      rintro e W2 ⟨p, rfl, ⟨Sd, hmd, hwd, hpd, hod⟩⟩
      have hxr : ¬ Sc.reads A.ks b X := HMC.out.not_reads HX.out rfl rfl
      have hmr : ¬ Sc.reads A.ks b W.heap.size := HMC.out.not_reads HI.out.m rfl rfl
      have hbr : ¬ Sc.reads A.ks b (W.heap.size + 1) := HMC.out.not_reads HBB.out rfl rfl
      have hfd : ∀ k, Sc.foot b k → Sc.reads A.ks b k := HMC.out.foot_reads
      have hud : Upd (fun k => Sc.foot b k) V W2 := (Upd.drew _ V).trans hwd.upd fun _ e => .inl e
      have hx2 : W2.heap[X]? = some (.cells (pcCells at_ n c) 149 (0, 0)) := (hud.block X (Array.getElem?_eq_some_iff.1 HX.out).1 fun hf => hxr (hfd _ hf)).trans HX.out
      have hm2 : W2.heap[W.heap.size]? = some (.cells #[.pointer (some ⟨b, 0, none⟩)] 25 (0, 0)) := (hud.block _ (Array.getElem?_eq_some_iff.1 HI.out.m).1 fun hf => hmr (hfd _ hf)).trans HI.out.m
      have hb2 : W2.heap[W.heap.size + 1]? = some (.cells #[.slice Ac nb cpc] 42 (0, 0)) := (hud.block _ (Array.getElem?_eq_some_iff.1 HBB.out).1 fun hf => hbr (hfd _ hf)).trans HBB.out
      have hS2 : W2.cell? ⟨W.heap.size, 0, none⟩ = some (.pointer (some ⟨b, 0, none⟩)) ∧ W2.cell? ⟨X, 1, none⟩ = some (.int .i64 P) ∧ W2.cell? ⟨X, 2, none⟩ = some (.int .i64 fr) ∧ W2.cell? ⟨X, 3, none⟩ = some (.int .i64 ln) ∧ W2.cell? ⟨W.heap.size + 1, 0, none⟩ = some (.slice Ac nb cpc) := by
        refine ⟨by simp [World.cell?, hm2], ?_, ?_, ?_, by simp [World.cell?, hb2]⟩
        · simp [World.cell?, hx2, pcCells, HP.out]
        · simp [World.cell?, hx2, pcCells, HFR.out]
        · simp [World.cell?, hx2, pcCells, HLN.out]
      refine hK'.out _ _ hS2 ?_
      clear hK' K' hS
      try simp only [Act.put, List.setIfInBounds_toArray, List.set_cons_zero, List.set_cons_succ]
      have hs8 : ∀ W', _ := fun W' => slice_page_from p fr m0 m1 W'
      refine wpAnyT_takeN 4 _ (.pointer (some ⟨p, 0, none⟩)) (by rfl) (by kernel_rfl) (by kernel_rfl) (by kernel_rfl) (by kernel_rfl) (fun _ _ _ h => h) (Or.inl ⟨by rfl, fun W' hW' => by obtain ⟨s0, s1, s2, s3, s4⟩ := hW'; go_simp⟩) hS2 ?_
      try simp only [Act.put, List.setIfInBounds_toArray, List.set_cons_zero, List.set_cons_succ]
      refine wpAnyT_takeN 5 _ (.pointer (some ⟨p, 1, none⟩)) (by rfl) (by kernel_rfl) (by kernel_rfl) (by kernel_rfl) (by kernel_rfl) (fun _ _ _ h => h) (Or.inl ⟨by rfl, fun W' hW' => by obtain ⟨s0, s1, s2, s3, s4⟩ := hW'; go_simp⟩) hS2 ?_
      try simp only [Act.put, List.setIfInBounds_toArray, List.set_cons_zero, List.set_cons_succ]
      refine wpAnyT_takeN 8 _ (.slice (some ⟨p, 1 + fr.toNat, none⟩) (256 - fr.toNat) (256 - fr.toNat)) (by rfl) (by kernel_rfl) (by kernel_rfl) (by kernel_rfl) (by kernel_rfl) (fun _ _ _ h => h) (Or.inl ⟨by rfl, fun W' hW' => by obtain ⟨s0, s1, s2, s3, s4⟩ := hW'; go_simp⟩) hS2 ?_
      try simp only [Act.put, List.setIfInBounds_toArray, List.set_cons_zero, List.set_cons_succ]
      -- the copy
      have hbk : ∀ ad, Ac = some ad → ¬ Sc.foot b ad.block := fun ad e hf => by
        rcases HWC.out.foot _ hf with h1 | h1
        · exact (hAc ad e).2 h1
        · have := (hAc ad e).1; omega
      have hrd2 : Rd W2 Ac nb 1 (nums .u8 (bs.drop c.toNat)) := HSRC.out.upd hud hbk
      have hlen := HSRC.out.len
      rw [nums_length, Nat.mul_one] at hlen
      have hlt8 : ln.toNat ≤ nb := by have := HNB.out; have := HN.out; omega
      obtain ⟨ad, hade, hcl0⟩ := hrd2.cell 0 (by rw [nums_length]; omega)
      subst hade
      obtain ⟨hpg2, hpk2⟩ := hmd.page P hk
      rw [hpd] at hpg2
      obtain ⟨g0, hg0⟩ : ∃ g0, (⟨(A.pg P).r, pokeB A at_ bs c P⟩ : Pg) = g0 := ⟨_, rfl⟩
      have hpg2' : W2.heap[p]? = some (pgObj g0) := by rw [← hg0]; exact hpg2
      have hcp := run_copy_row (P := Try.prog) W2 42 42 3 5 p (1 + fr.toNat) (256 - fr.toNat) (256 - fr.toNat) ad ln.toNat cpc (pgCells g0).toArray 98 (nums .u8 ((bs.drop c.toNat).take ln.toNat)) Try.underlying42 (by obtain ⟨i1, e0, e1⟩ := info_u8'; simp [e0, e1]) hpg2' (by rw [nums_length, List.length_take]; show min ln.toNat (bs.drop c.toNat).length = min ln.toNat (256 - fr.toNat); omega) (fun j v hj => by
          have hj1 := (List.getElem?_eq_some_iff.1 hj).1
          rw [nums_length, List.length_take] at hj1
          obtain ⟨ad', e1, e2⟩ := hrd2.cell j (by rw [nums_length]; omega)
          cases e1
          rw [e2, ← hj]
          simp only [nums, List.map_take, List.getElem?_take, if_pos (show j < ln.toNat by omega)]
          rw [List.getElem?_eq_getElem]) (by rw [nums_length, List.length_take]; have e : (pgCells g0).toArray.size = 257 := by { rw [← hg0]; simp [pgCells, nums, pokeB_len] }; rw [e]; omega) (nums_oneC _ _)
      have hln8 : ((bs.drop c.toNat).take ln.toNat).length = ln.toNat := by rw [List.length_take]; omega
      rw [nums_length, hln8, List.toList_toArray] at hcp
      obtain ⟨W3, hW3⟩ : ∃ W3, W2.setRow p ((pgCells g0).take (1 + fr.toNat) ++ nums .u8 ((bs.drop c.toNat).take ln.toNat) ++ (pgCells g0).drop (1 + fr.toNat + ln.toNat)).toArray = W3 := ⟨_, rfl⟩
      rw [hW3] at hcp
      have hu3 : Upd (fun k => k = p) W2 W3 := by rw [← hW3]; exact upd_row _ _ _
      have hpp : Sd.reads A.ks b p := .inr (.inr (.inr (.inr ⟨P, hk, hpd.symm⟩)))
      have hpr : p < W.heap.size ∨ Wl.heap.size + 2 ≤ p := by
        rcases hwd.reads p hpp with h1 | h1
        · exact HRC.out p h1
        · have := HV1.out; have e : V.drew.heap.size = V.heap.size := rfl; omega
      have hxp : X ≠ p := fun e => by rw [e] at hx2; rw [hpg2'] at hx2; simp [pgObj] at hx2
      have hx3 : W3.heap[X]? = some (.cells (pcCells at_ n c) 149 (0, 0)) := (hu3.block X (Array.getElem?_eq_some_iff.1 hx2).1 hxp).trans hx2
      have hm3 : W3.heap[W.heap.size]? = some (.cells #[.pointer (some ⟨b, 0, none⟩)] 25 (0, 0)) := (hu3.block _ (Array.getElem?_eq_some_iff.1 hm2).1 (by have := HSL.out; omega)).trans hm2
      have hb3 : W3.heap[W.heap.size + 1]? = some (.cells #[.slice (some ad) nb cpc] 42 (0, 0)) := (hu3.block _ (Array.getElem?_eq_some_iff.1 hb2).1 (by have := HSL.out; omega)).trans hb2
      have hS3 : W3.cell? ⟨W.heap.size, 0, none⟩ = some (.pointer (some ⟨b, 0, none⟩)) ∧ W3.cell? ⟨X, 1, none⟩ = some (.int .i64 P) ∧ W3.cell? ⟨X, 2, none⟩ = some (.int .i64 fr) ∧ W3.cell? ⟨X, 3, none⟩ = some (.int .i64 ln) ∧ W3.cell? ⟨W.heap.size + 1, 0, none⟩ = some (.slice (some ad) nb cpc) := by
        refine ⟨by simp [World.cell?, hm3], ?_, ?_, ?_, by simp [World.cell?, hb3]⟩
        · simp [World.cell?, hx3, pcCells, HP.out]
        · simp [World.cell?, hx3, pcCells, HFR.out]
        · simp [World.cell?, hx3, pcCells, HLN.out]
      have HS3 := Lib.hid hS3
      have HX3 := Lib.hid hx3
      have HM3 := Lib.hid hm3
      have HB3 := Lib.hid hb3
      have HU3 := Lib.hid hu3
      have HUD := Lib.hid hud
      have HMD := Lib.hid hmd
      have HWD := Lib.hid hwd
      have HPG2 := Lib.hid hpg2'
      have HW3 := Lib.hid hW3
      have HG0 := Lib.hid hg0
      have HOD := Lib.hid hod
      have HPD := Lib.hid hpd
      have HRD2 := Lib.hid hrd2
      have c3b := hS3.2.2.2.2
      have c3l := hS3.2.2.2.1
      have f3b : W3.frozen? ⟨W.heap.size + 1, 0, none⟩ = false := by simp [World.frozen?, hb3]
      clear hS2 hS3 hx2 hm2 hb2 hx3 hm3 hb3 hu3 hud hmd hwd hpg2 hpg2' hW3 hg0 hod hpd hrd2 hcl0 hpk2 hxr hmr hbr hfd hbk
      refine wpAnyT_one 13 _ (by kernel_rfl) (by kernel_rfl) (by rfl) (fun K' hK' => ?_)
      rw [if_pos (by rfl)]
      refine wp_copy_run _ (.tmp 45) (.tmp 49) 42 42 rfl _ _ rfl rfl (goInt ln.toNat) W3 hcp ?_
      refine hK'.out _ _ HS3.out ?_
      clear hK' K'
      try simp only [Act.put, List.setIfInBounds_toArray, List.set_cons_zero, List.set_cons_succ]
      refine ⟨by kernel_rfl, ?_⟩
      simp only [normalQ]
      gi_wp2_with fail
      obtain ⟨W4, hW4⟩ : ∃ W4, W3.setCell ⟨W.heap.size + 1, 0, none⟩ (.slice (tailA (some ad) cpc ln.toNat) (nb - ln.toNat) (cpc - ln.toNat)) = W4 := ⟨_, rfl⟩
      rw [hW4]
      have hu4 : Upd (fun k => k = W.heap.size + 1) W3 W4 := by rw [← hW4]; exact Upd.setCell W3 ⟨W.heap.size + 1, 0, none⟩ _
      have e1 : Upd (fun k => Sc.foot b k ∨ k = p ∨ k = W.heap.size + 1) V W2 := HUD.out.mono fun _ e => .inl e
      have e2 : Upd (fun k => Sc.foot b k ∨ k = p ∨ k = W.heap.size + 1) V W3 := e1.trans HU3.out fun _ e => .inl (.inr (.inl e))
      have e3 : Upd (fun k => Sc.foot b k ∨ k = p ∨ k = W.heap.size + 1) V W4 := e2.trans hu4 fun _ e => .inl (.inr (.inr e))
      have hFk : ∀ k, (Sc.foot b k ∨ k = p ∨ k = W.heap.size + 1) → k < W.heap.size ∨ k = W.heap.size + 1 ∨ Wl.heap.size + 2 ≤ k := by
        rintro k (e | e | e)
        · rcases HRC.out k (HMC.out.foot_reads k e) with h1 | h1 <;> omega
        · omega
        · omega
      have hsl := HSL.out
      have hn9 := HN.out
      have hnb9 := HNB.out
      have hpk := (h.page P hk).2
      have hP9 := HP.out
      have hfr9 := HFR.out
      have hln9 := HLN.out
      rw [← hn9] at hln9
      have hg1 : W3.heap[Sd.at_ P]? = some (pgObj ⟨(A.pg P).r, pokeB A at_ bs (c + ln) P⟩) := by
        have e0 := rowSet HPG2.out ((pgCells g0).take (1 + fr.toNat) ++ nums .u8 ((bs.drop c.toNat).take ln.toNat) ++ (pgCells g0).drop (1 + fr.toNat + ln.toNat)).toArray
        rw [HW3.out] at e0
        have e5 := page_copy (A.pg P).r (pokeB A at_ bs c P) ((bs.drop c.toNat).take ln.toNat) fr.toNat (by rw [pokeB_len, hln8]; omega)
        have e6 := poke_here A at_ c bs hl c0 (by omega)
        rw [hP9, hfr9, hln9] at e6
        rw [hln8, HG0.out] at e5
        rw [HPD.out, e0, e5, e6]
        rfl
      obtain ⟨hm3, hw3⟩ := HMD.out.page1 (n := P) HOD.out (by rw [HPD.out]; exact HU3.out) hg1 ⟨pokeB_len _ _ _ _ _, pokeB_u8 hbs hpk (by omega), hpk.r⟩
      have hm3' : MemIs W3 b Sd (A.poke at_ bs (c + ln)) := by
        refine hm3.congr rfl ?_ fun k hk' => ?_
        · have := poke_next_cg A at_ bs.length c bs h.chg.up c0 (by omega)
          rw [hln9, hP9] at this
          exact this
        · by_cases e : k = P
          · subst e
            exact (updPg_same _ _ _).symm
          · show _ = updPg _ P _ k
            rw [updPg_ne e]
            have := poke_other A at_ c bs.length bs k (h.rng k hk') c0 (by omega) (by rw [hP9]; exact e)
            rw [hln9] at this
            exact congrArg (fun x => (⟨(A.pg k).r, x⟩ : Pg)) this
      have hw4 : Went W W3 b S A.ks Sd A.ks := ((HWC.out.trans (Went.of_below (bdrewN (Below.refl _ V) 1) b Sc A.ks)).trans HWD.out).trans hw3
      have hpf : Sd.foot b p := .inr (.inr (.inr (.inr ⟨P, HOD.out, HPD.out.symm⟩)))
      have hap : ad.block ≠ p := fun e => by
        obtain ⟨f1, f2⟩ := hAc ad rfl
        have := (((HWC.out.trans (Went.of_below (bdrewN (Below.refl _ V) 1) b Sc A.ks)).trans HWD.out).foot p hpf)
        rw [← e] at this
        rcases this with h1 | h1
        · exact f2 h1
        · omega
      have hcl9 : bs.length - (c + ln).toNat = nb - ln.toNat := by omega
      rw [HLN.out]
      refine ⟨KeepC.of_upd e3 fun x hx hf => by have := hFk x hf; simp [bkL] at hx; omega, (hu4.block _ (Array.getElem?_eq_some_iff.1 HM3.out).1 (by omega)).trans HM3.out, ⟨Sd, hm3'.upd hu4 fun k hk' hf => ?_, ⟨hw4.upd.trans hu4 fun i e => .inr (by omega), hw4.foot, hw4.reads, hw4.bp⟩, fun k hk' => ?_⟩, ⟨tailA (some ad) cpc ln.toNat, cpc - ln.toNat, ?_, by omega, ?_, ?_⟩⟩
      · subst hf
        exact hm3'.not_reads HB3.out rfl rfl hk'
      · rcases HWD.out.reads k hk' with h1 | h1
        · exact HRC.out k h1
        · have := HV1.out; have e : V.drew.heap.size = V.heap.size := rfl; omega
      · rw [← hW4, setCell_row HB3.out, hcl9]; rfl
      · rw [hcl9]
        have hr4 : Rd W4 (some ad) nb 1 (nums .u8 (bs.drop c.toNat)) := (HRD2.out.upd HU3.out fun a' e hf => by cases e; exact hap hf).upd hu4 fun a' e hf => by cases e; have := (hAc ad rfl).1; omega
        have := hr4.tailA (cap := cpc) (l := ln.toNat) hcp0 hlt8
        have e9 : (nums .u8 (bs.drop c.toNat)).drop ln.toNat = nums .u8 (bs.drop (c + ln).toNat) := by
          rw [Int.toNat_add c0 (by omega)]
          simp [nums, List.map_drop]
        rw [e9] at this
        exact this
      · intro _ a' e
        unfold tailA at e
        split at e
        · cases e; exact hAc ad rfl
        · simp only [Option.map_some, Option.some.injEq] at e
          rw [← e, addr_add_block]
          exact hAc ad rfl
    · intro V hi hK
      gi_wp2_with fail
      refine ⟨by simp, .inl ⟨_, _, rfl, run_takeDeferred hK, ?_⟩⟩
      have hsl := HSL.out
      have hi4 := hi.upd (putObj_upd V Wl.heap.size (.deferred none)) (by omega) fun k e => by omega
      obtain ⟨Sc, hmc, hwc, _⟩ := hi4.ex
      have hok' : allOk A need at_ bs.length := by rw [HN.out]; exact hok
      refine ⟨_, results_tmp2 rfl _ _ _, ⟨Sc, A.poke at_ bs bs.length, 0, true, rfl, ?_, hwc, .ok hl hok'⟩⟩
      rw [HN.out]
      exact hmc
    · rintro c V c0 c1 hi hK
      exact hi.elim
  · gi_wp2_with fail
    rw [HN.out.symm] at c1
    exact ⟨_, results_tmp2 rfl _ _ _, S, A, _, _, rfl, h.below hb, Went.of_below hb _ _ _, .bad c hl ⟨c0, c1, hnk, hok⟩⟩
set_option maxRecDepth 100000 in
theorem write_arg (W : World) (b : Nat) (S : MS) (A : PM) (at_ need : Int) (bs : List Int) (Ad : Option Addr) (cap : Nat) (h : MemIs W b S A) (hl : 65536 < bs.length) :
    Calls Try.prog 66 #[.pointer (some ⟨b, 0, none⟩), .int .u32 at_, .slice Ad bs.length cap, .int .i64 need] W fun e w' => WriteE W b S A at_ bs need e w' := by
  have H := Lib.hid h
  obtain ⟨n, hn⟩ : ∃ n : Nat, bs.length = n := ⟨_, rfl⟩
  have HL := Lib.hid hl
  rw [hn] at hl ⊢
  have hc1 : (n : Int) > 65536 := by omega
  clear h hn
  go_enter Try.func66, Try.ntmps66
  go_wp2
  go_ret2
  have hb : Below W.heap.size W ((W.alloc (.cells #[.pointer (some ⟨b, 0, none⟩)] 25)).alloc (.cells #[.slice Ad n cap] 42)) := (balloc _ _).trans ((balloc _ _).mono (by simp))
  exact ⟨S, A, _, _, rfl, H.out.below hb, Went.of_below hb _ _ _, .arg HL.out⟩
set_option maxRecDepth 100000 in
theorem write_nil (W : World) (at_ need : Int) (v : Value) (n cap : Nat) (Ad : Option Addr) :
    Calls Try.prog 66 #[.pointer none, .int .u32 at_, .slice Ad n cap, .int .i64 need] W fun e w' => e = .returned (.tuple #[.int .u32 at_, .bool false]) ∧ Below W.heap.size W w' := by
  go_enter Try.func66, Try.ntmps66
  go_wp2
  go_ret2
  exact ⟨rfl, (balloc _ _).trans ((balloc _ _).mono (by simp))⟩
/-- write of any memory that is there. -/
theorem write_any (W : World) (b : Nat) (S : MS) (A : PM) (at_ need : Int) (bs : List Int) (Ad : Option Addr) (cap : Nat) (h : MemIs W b S A) (ha : 0 ≤ at_ ∧ at_ < 4294967296) (hnd : 0 ≤ need ∧ need ≤ 7)
    (hcap : bs.length ≤ cap) (hrd : Rd W Ad bs.length 1 (nums .u8 bs)) (hbs : ∀ x ∈ bs, 0 ≤ x ∧ x < 256) (hA : 0 < bs.length → ∀ ad, Ad = some ad → ad.block < W.heap.size ∧ ¬ S.foot b ad.block) :
    Calls Try.prog 66 #[.pointer (some ⟨b, 0, none⟩), .int .u32 at_, .slice Ad bs.length cap, .int .i64 need] W fun e w' => WriteE W b S A at_ bs need e w' := by
  by_cases hl : bs.length ≤ 65536
  · exact callsIn_wide.1 (write_in W b S A at_ need bs Ad cap h ha hnd hl hcap hrd hbs hA)
  · exact write_arg W b S A at_ need bs Ad cap h (by omega)
end Go.Proofs.Ytidojcogojchpaa

/- mem: Read, Fetch, Both, Peek, Write, Poke, Mark, Changed, Sum. (printed by gen/rd.py) -/
set_option linter.unusedVariables false
set_option linter.unusedSimpArgs false
namespace Go.Proofs.Ytidojcogojchpaa
open Go.RowKit Go.Shelf

set_option maxRecDepth 100000 in
theorem Read_any (W : World) (b : Nat) (S : MS) (A : PM) (at_ n : Int) (h : MemIs W b S A) (ha : 0 ≤ at_ ∧ at_ < 4294967296) :
    Calls Try.prog 37 #[.pointer (some ⟨b, 0, none⟩), .int .u32 at_, .int .i64 n] W fun e w' => ReadE A at_ n 1 W e w' := by
  have HR := Lib.hid (read_any W b S A at_ n 1 h ha (by omega))
  clear h ha
  go_enter Try.func37, Try.ntmps37
  go_wp2_with fail
  refine HR.out.mono ?_
  rintro e w1 ⟨hb, v, a, t, rfl, hr⟩
  go_wp2_with fail
  go_ret3
  exact ⟨hb, v, a, t, rfl, hr⟩
set_option maxRecDepth 100000 in
theorem Fetch_any (W : World) (b : Nat) (S : MS) (A : PM) (at_ n : Int) (h : MemIs W b S A) (ha : 0 ≤ at_ ∧ at_ < 4294967296) :
    Calls Try.prog 55 #[.pointer (some ⟨b, 0, none⟩), .int .u32 at_, .int .i64 n] W fun e w' => ReadE A at_ n 4 W e w' := by
  have HR := Lib.hid (read_any W b S A at_ n 4 h ha (by omega))
  clear h ha
  go_enter Try.func55, Try.ntmps55
  go_wp2_with fail
  refine HR.out.mono ?_
  rintro e w1 ⟨hb, v, a, t, rfl, hr⟩
  go_wp2_with fail
  go_ret3
  exact ⟨hb, v, a, t, rfl, hr⟩
set_option maxRecDepth 100000 in
theorem Both_any (W : World) (b : Nat) (S : MS) (A : PM) (at_ n : Int) (h : MemIs W b S A) (ha : 0 ≤ at_ ∧ at_ < 4294967296) :
    Calls Try.prog 73 #[.pointer (some ⟨b, 0, none⟩), .int .u32 at_, .int .i64 n] W fun e w' => ReadE A at_ n 3 W e w' := by
  have HR := Lib.hid (read_any W b S A at_ n 3 h ha (by omega))
  clear h ha
  go_enter Try.func73, Try.ntmps73
  go_wp2_with fail
  refine HR.out.mono ?_
  rintro e w1 ⟨hb, v, a, t, rfl, hr⟩
  go_wp2_with fail
  go_ret3
  exact ⟨hb, v, a, t, rfl, hr⟩
set_option maxRecDepth 100000 in
theorem Peek_any (W : World) (b : Nat) (S : MS) (A : PM) (at_ n : Int) (h : MemIs W b S A) (ha : 0 ≤ at_ ∧ at_ < 4294967296) :
    Calls Try.prog 26 #[.pointer (some ⟨b, 0, none⟩), .int .u32 at_, .int .i64 n] W fun e w' => ReadE A at_ n 0 W e w' := by
  have HR := Lib.hid (read_any W b S A at_ n 0 h ha (by omega))
  clear h ha
  go_enter Try.func26, Try.ntmps26
  go_wp2_with fail
  refine HR.out.mono ?_
  rintro e w1 ⟨hb, v, a, t, rfl, hr⟩
  go_wp2_with fail
  go_ret3
  exact ⟨hb, v, a, t, rfl, hr⟩
set_option maxRecDepth 100000 in
theorem Write_any (W : World) (b : Nat) (S : MS) (A : PM) (at_ : Int) (bs : List Int) (Ad : Option Addr) (cap : Nat) (h : MemIs W b S A) (ha : 0 ≤ at_ ∧ at_ < 4294967296)
    (hcap : bs.length ≤ cap) (hrd : Rd W Ad bs.length 1 (nums .u8 bs)) (hbs : ∀ x ∈ bs, 0 ≤ x ∧ x < 256) (hA : 0 < bs.length → ∀ ad, Ad = some ad → ad.block < W.heap.size ∧ ¬ S.foot b ad.block) :
    Calls Try.prog 23 #[.pointer (some ⟨b, 0, none⟩), .int .u32 at_, .slice Ad bs.length cap] W fun e w' => WriteE W b S A at_ bs 2 e w' := by
  have HR := Lib.hid (write_any W b S A at_ 2 bs Ad cap h ha (by omega) hcap hrd hbs hA)
  clear h ha hcap hrd hbs hA
  go_enter Try.func23, Try.ntmps23
  go_wp2_with fail
  refine HR.out.mono ?_
  rintro e w1 ⟨S', A', a, t, rfl, hm, hw, hr⟩
  go_wp2_with fail
  go_ret2
  exact ⟨S', A', a, t, rfl, hm, hw, hr⟩
set_option maxRecDepth 100000 in
theorem Poke_any (W : World) (b : Nat) (S : MS) (A : PM) (at_ : Int) (bs : List Int) (Ad : Option Addr) (cap : Nat) (h : MemIs W b S A) (ha : 0 ≤ at_ ∧ at_ < 4294967296)
    (hcap : bs.length ≤ cap) (hrd : Rd W Ad bs.length 1 (nums .u8 bs)) (hbs : ∀ x ∈ bs, 0 ≤ x ∧ x < 256) (hA : 0 < bs.length → ∀ ad, Ad = some ad → ad.block < W.heap.size ∧ ¬ S.foot b ad.block) :
    Calls Try.prog 35 #[.pointer (some ⟨b, 0, none⟩), .int .u32 at_, .slice Ad bs.length cap] W fun e w' => WriteE W b S A at_ bs 0 e w' := by
  have HR := Lib.hid (write_any W b S A at_ 0 bs Ad cap h ha (by omega) hcap hrd hbs hA)
  clear h ha hcap hrd hbs hA
  go_enter Try.func35, Try.ntmps35
  go_wp2_with fail
  refine HR.out.mono ?_
  rintro e w1 ⟨S', A', a, t, rfl, hm, hw, hr⟩
  go_wp2_with fail
  go_ret2
  exact ⟨S', A', a, t, rfl, hm, hw, hr⟩
/-- How Mark ends. -/
structure MarkE (W : World) (b : Nat) (S : MS) (A : PM) (w' : World) : Prop where
  mem : MemIs w' b S { A with cg := [] }
  went : Went W w' b S A.ks S A.ks
set_option maxRecDepth 100000 in
theorem Mark_any (W : World) (b : Nat) (S : MS) (A : PM) (h : MemIs W b S A) :
    Calls Try.prog 45 #[.pointer (some ⟨b, 0, none⟩)] W fun e w' => e = .returned (.tuple #[]) ∧ MarkE W b S A w' := by
  obtain ⟨c0, _, _, _, _, _⟩ := h.cells
  cases hc : S.bc with
  | none =>
    have hcg : A.cg = [] := by have := h.chg; rw [hc] at this; exact this
    rw [hc] at c0
    have H := Lib.hid h
    have HC := Lib.hid hcg
    have hcn : (Builtin.clear_ #[99] 0 #[.map none]).run Try.prog W = .ok (.tuple #[]) W := by
      simp [Builtin.clear_, run_underlying Try.underlying99]
    clear h hcg
    go_enter Try.func45, Try.ntmps45
    go_wp2_with fail
    go_end0
    exact ⟨rfl, H.out.congr rfl HC.out.symm (fun _ _ => rfl), Went.refl _ _ _ _⟩
  | some k =>
    have hm : MapF W k A.cg (fun _ => .bool true) := by have := h.chg; rw [hc] at this; exact this
    obtain ⟨o, hr, hm'⟩ := hm.run_clear (P := Try.prog) (t := 99) (ty := 0) Try.underlying99 (fun _ => .bool true)
    rw [hc] at c0
    have HC := Lib.hid (h.chg1 hc (putObj_upd _ _ _) hm')
    clear h hm hm' hc
    go_enter Try.func45, Try.ntmps45
    go_wp2_with fail
    go_end0
    exact ⟨rfl, HC.out.1, HC.out.2⟩
theorem Changed_any (W : World) (b : Nat) (S : MS) (A : PM) (h : MemIs W b S A) :
    Calls Try.prog 36 #[.pointer (some ⟨b, 0, none⟩)] W fun e w' => ∃ v, e = .returned v ∧ KeysE A.cg W v w' := by
  have HL := Lib.hid (list_any W b S A h)
  clear h
  go_enter Try.func36, Try.ntmps36
  go_wp2_with fail
  refine HL.out.mono ?_
  rintro e w1 ⟨v, rfl, hk⟩
  go_wp2_with fail
  go_ret
  exact ⟨v, rfl, hk⟩
theorem Changed_nil (W : World) : Calls Try.prog 36 #[.pointer none] W fun e w' => e = .returned (.slice none 0 0) ∧ W = w' := by
  go_enter Try.func36, Try.ntmps36
  go_wp2
  go_ret
  exact ⟨rfl, rfl⟩
end Go.Proofs.Ytidojcogojchpaa

/- mem: Sum. -/
set_option linter.unusedVariables false
set_option linter.unusedSimpArgs false
namespace Go.Proofs.Ytidojcogojchpaa
open Go.RowKit Go.Shelf

def sum1 (h x : Int) : Int := IntKind.u64.wrap (bits .xor .u64 h x * 1099511628211)
def sumF (bs : List Int) : Int := bs.foldl sum1 14695981039346656037
theorem sumF_snoc (bs : List Int) (k : Nat) (hk : k < bs.length) : sumF (bs.take (k + 1)) = sum1 (sumF (bs.take k)) (gi bs k) := by
  rw [List.take_succ_eq_append_getElem hk, sumF, List.foldl_append, gi_get bs k hk]; rfl
theorem bytesN_u8 {W : World} {b : Nat} {S : MS} {A : PM} {need at_ n : Int} (h : MemIs W b S A) (hok : allOk A need at_ n) : ∀ x ∈ bytesN A at_ n.toNat, 0 ≤ x ∧ x < 256 := by
  intro x hx
  obtain ⟨i, hi, rfl⟩ := List.mem_map.1 hx
  have hi' : i < n.toNat := by simpa using hi
  have hp := (h.page _ (hok i (by omega) (by omega)).1).2
  have m0 := Int.emod_nonneg (pcAt at_ i) (show (256 : Int) ≠ 0 by omega)
  have m1 := Int.emod_lt_of_pos (pcAt at_ i) (show (0 : Int) < 256 by omega)
  exact hp.u8 _ (gi_mem _ _ (by rw [hp.len]; omega))
/-- How Sum ends. -/
structure SumE (A : PM) (at_ n : Int) (W : World) (e : Ending) (w' : World) : Prop where
  below : Below W.heap.size W w'
  res : (∃ v a, e = .returned (.tuple #[.int .u64 0, .bool false]) ∧ ReadR A at_ n 0 W w' v a false) ∨ (0 ≤ n ∧ n ≤ 65536 ∧ allOk A 0 at_ n ∧ e = .returned (.tuple #[.int .u64 (sumF (bytesN A at_ n.toNat)), .bool true]))
set_option maxRecDepth 100000 in
set_option maxHeartbeats 2000000 in
theorem Sum_any (W : World) (b : Nat) (S : MS) (A : PM) (at_ n : Int) (h : MemIs W b S A) (ha : 0 ≤ at_ ∧ at_ < 4294967296) :
    Calls Try.prog 57 #[.pointer (some ⟨b, 0, none⟩), .int .u32 at_, .int .i64 n] W fun e w' => SumE A at_ n W e w' := by
  have HR := Lib.hid (Peek_any W b S A at_ n h ha)
  have HU0 : Hid (∀ m, allOk A 0 at_ m → ∀ x ∈ bytesN A at_ m.toNat, 0 ≤ x ∧ x < 256) := Lib.hid fun m hm => bytesN_u8 h hm
  clear h ha
  go_enter Try.func57, Try.ntmps57
  go_wp2_with fail
  refine HR.out.mono ?_
  rintro e w1 ⟨hb, v, a, t, rfl, hr⟩
  have HB := Lib.hid hb
  cases t with
  | false =>
    have HRR := Lib.hid hr
    clear hr hb
    go_wp2_with fail
    go_ret2
    exact ⟨HB.out, .inl ⟨_, _, rfl, HRR.out⟩⟩
  | true =>
    cases hr with
    | ok _ n0 n1 hok hrow =>
      obtain ⟨bs, hbs⟩ : ∃ bs, bytesN A at_ n.toNat = bs := ⟨_, rfl⟩
      have hbl : bs.length = n.toNat := by rw [← hbs, bytesN_len]
      rw [hbs, ← hbl] at hrow
      have hlt : bs.length ≤ 65536 := by omega
      obtain ⟨Av, cv, rfl, hrd⟩ := own_rd hrow
      have HU8 := Lib.hid (HU0.out n hok)
      rw [hbs] at HU8
      have HRD := Lib.hid hrd
      have HBS := Lib.hid hbs
      have HOK := Lib.hid hok
      have HN0 := Lib.hid n0
      have HN1 := Lib.hid n1
      clear hrd hbs hok hrow hb hbl n0 n1
      go_wp2_with fail
      go_loop [11, 26] (fun o i => ∃ k : Nat, k ≤ bs.length ∧ i = .int .i64 k ∧ o = .int .u64 (sumF (bs.take k))) (fun _ i => bs.length - (intOf i).toNat)
      case atStart => exact ⟨0, Nat.zero_le _, rfl, rfl⟩
      case round =>
        obtain ⟨k, hk, rfl, rfl⟩ := hrel
        by_cases hlt2 : k < bs.length
        · obtain ⟨ad, e1, hc⟩ := RdI.at HRD.out k hlt2
          obtain rfl : Av = some ad := e1
          have hsn := sumF_snoc bs k hlt2
          obtain ⟨x, hx⟩ : ∃ x, gi bs k = x := ⟨_, rfl⟩
          obtain ⟨h0, hh0⟩ : ∃ h0, sumF (bs.take k) = h0 := ⟨_, rfl⟩
          have hx1 : 0 ≤ x ∧ x < 256 := by rw [← hx]; exact HU8.out _ (gi_mem bs k hlt2)
          rw [hx] at hc hsn
          rw [hh0] at hsn ⊢
          have HSN := Lib.hid hsn
          clear hsn hx hh0
          go_wp2_with fail
          go_round
          case rel => exact ⟨k + 1, by omega, by go_num, by rw [HSN.out]; rfl⟩
          case measure => simp [intOf]; omega
        · obtain rfl : k = bs.length := by omega
          go_wp2_with fail
          go_ret2
          refine ⟨HB.out, .inr ⟨HN0.out, HN1.out, HOK.out, ?_⟩⟩
          rw [HBS.out]; rfl
end Go.Proofs.Ytidojcogojchpaa
