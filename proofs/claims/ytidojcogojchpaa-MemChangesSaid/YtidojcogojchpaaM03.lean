/- Part 3 of the texts that the proof stands on: MCl, MSv, MLd, MCp, MCn, MSo, MDf, MOp, MEq, MEb, MEs, MRt. -/
import Derived.Test.YtidojcogojchpaaM02
import Derived.Deep.QuietTactic
import Derived.BigQuiet
import Derived.Shelf.SlLaysX
import Derived.Lib.SlMapMerge
import Derived.WalkKit
import Derived.Maps.Ext
import Derived.Maps.RangeWalk
import Derived.Laws.IdiomRangeMap
import Derived.Laws.Externs
import Derived.Shelf.Slices.CompactI
import Derived.Lib.OwnBridge
import Derived.Sort.OwnSortedInts
import Derived.LaidEqlPtr
import Derived.Shelf.Bytes.SlEqualAll

/- package slices: Clone of bytes. (printed by gen/clone.py) -/
set_option linter.unusedVariables false
namespace Go.Proofs.Ytidojcogojchpaa
open Go.RowKit

set_option maxHeartbeats 400000 in
theorem clone_u8 (A : Option Addr) (n c : Nat) (cs : List Value) (w : World) (h : Rd w A n 1 cs) (hA : A = none → c = 0) (h1 : ∀ u ∈ cs, u.oneCell' = true) (hby : n * 1 ≤ 140737488355328) :
    Calls Try.prog 67 #[.slice A n c] w fun e w' => ∃ v, e = .returned v ∧ w'.ownsRow w.heap.size 5 1 v n cs ∧ Below w.heap.size w w' := by
  have hle := h.le
  have hlen := h.len
  have H := Lib.hid h
  have H1 := Lib.hid h1
  have HL := Lib.hid hlen
  have HB := Lib.hid hby
  have HN := Lib.hid hle
  clear h h1 hlen hby hle
  cases A with
  | none =>
    obtain rfl := hA rfl
    have hcs : cs = [] := by
      rcases cs with _ | ⟨u, us⟩
      · rfl
      · obtain ⟨ad, e, _⟩ := H.out.cell 0 (by simp)
        exact absurd e (by simp)
    subst hcs
    obtain rfl : n = 0 := by have := HL.out; simp at this; omega
    clear HL H H1 HB HN
    have hnil := fun (W : World) => Lib.run_eql_slice_nil (P := Try.prog) W 42 5 none 0 0 0 0 Try.underlying42
    go_enter Try.func67, Try.ntmps67
    go_wp2
    go_ret
    exact ⟨_, rfl, World.ownsRow_nil _ _ _ _, Below.refl _ _⟩
  | some ad =>
    clear hA
    obtain ⟨i0, hi, hz0, hz1, hz2⟩ := info_parts info_u8
    have HOWN := Lib.hid (World.ownsRow_lit (base := w.heap.size) (e := 5) (size := 1) w #[] 0 (Nat.le_refl _) (by decide) rfl)
    have HC : Hid (∀ j u, cs[j]? = some u → (w.alloc (.cells #[] 5)).cell? (ad.add j) = some u) := fun j u hu => by
      obtain ⟨hj, rfl⟩ := List.getElem?_eq_some_iff.1 hu
      obtain ⟨ad', e, hc⟩ := H.out.cell j hj
      obtain rfl := Option.some.inj e
      exact bkeep (balloc _ _) hc
    have hnil := fun (W : World) => Lib.run_eql_slice_nil (P := Try.prog) W 42 5 (some ad) n c 0 0 Try.underlying42
    go_enter Try.func67, Try.ntmps67
    go_wp2_with (at_builtin; refine wpList_append_own _ rfl _ _ 42 rfl w.heap.size 5 i0 (.int .u8 0) 1 1 Try.underlying42 hi hz0 hz1 hz2 rfl (by decide) _ 0 [] rfl HOWN.out ad n c cs rfl HL.out HC.out H1.out (by have := HN.out; unfold maxLen; omega) (by have := HB.out; omega) (by simp) ?_; intro v' w1 hown' hgrow _)
    go_ret
    refine ⟨_, rfl, ?_, (balloc _ _).grown hgrow (by simp) (fun k e => by cases e; exact Nat.le_refl _)⟩
    rw [Nat.zero_add, List.nil_append] at hown'
    exact hown'

end Go.Proofs.Ytidojcogojchpaa

/- mem: Save. (printed by gen/save.py) -/
set_option linter.unusedVariables false
set_option linter.unusedSimpArgs false
namespace Go.Proofs.Ytidojcogojchpaa
open Go.RowKit Go.Shelf

/-- A page as the program's callers see it. -/
structure PV where
  n : Int
  r : Int
  A : Option Addr
  c : Nat
  bs : List Int
def PV.cells (p : PV) : List Value := [.int .i64 p.n, .int .i64 p.r, .slice p.A p.bs.length p.c]
def flat (ps : List PV) : List Value := ps.flatMap PV.cells
theorem flat_len (ps : List PV) : (flat ps).length = ps.length * 3 := by
  induction ps with
  | nil => rfl
  | cons p ps ih => simp only [flat, List.flatMap_cons, List.length_append, List.length_cons] at ih ⊢; rw [ih]; simp [PV.cells]; omega
theorem flat_one (ps : List PV) : ∀ u ∈ flat ps, u.oneCell' = true := by
  intro u hu
  obtain ⟨p, _, hp⟩ := List.mem_flatMap.1 hu
  simp [PV.cells] at hp
  rcases hp with rfl | rfl | rfl <;> rfl
theorem flat_append (ps qs : List PV) : flat (ps ++ qs) = flat ps ++ flat qs := by simp [flat]
def PV.see (p : PV) : Int × Int × List Int := (p.n, p.r, p.bs)
def seeM (ks : List Int) (pg : Int → Pg) : List (Int × Int × List Int) := ks.map fun k => (k, (pg k).r, (pg k).bs)
/-- The bytes of some pages, in blocks from B on. -/
def BytesAt (W : World) (B : Nat) (ps : List PV) : Prop := ∀ p ∈ ps, Rd W p.A p.bs.length 1 (nums .u8 p.bs) ∧ p.bs.length ≤ p.c ∧ ∀ ad, p.A = some ad → B ≤ ad.block
theorem BytesAt.below {W W' : World} {B : Nat} {ps : List PV} (h : BytesAt W B ps) (hb : Below W.heap.size W W') : BytesAt W' B ps := fun p hp => ⟨(h p hp).1.below hb, (h p hp).2⟩
structure SaveE (ks : List Int) (pg : Int → Pg) (W : World) (v : Value) (w' : World) : Prop where
  ex : ∃ ps : List PV, w'.ownsRow W.heap.size 79 3 v ps.length (flat ps) ∧ ps.map PV.see = seeM ks pg ∧ BytesAt w' W.heap.size ps
  below : Below W.heap.size W w'
/-- Between two rounds. -/
structure SvI (W W1 : World) (ks : List Int) (pg : Int → Pg) (k : Nat) (v : Value) (V : World) : Prop where
  ex : ∃ ps : List PV, ps.length = k ∧ V.ownsRow W1.heap.size 79 3 v ps.length (flat ps) ∧ ps.map PV.see = seeM (ks.take k) pg ∧ BytesAt V W.heap.size ps ∧ ∀ p ∈ ps, ∀ ad, p.A = some ad → ad.block < V.heap.size ∧ v.ownBlock ≠ some ad.block
  below : Below W.heap.size W V
theorem info_pg : (Try.prog.info? 79).map (fun i => (i.zero, i.size, i.bytes)) = some (some (.agg #[.int .i64 0, .int .i64 0, .slice none 0 0]), 3, 40) := by kernel_rfl
theorem slice_page_all (p : Nat) (W : World) :
    (Instr.sliceAt 96 (.pointer (some ⟨p, 1, none⟩)) none none none).run Try.prog W = .ok (.slice (some ⟨p, 1, none⟩) 256 256) W := by
  have hal : Try.prog.arrayLen 96 = 256 := by kernel_rfl
  rw [run_sliceAt_array_all W _ _ (by kernel_rfl), hal]
  rw [show Try.prog.elem 96 = 5 by kernel_rfl, size_u8]
  simp [Result.andThen, slicedAt, Addr.add]
theorem app_page {W : World} {base : Nat} {v : Value} {ps : List PV} (hown : W.ownsRow base 79 3 v ps.length (flat ps)) (p : PV) (hn : ps.length ≤ 1000000) (hbase : base ≤ W.heap.size) :
    ∃ v' W', (Builtin.append_ #[22, 22] 22 #[v, .slice (some ⟨W.heap.size, 0, none⟩) 1 1]).run Try.prog (W.alloc (.cells #[.int .i64 p.n, .int .i64 p.r, .slice p.A p.bs.length p.c] 79)) = .ok v' W' ∧ W'.ownsRow base 79 3 v' (ps.length + 1) (flat (ps ++ [p])) ∧ Below base (W.alloc (.cells #[.int .i64 p.n, .int .i64 p.r, .slice p.A p.bs.length p.c] 79)) W' ∧ W.grownBy W' v.ownBlock ∧ (v'.ownBlock = v.ownBlock ∨ v'.ownBlock = some (W.heap.size + 1)) := by
  obtain ⟨i0, hi0, hz0, hz1, hz2⟩ := info_parts info_pg
  have hr : Rd (W.alloc (.cells #[.int .i64 p.n, .int .i64 p.r, .slice p.A p.bs.length p.c] 79)) (some ⟨W.heap.size, 0, none⟩) 1 3 (flat [p]) := rd_new W 79 (flat [p]) 1 3 rfl (by omega)
  obtain ⟨v', W', h1, h2, h3, h4⟩ := app_gen (P := Try.prog) (t := 22) (ty := 22) (c := 1) Try.underlying22 hi0 hz0 hz1 hz2 rfl (by decide) (hown.alloc _) hr (flat_one _) (by unfold maxLen; omega) (by omega) (by simp; omega)
  rw [flat_append]
  refine ⟨v', W', h1, h2, (Upd.of_grown h3).below (by simp; omega) fun k hk => (hown.lt k hk).1, ?_, by simpa using h4⟩
  have hb := balloc W (.cells #[.int .i64 p.n, .int .i64 p.r, .slice p.A p.bs.length p.c] 79)
  refine ⟨h3.os, h3.tape, h3.output, by have := h3.size; simp at this; omega, fun k hk hn => ?_⟩
  rw [h3.block k (by simp; omega) hn]
  exact hb.block k hk
set_option maxRecDepth 100000 in
set_option maxHeartbeats 4000000 in
theorem Save_any (W : World) (b : Nat) (S : MS) (A : PM) (h : MemIs W b S A) :
    Calls Try.prog 25 #[.pointer (some ⟨b, 0, none⟩)] W fun e w' => ∃ v, e = .returned v ∧ SaveE A.ks A.pg W v w' := by
  have HK := Lib.hid (known_any W b S A h)
  have H := Lib.hid h
  have HLT := Lib.hid h.lt
  have hle := h.le
  obtain ⟨ks, hks⟩ : ∃ ks, A.ks = ks := ⟨_, rfl⟩
  have HKS := Lib.hid hks
  rw [hks] at HK hle ⊢
  clear h hks
  go_enter Try.func25, Try.ntmps25
  go_wp2_with fail
  refine HK.out.mono ?_
  rintro e W1 ⟨v, rfl, hk⟩
  obtain ⟨Av, cv, rfl, hrd⟩ := own_rd hk.row
  have hrow0 : SvI W W1 ks A.pg 0 (.slice none 0 0) W1 := ⟨⟨[], rfl, World.ownsRow_nil _ _ _ _, rfl, fun p hp => by simp at hp, fun p hp => by simp at hp⟩, hk.below⟩
  have HRD := Lib.hid hrd
  have HB := Lib.hid hk.below
  have HI := Lib.hid hrow0
  clear hk hrd hrow0
  go_wp2_with fail
  go_loopw [3, 10] (fun o i wr => ∃ k : Nat, k ≤ ks.length ∧ i = .int .i64 k ∧ Hid (SvI W W1 ks A.pg k o wr ∧ Below W1.heap.size W1 wr)) (fun _ i _ => ks.length - (intOf i).toNat)
  case atStart => exact ⟨0, Nat.zero_le _, rfl, Lib.hid ⟨HI.out, Below.refl _ _⟩⟩
  case round =>
    obtain ⟨k, hk, rfl, hI⟩ := hrel
    by_cases hlt : k < ks.length
    · obtain ⟨ad, e1, hc⟩ := RdI.at (Rd.below HRD.out hI.out.2) k hlt
      obtain rfl : Av = some ad := e1
      obtain ⟨x, hx⟩ : ∃ x, gi ks k = x := ⟨_, rfl⟩
      have hxm : x ∈ A.ks := by rw [HKS.out, ← hx]; exact gi_mem ks k hlt
      rw [hx] at hc
      have hmr : MemIs wr b S A := H.out.below hI.out.1.below
      obtain ⟨_, cpg, _, _, _, _⟩ := hmr.cells
      have hlk := hmr.pages.run_look (P := Try.prog) Try.underlying102 Try.underlying3 zero_page x
      rw [if_pos hxm] at hlk
      obtain ⟨hpg, hpk⟩ := hmr.page x hxm
      obtain ⟨p, hp⟩ : ∃ p, S.at_ x = p := ⟨_, rfl⟩
      have hptr : ptrTo S x = .pointer (some ⟨p, 0, none⟩) := by rw [← hp]
      rw [hptr] at hlk
      rw [hp] at hpg
      obtain ⟨cr, _, _⟩ := pg_cells hpg
      obtain ⟨rr, hrr⟩ : ∃ rr, (A.pg x).r = rr := ⟨_, rfl⟩
      rw [hrr] at cr
      have hS : wr.drew.cell? ⟨p, 0, none⟩ = some (.int .i64 rr) := cr
      have hrdp : Rd wr.drew (some ⟨p, 1, none⟩) 256 1 (nums .u8 (A.pg x).bs) := by
        refine ⟨by rw [nums_length, hpk.len], by omega, fun j hj => ⟨_, rfl, ?_⟩⟩
        have hadd : (⟨p, 1, none⟩ : Addr).add j = ⟨p, j + 1, none⟩ := by
          unfold Addr.add
          by_cases hj0 : j = 0
          · rw [if_pos hj0, hj0]
          · rw [if_neg hj0]; exact congrArg (fun k => (⟨p, k, none⟩ : Addr)) (by show 1 + j = j + 1; omega)
        rw [hadd]
        show wr.cell? _ = _
        rw [pg_range1 hpg, List.getElem?_eq_getElem hj]
      have HCL := Lib.hid (clone_u8 (some ⟨p, 1, none⟩) 256 256 (nums .u8 (A.pg x).bs) wr.drew hrdp (fun e => by cases e) (nums_oneC _ _) (by omega))
      have HX := Lib.hid hx
      have HPB : Hid (p < W.heap.size) := by
        have := HLT.out p (.inr (.inr (.inr (.inr ⟨x, hxm, hp.symm⟩))))
        exact Lib.hid this
      have HRR := Lib.hid hrr
      have HPK := Lib.hid hpk
      clear hx hmr hpg hpk hp hptr hrr hrdp hxm
      go_wp2_with fail
      refine wp_region_till2 15 (fun W' => W'.cell? ⟨p, 0, none⟩ = some (.int .i64 rr)) (by kernel_rfl) hS (fun hS => ?_)
      refine wpAnyT_takeN 0 _ (u3) (by rfl) (by kernel_rfl) (by kernel_rfl) (by kernel_rfl) (by kernel_rfl) (fun _ _ _ h => h) (Or.inl ⟨by rfl, fun W' hW' => by kernel_rfl⟩) hS ?_
      try simp only [Act.put, List.setIfInBounds_toArray, List.set_cons_zero, List.set_cons_succ]
      refine wpAnyT_takeN 1 _ (.int .i64 x) (by rfl) (by kernel_rfl) (by kernel_rfl) (by kernel_rfl) (by kernel_rfl) (fun _ _ _ h => h) (Or.inl ⟨by rfl, fun W' hW' => by kernel_rfl⟩) hS ?_
      try simp only [Act.put, List.setIfInBounds_toArray, List.set_cons_zero, List.set_cons_succ]
      refine wpAnyT_takeN 2 _ (.pointer (some ⟨p, 0, none⟩)) (by rfl) (by kernel_rfl) (by kernel_rfl) (by kernel_rfl) (by kernel_rfl) (fun _ _ _ h => h) (Or.inl ⟨by rfl, fun W' hW' => by kernel_rfl⟩) hS ?_
      try simp only [Act.put, List.setIfInBounds_toArray, List.set_cons_zero, List.set_cons_succ]
      refine wpAnyT_takeN 3 _ (.pointer (some ⟨p, 0, none⟩)) (by rfl) (by kernel_rfl) (by kernel_rfl) (by kernel_rfl) (by kernel_rfl) (fun _ _ _ h => h) (Or.inl ⟨by rfl, fun W' hW' => by kernel_rfl⟩) hS ?_
      try simp only [Act.put, List.setIfInBounds_toArray, List.set_cons_zero, List.set_cons_succ]
      refine wpAnyT_takeN 4 _ (.pointer (some ⟨p, 0, none⟩)) (by rfl) (by kernel_rfl) (by kernel_rfl) (by kernel_rfl) (by kernel_rfl) (fun _ _ _ h => h) (Or.inl ⟨by rfl, fun W' hW' => by kernel_rfl⟩) hS ?_
      try simp only [Act.put, List.setIfInBounds_toArray, List.set_cons_zero, List.set_cons_succ]
      refine wpAnyT_takeN 5 _ (.int .i64 rr) (by rfl) (by kernel_rfl) (by kernel_rfl) (by kernel_rfl) (by kernel_rfl) (fun _ _ _ h => h) (Or.inl ⟨by rfl, fun W' hW' => by go_simp⟩) hS ?_
      try simp only [Act.put, List.setIfInBounds_toArray, List.set_cons_zero, List.set_cons_succ]
      refine wpAnyT_takeN 6 _ (.pointer (some ⟨p, 0, none⟩)) (by rfl) (by kernel_rfl) (by kernel_rfl) (by kernel_rfl) (by kernel_rfl) (fun _ _ _ h => h) (Or.inl ⟨by rfl, fun W' hW' => by kernel_rfl⟩) hS ?_
      try simp only [Act.put, List.setIfInBounds_toArray, List.set_cons_zero, List.set_cons_succ]
      refine wpAnyT_takeN 7 _ (.pointer (some ⟨p, 0, none⟩)) (by rfl) (by kernel_rfl) (by kernel_rfl) (by kernel_rfl) (by kernel_rfl) (fun _ _ _ h => h) (Or.inl ⟨by rfl, fun W' hW' => by kernel_rfl⟩) hS ?_
      try simp only [Act.put, List.setIfInBounds_toArray, List.set_cons_zero, List.set_cons_succ]
      refine wpAnyT_takeN 8 _ (.pointer (some ⟨p, 1, none⟩)) (by rfl) (by kernel_rfl) (by kernel_rfl) (by kernel_rfl) (by kernel_rfl) (fun _ _ _ h => h) (Or.inl ⟨by rfl, fun W' hW' => by kernel_rfl⟩) hS ?_
      try simp only [Act.put, List.setIfInBounds_toArray, List.set_cons_zero, List.set_cons_succ]
      have hsa : ∀ W', _ := fun W' => slice_page_all p W'
      refine wpAnyT_takeN 9 _ (.slice (some ⟨p, 1, none⟩) 256 256) (by rfl) (by kernel_rfl) (by kernel_rfl) (by kernel_rfl) (by kernel_rfl) (fun _ _ _ h => h) (Or.inl ⟨by rfl, fun W' hW' => by go_simp⟩) hS ?_
      try simp only [Act.put, List.setIfInBounds_toArray, List.set_cons_zero, List.set_cons_succ]
      refine wpAnyT_one 10 _ (by kernel_rfl) (by kernel_rfl) (by rfl) (fun K' hK' => ?_)
      rw [if_pos (by rfl)]
      go_wp2_with fail
      refine HCL.out.mono ?_
      rintro e W4 ⟨vb, rfl, hvb, hb4⟩
      have hS4 : W4.cell? ⟨p, 0, none⟩ = some (.int .i64 rr) := bkeep hb4 hS
      refine hK'.out _ _ hS4 ?_
      clear hK' K' hS
      try simp only [Act.put, List.setIfInBounds_toArray, List.set_cons_zero, List.set_cons_succ]
      obtain ⟨gb, cb, rfl⟩ := own_sliceC hvb (by omega)
      have hrb := own_rdC hvb
      have hgb := hvb.lt gb rfl
      have hcb : 256 ≤ cb := by
        rcases hvb.2 with ⟨h0, _⟩ | ⟨g, cap, cur, e1, _, _, h1, _⟩
        · cases h0
        · simp only [Value.slice.injEq, true_and] at e1
          omega
      -- the page that comes behind the others
      obtain ⟨ps, hpl, hrow, hsee, hby, hbk⟩ := hI.out.1.ex
      have hbw : Below wr.heap.size wr W4 := (bdrewN (Below.refl _ wr) 1).trans hb4
      have hlow := hI.out.1.below.size
      have hrow4 : W4.ownsRow W1.heap.size 79 3 u3 ps.length (flat ps) := own_upd hrow (Upd.any hbw (F := fun _ => False)) fun _ _ h => h
      obtain ⟨PX, hPX⟩ : ∃ PX : PV, PX = ⟨x, rr, some ⟨gb, 0, none⟩, cb, (A.pg x).bs⟩ := ⟨_, rfl⟩
      have hbl : (A.pg x).bs.length = 256 := HPK.out.len
      have hlow1 := hI.out.2.size
      have hB1 := HB.out.size
      obtain ⟨v5, W5, run5, ho5, hb5, hg5, hv5⟩ := app_page hrow4 PX (by omega) (by have := hbw.size; omega)
      have e5 : W4.alloc (.cells #[.int .i64 PX.n, .int .i64 PX.r, .slice PX.A PX.bs.length PX.c] 79) = W4.alloc (.cells #[.int .i64 x, .int .i64 rr, .slice (some ⟨gb, 0, none⟩) 256 cb] 79) := by rw [hPX, ← hbl]
      rw [e5] at run5 hb5
      have hfin : SvI W W1 ks A.pg (k + 1) v5 W5 := by
        have hbW4 : Below W.heap.size W W4 := hI.out.1.below.trans (hbw.mono hlow)
        have hbW5 : Below W.heap.size W W5 := (hbW4.trans ((balloc W4 _).mono hbW4.size)).trans (hb5.mono hB1)
        have hgr := hg5.size
        have hv4 : ∀ k, u3.ownBlock = some k → k < wr.heap.size := fun k hk => (hrow.lt k hk).2
        have hnew : ∀ p ∈ ps ++ [PX], ∀ ad, p.A = some ad → ad.block < W4.heap.size ∧ u3.ownBlock ≠ some ad.block := by
          intro p hp ad e
          rcases List.mem_append.1 hp with hp | hp
          · have := hbk p hp ad e
            exact ⟨by have := hbw.size; omega, this.2⟩
          · obtain rfl : p = PX := by simpa using hp
            rw [hPX] at e
            cases e
            refine ⟨hgb.2, fun e => ?_⟩
            have h1 := hv4 _ e
            have h2 : wr.heap.size ≤ gb := hgb.1
            have h3 : gb < wr.heap.size := h1
            omega
        refine ⟨⟨ps ++ [PX], by simp [hpl], by simpa using ho5, ?_, ?_, ?_⟩, hbW5⟩
        · rw [List.map_append, hsee, take_gi ks k hlt, HX.out]
          simp [seeM, PV.see, hPX, HRR.out]
        · intro p hp
          have hne := hnew p hp
          have hpp : Rd W4 p.A p.bs.length 1 (nums .u8 p.bs) ∧ p.bs.length ≤ p.c ∧ ∀ ad, p.A = some ad → W.heap.size ≤ ad.block := by
            rcases List.mem_append.1 hp with hp | hp
            · obtain ⟨h1, h2, h3⟩ := hby p hp
              exact ⟨h1.below hbw, h2, h3⟩
            · obtain rfl : p = PX := by simpa using hp
              rw [hPX]
              refine ⟨by show Rd W4 _ (A.pg x).bs.length 1 _; rw [hbl]; exact hrb, by show (A.pg x).bs.length ≤ cb; omega, fun ad e => ?_⟩
              cases e
              have h2 : wr.heap.size ≤ gb := hgb.1
              show W.heap.size ≤ gb
              omega
          exact ⟨hpp.1.upd (Upd.of_grown hg5) fun ad e hf => (hne ad e).2 hf, hpp.2⟩
        · intro p hp ad e
          obtain ⟨n1, n2⟩ := hnew p hp ad e
          refine ⟨by omega, fun e' => ?_⟩
          rcases hv5 with e2 | e2
          · exact n2 (e2 ▸ e')
          · rw [e2] at e'
            have : W4.heap.size + 1 = ad.block := by simpa using e'
            omega
      have hS5 : W5.cell? ⟨p, 0, none⟩ = some (.int .i64 rr) := by
        have hpb := World.block_lt_of_cell? W4 _ hS4
        have hne : u3.ownBlock ≠ some p := fun e => by
          have := (hrow.lt p e).1
          have := HPB.out
          omega
        exact (World.cell?_of_block (hg5.block p hpb fun e => hne e.symm)).trans hS4
      have hb15 : Below W1.heap.size W1 W5 := by
        have h1 : Below W1.heap.size W1 W4 := hI.out.2.trans (hbw.mono hI.out.2.size)
        refine ⟨hg5.os.trans h1.os, hg5.tape.trans h1.tape, hg5.output.trans h1.output, by have := h1.size; have := hg5.size; omega, fun k hk => ?_⟩
        have hne : u3.ownBlock ≠ some k := fun e => by
          have := (hrow.lt k e).1
          omega
        exact (hg5.block k (by have := h1.size; omega) fun e => hne e.symm).trans (h1.block k hk)
      have HFIN := Lib.hid hfin
      have HS5 := Lib.hid hS5
      have HB15 := Lib.hid hb15
      have hS4a : (W4.alloc (.cells #[.int .i64 x, .int .i64 rr, .slice (some ⟨gb, 0, none⟩) 256 cb] 79)).cell? ⟨p, 0, none⟩ = some (.int .i64 rr) := bkeep (balloc _ _) hS4
      clear hfin hS5 hb15 ho5 hb5 hg5 hv5 hrow4 hbw hby hbk hrow hsee hrb hvb hgb e5 hb4
      refine wpAnyT_takeN 11 _ (.agg #[.int .i64 x, .int .i64 rr, .slice (some ⟨gb, 0, none⟩) 256 cb]) (by rfl) (by kernel_rfl) (by kernel_rfl) (by kernel_rfl) (by kernel_rfl) (fun _ _ _ h => h) (Or.inl ⟨by rfl, fun W' hW' => by go_simp⟩) hS4 ?_
      try simp only [Act.put, List.setIfInBounds_toArray, List.set_cons_zero, List.set_cons_succ]
      refine wpAnyT_one 12 _ (by kernel_rfl) (by kernel_rfl) (by rfl) (fun K' hK' => ?_)
      rw [if_pos (by rfl)]
      go_wp2_with fail
      refine hK'.out _ _ hS4a ?_
      clear hK' K'
      try simp only [Act.put, List.setIfInBounds_toArray, List.set_cons_zero, List.set_cons_succ]
      refine wpAnyT_one 13 _ (by kernel_rfl) (by kernel_rfl) (by rfl) (fun K' hK' => ?_)
      rw [if_pos (by rfl)]
      refine Lib.wp_append_run _ (.tmp 20) (.tmp 32) 22 22 rfl _ _ rfl rfl v5 W5 run5 ?_
      refine hK'.out _ _ HS5.out ?_
      clear hK' K'
      try simp only [Act.put, List.setIfInBounds_toArray, List.set_cons_zero, List.set_cons_succ]
      have hSx := HS5.out
      refine wpAnyT_takeN 14 _ v5 (by rfl) (by kernel_rfl) (by kernel_rfl) (by kernel_rfl) (by kernel_rfl) (fun _ _ _ h => h) (Or.inl ⟨by rfl, fun W' hW' => by kernel_rfl⟩) hSx ?_
      try simp only [Act.put, List.setIfInBounds_toArray, List.set_cons_zero, List.set_cons_succ]
      refine ⟨by kernel_rfl, ?_⟩
      simp only [normalQ]
      clear hSx run5 hS4 hS4a
      go_wp2_with fail
      go_roundw
      case rel => exact ⟨k + 1, by omega, by go_num, Lib.hid ⟨HFIN.out, HB15.out⟩⟩
      case measure => simp [intOf]; omega
    · obtain rfl : k = ks.length := by omega
      go_wp2_with fail
      go_ret
      obtain ⟨ps, hpl, hrow, hsee, hby, hbk⟩ := hI.out.1.ex
      rw [List.take_length] at hsee
      refine ⟨_, rfl, ⟨ps, own_base' hrow fun k hk => ?_, hsee, hby⟩, hI.out.1.below⟩
      have := (hrow.lt k hk).1
      have := HB.out.size
      omega
end Go.Proofs.Ytidojcogojchpaa

/- mem: Load of valid pages. -/
set_option linter.unusedVariables false
set_option linter.unusedSimpArgs false
namespace Go.Proofs.Ytidojcogojchpaa
open Go.RowKit Go.Shelf

def gp (ps : List PV) (k : Nat) : PV := ps.getD k ⟨0, 0, none, 0, []⟩
theorem gp_get (ps : List PV) (k : Nat) (h : k < ps.length) : gp ps k = ps[k] := by simp [gp, List.getD_eq_getElem?_getD, List.getElem?_eq_getElem h]
theorem gp_mem (ps : List PV) (k : Nat) (h : k < ps.length) : gp ps k ∈ ps := by rw [gp_get ps k h]; exact List.getElem_mem h
theorem flat_get : ∀ (ps : List PV) (k j : Nat), k < ps.length → j < 3 → (flat ps)[k * 3 + j]? = (gp ps k).cells[j]?
  | [], k, j, h, _ => by simp at h
  | p :: ps, 0, j, _, hj => by
    rw [show flat (p :: ps) = p.cells ++ flat ps from rfl, List.getElem?_append_left (by simp [PV.cells]; omega), Nat.zero_mul, Nat.zero_add]; rfl
  | p :: ps, k + 1, j, h, hj => by
    rw [show flat (p :: ps) = p.cells ++ flat ps from rfl, List.getElem?_append_right (by simp [PV.cells]; omega), show (k + 1) * 3 + j - p.cells.length = k * 3 + j by simp [PV.cells]; omega]
    rw [flat_get ps k j (by simpa using h) hj]
    rfl
theorem cell_at {W : World} {ad : Addr} {m j : Nat} {v : Value} (h : W.cell? (ad.add (m + j)) = some v) (hj : 0 < j) : W.cell? ⟨(ad.add m).block, (ad.add m).off + j, none⟩ = some v := by
  have e : ad.add (m + j) = ⟨(ad.add m).block, (ad.add m).off + j, none⟩ := by
    unfold Addr.add
    rw [if_neg (by omega)]
    by_cases hm : m = 0
    · rw [if_pos hm, hm, Nat.zero_add]
    · rw [if_neg hm]
      exact congrArg (fun k => (⟨ad.block, k, none⟩ : Addr)) (by show ad.off + (m + j) = ad.off + m + j; omega)
  rw [← e]; exact h
theorem Rd.at3 {W : World} {A : Option Addr} {ps : List PV} (h : Rd W A ps.length 3 (flat ps)) (k : Nat) (hk : k < ps.length) :
    ∃ ad, A = some ad ∧ W.cell? (ad.add (k * 3)) = some (.int .i64 (gp ps k).n) ∧ W.cell? ⟨(ad.add (k * 3)).block, (ad.add (k * 3)).off + 1, none⟩ = some (.int .i64 (gp ps k).r) ∧
      W.cell? ⟨(ad.add (k * 3)).block, (ad.add (k * 3)).off + 2, none⟩ = some (.slice (gp ps k).A (gp ps k).bs.length (gp ps k).c) := by
  have key : ∀ j, j < 3 → ∃ ad, A = some ad ∧ some (W.cell? (ad.add (k * 3 + j))) = some ((gp ps k).cells[j]?) := fun j hj => by
    have hl := flat_len ps
    have hlt : k * 3 + j < (flat ps).length := by omega
    obtain ⟨ad, e, hc⟩ := h.cell (k * 3 + j) hlt
    refine ⟨ad, e, ?_⟩
    rw [hc, ← flat_get ps k j hk hj, List.getElem?_eq_getElem hlt]
  obtain ⟨ad, e, h0⟩ := key 0 (by omega)
  obtain ⟨ad1, e1, h1⟩ := key 1 (by omega)
  obtain ⟨ad2, e2, h2⟩ := key 2 (by omega)
  rw [e] at e1 e2
  cases e1; cases e2
  refine ⟨ad, e, by simpa [PV.cells] using h0, cell_at (by simpa [PV.cells] using h1) (by omega), cell_at (by simpa [PV.cells] using h2) (by omega)⟩
/-- Valid pages. -/
structure PsOk (ps : List PV) : Prop where
  up : Up (ps.map (·.n))
  rng : ∀ p ∈ ps, 0 ≤ p.n ∧ p.n < 16777216
  ok : ∀ p ∈ ps, PgOk ⟨p.r, p.bs⟩
  le : ps.length ≤ 2000
theorem PsOk.lt {ps : List PV} (h : PsOk ps) (k : Nat) (hk : k + 1 < ps.length) : (gp ps k).n < (gp ps (k + 1)).n := by
  have := List.pairwise_iff_getElem.1 h.up k (k + 1) (by simp; omega) (by simp; omega) (by omega)
  simpa [gp_get ps k (by omega), gp_get ps (k + 1) hk] using this
/-- What Load makes of pages. -/
def ldM (ps : List PV) : PM := ps.foldl (fun A p => A.put p.n ⟨p.r, p.bs⟩) PM.new
theorem ldM_snoc (ps : List PV) (k : Nat) (hk : k < ps.length) : ldM (ps.take (k + 1)) = (ldM (ps.take k)).put (gp ps k).n ⟨(gp ps k).r, (gp ps k).bs⟩ := by
  rw [List.take_succ_eq_append_getElem hk, ldM, List.foldl_append, gp_get ps k hk]; rfl
theorem insI_last {x : Int} : ∀ {ks : List Int}, (∀ y ∈ ks, y < x) → insI ks x = ks ++ [x]
  | [], _ => rfl
  | k :: ks, h => by
    have h0 := h k (by simp)
    have ih := insI_last (ks := ks) (x := x) fun y hy => h y (List.mem_cons_of_mem _ hy)
    rw [insI, if_neg (by omega), if_neg (by omega), ih]; rfl
theorem ldM_ks (ps : List PV) (h : PsOk ps) : ∀ k, k ≤ ps.length → (ldM (ps.take k)).ks = (ps.take k).map (·.n)
  | 0, _ => rfl
  | k + 1, hk => by
    rw [ldM_snoc ps k hk]
    show insI (ldM (ps.take k)).ks (gp ps k).n = _
    rw [ldM_ks ps h k (by omega), insI_last, List.take_succ_eq_append_getElem hk, List.map_append, gp_get ps k hk]
    · rfl
    · intro y hy
      obtain ⟨i, hi, rfl⟩ := List.getElem_of_mem hy
      have hi' : i < k := by simp at hi; omega
      have := List.pairwise_iff_getElem.1 h.up i k (by simp; omega) (by simp; omega) hi'
      simpa [gp_get ps k hk] using this
theorem ldM_len (ps : List PV) (h : PsOk ps) (k : Nat) (hk : k < ps.length) : (ldM (ps.take k)).ks.length ≤ 1999 := by
  rw [ldM_ks ps h k (by omega)]
  have := h.le
  simp; omega
/-- A memory made of pages, in new blocks. -/
structure LdI (W : World) (mb : Nat) (ps : List PV) (V : World) : Prop where
  ex : ∃ S kp ko, S.bp = some kp ∧ S.bo = some ko ∧ MemIs V mb S (ldM ps) ∧ ∀ x, S.reads (ldM ps).ks mb x → W.heap.size ≤ x
  below : Below W.heap.size W V
set_option maxRecDepth 100000 in
set_option maxHeartbeats 4000000 in
theorem Load_any (W : World) (A : Option Addr) (cap : Nat) (ps : List PV) (hrd : Rd W A ps.length 3 (flat ps)) (hby : BytesAt W 0 ps) (hok : PsOk ps) :
    Calls Try.prog 14 #[.slice A ps.length cap] W fun e w' => ∃ mb, e = .returned (.tuple #[.pointer (some ⟨mb, 0, none⟩), .int .i64 0]) ∧ LdI W mb ps w' := by
  have hle := hok.le
  have HOK := Lib.hid hok
  have HRD := Lib.hid hrd
  have HBY := Lib.hid hby
  clear hrd hby hok
  go_enter Try.func14, Try.ntmps14
  go_wp2_with fail
  go_loopw [12] (fun i wr => ∃ k : Nat, k ≤ ps.length ∧ i = .int .i64 k ∧ Hid (Below W.heap.size W wr)) (fun i _ => ps.length - (intOf i).toNat)
  case atStart => exact ⟨0, Nat.zero_le _, rfl, Lib.hid (Below.refl _ _)⟩
  case round =>
    obtain ⟨k, hk, rfl, hI⟩ := hrel
    by_cases hlt : k < ps.length
    · obtain ⟨ad, e1, x0, x1, x2⟩ := (HRD.out.below hI.out).at3 k hlt
      subst e1
      have hp := HOK.out.ok _ (gp_mem ps k hlt)
      have hr := HOK.out.rng _ (gp_mem ps k hlt)
      have hbl : (gp ps k).bs.length = 256 := hp.len
      have hrr : 0 ≤ (gp ps k).r ∧ (gp ps k).r ≤ 7 := hp.r
      rw [hbl] at x2
      obtain ⟨x, hx⟩ : ∃ x, (gp ps k).n = x := ⟨_, rfl⟩
      obtain ⟨r, hr'⟩ : ∃ r, (gp ps k).r = r := ⟨_, rfl⟩
      obtain ⟨Ab, hAb⟩ : ∃ Ab, (gp ps k).A = Ab := ⟨_, rfl⟩
      obtain ⟨cb, hcb⟩ : ∃ cb, (gp ps k).c = cb := ⟨_, rfl⟩
      rw [hx] at x0 hr
      rw [hr'] at x1 hrr
      rw [hAb, hcb] at x2
      obtain ⟨W5, hW5⟩ : ∃ W5, wr.alloc (.cells #[.int .i64 x, .int .i64 r, .slice Ab 256 cb] 79) = W5 := ⟨_, rfl⟩
      have h5 : W5.heap[wr.heap.size]? = some (.cells #[.int .i64 x, .int .i64 r, .slice Ab 256 cb] 79 (0, 0)) := by rw [← hW5]; exact heap_alloc_new wr _
      have hb5 : Below wr.heap.size wr W5 := by rw [← hW5]; exact balloc wr _
      obtain ⟨W6, hW6⟩ : ∃ W6, W5.drew = W6 := ⟨_, rfl⟩
      have k6 : ∀ {x : Addr} {v : Value}, W5.cell? x = some v → ∀ q : Just W6, q.W.cell? x = some v := fun h q => Just.cell (by rw [← hW6]; exact h) q
      have y0 := k6 (show W5.cell? ⟨wr.heap.size, 0, none⟩ = some (.int .i64 x) by simp [World.cell?, h5])
      have y1 := k6 (show W5.cell? ⟨wr.heap.size, 1, none⟩ = some (.int .i64 r) by simp [World.cell?, h5])
      have y2 := k6 (show W5.cell? ⟨wr.heap.size, 2, none⟩ = some (.slice Ab 256 cb) by simp [World.cell?, h5])
      have HB6 := Lib.hid (show Below W.heap.size W W6 by rw [← hW6]; exact bdrewN (hI.out.trans (hb5.mono hI.out.size)) 1)
      have q1 : decide (x < 0) = false := by simp; omega
      have q2 : decide (x ≥ 16777216) = false := by simp; omega
      have q3 : decide (r < 0) = false := by simp; omega
      have q4 : decide (r > 7) = false := by simp; omega
      by_cases hk0 : k = 0
      · have q5 : decide (0 < k) = false := by simp; omega
        clear hx hr' hAb hcb hp hbl h5 hr hrr hk0
        clear k6 hb5
        go_wp2_with fail
        refine region_tail 38 hW6 (by kernel_rfl) (by kernel_rfl) ?_
        simp only [List.take_succ_cons, List.take_zero, List.drop_succ_cons, List.drop_zero]
        repeat (go_big_quiet_step (fail))
        refine wpQuiet_nil ?_
        go_wp2_with fail
        go_roundw
        case rel => exact ⟨k + 1, by omega, by go_num, HB6⟩
        case measure => simp [intOf]; omega
      · obtain ⟨j, hj⟩ : ∃ j, k = j + 1 := ⟨k - 1, by omega⟩
        have q5 : decide (0 < k) = true := by simp; omega
        obtain ⟨ad', e', z0, _, _⟩ := (HRD.out.below hI.out).at3 j (by omega)
        cases e'
        obtain ⟨y, hy⟩ : ∃ y, (gp ps j).n = y := ⟨_, rfl⟩
        have hxy : y < x := by rw [← hx, ← hy, hj]; exact HOK.out.lt j (by omega)
        rw [hy] at z0
        have z6 := k6 (bkeep hb5 z0)
        have hw1 : IntKind.i64.wrap ((k : Int) - 1) = (j : Int) := by rw [IntWalk.i64_in _ (by omega)]; omega
        have q6 : decide (x ≤ y) = false := by simp; omega
        have hjl : j < ps.length := by omega
        clear hx hr' hAb hcb hp hbl h5 hr hrr hk0 hj hy hxy z0
        clear k6 hb5
        go_wp2_with fail
        refine region_tail 38 hW6 (by kernel_rfl) (by kernel_rfl) ?_
        simp only [List.take_succ_cons, List.take_zero, List.drop_succ_cons, List.drop_zero]
        repeat (go_big_quiet_step (fail))
        refine wpQuiet_nil ?_
        go_wp2_with fail
        go_roundw
        case rel => exact ⟨k + 1, by omega, by go_num, HB6⟩
        case measure => simp [intOf]; omega
    · obtain rfl : k = ps.length := by omega
      clear hlt hk
      obtain ⟨wl, hwl⟩ : ∃ wl, wl = wr := ⟨wr, rfl⟩
      rw [← hwl] at hI ⊢
      clear hwl
      go_wp2_with fail
      refine (New_any wl).mono ?_
      rintro e w2 ⟨rfl, hm, hb2⟩
      have HL0 : Hid (LdI W (wl.heap.size + 2) [] w2) := Lib.hid ⟨⟨MS.new wl.heap.size, _, _, rfl, rfl, hm, fun x hx => by
        have := hI.out.size
        rcases hx with e | e | e | e | ⟨n, hn, e⟩
        · omega
        · cases e
        · cases e; omega
        · cases e; omega
        · cases hn⟩, hI.out.trans (hb2.mono hI.out.size)⟩
      clear hm hb2
      obtain ⟨mb, hmb⟩ : ∃ mb, wl.heap.size + 2 = mb := ⟨_, rfl⟩
      rw [hmb] at HL0 ⊢
      clear hmb hI
      go_wp2_with fail
      go_loopw [63] (fun i wr => ∃ k : Nat, k ≤ ps.length ∧ i = .int .i64 k ∧ Hid (LdI W mb (ps.take k) wr)) (fun i _ => ps.length - (intOf i).toNat)
      case atStart => exact ⟨0, Nat.zero_le _, rfl, HL0⟩
      case round =>
        obtain ⟨k, hk, rfl, hI⟩ := hrel
        by_cases hlt : k < ps.length
        · obtain ⟨ad, e1, x0, x1, x2⟩ := (HRD.out.below hI.out.below).at3 k hlt
          subst e1
          have hp := HOK.out.ok _ (gp_mem ps k hlt)
          have hr := HOK.out.rng _ (gp_mem ps k hlt)
          have hbl : (gp ps k).bs.length = 256 := hp.len
          have hrr : 0 ≤ (gp ps k).r ∧ (gp ps k).r ≤ 7 := hp.r
          obtain ⟨hbrd0, hbc, _⟩ := HBY.out _ (gp_mem ps k hlt)
          rw [hbl] at x2 hbrd0 hbc
          obtain ⟨a2, hAb, _⟩ := hbrd0.cell 0 (by simp [hbl])
          obtain ⟨PX, hPX⟩ : ∃ PX, gp ps k = PX := ⟨_, rfl⟩
          rw [hPX] at x0 x1 x2 hp hr hbl hrr hbrd0 hbc hAb
          obtain ⟨x, hx⟩ : ∃ x, PX.n = x := ⟨_, rfl⟩
          obtain ⟨r, hr'⟩ : ∃ r, PX.r = r := ⟨_, rfl⟩
          obtain ⟨cb, hcb⟩ : ∃ cb, PX.c = cb := ⟨_, rfl⟩
          obtain ⟨bs, hbs⟩ : ∃ bs, PX.bs = bs := ⟨_, rfl⟩
          rw [hx] at x0 hr
          rw [hr'] at x1 hrr
          rw [hAb, hcb] at x2
          rw [hr', hbs] at hp
          rw [hAb, hbs] at hbrd0
          rw [hcb] at hbc
          have hbl : bs.length = 256 := hp.len
          obtain ⟨S, kp, ko, hkp, hko, hM, hnew⟩ := hI.out.ex
          have hWB := hI.out.below
          -- the worlds
          obtain ⟨W5, hW5⟩ : ∃ W5, wr.alloc (.cells #[.int .i64 x, .int .i64 r, .slice (some a2) 256 cb] 79) = W5 := ⟨_, rfl⟩
          have h5 : W5.heap[wr.heap.size]? = some (.cells #[.int .i64 x, .int .i64 r, .slice (some a2) 256 cb] 79 (0, 0)) := by rw [← hW5]; exact heap_alloc_new wr _
          have hs5 : W5.heap.size = wr.heap.size + 1 := by rw [← hW5]; simp
          have hb5 : Below wr.heap.size wr W5 := by rw [← hW5]; exact balloc wr _
          obtain ⟨W6, hW6⟩ : ∃ W6, W5.alloc (.cells (Try.zeroCells98.setIfInBounds 0 (.int .i64 r)) 98) = W6 := ⟨_, rfl⟩
          have e6 : Try.zeroCells98.setIfInBounds 0 (.int .i64 r) = (pgCells (page0 r)).toArray := by kernel_rfl
          have h6 : W6.heap[W5.heap.size]? = some (pgObj (page0 r)) := by rw [← hW6, e6]; exact heap_alloc_new W5 _
          have hb6 : Below W5.heap.size W5 W6 := by rw [← hW6]; exact balloc W5 _
          have h56 : W6.heap[wr.heap.size]? = some (.cells #[.int .i64 x, .int .i64 r, .slice (some a2) 256 cb] 79 (0, 0)) := (hb6.block _ (by omega)).trans h5
          have hb16 : Below wr.heap.size wr W6 := hb5.trans (hb6.mono (by omega))
          obtain ⟨W7, hW7⟩ : ∃ W7, W6.drew = W7 := ⟨_, rfl⟩
          have h7 : W7.heap[W5.heap.size]? = some (pgObj (page0 r)) := by rw [← hW7]; exact h6
          have hrd7 : Rd W7 (some a2) 256 1 (nums .u8 bs) := by
            have e1 := hbrd0.below hWB
            have e2 := e1.below hb16
            rw [← hW7]; exact e2.upd (Upd.drew (fun _ => False) W6) fun _ _ h => h
          have hcp := run_copy_row (P := Try.prog) W7 42 42 3 5 W5.heap.size 1 256 256 a2 256 cb (pgCells (page0 r)).toArray 98 (nums .u8 bs) Try.underlying42 (by obtain ⟨i1, e0, e1⟩ := info_u8'; simp [e0, e1]) h7 (by rw [nums_length, hbl]; rfl) (fun j v hj => by
              have hj1 := (List.getElem?_eq_some_iff.1 hj).1
              obtain ⟨ad', e1, e2⟩ := hrd7.cell j hj1
              cases e1
              rw [e2, ← hj, List.getElem?_eq_getElem hj1]) (by rw [nums_length, hbl]; have e : (pgCells (page0 r)).toArray.size = 257 := by { simp [pgCells, nums, page0] }; rw [e]; omega) (nums_oneC _ _)
          rw [nums_length, hbl, List.toList_toArray] at hcp
          obtain ⟨W8, hW8⟩ : ∃ W8, W7.setRow W5.heap.size ((pgCells (page0 r)).take 1 ++ nums .u8 bs ++ (pgCells (page0 r)).drop (1 + 256)).toArray = W8 := ⟨_, rfl⟩
          rw [hW8] at hcp
          have h8 : W8.heap[W5.heap.size]? = some (pgObj ⟨r, bs⟩) := by
            have e0 := rowSet h7 ((pgCells (page0 r)).take 1 ++ nums .u8 bs ++ (pgCells (page0 r)).drop (1 + 256)).toArray
            rw [hW8] at e0
            have e5 := page_copy r (List.replicate 256 0) bs 0 (by simp [hbl])
            rw [hbl] at e5
            rw [e0]
            show some (Obj.cells ((pgCells (page0 r)).take 1 ++ nums .u8 bs ++ (pgCells (page0 r)).drop (1 + 256)).toArray _ _) = _
            have e7 : (pgCells (page0 r)).take 1 ++ nums .u8 bs ++ (pgCells (page0 r)).drop (1 + 256) = pgCells ⟨r, bs⟩ := by
              refine e5.trans ?_
              simp
            rw [e7]; rfl
          have hu8 : Upd (fun k => k = W5.heap.size) W7 W8 := by rw [← hW8]; exact upd_row _ _ _
          have hb8 : Below wr.heap.size wr W8 := by
            have e1 : Below wr.heap.size wr W7 := by rw [← hW7]; exact bdrewN hb16 1
            exact e1.trans (hu8.below e1.size fun k hk => by omega)
          have h58 : W8.heap[wr.heap.size]? = some (.cells #[.int .i64 x, .int .i64 r, .slice (some a2) 256 cb] 79 (0, 0)) := by
            rw [hu8.block _ (by rw [← hW7]; exact (Array.getElem?_eq_some_iff.1 h56).1) (by omega), ← hW7]; exact h56
          obtain ⟨V, hV⟩ : ∃ V, W8.drew = V := ⟨_, rfl⟩
          have hbV : Below wr.heap.size wr V := by rw [← hV]; exact bdrewN hb8 1
          have hpgV : V.heap[W5.heap.size]? = some (pgObj ⟨r, bs⟩) := by rw [← hV]; exact h8
          have h5V : V.heap[wr.heap.size]? = some (.cells #[.int .i64 x, .int .i64 r, .slice (some a2) 256 cb] 79 (0, 0)) := by rw [← hV]; exact h58
          have hlen : (insI (ldM (ps.take k)).ks x).length ≤ 2000 := by
            have e1 := insI_length_le x _ hM.up
            have e2 := ldM_len ps HOK.out k (by omega)
            omega
          obtain ⟨v1, v2, s1, s2, V1, V2, V3, V4, r1, r2, r3, r4, hM4, hG4, hK⟩ := put_maps (p := W5.heap.size) (g := ⟨r, bs⟩) (n := x) hM (hM.below hbV) hbV hkp hko hr hlen hpgV hp (by omega)
          have hkpl := hM.lt kp (.inr (.inr (.inl hkp)))
          have hkol := hM.lt ko (.inr (.inr (.inr (.inl hko))))
          obtain ⟨_, c1, c2, _, _, _⟩ := hM.cells
          rw [hkp] at c1
          rw [hko] at c2
          obtain ⟨n1, n2, n3⟩ := hM.box_ne
          have hbl2 := hM.lt mb (.inl rfl)
          have hKb := hK mb (fun e => n2 (e ▸ hkp)) (fun e => n3 (e ▸ hko)) (by have := hbV.size; omega)
          have hKx := hK wr.heap.size (by omega) (by omega) (Array.getElem?_eq_some_iff.1 h5V).1
          have hcell : ∀ (X : World) (o : Nat) (v : Value), X.heap[mb]? = V.heap[mb]? → wr.cell? ⟨mb, o, none⟩ = some v → X.cell? ⟨mb, o, none⟩ = some v := fun X o v e hc => by
            have := bkeep hbV hc
            simp only [World.cell?] at this ⊢
            rw [e]; exact this
          have hcelx : ∀ (X : World), X.heap[wr.heap.size]? = V.heap[wr.heap.size]? → X.cell? ⟨wr.heap.size, 0, none⟩ = some (.int .i64 x) := fun X e => by
            simp [World.cell?, e, h5V]
          have HC0 := Lib.hid (⟨hcell V 1 _ rfl c1, hcell V 2 _ rfl c2, hcelx V rfl⟩ : V.cell? ⟨mb, 1, none⟩ = _ ∧ V.cell? ⟨mb, 2, none⟩ = _ ∧ _)
          have HC1 := Lib.hid (⟨hcell V1 1 _ hKb.1 c1, hcell V1 2 _ hKb.1 c2, hcelx V1 hKx.1⟩ : V1.cell? ⟨mb, 1, none⟩ = _ ∧ V1.cell? ⟨mb, 2, none⟩ = _ ∧ _)
          have HC2 := Lib.hid (⟨hcell V2 1 _ hKb.2.1 c1, hcell V2 2 _ hKb.2.1 c2, hcelx V2 hKx.2.1⟩ : V2.cell? ⟨mb, 1, none⟩ = _ ∧ V2.cell? ⟨mb, 2, none⟩ = _ ∧ _)
          have HC3 := Lib.hid (⟨hcell V3 1 _ hKb.2.2.1 c1, hcell V3 2 _ hKb.2.2.1 c2, hcelx V3 hKx.2.2.1⟩ : V3.cell? ⟨mb, 1, none⟩ = _ ∧ V3.cell? ⟨mb, 2, none⟩ = _ ∧ _)
          have HC4 := Lib.hid (⟨hcell V4 1 _ hKb.2.2.2 c1, hcell V4 2 _ hKb.2.2.2 c2, hcelx V4 hKx.2.2.2⟩ : V4.cell? ⟨mb, 1, none⟩ = _ ∧ V4.cell? ⟨mb, 2, none⟩ = _ ∧ _)
          have HFIN : Hid (LdI W mb (ps.take (k + 1)) V4) := by
            have e0 := ldM_snoc ps k hlt
            rw [hPX, hx, hr', hbs] at e0
            refine Lib.hid ⟨⟨S.put x W5.heap.size, kp, ko, hkp, hko, by rw [e0]; exact hM4, fun y hy => ?_⟩, hWB.trans (hG4.upd.below hWB.size fun y hy => hnew y (hM.foot_reads y hy))⟩
            rw [e0] at hy
            rcases hG4.reads y hy with h1 | h1
            · exact hnew y h1
            · have := hWB.size; omega
          have y1 : W5.cell? ⟨wr.heap.size, 1, none⟩ = some (.int .i64 r) := by simp [World.cell?, h5]
          have k7 : ∀ {x : Addr} {v : Value}, W6.cell? x = some v → ∀ q : Just W7, q.W.cell? x = some v := fun h q => Just.cell (by rw [← hW7]; exact h) q
          have y2 := k7 (show W6.cell? ⟨wr.heap.size, 2, none⟩ = some (.slice (some a2) 256 cb) by simp [World.cell?, h56])
          have hsa : ∀ q : Just W7, _ := fun q => slice_page_all (wr.heap.size + 1) q.W
          rw [hs5] at hcp r2
          subst hV
          clear hp hr hbl hrr hbrd0 hbc hAb hPX hx hr' hcb hbs hM hnew hWB h5 hb5 e6 h6 hb6 h56 hb16 h7 hrd7 hW8 h8 hu8 hb8 h58 hbV hpgV h5V hlen hM4 hG4 hK hkpl hkol n1 n2 n3 hbl2 hKb hKx hcell hcelx k7 hkp hko c1 c2
          go_wp2_with fail
          refine region_tail 6 hW7 (by kernel_rfl) (by kernel_rfl) ?_
          simp only [List.take_succ_cons, List.take_zero, List.drop_succ_cons, List.drop_zero]
          repeat (go_big_quiet_step (fail))
          refine wpQuiet_nil ?_
          refine wpList_plain rfl fun K hK => ?_
          refine wp_copy_run _ (.tmp 74) (.tmp 76) 42 42 rfl _ _ rfl rfl (goInt 256) W8 hcp ?_
          refine hK _ _ ?_
          clear hcp hsa y2 y1 hK K
          have c1 := HC0.out.1
          have c2 := HC0.out.2.1
          have c3 := HC0.out.2.2
          go_wp2_with fail
          go_region_held3 (fun w' => w'.cell? ⟨mb, 1, none⟩ = some (.map (some kp)) ∧ w'.cell? ⟨mb, 2, none⟩ = some (.map (some ko)) ∧ w'.cell? ⟨wr.heap.size, 0, none⟩ = some (.int .i64 x)) (first | exact ⟨c1, c2, c3⟩ | exact HC0.out | exact HC1.out | exact HC2.out | exact HC3.out | exact HC4.out) (fail)
          go_wp2_with fail
          go_roundw
          case rel => exact ⟨k + 1, by omega, by go_num, HFIN⟩
          case measure => simp [intOf]; omega
        · obtain rfl : k = ps.length := by omega
          go_wp2_with fail
          go_ret2
          rw [List.take_length] at hI
          exact ⟨_, rfl, hI.out⟩
end Go.Proofs.Ytidojcogojchpaa

/- package maps: Copy of the pages. -/
set_option linter.unusedVariables false
set_option linter.unusedSimpArgs false
namespace Go.Proofs.Ytidojcogojchpaa
open Go.RowKit Go.Shelf Go.Maps

/-- How a pointer reads. -/
def encP : Value → DataW Unit × List MemPlace
  | .pointer (some ⟨p, 0, none⟩) => (.lit (.int .i64 (p : Int)), [])
  | _ => (.lit (.bool true), [])
theorem encP_inv {v : Value} {p : Nat} (h : (encP v).1 = .lit (.int .i64 (p : Int))) : v = .pointer (some ⟨p, 0, none⟩) := by
  unfold encP at h
  split at h
  · rename_i q
    have : (q : Int) = (p : Int) := by simpa using h
    have : q = p := by omega
    subst this; rfl
  · simp at h
section
variable {P : Program} {W : World} {t kt et : TypeId} {b : Nat} {ks : List Int} {f : Int → Value}
theorem MapF.ownsP (h : MapF W b ks f) (hk : P.underlying kt = some (.int .i64)) :
    ∃ D0 : DataW Unit, W.ownsMap P kt (fun v => some (encP v)) b ks.length D0 ∧ (∀ l, Maps.has D0 l = true → ∃ k ∈ ks, l = .int .i64 k) ∧ (∀ k ∈ ks, Maps.has D0 (.int .i64 k) = true) ∧ Maps.size D0 = ks.length := by
  obtain ⟨es, c, h1, h2, hp⟩ := h.ex
  have hl : es.size = ks.length := by have := hp.length_eq; simpa [prs] using this
  have hrd : ∀ x ∈ es.toList, ∃ k ∈ ks, x.key = .int .i64 k := fun x hx => by
    have : pr x ∈ prs ks f := hp.mem_iff.1 (List.mem_map.2 ⟨x, hx, rfl⟩)
    obtain ⟨k, hk, e⟩ := List.mem_map.1 this
    exact ⟨k, hk, (congrArg Prod.fst e).symm⟩
  have hr2 : ∀ x ∈ es.toList, ∀ k, x.key = .int .i64 k → k ∈ ks → WideElems.rd P kt (fun v => some (encP v)) x = some (.int .i64 k, (encP x.val).1) := fun x _ k e hkk => by
    unfold WideElems.rd
    rw [e, Maps.keyOf_int_mk hk (h.wf k hkk)]
    rfl
  have hmem : ∀ p, p ∈ List.foldr DataW.insert [] (es.toList.map (WideElems.rg P kt fun v => some (encP v))) ↔ p ∈ es.toList.map (WideElems.rg P kt fun v => some (encP v)) := fun p => mem_sorted
  have hrg : ∀ x ∈ es.toList, ∀ k, x.key = .int .i64 k → k ∈ ks → (WideElems.rg P kt (fun v => some (encP v)) x) = (.int .i64 k, (encP x.val).1) := fun x hx k e hkk => by
    simp only [WideElems.rg, hr2 x hx k e hkk, Option.getD_some]
  refine ⟨_, ⟨es, c, h1, ⟨by have := h.le; unfold maxLen; omega, h2, fun x hx => ?_⟩, by omega, rfl⟩, ?_, ?_, ?_⟩
  · obtain ⟨k, hkk, e⟩ := hrd x hx
    exact ⟨_, hr2 x hx k e hkk⟩
  · intro l hh
    rw [Maps.has_eq] at hh
    obtain ⟨p, hp1, hp2⟩ := List.any_eq_true.1 hh
    obtain ⟨x, hx, e⟩ := List.mem_map.1 ((hmem p).1 hp1)
    obtain ⟨k, hkk, ek⟩ := hrd x hx
    rw [hrg x hx k ek hkk] at e
    subst e
    exact ⟨k, hkk, (WideAt.sameKey_eq hp2).symm⟩
  · intro k hkk
    rw [Maps.has_eq]
    have : (Value.int .i64 k, f k) ∈ es.toList.map pr := hp.mem_iff.2 (List.mem_map.2 ⟨k, hkk, rfl⟩)
    obtain ⟨x, hx, e⟩ := List.mem_map.1 this
    refine List.any_eq_true.2 ⟨_, (hmem _).2 (List.mem_map.2 ⟨x, hx, rfl⟩), ?_⟩
    rw [hrg x hx k (congrArg Prod.fst e) hkk]
    simp [Lit.sameKey]
  · show (List.foldr DataW.insert [] _).length = ks.length
    rw [Go.length_sorted]
    simp [hl]
end
set_option maxRecDepth 100000 in
set_option maxHeartbeats 4000000 in
theorem Copy_pages (W : World) (bd bs : Nat) (ks : List Int) (f g : Int → Value) (hd : MapF W bd [] g) (hs : MapF W bs ks f) (hne : bd ≠ bs) (hf : ∀ k ∈ ks, ∃ p : Nat, f k = .pointer (some ⟨p, 0, none⟩)) :
    Calls Try.prog 69 #[.map (some bd), .map (some bs)] W fun e w' => e = .returned (.tuple #[]) ∧ MapF w' bd ks f ∧ W.grownBy w' (some bd) := by
  obtain ⟨D0, hown, hhas, hin, hsz⟩ := hs.ownsP (P := Try.prog) Try.underlying3
  have K : Keyed Try.prog 3 := int_keyed Try.underlying3
  have hbd := hd.lt
  have hbs := hs.lt
  have hd0 : MapF W bd [] f := ⟨by obtain ⟨es, c, h1, h2, h3⟩ := hd.ex; exact ⟨es, c, h1, h2, h3⟩, hd.up, hd.rng⟩
  go_enter Try.func69, Try.ntmps69
  go_wp2_with (first
    | (at_range; refine wpList_range_own _ rfl _ 102 rfl 3 95 K Try.underlying102 (fun v => some (encP v)) bs ks.length D0 rfl hown ?_; intro w0 hrg0 hg0 hs0)
    | go_in)
  go_frame
  go_loopw [8] (fun _ wr => ∃ (left : Lit → Bool) (cnt : Nat) (cs : List Int), wr.ranges Try.prog 3 (fun v => some (encP v)) bs W.heap.size ks.length D0 left cnt ∧ Hid (MapF wr bd cs f ∧ (∀ y, y ∈ cs ↔ (y ∈ ks ∧ left (.int .i64 y) = false)) ∧ (∀ l, left l = true → Maps.has D0 l = true) ∧ MapF wr bs ks f ∧ W.grownBy wr (some bd)))
    (fun _ wr => wr.rangeLeft bs W.heap.size)
  case atStart =>
    refine ⟨_, _, [], hrg0, Lib.hid ⟨hd0.upd (Upd.of_grown hg0) (by simp), fun y => ?_, fun l h => h, hs.upd (Upd.of_grown hg0) (by simp), hg0.but _⟩⟩
    constructor
    · intro h; simp at h
    · rintro ⟨h1, h2⟩; rw [hin y h1] at h2; cases h2
  case round =>
    obtain ⟨left, cnt, cs, hrg, hI⟩ := hrel
    go_wp2_with (first
      | (at_next; refine wpList_next_ranges _ rfl _ rfl 3 K (fun v => some (encP v)) id id (fun key _ _ => ⟨key, rfl⟩) (fun v _ _ => ⟨v, rfl⟩) bs W.heap.size ks.length _ _ _ rfl hrg ?_ ?_)
      | go_in)
    · intro hc0 hl0
      go_wp2
      go_end0
      obtain ⟨h1, h2, h3, h4, h5⟩ := hI.out
      have e : cs = ks := up_ext h1.up hs.up fun y => by rw [h2 y, hl0]; simp
      subst e
      exact ⟨rfl, h1, h5⟩
    · intro x c kl yd yp w1 cnt1 hkey hlx hv hat hrg1 hlt hg1 hs1 hen
      obtain ⟨h1, h2, h3, h4, h5⟩ := hI.out
      obtain ⟨k, rfl, rfl, hwf⟩ := Maps.keyOf_int_inv Try.underlying3 hkey
      have hkk : k ∈ ks := by
        obtain ⟨k', hk', e⟩ := hhas _ (h3 _ hlx)
        obtain rfl : k = k' := by simpa using e
        exact hk'
      obtain ⟨p, hp⟩ := hf k hkk
      have hW1 : W.heap.size < w1.heap.size := hrg1.lt
      have hbs1 : MapF w1 bs ks f := h4.upd (Upd.of_grown hg1) (by simp; omega)
      have hbd1 : MapF w1 bd cs f := h1.upd (Upd.of_grown hg1) (by simp; omega)
      have hc : c = f k := by
        have hl1 := hbs1.run_look (P := Try.prog) Try.underlying102 Try.underlying3 zero_page k
        rw [if_pos hkk] at hl1
        obtain ⟨v, pl, hl2, hl3⟩ := hrg1.owns.lookup K Try.underlying102 (zero_page w1) (zd := (encP (.pointer none)).1) (zp := (encP (.pointer none)).2) rfl hkey
        rw [hl1] at hl2
        obtain rfl : f k = v := by
          injection hl2
        rw [hat] at hl3
        have e1 : encP (f k) = (yd, pl) := by simpa using hl3
        have e2 : encP c = (yd, yp) := by simpa using hv
        have e3 : (encP c).1 = .lit (.int .i64 (p : Int)) := by
          have e4 : (encP (f k)).1 = yd := by rw [e1]
          rw [e2]
          show yd = _
          rw [← e4, hp]; rfl
        rw [encP_inv e3, hp]
      have hkr := hs.rng k hkk
      obtain ⟨o, hput, hm2⟩ := hbd1.run_put (P := Try.prog) Try.underlying102 Try.underlying3 k (f k) hkr
      have hg2 : w1.grownBy (w1.putObj bd o) (some bd) := grownBy_putObj' w1 bd o
      have hrg2 := hrg1.kept hg2 (fun e => hne (Option.some.inj e).symm) (fun e => by have := Option.some.inj e; omega)
      have hupd : updF f k (f k) = f := by funext z; unfold updF; split <;> simp_all
      rw [hupd] at hm2
      subst hc
      have HM := Lib.hid (⟨hm2, fun y => ?_, fun l hl => h3 l ?_, hbs1.upd (Upd.of_grown hg2) (by simp; omega), (h5.andThen hg1 (fun j hj => .inl (by cases hj; exact Nat.le_refl _))).andThen hg2 (fun j hj => .inr hj)⟩ : MapF (w1.putObj bd o) bd (insI cs k) f ∧ (∀ y, y ∈ insI cs k ↔ (y ∈ ks ∧ (left (.int .i64 y) && !(Lit.int .i64 y).sameKey (.int .i64 k)) = false)) ∧ (∀ l, (left l && !l.sameKey (.int .i64 k)) = true → Maps.has D0 l = true) ∧ MapF (w1.putObj bd o) bs ks f ∧ W.grownBy (w1.putObj bd o) (some bd))
      · have HR2 := Lib.hid hrg2
        have hll := hrg2.left_eq
        have hlm := hrg.left_eq
        clear hm2 hrg2 hbs1 hbd1 hI h1 h2 h3 h4 h5 hp
        go_wp2_with fail
        go_roundw
        case rel => exact ⟨_, cnt1, insI cs k, HR2.out, HM⟩
        case measure => rw [hll, hlm]; exact hlt
      · rw [mem_insI, h2 y]
        constructor
        · rintro (rfl | ⟨a1, a2⟩)
          · exact ⟨hkk, by simp [Lit.sameKey]⟩
          · exact ⟨a1, by rw [a2]; rfl⟩
        · rintro ⟨a1, a2⟩
          by_cases e : y = k
          · exact .inl e
          · refine .inr ⟨a1, ?_⟩
            simpa [Lit.sameKey, e] using a2
      · have := hl
        simp only [Bool.and_eq_true] at this
        exact this.1
end Go.Proofs.Ytidojcogojchpaa

/- package maps: Clone of the marks; mem: Clone. -/
set_option linter.unusedVariables false
set_option linter.unusedSimpArgs false
namespace Go.Proofs.Ytidojcogojchpaa
open Go.RowKit Go.Shelf

theorem run_assert_map {P : Program} (w : World) (t xT k e : TypeId) (v : Value) (h : P.underlying t = some (.map k e)) : (Instr.typeAssert (.iface t v) xT t false).run P w = .ok v w := by
  simp [Instr.typeAssert, run_underlying h, go_sem, Result.andThen]
theorem run_clone_map {P : Program} (w : World) {r : Nat} {es : Array MapEntry} {clock : Nat} (t : TypeId) (hb : w.heap[r]? = some (.map es clock)) :
    (Extern.MapsClone.clone #[.iface t (.map (some r))]).run P w = .ok (.iface t (.map (some w.heap.size))) (w.alloc (.map es clock)) := by
  have e : Extern.MapsClone.clone #[.iface t (.map (some r))] = (getObj r >>= fun o => match o with
      | .map entries clock => (newObj (.map entries clock) >>= fun n => pure (.iface t (.map (some n))))
      | _ => stuck "maps.clone: a map expected") := rfl
  rw [e]
  simp [MapKept.run_getObj_map hb, Result.andThen, go_sem]
set_option maxRecDepth 100000 in
set_option maxHeartbeats 2000000 in
theorem Clone_bools (b : Nat) (es : Array MapEntry) (clock : Nat) (w : World) (hb : w.heap[b]? = some (.map es clock)) :
    Calls Try.prog 70 #[.map (some b)] w fun e w' => e = .returned (.map (some w.heap.size)) ∧ w.alloc (.map es clock) = w' := by
  have hq := fun w => run_eql_map_nil (P := Try.prog) w 99 3 4 (some b) Try.underlying99
  go_enter Try.func70, Try.ntmps70
  go_wp2
  rw [run_callFunc_extern Try.func105 (by kernel_rfl) (by kernel_rfl) (by kernel_rfl) (e := Extern.MapsClone.clone) (by kernel_rfl), run_clone_map w 99 hb]
  simp only [Result.andThen]
  rw [Oper.upon_value]
  go_wp2
  rw [run_assert_map _ 99 _ _ _ _ Try.underlying99]
  simp only [Result.andThen]
  rw [Oper.upon_value]
  go_wp2
  go_ret
  exact ⟨rfl, rfl⟩
set_option maxRecDepth 100000 in
theorem Clone_bools_nil (w : World) :
    Calls Try.prog 70 #[.map none] w fun e w' => e = .returned (.map none) ∧ w = w' := by
  have hq := fun w => run_eql_map_nil (P := Try.prog) w 99 3 4 none Try.underlying99
  go_enter Try.func70, Try.ntmps70
  go_wp2
  go_ret
  exact ⟨rfl, rfl⟩
/-- Either way. -/
structure ClE (bc : Option Nat) (cg : List Int) (w : World) (bc' : Option Nat) (w' : World) : Prop where
  below : Below w.heap.size w w'
  chg : MapO w' bc' cg (fun _ => .bool true)
  new : ∀ x, bc' = some x → w.heap.size ≤ x
theorem Clone_marks (w : World) (bc : Option Nat) (cg : List Int) (h : MapO w bc cg (fun _ => .bool true)) :
    Calls Try.prog 70 #[.map bc] w fun e w' => ∃ bc', e = .returned (.map bc') ∧ ClE bc cg w bc' w' := by
  cases bc with
  | none =>
    refine (Clone_bools_nil w).mono ?_
    rintro e w' ⟨rfl, rfl⟩
    exact ⟨none, rfl, Below.refl _ _, h, fun x e => by cases e⟩
  | some b =>
    have hm : MapF w b cg (fun _ => .bool true) := h
    obtain ⟨es, c, h1, h2, h3⟩ := hm.ex
    refine (Clone_bools b es c w h1).mono ?_
    rintro e w' ⟨rfl, rfl⟩
    exact ⟨some w.heap.size, rfl, balloc _ _, (⟨⟨es, c, heap_alloc_new _ _, h2, h3⟩, hm.up, hm.rng⟩ : MapF _ _ _ _), fun x e => by cases e; exact Nat.le_refl _⟩
/-- The marks of one's own pages are struck. -/
theorem MemIs.struck {W W1 : World} {b : Nat} {S : MS} {A : PM} (h : MemIs W b S A) {ko : Nat} (ho : S.bo = some ko) (hu : Upd (fun k => k = ko) W W1) (hm : MapF W1 ko [] (fun _ => .bool true)) :
    MemIs W1 b { S with own := [] } A ∧ Went W W1 b S A.ks { S with own := [] } A.ks := by
  obtain ⟨n1, n2, n3⟩ := h.box_ne
  have hl := h.lt
  refine ⟨⟨?_, h.pages.upd hu fun k e1 e2 => ?_, ?_, h.chg.upd hu fun k e1 e2 => ?_, fun n hn => ⟨?_, (h.page n hn).2⟩, h.le, fun n hn => absurd hn (by simp), fun n hn => absurd hn (by simp), h.ap1, h.ap2, h.nil⟩, ⟨hu.mono fun k e => .inr (.inr (.inr (.inl (e ▸ ho)))), fun k hk => .inl ?_, fun k hk => .inl hk, rfl⟩⟩
  · rw [hu.block b (hl b (.inl rfl)) fun e => n3 (e ▸ ho)]; exact h.box
  · exact (h.ap1 k e1).1 (e2 ▸ ho)
  · show MapO W1 S.bo [] _
    rw [ho]; exact hm
  · exact h.ap2 ko ho (e2 ▸ e1)
  · obtain ⟨p1, p2, p3, p4⟩ := h.page_ne n hn
    have hr : S.reads A.ks b (S.at_ n) := .inr (.inr (.inr (.inr ⟨n, hn, rfl⟩)))
    rw [hu.block _ (hl _ hr) fun e => p4 (e ▸ ho)]; exact (h.page n hn).1
  · rcases hk with e | e | e | e | ⟨n, hn, e⟩
    · exact .inl e
    · exact .inr (.inl e)
    · exact .inr (.inr (.inl e))
    · exact .inr (.inr (.inr (.inl e)))
    · exact absurd hn (by simp)
/-- How Clone ends. -/
structure CloneE (W : World) (b : Nat) (S : MS) (A : PM) (nb : Nat) (S2 : MS) (w' : World) : Prop where
  old : MemIs w' b { S with own := [] } A
  went : Went W w' b S A.ks { S with own := [] } A.ks
  new : MemIs w' nb S2 A
  foot : ∀ k, S2.foot nb k → W.heap.size ≤ k
  at_ : S2.at_ = S.at_
  own : S2.own = []
  maps : (∃ kp ko, S2.bp = some kp ∧ S2.bo = some ko)
set_option maxRecDepth 100000 in
set_option maxHeartbeats 4000000 in
theorem Clone_any (W : World) (b : Nat) (S : MS) (A : PM) (h : MemIs W b S A) {kp ko : Nat} (hkp : S.bp = some kp) (hko : S.bo = some ko) :
    Calls Try.prog 29 #[.pointer (some ⟨b, 0, none⟩)] W fun e w' => ∃ nb S2, e = .returned (.pointer (some ⟨nb, 0, none⟩)) ∧ CloneE W b S A nb S2 w' := by
  have H := Lib.hid h
  have HKP := Lib.hid hkp
  have HKO := Lib.hid hko
  clear h hkp hko
  go_enter Try.func29, Try.ntmps29
  go_wp2_with fail
  refine (New_any W).mono ?_
  rintro e w1 ⟨rfl, hm1, hb1⟩
  have hmo := H.out.below hb1
  obtain ⟨d0, d1, d2, _, _, _⟩ := hm1.cells
  obtain ⟨c0, c1, c2, _, _, _⟩ := hmo.cells
  obtain ⟨w2, hw2⟩ : ∃ w2, w1.drew = w2 := ⟨_, rfl⟩
  have k2 : ∀ {x : Addr} {v : Value}, w1.cell? x = some v → ∀ q : Just w2, q.W.cell? x = some v := fun h q => Just.cell (by rw [← hw2]; exact h) q
  rw [HKP.out] at c1
  have a1 := k2 d1
  have a2 := k2 c1
  have HM1 := Lib.hid hm1
  have HB1 := Lib.hid hb1
  have HMO := Lib.hid hmo
  have hcp : Hid (Calls Try.prog 69 #[.map (some W.heap.size), .map (some kp)] w2 fun e w' => e = .returned (.tuple #[]) ∧ MapF w' W.heap.size A.ks (ptrTo S) ∧ w2.grownBy w' (some W.heap.size)) := by
    have hd : Upd (fun _ => False) w1 w2 := by rw [← hw2]; exact Upd.drew _ _
    have e1 : MapF w1 W.heap.size [] (ptrTo (MS.new W.heap.size)) := hm1.pages
    have e2 : MapF w1 kp A.ks (ptrTo S) := by have := hmo.pages; rw [HKP.out] at this; exact this
    have hl := H.out.lt kp (.inr (.inr (.inl HKP.out)))
    exact Lib.hid (Copy_pages w2 W.heap.size kp A.ks (ptrTo S) _ (e1.upd hd fun h => h) (e2.upd hd fun h => h) (by omega) fun k _ => ⟨S.at_ k, rfl⟩)
  have HW2 := Lib.hid hw2
  clear k2 d0 d1 d2 c0 c1 c2 hm1 hb1 hmo
  go_wp2_with fail
  refine region_tail 8 hw2 (by kernel_rfl) (by kernel_rfl) ?_
  simp only [List.take_succ_cons, List.take_zero, List.drop_succ_cons, List.drop_zero]
  repeat (go_big_quiet_step (fail))
  refine wpQuiet_nil ?_
  go_wp2_with fail
  refine hcp.out.mono ?_
  rintro e w3 ⟨rfl, hm3, hg3⟩
  have hu3 : Upd (fun k => k = W.heap.size) w1 w3 := ((Upd.drew (fun k => k = W.heap.size) w1).trans (F := fun k => k = W.heap.size) (G := fun k => k = W.heap.size) (by rw [HW2.out]; exact (Upd.of_grown hg3).mono fun k e => by simpa using e.symm) fun _ h => .inl h)
  have hmo3 : MemIs w3 b S A := HMO.out.upd hu3 fun k hk hf => by have := H.out.lt k hk; omega
  have hb3 : Below W.heap.size W w3 := HB1.out.trans (hu3.below HB1.out.size fun k e => by omega)
  have hbx3 : w3.heap[W.heap.size + 2]? = some (.cells #[.map none, .map (some W.heap.size), .map (some (W.heap.size + 1))] 104 (0, 0)) := by
    have e := HM1.out.box
    rw [hu3.block _ (Array.getElem?_eq_some_iff.1 e).1 (by omega)]; exact e
  have how3 : MapF w3 (W.heap.size + 1) [] (fun _ => .bool true) := by
    have e : MapF w1 (W.heap.size + 1) [] (fun _ => .bool true) := HM1.out.owns
    exact e.upd hu3 (by omega)
  have HCL := Lib.hid (Clone_marks w3 S.bc A.cg hmo3.chg)
  obtain ⟨c0, _, _, _, _, _⟩ := hmo3.cells
  have HMO3 := Lib.hid hmo3
  have HB3 := Lib.hid hb3
  have HBX3 := Lib.hid hbx3
  have HOW3 := Lib.hid how3
  have HM3 := Lib.hid hm3
  clear hu3 hmo3 hb3 hbx3 how3 hm3 hg3 a1 a2 hcp
  go_wp2_with fail
  refine HCL.out.mono ?_
  rintro e w4 ⟨bc', rfl, hcl⟩
  have hmo4 := HMO3.out.below hcl.below
  have hbx4 : w4.heap[W.heap.size + 2]? = some (.cells #[.map none, .map (some W.heap.size), .map (some (W.heap.size + 1))] 104 (0, 0)) := (hcl.below.block _ (Array.getElem?_eq_some_iff.1 HBX3.out).1).trans HBX3.out
  have f4 : w4.frozen? ⟨W.heap.size + 2, 0, none⟩ = false := by simp [World.frozen?, hbx4]
  have g4 : w4.cell? ⟨W.heap.size + 2, 0, none⟩ = some (.map none) := by simp [World.cell?, hbx4]
  obtain ⟨w5, hw5⟩ : ∃ w5, w4.setCell ⟨W.heap.size + 2, 0, none⟩ (.map bc') = w5 := ⟨_, rfl⟩
  have hu5 : Upd (fun k => k = W.heap.size + 2) w4 w5 := by rw [← hw5]; exact Upd.setCell w4 ⟨W.heap.size + 2, 0, none⟩ _
  have hmo5 : MemIs w5 b S A := hmo4.upd hu5 fun k hk hf => by have := H.out.lt k hk; omega
  have hbx5 : w5.heap[W.heap.size + 2]? = some (.cells #[.map bc', .map (some W.heap.size), .map (some (W.heap.size + 1))] 104 (0, 0)) := by rw [← hw5, setCell_row hbx4]; rfl
  obtain ⟨_, _, c2, _, _, _⟩ := hmo5.cells
  rw [HKO.out] at c2
  have hmo : MapF w5 ko S.own (fun _ => .bool true) := by have := hmo5.owns; rw [HKO.out] at this; exact this
  obtain ⟨o, hr, hm6⟩ := hmo.run_clear (P := Try.prog) (t := 99) (ty := 0) Try.underlying99 (fun _ => .bool true)
  have hu6 : Upd (fun k => k = ko) w5 (w5.putObj ko o) := putObj_upd _ _ _
  obtain ⟨hold, hwold⟩ := hmo5.struck HKO.out hu6 hm6
  have hkol := H.out.lt ko (.inr (.inr (.inr (.inl HKO.out))))
  have hb4 := HB3.out.trans (hcl.below.mono HB3.out.size)
  have hb5 : Below W.heap.size W w5 := hb4.trans (hu5.below hb4.size fun k e => by omega)
  have h3s : W.heap.size + 2 < w3.heap.size := (Array.getElem?_eq_some_iff.1 HBX3.out).1
  have hfin : CloneE W b S A (W.heap.size + 2) ⟨S.at_, [], bc', some W.heap.size, some (W.heap.size + 1)⟩ (w5.putObj ko o) := by
    refine ⟨hold, (Went.of_below hb5 b S A.ks).trans hwold, ?_, ?_, rfl, rfl, _, _, rfl, rfl⟩
    · have p1 : MapF (w5.putObj ko o) W.heap.size A.ks (ptrTo S) := ((HM3.out.below hcl.below).upd hu5 (by omega)).upd hu6 (by omega)
      have p2 : MapF (w5.putObj ko o) (W.heap.size + 1) [] (fun _ => .bool true) := ((HOW3.out.below hcl.below).upd hu5 (by omega)).upd hu6 (by omega)
      have p3 : MapO (w5.putObj ko o) bc' A.cg (fun _ => .bool true) := (hcl.chg.upd hu5 fun k e1 e2 => by have := hcl.new k e1; omega).upd hu6 fun k e1 e2 => by have := hcl.new k e1; omega
      refine ⟨?_, p1, p2, p3, fun n hn => hold.page n hn, H.out.le, fun n hn => absurd hn (by simp), fun n hn => absurd hn (by simp), fun x hx => ?_, fun x hx e => ?_, by simp⟩
      · rw [hu6.block _ (Array.getElem?_eq_some_iff.1 hbx5).1 (by omega)]; exact hbx5
      · obtain rfl : W.heap.size = x := by simpa using hx
        exact ⟨by simp, fun e => by have := hcl.new _ e; omega⟩
      · obtain rfl : W.heap.size + 1 = x := by simpa using hx
        have := hcl.new _ e; omega
    · intro k hk
      rcases hk with e | e | e | e | ⟨n, hn, e⟩
      · omega
      · have := hcl.new k e; omega
      · have : W.heap.size = k := by simpa using e
        omega
      · have : W.heap.size + 1 = k := by simpa using e
        omega
      · exact absurd hn (by simp)
  have HFIN := Lib.hid hfin
  clear hfin hold hwold hm6 hu6 hmo hmo5 hbx5 hu5 hbx4 hmo4 hcl hb4 hb5
  go_wp2_with fail
  go_ret
  exact ⟨_, _, rfl, HFIN.out⟩
end Go.Proofs.Ytidojcogojchpaa

/- package slices: Sort and Compact of ints of one's own. -/
set_option linter.unusedVariables false
set_option linter.unusedSimpArgs false
namespace Go.Proofs.Ytidojcogojchpaa
open Go.RowKit Go.Shelf Go.Sort Go.Proofs

def sortI (xs : List Int) : List Int := xs.mergeSort fun x y => decide (x ≤ y)
theorem sortI_len (xs : List Int) : (sortI xs).length = xs.length := List.length_mergeSort xs
theorem sortI_mem (xs : List Int) (x : Int) : x ∈ sortI xs ↔ x ∈ xs := List.mem_mergeSort
theorem sortI_up (xs : List Int) : (sortI xs).Pairwise (· ≤ ·) := by
  have := List.pairwise_mergeSort (le := fun x y : Int => decide (x ≤ y)) (by intro a b c h1 h2; simp at *; omega) (by intro a b; simp; omega) xs
  exact this.imp fun h => by simpa using h
theorem sort_any (W : World) (B : Nat) (v : Value) (L : List Int) (hown : W.ownsRow B 3 1 v L.length (nums .i64 L)) (hl : L.length ≤ 1000000) :
    Calls Try.prog 60 #[v] W fun e w' => e = .returned (.tuple #[]) ∧ w'.ownsRow B 3 1 v L.length (nums .i64 (sortI L)) ∧ W.grownBy w' v.ownBlock := by
  rcases hown.2 with ⟨rfl, h0⟩ | ⟨g, cap, cur, rfl, hb, hg, hn, hm, hs, ht⟩
  · have hL : L = [] := List.length_eq_zero_iff.1 h0
    subst hL
    have h := AnyM.slices_Sort_int_none sortL none 0 W
    refine h.mono ?_
    rintro e w' ⟨rfl, rfl⟩
    exact ⟨rfl, by simpa [sortI, nums] using World.ownsRow_nil _ _ _ _, ⟨rfl, rfl, rfl, Nat.le_refl _, fun _ _ _ => rfl⟩⟩
  · have hH : Holds (Value.int .i64) W g 0 L.toArray := holds_of_blockI hg (by simpa [nums] using ht)
    refine (AnyM.slices_Sort_int sortL g 0 cap L W hH (Array.getElem?_eq_some_iff.1 hg).1 (by omega)).mono ?_
    rintro e w' ⟨rfl, n, os, rfl⟩
    exact ⟨rfl, ownsRow_sortedI (sortI_len L) hb hg hn hm (by simpa using hs), grownBy_sortedI _⟩
theorem compact_le (L : List Int) : (Lib.compact L).length ≤ L.length := by
  unfold Lib.compact Lib.compactUpTo
  have := List.length_filter_le (Lib.keeps L.toArray) (List.range L.length)
  simpa using this
theorem compact_up {L : List Int} (h : L.Pairwise (· ≤ ·)) : Up (Lib.compact L) := by
  unfold Lib.compact Lib.compactUpTo
  refine List.pairwise_map.2 (List.Pairwise.imp_of_mem ?_ (List.pairwise_lt_range.filter _))
  intro i j hi hj hij
  obtain ⟨hj1, hj2⟩ := List.mem_filter.1 hj
  have hjl : j < L.length := by simpa using hj1
  have hk : L.toArray[j]! ≠ L.toArray[j - 1]! := by
    have := of_decide_eq_true hj2
    rcases this with e | e
    · omega
    · exact e
  have g : ∀ k, k < L.length → L.toArray[k]! = gi L k := fun k hk => by
    rw [gi_get L k hk, getElem!_pos _ k (by simpa using hk)]; simp
  have hle : ∀ a b, a ≤ b → b < L.length → gi L a ≤ gi L b := fun a b hab hb => by
    rcases Nat.eq_or_lt_of_le hab with e | e
    · subst e; exact Int.le_refl _
    · rw [gi_get L a (by omega), gi_get L b hb]
      exact List.pairwise_iff_getElem.1 h a b (by omega) hb e
  rw [g i (by omega), g j hjl]
  rw [g j hjl, g (j - 1) (by omega)] at hk
  have h1 := hle i (j - 1) (by omega) (by omega)
  have h2 := hle (j - 1) j (by omega) hjl
  omega
theorem compact_mem (L : List Int) (x : Int) : x ∈ Lib.compact L ↔ x ∈ L := by
  have g : ∀ k, k < L.length → L.toArray[k]! = gi L k := fun k hk => by
    rw [gi_get L k hk, getElem!_pos _ k (by simpa using hk)]; simp
  unfold Lib.compact Lib.compactUpTo
  constructor
  · intro h
    obtain ⟨j, hj, rfl⟩ := List.mem_map.1 h
    have hjl : j < L.length := by simpa using (List.mem_filter.1 hj).1
    rw [g j hjl]; exact gi_mem L j hjl
  · intro h
    have key : ∀ i, i < L.length → gi L i = x → x ∈ ((List.range L.length).filter (Lib.keeps L.toArray)).map (L.toArray[·]!) := by
      intro i
      induction i with
      | zero =>
        intro hi hx
        exact List.mem_map.2 ⟨0, List.mem_filter.2 ⟨by simpa using hi, by simp [Lib.keeps]⟩, by rw [g 0 hi]; exact hx⟩
      | succ i ih =>
        intro hi hx
        by_cases hk : Lib.keeps L.toArray (i + 1) = true
        · exact List.mem_map.2 ⟨i + 1, List.mem_filter.2 ⟨by simpa using hi, hk⟩, by rw [g _ hi]; exact hx⟩
        · refine ih (by omega) ?_
          have : ¬ (i + 1 = 0 ∨ L.toArray[i + 1]! ≠ L.toArray[i + 1 - 1]!) := fun h => hk (decide_eq_true h)
          have e : L.toArray[i + 1]! = L.toArray[i]! := Classical.byContradiction fun h => this (.inr h)
          rw [g _ hi, g i (by omega)] at e
          rw [← e]; exact hx
    obtain ⟨i, hi, e⟩ := List.getElem_of_mem h
    exact key i hi (by rw [gi_get L i hi]; exact e)
/-- The numbers of both memories' pages. -/
def uni (xs ys : List Int) : List Int := Lib.compact (sortI (xs ++ ys))
theorem uni_up (xs ys : List Int) : Up (uni xs ys) := compact_up (sortI_up _)
theorem uni_mem (xs ys : List Int) (x : Int) : x ∈ uni xs ys ↔ x ∈ xs ∨ x ∈ ys := by unfold uni; rw [compact_mem, sortI_mem, List.mem_append]
def compL_ren : Go.Shelf.Ren := ⟨fun | 20 => 61 | n => n, fun | 0 => 0 | 3 => 3 | 4 => 4 | 22 => 59 | n => n, fun n => n⟩
theorem compL : Lays2.n20 Try.prog compL_ren := { mixed := by kernel_rfl, f20 := Try.func61.trans (congrArg some (by kernel_rfl)), t0 := Try.underlying0, a0 := Try.isAgg0, z0 := Try.sizeOf0, v0 := Try.zeroValue0, t3 := Try.underlying3, a3 := Try.isAgg3, z3 := Try.sizeOf3, v3 := Try.zeroValue3, t4 := Try.underlying4, a4 := Try.isAgg4, z4 := Try.sizeOf4, v4 := Try.zeroValue4, t22 := Try.underlying59, a22 := Try.isAgg59, z22 := Try.sizeOf59, v22 := Try.zeroValue59, i3 := info_int }
theorem compact_any (W : World) (B : Nat) (v : Value) (L : List Int) (hown : W.ownsRow B 3 1 v L.length (nums .i64 L)) (hl : L.length ≤ 1000000) :
    Calls Try.prog 61 #[v] W fun e w' => ∃ v', e = .returned v' ∧ w'.ownsRow B 3 1 v' (Lib.compact L).length (nums .i64 (Lib.compact L)) ∧ W.grownBy w' v.ownBlock := by
  rcases hown.2 with ⟨rfl, h0⟩ | ⟨g, cap, cur, rfl, hb, hg, hn, hm, hs, ht⟩
  · have hL : L = [] := List.length_eq_zero_iff.1 h0
    subst hL
    refine (Any.slices_Compact_int_empty compL none 0 W).mono ?_
    rintro e w' ⟨rfl, rfl⟩
    exact ⟨_, rfl, World.ownsRow_nil _ _ _ _, ⟨rfl, rfl, rfl, Nat.le_refl _, fun _ _ _ => rfl⟩⟩
  · have hH : Holds (Value.int .i64) W g 0 L.toArray := holds_of_blockI hg (by simpa [nums] using ht)
    refine (Any.slices_Compact_int compL g 0 cap L W hH (by omega) hn).mono ?_
    rintro e w' ⟨rfl, q, rfl⟩
    have hc := compact_le L
    have h1 := Lib.ownsRow_putRow (q := q) (k := (Lib.compact L).length) (ys := Lib.compact L ++ List.replicate (L.length - (Lib.compact L).length) 0) hown (by simp; omega) hc
    refine ⟨_, rfl, ?_, ⟨rfl, rfl, rfl, by simp, fun k hk hne => ?_⟩⟩
    · have e : (Lib.compact L ++ List.replicate (L.length - (Lib.compact L).length) 0).take (Lib.compact L).length = Lib.compact L := by simp
      rw [e] at h1
      exact h1
    · have : g ≠ k := fun e => hne (by rw [e]; rfl)
      simp [putRow, mapBlock, Sort.ahead, Array.getElem?_modify, this]
end Go.Proofs.Ytidojcogojchpaa

/- mem: Diff. -/
set_option linter.unusedVariables false
set_option linter.unusedSimpArgs false
namespace Go.Proofs.Ytidojcogojchpaa
open Go.RowKit Go.Shelf

/-- Do the bytes differ there? -/
def dif (A B : PM) (n : Int) (j : Nat) : Bool := !(decide (n ∈ A.ks) && decide (n ∈ B.ks) && decide (gi (A.pg n).bs j = gi (B.pg n).bs j))
def incL : List (Int × Int) → List (Int × Int)
  | [] => []
  | [(a, n)] => [(a, n + 1)]
  | s :: t :: l => s :: incL (t :: l)
def spanS (st : List (Int × Int) × Int) (a : Int) : List (Int × Int) × Int := (incL (if a = st.2 then st.1 else st.1 ++ [(a, 0)]), a + 1)
def posP (A B : PM) (n : Int) (i : Nat) : List Int := ((List.range i).filter (dif A B n)).map fun (j : Nat) => n * 256 + (j : Int)
def posA (A B : PM) (ks : List Int) : List Int := ks.flatMap fun n => posP A B n 256
def spans (L : List Int) : List (Int × Int) × Int := L.foldl spanS ([], -1)
theorem posP_snoc (A B : PM) (n : Int) (i : Nat) : posP A B n (i + 1) = posP A B n i ++ if dif A B n i then [n * 256 + (i : Int)] else [] := by
  unfold posP
  rw [List.range_succ, List.filter_append, List.map_append]
  congr 1
  cases h : dif A B n i <;> simp [h]
theorem posA_snoc (A B : PM) (ks : List Int) (k : Nat) (hk : k < ks.length) : posA A B (ks.take (k + 1)) = posA A B (ks.take k) ++ posP A B (gi ks k) 256 := by
  rw [List.take_succ_eq_append_getElem hk, posA, List.flatMap_append, gi_get ks k hk]; simp [posA]
theorem spans_snoc (L : List Int) (a : Int) : spans (L ++ [a]) = spanS (spans L) a := by simp [spans, List.foldl_append]
def sflat (l : List (Int × Int)) : List Value := l.flatMap fun s => [.int .u32 s.1, .int .i64 s.2]
theorem sflat_len (l : List (Int × Int)) : (sflat l).length = l.length * 2 := by
  induction l with
  | nil => rfl
  | cons s l ih => simp only [sflat, List.flatMap_cons, List.length_append, List.length_cons] at ih ⊢; rw [ih]; simp; omega
theorem sflat_one (l : List (Int × Int)) : ∀ u ∈ sflat l, u.oneCell' = true := by
  intro u hu
  obtain ⟨p, _, hp⟩ := List.mem_flatMap.1 hu
  simp at hp
  rcases hp with rfl | rfl <;> rfl
theorem sflat_append (l m : List (Int × Int)) : sflat (l ++ m) = sflat l ++ sflat m := by simp [sflat]
theorem incL_snoc : ∀ (l : List (Int × Int)) (a n : Int), incL (l ++ [(a, n)]) = l ++ [(a, n + 1)]
  | [], _, _ => rfl
  | [s], _, _ => rfl
  | s :: t :: l, a, n => by
    show s :: incL ((t :: l) ++ [(a, n)]) = _
    rw [incL_snoc (t :: l) a n]; rfl
theorem last_split : ∀ (l : List (Int × Int)), l ≠ [] → ∃ m a n, l = m ++ [(a, n)]
  | l, h => ⟨l.dropLast, (l.getLast h).1, (l.getLast h).2, (List.dropLast_concat_getLast h).symm⟩
theorem info_span : (Try.prog.info? 36).map (fun i => (i.zero, i.size, i.bytes)) = some (some (.agg #[.int .u32 0, .int .i64 0]), 2, 16) := by kernel_rfl
theorem app_span {W : World} {base : Nat} {v : Value} {l : List (Int × Int)} (hown : W.ownsRow base 36 2 v l.length (sflat l)) (a : Int) (hn : l.length ≤ 10000000) (hbase : base ≤ W.heap.size) :
    ∃ v' W', (Builtin.append_ #[33, 33] 33 #[v, .slice (some ⟨W.heap.size, 0, none⟩) 1 1]).run Try.prog (W.alloc (.cells #[.int .u32 a, .int .i64 0] 36)) = .ok v' W' ∧ W'.ownsRow base 36 2 v' (l.length + 1) (sflat (l ++ [(a, 0)])) ∧ W.grownBy W' v.ownBlock := by
  obtain ⟨i0, hi0, hz0, hz1, hz2⟩ := info_parts info_span
  have hr : Rd (W.alloc (.cells #[.int .u32 a, .int .i64 0] 36)) (some ⟨W.heap.size, 0, none⟩) 1 2 (sflat [(a, 0)]) := rd_new W 36 (sflat [(a, 0)]) 1 2 rfl (by omega)
  obtain ⟨v', W', h1, h2, h3, h4⟩ := app_gen (P := Try.prog) (t := 33) (ty := 33) (c := 1) Try.underlying33 hi0 hz0 hz1 hz2 rfl (by decide) (hown.alloc _) hr (sflat_one _) (by unfold maxLen; omega) (by omega) (by simp; omega)
  rw [sflat_append]
  refine ⟨v', W', h1, h2, ?_⟩
  have hb := balloc W (.cells #[.int .u32 a, .int .i64 0] 36)
  refine ⟨h3.os, h3.tape, h3.output, by have := h3.size; simp at this; omega, fun k hk hn => ?_⟩
  rw [h3.block k (by simp; omega) hn]
  exact hb.block k hk
/-- A cell of an own row is stored. -/
theorem own_set {W : World} {B g n cap sz i : Nat} {e : TypeId} {cs : List Value} (h : W.ownsRow B e sz (.slice (some ⟨g, 0, none⟩) n cap) n cs) (hi : i < n * sz) (u : Value) : (W.setCell ⟨g, i, none⟩ u).ownsRow B e sz (.slice (some ⟨g, 0, none⟩) n cap) n (cs.set i u) := by
  refine ⟨by rw [List.length_set]; exact h.1, ?_⟩
  rcases h.2 with ⟨h0, _⟩ | ⟨g', cap', cur, e0, hb, hg, hn, hm, hs, ht⟩
  · cases h0
  · injection e0 with e1 _ e3
    injection e1 with e1
    injection e1 with e1
    subst e1; subst e3
    refine .inr ⟨g, cap, cur.setIfInBounds i u, rfl, hb, setCell_row hg u, hn, hm, by simpa using hs, ?_⟩
    rw [← ht]
    simp [List.take_set]
theorem pgObj_inj {g h : Pg} (e : pgObj g = pgObj h) : g = h := by
  unfold pgObj pgCells at e
  simp at e
  obtain ⟨e1, e2⟩ := e
  have e3 : g.bs = h.bs := by
    have := congrArg (List.map fun v => match v with | Value.int _ x => x | _ => 0) e2
    simpa [nums, List.map_map, Function.comp_def] using this
  cases g; cases h
  simp_all
theorem run_eql_nil_ptr (W : World) (q : Addr) : (binOp .eql 95 (.pointer none) (.pointer (some q))).run Try.prog W = .ok (.bool false) W := by
  have h : ∀ d : Nat, (Op.equalIn (d + 1) 95 (.pointer none) (.pointer (some q))).run Try.prog W = .ok false W := fun d => by
    simp [Op.equalIn, run_underlying Try.underlying95]
  simp only [binOp]
  simp [Op.equal, Op.maxDepth, h 9999]
structure DiffE (A B : PM) (W : World) (v : Value) (w' : World) : Prop where
  row : w'.ownsRow W.heap.size 36 2 v (spans (posA A B (uni A.ks B.ks))).1.length (sflat (spans (posA A B (uni A.ks B.ks))).1)
  below : Below W.heap.size W w'
/-- Between two rounds: what positions L have given. -/
structure DfI (W1 : World) (L : List Int) (m : Nat) (o e : Value) (V : World) : Prop where
  row : V.ownsRow W1.heap.size 36 2 o (spans L).1.length (sflat (spans L).1)
  fin : e = .int .i64 (spans L).2
  below : Below W1.heap.size W1 V
  le : (spans L).1.length ≤ m ∧ ∀ s ∈ (spans L).1, 0 ≤ s.2 ∧ s.2 ≤ m
  rng : -1 ≤ (spans L).2 ∧ (spans L).2 ≤ 4294967296
  ne : (spans L).2 ≠ -1 → (spans L).1 ≠ []
/-- The last span has grown. -/
theorem sflat_set (l : List (Int × Int)) (a n m : Int) : (sflat (l ++ [(a, n)])).set (l.length * 2 + 1) (.int .i64 m) = sflat (l ++ [(a, m)]) := by
  rw [sflat_append, sflat_append, List.set_append, if_neg (by rw [sflat_len]; omega), sflat_len]
  congr 1
  rw [show l.length * 2 + 1 - l.length * 2 = 1 by omega]
  rfl
/-- A position that differs: behind both stores. l, a0, n0: the spans but the last, the last. -/
theorem DfI.step {W1 : World} {L : List Int} {m : Nat} {o e : Value} {V0 V : World} (h : DfI W1 L m o e V0) (at_ : Int) (h0 : 0 ≤ at_) (h1 : at_ < 4294967296) {l : List (Int × Int)} {a0 n0 : Int} {g cap : Nat}
    (hl : (if at_ = (spans L).2 then (spans L).1 else (spans L).1 ++ [(at_, 0)]) = l ++ [(a0, n0)]) (hrow : V.ownsRow W1.heap.size 36 2 (.slice (some ⟨g, 0, none⟩) (l.length + 1) cap) (l.length + 1) (sflat (l ++ [(a0, n0)]))) (hb : Below W1.heap.size W1 V) :
    DfI W1 (L ++ [at_]) (m + 1) (.slice (some ⟨g, 0, none⟩) (l.length + 1) cap) (.int .i64 (at_ + 1)) (V.setCell ⟨g, l.length * 2 + 1, none⟩ (.int .i64 (n0 + 1))) := by
  have e1 : spans (L ++ [at_]) = (l ++ [(a0, n0 + 1)], at_ + 1) := by rw [spans_snoc, spanS, hl, incL_snoc]
  have hgb := hrow.lt g rfl
  have hset := own_set hrow (i := l.length * 2 + 1) (by omega) (.int .i64 (n0 + 1))
  rw [sflat_set] at hset
  have hln : l.length + 1 ≤ m + 1 ∧ ∀ s ∈ l ++ [(a0, n0)], 0 ≤ s.2 ∧ s.2 ≤ (m : Int) := by
    by_cases e : at_ = (spans L).2
    · rw [if_pos e] at hl
      have := h.le.1
      rw [hl] at this
      exact ⟨by simp at this; omega, by rw [← hl]; exact h.le.2⟩
    · rw [if_neg e] at hl
      have hlen := congrArg List.length hl
      simp at hlen
      have := h.le.1
      refine ⟨by omega, ?_⟩
      rw [← hl]
      intro s hs
      rcases List.mem_append.1 hs with hs | hs
      · exact h.le.2 s hs
      · obtain rfl : s = (at_, 0) := by simpa using hs
        exact ⟨Int.le_refl _, by show (0 : Int) ≤ (m : Int); omega⟩
  have hn0 := hln.2 (a0, n0) (by simp)
  refine ⟨?_, by rw [e1], ?_, ?_, ?_, ?_⟩
  · rw [e1]
    show World.ownsRow _ _ _ _ _ (l ++ [(a0, n0 + 1)]).length _
    rw [List.length_append]
    exact hset
  · exact hb.trans ((Upd.setCell V ⟨g, l.length * 2 + 1, none⟩ _).below hb.size fun k hk => by rw [hk]; exact hgb.1)
  · rw [e1]
    refine ⟨by simp; omega, fun s hs => ?_⟩
    rcases List.mem_append.1 hs with hs | hs
    · have := hln.2 s (List.mem_append.2 (.inl hs)); omega
    · obtain rfl : s = (a0, n0 + 1) := by simpa using hs
      have h3 : 0 ≤ n0 ∧ n0 ≤ (m : Int) := hn0
      exact ⟨by show 0 ≤ n0 + 1; omega, by show n0 + 1 ≤ ((m + 1 : Nat) : Int); omega⟩
  · rw [e1]; exact ⟨by show -1 ≤ at_ + 1; omega, by show at_ + 1 ≤ 4294967296; omega⟩
  · rw [e1]; intro _; simp
theorem DfI.more {W1 : World} {L : List Int} {m m' : Nat} {o e : Value} {V : World} (h : DfI W1 L m o e V) (hm : m ≤ m') : DfI W1 L m' o e V :=
  ⟨h.row, h.fin, h.below, ⟨by have := h.le.1; omega, fun s hs => by have := h.le.2 s hs; omega⟩, h.rng, h.ne⟩
theorem DfI.drew {W1 : World} {L : List Int} {m : Nat} {o e : Value} {V : World} (h : DfI W1 L m o e V) : DfI W1 L m o e V.drew :=
  ⟨own_upd h.row (Upd.drew (fun _ => False) V) fun _ _ h => h, h.fin, bdrewN h.below 1, h.le, h.rng, h.ne⟩
set_option maxRecDepth 100000 in
set_option maxHeartbeats 4000000 in
theorem Diff_any (W : World) (a b : Nat) (S T : MS) (A B : PM) (ha : MemIs W a S A) (hb : MemIs W b T B) :
    Calls Try.prog 17 #[.pointer (some ⟨a, 0, none⟩), .pointer (some ⟨b, 0, none⟩)] W fun e w' => ∃ v, e = .returned v ∧ DiffE A B W v w' := by
  have HKA := Lib.hid (known_any W a S A ha)
  have HA := Lib.hid ha
  have HBB := Lib.hid hb
  have hle1 := ha.le
  have hle2 := hb.le
  clear ha hb
  go_enter Try.func17, Try.ntmps17
  go_wp2_with fail
  refine HKA.out.mono ?_
  rintro e w1 ⟨v1, rfl, hk1⟩
  have hkb := known_any w1 b T B (HBB.out.below hk1.below)
  have HKB := Lib.hid hkb
  have HK1 := Lib.hid hk1
  clear hkb hk1
  go_wp2_with fail
  refine HKB.out.mono ?_
  rintro e w2 ⟨v2, rfl, hk2⟩
  obtain ⟨Av, cv, rfl, hrd⟩ := own_rd hk2.row
  have hrow1 : w2.ownsRow W.heap.size 3 1 v1 A.ks.length (nums .i64 A.ks) := own_upd HK1.out.row (Upd.any hk2.below (F := fun _ => False)) fun _ _ h => h
  have hs12 := HK1.out.below.size
  have hs22 := hk2.below.size
  obtain ⟨i0, hi0, hz0, hz1, hz2⟩ := info_parts info_int
  obtain ⟨v3, w3, run3, ho3, hg3, _⟩ := app_gen (P := Try.prog) (t := 59) (ty := 59) (c := cv) Try.underlying59 hi0 hz0 hz1 hz2 rfl (by decide) hrow1 hrd (nums_oneC _ _) (by unfold maxLen; omega) (by omega) (by omega)
  have hown3 : w3.ownsRow W.heap.size 3 1 v3 (A.ks ++ B.ks).length (nums .i64 (A.ks ++ B.ks)) := by rw [List.length_append, nums_append]; exact ho3
  have hb3 : Below W.heap.size W w3 := by
    have h2 := HK1.out.below.trans (hk2.below.mono hs12)
    exact h2.trans ((Upd.of_grown hg3).below (by omega) fun k hk => (hrow1.lt k hk).1)
  have HSO := Lib.hid (sort_any w3 W.heap.size v3 (A.ks ++ B.ks) hown3 (by rw [List.length_append]; omega))
  have HR3 := Lib.hid hown3
  have HB3 := Lib.hid hb3
  clear hk2 hrow1 hrd ho3 hg3 hown3 hb3
  go_wp2_with (at_builtin; refine Lib.wpList_append_run _ rfl (.tmp 15) (.tmp 17) _ _ rfl _ _ rfl rfl _ _ run3 ?_)
  refine HSO.out.mono ?_
  rintro e w4 ⟨rfl, hr4, hg4⟩
  have hb4 : Below W.heap.size W w4 := HB3.out.trans ((Upd.of_grown hg4).below HB3.out.size fun k hk => (HR3.out.lt k hk).1)
  have hl4 : (A.ks ++ B.ks).length = (sortI (A.ks ++ B.ks)).length := (sortI_len _).symm
  rw [hl4] at hr4
  have HCO := Lib.hid (compact_any w4 W.heap.size v3 (sortI (A.ks ++ B.ks)) hr4 (by rw [← hl4, List.length_append]; omega))
  have HR4 := Lib.hid hr4
  have HB4 := Lib.hid hb4
  have HL4 := Lib.hid hl4
  clear hr4 hg4 hb4 hl4 run3
  go_wp2_with fail
  refine HCO.out.mono ?_
  rintro e w5 ⟨v5, rfl, hr5, hg5⟩
  have hb5 : Below W.heap.size W w5 := HB4.out.trans ((Upd.of_grown hg5).below HB4.out.size fun k hk => (HR4.out.lt k hk).1)
  obtain ⟨us, hus⟩ : ∃ us, uni A.ks B.ks = us := ⟨_, rfl⟩
  have hus' : Lib.compact (sortI (A.ks ++ B.ks)) = us := hus
  rw [hus'] at hr5
  have hul : us.length ≤ 4000 := by
    rw [← hus']
    have := compact_le (sortI (A.ks ++ B.ks))
    have := HL4.out
    rw [List.length_append] at this
    omega
  obtain ⟨Au, cu, rfl, hru⟩ := own_rd hr5
  have HUS := Lib.hid hus
  have HRU := Lib.hid hru
  have HB5 := Lib.hid hb5
  have HI0 : Hid (DfI w5 [] 0 (.slice none 0 0) (.int .i64 (-1)) w5) := Lib.hid ⟨World.ownsRow_nil _ _ _ _, rfl, Below.refl _ _, ⟨Nat.le_refl _, fun s hs => by simp [spans] at hs⟩, ⟨by simp [spans], by simp [spans]⟩, by simp [spans]⟩
  clear hus hus' hr5 hg5 hb5 hru
  go_wp2_with fail
  go_loopw [6, 7, 24] (fun o e i wr => ∃ k : Nat, k ≤ us.length ∧ i = .int .i64 k ∧ Hid (DfI w5 (posA A B (us.take k)) (k * 256) o e wr)) (fun o e i _ => us.length - (intOf i).toNat)
  case atStart => exact ⟨0, Nat.zero_le _, rfl, HI0⟩
  case round =>
    obtain ⟨k, hk, rfl, hI⟩ := hrel
    by_cases hlt : k < us.length
    · obtain ⟨ad, e1, hc⟩ := RdI.at (Rd.below HRU.out hI.out.below) k hlt
      obtain rfl : Au = some ad := e1
      obtain ⟨n, hn⟩ : ∃ n, gi us k = n := ⟨_, rfl⟩
      have hmem : n ∈ A.ks ∨ n ∈ B.ks := by rw [← uni_mem, HUS.out, ← hn]; exact gi_mem us k hlt
      have hrn : 0 ≤ n ∧ n < 16777216 := by
        rcases hmem with h | h
        · exact HA.out.rng n h
        · exact HBB.out.rng n h
      rw [hn] at hc
      have hps := posA_snoc A B us k hlt
      rw [hn] at hps
      have hbr : Below W.heap.size W wr := HB5.out.trans (hI.out.below.mono HB5.out.size)
      have hma : MemIs wr a S A := HA.out.below hbr
      have hmb : MemIs wr b T B := HBB.out.below hbr
      have HAT := Lib.hid (at_any wr a S A n hma)
      have HBT := Lib.hid (at_any wr b T B n hmb)
      have HMA := Lib.hid hma
      have HMB := Lib.hid hmb
      have HPS := Lib.hid hps
      clear hn hps hbr hma hmb
      by_cases hka : n ∈ A.ks ∧ n ∈ B.ks
      · obtain ⟨hka, hkb⟩ := hka
        rw [if_pos hka] at HAT
        rw [if_pos hkb] at HBT
        obtain ⟨p, hp⟩ : ∃ p, S.at_ n = p := ⟨_, rfl⟩
        obtain ⟨q, hq⟩ : ∃ q, T.at_ n = q := ⟨_, rfl⟩
        obtain ⟨hpa, hpka⟩ := HMA.out.page n hka
        obtain ⟨hpb, hpkb⟩ := HMB.out.page n hkb
        rw [hp] at hpa
        rw [hq] at hpb
        have hpt : ptrTo S n = .pointer (some ⟨p, 0, none⟩) := by rw [← hp]
        have hqt : ptrTo T n = .pointer (some ⟨q, 0, none⟩) := by rw [← hq]
        rw [hpt] at HAT
        rw [hqt] at HBT
        have HP := Lib.hid hp
        have HQ := Lib.hid hq
        clear hpt hqt hp hq
        obtain ⟨jp, hjp, hjs⟩ : ∃ j, Try.prog.info? 98 = some j ∧ j.size ≠ 0 := by
          have := pg_info
          cases hq : Try.prog.info? 98 with
          | none => simp [hq] at this
          | some j => exact ⟨j, rfl, by simp [hq] at this; omega⟩
        by_cases hpq : p = q
        · subst hpq
          have hsame : A.pg n = B.pg n := by
            rw [hpa] at hpb
            exact pgObj_inj (Option.some.inj hpb)
          have hnil : posP A B n 256 = [] := by
            unfold posP
            rw [List.filter_eq_nil_iff.2 (fun j hj => by simp [dif, hka, hkb, hsame])]
            rfl
          have HNEW : Hid (DfI w5 (posA A B (us.take (k + 1))) ((k + 1) * 256) u6 u7 wr) := Lib.hid (by rw [HPS.out, hnil, List.append_nil]; exact hI.out.more (by omega))
          have hee := run_eql_ptr_same (P := Try.prog) wr (⟨p, 0, none⟩ : Addr) Try.underlying95 hjp
          clear hpa hpb hsame hnil hka hkb hjp hjs
          go_wp2_with fail
          refine HAT.out.mono ?_
          rintro e' w6 ⟨rfl, rfl⟩
          go_wp2_with fail
          refine HBT.out.mono ?_
          rintro e' w7 ⟨rfl, rfl⟩
          go_wp2_with fail
          go_roundw
          case rel => exact ⟨k + 1, by omega, by go_num, HNEW⟩
          case measure => simp [intOf]; omega
        · have HPA := Lib.hid hpa
          have HPB := Lib.hid hpb
          have HKA2 := Lib.hid hka
          have HKB2 := Lib.hid hkb
          have hee := run_eql_ptr_other (P := Try.prog) wr (a := ⟨p, 0, none⟩) (b := ⟨q, 0, none⟩) Try.underlying95 hjp hjs (fun e => hpq (by cases e; rfl)) hpa hpb
          clear hpa hpb hka hkb hjp hjs
          go_wp2_with fail
          refine HAT.out.mono ?_
          rintro e' w6 ⟨rfl, rfl⟩
          go_wp2_with fail
          refine HBT.out.mono ?_
          rintro e' w7 ⟨rfl, rfl⟩
          go_wp2_with fail
          go_loopw [6, 7, 37] (fun o e i wr2 => ∃ j : Nat, j ≤ 256 ∧ i = .int .i64 j ∧ Hid (DfI w5 (posA A B (us.take k) ++ posP A B n j) (k * 256 + j) o e wr2)) (fun o e i _ => 256 - (intOf i).toNat)
          case atStart => exact ⟨0, by omega, rfl, Lib.hid (by simpa [posP] using hI.out)⟩
          case round =>
            obtain ⟨wr2, hwr2⟩ : ∃ wr2, wr2 = wr := ⟨wr, rfl⟩
            obtain ⟨j, hj, rfl, hJ⟩ := hrel
            rw [← hwr2] at hJ ⊢
            clear hwr2
            by_cases hlj : j < 256
            · obtain ⟨wd, hwd⟩ : ∃ wd, wr2.drew = wd := ⟨_, rfl⟩
              have hJd : DfI w5 (posA A B (us.take k) ++ posP A B n j) (k * 256 + j) u6 u7 wd := by rw [← hwd]; exact hJ.out.drew
              have hbd : Below W.heap.size W wd := HB5.out.trans (hJd.below.mono HB5.out.size)
              have hpa2 := ((HA.out.below hbd).page n HKA2.out).1
              have hpb2 := ((HBB.out.below hbd).page n HKB2.out).1
              rw [HP.out] at hpa2
              rw [HQ.out] at hpb2
              have hca := (pg_cells hpa2).2.1 j (by have := (HMA.out.page n HKA2.out).2.len; omega)
              have hcb := (pg_cells hpb2).2.1 j (by have := (HMB.out.page n HKB2.out).2.len; omega)
              obtain ⟨xa, hxa⟩ : ∃ xa, gi (A.pg n).bs j = xa := ⟨_, rfl⟩
              obtain ⟨xb, hxb⟩ : ∃ xb, gi (B.pg n).bs j = xb := ⟨_, rfl⟩
              rw [hxa] at hca
              rw [hxb] at hcb
              have f1 : ∀ q' : Just wd, q'.W.cell? ⟨p, 1 + j, none⟩ = some (.int .u8 xa) := fun q' => by rw [Nat.add_comm]; exact Just.cell hca q'
              have f2 : ∀ q' : Just wd, q'.W.cell? ⟨q, 1 + j, none⟩ = some (.int .u8 xb) := fun q' => by rw [Nat.add_comm]; exact Just.cell hcb q'
              have hnp := fun (V : World) => run_neq_pointer_nil (P := Try.prog) V 95 (some ⟨p, 0, none⟩) (by kernel_rfl)
              have hnq := fun (V : World) => run_neq_pointer_nil (P := Try.prog) V 95 (some ⟨q, 0, none⟩) (by kernel_rfl)
              have hdd : dif A B n j = !(decide (xa = xb)) := by simp [dif, HKA2.out, HKB2.out, hxa, hxb]
              clear hxa hxb hpa2 hpb2 hca hcb hbd
              by_cases hxx : xa = xb
              · have HSK : Hid (DfI w5 (posA A B (us.take k) ++ posP A B n (j + 1)) (k * 256 + (j + 1)) u6 u7 wd) := Lib.hid (by
                  rw [posP_snoc, hdd]; simp only [hxx, decide_true, Bool.not_true]
                  rw [if_neg (by simp), List.append_nil]; exact hJd.more (by omega))
                clear hJd hJ hdd
                subst hxx
                go_wp2_with fail
                refine region_tail 20 hwd (by kernel_rfl) (by kernel_rfl) ?_
                simp only [List.take_succ_cons, List.take_zero, List.drop_succ_cons, List.drop_zero]
                repeat (go_big_quiet_step (fail))
                refine wpQuiet_nil ?_
                go_wp2_with fail
                go_roundw
                case rel => exact ⟨j + 1, by omega, by go_num, HSK⟩
                case measure => simp [intOf]; omega
              · have hdif : dif A B n j = true := by rw [hdd]; simp [hxx]
                have hne : (xa == xb) = false := by simp [hxx]
                clear hdd
                have hL0 := hJd
                obtain ⟨L, hL⟩ : ∃ L, posA A B (us.take k) ++ posP A B n j = L := ⟨_, rfl⟩
                have hLn : posA A B (us.take k) ++ posP A B n (j + 1) = L ++ [n * 256 + (j : Int)] := by rw [posP_snoc, hdif, ← List.append_assoc, hL]; rfl
                rw [hL] at hL0
                have hkl : k * 256 + j ≤ 1100000 := by omega
                obtain ⟨ed, hed⟩ : ∃ ed, (spans L).2 = ed := ⟨_, rfl⟩
                have hfin := hL0.fin
                rw [hed] at hfin
                subst hfin
                have hw1 : IntKind.i64.wrap (n * 256) = n * 256 := IntWalk.i64_in _ (by omega)
                have hw2 : IntKind.i64.wrap (n * 256 + (j : Int)) = n * 256 + (j : Int) := IntWalk.i64_in _ (by omega)
                have hw3 : IntKind.i64.wrap (n * 256 + (j : Int) + 1) = n * 256 + (j : Int) + 1 := IntWalk.i64_in _ (by omega)
                have hw4 : IntKind.u32.wrap (n * 256 + (j : Int)) = n * 256 + (j : Int) := by unfold IntKind.wrap; simp [IntKind.signed, IntKind.bits]; omega
                by_cases hae : n * 256 + (j : Int) = ed
                · obtain ⟨l, a0, n0, hl⟩ := last_split _ (hL0.ne (by omega))
                  have hrow := hL0.row
                  rw [hl, List.length_append, List.length_singleton] at hrow
                  obtain ⟨g, cap, rfl⟩ := own_sliceC hrow (by simp)
                  have hstep := hL0.step (n * 256 + (j : Int)) (by omega) (by omega) (l := l) (a0 := a0) (n0 := n0) (by rw [if_pos (by rw [hed]; exact hae), hl]) hrow hL0.below
                  have hle := hL0.le
                  rw [hl] at hle
                  have hn0 := hle.2 (a0, n0) (by simp)
                  have hll : l.length ≤ 1100000 := by have := hle.1; simp at this; omega
                  obtain ⟨N, hN⟩ : ∃ N, l.length = N := ⟨_, rfl⟩
                  have hcell : wd.cell? ⟨g, N * 2 + 1, none⟩ = some (.int .i64 n0) := by
                    have := hrow.cells (g := g) rfl (N * 2 + 1) (.int .i64 n0) (by rw [sflat_append, List.getElem?_append_right (by rw [sflat_len]; omega), sflat_len, ← hN, show l.length * 2 + 1 - l.length * 2 = 1 by omega]; rfl)
                    simpa [Addr.add] using this
                  have hfz : wd.frozen? ⟨g, N * 2 + 1, none⟩ = false := by
                    rcases hrow.2 with ⟨h0, _⟩ | ⟨g', cap', cur, e0, _, hg, _⟩
                    · cases h0
                    · injection e0 with e1 _ _
                      injection e1 with e1
                      injection e1 with e1
                      subst e1
                      simp [World.frozen?, hg]
                  have hn1 : IntKind.i64.wrap (n0 + 1) = n0 + 1 := IntWalk.i64_in _ (by obtain ⟨q1, q2⟩ := hn0; simp only [] at q1 q2; omega)
                  have hN1 : IntKind.i64.wrap ((N : Int)) = (N : Int) := IntWalk.i64_in _ (by omega)
                  rw [hN] at hstep hll ⊢
                  have hbn : (n * 256 + (j : Int) != ed) = false := by simp [hae]
                  have HST : Hid (DfI w5 (posA A B (us.take k) ++ posP A B n (j + 1)) (k * 256 + (j + 1)) (.slice (some ⟨g, 0, none⟩) (N + 1) cap) (.int .i64 (ed + 1)) (wd.setCell ⟨g, N * 2 + 1, none⟩ (.int .i64 (n0 + 1)))) := Lib.hid (by rw [hLn, ← hae]; exact hstep)
                  clear hstep hrow hle hn0 hL0 hL hLn hed hl hN
                  go_wp2_with fail
                  refine region_tail 20 hwd (by kernel_rfl) (by kernel_rfl) ?_
                  simp only [List.take_succ_cons, List.take_zero, List.drop_succ_cons, List.drop_zero]
                  repeat (go_big_quiet_step (fail))
                  refine wpQuiet_nil ?_
                  go_wp2_with fail
                  go_roundw
                  case rel => exact ⟨j + 1, by omega, by go_num, HST⟩
                  case measure => simp [intOf]; omega
                · have hle := hL0.le
                  obtain ⟨v2, w3, run2, ho2, hg2⟩ := app_span hL0.row (n * 256 + (j : Int)) (by omega) hL0.below.size
                  obtain ⟨g, cap, rfl⟩ := own_sliceC ho2 (by omega)
                  have hb3 : Below w5.heap.size w5 w3 := hL0.below.trans ((Upd.of_grown hg2).below hL0.below.size fun k hk => (hL0.row.lt k hk).1)
                  have hstep := hL0.step (n * 256 + (j : Int)) (by omega) (by omega) (l := (spans L).1) (a0 := n * 256 + (j : Int)) (n0 := 0) (by rw [if_neg (by rw [hed]; exact hae)]) ho2 hb3
                  have hll : (spans L).1.length ≤ 1100000 := by omega
                  obtain ⟨N, hN⟩ : ∃ N, (spans L).1.length = N := ⟨_, rfl⟩
                  have hcell : w3.cell? ⟨g, N * 2 + 1, none⟩ = some (.int .i64 0) := by
                    have := ho2.cells (g := g) rfl (N * 2 + 1) (.int .i64 0) (by rw [sflat_append, List.getElem?_append_right (by rw [sflat_len]; omega), sflat_len, ← hN, show (spans L).1.length * 2 + 1 - (spans L).1.length * 2 = 1 by omega]; rfl)
                    simpa [Addr.add] using this
                  have hfz : w3.frozen? ⟨g, N * 2 + 1, none⟩ = false := by
                    rcases ho2.2 with ⟨h0, _⟩ | ⟨g', cap', cur, e0, _, hg, _⟩
                    · cases h0
                    · injection e0 with e1 _ _
                      injection e1 with e1
                      injection e1 with e1
                      subst e1
                      simp [World.frozen?, hg]
                  have hN1 : IntKind.i64.wrap ((N : Int)) = (N : Int) := IntWalk.i64_in _ (by omega)
                  rw [hN] at hstep hll run2
                  have hbn : (n * 256 + (j : Int) != ed) = true := by simp [hae]
                  have HST : Hid (DfI w5 (posA A B (us.take k) ++ posP A B n (j + 1)) (k * 256 + (j + 1)) (.slice (some ⟨g, 0, none⟩) (N + 1) cap) (.int .i64 (n * 256 + (j : Int) + 1)) (w3.setCell ⟨g, N * 2 + 1, none⟩ (.int .i64 1))) := Lib.hid (by rw [hLn]; exact hstep)
                  clear hstep ho2 hg2 hb3 hle hL0 hL hLn hed hN
                  go_wp2_with fail
                  refine region_tail 20 hwd (by kernel_rfl) (by kernel_rfl) ?_
                  simp only [List.take_succ_cons, List.take_zero, List.drop_succ_cons, List.drop_zero]
                  repeat (go_big_quiet_step (fail))
                  refine wpQuiet_nil ?_
                  go_wp2_with (at_builtin; refine Lib.wpList_append_run _ rfl (.tmp 68) (.tmp 72) _ _ rfl _ _ rfl rfl _ _ run2 ?_)
                  go_roundw
                  case rel => exact ⟨j + 1, by omega, by go_num, HST⟩
                  case measure => simp [intOf]; omega
            · obtain rfl : j = 256 := by omega
              have HNEW : Hid (DfI w5 (posA A B (us.take (k + 1))) ((k + 1) * 256) u6 u7 wr2) := Lib.hid (by rw [HPS.out, show (k + 1) * 256 = k * 256 + 256 by omega]; exact hJ.out)
              go_wp2_with fail
              go_roundw
              case rel => exact ⟨k + 1, by omega, by go_num, HNEW⟩
              case measure => simp [intOf]; omega
      · by_cases hk0 : n ∈ A.ks
        · have hk1 := hk0
          have hnot : n ∉ B.ks := fun h => hka ⟨hk1, h⟩
          clear hk0
          rw [if_pos hk1] at HAT
          rw [if_neg hnot] at HBT
          obtain ⟨p, hp⟩ : ∃ p, S.at_ n = p := ⟨_, rfl⟩
          have hpt : ptrTo S n = .pointer (some ⟨p, 0, none⟩) := by rw [← hp]
          rw [hpt] at HAT
          have hee : (binOp .eql 95 (.pointer (some ⟨p, 0, none⟩)) (.pointer none)).run Try.prog wr = .ok (.bool false) wr := run_eql_pointer_nil (P := Try.prog) wr 95 (some ⟨p, 0, none⟩) (by kernel_rfl)
          have hnp := fun (V : World) => run_neq_pointer_nil (P := Try.prog) V 95 (some ⟨p, 0, none⟩) (by kernel_rfl)
          have hnq := fun (V : World) => run_neq_pointer_nil (P := Try.prog) V 95 none (by kernel_rfl)
          clear hpt hp hk1
          have HDT : Hid (∀ j, dif A B n j = true) := Lib.hid fun j => by simp [dif, hnot]
          clear hnot hka
          go_wp2_with fail
          refine HAT.out.mono ?_
          rintro e' w6 ⟨rfl, rfl⟩
          go_wp2_with fail
          refine HBT.out.mono ?_
          rintro e' w7 ⟨rfl, rfl⟩
          go_wp2_with fail
          go_loopw [6, 7, 37] (fun o e i wr2 => ∃ j : Nat, j ≤ 256 ∧ i = .int .i64 j ∧ Hid (DfI w5 (posA A B (us.take k) ++ posP A B n j) (k * 256 + j) o e wr2)) (fun o e i _ => 256 - (intOf i).toNat)
          case atStart => exact ⟨0, by omega, rfl, Lib.hid (by simpa [posP] using hI.out)⟩
          case round =>
            obtain ⟨wr2, hwr2⟩ : ∃ wr2, wr2 = wr := ⟨wr, rfl⟩
            obtain ⟨j, hj, rfl, hJ⟩ := hrel
            rw [← hwr2] at hJ ⊢
            clear hwr2
            by_cases hlj : j < 256
            · obtain ⟨wd, hwd⟩ : ∃ wd, wr2.drew = wd := ⟨_, rfl⟩
              have hJd : DfI w5 (posA A B (us.take k) ++ posP A B n j) (k * 256 + j) u6 u7 wd := by rw [← hwd]; exact hJ.out.drew
              have hdif : dif A B n j = true := HDT.out j
              · skip
                have hL0 := hJd
                obtain ⟨L, hL⟩ : ∃ L, posA A B (us.take k) ++ posP A B n j = L := ⟨_, rfl⟩
                have hLn : posA A B (us.take k) ++ posP A B n (j + 1) = L ++ [n * 256 + (j : Int)] := by rw [posP_snoc, hdif, ← List.append_assoc, hL]; rfl
                rw [hL] at hL0
                have hkl : k * 256 + j ≤ 1100000 := by omega
                obtain ⟨ed, hed⟩ : ∃ ed, (spans L).2 = ed := ⟨_, rfl⟩
                have hfin := hL0.fin
                rw [hed] at hfin
                subst hfin
                have hw1 : IntKind.i64.wrap (n * 256) = n * 256 := IntWalk.i64_in _ (by omega)
                have hw2 : IntKind.i64.wrap (n * 256 + (j : Int)) = n * 256 + (j : Int) := IntWalk.i64_in _ (by omega)
                have hw3 : IntKind.i64.wrap (n * 256 + (j : Int) + 1) = n * 256 + (j : Int) + 1 := IntWalk.i64_in _ (by omega)
                have hw4 : IntKind.u32.wrap (n * 256 + (j : Int)) = n * 256 + (j : Int) := by unfold IntKind.wrap; simp [IntKind.signed, IntKind.bits]; omega
                by_cases hae : n * 256 + (j : Int) = ed
                · obtain ⟨l, a0, n0, hl⟩ := last_split _ (hL0.ne (by omega))
                  have hrow := hL0.row
                  rw [hl, List.length_append, List.length_singleton] at hrow
                  obtain ⟨g, cap, rfl⟩ := own_sliceC hrow (by simp)
                  have hstep := hL0.step (n * 256 + (j : Int)) (by omega) (by omega) (l := l) (a0 := a0) (n0 := n0) (by rw [if_pos (by rw [hed]; exact hae), hl]) hrow hL0.below
                  have hle := hL0.le
                  rw [hl] at hle
                  have hn0 := hle.2 (a0, n0) (by simp)
                  have hll : l.length ≤ 1100000 := by have := hle.1; simp at this; omega
                  obtain ⟨N, hN⟩ : ∃ N, l.length = N := ⟨_, rfl⟩
                  have hcell : wd.cell? ⟨g, N * 2 + 1, none⟩ = some (.int .i64 n0) := by
                    have := hrow.cells (g := g) rfl (N * 2 + 1) (.int .i64 n0) (by rw [sflat_append, List.getElem?_append_right (by rw [sflat_len]; omega), sflat_len, ← hN, show l.length * 2 + 1 - l.length * 2 = 1 by omega]; rfl)
                    simpa [Addr.add] using this
                  have hfz : wd.frozen? ⟨g, N * 2 + 1, none⟩ = false := by
                    rcases hrow.2 with ⟨h0, _⟩ | ⟨g', cap', cur, e0, _, hg, _⟩
                    · cases h0
                    · injection e0 with e1 _ _
                      injection e1 with e1
                      injection e1 with e1
                      subst e1
                      simp [World.frozen?, hg]
                  have hn1 : IntKind.i64.wrap (n0 + 1) = n0 + 1 := IntWalk.i64_in _ (by obtain ⟨q1, q2⟩ := hn0; simp only [] at q1 q2; omega)
                  have hN1 : IntKind.i64.wrap ((N : Int)) = (N : Int) := IntWalk.i64_in _ (by omega)
                  rw [hN] at hstep hll ⊢
                  have hbn : (n * 256 + (j : Int) != ed) = false := by simp [hae]
                  have HST : Hid (DfI w5 (posA A B (us.take k) ++ posP A B n (j + 1)) (k * 256 + (j + 1)) (.slice (some ⟨g, 0, none⟩) (N + 1) cap) (.int .i64 (ed + 1)) (wd.setCell ⟨g, N * 2 + 1, none⟩ (.int .i64 (n0 + 1)))) := Lib.hid (by rw [hLn, ← hae]; exact hstep)
                  clear hstep hrow hle hn0 hL0 hL hLn hed hl hN
                  go_wp2_with fail
                  refine region_tail 20 hwd (by kernel_rfl) (by kernel_rfl) ?_
                  simp only [List.take_succ_cons, List.take_zero, List.drop_succ_cons, List.drop_zero]
                  repeat (go_big_quiet_step (fail))
                  refine wpQuiet_nil ?_
                  go_wp2_with fail
                  go_roundw
                  case rel => exact ⟨j + 1, by omega, by go_num, HST⟩
                  case measure => simp [intOf]; omega
                · have hle := hL0.le
                  obtain ⟨v2, w3, run2, ho2, hg2⟩ := app_span hL0.row (n * 256 + (j : Int)) (by omega) hL0.below.size
                  obtain ⟨g, cap, rfl⟩ := own_sliceC ho2 (by omega)
                  have hb3 : Below w5.heap.size w5 w3 := hL0.below.trans ((Upd.of_grown hg2).below hL0.below.size fun k hk => (hL0.row.lt k hk).1)
                  have hstep := hL0.step (n * 256 + (j : Int)) (by omega) (by omega) (l := (spans L).1) (a0 := n * 256 + (j : Int)) (n0 := 0) (by rw [if_neg (by rw [hed]; exact hae)]) ho2 hb3
                  have hll : (spans L).1.length ≤ 1100000 := by omega
                  obtain ⟨N, hN⟩ : ∃ N, (spans L).1.length = N := ⟨_, rfl⟩
                  have hcell : w3.cell? ⟨g, N * 2 + 1, none⟩ = some (.int .i64 0) := by
                    have := ho2.cells (g := g) rfl (N * 2 + 1) (.int .i64 0) (by rw [sflat_append, List.getElem?_append_right (by rw [sflat_len]; omega), sflat_len, ← hN, show (spans L).1.length * 2 + 1 - (spans L).1.length * 2 = 1 by omega]; rfl)
                    simpa [Addr.add] using this
                  have hfz : w3.frozen? ⟨g, N * 2 + 1, none⟩ = false := by
                    rcases ho2.2 with ⟨h0, _⟩ | ⟨g', cap', cur, e0, _, hg, _⟩
                    · cases h0
                    · injection e0 with e1 _ _
                      injection e1 with e1
                      injection e1 with e1
                      subst e1
                      simp [World.frozen?, hg]
                  have hN1 : IntKind.i64.wrap ((N : Int)) = (N : Int) := IntWalk.i64_in _ (by omega)
                  rw [hN] at hstep hll run2
                  have hbn : (n * 256 + (j : Int) != ed) = true := by simp [hae]
                  have HST : Hid (DfI w5 (posA A B (us.take k) ++ posP A B n (j + 1)) (k * 256 + (j + 1)) (.slice (some ⟨g, 0, none⟩) (N + 1) cap) (.int .i64 (n * 256 + (j : Int) + 1)) (w3.setCell ⟨g, N * 2 + 1, none⟩ (.int .i64 1))) := Lib.hid (by rw [hLn]; exact hstep)
                  clear hstep ho2 hg2 hb3 hle hL0 hL hLn hed hN
                  go_wp2_with fail
                  refine region_tail 20 hwd (by kernel_rfl) (by kernel_rfl) ?_
                  simp only [List.take_succ_cons, List.take_zero, List.drop_succ_cons, List.drop_zero]
                  repeat (go_big_quiet_step (fail))
                  refine wpQuiet_nil ?_
                  go_wp2_with (at_builtin; refine Lib.wpList_append_run _ rfl (.tmp 68) (.tmp 72) _ _ rfl _ _ rfl rfl _ _ run2 ?_)
                  go_roundw
                  case rel => exact ⟨j + 1, by omega, by go_num, HST⟩
                  case measure => simp [intOf]; omega
            · obtain rfl : j = 256 := by omega
              have HNEW : Hid (DfI w5 (posA A B (us.take (k + 1))) ((k + 1) * 256) u6 u7 wr2) := Lib.hid (by rw [HPS.out, show (k + 1) * 256 = k * 256 + 256 by omega]; exact hJ.out)
              go_wp2_with fail
              go_roundw
              case rel => exact ⟨k + 1, by omega, by go_num, HNEW⟩
              case measure => simp [intOf]; omega
        · have hk1 : n ∈ B.ks := hmem.resolve_left hk0
          have hnot := hk0
          clear hk0 hmem
          rw [if_neg hnot] at HAT
          rw [if_pos hk1] at HBT
          obtain ⟨q, hq⟩ : ∃ q, T.at_ n = q := ⟨_, rfl⟩
          have hqt : ptrTo T n = .pointer (some ⟨q, 0, none⟩) := by rw [← hq]
          rw [hqt] at HBT
          have hee := run_eql_nil_ptr wr (⟨q, 0, none⟩ : Addr)
          have hnp := fun (V : World) => run_neq_pointer_nil (P := Try.prog) V 95 (some ⟨q, 0, none⟩) (by kernel_rfl)
          have hnq := fun (V : World) => run_neq_pointer_nil (P := Try.prog) V 95 none (by kernel_rfl)
          clear hqt hq hk1
          have HDT : Hid (∀ j, dif A B n j = true) := Lib.hid fun j => by simp [dif, hnot]
          clear hnot hka
          go_wp2_with fail
          refine HAT.out.mono ?_
          rintro e' w6 ⟨rfl, rfl⟩
          go_wp2_with fail
          refine HBT.out.mono ?_
          rintro e' w7 ⟨rfl, rfl⟩
          go_wp2_with fail
          go_loopw [6, 7, 37] (fun o e i wr2 => ∃ j : Nat, j ≤ 256 ∧ i = .int .i64 j ∧ Hid (DfI w5 (posA A B (us.take k) ++ posP A B n j) (k * 256 + j) o e wr2)) (fun o e i _ => 256 - (intOf i).toNat)
          case atStart => exact ⟨0, by omega, rfl, Lib.hid (by simpa [posP] using hI.out)⟩
          case round =>
            obtain ⟨wr2, hwr2⟩ : ∃ wr2, wr2 = wr := ⟨wr, rfl⟩
            obtain ⟨j, hj, rfl, hJ⟩ := hrel
            rw [← hwr2] at hJ ⊢
            clear hwr2
            by_cases hlj : j < 256
            · obtain ⟨wd, hwd⟩ : ∃ wd, wr2.drew = wd := ⟨_, rfl⟩
              have hJd : DfI w5 (posA A B (us.take k) ++ posP A B n j) (k * 256 + j) u6 u7 wd := by rw [← hwd]; exact hJ.out.drew
              have hdif : dif A B n j = true := HDT.out j
              · skip
                have hL0 := hJd
                obtain ⟨L, hL⟩ : ∃ L, posA A B (us.take k) ++ posP A B n j = L := ⟨_, rfl⟩
                have hLn : posA A B (us.take k) ++ posP A B n (j + 1) = L ++ [n * 256 + (j : Int)] := by rw [posP_snoc, hdif, ← List.append_assoc, hL]; rfl
                rw [hL] at hL0
                have hkl : k * 256 + j ≤ 1100000 := by omega
                obtain ⟨ed, hed⟩ : ∃ ed, (spans L).2 = ed := ⟨_, rfl⟩
                have hfin := hL0.fin
                rw [hed] at hfin
                subst hfin
                have hw1 : IntKind.i64.wrap (n * 256) = n * 256 := IntWalk.i64_in _ (by omega)
                have hw2 : IntKind.i64.wrap (n * 256 + (j : Int)) = n * 256 + (j : Int) := IntWalk.i64_in _ (by omega)
                have hw3 : IntKind.i64.wrap (n * 256 + (j : Int) + 1) = n * 256 + (j : Int) + 1 := IntWalk.i64_in _ (by omega)
                have hw4 : IntKind.u32.wrap (n * 256 + (j : Int)) = n * 256 + (j : Int) := by unfold IntKind.wrap; simp [IntKind.signed, IntKind.bits]; omega
                by_cases hae : n * 256 + (j : Int) = ed
                · obtain ⟨l, a0, n0, hl⟩ := last_split _ (hL0.ne (by omega))
                  have hrow := hL0.row
                  rw [hl, List.length_append, List.length_singleton] at hrow
                  obtain ⟨g, cap, rfl⟩ := own_sliceC hrow (by simp)
                  have hstep := hL0.step (n * 256 + (j : Int)) (by omega) (by omega) (l := l) (a0 := a0) (n0 := n0) (by rw [if_pos (by rw [hed]; exact hae), hl]) hrow hL0.below
                  have hle := hL0.le
                  rw [hl] at hle
                  have hn0 := hle.2 (a0, n0) (by simp)
                  have hll : l.length ≤ 1100000 := by have := hle.1; simp at this; omega
                  obtain ⟨N, hN⟩ : ∃ N, l.length = N := ⟨_, rfl⟩
                  have hcell : wd.cell? ⟨g, N * 2 + 1, none⟩ = some (.int .i64 n0) := by
                    have := hrow.cells (g := g) rfl (N * 2 + 1) (.int .i64 n0) (by rw [sflat_append, List.getElem?_append_right (by rw [sflat_len]; omega), sflat_len, ← hN, show l.length * 2 + 1 - l.length * 2 = 1 by omega]; rfl)
                    simpa [Addr.add] using this
                  have hfz : wd.frozen? ⟨g, N * 2 + 1, none⟩ = false := by
                    rcases hrow.2 with ⟨h0, _⟩ | ⟨g', cap', cur, e0, _, hg, _⟩
                    · cases h0
                    · injection e0 with e1 _ _
                      injection e1 with e1
                      injection e1 with e1
                      subst e1
                      simp [World.frozen?, hg]
                  have hn1 : IntKind.i64.wrap (n0 + 1) = n0 + 1 := IntWalk.i64_in _ (by obtain ⟨q1, q2⟩ := hn0; simp only [] at q1 q2; omega)
                  have hN1 : IntKind.i64.wrap ((N : Int)) = (N : Int) := IntWalk.i64_in _ (by omega)
                  rw [hN] at hstep hll ⊢
                  have hbn : (n * 256 + (j : Int) != ed) = false := by simp [hae]
                  have HST : Hid (DfI w5 (posA A B (us.take k) ++ posP A B n (j + 1)) (k * 256 + (j + 1)) (.slice (some ⟨g, 0, none⟩) (N + 1) cap) (.int .i64 (ed + 1)) (wd.setCell ⟨g, N * 2 + 1, none⟩ (.int .i64 (n0 + 1)))) := Lib.hid (by rw [hLn, ← hae]; exact hstep)
                  clear hstep hrow hle hn0 hL0 hL hLn hed hl hN
                  go_wp2_with fail
                  refine region_tail 20 hwd (by kernel_rfl) (by kernel_rfl) ?_
                  simp only [List.take_succ_cons, List.take_zero, List.drop_succ_cons, List.drop_zero]
                  repeat (go_big_quiet_step (fail))
                  refine wpQuiet_nil ?_
                  go_wp2_with fail
                  go_roundw
                  case rel => exact ⟨j + 1, by omega, by go_num, HST⟩
                  case measure => simp [intOf]; omega
                · have hle := hL0.le
                  obtain ⟨v2, w3, run2, ho2, hg2⟩ := app_span hL0.row (n * 256 + (j : Int)) (by omega) hL0.below.size
                  obtain ⟨g, cap, rfl⟩ := own_sliceC ho2 (by omega)
                  have hb3 : Below w5.heap.size w5 w3 := hL0.below.trans ((Upd.of_grown hg2).below hL0.below.size fun k hk => (hL0.row.lt k hk).1)
                  have hstep := hL0.step (n * 256 + (j : Int)) (by omega) (by omega) (l := (spans L).1) (a0 := n * 256 + (j : Int)) (n0 := 0) (by rw [if_neg (by rw [hed]; exact hae)]) ho2 hb3
                  have hll : (spans L).1.length ≤ 1100000 := by omega
                  obtain ⟨N, hN⟩ : ∃ N, (spans L).1.length = N := ⟨_, rfl⟩
                  have hcell : w3.cell? ⟨g, N * 2 + 1, none⟩ = some (.int .i64 0) := by
                    have := ho2.cells (g := g) rfl (N * 2 + 1) (.int .i64 0) (by rw [sflat_append, List.getElem?_append_right (by rw [sflat_len]; omega), sflat_len, ← hN, show (spans L).1.length * 2 + 1 - (spans L).1.length * 2 = 1 by omega]; rfl)
                    simpa [Addr.add] using this
                  have hfz : w3.frozen? ⟨g, N * 2 + 1, none⟩ = false := by
                    rcases ho2.2 with ⟨h0, _⟩ | ⟨g', cap', cur, e0, _, hg, _⟩
                    · cases h0
                    · injection e0 with e1 _ _
                      injection e1 with e1
                      injection e1 with e1
                      subst e1
                      simp [World.frozen?, hg]
                  have hN1 : IntKind.i64.wrap ((N : Int)) = (N : Int) := IntWalk.i64_in _ (by omega)
                  rw [hN] at hstep hll run2
                  have hbn : (n * 256 + (j : Int) != ed) = true := by simp [hae]
                  have HST : Hid (DfI w5 (posA A B (us.take k) ++ posP A B n (j + 1)) (k * 256 + (j + 1)) (.slice (some ⟨g, 0, none⟩) (N + 1) cap) (.int .i64 (n * 256 + (j : Int) + 1)) (w3.setCell ⟨g, N * 2 + 1, none⟩ (.int .i64 1))) := Lib.hid (by rw [hLn]; exact hstep)
                  clear hstep ho2 hg2 hb3 hle hL0 hL hLn hed hN
                  go_wp2_with fail
                  refine region_tail 20 hwd (by kernel_rfl) (by kernel_rfl) ?_
                  simp only [List.take_succ_cons, List.take_zero, List.drop_succ_cons, List.drop_zero]
                  repeat (go_big_quiet_step (fail))
                  refine wpQuiet_nil ?_
                  go_wp2_with (at_builtin; refine Lib.wpList_append_run _ rfl (.tmp 68) (.tmp 72) _ _ rfl _ _ rfl rfl _ _ run2 ?_)
                  go_roundw
                  case rel => exact ⟨j + 1, by omega, by go_num, HST⟩
                  case measure => simp [intOf]; omega
            · obtain rfl : j = 256 := by omega
              have HNEW : Hid (DfI w5 (posA A B (us.take (k + 1))) ((k + 1) * 256) u6 u7 wr2) := Lib.hid (by rw [HPS.out, show (k + 1) * 256 = k * 256 + 256 by omega]; exact hJ.out)
              go_wp2_with fail
              go_roundw
              case rel => exact ⟨k + 1, by omega, by go_num, HNEW⟩
              case measure => simp [intOf]; omega
    · obtain rfl : k = us.length := by omega
      go_wp2_with fail
      go_ret
      rw [List.take_length, ← HUS.out] at hI
      refine ⟨_, rfl, own_base' hI.out.row fun k hk => ?_, HB5.out.trans (hI.out.below.mono HB5.out.size)⟩
      have := (hI.out.row.lt k hk).1
      have := HB5.out.size
      omega
end Go.Proofs.Ytidojcogojchpaa

/- mem: each call in one statement. -/
set_option linter.unusedVariables false
set_option linter.unusedSimpArgs false
namespace Go.Proofs.Ytidojcogojchpaa
open Go.RowKit Go.Shelf

/-- A memory whose maps have been made. -/
structure Mm (W : World) (b : Nat) (S : MS) (A : PM) : Prop where
  mem : MemIs W b S A
  bp : S.bp ≠ none
theorem Mm.maps {W : World} {b : Nat} {S : MS} {A : PM} (h : Mm W b S A) : ∃ kp ko, S.bp = some kp ∧ S.bo = some ko := by
  cases hp : S.bp with
  | none => exact absurd hp h.bp
  | some kp =>
    cases ho : S.bo with
    | none => exact absurd (h.mem.nil.2 ho) h.bp
    | some ko => exact ⟨kp, ko, rfl, rfl⟩
theorem Mm.below {W W' : World} {b : Nat} {S : MS} {A : PM} (h : Mm W b S A) (hb : Below W.heap.size W W') : Mm W' b S A := ⟨h.mem.below hb, h.bp⟩
/-- What a call on a memory has done. -/
structure Did (W : World) (b : Nat) (S : MS) (A : PM) (A' : PM) (W' : World) : Prop where
  ex : ∃ S', Mm W' b S' A' ∧ Went W W' b S A.ks S' A'.ks
theorem Did.of_op {W W' : World} {b : Nat} {S : MS} {A A' : PM} (h : OpE W b S A A' W') (hp : S.bp ≠ none) : Did W b S A A' W' := by
  obtain ⟨S', a1, a2⟩ := h.ex
  exact ⟨S', ⟨a1, by rw [a2.bp]; exact hp⟩, a2⟩
theorem Did.of_below {W W' : World} {b : Nat} {S : MS} {A : PM} (h : Mm W b S A) (hb : Below W.heap.size W W') : Did W b S A A W' := ⟨S, h.below hb, Went.of_below hb _ _ _⟩
theorem New_Mm (w : World) : Calls Try.prog 39 #[] w fun e w' => ∃ b S, e = .returned (.pointer (some ⟨b, 0, none⟩)) ∧ Mm w' b S PM.new ∧ Below w.heap.size w w' ∧ ∀ k, S.reads [] b k → w.heap.size ≤ k := by
  refine (New_any w).mono ?_
  rintro e w' ⟨rfl, h1, h2⟩
  refine ⟨_, _, rfl, ⟨h1, by simp [MS.new]⟩, h2, fun k hk => ?_⟩
  rcases hk with e | e | e | e | ⟨n, hn, e⟩
  · omega
  · cases e
  · cases e; omega
  · cases e; omega
  · cases hn
def mapR (A : PM) (f n r : Int) : Int := if withinB f n = false ∨ r < 0 ∨ 7 < r then 1 else if inL A.ks f n ≠ [] then 5 else if 2000 < (A.ks.length : Int) + n then 2 else 0
def mapA (A : PM) (f n r : Int) : PM := if mapR A f n r = 0 then A.mapN f r n.toNat else A
theorem Map_all (W : World) (b : Nat) (S : MS) (A : PM) (f n r : Int) (h : Mm W b S A) :
    Calls Try.prog 33 #[.pointer (some ⟨b, 0, none⟩), .int .i64 f, .int .i64 n, .int .i64 r] W fun e w' => e = .returned (.int .i64 (mapR A f n r)) ∧ Did W b S A (mapA A f n r) w' := by
  obtain ⟨kp, ko, hp, ho⟩ := h.maps
  unfold mapA mapR
  by_cases h1 : withinB f n = false ∨ r < 0 ∨ 7 < r
  · rw [if_pos h1, if_neg (by decide)]
    exact (Map_arg W b S A f n r h.mem h1).mono fun e w' ⟨a, c⟩ => ⟨a, Did.of_below h c⟩
  · have hw : withinB f n = true := by
      cases hc : withinB f n
      · exact absurd (.inl hc) h1
      · rfl
    have r1 : 0 ≤ r := by rcases Int.lt_or_le r 0 with e | e; exact absurd (.inr (.inl e)) h1; exact e
    have r2 : r ≤ 7 := by rcases Int.lt_or_le 7 r with e | e; exact absurd (.inr (.inr e)) h1; exact e
    rw [if_neg h1]
    by_cases h2 : inL A.ks f n ≠ []
    · rw [if_pos h2, if_neg (by decide)]
      exact (Map_there W b S A f n r h.mem hw r1 r2 h2).mono fun e w' ⟨a, c⟩ => ⟨a, Did.of_below h c⟩
    · rw [if_neg h2]
      have h2' : inL A.ks f n = [] := Classical.byContradiction h2
      by_cases h3 : 2000 < (A.ks.length : Int) + n
      · rw [if_pos h3, if_neg (by decide)]
        exact (Map_many W b S A f n r h.mem hw r1 r2 h2' h3).mono fun e w' ⟨a, c⟩ => ⟨a, Did.of_below h c⟩
      · rw [if_neg h3, if_pos rfl]
        exact (Map_some W b S A f n r h.mem hw r1 r2 h2' (by omega) hp ho).mono fun e w' ⟨a, c⟩ => ⟨a, Did.of_op c h.bp⟩
def unmR (A : PM) (f n : Int) : Int := if withinB f n = false then 1 else if ((inL A.ks f n).length : Int) ≠ n then 5 else 0
def unmA (A : PM) (f n : Int) : PM := if unmR A f n = 0 then A.unmL (inL A.ks f n) else A
theorem Unmap_all (W : World) (b : Nat) (S : MS) (A : PM) (f n : Int) (h : Mm W b S A) :
    Calls Try.prog 34 #[.pointer (some ⟨b, 0, none⟩), .int .i64 f, .int .i64 n] W fun e w' => e = .returned (.int .i64 (unmR A f n)) ∧ Did W b S A (unmA A f n) w' := by
  unfold unmA unmR
  cases hw : withinB f n
  · rw [if_pos rfl, if_neg (by decide)]
    exact (Unmap_arg W b S A f n h.mem hw).mono fun e w' ⟨a, c⟩ => ⟨a, Did.of_below h c⟩
  · rw [if_neg (by decide)]
    by_cases h2 : ((inL A.ks f n).length : Int) ≠ n
    · rw [if_pos h2, if_neg (by decide)]
      exact (Unmap_there W b S A f n h.mem hw h2).mono fun e w' ⟨a, c⟩ => ⟨a, Did.of_below h c⟩
    · rw [if_neg h2, if_pos rfl]
      exact (Unmap_ok W b S A f n h.mem hw (Classical.byContradiction h2)).mono fun e w' ⟨a, c⟩ => ⟨a, Did.of_op c h.bp⟩
def proR (A : PM) (f n r : Int) : Int := if withinB f n = false ∨ r < 0 ∨ 7 < r then 1 else if ((inL A.ks f n).length : Int) ≠ n then 5 else 0
def proA (A : PM) (f n r : Int) : PM := if proR A f n r = 0 then A.protL r (inL A.ks f n) else A
theorem Protect_all (W : World) (b : Nat) (S : MS) (A : PM) (f n r : Int) (h : Mm W b S A) :
    Calls Try.prog 30 #[.pointer (some ⟨b, 0, none⟩), .int .i64 f, .int .i64 n, .int .i64 r] W fun e w' => e = .returned (.int .i64 (proR A f n r)) ∧ Did W b S A (proA A f n r) w' := by
  unfold proA proR
  by_cases h1 : withinB f n = false ∨ r < 0 ∨ 7 < r
  · rw [if_pos h1, if_neg (by decide)]
    exact (Protect_arg W b S A f n r h.mem h1).mono fun e w' ⟨a, c⟩ => ⟨a, Did.of_below h c⟩
  · have hw : withinB f n = true := by
      cases hc : withinB f n
      · exact absurd (.inl hc) h1
      · rfl
    have r1 : 0 ≤ r := by rcases Int.lt_or_le r 0 with e | e; exact absurd (.inr (.inl e)) h1; exact e
    have r2 : r ≤ 7 := by rcases Int.lt_or_le 7 r with e | e; exact absurd (.inr (.inr e)) h1; exact e
    rw [if_neg h1]
    by_cases h2 : ((inL A.ks f n).length : Int) ≠ n
    · rw [if_pos h2, if_neg (by decide)]
      exact (Protect_there W b S A f n r h.mem hw r1 r2 h2).mono fun e w' ⟨a, c⟩ => ⟨a, Did.of_below h c⟩
    · rw [if_neg h2, if_pos rfl]
      exact (Protect_ok W b S A f n r h.mem hw r1 r2 (Classical.byContradiction h2)).mono fun e w' ⟨a, c⟩ => ⟨a, Did.of_op c h.bp⟩
/-- write: its results and what it makes of the memory. -/
noncomputable def firstBad (A : PM) (need at_ n : Int) : Option Int := open Classical in if h : ∃ c, badAt A need at_ n c then some (Classical.choose h) else none
theorem firstBad_some {A : PM} {need at_ n c : Int} (h : badAt A need at_ n c) : firstBad A need at_ n = some c := by
  have he : ∃ c, badAt A need at_ n c := ⟨c, h⟩
  unfold firstBad
  rw [dif_pos he]
  obtain ⟨b1, b2, b3, b4⟩ := Classical.choose_spec he
  obtain ⟨a1, a2, a3, a4⟩ := h
  congr 1
  rcases Int.lt_trichotomy (Classical.choose he) c with e | e | e
  · exact absurd (a4 _ b1 e) b3
  · exact e
  · exact absurd (b4 _ a1 e) a3
theorem firstBad_none {A : PM} {need at_ n : Int} (h : allOk A need at_ n) : firstBad A need at_ n = none := by
  unfold firstBad
  rw [dif_neg]
  rintro ⟨c, a1, a2, a3, _⟩
  exact a3 (h c a1 a2)
theorem firstBad_all {A : PM} {need at_ n : Int} (h : firstBad A need at_ n = none) : allOk A need at_ n := by
  intro i i0 i1
  refine Classical.byContradiction fun hn => ?_
  -- the first such i
  have key : ∀ k : Nat, ∀ j : Int, 0 ≤ j → j < n → j.toNat ≤ k → ¬ okA A need (pcAt at_ j) → ∃ c, badAt A need at_ n c := by
    intro k
    induction k with
    | zero => intro j j0 j1 jk hj; exact ⟨j, j0, j1, hj, fun i a b => by omega⟩
    | succ k ih =>
      intro j j0 j1 jk hj
      by_cases hx : ∀ i, 0 ≤ i → i < j → okA A need (pcAt at_ i)
      · exact ⟨j, j0, j1, hj, hx⟩
      · obtain ⟨i, hi⟩ := Classical.not_forall.1 hx
        obtain ⟨i0, hi⟩ := Classical.not_forall.1 hi
        obtain ⟨i1, hi⟩ := Classical.not_forall.1 hi
        exact ih i i0 (by omega) (by omega) hi
  obtain ⟨c, hc⟩ := key _ i i0 i1 (Nat.le_refl _) hn
  rw [firstBad_some hc] at h
  cases h
/-! ### Read and write in one statement each -/
noncomputable def wrA (A : PM) (need at_ : Int) (n : Nat) : Int := if 65536 < n then at_ else match firstBad A need at_ n with | some c => pcAt at_ c | none => 0
noncomputable def wrB (A : PM) (need at_ : Int) (n : Nat) : Bool := if 65536 < n then false else (firstBad A need at_ n).isNone
noncomputable def wrM (A : PM) (need at_ : Int) (bs : List Int) : PM := if wrB A need at_ bs.length = true then A.poke at_ bs bs.length else A
theorem WriteR.eqs {A A' : PM} {at_ need a : Int} {bs : List Int} {t : Bool} (h : WriteR A at_ bs need A' a t) : a = wrA A need at_ bs.length ∧ t = wrB A need at_ bs.length ∧ A' = wrM A need at_ bs := by
  unfold wrM wrA wrB
  cases h with
  | arg hl => simp [hl]
  | bad c hl hb => simp [show ¬ 65536 < bs.length by omega, firstBad_some hb]
  | ok hl hk => simp [show ¬ 65536 < bs.length by omega, firstBad_none hk]
theorem Did.of_write {W w' : World} {b : Nat} {S : MS} {A : PM} {at_ need : Int} {bs : List Int} {e : Ending} (hw : WriteE W b S A at_ bs need e w') (hp : S.bp ≠ none) :
    e = .returned (.tuple #[.int .u32 (wrA A need at_ bs.length), .bool (wrB A need at_ bs.length)]) ∧ Did W b S A (wrM A need at_ bs) w' := by
  obtain ⟨S', A', a, t, rfl, hm, hg, hr⟩ := hw.ex
  obtain ⟨rfl, rfl, rfl⟩ := hr.eqs
  exact ⟨rfl, S', ⟨hm, by rw [hg.bp]; exact hp⟩, hg⟩
noncomputable def rdA (A : PM) (need at_ n : Int) : Int := if n < 0 ∨ 65536 < n then at_ else match firstBad A need at_ n with | some c => pcAt at_ c | none => 0
noncomputable def rdB (A : PM) (need at_ n : Int) : Bool := if n < 0 ∨ 65536 < n then false else (firstBad A need at_ n).isNone
noncomputable def rdL (A : PM) (need at_ n : Int) : List Int := if rdB A need at_ n = true then bytesN A at_ n.toNat else []
/-- How read ends, without cases. -/
structure ReadU (A : PM) (at_ n need : Int) (W : World) (e : Ending) (w' : World) : Prop where
  below : Below W.heap.size W w'
  res : ∃ v, e = .returned (.tuple #[v, .int .u32 (rdA A need at_ n), .bool (rdB A need at_ n)]) ∧ w'.ownsRow W.heap.size 5 1 v (rdL A need at_ n).length (nums .u8 (rdL A need at_ n))
theorem ReadE.u {A : PM} {at_ n need : Int} {W w' : World} {e : Ending} (h : ReadE A at_ n need W e w') : ReadU A at_ n need W e w' := by
  obtain ⟨v, a, t, rfl, hr⟩ := h.res
  refine ⟨h.below, v, ?_⟩
  unfold rdL rdA rdB
  cases hr with
  | arg hl => rw [if_pos hl, if_pos hl, if_neg (by decide)]; exact ⟨rfl, World.ownsRow_nil _ _ _ _⟩
  | bad c h0 h1 hb =>
    have hn : ¬ (n < 0 ∨ 65536 < n) := by omega
    simp only [if_neg hn, firstBad_some hb]
    exact ⟨rfl, World.ownsRow_nil _ _ _ _⟩
  | ok v h0 h1 hk hrow =>
    have hn : ¬ (n < 0 ∨ 65536 < n) := by omega
    simp only [if_neg hn, firstBad_none hk]
    exact ⟨rfl, by simpa [bytesN_len] using hrow⟩
end Go.Proofs.Ytidojcogojchpaa

/- package slices: Equal at ints. -/
set_option linter.unusedVariables false
set_option linter.unusedSimpArgs false
namespace Go.Proofs.Ytidojcogojchpaa
open Go.RowKit Go.Shelf

theorem eq_of_gi {xs ys : List Int} (hl : xs.length = ys.length) (h : ∀ j, j < xs.length → gi xs j = gi ys j) : xs = ys := list_gi hl h
set_option maxRecDepth 100000 in
set_option maxHeartbeats 2000000 in
theorem Equal_ints (W : World) (A B : Option Addr) (xs ys : List Int) (ca cb : Nat) (h1 : Rd W A xs.length 1 (nums .i64 xs)) (h2 : Rd W B ys.length 1 (nums .i64 ys)) :
    Calls Try.prog 56 #[.slice A xs.length ca, .slice B ys.length cb] W fun e w' => e = .returned (.bool (decide (xs = ys))) ∧ Below W.heap.size W w' := by
  have H1 := Lib.hid h1
  have H2 := Lib.hid h2
  have hle1 := h1.le
  have hle2 := h2.le
  clear h1 h2
  by_cases hl : xs.length = ys.length
  · obtain ⟨m, hm⟩ : ∃ m, xs.length = m := ⟨_, rfl⟩
    have hm2 : ys.length = m := by omega
    have HM := Lib.hid hm
    have HM2 := Lib.hid hm2
    rw [hm] at H1 hle1 ⊢
    rw [hm2] at H2 ⊢
    clear hm hm2 hl hle2
    go_enter Try.func56, Try.ntmps56
    go_wp2_with fail
    go_loopw [13] (fun i wr => ∃ k : Nat, k ≤ m ∧ i = .int .i64 k ∧ Hid (Below W.heap.size W wr ∧ ∀ j, j < k → gi xs j = gi ys j)) (fun i _ => m - (intOf i).toNat)
    case atStart => exact ⟨0, Nat.zero_le _, rfl, Lib.hid ⟨Below.refl _ _, fun j hj => by omega⟩⟩
    case round =>
      obtain ⟨k, hk, rfl, hI⟩ := hrel
      by_cases hlt : k < m
      · obtain ⟨wd, hwd⟩ : ∃ wd, wr.drew = wd := ⟨_, rfl⟩
        have hbd : Below W.heap.size W wd := by rw [← hwd]; exact bdrewN hI.out.1 1
        obtain ⟨ad, e1, hc⟩ := RdI.at (Rd.below H1.out hbd) k hlt
        obtain rfl : A = some ad := e1
        obtain ⟨bd, e2, hd⟩ := RdI.at (Rd.below H2.out hbd) k hlt
        obtain rfl : B = some bd := e2
        obtain ⟨x, hx⟩ : ∃ x, gi xs k = x := ⟨_, rfl⟩
        obtain ⟨y, hy⟩ : ∃ y, gi ys k = y := ⟨_, rfl⟩
        rw [hx] at hc
        rw [hy] at hd
        have f1 := fun q => Just.cell hc q
        have f2 := fun q => Just.cell hd q
        have HBD := Lib.hid hbd
        by_cases hxy : x = y
        · have HNX : Hid (∀ j, j < k + 1 → gi xs j = gi ys j) := Lib.hid fun j hj => by
            by_cases e : j = k
            · rw [e, hx, hy, hxy]
            · exact hI.out.2 j (by omega)
          have hb : (x != y) = false := by simp [hxy]
          clear hx hy hc hd hbd hI hxy
          go_wp2_with fail
          refine region_tail 8 hwd (by kernel_rfl) (by kernel_rfl) ?_
          simp only [List.take_succ_cons, List.take_zero, List.drop_succ_cons, List.drop_zero]
          repeat (go_big_quiet_step (fail))
          refine wpQuiet_nil ?_
          go_wp2_with fail
          go_roundw
          case rel => exact ⟨k + 1, by omega, by go_num, Lib.hid ⟨HBD.out, HNX.out⟩⟩
          case measure => simp [intOf]; omega
        · have hne : ¬ xs = ys := fun e => hxy (by rw [← hx, ← hy, e])
          have hb : (x != y) = true := by simp [hxy]
          have HNE := Lib.hid hne
          clear hx hy hc hd hbd hI hxy hne
          go_wp2_with fail
          refine region_tail 8 hwd (by kernel_rfl) (by kernel_rfl) ?_
          simp only [List.take_succ_cons, List.take_zero, List.drop_succ_cons, List.drop_zero]
          repeat (go_big_quiet_step (fail))
          refine wpQuiet_nil ?_
          go_wp2_with fail
          go_ret
          refine ⟨?_, HBD.out⟩
          have : decide (xs = ys) = false := decide_eq_false HNE.out
          rw [this]; rfl
      · obtain rfl : k = m := by omega
        go_wp2_with fail
        go_ret
        have e : xs = ys := eq_of_gi (by rw [HM.out, HM2.out]) fun j hj => hI.out.2 j (by have := HM.out; omega)
        refine ⟨?_, hI.out.1⟩
        have : decide (xs = ys) = true := decide_eq_true e
        rw [this]; rfl
  · have hb : ((xs.length : Int) != (ys.length : Int)) = true := by simp; omega
    have hne : ¬ xs = ys := fun e => hl (by rw [e])
    have HNE := Lib.hid hne
    clear hne
    go_enter Try.func56, Try.ntmps56
    go_wp2_with fail
    go_ret
    refine ⟨?_, Below.refl _ _⟩
    have : decide (xs = ys) = false := decide_eq_false HNE.out
    rw [this]; rfl
end Go.Proofs.Ytidojcogojchpaa

/- package bytes: Equal. -/
set_option linter.unusedVariables false
set_option linter.unusedSimpArgs false
namespace Go.Proofs.Ytidojcogojchpaa
open Go.RowKit Go.Shelf Go.Proofs

def beqL_ren : Go.Shelf.Ren := ⟨fun | 115 => 27 | n => n, fun | 4 => 4 | 5 => 5 | 9 => 9 | 37 => 42 | n => n, fun n => n⟩
theorem beqL : Lays.nb115 Try.prog beqL_ren := { mixed := by kernel_rfl, f115 := Try.func27.trans (congrArg some (by kernel_rfl)), t4 := Try.underlying4, a4 := Try.isAgg4, z4 := Try.sizeOf4, v4 := Try.zeroValue4, t5 := Try.underlying5, a5 := Try.isAgg5, z5 := Try.sizeOf5, v5 := Try.zeroValue5, t9 := Try.underlying9, a9 := Try.isAgg9, z9 := Try.sizeOf9, v9 := Try.zeroValue9, t37 := Try.underlying42, a37 := Try.isAgg42, z37 := Try.sizeOf42, v37 := Try.zeroValue42 }
theorem bytesOf_inj {xs ys : List Int} (hx : ∀ x ∈ xs, 0 ≤ x ∧ x < 256) (hy : ∀ y ∈ ys, 0 ≤ y ∧ y < 256) (h : Lib.bytesOf xs = Lib.bytesOf ys) : xs = ys := by
  have hl : xs.length = ys.length := by simpa [Lib.bytesOf] using congrArg List.length h
  refine list_gi hl fun j hj => ?_
  have e : (Lib.bytesOf xs)[j]? = (Lib.bytesOf ys)[j]? := by rw [h]
  have hj2 : j < ys.length := by omega
  simp only [Lib.bytesOf, List.getElem?_map, List.getElem?_eq_getElem hj, List.getElem?_eq_getElem hj2, Option.map_some, Option.some.injEq] at e
  rw [gi_get xs j hj, gi_get ys j hj2]
  have a := hx _ (List.getElem_mem hj)
  have b := hy _ (List.getElem_mem hj2)
  have e2 := congrArg UInt8.toNat e
  simp only [UInt8.toNat_ofNat'] at e2
  omega
theorem Equal_bytes (W : World) (A B : Option Addr) (xs ys : List Int) (ca cb : Nat) (h1 : Rd W A xs.length 1 (nums .u8 xs)) (h2 : Rd W B ys.length 1 (nums .u8 ys)) (hx : ∀ x ∈ xs, 0 ≤ x ∧ x < 256) (hy : ∀ y ∈ ys, 0 ≤ y ∧ y < 256) :
    Calls Try.prog 27 #[.slice A xs.length ca, .slice B ys.length cb] W fun e w' => e = .returned (.bool (decide (xs = ys))) ∧ W = w' := by
  have key : ∀ {A : Option Addr} {xs : List Int}, Rd W A xs.length 1 (nums .u8 xs) → (∀ x ∈ xs, 0 ≤ x ∧ x < 256) → Lib.BytesIn W A xs.length xs := fun {A xs} h hx => by
    have hc : ∀ i, i < xs.length → ∃ ad, A = some ad ∧ W.cell? (ad.add i) = some (.int .u8 (xs.getD i 0)) := fun i hi => by
      obtain ⟨ad, e, h1⟩ := h.cell i (by rw [nums_length]; exact hi)
      rw [nums_get] at h1
      exact ⟨ad, e, h1⟩
    by_cases h0 : 0 < xs.length
    · obtain ⟨ad, rfl, _⟩ := hc 0 h0
      exact Lib.BytesIn.of_cells fun i hi => by
        obtain ⟨ad', e, h1⟩ := hc i hi
        cases e
        exact h1
    · exact fun h => absurd h h0
  refine (Any.bytes_Equal_all beqL A B xs.length ca ys.length cb xs ys W rfl rfl (key h1 hx) (key h2 hy)).mono ?_
  rintro e w' ⟨rfl, rfl⟩
  refine ⟨?_, rfl⟩
  by_cases e : xs = ys
  · rw [decide_eq_true e, e]; simp
  · rw [decide_eq_false e]
    have : ¬ Lib.bytesOf xs = Lib.bytesOf ys := fun h => e (bytesOf_inj hx hy h)
    simp [this]
end Go.Proofs.Ytidojcogojchpaa

/- package slices: Equal at spans. (printed once from XMEq) -/
set_option linter.unusedVariables false
set_option linter.unusedSimpArgs false
namespace Go.Proofs.Ytidojcogojchpaa
open Go.RowKit Go.Shelf

def gs (xs : List (Int × Int)) (k : Nat) : Int × Int := xs.getD k (0, 0)
theorem gs_get (xs : List (Int × Int)) (k : Nat) (h : k < xs.length) : gs xs k = xs[k] := by simp [gs, List.getD_eq_getElem?_getD, List.getElem?_eq_getElem h]
theorem eq_of_gs {xs ys : List (Int × Int)} (hl : xs.length = ys.length) (h : ∀ j, j < xs.length → gs xs j = gs ys j) : xs = ys := by
  apply List.ext_getElem hl
  intro i i1 i2
  rw [← gs_get xs i i1, ← gs_get ys i i2]
  exact h i i1
theorem span_ne {xs ys : List (Int × Int)} {k : Nat} {x x' y y' : Int} (hx : gs xs k = (x, x')) (hy : gs ys k = (y, y')) (e : xs = ys) : x = y ∧ x' = y' := by
  rw [e, hy] at hx
  injection hx with a b
  exact ⟨a.symm, b.symm⟩
theorem sflat_get : ∀ (ps : List (Int × Int)) (k j : Nat), k < ps.length → j < 2 → (sflat ps)[k * 2 + j]? = ([.int .u32 (gs ps k).1, .int .i64 (gs ps k).2] : List Value)[j]?
  | [], k, j, h, _ => by simp at h
  | p :: ps, 0, j, _, hj => by
    rw [show sflat (p :: ps) = [.int .u32 p.1, .int .i64 p.2] ++ sflat ps from rfl, List.getElem?_append_left (by simp; omega), Nat.zero_mul, Nat.zero_add]; rfl
  | p :: ps, k + 1, j, h, hj => by
    rw [show sflat (p :: ps) = [.int .u32 p.1, .int .i64 p.2] ++ sflat ps from rfl, List.getElem?_append_right (by simp; omega), show (k + 1) * 2 + j - ([.int .u32 p.1, .int .i64 p.2] : List Value).length = k * 2 + j by simp; omega]
    rw [sflat_get ps k j (by simpa using h) hj]
    rfl
theorem Rd.at2 {W : World} {A : Option Addr} {ps : List (Int × Int)} (h : Rd W A ps.length 2 (sflat ps)) (k : Nat) (hk : k < ps.length) :
    ∃ ad, A = some ad ∧ W.cell? (ad.add (k * 2)) = some (.int .u32 (gs ps k).1) ∧ W.cell? ⟨(ad.add (k * 2)).block, (ad.add (k * 2)).off + 1, none⟩ = some (.int .i64 (gs ps k).2) := by
  have key : ∀ j, j < 2 → ∃ ad, A = some ad ∧ some (W.cell? (ad.add (k * 2 + j))) = some (([.int .u32 (gs ps k).1, .int .i64 (gs ps k).2] : List Value)[j]?) := fun j hj => by
    have hl := sflat_len ps
    have hlt : k * 2 + j < (sflat ps).length := by omega
    obtain ⟨ad, e, hc⟩ := h.cell (k * 2 + j) hlt
    refine ⟨ad, e, ?_⟩
    rw [hc, ← sflat_get ps k j hk hj, List.getElem?_eq_getElem hlt]
  obtain ⟨ad, e, h0⟩ := key 0 (by omega)
  obtain ⟨ad1, e1, h1⟩ := key 1 (by omega)
  rw [e] at e1
  cases e1
  exact ⟨ad, e, by simpa using h0, cell_at (by simpa using h1) (by omega)⟩
theorem neq_span (V : World) (x x' y y' : Int) : (binOp .neq 36 (.agg #[.int .u32 x, .int .i64 x']) (.agg #[.int .u32 y, .int .i64 y'])).run Try.prog V = .ok (.bool (!(x == y && x' == y'))) V := by
  go_simp
  by_cases h1 : x = y
  · by_cases h2 : x' = y' <;> simp [h1, h2]
  · simp [h1]
set_option maxRecDepth 100000 in
set_option maxHeartbeats 2000000 in
theorem Equal_spans (W : World) (A B : Option Addr) (xs ys : List (Int × Int)) (ca cb : Nat) (h1 : Rd W A xs.length 2 (sflat xs)) (h2 : Rd W B ys.length 2 (sflat ys)) :
    Calls Try.prog 16 #[.slice A xs.length ca, .slice B ys.length cb] W fun e w' => e = .returned (.bool (decide (xs = ys))) ∧ Below W.heap.size W w' := by
  have H1 := Lib.hid h1
  have H2 := Lib.hid h2
  have hle1 := h1.le
  have hle2 := h2.le
  clear h1 h2
  by_cases hl : xs.length = ys.length
  · obtain ⟨m, hm⟩ : ∃ m, xs.length = m := ⟨_, rfl⟩
    have hm2 : ys.length = m := by omega
    have HM := Lib.hid hm
    have HM2 := Lib.hid hm2
    rw [hm] at H1 hle1 ⊢
    rw [hm2] at H2 ⊢
    clear hm hm2 hl hle2
    go_enter Try.func16, Try.ntmps16
    go_wp2_with fail
    go_loopw [13] (fun i wr => ∃ k : Nat, k ≤ m ∧ i = .int .i64 k ∧ Hid (Below W.heap.size W wr ∧ ∀ j, j < k → gs xs j = gs ys j)) (fun i _ => m - (intOf i).toNat)
    case atStart => exact ⟨0, Nat.zero_le _, rfl, Lib.hid ⟨Below.refl _ _, fun j hj => by omega⟩⟩
    case round =>
      obtain ⟨k, hk, rfl, hI⟩ := hrel
      by_cases hlt : k < m
      · obtain ⟨wd, hwd⟩ : ∃ wd, wr.drew = wd := ⟨_, rfl⟩
        have hbd : Below W.heap.size W wd := by rw [← hwd]; exact bdrewN hI.out.1 1
        obtain ⟨ad, e1, hc, hc'⟩ := Rd.at2 (HM.out.symm ▸ (Rd.below H1.out hbd)) k (by rw [HM.out]; exact hlt)
        obtain rfl : A = some ad := e1
        obtain ⟨bd, e2, hd, hd'⟩ := Rd.at2 (HM2.out.symm ▸ (Rd.below H2.out hbd)) k (by rw [HM2.out]; exact hlt)
        obtain rfl : B = some bd := e2
        obtain ⟨⟨x, x'⟩, hx⟩ : ∃ x, gs xs k = x := ⟨_, rfl⟩
        obtain ⟨⟨y, y'⟩, hy⟩ : ∃ y, gs ys k = y := ⟨_, rfl⟩
        rw [hx] at hc hc'
        rw [hy] at hd hd'
        have f1 := fun q => Just.cell hc q
        have f2 := fun q => Just.cell hd q
        have f1' := fun q => Just.cell hc' q
        have f2' := fun q => Just.cell hd' q
        have hnq := fun (V : World) => neq_span V x x' y y'
        simp only [] at f1 f1' f2 f2'
        have HBD := Lib.hid hbd
        by_cases hxy : x = y ∧ x' = y'
        · have HNX : Hid (∀ j, j < k + 1 → gs xs j = gs ys j) := Lib.hid fun j hj => by
            by_cases e : j = k
            · rw [e, hx, hy, hxy.1, hxy.2]
            · exact hI.out.2 j (by omega)
          have hb : (!(x == y && x' == y')) = false := by simp [hxy]
          clear hx hy hc hd hc' hd' hbd hI hxy
          go_wp2_with fail
          refine region_tail 8 hwd (by kernel_rfl) (by kernel_rfl) ?_
          simp only [List.take_succ_cons, List.take_zero, List.drop_succ_cons, List.drop_zero]
          repeat (go_big_quiet_step (fail))
          refine wpQuiet_nil ?_
          go_wp2_with fail
          go_roundw
          case rel => exact ⟨k + 1, by omega, by go_num, Lib.hid ⟨HBD.out, HNX.out⟩⟩
          case measure => simp [intOf]; omega
        · have hne : ¬ xs = ys := fun e => hxy (span_ne hx hy e)
          have hb : (!(x == y && x' == y')) = true := by
            simp only [Bool.not_eq_true', Bool.and_eq_false_iff, beq_eq_false_iff_ne]
            exact (Classical.not_and_iff_not_or_not.1 hxy)
          have HNE := Lib.hid hne
          clear hx hy hc hd hc' hd' hbd hI hxy hne
          go_wp2_with fail
          refine region_tail 8 hwd (by kernel_rfl) (by kernel_rfl) ?_
          simp only [List.take_succ_cons, List.take_zero, List.drop_succ_cons, List.drop_zero]
          repeat (go_big_quiet_step (fail))
          refine wpQuiet_nil ?_
          go_wp2_with fail
          go_ret
          refine ⟨?_, HBD.out⟩
          have : decide (xs = ys) = false := decide_eq_false HNE.out
          rw [this]; rfl
      · obtain rfl : k = m := by omega
        go_wp2_with fail
        go_ret
        have e : xs = ys := eq_of_gs (by rw [HM.out, HM2.out]) fun j hj => hI.out.2 j (by have := HM.out; omega)
        refine ⟨?_, hI.out.1⟩
        have : decide (xs = ys) = true := decide_eq_true e
        rw [this]; rfl
  · have hb : ((xs.length : Int) != (ys.length : Int)) = true := by simp; omega
    have hne : ¬ xs = ys := fun e => hl (by rw [e])
    have HNE := Lib.hid hne
    clear hne
    go_enter Try.func16, Try.ntmps16
    go_wp2_with fail
    go_ret
    refine ⟨?_, Below.refl _ _⟩
    have : decide (xs = ys) = false := decide_eq_false HNE.out
    rw [this]; rfl
end Go.Proofs.Ytidojcogojchpaa

/- mem's laws: right. -/
set_option linter.unusedVariables false
set_option linter.unusedSimpArgs false
namespace Go.Proofs.Ytidojcogojchpaa
open Go.RowKit Go.Shelf

theorem wr_ok {A : PM} {need at_ : Int} {n : Nat} (hl : n ≤ 65536) (h : allOk A need at_ n) : wrA A need at_ n = 0 ∧ wrB A need at_ n = true := by
  unfold wrA wrB
  rw [if_neg (by omega), if_neg (by omega), firstBad_none h]
  exact ⟨rfl, rfl⟩
theorem wr_bad {A : PM} {need at_ c : Int} {n : Nat} (hl : n ≤ 65536) (h : badAt A need at_ n c) : wrA A need at_ n = pcAt at_ c ∧ wrB A need at_ n = false := by
  unfold wrA wrB
  rw [if_neg (by omega), if_neg (by omega), firstBad_some h]
  exact ⟨rfl, rfl⟩
set_option maxRecDepth 100000 in
set_option maxHeartbeats 4000000 in
theorem right_any (W : World) (b : Nat) (S : MS) (A : PM) (at_ need : Int) (n : Nat) (h : MemIs W b S A) (ha : 0 ≤ at_ ∧ at_ < 4294967296) (hn : n ≤ 65536) (hnd : 0 ≤ need ∧ need ≤ 7) :
    Calls Try.prog 22 #[.pointer (some ⟨b, 0, none⟩), .int .u32 at_, .int .i64 n, .int .i64 need] W fun e w' => e = .returned (.tuple #[.int .u32 (wrA A need at_ n), .bool (wrB A need at_ n)]) ∧ Below W.heap.size W w' := by
  have H := Lib.hid h
  clear h
  go_enter Try.func22, Try.ntmps22
  go_wp2_with fail
  go_loopw [15] (fun i wr => ∃ k : Nat, k ≤ n ∧ i = .int .i64 k ∧ Hid (Below W.heap.size W wr ∧ ∀ j : Nat, j < k → okA A need (pcAt at_ j))) (fun i _ => n - (intOf i).toNat)
  case atStart => exact ⟨0, Nat.zero_le _, rfl, Lib.hid ⟨Below.refl _ _, fun j hj => by omega⟩⟩
  case round =>
    obtain ⟨k, hk, rfl, hI⟩ := hrel
    by_cases hlt : k < n
    · obtain ⟨x, hx⟩ : ∃ x, pcAt at_ (k : Int) = x := ⟨_, rfl⟩
      have hw0 : IntKind.u32.wrap (k : Int) = (k : Int) := by unfold IntKind.wrap; simp [IntKind.signed, IntKind.bits]; omega
      have hw1 : IntKind.u32.wrap (at_ + (k : Int)) = x := by rw [← hx]; unfold IntKind.wrap pcAt; simp [IntKind.signed, IntKind.bits]
      have hxr := pcAt_range at_ (k : Int)
      rw [hx] at hxr
      obtain ⟨x0, x1⟩ := hxr
      have hm : MemIs wr b S A := H.out.below hI.out.1
      have HRT := Lib.hid (Rights_any wr b S A (x / 256) hm)
      have HBD := Lib.hid hI.out.1
      have HI := hI
      by_cases hka : x / 256 ∈ A.ks
      · rw [if_pos hka, decide_eq_true hka] at HRT
        by_cases hok : bits .and .i64 (A.pg (x / 256)).r need = need
        · have HN : Hid (∀ j : Nat, j < k + 1 → okA A need (pcAt at_ j)) := Lib.hid fun j hj => by
            by_cases e : j = k
            · rw [e, hx]; exact ⟨hka, hok⟩
            · exact hI.out.2 j (by omega)
          have hb : (bits .and .i64 (A.pg (x / 256)).r need != need) = false := by simp [hok]
          clear hx hm hka hok hI HI
          go_wp2_with fail
          refine HRT.out.mono ?_
          rintro e w6 ⟨rfl, rfl⟩
          go_wp2_with fail
          go_roundw
          case rel => exact ⟨k + 1, by omega, by go_num, Lib.hid ⟨HBD.out, HN.out⟩⟩
          case measure => simp [intOf]; omega
        · have HE := Lib.hid (wr_bad hn (c := (k : Int)) ⟨by omega, by omega, by rw [hx]; exact fun h => hok h.2, fun i i0 i1 => by have := hI.out.2 i.toNat (by omega); rwa [show ((i.toNat : Nat) : Int) = i by omega] at this⟩)
          rw [hx] at HE
          have hb : (bits .and .i64 (A.pg (x / 256)).r need != need) = true := by simp [hok]
          clear hx hm hka hok hI HI
          go_wp2_with fail
          refine HRT.out.mono ?_
          rintro e w6 ⟨rfl, rfl⟩
          go_wp2_with fail
          go_ret2
          exact ⟨by rw [HE.out.1, HE.out.2]; rfl, HBD.out⟩
      · rw [if_neg hka, decide_eq_false hka] at HRT
        have HE := Lib.hid (wr_bad hn (c := (k : Int)) ⟨by omega, by omega, by rw [hx]; exact fun h => hka h.1, fun i i0 i1 => by have := hI.out.2 i.toNat (by omega); rwa [show ((i.toNat : Nat) : Int) = i by omega] at this⟩)
        rw [hx] at HE
        clear hx hm hka hI HI
        go_wp2_with fail
        refine HRT.out.mono ?_
        rintro e w6 ⟨rfl, rfl⟩
        go_wp2_with fail
        go_ret2
        exact ⟨by rw [HE.out.1, HE.out.2]; rfl, HBD.out⟩
    · obtain rfl : k = n := by omega
      have HE := Lib.hid (wr_ok hn (A := A) (need := need) (at_ := at_) fun i i0 i1 => by have := hI.out.2 i.toNat (by omega); rwa [show ((i.toNat : Nat) : Int) = i by omega] at this)
      go_wp2_with fail
      go_ret2
      exact ⟨by rw [HE.out.1, HE.out.2]; rfl, hI.out.1⟩
end Go.Proofs.Ytidojcogojchpaa
