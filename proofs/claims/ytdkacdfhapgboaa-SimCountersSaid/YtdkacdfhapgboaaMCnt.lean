/- SimCounters: a counter and the branches that trained it. -/
import Derived.Test.YtdkacdfhapgboaaM11
import Derived.IntWalk
import Derived.Deep.RegionHeld3
import Derived.BigQuiet
import Derived.Deep.QuietTactic
set_option linter.unusedVariables false
set_option linter.unusedSimpArgs false
namespace Go.Proofs.Ytdkacdfhapgboaa
open Go.RowKit

/-- The counters behind k branches: tr counts each one's branches, o is the one that only the always taken branch trains, m its wrong predictions. -/
structure CInv (n o k m : Nat) (cs tr : List Int) : Prop where
  csl : cs.length = n
  trl : tr.length = n
  ctr : ∀ j, j < n → (0 ≤ gi cs j ∧ gi cs j ≤ 3) ∧ gi cs j - 1 ≤ gi tr j ∧ 1 - gi cs j ≤ gi tr j ∧ gi tr j ≤ (k : Int) ∧ 0 ≤ gi tr j
  own : (gi cs o = 1 ∧ m = 0) ∨ (2 ≤ gi cs o ∧ m ≤ 1)
theorem gi_set2 (l : List Int) (a : Nat) (x : Int) (j : Nat) (h : j < l.length) : gi (l.set a x) j = if a = j then x else gi l j := by
  simp only [gi, List.getD_eq_getElem?_getD]
  rw [List.getElem?_set]
  by_cases e : a = j
  · subst e; simp [h]
  · simp [e]
theorem CInv.start (n o : Nat) (ho : o < n) : CInv n o 0 0 (List.replicate n 1) (List.replicate n 0) := by
  have h1 : ∀ j, j < n → gi (List.replicate n (1 : Int)) j = 1 := fun j hj => by simp [gi, hj]
  have h0 : ∀ j, j < n → gi (List.replicate n (0 : Int)) j = 0 := fun j hj => by simp [gi, hj]
  exact ⟨by simp, by simp, fun j hj => by rw [h1 j hj, h0 j hj]; omega, .inl ⟨h1 o ho, rfl⟩⟩
theorem CInv.step {n o k m : Nat} {cs tr : List Int} (H : CInv n o k m cs tr) (ho : o < n) (a : Nat) (ha : a < n) (t : Bool) (m' : Nat)
    (hm : (a = o ∧ t = true ∧ ((2 ≤ gi cs o ∧ m' = m) ∨ (¬ 2 ≤ gi cs o ∧ m' = m + 1))) ∨ (a ≠ o ∧ m' = m)) :
    CInv n o (k + 1) m' (cs.set a (trainC (gi cs a) t)) (tr.set a (gi tr a + 1)) := by
  have hc := H.csl
  have ht := H.trl
  have h1 := trainC_step (gi cs a) t (H.ctr a ha).1
  refine ⟨by simp [hc], by simp [ht], fun j hj => ?_, ?_⟩
  · rw [gi_set2 _ _ _ _ (by omega), gi_set2 _ _ _ _ (by omega)]
    have h2 := H.ctr j hj
    by_cases e : a = j
    · subst e
      simp only [if_true]
      omega
    · simp only [if_neg e]
      omega
  · rw [gi_set2 _ _ _ _ (by omega)]
    have h2 := H.own
    have h3 := (H.ctr o ho).1
    rcases hm with ⟨rfl, rfl, h⟩ | ⟨e, rfl⟩
    · rw [if_pos rfl, trainC_up _ h3]
      split <;> omega
    · rw [if_neg e]
      exact h2

theorem predT {t n : Nat} (ht : t ≤ 8) (hn : 2 ^ t = n) {cs : List Int} (hl : cs.length = n) (h : ∀ j, j < n → 0 ≤ gi cs j ∧ gi cs j ≤ 3) : predOk (t : Int) 0 0 cs 0 [] := by
  refine ⟨by simp [predShapeB]; omega, by rw [hl, ← hn]; simp, ?_, by decide, by simp⟩
  rw [List.any_eq_false]
  intro x hx
  obtain ⟨j, hj, rfl⟩ := List.getElem_of_mem hx
  have := h j (by omega)
  rw [gi_get cs j hj] at this
  simp [badN]
  omega
/-- What the loop of SimCounters carries. -/
structure CtRel (w : World) (b6 gt : Nat) (t : Int) (n o k m : Nat) (wr : World) : Prop where
  ex : ∃ g c R rc cs tr, wr.heap[b6]? = some (.cells #[.int .i64 t, .int .i64 0, .int .i64 0, .slice (some ⟨g, 0, none⟩) n c, .int .u32 0, .slice R 0 rc] 52 (0, 0)) ∧
    wr.heap[gt]? = some (.cells (nums .i64 tr).toArray 3 (0, 0)) ∧ (∀ W2, Upd (fun k => k = b6 ∨ k = gt) wr W2 → RdP W2 (some ⟨g, 0, none⟩) c cs R rc []) ∧ CInv n o k m cs tr
  below : Below w.heap.size w wr

theorem noPanic_mk {Q : Exit → Act → World → Prop} {a : Act} {w : World} (h : Q .normal a w) : NoPanic Q .normal a w := h
theorem usetRow (W : World) (g : Nat) (cs : Array Value) : Upd (fun k => k = g) W (W.setRow g cs) :=
  ⟨rfl, rfl, rfl, by simp, fun k _ hk => setRow_other W g k cs (by omega)⟩
theorem ct_next {w wr W4 V5 : World} {b6 gt a k m n o g c rc : Nat} {R : Option Addr} {t v : Int} {cs tr : List Int} (hb : Below w.heap.size w wr) (hbase : w.heap.size ≤ b6 ∧ b6 < gt) (hgx : wr.heap[gt]? = some (.cells (nums .i64 tr).toArray 3 (0, 0)))
    (hb4 : Below wr.heap.size wr W4) (hu5 : Upd (fun k => k = b6) W4 V5) (hx5 : V5.heap[b6]? = some (.cells #[.int .i64 t, .int .i64 0, .int .i64 0, .slice (some ⟨g, 0, none⟩) n c, .int .u32 0, .slice R 0 rc] 52 (0, 0)))
    (hrd : ∀ W2, Upd (fun k => k < wr.heap.size) W4 W2 → RdP W2 (some ⟨g, 0, none⟩) c cs R rc []) (hinv : CInv n o k m cs (tr.set a v)) : CtRel w b6 gt t n o k m (V5.setCell ⟨gt, a, none⟩ (.int .i64 v)) := by
  have hgl := (Array.getElem?_eq_some_iff.1 hgx).1
  have hg4 := belowBox hb4 hgx
  have hgl4 := (Array.getElem?_eq_some_iff.1 hg4).1
  have hg5 : V5.heap[gt]? = some (.cells (nums .i64 tr).toArray 3 (0, 0)) := (hu5.block _ hgl4 (by omega)).trans hg4
  have hu6 := Upd.setCell V5 ⟨gt, a, none⟩ (.int .i64 v)
  have hbl5 := (Array.getElem?_eq_some_iff.1 hx5).1
  refine ⟨⟨g, c, R, rc, cs, tr.set a v, (hu6.block _ hbl5 fun (h : b6 = gt) => by omega).trans hx5, ?_, fun W2 hu => hrd W2 ?_, hinv⟩, ?_⟩
  · rw [set1_heap hg5]
    congr 2
    simp [nums, List.map_set]
  · refine ((hu5.mono (G := fun k => k < wr.heap.size) fun k (h : k = b6) => by omega).trans hu6 fun k (h : k = gt) => .inl (by omega)).trans hu fun k h => .inl ?_
    rcases h with rfl | rfl <;> omega
  · exact (hb.trans (hb4.mono hb.size)).trans ((hu5.below (by have := hb.size; have := hb4.size; omega) fun k (h : k = b6) => by omega).trans (hu6.below (by have := hb.size; have := hb4.size; have := hu5.size; omega) fun k (h : k = gt) => by omega))

attribute [local irreducible] World.setCell in
set_option maxRecDepth 100000 in
set_option maxHeartbeats 4000000 in
theorem counters_any (table : Int) (ht : 0 ≤ table ∧ table < 256) (A : Option Addr) (xs : List Int) (cap : Nat) (T : Option Addr) (bs : List Bool) (tcap : Nat) (pc : Int) (hpc : 0 ≤ pc ∧ pc < 4294967296) (w : World) (hr : RdI w .u32 A xs.length xs) (hu : ∀ x ∈ xs, 0 ≤ x ∧ x < 4294967296) (hm : xs.length ≤ 9223372036854775807) (hb : RdB w T bs.length bs) (hm2 : bs.length ≤ 9223372036854775807) :
    Calls Try.prog 8 #[.int .u8 table, .slice A xs.length cap, .slice T bs.length tcap, .int .u32 pc] w fun e w' => e = .returned (.bool true) ∧ Below w.heap.size w w' := by
  obtain ⟨t1, t2⟩ := ht
  have HR := Lib.hid hr
  have HU := Lib.hid hu
  have HTK := Lib.hid hb
  have HPC := Lib.hid hpc
  clear hr hu hb hpc
  by_cases hlen : 100 < xs.length ∨ 100 < bs.length
  · have hcases : (100 < xs.length ∧ True) ∨ (¬ 100 < xs.length ∧ 100 < bs.length) := by
      by_cases h : 100 < xs.length
      · exact .inl ⟨h, trivial⟩
      · exact .inr ⟨h, hlen.resolve_left h⟩
    clear hlen
    rcases hcases with ⟨hlen, _⟩ | ⟨hlen, hlen2⟩
    all_goals
      go_enter Try.func8, Try.ntmps8
      go_wp2_with fail
      refine (sane_any _).mono ?_
      rintro e W ⟨rfl, hb⟩
      go_wp2
      go_ret
      exact ⟨rfl, hb⟩
  · have hl1 : ¬ 100 < xs.length := by omega
    have hl2 : ¬ 100 < bs.length := by omega
    clear hlen
    obtain ⟨z, hz⟩ : ∃ z, table % 9 = z := ⟨_, rfl⟩
    have hz1 : table.tmod 9 = z := by rw [Int.tmod_eq_emod_of_nonneg t1, hz]
    have hz2 : 0 ≤ z ∧ z < 9 := by omega
    obtain ⟨t, rfl⟩ : ∃ t : Nat, z = (t : Int) := ⟨z.toNat, by omega⟩
    have ht9 : t ≤ 8 := by omega
    have hwt : IntKind.i64.wrap (t : Int) = (t : Int) := IntWalk.i64_in _ (by omega)
    have hwtab : IntKind.i64.wrap table = table := IntWalk.i64_in _ (by omega)
    have HZ := Lib.hid hz
    clear hz hz2
    go_enter Try.func8, Try.ntmps8
    go_wp2_with fail
    have hpr : predShapeB (t : Int) 0 0 = true := by simp [predShapeB]; omega
    have HPR := Lib.hid hpr
    clear hpr
    refine (NewPred_ok t 0 0 HPR.out _).mono ?_
    rintro e W1 ⟨gp, rfl, ho, hb⟩
    obtain ⟨n, hn⟩ : ∃ n : Nat, 2 ^ t = n := ⟨_, rfl⟩
    rw [hn] at ho ⊢
    have HN := Lib.hid hn
    have hn2 : 1 ≤ n ∧ n ≤ 256 := by
      rw [← hn]
      exact ⟨Nat.one_le_two_pow, by have := Nat.pow_le_pow_right (show 0 < 2 by decide) ht9; simpa using this⟩
    obtain ⟨hn3, hn4⟩ := hn2
    have hpow : IntKind.i64.wrap ((2 : Int) ^ t) = (n : Int) := by
      have e : (2 : Int) ^ t = (n : Int) := by rw [← hn]; simp
      rw [e]
      exact IntWalk.i64_in _ (by omega)
    clear hn
    have hx0 := belowBox hb (heap_alloc_new w (.cells #[.int .i64 (t : Int), .int .i64 0, .int .i64 0] 50))
    have hs0 : w.heap.size < W1.heap.size := by have := hb.size; simp at this; omega
    have hbw : Below w.heap.size w W1 := (balloc w _).trans (hb.mono (by simp))
    obtain ⟨V1, hV1⟩ : ∃ V, W1.alloc (.cells #[.int .i64 (t : Int), .int .i64 0, .int .i64 0, .slice (some ⟨gp, 0, none⟩) n n, .int .u32 0, .slice none 0 0] 52) = V := ⟨_, rfl⟩
    have hbv : Below W1.heap.size W1 V1 := by rw [← hV1]; exact balloc _ _
    have hx1 : V1.heap[W1.heap.size]? = some (.cells #[.int .i64 (t : Int), .int .i64 0, .int .i64 0, .slice (some ⟨gp, 0, none⟩) n n, .int .u32 0, .slice none 0 0] 52 (0, 0)) := by rw [← hV1]; exact heap_alloc_new _ _
    have hs1 : V1.heap.size = W1.heap.size + 1 := by rw [← hV1]; simp
    have y0 := boxAt (i := 0) (belowBox hbv hx0) rfl
    obtain ⟨p0, p1, p2, p3, p4, p5, pd⟩ := box6 hx1
    have HX0 := Lib.hid (belowBox hbv hx0)
    have HX1 := Lib.hid hx1
    have HS := Lib.hid (And.intro hs0 hs1)
    have HBW := Lib.hid (hbw.trans (hbv.mono hbw.size))
    have HO := Lib.hid ho
    have HBV := Lib.hid hbv
    have HV1 := Lib.hid hV1
    clear hx0 hx1 hs0 hs1 hbw hbv ho hb hV1
    go_wp2_with fail
    rw [HV1.out]
    go_quiet (fail)
    obtain ⟨V2, hV2⟩ : ∃ V, V1.drewN nq = V := ⟨_, rfl⟩
    have hb2 : Below V1.heap.size V1 V2 := by rw [← hV2]; exact bdrewN (Below.refl _ V1) nq
    have hs2 : V2.heap.size = V1.heap.size := by rw [← hV2]; rfl
    rw [hV2]
    have z0 := bkeep hb2 p0
    have z1 := bkeep hb2 p1
    have z2 := bkeep hb2 p2
    have z3 := bkeep hb2 p3
    have z4 := bkeep hb2 p4
    have z5 := bkeep hb2 p5
    have HX2 := Lib.hid (belowBox hb2 HX1.out)
    have HB2 := Lib.hid hb2
    have HS2 := Lib.hid hs2
    obtain ⟨i0, hi, hq0, hq1, hq2⟩ := info_parts info_int
    have hmk : ∀ W, (Instr.makeSlice 41 (.int .u32 (n : Int)) (.int .u32 (n : Int))).run Try.prog W = .ok (.slice (some ⟨W.heap.size, 0, none⟩) n n) (W.alloc (.cells (nums .i64 (List.replicate n 0)).toArray 3)) := fun W => by
      have := Go.run_make (P := Try.prog) W 41 3 i0 (.int .i64 0) Try.underlying41 hi hq0 .u32 .u32 n n (by omega) (Int.le_refl _) (by rw [hq2]; omega) (by omega)
      rw [hq1, Int.toNat_natCast, made_ones] at this
      rw [this]
      simp [onesRow, nums]
    have hwn : IntKind.u32.wrap (n : Int) = (n : Int) := IntWalk.u32_in _ (by omega)
    have hwn2 : IntKind.i64.wrap (n : Int) = (n : Int) := IntWalk.i64_in _ (by omega)
    clear hi hq0 hq1 hq2 hV2 y0 p0 p1 p2 p3 p4 p5 pd hb2 hs2
    go_wp2_with fail
    obtain ⟨o, ho⟩ : ∃ o : Nat, pc / 4 % (n : Int) = (o : Int) := ⟨(pc / 4 % (n : Int)).toNat, by have := Int.emod_nonneg (pc / 4) (show (n : Int) ≠ 0 by omega); omega⟩
    have hon : o < n := by have := Int.emod_lt_of_pos (pc / 4) (show (0 : Int) < (n : Int) by omega); omega
    have HOW := Lib.hid ho
    obtain ⟨V3, hV3⟩ : ∃ V, V2.alloc (.cells (nums .i64 (List.replicate n 0)).toArray 3) = V := ⟨_, rfl⟩
    have hb3 : Below V2.heap.size V2 V3 := by rw [← hV3]; exact balloc _ _
    have hx3 : V3.heap[V2.heap.size]? = some (.cells (nums .i64 (List.replicate n 0)).toArray 3 (0, 0)) := by rw [← hV3]; exact heap_alloc_new _ _
    rw [hV3]
    obtain ⟨hq0, hq1⟩ := HS.out
    have hgt : V2.heap.size = W1.heap.size + 1 := by rw [HS2.out, hq1]
    have hbx := belowBox hb3 HX2.out
    have hbw3 : Below w.heap.size w V3 := HBW.out.trans ((HB2.out.mono HBW.out.size).trans (hb3.mono (by have := HBW.out.size; have := HB2.out.size; omega)))
    have hREL : CtRel w W1.heap.size V2.heap.size t n o 0 0 V3 := ⟨⟨gp, n, none, 0, List.replicate n 1, List.replicate n 0, hbx, hx3, fun W2 hu => by
      have h1 := own_upd (own_upd HO.out (Upd.of_below (HBV.out.trans ((HB2.out.mono HBV.out.size).trans (hb3.mono (by have := HBV.out.size; have := HB2.out.size; omega))))) fun k hk e => by have := (HO.out.lt k hk).2; omega) hu fun k hk e => by
        have h2 := (HO.out.lt k hk).2
        omega
      obtain ⟨A', c', e, hrd⟩ := own_rd h1
      cases e
      have hrd' : RdI W2 .i64 (some ⟨gp, 0, none⟩) (List.replicate n (1 : Int)).length (List.replicate n 1) := by
        rw [List.length_replicate]
        show Rd W2 (some ⟨gp, 0, none⟩) n 1 (nums .i64 (List.replicate n 1))
        rw [show nums .i64 (List.replicate n 1) = List.replicate n (.int .i64 1) by simp [nums]]
        exact hrd
      exact ⟨hrd', fun h => (by cases h), by simp, rdI_nil _ _, fun _ => rfl, Nat.le_refl _⟩, CInv.start n o hon⟩, hbw3⟩
    have HREL := Lib.hid hREL
    have HGT := Lib.hid hgt
    clear hgt hb3 hx3 hV3 hbx hbw3 hREL z0 z1 z2 z3 z4 z5 hq0 hq1 hmk ho
    go_loopw [11, 14, 15] (fun e ms i wr => ∃ k m : Nat, k ≤ xs.length ∧ k ≤ bs.length ∧ i = .int .i64 k ∧ e = .int .i64 0 ∧ ms = .int .i64 m ∧ m ≤ 1 ∧ Hid (CtRel w W1.heap.size V2.heap.size t n o k m wr)) (fun e ms i _ => xs.length - (intOf i).toNat)
    case atStart => exact ⟨0, 0, Nat.zero_le _, Nat.zero_le _, rfl, rfl, rfl, by omega, HREL⟩
    case round =>
      obtain ⟨k, m, hk1, hk2, rfl, rfl, rfl, hm1, hI⟩ := hrel
      by_cases hlt : k < xs.length ∧ k < bs.length
      · obtain ⟨hlt1, hlt2⟩ := hlt
        obtain ⟨ad, e0, x0⟩ := (show RdI wr .u32 A xs.length xs from Rd.below HR.out hI.out.below).at k hlt1
        subst e0
        obtain ⟨at', e1, b0⟩ := (show RdB wr T bs.length bs from Rd.below HTK.out hI.out.below).at k hlt2
        subst e1
        obtain ⟨x, hx⟩ : ∃ x, gi xs k = x := ⟨_, rfl⟩
        obtain ⟨tk, htk⟩ : ∃ tk, gb bs k = tk := ⟨_, rfl⟩
        have hxu := HU.out _ (gi_mem xs k hlt1)
        rw [hx] at x0 hxu
        rw [htk] at b0
        obtain ⟨g, c, R, rc, cs, tr, hbx, hgx, hrd, hinv⟩ := hI.out.ex
        obtain ⟨y0, y1, y2, y3, y4, y5, yd⟩ := box6 hbx
        have HX := Lib.hid hbx
        have HG := Lib.hid hgx
        have HRD := Lib.hid hrd
        have HINV := Lib.hid hinv
        have HBI := Lib.hid hI.out.below
        obtain ⟨hxu1, hxu2⟩ := hxu
        obtain ⟨hpc1, hpc2⟩ := HPC.out
        obtain ⟨q, hq⟩ : ∃ q, x / 4 = q := ⟨_, rfl⟩
        have hq0 : 0 ≤ q := by omega
        have hqt : x.tdiv 4 = q := by rw [Int.tdiv_eq_ediv_of_nonneg hxu1, hq]
        have hqw : IntKind.u32.wrap q = q := IntWalk.u32_in _ (by omega)
        obtain ⟨a, ha⟩ : ∃ a : Nat, q % (n : Int) = (a : Int) := ⟨(q % (n : Int)).toNat, by have := Int.emod_nonneg q (show (n : Int) ≠ 0 by omega); omega⟩
        have han : a < n := by have := Int.emod_lt_of_pos q (show (0 : Int) < (n : Int) by omega); omega
        have hqa : q.tmod (n : Int) = (a : Int) := by rw [Int.tmod_eq_emod_of_nonneg hq0, ha]
        have haw : IntKind.u32.wrap (a : Int) = (a : Int) := IntWalk.u32_in _ (by omega)
        obtain ⟨pq, hp⟩ : ∃ q, pc / 4 = q := ⟨_, rfl⟩
        have hp0 : 0 ≤ pq := by omega
        have hpt : pc.tdiv 4 = pq := by rw [Int.tdiv_eq_ediv_of_nonneg hpc1, hp]
        have hpw : IntKind.u32.wrap pq = pq := IntWalk.u32_in _ (by omega)
        have hpa : pq.tmod (n : Int) = (o : Int) := by rw [Int.tmod_eq_emod_of_nonneg hp0, ← hp, HOW.out]
        have how : IntKind.u32.wrap (o : Int) = (o : Int) := IntWalk.u32_in _ (by omega)
        have hn0 : ¬ (n : Int) = 0 := by omega
        have hci := ctrI_zero x n ⟨hxu1, hxu2⟩
        rw [hq, ha] at hci
        have hco := ctrI_zero pc n ⟨hpc1, hpc2⟩
        rw [hp, ← hp, HOW.out] at hco
        have HCI := Lib.hid hci
        have HCO := Lib.hid hco
        have hOK := predT ht9 HN.out hinv.csl fun j hj => (hinv.ctr j hj).1
        have HOK := Lib.hid hOK
        have HCL := Lib.hid hinv.csl
        have HXX := Lib.hid hx
        have HTT := Lib.hid htk
        have hpredict : ∀ W', RdP W' (some ⟨g, 0, none⟩) c cs R rc [] → Calls Try.prog 23 #[.agg #[.int .i64 (t : Int), .int .i64 0, .int .i64 0, .slice (some ⟨g, 0, none⟩) n c, .int .u32 0, .slice R 0 rc], .int .u32 pc] W' fun e w' => e = .returned (.bool (decide (2 ≤ gi cs o))) ∧ Below W'.heap.size W' w' := fun W' h => by
          have := Predict_any (t : Int) 0 0 (some ⟨g, 0, none⟩) c cs 0 R [] rc pc W' h.cnt ⟨by omega, by omega⟩ ⟨hpc1, hpc2⟩
          rw [HCL.out] at this
          refine this.mono fun e w' ⟨he, hb⟩ => ⟨?_, hb⟩
          rw [he]
          simp only [predictB, decide_eq_true hOK, Bool.true_and, HCL.out, hco, Int.toNat_natCast]
        have htrain : ∀ (pcx : Int) (tx : Bool) (j : Nat) W', 0 ≤ pcx ∧ pcx < 4294967296 → ctrI pcx 0 n = (j : Int) → RdP W' (some ⟨g, 0, none⟩) c cs R rc [] → Calls Try.prog 24 #[.agg #[.int .i64 (t : Int), .int .i64 0, .int .i64 0, .slice (some ⟨g, 0, none⟩) n c, .int .u32 0, .slice R 0 rc], .int .u32 pcx, .bool tx] W' fun e w' =>
            ∃ g2 c2 R2 rc2, e = .returned (.tuple #[.agg #[.int .i64 (t : Int), .int .i64 0, .int .i64 0, .slice (some ⟨g2, 0, none⟩) n c2, .int .u32 0, .slice R2 0 rc2], .int .i64 0]) ∧ (∀ W2, Upd (fun k => k < W'.heap.size) w' W2 → RdP W2 (some ⟨g2, 0, none⟩) c2 (cs.set j (trainC (gi cs j) tx)) R2 rc2 []) ∧ Below W'.heap.size W' w' := fun pcx tx j W' hp hj h => by
          have := Train_ok (t : Int) 0 0 (some ⟨g, 0, none⟩) R c rc cs [] 0 pcx tx W' h hOK ⟨by omega, by omega⟩ hp
          rw [HCL.out] at this
          refine this.mono fun e w' ⟨u, he, hpi, hb⟩ => ?_
          rw [show trainCs cs pcx 0 tx = cs.set j (trainC (gi cs j) tx) by simp only [trainCs, HCL.out, hj, Int.toNat_natCast], show trainH 0 0 tx = 0 from trainH_zero tx] at hpi
          obtain ⟨g2, c2, R2, rc2, hu, hrd2⟩ := hpi.rd
          rw [show (cs.set j (trainC (gi cs j) tx)).length = n by rw [List.length_set, HCL.out]] at hu
          exact ⟨g2, c2, R2, rc2, by rw [he, hu]; rfl, hrd2, hb⟩
        have HPRED := Lib.hid hpredict
        have HTRAIN := Lib.hid htrain
        clear hpredict htrain hbx hgx hrd hinv hx htk hq hp ha hci hco hOK hI
        by_cases hao : a = o
        · subst hao
          obtain ⟨c1, hc1⟩ : ∃ c1, gi cs a = c1 := ⟨_, rfl⟩
          have HC1 := Lib.hid hc1
          have hkk : w.heap.size ≤ W1.heap.size ∧ W1.heap.size < V2.heap.size := ⟨by have := HS.out.1; omega, by have := HGT.out; omega⟩
          have HKK := Lib.hid hkk
          clear hkk
          cases hpred : decide (2 ≤ c1)
          all_goals
            have HD := Lib.hid hpred
            clear hpred
            go_wp2_with fail
            refine (HPRED.out wr (HRD.out wr (Upd.refl _ _))).mono ?_
            rintro e W3 ⟨rfl, hb3⟩
            rw [hc1, HD.out]
            clear hc1
            have hbx3 := belowBox hb3 HX.out
            obtain ⟨z0, z1, z2, z3, z4, z5, zd⟩ := box6 hbx3
            have HRD3 := Lib.hid ((HRD.out wr (Upd.refl _ _)).below hb3)
            have HB3 := Lib.hid hb3
            clear hb3 hbx3 y0 y1 y2 y3 y4 y5 yd x0 b0
            go_wp2_with fail
            refine (HTRAIN.out pc true a W3 HPC.out HCO.out HRD3.out).mono ?_
            rintro e W4 ⟨g2, c2, R2, rc2, rfl, hrd4, hb4⟩
            rw [HC1.out] at hrd4
            have hb34 : Below wr.heap.size wr W4 := HB3.out.trans (hb4.mono HB3.out.size)
            have hbx4 := belowBox hb34 HX.out
            obtain ⟨z0, z1, z2, z3, z4, z5, zd⟩ := box6 hbx4
            obtain ⟨V5, hV5⟩ : ∃ V, (((((W4.setCell ⟨W1.heap.size, 0, none⟩ (.int .i64 t)).setCell ⟨W1.heap.size, 1, none⟩ (.int .i64 0)).setCell ⟨W1.heap.size, 2, none⟩ (.int .i64 0)).setCell ⟨W1.heap.size, 3, none⟩ (.slice (some ⟨g2, 0, none⟩) n c2)).setCell ⟨W1.heap.size, 4, none⟩ (.int .u32 0)).setCell ⟨W1.heap.size, 5, none⟩ (.slice R2 0 rc2) = V := ⟨_, rfl⟩
            have hu5 : Upd (fun k => k = W1.heap.size) W4 V5 := by rw [← hV5]; exact uset6 _ _ _ _ _ _ _ _
            have hx5 := set6_heap hbx4 (.int .i64 t) (.int .i64 0) (.int .i64 0) (.slice (some ⟨g2, 0, none⟩) n c2) (.int .u32 0) (.slice R2 0 rc2)
            rw [hV5] at hx5
            have hg4 := belowBox hb34 HG.out
            have hg5 : V5.heap[V2.heap.size]? = some (.cells (nums .i64 tr).toArray 3 (0, 0)) := (hu5.block _ (Array.getElem?_eq_some_iff.1 hg4).1 (by have := HKK.out.2; omega)).trans hg4
            have v3 := boxAt (i := 3) hx5 rfl
            obtain ⟨v, hv⟩ : ∃ v, gi tr a = v := ⟨_, rfl⟩
            have hct := HINV.out.ctr a han
            rw [hv] at hct
            have hvw : IntKind.i64.wrap (v + 1) = v + 1 := IntWalk.i64_in _ (by omega)
            have vt : V5.cell? ⟨V2.heap.size, a, none⟩ = some (.int .i64 v) := boxAt hg5 (by rw [← hv, List.getElem?_toArray, List.getElem?_eq_getElem (by simp [HINV.out.trl]; exact han), nums_get])
            have vf : V5.frozen? ⟨V2.heap.size, a, none⟩ = false := boxFree hg5
            have HFIN := Lib.hid (fun m' (h : CInv n a (k + 1) m' _ _) => ct_next (k := k + 1) (m := m') (n := n) (o := a) (a := a) (v := v + 1) HBI.out ⟨HKK.out.1, HKK.out.2⟩ HG.out hb34 hu5 hx5 (fun W2 hu => hrd4 W2 (hu.mono fun k h => by have := HB3.out.size; omega)) h)
            have HVV := Lib.hid hv
            clear hrd4 hb4 hb34 hbx4 hu5 hx5 hg4 hg5 hct hv
            have hstep := fun m' h => HINV.out.step hon a hon true m' (.inl ⟨rfl, rfl, h⟩)
            have hm3 := HINV.out.own
            rw [HC1.out, HVV.out] at hstep
            rw [HC1.out] at hm3
            have HST := Lib.hid hstep
            have HM3 := Lib.hid hm3
            clear hstep hm3
            go_wp2_with fail
            go_roundw
            case rel =>
              first
                | exact ⟨k + 1, m, by omega, by omega, by go_num, rfl, rfl, hm1, Lib.hid (HFIN.out m (HST.out m (.inl ⟨of_decide_eq_true HD.out, rfl⟩)))⟩
                | exact ⟨k + 1, m + 1, by omega, by omega, by go_num, rfl, by go_num, by have := HM3.out; have := of_decide_eq_false HD.out; omega, Lib.hid (HFIN.out (m + 1) (HST.out (m + 1) (.inr ⟨by have := of_decide_eq_false HD.out; omega, rfl⟩)))⟩
            case measure => simp [intOf]; omega
        · have hao2 : ¬ (a : Int) = (o : Int) := by omega
          go_wp2_with fail
          refine wp_region_noPanic ?_
          have hSd : wr.drew.heap[W1.heap.size]? = some (.cells #[.int .i64 t, .int .i64 0, .int .i64 0, .slice (some ⟨g, 0, none⟩) n c, .int .u32 0, .slice R 0 rc] 52 (0, 0)) ∧ wr.drew.cell? (ad.add k) = some (.int .u32 x) ∧ wr.drew.cell? (at'.add k) = some (.bool tk) := ⟨HX.out, x0, b0⟩
          refine wp_region_till 13 (fun W' => W'.heap[W1.heap.size]? = some (.cells #[.int .i64 t, .int .i64 0, .int .i64 0, .slice (some ⟨g, 0, none⟩) n c, .int .u32 0, .slice R 0 rc] 52 (0, 0)) ∧ W'.cell? (ad.add k) = some (.int .u32 x) ∧ W'.cell? (at'.add k) = some (.bool tk)) (by kernel_rfl) hSd (fun hS => ?_)
          refine wpAnyT_take 0 _ (.agg #[.int .i64 t, .int .i64 0, .int .i64 0, .slice (some ⟨g, 0, none⟩) n c, .int .u32 0, .slice R 0 rc]) (by rfl) (by kernel_rfl) (by kernel_rfl) (by kernel_rfl) (by kernel_rfl) (by kernel_rfl) (fun _ _ _ h => h) (yieldsIf_load_mid (by rfl) 52 (Operand.tmp 10) rfl W1.heap.size 0 rfl [.int .i64 t, .int .i64 0, .int .i64 0, .slice (some ⟨g, 0, none⟩) n c, .int .u32 0, .slice R 0 rc] _ (fun W' h' => range_sub h'.1 0 _ rfl) Try.underlying52 rfl (by kernel_rfl)) hS ?_
          try simp only [Act.put, List.setIfInBounds_toArray, List.set_cons_zero, List.set_cons_succ]
          refine wpAnyT_take 1 _ (.slice (some ad) xs.length cap) (by rfl) (by kernel_rfl) (by kernel_rfl) (by kernel_rfl) (by kernel_rfl) (by kernel_rfl) (fun _ _ _ h => h) (Or.inl ⟨by rfl, fun W' hW' => by kernel_rfl⟩) hS ?_
          try simp only [Act.put, List.setIfInBounds_toArray, List.set_cons_zero, List.set_cons_succ]
          refine wpAnyT_take 2 _ (.int .i64 k) (by rfl) (by kernel_rfl) (by kernel_rfl) (by kernel_rfl) (by kernel_rfl) (by kernel_rfl) (fun _ _ _ h => h) (Or.inl ⟨by rfl, fun W' hW' => by kernel_rfl⟩) hS ?_
          try simp only [Act.put, List.setIfInBounds_toArray, List.set_cons_zero, List.set_cons_succ]
          refine wpAnyT_take 3 _ (.pointer (some (ad.add k))) (by rfl) (by kernel_rfl) (by kernel_rfl) (by kernel_rfl) (by kernel_rfl) (by kernel_rfl) (fun _ _ _ h => h) (Or.inl ⟨by rfl, fun W' hW' => by go_simp⟩) hS ?_
          try simp only [Act.put, List.setIfInBounds_toArray, List.set_cons_zero, List.set_cons_succ]
          refine wpAnyT_take 4 _ (.int .u32 x) (by rfl) (by kernel_rfl) (by kernel_rfl) (by kernel_rfl) (by kernel_rfl) (by kernel_rfl) (fun _ _ _ h => h) (Or.inl ⟨by rfl, fun W' hW' => by go_simp⟩) hS ?_
          try simp only [Act.put, List.setIfInBounds_toArray, List.set_cons_zero, List.set_cons_succ]
          refine wpAnyT_take 5 _ (.slice (some at') bs.length tcap) (by rfl) (by kernel_rfl) (by kernel_rfl) (by kernel_rfl) (by kernel_rfl) (by kernel_rfl) (fun _ _ _ h => h) (Or.inl ⟨by rfl, fun W' hW' => by kernel_rfl⟩) hS ?_
          try simp only [Act.put, List.setIfInBounds_toArray, List.set_cons_zero, List.set_cons_succ]
          refine wpAnyT_take 6 _ (.int .i64 k) (by rfl) (by kernel_rfl) (by kernel_rfl) (by kernel_rfl) (by kernel_rfl) (by kernel_rfl) (fun _ _ _ h => h) (Or.inl ⟨by rfl, fun W' hW' => by kernel_rfl⟩) hS ?_
          try simp only [Act.put, List.setIfInBounds_toArray, List.set_cons_zero, List.set_cons_succ]
          refine wpAnyT_take 7 _ (.pointer (some (at'.add k))) (by rfl) (by kernel_rfl) (by kernel_rfl) (by kernel_rfl) (by kernel_rfl) (by kernel_rfl) (fun _ _ _ h => h) (Or.inl ⟨by rfl, fun W' hW' => by go_simp⟩) hS ?_
          try simp only [Act.put, List.setIfInBounds_toArray, List.set_cons_zero, List.set_cons_succ]
          refine wpAnyT_take 8 _ (.bool tk) (by rfl) (by kernel_rfl) (by kernel_rfl) (by kernel_rfl) (by kernel_rfl) (by kernel_rfl) (fun _ _ _ h => h) (Or.inl ⟨by rfl, fun W' hW' => by go_simp⟩) hS ?_
          try simp only [Act.put, List.setIfInBounds_toArray, List.set_cons_zero, List.set_cons_succ]
          refine wpAnyT_one 9 _ (by kernel_rfl) (by kernel_rfl) (by rfl) (fun K' hK' => ?_)
          rw [if_pos (by rfl)]
          have hxy : 0 ≤ x ∧ x < 4294967296 := ⟨hxu1, hxu2⟩
          have HRDD := Lib.hid (HRD.out wr.drew (Upd.drew _ wr))
          have HXY := Lib.hid hxy
          clear hxy
          go_wp2_with fail
          refine (HTRAIN.out x tk a wr.drew HXY.out HCI.out HRDD.out).mono ?_
          rintro e W4 ⟨g2, c2, R2, rc2, rfl, hrd4, hb4⟩
          have hb34 : Below wr.heap.size wr W4 := (bdrewN (Below.refl _ wr) 1).trans hb4
          have hbx4 := belowBox hb34 HX.out
          have hS4 : W4.heap[W1.heap.size]? = some (.cells #[.int .i64 t, .int .i64 0, .int .i64 0, .slice (some ⟨g, 0, none⟩) n c, .int .u32 0, .slice R 0 rc] 52 (0, 0)) ∧ W4.cell? (ad.add k) = some (.int .u32 x) ∧ W4.cell? (at'.add k) = some (.bool tk) := ⟨hbx4, bkeep hb34 x0, bkeep hb34 b0⟩
          refine hK'.out _ _ hS4 ?_
          clear hK' K' hS
          try simp only [Act.put, List.setIfInBounds_toArray, List.set_cons_zero, List.set_cons_succ]
          refine wpAnyT_take 10 _ (.tuple #[.agg #[.int .i64 t, .int .i64 0, .int .i64 0, .slice (some ⟨g2, 0, none⟩) n c2, .int .u32 0, .slice R2 0 rc2], .int .i64 0]) (by rfl) (by kernel_rfl) (by kernel_rfl) (by kernel_rfl) (by kernel_rfl) (by kernel_rfl) (fun _ _ _ h => h) (Or.inl ⟨by rfl, fun W' hW' => by kernel_rfl⟩) hS4 ?_
          try simp only [Act.put, List.setIfInBounds_toArray, List.set_cons_zero, List.set_cons_succ]
          refine wpAnyT_take 11 _ (.agg #[.int .i64 t, .int .i64 0, .int .i64 0, .slice (some ⟨g2, 0, none⟩) n c2, .int .u32 0, .slice R2 0 rc2]) (by rfl) (by kernel_rfl) (by kernel_rfl) (by kernel_rfl) (by kernel_rfl) (by kernel_rfl) (fun _ _ _ h => h) (Or.inl ⟨by rfl, fun W' hW' => by kernel_rfl⟩) hS4 ?_
          try simp only [Act.put, List.setIfInBounds_toArray, List.set_cons_zero, List.set_cons_succ]
          have hu5 : Upd (fun k => k = W1.heap.size) W4 (W4.setRow W1.heap.size #[.int .i64 t, .int .i64 0, .int .i64 0, .slice (some ⟨g2, 0, none⟩) n c2, .int .u32 0, .slice R2 0 rc2]) := usetRow _ _ _
          have hx5 : (W4.setRow W1.heap.size #[.int .i64 t, .int .i64 0, .int .i64 0, .slice (some ⟨g2, 0, none⟩) n c2, .int .u32 0, .slice R2 0 rc2]).heap[W1.heap.size]? = some (.cells #[.int .i64 t, .int .i64 0, .int .i64 0, .slice (some ⟨g2, 0, none⟩) n c2, .int .u32 0, .slice R2 0 rc2] 52 (0, 0)) := setRow_heap hbx4 _
          obtain ⟨V5, hV5⟩ : ∃ V, W4.setRow W1.heap.size #[.int .i64 t, .int .i64 0, .int .i64 0, .slice (some ⟨g2, 0, none⟩) n c2, .int .u32 0, .slice R2 0 rc2] = V := ⟨_, rfl⟩
          rw [hV5] at hu5 hx5
          have hg4 := belowBox hb34 HG.out
          have hg5 : V5.heap[V2.heap.size]? = some (.cells (nums .i64 tr).toArray 3 (0, 0)) := (hu5.block _ (Array.getElem?_eq_some_iff.1 hg4).1 (by have := HS.out; have := HGT.out; omega)).trans hg4
          have v3 := boxAt (i := 3) hx5 rfl
          obtain ⟨v, hv⟩ : ∃ v, gi tr a = v := ⟨_, rfl⟩
          have hct := HINV.out.ctr a han
          rw [hv] at hct
          have hvw : IntKind.i64.wrap (v + 1) = v + 1 := IntWalk.i64_in _ (by omega)
          have vt : V5.cell? ⟨V2.heap.size, a, none⟩ = some (.int .i64 v) := boxAt hg5 (by rw [← hv, List.getElem?_toArray, List.getElem?_eq_getElem (by simp [HINV.out.trl]; exact han), nums_get])
          have vf : V5.frozen? ⟨V2.heap.size, a, none⟩ = false := boxFree hg5
          have hstep := HINV.out.step hon a han tk m (.inr ⟨hao, rfl⟩)
          rw [hv] at hstep
          have HFIN := Lib.hid (ct_next (k := k + 1) (m := m) (n := n) (o := o) (a := a) (v := v + 1) HBI.out ⟨by have := HS.out.1; omega, by have := HGT.out; omega⟩ HG.out hb34 hu5 hx5 (fun W2 hu => hrd4 W2 hu) hstep)
          have HHS := Lib.hid hS4
          have HHX := Lib.hid hbx4
          have HV5 := Lib.hid hV5
          clear hrd4 hb4 hb34 hu5 hx5 hg4 hg5 hct hv hstep hV5 hbx4 x0 b0 y0 y1 y2 y3 y4 y5 yd
          refine wpAnyT_two 12 _ _ (by kernel_rfl) (by kernel_rfl) (by rfl) (by rfl) (fun K' hK' => ?_) (fun K' hK' => ?_)
          · rw [if_pos (by rfl)]
            refine wp_of_run (v := .int .i64 0) (w' := W4) (by kernel_rfl) ?_
            refine hK'.out _ _ HHS.out ?_
            clear hK' K'
            try simp only [Act.put, List.setIfInBounds_toArray, List.set_cons_zero, List.set_cons_succ]
            refine wpAnyT_till _ (by kernel_rfl) (by rfl) (fun K' hK' => ?_)
            rw [if_pos (by rfl)]
            refine wp_store_row 52 (.tmp 10) (.tmp 102) rfl W1.heap.size #[.int .i64 t, .int .i64 0, .int .i64 0, .slice (some ⟨g2, 0, none⟩) n c2, .int .u32 0, .slice R2 0 rc2] rfl rfl 52 _ HHX.out (by kernel_rfl) rfl (by simp [Value.oneCell']) ?_
            refine hK'.out _ _ ?_
            clear hK' K'
            refine wpAny_take (i := 14) (oi := _) (v := .int .i64 0) (by rfl) (by kernel_rfl) (by kernel_rfl) (by kernel_rfl) (fun _ _ _ h => h) (Or.inl ⟨by rfl, fun W' => by kernel_rfl⟩) ?_
            try simp only [Act.put, List.setIfInBounds_toArray, List.set_cons_zero, List.set_cons_succ]
            refine wpAny_done (by kernel_rfl) (noPanic_mk ?_) _
            rw [HV5.out]
            clear hS4
            go_wp2_with fail
            go_roundw
            case rel => exact ⟨k + 1, m, by omega, by omega, by go_num, rfl, rfl, hm1, Lib.hid HFIN.out⟩
            case measure => simp [intOf]; omega
          · rw [if_pos (by rfl)]
            refine wp_store_row 52 (.tmp 10) (.tmp 102) rfl W1.heap.size #[.int .i64 t, .int .i64 0, .int .i64 0, .slice (some ⟨g2, 0, none⟩) n c2, .int .u32 0, .slice R2 0 rc2] rfl rfl 52 _ HHX.out (by kernel_rfl) rfl (by simp [Value.oneCell']) ?_
            refine hK'.out _ _ ?_
            clear hK' K'
            try simp only [Act.put, List.setIfInBounds_toArray, List.set_cons_zero, List.set_cons_succ]
            refine wpAny_take (i := 12) (oi := _) (v := .int .i64 0) (by rfl) (by kernel_rfl) (by kernel_rfl) (by kernel_rfl) (fun _ _ _ h => h) (Or.inl ⟨by rfl, fun W' => by kernel_rfl⟩) ?_
            try simp only [Act.put, List.setIfInBounds_toArray, List.set_cons_zero, List.set_cons_succ]
            refine wpAny_take (i := 14) (oi := _) (v := .int .i64 0) (by rfl) (by kernel_rfl) (by kernel_rfl) (by kernel_rfl) (fun _ _ _ h => h) (Or.inl ⟨by rfl, fun W' => by kernel_rfl⟩) ?_
            try simp only [Act.put, List.setIfInBounds_toArray, List.set_cons_zero, List.set_cons_succ]
            refine wpAny_done (by kernel_rfl) (noPanic_mk ?_) _
            rw [HV5.out]
            clear hS4
            go_wp2_with fail
            go_roundw
            case rel => exact ⟨k + 1, m, by omega, by omega, by go_num, rfl, rfl, hm1, Lib.hid HFIN.out⟩
            case measure => simp [intOf]; omega
      · have hcs : (¬ k < xs.length ∧ True) ∨ (k < xs.length ∧ ¬ k < bs.length) := by
          by_cases h : k < xs.length
          · exact .inr ⟨h, fun h2 => hlt ⟨h, h2⟩⟩
          · exact .inl ⟨h, trivial⟩
        clear hlt
        obtain ⟨g, c, R, rc, cs, tr, hbx, hgx, hrd, hinv⟩ := hI.out.ex
        obtain ⟨y0, y1, y2, y3, y4, y5, yd⟩ := box6 hbx
        have hrc := hrd wr (Upd.refl _ _)
        have HRC := Lib.hid hrc.cnt
        have HGX := Lib.hid hgx
        have HINV := Lib.hid hinv
        have HBI := Lib.hid hI.out.below
        have hn64 : n ≤ 9223372036854775807 := by omega
        clear hbx hgx hrd hinv hrc hI
        obtain ⟨wo, rfl⟩ : ∃ wo, wo = wr := ⟨wr, rfl⟩
        rcases hcs with ⟨hlt, _⟩ | ⟨hlt1, hlt2⟩
        all_goals
          go_wp2_with fail
          go_loop [123] (fun i => ∃ k2 : Nat, k2 ≤ n ∧ i = .int .i64 k2) (fun i => n - (intOf i).toNat)
          case atStart => exact ⟨0, Nat.zero_le _, rfl⟩
          case round =>
            obtain ⟨k2, hk3, rfl⟩ := hrel
            by_cases hlt3 : k2 < n
            · obtain ⟨ad, e0, x0⟩ := HRC.out.at k2 (by rw [HINV.out.csl]; exact hlt3)
              cases e0
              obtain ⟨u, hu⟩ : ∃ u, gi cs k2 = u := ⟨_, rfl⟩
              obtain ⟨z, hz⟩ : ∃ z, gi tr k2 = z := ⟨_, rfl⟩
              have hct := HINV.out.ctr k2 hlt3
              rw [hu, hz] at hct
              rw [hu, add_off] at x0
              have vt : wo.cell? ⟨V2.heap.size, k2, none⟩ = some (.int .i64 z) := boxAt HGX.out (by rw [← hz, List.getElem?_toArray, List.getElem?_eq_getElem (by simp [HINV.out.trl]; exact hlt3), nums_get])
              obtain ⟨⟨q1, q2⟩, q3, q4, q5, q6⟩ := hct
              obtain ⟨d, hd⟩ : ∃ d, u - 1 = d := ⟨_, rfl⟩
              have hw1 : IntKind.i64.wrap (u - 1) = d := by rw [hd]; exact IntWalk.i64_in _ (by omega)
              have hw2 : IntKind.i64.wrap (-d) = -d := IntWalk.i64_in _ (by omega)
              have hmx : max d (-d) ≤ z := by omega
              have hq1 : ¬ u < 0 := by omega
              have hq2 : ¬ 3 < u := by omega
              clear hu hz hd
              go_wp2_with fail
              all_goals
                go_round
                case rel => exact ⟨k2 + 1, by omega, by go_num⟩
                case measure => simp [intOf]; omega
            · go_wp2_with fail
              refine (sane_any wo).mono ?_
              rintro e W9 ⟨rfl, hb9⟩
              have hm2' : (m : Int) ≤ 2 := by omega
              go_wp2_with fail
              go_ret
              exact ⟨rfl, HBI.out.trans (hb9.mono HBI.out.size)⟩
end Go.Proofs.Ytdkacdfhapgboaa
