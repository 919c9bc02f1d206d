/- Part 11 of the texts that the proof stands on: Args, Same, MapI. -/
import Derived.Test.YtdkacdfhapgboaaGreatM10
import Derived.OpenShut
import Derived.BigQuiet
import Derived.Deep.QuietTactic

/- Arguments as they come in: slices of numbers, numbers. -/
set_option linter.unusedVariables false
namespace Go.Proofs.YtdkacdfhapgboaaGreat
open Go.RowKit

theorem wf_u32 {n : Int} (h : (Lit.int .u32 n).wf = true) : 0 ≤ n ∧ n < 4294967296 := by
  have := bounds_u32 h
  omega
theorem wf_u8 {n : Int} (h : (Lit.int .u8 n).wf = true) : 0 ≤ n ∧ n < 256 := by
  have := bounds_u8 h
  omega
theorem wf_u16 {n : Int} (h : (Lit.int .u16 n).wf = true) : 0 ≤ n ∧ n < 65536 := by
  have := bounds_u16 h
  omega
/-- A slice of numbers that came in. -/
theorem row_rd {k : IntKind} {w : World} {a : Option Addr} {len cap : Nat} {zs : List Int}
    (h : (a = none ∧ len = 0 ∧ cap = 0 ∧ zs = []) ∨ ∃ x, a = some x ∧ len ≤ cap ∧ cap ≤ maxLen ∧ zs.length = cap ∧ (∀ i, i < zs.length → w.cell? (x.add i) = some (.int k (zs.getD i 0))) ∧ ∀ n ∈ zs, (Lit.int k n).wf = true) :
    ∃ xs : List Int, xs.length = len ∧ RdI w k a len xs ∧ (a = none → cap = 0) ∧ len ≤ cap ∧ len ≤ 9223372036854775807 ∧ ∀ n ∈ xs, (Lit.int k n).wf = true := by
  rcases h with ⟨rfl, rfl, rfl, rfl⟩ | ⟨x, rfl, h1, h2, h3, h4, h5⟩
  · exact ⟨[], rfl, ⟨by simp, by omega, fun j hj => absurd hj (by simp)⟩, fun _ => rfl, Nat.le_refl _, by omega, fun n hn => absurd hn (by simp)⟩
  · have hl : len ≤ 9223372036854775807 := by unfold maxLen at h2; omega
    refine ⟨zs.take len, by simp; omega, ⟨by simp; omega, hl, fun j hj => ⟨x, rfl, ?_⟩⟩, fun h => (by cases h), h1, hl, fun n hn => h5 n (List.mem_of_mem_take hn)⟩
    have hj' : j < len := by simp at hj; omega
    rw [h4 j (by omega)]
    simp [nums, List.getD_eq_getElem?_getD, List.getElem?_eq_getElem (show j < zs.length by omega)]
end Go.Proofs.YtdkacdfhapgboaaGreat

/- Equal lists, equal caches: the specification's own comparisons. -/
set_option linter.unusedVariables false
set_option linter.unusedSimpArgs false
namespace Go.Proofs.YtdkacdfhapgboaaGreat
open Go.RowKit

set_option maxHeartbeats 1000000 in
theorem sameWords_true (A A' : Option Addr) (n c c' : Nat) (xs : List Int) (w : World) (h : RdI w .u32 A n xs) (h' : RdI w .u32 A' n xs) :
    Calls Tryz.prog 18 #[.slice A n c, .slice A' n c'] w fun e w' => e = .returned (.bool true) ∧ Below w.heap.size w w' := by
  have hle := h.le
  have H := Lib.hid h
  have H' := Lib.hid h'
  clear h h'
  go_enter Tryz.func18, Tryz.ntmps18
  go_wp2_with fail
  go_loopw [5] (fun i wr => ∃ k : Nat, k ≤ n ∧ i = .int .i64 k ∧ Hid (Below w.heap.size w wr)) (fun i _ => n - (intOf i).toNat)
  case atStart => exact ⟨0, Nat.zero_le _, rfl, Lib.hid (Below.refl _ _)⟩
  case round =>
    obtain ⟨k, hk, rfl, hI⟩ := hrel
    by_cases hlt : k < n
    · obtain ⟨ad, rfl, hc⟩ := RdI.at (show RdI wr .u32 A n xs from Rd.below H.out hI.out) k hlt
      obtain ⟨ad', rfl, hc'⟩ := RdI.at (show RdI wr .u32 A' n xs from Rd.below H'.out hI.out) k hlt
      obtain ⟨x, hx⟩ : ∃ x, gi xs k = x := ⟨_, rfl⟩
      rw [hx] at hc hc'
      clear hx
      go_wp2_with fail
      go_quiet (fail)
      go_wp2_with fail
      go_roundw
      case rel => exact ⟨k + 1, by omega, by go_num, Lib.hid (bdrewN hI.out _)⟩
      case measure => simp [intOf]; omega
    · go_wp2_with fail
      go_ret
      exact ⟨rfl, hI.out⟩

attribute [local irreducible] World.setCell in
set_option maxRecDepth 100000 in
set_option maxHeartbeats 1000000 in
theorem sameCache_true (line ways : Int) (n g c g' c' : Nat) (vs vs' : List Value) (L : List (List Int)) (w : World) (h : RdSets w (some ⟨g, 0, none⟩) vs L) (h' : RdSets w (some ⟨g', 0, none⟩) vs' L) (hn : L.length = n) :
    Calls Tryz.prog 12 #[.agg #[.int .i64 line, .int .i64 (n : Int), .int .i64 ways, .slice (some ⟨g, 0, none⟩) n c], .agg #[.int .i64 line, .int .i64 (n : Int), .int .i64 ways, .slice (some ⟨g', 0, none⟩) n c']] w fun e w' => e = .returned (.bool true) ∧ Below w.heap.size w w' := by
  have H := Lib.hid h
  have H' := Lib.hid h'
  have HN := Lib.hid hn
  have hle := h.row.le
  rw [hn] at hle
  clear h h' hn
  go_enter Tryz.func12, Tryz.ntmps12
  go_wp2_with fail
  obtain ⟨V0, hV0⟩ : ∃ V, ((w.alloc (.cells #[.int .i64 line, .int .i64 (n : Int), .int .i64 ways, .slice (some ⟨g, 0, none⟩) n c] 26)).alloc (.cells #[.int .i64 line, .int .i64 (n : Int), .int .i64 ways, .slice (some ⟨g', 0, none⟩) n c'] 26)) = V := ⟨_, rfl⟩
  have hb0 : Below w.heap.size w V0 := by rw [← hV0]; exact ((Below.refl _ _).alloc (Nat.le_refl _) _).alloc (by simp) _
  have hx0 : V0.heap[w.heap.size]? = some (.cells #[.int .i64 line, .int .i64 (n : Int), .int .i64 ways, .slice (some ⟨g, 0, none⟩) n c] 26 (0, 0)) := by rw [← hV0]; exact (heap_alloc_old _ _ (by simp)).trans (heap_alloc_new w _)
  have hx1 : V0.heap[w.heap.size + 1]? = some (.cells #[.int .i64 line, .int .i64 (n : Int), .int .i64 ways, .slice (some ⟨g', 0, none⟩) n c'] 26 (0, 0)) := by rw [← hV0]; exact alloc_at _ _ _ (by simp)
  rw [hV0]
  have HX0 := Lib.hid hx0
  have HX1 := Lib.hid hx1
  have HB0 := Lib.hid hb0
  clear hV0 hx0 hx1 hb0
  go_loopw [5] (fun i wr => ∃ k : Nat, k ≤ n ∧ i = .int .i64 k ∧ Hid (Below V0.heap.size V0 wr)) (fun i _ => n - (intOf i).toNat)
  case atStart => exact ⟨0, Nat.zero_le _, rfl, Lib.hid (Below.refl _ _)⟩
  case round =>
    obtain ⟨k, hk, rfl, hI⟩ := hrel
    have s1 := boxAt (i := 3) (belowBox hI.out HX0.out) rfl
    have s2 := boxAt (i := 3) (belowBox hI.out HX1.out) rfl
    by_cases hlt : k < n
    · obtain ⟨A6, c6, e6, hn6, hc6, hr6⟩ := (H.out.each k (by rw [HN.out]; exact hlt)).rd
      obtain ⟨A7, c7, e7, hn7, hc7, hr7⟩ := (H'.out.each k (by rw [HN.out]; exact hlt)).rd
      have hvl4 : k < vs.length := by have := H.out.row.len; rw [HN.out] at this; omega
      have hvl5 : k < vs'.length := by have := H'.out.row.len; rw [HN.out] at this; omega
      have hbw : Below w.heap.size w wr := HB0.out.trans (hI.out.mono HB0.out.size)
      have s3 : wr.cell? ⟨g, k, none⟩ = some (.slice A6 (gl L k).length c6) := by
        obtain ⟨ad, e, h⟩ := H.out.row.cell k hvl4
        cases e
        rw [add_off, ← gv_get vs k hvl4, e6] at h
        exact bkeep hbw h
      have s4 : wr.cell? ⟨g', k, none⟩ = some (.slice A7 (gl L k).length c7) := by
        obtain ⟨ad, e, h⟩ := H'.out.row.cell k hvl5
        cases e
        rw [add_off, ← gv_get vs' k hvl5, e7] at h
        exact bkeep hbw h
      have heqq : ∀ q' : After wr.heap.size wr, Calls Tryz.prog 18 #[.slice A6 (gl L k).length c6, .slice A7 (gl L k).length c7] q'.W fun e w' => e = .returned (.bool true) ∧ Below q'.W.heap.size q'.W w' := fun q' =>
        sameWords_true A6 A7 _ c6 c7 (gl L k) q'.W (Rd.below hr6 (hbw.trans (q'.below.mono hbw.size))) (Rd.below hr7 (hbw.trans (q'.below.mono hbw.size)))
      obtain ⟨p, hp⟩ : ∃ p, (gl L k).length = p := ⟨_, rfl⟩
      rw [hp] at s3 s4 heqq
      have HEQQ := Lib.hid heqq
      clear e6 e7 hn6 hn7 hc6 hc7 hr6 hr7 hvl4 hvl5 hbw heqq hp
      go_wp2_with fail
      have f1 := After.cell s1
      have f2 := After.cell s2
      have f3 := After.cell s3
      have f4 := After.cell s4
      refine region_after (Below.refl wr.heap.size wr) (by kernel_rfl) (by kernel_rfl) ?_
      repeat (go_big_quiet_step (first
        | (go_at_call 18; exact calls_after (Nat.le_refl _) (HEQQ.out _))))
      refine wpQuiet_nil ?_
      intro _ hw'
      obtain ⟨nq, hw''⟩ := hw'
      subst hw''
      clear f1 f2 f3 f4
      go_wp2_with fail
      go_roundw
      case rel => exact ⟨k + 1, by omega, by go_num, Lib.hid (hI.out.trans (nq.below.mono hI.out.size))⟩
      case measure => simp [intOf]; omega
    · go_wp2_with fail
      go_ret
      exact ⟨rfl, HB0.out.trans (hI.out.mono HB0.out.size)⟩
end Go.Proofs.YtdkacdfhapgboaaGreat

/- Maps from int, as the list of their entries: length, look-up, store. -/
set_option linter.unusedVariables false
set_option linter.unusedSimpArgs false
namespace Go.Proofs.YtdkacdfhapgboaaGreat
open Go.RowKit

/-- Where an entry is, and what it holds. -/
def lookP : List (Int × Value) → Int → Nat → Option (Nat × Value)
  | [], _, _ => none
  | p :: ps, x, i => if x = p.1 then some (i, p.2) else lookP ps x (i + 1)
def entsOf (ps : List (Int × Value)) : List (Value × Value) := ps.map fun p => (Value.int .i64 p.1, p.2)
/-- Block b is a map from int that holds just these entries. -/
def MapIs (W : World) (b : Nat) (ps : List (Int × Value)) : Prop := ∃ es clock, W.heap[b]? = some (.map es clock) ∧ es.toList.map (fun e => (e.key, e.val)) = entsOf ps
theorem findNow_lookP : ∀ (ps : List (Int × Value)) (es : List MapEntry) (x : Int) (i : Nat), es.map (fun e => (e.key, e.val)) = entsOf ps → Instr.findNow (.int .i64) (.int .i64 x) es i = some (lookP ps x i)
  | [], es, x, i, h => by
    have : es = [] := by simpa [entsOf] using h
    subst this
    rfl
  | p :: ps, [], x, i, h => by simp [entsOf] at h
  | p :: ps, e :: es, x, i, h => by
    simp only [List.map_cons, entsOf, List.cons.injEq, Prod.mk.injEq] at h
    obtain ⟨⟨h1, h2⟩, h3⟩ := h
    have ih := findNow_lookP ps es x (i + 1) h3
    unfold Instr.findNow lookP
    rw [h1, h2]
    by_cases hx : x = p.1
    · simp [Instr.sameNow, hx]
    · have hb : (x == p.1) = false := by simpa using hx
      simp [Instr.sameNow, hx, hb, ih]
theorem lookP_spec : ∀ (ps : List (Int × Value)) (x : Int) (i : Nat), (lookP ps x i = none ∧ ∀ p ∈ ps, p.1 ≠ x) ∨ ∃ (j : Nat) (h : j < ps.length), lookP ps x i = some (i + j, ps[j].2) ∧ ps[j].1 = x
  | [], x, i => .inl ⟨rfl, by simp⟩
  | p :: ps, x, i => by
    unfold lookP
    by_cases hx : x = p.1
    · rw [if_pos hx]; exact .inr ⟨0, by simp, by simp, by simp [hx]⟩
    · rw [if_neg hx]
      rcases lookP_spec ps x (i + 1) with ⟨h1, h2⟩ | ⟨j, hj, h1, h2⟩
      · refine .inl ⟨h1, fun q hq => ?_⟩
        rcases List.mem_cons.1 hq with rfl | hq
        · exact fun e => hx e.symm
        · exact h2 q hq
      · exact .inr ⟨j + 1, by simp; omega, by rw [h1]; simp; omega, by simpa using h2⟩
/-- The entries behind a store. -/
def putP (ps : List (Int × Value)) (x : Int) (v : Value) : List (Int × Value) := match lookP ps x 0 with
  | some (j, _) => ps.set j (x, v)
  | none => ps ++ [(x, v)]
def valP (ps : List (Int × Value)) (x : Int) (z : Value) : Value := ((lookP ps x 0).map (·.2)).getD z

section
variable {P : Program} {W : World} {t kt et : TypeId} {b : Nat} {ps : List (Int × Value)}
theorem MapIs.lt (h : MapIs W b ps) : b < W.heap.size := by obtain ⟨es, c, h1, _⟩ := h; exact (Array.getElem?_eq_some_iff.1 h1).1
theorem MapIs.upd {F : Nat → Prop} {W' : World} (h : MapIs W b ps) (hu : Upd F W W') (hF : ¬ F b) : MapIs W' b ps := by
  have hl := h.lt
  obtain ⟨es, c, h1, h2⟩ := h
  exact ⟨es, c, (hu.block b hl hF).trans h1, h2⟩
theorem MapIs.below {W' : World} (h : MapIs W b ps) (hb : Below W.heap.size W W') : MapIs W' b ps := h.upd (Upd.of_below hb) (by have := h.lt; omega)
theorem MapIs.made (W : World) : MapIs (W.alloc (.map #[] 0)) W.heap.size [] := ⟨#[], 0, heap_alloc_new W _, rfl⟩
theorem MapIs.run_len {ty : TypeId} (h : MapIs W b ps) (hu : P.underlying t = some (.map kt et)) : (Builtin.len_ #[t] ty #[.map (some b)]).run P W = .ok (.int .i64 (ps.length : Int)) W := by
  obtain ⟨es, c, h1, h2⟩ := h
  have hl : es.size = ps.length := by have := congrArg List.length h2; simpa [entsOf] using this
  simp [Builtin.len_, run_underlying hu, MapKept.run_getObj_map h1, hl, goInt]
theorem MapIs.run_look (h : MapIs W b ps) (hu : P.underlying t = some (.map kt et)) (hk : P.underlying kt = some (.int .i64)) {z : Value} (hz : ∀ W, (zeroValue et).run P W = .ok z W) (x : Int) :
    (Instr.lookup t (.map (some b)) (.int .i64 x) false).run P W = .ok (valP ps x z) W := by
  obtain ⟨es, c, h1, h2⟩ := h
  have hf := findNow_lookP ps es.toList x 0 h2
  unfold valP
  rcases ho : lookP ps x 0 with _ | ⟨i, v⟩
  · rw [ho] at hf
    simp [Instr.lookup, run_underlying hu, MapKept.run_getObj_map h1, MapKept.run_checkKey hk (show MapKept.IsKey (.int .i64) (.int .i64 x) from rfl), MapKept.run_findKey hk hf, hz]
  · rw [ho] at hf
    simp [Instr.lookup, run_underlying hu, MapKept.run_getObj_map h1, MapKept.run_checkKey hk (show MapKept.IsKey (.int .i64) (.int .i64 x) from rfl), MapKept.run_findKey hk hf]
theorem MapIs.run_put (h : MapIs W b ps) (hu : P.underlying t = some (.map kt et)) (hk : P.underlying kt = some (.int .i64)) (x : Int) (v : Value) :
    ∃ o, (Instr.mapUpdate t (.map (some b)) (.int .i64 x) v).run P W = .ok () (W.putObj b o) ∧ MapIs (W.putObj b o) b (putP ps x v) ∧ Upd (fun k => k = b) W (W.putObj b o) := by
  obtain ⟨es, c, h1, h2⟩ := h
  have hf := findNow_lookP ps es.toList x 0 h2
  unfold putP
  rcases lookP_spec ps x 0 with ⟨ho, hn⟩ | ⟨j, hj, ho, hx⟩
  · rw [ho] at hf
    refine ⟨.map (es.push ⟨.int .i64 x, v, c⟩) (c + 1), run_mapNew hu hk h1 x v hf, ⟨_, _, putObj_get h1, ?_⟩, putObj_upd _ _ _⟩
    rw [ho]
    simp only [Array.toList_push, List.map_append, h2]
    simp [entsOf]
  · rw [ho] at hf
    have hel : es.toList.length = ps.length := by have := congrArg List.length h2; simpa [entsOf] using this
    have hje : j < es.size := by rw [← Array.length_toList]; omega
    have hkey : es[j].key = .int .i64 x := by
      have e := congrArg (fun l => l[j]?) h2
      simp only [entsOf, List.getElem?_map] at e
      rw [List.getElem?_eq_getElem hj, List.getElem?_eq_getElem (by omega : j < es.toList.length)] at e
      simp only [Option.map_some, Option.some.injEq, Prod.mk.injEq] at e
      rw [hx] at e
      simpa using e.1
    refine ⟨.map (es.modify j fun e => { e with key := .int .i64 x, val := v }) c, ?_, ⟨_, _, putObj_get h1, ?_⟩, putObj_upd _ _ _⟩
    · have hjj : es[j]? = some es[j] := Array.getElem?_eq_getElem hje
      simp only [Nat.zero_add] at hf
      simp [Instr.mapUpdate, run_underlying hu, MapKept.run_getObj_map h1, MapKept.run_checkKey hk (show MapKept.IsKey (.int .i64) (.int .i64 x) from rfl), MapKept.run_findKey hk hf, hjj, hkey, MapKept.run_keyThatStays (d := .int .i64) (show MapKept.IsKey (.int .i64) (.int .i64 x) from rfl), MapKept.run_setObj_map _ h1, World.putObj]
    · rw [ho]
      simp only [Nat.zero_add]
      refine List.ext_getElem? fun i => ?_
      have e := congrArg (fun l => l[i]?) h2
      simp only [entsOf, List.getElem?_map, Array.getElem?_toList] at e
      simp only [entsOf, List.getElem?_map, Array.getElem?_toList, Array.getElem?_modify, List.getElem?_set]
      by_cases hij : j = i
      · subst hij
        simp [hje, hj, Array.getElem?_eq_getElem hje]
      · simp [hij, e]
end
/-- A set of numbers. -/
def setP (ks : List Int) : List (Int × Value) := ks.map fun x => (x, Value.bool true)
@[simp] theorem setP_length (ks : List Int) : (setP ks).length = ks.length := by simp [setP]
theorem lookP_setP (x : Int) : ∀ (ks : List Int) (i : Nat), (x ∉ ks ∧ lookP (setP ks) x i = none) ∨ (x ∈ ks ∧ ∃ j, lookP (setP ks) x i = some (i + j, .bool true) ∧ ks[j]? = some x)
  | [], i => .inl ⟨by simp, rfl⟩
  | k :: ks, i => by
    by_cases h : x = k
    · subst h; exact .inr ⟨by simp, 0, by simp [setP, lookP], by simp⟩
    · rcases lookP_setP x ks (i + 1) with ⟨h1, h2⟩ | ⟨h1, j, h2, h3⟩
      · refine .inl ⟨by simp [h, h1], ?_⟩
        simpa [setP, lookP, h] using h2
      · refine .inr ⟨by simp [h1], j + 1, ?_, by simpa using h3⟩
        have h2' : lookP (setP (k :: ks)) x i = lookP (setP ks) x (i + 1) := by simp [setP, lookP, h]
        rw [h2', h2]
        congr 2
        omega
def addS (ks : List Int) (x : Int) : List Int := if x ∈ ks then ks else ks ++ [x]
theorem mem_addS (ks : List Int) (x y : Int) : y ∈ addS ks x ↔ y ∈ ks ∨ y = x := by
  unfold addS
  by_cases h : x ∈ ks
  · rw [if_pos h]; exact ⟨.inl, fun h' => h'.elim id fun e => e ▸ h⟩
  · rw [if_neg h]; simp
theorem addS_nodup {ks : List Int} (x : Int) (h : ks.Nodup) : (addS ks x).Nodup := by
  unfold addS
  by_cases hx : x ∈ ks
  · rw [if_pos hx]; exact h
  · rw [if_neg hx]
    refine List.nodup_append.2 ⟨h, by simp, fun a ha b hb => ?_⟩
    rcases List.mem_singleton.1 hb with rfl
    exact fun e => hx (e ▸ ha)
theorem putP_setP (ks : List Int) (x : Int) : putP (setP ks) x (.bool true) = setP (addS ks x) := by
  unfold putP addS
  rcases lookP_setP x ks 0 with ⟨h1, h2⟩ | ⟨h1, j, h2, h3⟩
  · rw [h2, if_neg h1]; simp [setP]
  · rw [h2, if_pos h1]
    simp only [Nat.zero_add]
    obtain ⟨hj, hx⟩ := List.getElem?_eq_some_iff.1 h3
    have hjs : j < (setP ks).length := by simpa using hj
    refine List.ext_getElem? fun i => ?_
    rw [List.getElem?_set]
    by_cases hij : j = i
    · subst hij
      simp [setP, hj, hx]
    · simp [hij]
theorem valP_setP (ks : List Int) (x : Int) : valP (setP ks) x (.bool false) = .bool (decide (x ∈ ks)) := by
  unfold valP
  rcases lookP_setP x ks 0 with ⟨h1, h2⟩ | ⟨h1, j, h2, h3⟩
  · rw [h2]; simp [h1]
  · rw [h2]; simp [h1]
end Go.Proofs.YtdkacdfhapgboaaGreat
