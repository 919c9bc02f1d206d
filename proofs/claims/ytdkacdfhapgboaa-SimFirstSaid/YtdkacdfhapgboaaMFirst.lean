/- Maps from int, as the list of their entries: length, look-up, store. -/
import Derived.Test.YtdkacdfhapgboaaM11
import Derived.IntWalk
import Derived.Deep.RegionHeld3
import Derived.BigQuiet
import Derived.Deep.QuietTactic
set_option linter.unusedVariables false
set_option linter.unusedSimpArgs false
namespace Go.Proofs.Ytdkacdfhapgboaa
open Go.RowKit

/-- Where an entry is, and what it holds. -/
def lookP : List (Int × Value) → Int → Nat → Option (Nat × Value)
  | [], _, _ => none
  | p :: ps, x, i => if x = p.1 then some (i, p.2) else lookP ps x (i + 1)
def entsOf (ps : List (Int × Value)) : List (Value × Value) := ps.map fun p => (Value.int .i64 p.1, p.2)
/-- Block b is a map from int that holds just these entries. -/
def MapIs (W : World) (b : Nat) (ps : List (Int × Value)) : Prop := ∃ es clock, W.heap[b]? = some (.map es clock) ∧ es.toList.map (fun e => (e.key, e.val)) = entsOf ps
theorem findNow_lookP : ∀ (ps : List (Int × Value)) (es : List MapEntry) (x : Int) (i : Nat), es.map (fun e => (e.key, e.val)) = entsOf ps → Instr.findNow (.int .i64) (.int .i64 x) es i = some (lookP ps x i)
  | [], es, x, i, h => by
    have : es = [] := by simpa [entsOf] using h
    subst this
    rfl
  | p :: ps, [], x, i, h => by simp [entsOf] at h
  | p :: ps, e :: es, x, i, h => by
    simp only [List.map_cons, entsOf, List.cons.injEq, Prod.mk.injEq] at h
    obtain ⟨⟨h1, h2⟩, h3⟩ := h
    have ih := findNow_lookP ps es x (i + 1) h3
    unfold Instr.findNow lookP
    rw [h1, h2]
    by_cases hx : x = p.1
    · simp [Instr.sameNow, hx]
    · have hb : (x == p.1) = false := by simpa using hx
      simp [Instr.sameNow, hx, hb, ih]
theorem lookP_spec : ∀ (ps : List (Int × Value)) (x : Int) (i : Nat), (lookP ps x i = none ∧ ∀ p ∈ ps, p.1 ≠ x) ∨ ∃ (j : Nat) (h : j < ps.length), lookP ps x i = some (i + j, ps[j].2) ∧ ps[j].1 = x
  | [], x, i => .inl ⟨rfl, by simp⟩
  | p :: ps, x, i => by
    unfold lookP
    by_cases hx : x = p.1
    · rw [if_pos hx]; exact .inr ⟨0, by simp, by simp, by simp [hx]⟩
    · rw [if_neg hx]
      rcases lookP_spec ps x (i + 1) with ⟨h1, h2⟩ | ⟨j, hj, h1, h2⟩
      · refine .inl ⟨h1, fun q hq => ?_⟩
        rcases List.mem_cons.1 hq with rfl | hq
        · exact fun e => hx e.symm
        · exact h2 q hq
      · exact .inr ⟨j + 1, by simp; omega, by rw [h1]; simp; omega, by simpa using h2⟩
/-- The entries behind a store. -/
def putP (ps : List (Int × Value)) (x : Int) (v : Value) : List (Int × Value) := match lookP ps x 0 with
  | some (j, _) => ps.set j (x, v)
  | none => ps ++ [(x, v)]
def valP (ps : List (Int × Value)) (x : Int) (z : Value) : Value := ((lookP ps x 0).map (·.2)).getD z

section
variable {P : Program} {W : World} {t kt et : TypeId} {b : Nat} {ps : List (Int × Value)}
theorem MapIs.lt (h : MapIs W b ps) : b < W.heap.size := by obtain ⟨es, c, h1, _⟩ := h; exact (Array.getElem?_eq_some_iff.1 h1).1
theorem MapIs.upd {F : Nat → Prop} {W' : World} (h : MapIs W b ps) (hu : Upd F W W') (hF : ¬ F b) : MapIs W' b ps := by
  have hl := h.lt
  obtain ⟨es, c, h1, h2⟩ := h
  exact ⟨es, c, (hu.block b hl hF).trans h1, h2⟩
theorem MapIs.below {W' : World} (h : MapIs W b ps) (hb : Below W.heap.size W W') : MapIs W' b ps := h.upd (Upd.of_below hb) (by have := h.lt; omega)
theorem MapIs.made (W : World) : MapIs (W.alloc (.map #[] 0)) W.heap.size [] := ⟨#[], 0, heap_alloc_new W _, rfl⟩
theorem MapIs.run_len {ty : TypeId} (h : MapIs W b ps) (hu : P.underlying t = some (.map kt et)) : (Builtin.len_ #[t] ty #[.map (some b)]).run P W = .ok (.int .i64 (ps.length : Int)) W := by
  obtain ⟨es, c, h1, h2⟩ := h
  have hl : es.size = ps.length := by have := congrArg List.length h2; simpa [entsOf] using this
  simp [Builtin.len_, run_underlying hu, MapKept.run_getObj_map h1, hl, goInt]
theorem MapIs.run_look (h : MapIs W b ps) (hu : P.underlying t = some (.map kt et)) (hk : P.underlying kt = some (.int .i64)) {z : Value} (hz : ∀ W, (zeroValue et).run P W = .ok z W) (x : Int) :
    (Instr.lookup t (.map (some b)) (.int .i64 x) false).run P W = .ok (valP ps x z) W := by
  obtain ⟨es, c, h1, h2⟩ := h
  have hf := findNow_lookP ps es.toList x 0 h2
  unfold valP
  rcases ho : lookP ps x 0 with _ | ⟨i, v⟩
  · rw [ho] at hf
    simp [Instr.lookup, run_underlying hu, MapKept.run_getObj_map h1, MapKept.run_checkKey hk (show MapKept.IsKey (.int .i64) (.int .i64 x) from rfl), MapKept.run_findKey hk hf, hz]
  · rw [ho] at hf
    simp [Instr.lookup, run_underlying hu, MapKept.run_getObj_map h1, MapKept.run_checkKey hk (show MapKept.IsKey (.int .i64) (.int .i64 x) from rfl), MapKept.run_findKey hk hf]
theorem MapIs.run_put (h : MapIs W b ps) (hu : P.underlying t = some (.map kt et)) (hk : P.underlying kt = some (.int .i64)) (x : Int) (v : Value) :
    ∃ o, (Instr.mapUpdate t (.map (some b)) (.int .i64 x) v).run P W = .ok () (W.putObj b o) ∧ MapIs (W.putObj b o) b (putP ps x v) ∧ Upd (fun k => k = b) W (W.putObj b o) := by
  obtain ⟨es, c, h1, h2⟩ := h
  have hf := findNow_lookP ps es.toList x 0 h2
  unfold putP
  rcases lookP_spec ps x 0 with ⟨ho, hn⟩ | ⟨j, hj, ho, hx⟩
  · rw [ho] at hf
    refine ⟨.map (es.push ⟨.int .i64 x, v, c⟩) (c + 1), run_mapNew hu hk h1 x v hf, ⟨_, _, putObj_get h1, ?_⟩, putObj_upd _ _ _⟩
    rw [ho]
    simp only [Array.toList_push, List.map_append, h2]
    simp [entsOf]
  · rw [ho] at hf
    have hel : es.toList.length = ps.length := by have := congrArg List.length h2; simpa [entsOf] using this
    have hje : j < es.size := by rw [← Array.length_toList]; omega
    have hkey : es[j].key = .int .i64 x := by
      have e := congrArg (fun l => l[j]?) h2
      simp only [entsOf, List.getElem?_map] at e
      rw [List.getElem?_eq_getElem hj, List.getElem?_eq_getElem (by omega : j < es.toList.length)] at e
      simp only [Option.map_some, Option.some.injEq, Prod.mk.injEq] at e
      rw [hx] at e
      simpa using e.1
    refine ⟨.map (es.modify j fun e => { e with key := .int .i64 x, val := v }) c, ?_, ⟨_, _, putObj_get h1, ?_⟩, putObj_upd _ _ _⟩
    · have hjj : es[j]? = some es[j] := Array.getElem?_eq_getElem hje
      simp only [Nat.zero_add] at hf
      simp [Instr.mapUpdate, run_underlying hu, MapKept.run_getObj_map h1, MapKept.run_checkKey hk (show MapKept.IsKey (.int .i64) (.int .i64 x) from rfl), MapKept.run_findKey hk hf, hjj, hkey, MapKept.run_keyThatStays (d := .int .i64) (show MapKept.IsKey (.int .i64) (.int .i64 x) from rfl), MapKept.run_setObj_map _ h1, World.putObj]
    · rw [ho]
      simp only [Nat.zero_add]
      refine List.ext_getElem? fun i => ?_
      have e := congrArg (fun l => l[i]?) h2
      simp only [entsOf, List.getElem?_map, Array.getElem?_toList] at e
      simp only [entsOf, List.getElem?_map, Array.getElem?_toList, Array.getElem?_modify, List.getElem?_set]
      by_cases hij : j = i
      · subst hij
        simp [hje, hj, Array.getElem?_eq_getElem hje]
      · simp [hij, e]
end
/-- A set of numbers. -/
def setP (ks : List Int) : List (Int × Value) := ks.map fun x => (x, Value.bool true)
@[simp] theorem setP_length (ks : List Int) : (setP ks).length = ks.length := by simp [setP]
theorem lookP_setP (x : Int) : ∀ (ks : List Int) (i : Nat), (x ∉ ks ∧ lookP (setP ks) x i = none) ∨ (x ∈ ks ∧ ∃ j, lookP (setP ks) x i = some (i + j, .bool true) ∧ ks[j]? = some x)
  | [], i => .inl ⟨by simp, rfl⟩
  | k :: ks, i => by
    by_cases h : x = k
    · subst h; exact .inr ⟨by simp, 0, by simp [setP, lookP], by simp⟩
    · rcases lookP_setP x ks (i + 1) with ⟨h1, h2⟩ | ⟨h1, j, h2, h3⟩
      · refine .inl ⟨by simp [h, h1], ?_⟩
        simpa [setP, lookP, h] using h2
      · refine .inr ⟨by simp [h1], j + 1, ?_, by simpa using h3⟩
        have h2' : lookP (setP (k :: ks)) x i = lookP (setP ks) x (i + 1) := by simp [setP, lookP, h]
        rw [h2', h2]
        congr 2
        omega
def addS (ks : List Int) (x : Int) : List Int := if x ∈ ks then ks else ks ++ [x]
theorem mem_addS (ks : List Int) (x y : Int) : y ∈ addS ks x ↔ y ∈ ks ∨ y = x := by
  unfold addS
  by_cases h : x ∈ ks
  · rw [if_pos h]; exact ⟨.inl, fun h' => h'.elim id fun e => e ▸ h⟩
  · rw [if_neg h]; simp
theorem addS_nodup {ks : List Int} (x : Int) (h : ks.Nodup) : (addS ks x).Nodup := by
  unfold addS
  by_cases hx : x ∈ ks
  · rw [if_pos hx]; exact h
  · rw [if_neg hx]
    refine List.nodup_append.2 ⟨h, by simp, fun a ha b hb => ?_⟩
    rcases List.mem_singleton.1 hb with rfl
    exact fun e => hx (e ▸ ha)
theorem putP_setP (ks : List Int) (x : Int) : putP (setP ks) x (.bool true) = setP (addS ks x) := by
  unfold putP addS
  rcases lookP_setP x ks 0 with ⟨h1, h2⟩ | ⟨h1, j, h2, h3⟩
  · rw [h2, if_neg h1]; simp [setP]
  · rw [h2, if_pos h1]
    simp only [Nat.zero_add]
    obtain ⟨hj, hx⟩ := List.getElem?_eq_some_iff.1 h3
    have hjs : j < (setP ks).length := by simpa using hj
    refine List.ext_getElem? fun i => ?_
    rw [List.getElem?_set]
    by_cases hij : j = i
    · subst hij
      simp [setP, hj, hx]
    · simp [hij]
theorem valP_setP (ks : List Int) (x : Int) : valP (setP ks) x (.bool false) = .bool (decide (x ∈ ks)) := by
  unfold valP
  rcases lookP_setP x ks 0 with ⟨h1, h2⟩ | ⟨h1, j, h2, h3⟩
  · rw [h2]; simp [h1]
  · rw [h2]; simp [h1]
end Go.Proofs.Ytdkacdfhapgboaa

/- SimFirst: each line is missed at its first access; if all lines of its set fit, just once. -/
set_option linter.unusedVariables false
set_option linter.unusedSimpArgs false
namespace Go.Proofs.Ytdkacdfhapgboaa
open Go.RowKit

/-- The entries of the map of maps: a set's number, where its own map lies, the lines in it. -/
structure Ent where
  s : Int
  blk : Nat
  ks : List Int
def entP (es : List Ent) : List (Int × Value) := es.map fun e => (e.s, Value.map (some e.blk))
/-- The map of maps behind the accesses xs. -/
structure AllM (B bm : Nat) (n : Nat) (lns : List Int) (es : List Ent) (W : World) : Prop where
  all : MapIs W bm (entP es)
  each : ∀ e ∈ es, MapIs W e.blk (setP e.ks)
  base : B ≤ bm ∧ ∀ e ∈ es, B ≤ e.blk ∧ e.blk ≠ bm
  blks : (es.map (·.blk)).Nodup
  keys : (es.map (·.s)).Nodup
  mem : ∀ e ∈ es, e.ks.Nodup ∧ ∀ y, y ∈ e.ks ↔ y ∈ lns ∧ y % (n : Int) = e.s
  ex : ∀ y ∈ lns, ∃ e ∈ es, e.s = y % (n : Int)
theorem AllM.start (W : World) (B n : Nat) (hB : B ≤ W.heap.size) : AllM B W.heap.size n [] [] (W.alloc (.map #[] 0)) :=
  ⟨MapIs.made W, fun _ h => absurd h (by simp), ⟨hB, fun _ h => absurd h (by simp)⟩, List.nodup_nil, List.nodup_nil, fun _ h => absurd h (by simp), fun _ h => absurd h (by simp)⟩
theorem AllM.upd {F : Nat → Prop} {B bm n : Nat} {l : List Int} {es : List Ent} {W W' : World} (H : AllM B bm n l es W) (hu : Upd F W W') (hF : ∀ k, B ≤ k → k < W.heap.size → ¬ F k) : AllM B bm n l es W' :=
  ⟨H.all.upd hu (hF _ H.base.1 H.all.lt), fun e he => (H.each e he).upd hu (hF _ (H.base.2 e he).1 (H.each e he).lt), H.base, H.blks, H.keys, H.mem, H.ex⟩
theorem AllM.below {B bm n : Nat} {l : List Int} {es : List Ent} {W W' : World} (H : AllM B bm n l es W) (hb : Below W.heap.size W W') : AllM B bm n l es W' :=
  H.upd (Upd.of_below hb) fun k _ h => by omega
theorem valP_ent (es : List Ent) (s : Int) : (valP (entP es) s (.map none) = .map none ∧ ∀ e ∈ es, e.s ≠ s) ∨ ∃ e ∈ es, e.s = s ∧ valP (entP es) s (.map none) = .map (some e.blk) := by
  unfold valP
  rcases lookP_spec (entP es) s 0 with ⟨h1, h2⟩ | ⟨j, hj, h1, h2⟩
  · refine .inl ⟨by rw [h1]; rfl, fun e he => ?_⟩
    exact h2 (e.s, .map (Option.some e.blk)) (List.mem_map.2 ⟨e, he, rfl⟩)
  · have hj' : j < es.length := by simpa [entP] using hj
    refine .inr ⟨es[j], List.getElem_mem hj', ?_, ?_⟩
    · simpa [entP] using h2
    · rw [h1]; simp [entP]
theorem putP_ent (es : List Ent) (s : Int) (blk : Nat) (h : ∀ e ∈ es, e.s ≠ s) : putP (entP es) s (.map (some blk)) = entP (es ++ [⟨s, blk, []⟩]) := by
  unfold putP
  rcases lookP_spec (entP es) s 0 with ⟨h1, h2⟩ | ⟨j, hj, h1, h2⟩
  · rw [h1]; simp [entP]
  · have hj' : j < es.length := by simpa [entP] using hj
    exact absurd (by simpa [entP] using h2) (h _ (List.getElem_mem hj'))
/-- A set that had none is given an empty map of its own. -/
theorem AllM.new {B bm n : Nat} {l : List Int} {es : List Ent} {W W1 W2 : World} (H : AllM B bm n l es W) (s : Int) (hno : ∀ e ∈ es, e.s ≠ s) (hW1 : W1 = W.alloc (.map #[] 0)) (hu : Upd (fun k => k = bm) W1 W2)
    (hm : MapIs W2 bm (putP (entP es) s (.map (some W.heap.size)))) (hB : B ≤ W.heap.size) : AllM B bm n l (es ++ [⟨s, W.heap.size, []⟩]) W2 := by
  have hbm := H.all.lt
  have hn : MapIs W2 W.heap.size (setP []) := by
    have : MapIs W1 W.heap.size (setP []) := by rw [hW1]; exact MapIs.made W
    exact this.upd hu (by omega)
  have hmem : ∀ e, e ∈ es ++ [(⟨s, W.heap.size, []⟩ : Ent)] → e ∈ es ∨ e = ⟨s, W.heap.size, []⟩ := fun e he => by simpa using he
  refine ⟨by rw [← putP_ent es s W.heap.size hno]; exact hm, fun e he => ?_, ⟨H.base.1, fun e he => ?_⟩, ?_, ?_, fun e he => ?_, fun y hy => ?_⟩
  · rcases hmem e he with h | rfl
    · refine ((H.each e h).upd (F := fun k => W.heap.size ≤ k) (W' := W1) ?_ (by have := (H.each e h).lt; omega)).upd hu (H.base.2 e h).2
      rw [hW1]
      exact Upd.of_below (balloc W _)
    · exact hn
  · rcases hmem e he with h | rfl
    · exact H.base.2 e h
    · exact ⟨hB, by show W.heap.size ≠ bm; omega⟩
  · rw [List.map_append]
    refine List.nodup_append.2 ⟨H.blks, by simp, fun a ha b hb => ?_⟩
    obtain ⟨e, he, rfl⟩ := List.mem_map.1 ha
    have := (H.each e he).lt
    simp at hb
    omega
  · rw [List.map_append]
    refine List.nodup_append.2 ⟨H.keys, by simp, fun a ha b hb => ?_⟩
    obtain ⟨e, he, rfl⟩ := List.mem_map.1 ha
    have := hno e he
    simp at hb
    omega
  · rcases hmem e he with h | rfl
    · exact H.mem e h
    · refine ⟨List.nodup_nil, fun y => ⟨fun h => absurd h (by simp), fun ⟨h1, h2⟩ => ?_⟩⟩
      obtain ⟨e', he', h3⟩ := H.ex y h1
      exact absurd (h3.trans h2) (hno e' he')
  · obtain ⟨e, he, h3⟩ := H.ex y hy
    exact ⟨e, by simp [he], h3⟩
theorem nodup_map_inj {α β : Type} {f : α → β} : ∀ {l : List α}, (l.map f).Nodup → ∀ {a b : α}, a ∈ l → b ∈ l → f a = f b → a = b
  | [], _, _, _, ha, _, _ => absurd ha (by simp)
  | x :: l, h, a, b, ha, hb, e => by
    rw [List.map_cons, List.nodup_cons] at h
    rcases List.mem_cons.1 ha with rfl | ha
    · rcases List.mem_cons.1 hb with rfl | hb
      · rfl
      · exact absurd (List.mem_map.2 ⟨b, hb, e.symm⟩) h.1
    · rcases List.mem_cons.1 hb with hb | hb
      · exact absurd (List.mem_map.2 ⟨a, ha, by rw [e, hb]⟩) h.1
      · exact nodup_map_inj h.2 ha hb e
/-- A line is put into the map of its set. -/
def addE (x : Int) (n : Nat) (e : Ent) : Ent := if e.s = x % (n : Int) then { e with ks := addS e.ks x } else e
theorem AllM.put {B bm n : Nat} {l : List Int} {es : List Ent} {W W2 : World} (H : AllM B bm n l es W) (x : Int) (e : Ent) (he : e ∈ es) (hs : e.s = x % (n : Int)) (hu : Upd (fun k => k = e.blk) W W2)
    (hm : MapIs W2 e.blk (setP (addS e.ks x))) : AllM B bm n (l ++ [x]) (es.map (addE x n)) W2 := by
  have hblk : ∀ e', (addE x n e').blk = e'.blk := fun e' => by unfold addE; split <;> rfl
  have hss : ∀ e', (addE x n e').s = e'.s := fun e' => by unfold addE; split <;> rfl
  have hone : ∀ e' ∈ es, e'.s = x % (n : Int) → e' = e := fun e' he' h => nodup_map_inj H.keys he' he (h.trans hs.symm)
  refine ⟨?_, fun e' he' => ?_, ⟨H.base.1, fun e' he' => ?_⟩, ?_, ?_, fun e' he' => ?_, fun y hy => ?_⟩
  · have e1 : entP (es.map (addE x n)) = entP es := by simp [entP, hblk, hss]
    rw [e1]
    exact H.all.upd hu (H.base.2 e he).2.symm
  · obtain ⟨e0, h0, rfl⟩ := List.mem_map.1 he'
    by_cases h : e0.s = x % (n : Int)
    · obtain rfl := hone e0 h0 h
      unfold addE
      rw [if_pos h]
      exact hm
    · unfold addE
      rw [if_neg h]
      refine (H.each e0 h0).upd hu fun h2 => h ?_
      rw [nodup_map_inj H.blks h0 he h2, hs]
  · obtain ⟨e0, h0, rfl⟩ := List.mem_map.1 he'
    rw [hblk]
    exact H.base.2 e0 h0
  · rw [List.map_map]
    have : (fun e' => e'.blk) ∘ addE x n = fun e' => e'.blk := funext fun e' => hblk e'
    rw [this]
    exact H.blks
  · rw [List.map_map]
    have : (fun e' => e'.s) ∘ addE x n = fun e' => e'.s := funext fun e' => hss e'
    rw [this]
    exact H.keys
  · obtain ⟨e0, h0, rfl⟩ := List.mem_map.1 he'
    obtain ⟨h1, h2⟩ := H.mem e0 h0
    by_cases h : e0.s = x % (n : Int)
    · unfold addE
      rw [if_pos h]
      refine ⟨addS_nodup _ h1, fun y => ?_⟩
      show y ∈ addS e0.ks x ↔ _ ∧ _ = e0.s
      rw [mem_addS, h2, List.mem_append, List.mem_singleton]
      constructor
      · rintro (⟨h3, h4⟩ | rfl)
        · exact ⟨.inl h3, h4⟩
        · exact ⟨.inr rfl, h.symm⟩
      · rintro ⟨h3 | h3, h4⟩
        · exact .inl ⟨h3, h4⟩
        · exact .inr h3
    · unfold addE
      rw [if_neg h]
      refine ⟨h1, fun y => ?_⟩
      rw [h2, List.mem_append, List.mem_singleton]
      constructor
      · rintro ⟨h3, h4⟩
        exact ⟨.inl h3, h4⟩
      · rintro ⟨h3 | rfl, h4⟩
        · exact ⟨h3, h4⟩
        · exact absurd h4.symm h
  · rcases List.mem_append.1 hy with h | h
    · obtain ⟨e0, h0, h3⟩ := H.ex y h
      exact ⟨addE x n e0, List.mem_map.2 ⟨e0, h0, rfl⟩, by rw [hss]; exact h3⟩
    · rcases List.mem_singleton.1 h with rfl
      exact ⟨addE y n e, List.mem_map.2 ⟨e, he, rfl⟩, by rw [hss]; exact hs⟩
theorem AllM.look {B bm n : Nat} {l : List Int} {es : List Ent} {W : World} (H : AllM B bm n l es W) (e : Ent) (he : e ∈ es) : valP (entP es) e.s (.map none) = .map (some e.blk) := by
  rcases valP_ent es e.s with ⟨_, h⟩ | ⟨e', h1, h2, h3⟩
  · exact absurd rfl (h e he)
  · rw [h3, nodup_map_inj H.keys h1 he h2]
theorem AllM.entry {B bm n : Nat} {l : List Int} {es : List Ent} {W : World} (H : AllM B bm n l es W) (p s : Int) (hs : p % (n : Int) = s) (hex : ∃ e ∈ es, e.s = s) :
    ∃ blk ks, valP (entP es) s (.map none) = .map (some blk) ∧ MapIs W blk (setP ks) ∧ (p ∈ ks ↔ p ∈ l) ∧ B ≤ blk ∧ ∀ W2, Upd (fun k => k = blk) W W2 → MapIs W2 blk (setP (addS ks p)) → ∃ es', AllM B bm n (l ++ [p]) es' W2 := by
  obtain ⟨e, he, rfl⟩ := hex
  obtain ⟨h1, h2⟩ := H.mem e he
  exact ⟨e.blk, e.ks, H.look e he, H.each e he, (h2 p).trans ⟨fun h => h.1, fun h => ⟨h, hs⟩⟩, (H.base.2 e he).1, fun W2 hu hm => ⟨_, H.put p e he hs.symm hu hm⟩⟩
/-- What the second loop reads of it. -/
theorem AllM.size {B bm n : Nat} {l : List Int} {es : List Ent} {W : World} (H : AllM B bm n l es W) (p s : Int) (hs : p % (n : Int) = s) (hp : p ∈ l) :
    ∃ blk ks, valP (entP es) s (.map none) = .map (some blk) ∧ MapIs W blk (setP ks) ∧ ks.Nodup ∧ ∀ y, y ∈ ks ↔ y ∈ l ∧ y % (n : Int) = s := by
  obtain ⟨e, he, h⟩ := H.ex p hp
  rw [hs] at h
  subst h
  obtain ⟨h1, h2⟩ := H.mem e he
  exact ⟨e.blk, e.ks, H.look e he, H.each e he, h1, h2⟩
theorem lns_take_succ (line : Int) (xs : List Int) (k : Nat) (h : k < xs.length) : lns line (xs.take (k + 1)) = lns line (xs.take k) ++ [gi xs k / line] := by
  rw [List.take_succ_eq_append_getElem h, gi_get xs k h]
  simp only [lns, List.map_append, List.map_cons, List.map_nil]

attribute [local irreducible] World.setCell in
set_option maxRecDepth 100000 in
set_option maxHeartbeats 4000000 in
theorem firsts_any (a b d : Int) (ha : 0 ≤ a ∧ a < 256) (hb : 0 ≤ b ∧ b < 256) (hd : 0 ≤ d ∧ d < 256) (A : Option Addr) (xs : List Int) (cap : Nat) (w : World) (hr : RdI w .u32 A xs.length xs) (hu : ∀ x ∈ xs, 0 ≤ x ∧ x < 4294967296) (hm : xs.length ≤ 9223372036854775807) :
    Calls Try.prog 6 #[.int .u8 a, .int .u8 b, .int .u8 d, .slice A xs.length cap] w fun e w' => e = .returned (.bool true) ∧ Below w.heap.size w w' := by
  have HR := Lib.hid hr
  have HU := Lib.hid hu
  have HA := Lib.hid ha
  have HB := Lib.hid hb
  have HDD := Lib.hid hd
  clear hr hu ha hb hd
  by_cases hlen : 200 < xs.length
  · go_enter Try.func6, Try.ntmps6
    go_wp2_with fail
    refine (sane_any _).mono ?_
    rintro e W ⟨rfl, hb⟩
    go_wp2
    go_ret
    exact ⟨rfl, hb⟩
  · go_enter Try.func6, Try.ntmps6
    go_wp2_with fail
    refine (shaped_any a b d HA.out HB.out HDD.out _).mono ?_
    rintro e W1 ⟨rfl, hb1⟩
    obtain ⟨hs1, hs2⟩ := setsOf_le b
    obtain ⟨n, hn⟩ : ∃ n : Nat, setsOf b = n := ⟨_, rfl⟩
    have hsh := shape_of a b d
    obtain ⟨hdv, hl1, hl2⟩ := lineOf_dvd a
    have hw12 : 1 ≤ waysOf d ∧ waysOf d ≤ 16 := by unfold waysOf; have := HDD.out; omega
    obtain ⟨line, hline⟩ : ∃ line, lineOf a = line := ⟨_, rfl⟩
    obtain ⟨u, hW⟩ : ∃ u, waysOf d = u := ⟨_, rfl⟩
    rw [hline, hn, hW] at hsh
    rw [hline] at hdv hl1 hl2
    rw [hW] at hw12
    rw [hn] at hs1 hs2
    rw [hline, hn, hW]
    obtain ⟨hw1, hw2⟩ := hw12
    have HSH := Lib.hid hsh
    have HDV := Lib.hid hdv
    obtain ⟨V1, hV1⟩ : ∃ V, W1.alloc (.cells #[.int .i64 line, .int .i64 (n : Int), .int .i64 u] 25) = V := ⟨_, rfl⟩
    have hbv : Below W1.heap.size W1 V1 := by rw [← hV1]; exact balloc _ _
    have hx1 : V1.heap[W1.heap.size]? = some (.cells #[.int .i64 line, .int .i64 (n : Int), .int .i64 u] 25 (0, 0)) := by rw [← hV1]; exact heap_alloc_new _ _
    have HB1 := Lib.hid (bvia hb1 hbv (Nat.le_refl _))
    have y0 := boxAt (i := 0) hx1 rfl
    have y1 := boxAt (i := 1) hx1 rfl
    have y2 := boxAt (i := 2) hx1 rfl
    have HX1 := Lib.hid hx1
    clear hsh hdv hline hn hW hb1 hbv hx1
    go_wp2_with fail
    refine (replayed_any line u n A cap xs _ HSH.out (show RdI V1 .u32 A xs.length xs from Rd.below HR.out HB1.out) (by omega) HU.out).mono ?_
    rintro e W2 ⟨q1, rfl, ho1, hb2⟩
    obtain ⟨A1, c1, rfl, hg1⟩ := own_rd ho1
    have HB2 := Lib.hid (HB1.out.trans (hb2.mono HB1.out.size))
    have HX2 := Lib.hid (belowBox hb2 HX1.out)
    have HG := Lib.hid (show RdB W2 A1 xs.length _ from hg1)
    have hmk1 : ∀ W : World, (Instr.makeMap 43 none).run Try.prog W = .ok (.map (some W.heap.size)) (W.alloc (.map #[] 0)) := fun W => rfl
    have hmk2 : ∀ W : World, (Instr.makeMap 32 none).run Try.prog W = .ok (.map (some W.heap.size)) (W.alloc (.map #[] 0)) := fun W => rfl
    obtain ⟨W3, hW3⟩ : ∃ W3, W2.alloc (.map #[] 0) = W3 := ⟨_, rfl⟩
    have HB3 := Lib.hid (show Below W2.heap.size W2 W3 by rw [← hW3]; exact balloc _ _)
    have HM3 := Lib.hid (show AllM W2.heap.size W2.heap.size n [] [] W3 by rw [← hW3]; exact AllM.start W2 _ n (Nat.le_refl _))
    clear ho1 hb2 hg1 y0 y1 y2
    go_wp2_with fail
    go_loopw [38] (fun i wr => ∃ (k : Nat) (es : List Ent), k ≤ xs.length ∧ i = .int .i64 k ∧ Hid (Below W2.heap.size W2 wr) ∧ Hid (AllM W2.heap.size W2.heap.size n (lns line (xs.take k)) es wr)) (fun i _ => xs.length - (intOf i).toNat)
    case atStart => exact ⟨0, [], Nat.zero_le _, rfl, HB3, HM3⟩
    case round =>
      obtain ⟨i, es, hi, rfl, hI, hM⟩ := hrel
      by_cases hlt : i < xs.length
      · obtain ⟨ad, e0, x0⟩ := (show RdI wr .u32 A xs.length xs from Rd.below HR.out (HB2.out.trans (hI.out.mono HB2.out.size))).at i hlt
        subst e0
        have y0 := boxAt (i := 0) (belowBox hI.out HX2.out) rfl
        have y1 := boxAt (i := 1) (belowBox hI.out HX2.out) rfl
        obtain ⟨p1, p2⟩ := HU.out _ (gi_mem xs i hlt)
        obtain ⟨P, hP⟩ : ∃ P, gi xs i = P := ⟨_, rfl⟩
        rw [hP] at x0 p1 p2
        obtain ⟨p, hp⟩ : ∃ p, P / line = p := ⟨_, rfl⟩
        have hp2 : 0 ≤ p ∧ p ≤ P := by rw [← hp]; exact ⟨Int.ediv_nonneg p1 (by omega), Int.ediv_le_self _ p1⟩
        have hpt : P.tdiv line = p := by rw [Int.tdiv_eq_ediv_of_nonneg p1, hp]
        have hpu : IntKind.u32.wrap p = p := IntWalk.u32_in _ (by omega)
        have hpi : IntKind.i64.wrap p = p := IntWalk.i64_in _ (by omega)
        have hwl : IntKind.u32.wrap line = line := IntWalk.u32_in _ (by omega)
        obtain ⟨s, hs⟩ : ∃ s, p % (n : Int) = s := ⟨_, rfl⟩
        have hs0 : 0 ≤ s ∧ s < (n : Int) := by rw [← hs]; exact ⟨Int.emod_nonneg _ (by omega), Int.emod_lt_of_pos _ (by omega)⟩
        have hpm : p.tmod (n : Int) = s := by rw [Int.tmod_eq_emod_of_nonneg hp2.1, hs]
        have hsw : IntKind.i64.wrap s = s := IntWalk.i64_in _ (by omega)
        have hl0 : ¬ line = 0 := by omega
        have hn0 : ¬ (n : Int) = 0 := by omega
        have hi0 : (0 : Int) ≤ (i : Int) := by omega
        have hii : (i : Int) < (xs.length : Int) := by omega
        have HPP := Lib.hid (show gi xs i / line = p by rw [hP, hp])
        have HS := Lib.hid hs
        obtain ⟨ad2, e2, g0⟩ := (show RdB wr A1 xs.length _ from Rd.below HG.out hI.out).at i hlt
        subst e2
        obtain ⟨gv, hgv⟩ : ∃ gv, gb (replayL line n u (List.replicate n []) xs).2 i = gv := ⟨_, rfl⟩
        rw [hgv] at g0
        have hmiss : p ∉ lns line (xs.take i) → gv = false := fun h => by
          rw [← hgv]
          exact first_miss line u n (by omega) HDV.out (by omega) xs HU.out i hlt (by rw [HPP.out]; exact h)
        have HMISS := Lib.hid hmiss
        have HGV := Lib.hid hgv
        clear hP hp hs hmiss hgv hp2 hs0
        go_wp2_with fail
        have f1 := After.cell x0
        have f2 := After.cell y0
        refine region_after (Below.refl wr.heap.size wr) (by kernel_rfl) (by kernel_rfl) ?_
        repeat (go_big_quiet_step (fail))
        refine wpQuiet_nil ?_
        intro _ hw'
        obtain ⟨nq, hw''⟩ := hw'
        subst hw''
        clear f1 f2 x0 y0
        have hb4 := nq.below
        have h1 := bkeep hb4 y1
        have h2 := bkeep hb4 g0
        obtain ⟨W4, hW4⟩ : ∃ W, nq.W = W := ⟨_, rfl⟩
        rw [hW4] at hb4 h1 h2
        rw [hW4]
        clear hW4 y1 g0
        have HM4 := Lib.hid (hM.out.below hb4)
        have HB4 := Lib.hid (hI.out.trans (hb4.mono hI.out.size))
        have hzero : ∀ W : World, (zeroValue 32).run Try.prog W = .ok (.map none) W := fun W => rfl
        have hzb : ∀ W : World, (zeroValue 4).run Try.prog W = .ok (.bool false) W := fun W => rfl
        have HZERO := Lib.hid hzero
        have HZB := Lib.hid hzb
        have hlk := HM4.out.all.run_look (P := Try.prog) Try.underlying43 Try.underlying3 hzero s
        clear hb4 hzero hzb
        have hnil := fun (W : World) (r : Option Nat) => run_eql_map_nil (P := Try.prog) W 32 3 4 r Try.underlying32
        rcases valP_ent es s with ⟨hv, hno⟩ | ⟨e, he1, he2, hv⟩
        rw [hv] at hlk
        obtain ⟨W5, hW5⟩ : ∃ W5, W4.alloc (.map #[] 0) = W5 := ⟨_, rfl⟩
        have hb5 : Below W4.heap.size W4 W5 := by rw [← hW5]; exact balloc _ _
        obtain ⟨o, hrun, hm6, hu6⟩ := (HM4.out.all.below hb5).run_put (P := Try.prog) Try.underlying43 Try.underlying3 s (.map (some W4.heap.size))
        obtain ⟨W6, hW6⟩ : ∃ W, W5.putObj W2.heap.size o = W := ⟨_, rfl⟩
        rw [hW6] at hrun hm6 hu6
        have HM6 := Lib.hid (HM4.out.new s hno hW5.symm hu6 hm6 HB4.out.size)
        have hb6 : Below W2.heap.size W2 W6 := (HB4.out.trans (hb5.mono HB4.out.size)).trans (hu6.below (by have := HB4.out.size; have := hb5.size; omega) fun k (h : k = W2.heap.size) => by omega)
        have HB6 := Lib.hid hb6
        have HENT := Lib.hid (show ∃ e ∈ es ++ [(⟨s, W4.heap.size, []⟩ : Ent)], e.s = s from ⟨⟨s, W4.heap.size, []⟩, by simp, rfl⟩)
        clear hm6 hu6 hb5 hb6 hv hno hW6
        rotate_left
        obtain ⟨W6, rfl⟩ : ∃ W6, W6 = W4 := ⟨W4, rfl⟩
        have HM6 := HM4
        have HB6 := HB4
        have HENT := Lib.hid (show ∃ e ∈ es, e.s = s from ⟨e, he1, he2⟩)
        clear hlk hv he1 he2
        rotate_left
        all_goals
          obtain ⟨blk, ks, hvv, hmb, hiff, hbb, hput⟩ := HM6.out.entry p s HS.out HENT.out
          have hl2 := HM6.out.all.run_look (P := Try.prog) Try.underlying43 Try.underlying3 HZERO.out s
          have hl3 := hmb.run_look (P := Try.prog) Try.underlying32 Try.underlying3 HZB.out p
          rw [hvv] at hl2
          rw [valP_setP] at hl3
          obtain ⟨o2, hrun2, hm7, hu7⟩ := hmb.run_put (P := Try.prog) Try.underlying32 Try.underlying3 p (.bool true)
          rw [putP_setP] at hm7
          obtain ⟨W7, hW7⟩ : ∃ W, W6.putObj blk o2 = W := ⟨_, rfl⟩
          rw [hW7] at hrun2 hm7 hu7
          obtain ⟨es7, hes7⟩ := hput W7 hu7 hm7
          rw [← HPP.out, ← lns_take_succ line xs i hlt] at hes7
          have HM7 := Lib.hid hes7
          have HB7 := Lib.hid (HB6.out.trans (hu7.below HB6.out.size fun k (h : k = blk) => by omega))
          obtain ⟨ad3, e3, g6⟩ := (show RdB W6 (some ad2) xs.length _ from Rd.below HG.out HB6.out).at i hlt
          cases e3
          rw [HGV.out] at g6
          obtain ⟨t, ht⟩ : ∃ t, decide (p ∈ ks) = t := ⟨_, rfl⟩
          rw [ht] at hl3
          have hgt : t = false → gv = false := fun h => HMISS.out fun hp => by
            rw [h] at ht
            exact (of_decide_eq_false ht) (hiff.2 hp)
          clear hmb hiff hbb hput hvv hm7 hu7 hW7 hes7 ht
          cases t
          · obtain rfl := hgt rfl
            clear hgt
            go_wp2_with fail
            go_roundw
            case rel => exact ⟨i + 1, es7, by omega, by go_num, HB7, HM7⟩
            case measure => simp [intOf]; omega
          · clear hgt
            go_wp2_with fail
            go_roundw
            case rel => exact ⟨i + 1, es7, by omega, by go_num, HB7, HM7⟩
            case measure => simp [intOf]; omega
      · obtain ⟨wo, rfl⟩ : ∃ wo, wo = wr := ⟨wr, rfl⟩
        obtain rfl : i = xs.length := by omega
        rw [List.take_length] at hM
        obtain ⟨V3, hV3⟩ : ∃ V, wo.alloc (.map #[] 0) = V := ⟨_, rfl⟩
        have HV3 := Lib.hid (show Below wo.heap.size wo V3 by rw [← hV3]; exact balloc _ _)
        have HS3 := Lib.hid (show MapIs V3 wo.heap.size (setP []) by rw [← hV3]; exact MapIs.made wo)
        clear hlt
        go_wp2_with fail
        clear hV3 hW3
        go_loopw [81] (fun iv wr => ∃ (k : Nat) (ks : List Int), k ≤ xs.length ∧ iv = .int .i64 k ∧ Hid (Below wo.heap.size wo wr) ∧ Hid (MapIs wr wo.heap.size (setP ks)) ∧ Hid (∀ y, y ∈ ks ↔ y ∈ lns line (xs.take k))) (fun iv _ => xs.length - (intOf iv).toNat)
        case atStart => exact ⟨0, [], Nat.zero_le _, rfl, HV3, HS3, Lib.hid fun y => by simp [lns]⟩
        case round =>
          obtain ⟨i, ks, hi, rfl, hJ, hS, hK⟩ := hrel
          have hJ2 := Lib.hid (hI.out.trans (hJ.out.mono hI.out.size))
          by_cases hlt : i < xs.length
          · obtain ⟨ad, e0, x0⟩ := (show RdI wr .u32 A xs.length xs from Rd.below HR.out (HB2.out.trans (hJ2.out.mono HB2.out.size))).at i hlt
            subst e0
            have y0 := boxAt (i := 0) (belowBox hJ2.out HX2.out) rfl
            have y1 := boxAt (i := 1) (belowBox hJ2.out HX2.out) rfl
            have y2 := boxAt (i := 2) (belowBox hJ2.out HX2.out) rfl
            obtain ⟨p1, p2⟩ := HU.out _ (gi_mem xs i hlt)
            obtain ⟨P, hP⟩ : ∃ P, gi xs i = P := ⟨_, rfl⟩
            rw [hP] at x0 p1 p2
            obtain ⟨p, hp⟩ : ∃ p, P / line = p := ⟨_, rfl⟩
            have hp2 : 0 ≤ p ∧ p ≤ P := by rw [← hp]; exact ⟨Int.ediv_nonneg p1 (by omega), Int.ediv_le_self _ p1⟩
            have hpt : P.tdiv line = p := by rw [Int.tdiv_eq_ediv_of_nonneg p1, hp]
            have hpu : IntKind.u32.wrap p = p := IntWalk.u32_in _ (by omega)
            have hpi : IntKind.i64.wrap p = p := IntWalk.i64_in _ (by omega)
            have hwl : IntKind.u32.wrap line = line := IntWalk.u32_in _ (by omega)
            obtain ⟨s, hs⟩ : ∃ s, p % (n : Int) = s := ⟨_, rfl⟩
            have hs0 : 0 ≤ s ∧ s < (n : Int) := by rw [← hs]; exact ⟨Int.emod_nonneg _ (by omega), Int.emod_lt_of_pos _ (by omega)⟩
            have hpm : p.tmod (n : Int) = s := by rw [Int.tmod_eq_emod_of_nonneg hp2.1, hs]
            have hsw : IntKind.i64.wrap s = s := IntWalk.i64_in _ (by omega)
            have hl0 : ¬ line = 0 := by omega
            have hn0 : ¬ (n : Int) = 0 := by omega
            have hi0 : (0 : Int) ≤ (i : Int) := by omega
            have hii : (i : Int) < (xs.length : Int) := by omega
            have HPP := Lib.hid (show gi xs i / line = p by rw [hP, hp])
            have HSS := Lib.hid hs
            obtain ⟨ad2, e2, g0⟩ := (show RdB wr A1 xs.length _ from Rd.below HG.out hJ2.out).at i hlt
            subst e2
            obtain ⟨gv, hgv⟩ : ∃ gv, gb (replayL line n u (List.replicate n []) xs).2 i = gv := ⟨_, rfl⟩
            rw [hgv] at g0
            have HGV := Lib.hid hgv
            clear hP hp hs hgv hp2 hs0
            go_wp2_with fail
            have f1 := After.cell x0
            have f2 := After.cell y0
            refine region_after (Below.refl wr.heap.size wr) (by kernel_rfl) (by kernel_rfl) ?_
            repeat (go_big_quiet_step (fail))
            refine wpQuiet_nil ?_
            intro _ hw'
            obtain ⟨nq, hw''⟩ := hw'
            subst hw''
            clear f1 f2 x0 y0
            have hb4 := nq.below
            have h1 := bkeep hb4 y1
            have h2 := bkeep hb4 y2
            have h3 := bkeep hb4 g0
            obtain ⟨W4, hW4⟩ : ∃ W, nq.W = W := ⟨_, rfl⟩
            rw [hW4] at hb4 h1 h2 h3
            rw [hW4]
            clear hW4 y1 y2 g0 nq
            have HM4 := Lib.hid (hM.out.below (hJ.out.trans (hb4.mono hJ.out.size)))
            have HS4 := Lib.hid (hS.out.below hb4)
            have HJ4 := Lib.hid (hJ.out.trans (hb4.mono hJ.out.size))
            clear hb4
            go_wp2_with fail
            have hzero : ∀ W : World, (zeroValue 32).run Try.prog W = .ok (.map none) W := fun W => rfl
            have hzb : ∀ W : World, (zeroValue 4).run Try.prog W = .ok (.bool false) W := fun W => rfl
            have hlk : ∀ q : After W4.heap.size W4, (Instr.lookup 32 (.map (some wo.heap.size)) (.int .i64 p) false).run Try.prog q.W = .ok (valP (setP ks) p (.bool false)) q.W := fun q => (HS4.out.below q.below).run_look (P := Try.prog) Try.underlying32 Try.underlying3 hzb p
            simp only [valP_setP] at hlk
            have f1 := After.cell h1
            have f2 := After.cell h2
            have f3 := After.cell h3
            have HKU : Hid (∀ y, y ∈ addS ks p ↔ y ∈ lns line (xs.take (i + 1))) := Lib.hid fun y => by
              rw [mem_addS, hK.out, lns_take_succ line xs i hlt, List.mem_append, List.mem_singleton, HPP.out]
            have HFAR := Lib.hid (show decide (p ∈ ks) = true → ∃ blk ks2, valP (entP es) s (.map none) = .map (some blk) ∧ MapIs W4 blk (setP ks2) ∧ ((ks2.length : Int) ≤ u → gv = true) from fun hp => by
              have hp1 : p ∈ lns line (xs.take i) := (hK.out p).1 (of_decide_eq_true hp)
              have hp2 : p ∈ lns line xs := by
                unfold lns at hp1 ⊢
                obtain ⟨a, ha, e⟩ := List.mem_map.1 hp1
                exact List.mem_map.2 ⟨a, List.mem_of_mem_take ha, e⟩
              obtain ⟨blk, ks2, a1, a2, a3, a4⟩ := HM4.out.size p s HSS.out hp2
              refine ⟨blk, ks2, a1, a2, fun hle => ?_⟩
              rw [← HGV.out]
              refine later_hit line u n (by omega) HDV.out (by omega) xs HU.out i hlt (by rw [HPP.out]; exact hp1) ks2 (fun y hy hset => (a4 y).2 ⟨hy, ?_⟩) (by omega)
              rw [HPP.out] at hset
              have b1 := setNo_eq n y (by omega)
              have b2 := setNo_eq n p (by omega)
              rw [hset, b2, HSS.out] at b1
              exact b1.symm)
            clear hzb
            have hcases : ∃ (c1 c2 : Bool) (m : Nat), decide (p ∈ ks) = c1 ∧ (c1 = true → ∃ blk, (∀ q : After W4.heap.size W4, (Instr.lookup 43 (.map (some W2.heap.size)) (.int .i64 s) false).run Try.prog q.W = .ok (.map (some blk)) q.W) ∧ (∀ (q : After W4.heap.size W4) ty, (Builtin.len_ #[32] ty #[.map (some blk)]).run Try.prog q.W = .ok (.int .i64 (m : Int)) q.W)) ∧ decide ((m : Int) ≤ u) = c2 ∧ (c1 = true → c2 = true → gv = true) := by
              obtain ⟨c1, hc1⟩ : ∃ c, decide (p ∈ ks) = c := ⟨_, rfl⟩
              cases c1
              · exact ⟨false, _, 0, hc1, (fun h => by cases h), rfl, (fun h => by cases h)⟩
              · obtain ⟨blk, ks2, a1, a2, a3⟩ := HFAR.out hc1
                refine ⟨true, _, ks2.length, hc1, fun _ => ⟨blk, fun q => ?_, fun q ty => ?_⟩, rfl, fun _ h => a3 (of_decide_eq_true h)⟩
                · have := (HM4.out.below q.below).all.run_look (P := Try.prog) Try.underlying43 Try.underlying3 hzero s
                  rwa [a1] at this
                · have := (a2.below q.below).run_len (P := Try.prog) (ty := ty) Try.underlying32
                  rwa [setP_length] at this
            obtain ⟨c1, c2, m, hc1, hc2, hc3, hc4⟩ := hcases
            rw [hc1] at hlk
            clear hc1 hzero h1 h2 h3
            have hway : (c1 = false ∧ True) ∨ (c1 = true ∧ c2 = true ∧ gv = true) ∨ (c1 = true ∧ c2 = false) := by
              cases c1
              · exact .inl ⟨rfl, trivial⟩
              · cases c2
                · exact .inr (.inr ⟨rfl, rfl⟩)
                · exact .inr (.inl ⟨rfl, rfl, hc4 rfl rfl⟩)
            clear hc4
            rcases hway with ⟨rfl, _⟩ | ⟨rfl, rfl, rfl⟩ | ⟨rfl, rfl⟩
            rotate_left
            obtain ⟨blk, fl, fn⟩ := hc2 rfl
            rotate_left
            obtain ⟨blk, fl, fn⟩ := hc2 rfl
            rotate_left
            all_goals
              clear hc2
              refine region_after (Below.refl W4.heap.size W4) (by kernel_rfl) (by kernel_rfl) ?_
              repeat (go_big_quiet_step (fail))
              refine wpQuiet_nil ?_
              intro _ hw'
              obtain ⟨nq, hw''⟩ := hw'
              subst hw''
              clear f1 f2 f3 hlk
              (try clear fl fn)
              have hb5 := nq.below
              obtain ⟨W5, hW5⟩ : ∃ W, nq.W = W := ⟨_, rfl⟩
              rw [hW5] at hb5
              rw [hW5]
              clear hW5 nq
              obtain ⟨o2, hrun2, hm7, hu7⟩ := (HS4.out.below hb5).run_put (P := Try.prog) Try.underlying32 Try.underlying3 p (.bool true)
              rw [putP_setP] at hm7
              have hb4' := HJ4.out.trans (hb5.mono HJ4.out.size)
              have HB7 := Lib.hid (hb4'.trans (hu7.below hb4'.size fun k (h : k = wo.heap.size) => by omega))
              have HM7 := Lib.hid hm7
              obtain ⟨W7, hW7⟩ : ∃ W, W5.putObj wo.heap.size o2 = W := ⟨_, rfl⟩
              rw [hW7] at hrun2 HB7 HM7
              clear hm7 hu7 hb5 hb4' hW7
              go_wp2_with fail
              go_roundw
              case rel => exact ⟨i + 1, _, by omega, by go_num, HB7, HM7, HKU⟩
              case measure => simp [intOf]; omega
          · go_wp2_with fail
            refine (sane_any wr).mono ?_
            rintro e W9 ⟨rfl, hb9⟩
            go_wp2_with fail
            go_ret
            exact ⟨rfl, (HB2.out.trans (hJ2.out.mono HB2.out.size)).trans (hb9.mono (by have := hJ2.out.size; have := HB2.out.size; omega))⟩
end Go.Proofs.Ytdkacdfhapgboaa
