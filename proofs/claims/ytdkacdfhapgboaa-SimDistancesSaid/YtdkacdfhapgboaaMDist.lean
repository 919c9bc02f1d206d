/- Maps from int, as the list of their entries: length, look-up, store. -/
import Derived.Test.YtdkacdfhapgboaaM11
import Derived.IntWalk
import Derived.Deep.RegionHeld3
import Derived.BigQuiet
import Derived.Deep.QuietTactic
set_option linter.unusedVariables false
set_option linter.unusedSimpArgs false
namespace Go.Proofs.Ytdkacdfhapgboaa
open Go.RowKit

/-- Where an entry is, and what it holds. -/
def lookP : List (Int × Value) → Int → Nat → Option (Nat × Value)
  | [], _, _ => none
  | p :: ps, x, i => if x = p.1 then some (i, p.2) else lookP ps x (i + 1)
def entsOf (ps : List (Int × Value)) : List (Value × Value) := ps.map fun p => (Value.int .i64 p.1, p.2)
/-- Block b is a map from int that holds just these entries. -/
def MapIs (W : World) (b : Nat) (ps : List (Int × Value)) : Prop := ∃ es clock, W.heap[b]? = some (.map es clock) ∧ es.toList.map (fun e => (e.key, e.val)) = entsOf ps
theorem findNow_lookP : ∀ (ps : List (Int × Value)) (es : List MapEntry) (x : Int) (i : Nat), es.map (fun e => (e.key, e.val)) = entsOf ps → Instr.findNow (.int .i64) (.int .i64 x) es i = some (lookP ps x i)
  | [], es, x, i, h => by
    have : es = [] := by simpa [entsOf] using h
    subst this
    rfl
  | p :: ps, [], x, i, h => by simp [entsOf] at h
  | p :: ps, e :: es, x, i, h => by
    simp only [List.map_cons, entsOf, List.cons.injEq, Prod.mk.injEq] at h
    obtain ⟨⟨h1, h2⟩, h3⟩ := h
    have ih := findNow_lookP ps es x (i + 1) h3
    unfold Instr.findNow lookP
    rw [h1, h2]
    by_cases hx : x = p.1
    · simp [Instr.sameNow, hx]
    · have hb : (x == p.1) = false := by simpa using hx
      simp [Instr.sameNow, hx, hb, ih]
theorem lookP_spec : ∀ (ps : List (Int × Value)) (x : Int) (i : Nat), (lookP ps x i = none ∧ ∀ p ∈ ps, p.1 ≠ x) ∨ ∃ (j : Nat) (h : j < ps.length), lookP ps x i = some (i + j, ps[j].2) ∧ ps[j].1 = x
  | [], x, i => .inl ⟨rfl, by simp⟩
  | p :: ps, x, i => by
    unfold lookP
    by_cases hx : x = p.1
    · rw [if_pos hx]; exact .inr ⟨0, by simp, by simp, by simp [hx]⟩
    · rw [if_neg hx]
      rcases lookP_spec ps x (i + 1) with ⟨h1, h2⟩ | ⟨j, hj, h1, h2⟩
      · refine .inl ⟨h1, fun q hq => ?_⟩
        rcases List.mem_cons.1 hq with rfl | hq
        · exact fun e => hx e.symm
        · exact h2 q hq
      · exact .inr ⟨j + 1, by simp; omega, by rw [h1]; simp; omega, by simpa using h2⟩
/-- The entries behind a store. -/
def putP (ps : List (Int × Value)) (x : Int) (v : Value) : List (Int × Value) := match lookP ps x 0 with
  | some (j, _) => ps.set j (x, v)
  | none => ps ++ [(x, v)]
def valP (ps : List (Int × Value)) (x : Int) (z : Value) : Value := ((lookP ps x 0).map (·.2)).getD z

section
variable {P : Program} {W : World} {t kt et : TypeId} {b : Nat} {ps : List (Int × Value)}
theorem MapIs.lt (h : MapIs W b ps) : b < W.heap.size := by obtain ⟨es, c, h1, _⟩ := h; exact (Array.getElem?_eq_some_iff.1 h1).1
theorem MapIs.upd {F : Nat → Prop} {W' : World} (h : MapIs W b ps) (hu : Upd F W W') (hF : ¬ F b) : MapIs W' b ps := by
  have hl := h.lt
  obtain ⟨es, c, h1, h2⟩ := h
  exact ⟨es, c, (hu.block b hl hF).trans h1, h2⟩
theorem MapIs.below {W' : World} (h : MapIs W b ps) (hb : Below W.heap.size W W') : MapIs W' b ps := h.upd (Upd.of_below hb) (by have := h.lt; omega)
theorem MapIs.made (W : World) : MapIs (W.alloc (.map #[] 0)) W.heap.size [] := ⟨#[], 0, heap_alloc_new W _, rfl⟩
theorem MapIs.run_len {ty : TypeId} (h : MapIs W b ps) (hu : P.underlying t = some (.map kt et)) : (Builtin.len_ #[t] ty #[.map (some b)]).run P W = .ok (.int .i64 (ps.length : Int)) W := by
  obtain ⟨es, c, h1, h2⟩ := h
  have hl : es.size = ps.length := by have := congrArg List.length h2; simpa [entsOf] using this
  simp [Builtin.len_, run_underlying hu, MapKept.run_getObj_map h1, hl, goInt]
theorem MapIs.run_look (h : MapIs W b ps) (hu : P.underlying t = some (.map kt et)) (hk : P.underlying kt = some (.int .i64)) {z : Value} (hz : ∀ W, (zeroValue et).run P W = .ok z W) (x : Int) :
    (Instr.lookup t (.map (some b)) (.int .i64 x) false).run P W = .ok (valP ps x z) W := by
  obtain ⟨es, c, h1, h2⟩ := h
  have hf := findNow_lookP ps es.toList x 0 h2
  unfold valP
  rcases ho : lookP ps x 0 with _ | ⟨i, v⟩
  · rw [ho] at hf
    simp [Instr.lookup, run_underlying hu, MapKept.run_getObj_map h1, MapKept.run_checkKey hk (show MapKept.IsKey (.int .i64) (.int .i64 x) from rfl), MapKept.run_findKey hk hf, hz]
  · rw [ho] at hf
    simp [Instr.lookup, run_underlying hu, MapKept.run_getObj_map h1, MapKept.run_checkKey hk (show MapKept.IsKey (.int .i64) (.int .i64 x) from rfl), MapKept.run_findKey hk hf]
theorem MapIs.run_put (h : MapIs W b ps) (hu : P.underlying t = some (.map kt et)) (hk : P.underlying kt = some (.int .i64)) (x : Int) (v : Value) :
    ∃ o, (Instr.mapUpdate t (.map (some b)) (.int .i64 x) v).run P W = .ok () (W.putObj b o) ∧ MapIs (W.putObj b o) b (putP ps x v) ∧ Upd (fun k => k = b) W (W.putObj b o) := by
  obtain ⟨es, c, h1, h2⟩ := h
  have hf := findNow_lookP ps es.toList x 0 h2
  unfold putP
  rcases lookP_spec ps x 0 with ⟨ho, hn⟩ | ⟨j, hj, ho, hx⟩
  · rw [ho] at hf
    refine ⟨.map (es.push ⟨.int .i64 x, v, c⟩) (c + 1), run_mapNew hu hk h1 x v hf, ⟨_, _, putObj_get h1, ?_⟩, putObj_upd _ _ _⟩
    rw [ho]
    simp only [Array.toList_push, List.map_append, h2]
    simp [entsOf]
  · rw [ho] at hf
    have hel : es.toList.length = ps.length := by have := congrArg List.length h2; simpa [entsOf] using this
    have hje : j < es.size := by rw [← Array.length_toList]; omega
    have hkey : es[j].key = .int .i64 x := by
      have e := congrArg (fun l => l[j]?) h2
      simp only [entsOf, List.getElem?_map] at e
      rw [List.getElem?_eq_getElem hj, List.getElem?_eq_getElem (by omega : j < es.toList.length)] at e
      simp only [Option.map_some, Option.some.injEq, Prod.mk.injEq] at e
      rw [hx] at e
      simpa using e.1
    refine ⟨.map (es.modify j fun e => { e with key := .int .i64 x, val := v }) c, ?_, ⟨_, _, putObj_get h1, ?_⟩, putObj_upd _ _ _⟩
    · have hjj : es[j]? = some es[j] := Array.getElem?_eq_getElem hje
      simp only [Nat.zero_add] at hf
      simp [Instr.mapUpdate, run_underlying hu, MapKept.run_getObj_map h1, MapKept.run_checkKey hk (show MapKept.IsKey (.int .i64) (.int .i64 x) from rfl), MapKept.run_findKey hk hf, hjj, hkey, MapKept.run_keyThatStays (d := .int .i64) (show MapKept.IsKey (.int .i64) (.int .i64 x) from rfl), MapKept.run_setObj_map _ h1, World.putObj]
    · rw [ho]
      simp only [Nat.zero_add]
      refine List.ext_getElem? fun i => ?_
      have e := congrArg (fun l => l[i]?) h2
      simp only [entsOf, List.getElem?_map, Array.getElem?_toList] at e
      simp only [entsOf, List.getElem?_map, Array.getElem?_toList, Array.getElem?_modify, List.getElem?_set]
      by_cases hij : j = i
      · subst hij
        simp [hje, hj, Array.getElem?_eq_getElem hje]
      · simp [hij, e]
end
/-- A set of numbers. -/
def setP (ks : List Int) : List (Int × Value) := ks.map fun x => (x, Value.bool true)
@[simp] theorem setP_length (ks : List Int) : (setP ks).length = ks.length := by simp [setP]
theorem lookP_setP (x : Int) : ∀ (ks : List Int) (i : Nat), (x ∉ ks ∧ lookP (setP ks) x i = none) ∨ (x ∈ ks ∧ ∃ j, lookP (setP ks) x i = some (i + j, .bool true) ∧ ks[j]? = some x)
  | [], i => .inl ⟨by simp, rfl⟩
  | k :: ks, i => by
    by_cases h : x = k
    · subst h; exact .inr ⟨by simp, 0, by simp [setP, lookP], by simp⟩
    · rcases lookP_setP x ks (i + 1) with ⟨h1, h2⟩ | ⟨h1, j, h2, h3⟩
      · refine .inl ⟨by simp [h, h1], ?_⟩
        simpa [setP, lookP, h] using h2
      · refine .inr ⟨by simp [h1], j + 1, ?_, by simpa using h3⟩
        have h2' : lookP (setP (k :: ks)) x i = lookP (setP ks) x (i + 1) := by simp [setP, lookP, h]
        rw [h2', h2]
        congr 2
        omega
def addS (ks : List Int) (x : Int) : List Int := if x ∈ ks then ks else ks ++ [x]
theorem mem_addS (ks : List Int) (x y : Int) : y ∈ addS ks x ↔ y ∈ ks ∨ y = x := by
  unfold addS
  by_cases h : x ∈ ks
  · rw [if_pos h]; exact ⟨.inl, fun h' => h'.elim id fun e => e ▸ h⟩
  · rw [if_neg h]; simp
theorem addS_nodup {ks : List Int} (x : Int) (h : ks.Nodup) : (addS ks x).Nodup := by
  unfold addS
  by_cases hx : x ∈ ks
  · rw [if_pos hx]; exact h
  · rw [if_neg hx]
    refine List.nodup_append.2 ⟨h, by simp, fun a ha b hb => ?_⟩
    rcases List.mem_singleton.1 hb with rfl
    exact fun e => hx (e ▸ ha)
theorem putP_setP (ks : List Int) (x : Int) : putP (setP ks) x (.bool true) = setP (addS ks x) := by
  unfold putP addS
  rcases lookP_setP x ks 0 with ⟨h1, h2⟩ | ⟨h1, j, h2, h3⟩
  · rw [h2, if_neg h1]; simp [setP]
  · rw [h2, if_pos h1]
    simp only [Nat.zero_add]
    obtain ⟨hj, hx⟩ := List.getElem?_eq_some_iff.1 h3
    have hjs : j < (setP ks).length := by simpa using hj
    refine List.ext_getElem? fun i => ?_
    rw [List.getElem?_set]
    by_cases hij : j = i
    · subst hij
      simp [setP, hj, hx]
    · simp [hij]
theorem valP_setP (ks : List Int) (x : Int) : valP (setP ks) x (.bool false) = .bool (decide (x ∈ ks)) := by
  unfold valP
  rcases lookP_setP x ks 0 with ⟨h1, h2⟩ | ⟨h1, j, h2, h3⟩
  · rw [h2]; simp [h1]
  · rw [h2]; simp [h1]
end Go.Proofs.Ytdkacdfhapgboaa

/- SimDistances: an access hits exactly if few lines of its set were used since. -/
set_option linter.unusedVariables false
set_option linter.unusedSimpArgs false
namespace Go.Proofs.Ytdkacdfhapgboaa
open Go.RowKit

set_option maxRecDepth 100000 in
set_option maxHeartbeats 1000000 in
theorem of_any (z b : Nat) (A : Option Addr) (xs : List Int) (cap : Nat) (line : Int) (i : Nat) (hi : i < xs.length) (w : World) (hr : RdI w .u32 A xs.length xs) (hu : ∀ x ∈ xs, 0 ≤ x ∧ x < 4294967296) (hl : 1 ≤ line ∧ line ≤ 256)
    (h1 : w.cell? ⟨z, 0, none⟩ = some (.slice A xs.length cap)) (h2 : w.cell? ⟨b, 0, none⟩ = some (.int .i64 line)) :
    Calls Try.prog 15 #[.int .i64 (i : Int), .pointer (some ⟨z, 0, none⟩), .pointer (some ⟨b, 0, none⟩)] w fun e w' => e = .returned (.int .i64 (gi xs i / line)) ∧ Below w.heap.size w w' := by
  obtain ⟨ad, e0, x0⟩ := hr.at i hi
  subst e0
  have hle := hr.le
  obtain ⟨p1, p2⟩ := hu _ (gi_mem xs i hi)
  obtain ⟨l1, l2⟩ := hl
  obtain ⟨P, hP⟩ : ∃ P, gi xs i = P := ⟨_, rfl⟩
  rw [hP] at x0 p1 p2 ⊢
  obtain ⟨p, hp⟩ : ∃ p, P / line = p := ⟨_, rfl⟩
  have hp2 : 0 ≤ p ∧ p ≤ P := by rw [← hp]; exact ⟨Int.ediv_nonneg p1 (by omega), Int.ediv_le_self _ p1⟩
  have hpt : P.tdiv line = p := by rw [Int.tdiv_eq_ediv_of_nonneg p1, hp]
  have hpu : IntKind.u32.wrap p = p := IntWalk.u32_in _ (by omega)
  have hpi : IntKind.i64.wrap p = p := IntWalk.i64_in _ (by omega)
  have hwl : IntKind.u32.wrap line = line := IntWalk.u32_in _ (by omega)
  have hl0 : ¬ line = 0 := by omega
  have hi0 : (0 : Int) ≤ (i : Int) := by omega
  have hii : (i : Int) < (xs.length : Int) := by omega
  rw [hp]
  clear hr hu hP hp
  go_enter Try.func15, Try.ntmps15
  go_wp2_with fail
  go_quiet (fail)
  go_wp2_with fail
  go_ret
  exact ⟨rfl, bdrewN (Below.refl _ _) _⟩

/-- What the inner loop knows: behind access j the lines of the set used since, none of them access i's own. -/
structure Since (xs : List Int) (line : Int) (n i j : Nat) (ks : List Int) : Prop where
  nodup : ks.Nodup
  mem : ∀ y, y ∈ ks ↔ ∃ m, j ≤ m ∧ m < i ∧ gi xs m / line = y ∧ setNo n y = setNo n (gi xs i / line)
  no : ∀ m, j ≤ m → m < i → gi xs m / line ≠ gi xs i / line
theorem Since.start (xs : List Int) (line : Int) (n i : Nat) : Since xs line n i i [] :=
  ⟨List.nodup_nil, fun y => ⟨fun h => absurd h (by simp), fun ⟨m, h1, h2, _⟩ => by omega⟩, fun m h1 h2 => by omega⟩
theorem Since.other {xs : List Int} {line : Int} {n i j : Nat} {ks : List Int} (H : Since xs line n i (j + 1) ks) (hne : gi xs j / line ≠ gi xs i / line) (hs : setNo n (gi xs j / line) ≠ setNo n (gi xs i / line)) : Since xs line n i j ks := by
  refine ⟨H.nodup, fun y => ?_, fun m h1 h2 => ?_⟩
  · rw [H.mem]
    constructor
    · rintro ⟨m, h1, h2, h3, h4⟩
      exact ⟨m, by omega, h2, h3, h4⟩
    · rintro ⟨m, h1, h2, h3, h4⟩
      by_cases e : m = j
      · subst e
        rw [← h3] at h4
        exact absurd h4 hs
      · exact ⟨m, by omega, h2, h3, h4⟩
  · by_cases e : m = j
    · subst e; exact hne
    · exact H.no m (by omega) h2
theorem Since.one {xs : List Int} {line : Int} {n i j : Nat} {ks : List Int} (H : Since xs line n i (j + 1) ks) (hji : j < i) (hne : gi xs j / line ≠ gi xs i / line) (hs : setNo n (gi xs j / line) = setNo n (gi xs i / line)) : Since xs line n i j (addS ks (gi xs j / line)) := by
  refine ⟨addS_nodup _ H.nodup, fun y => ?_, fun m h1 h2 => ?_⟩
  · rw [mem_addS, H.mem]
    constructor
    · rintro (⟨m, h1, h2, h3, h4⟩ | rfl)
      · exact ⟨m, by omega, h2, h3, h4⟩
      · exact ⟨j, Nat.le_refl _, hji, rfl, hs⟩
    · rintro ⟨m, h1, h2, h3, h4⟩
      by_cases e : m = j
      · subst e; exact .inr h3.symm
      · exact .inl ⟨m, by omega, h2, h3, h4⟩
  · by_cases e : m = j
    · subst e; exact hne
    · exact H.no m (by omega) h2
theorem Since.miss {xs : List Int} {line ways : Int} {n i : Nat} {ks : List Int} (H : Since xs line n i 0 ks) (h1 : 1 ≤ line) (hd : 4294967296 % line = 0) (hn : 1 ≤ n) (hu : ∀ x ∈ xs, 0 ≤ x ∧ x < 4294967296) (hi : i < xs.length) : gb (replayL line n ways (List.replicate n []) xs).2 i = false := by
  refine first_miss line ways n h1 hd hn xs hu i hi fun h => ?_
  unfold lns at h
  obtain ⟨a, ha, e⟩ := List.mem_map.1 h
  obtain ⟨m, hm, e2⟩ := List.getElem_of_mem ha
  rw [List.length_take] at hm
  rw [List.getElem_take] at e2
  refine H.no m (Nat.zero_le _) (by omega) ?_
  rw [gi_get xs m (by omega), e2, e]
theorem Since.hit {xs : List Int} {line ways : Int} {n i j : Nat} {ks : List Int} (H : Since xs line n i (j + 1) ks) (hji : j < i) (h1 : 1 ≤ line) (hd : 4294967296 % line = 0) (hn : 1 ≤ n) (hu : ∀ x ∈ xs, 0 ≤ x ∧ x < 4294967296) (hi : i < xs.length) (he : gi xs j / line = gi xs i / line) : gb (replayL line n ways (List.replicate n []) xs).2 i = decide (ks.length < ways.toNat) :=
  distance_hit line ways n h1 hd hn xs hu i hi j hji he (fun m h1 h2 => H.no m (by omega) h2) ks H.nodup fun y => by
    rw [H.mem]
    exact ⟨fun ⟨m, h1, h2⟩ => ⟨m, by omega, h2⟩, fun ⟨m, h1, h2⟩ => ⟨m, by omega, h2⟩⟩

attribute [local irreducible] World.setCell in
set_option maxRecDepth 100000 in
set_option maxHeartbeats 4000000 in
theorem distances_any (a b d : Int) (ha : 0 ≤ a ∧ a < 256) (hb : 0 ≤ b ∧ b < 256) (hd : 0 ≤ d ∧ d < 256) (A : Option Addr) (xs : List Int) (cap : Nat) (w : World) (hr : RdI w .u32 A xs.length xs) (hu : ∀ x ∈ xs, 0 ≤ x ∧ x < 4294967296) (hm : xs.length ≤ 9223372036854775807) :
    Calls Try.prog 3 #[.int .u8 a, .int .u8 b, .int .u8 d, .slice A xs.length cap] w fun e w' => e = .returned (.bool true) ∧ Below w.heap.size w w' := by
  have HU := Lib.hid hu
  have HA := Lib.hid ha
  have HB := Lib.hid hb
  have HDD := Lib.hid hd
  obtain ⟨W0, hW0⟩ : ∃ W0, w.alloc (.cells #[.slice A xs.length cap] 22) = W0 := ⟨_, rfl⟩
  have hb0 : Below w.heap.size w W0 := by rw [← hW0]; exact balloc w _
  have hx0 : W0.heap[w.heap.size]? = some (.cells #[.slice A xs.length cap] 22 (0, 0)) := by rw [← hW0]; exact heap_alloc_new w _
  have HR := Lib.hid (show RdI W0 .u32 A xs.length xs from Rd.below hr hb0)
  have HB0 := Lib.hid hb0
  have HX0 := Lib.hid hx0
  have c0 : W0.cell? ⟨w.heap.size, 0, none⟩ = some (.slice A xs.length cap) := boxAt (i := 0) hx0 rfl
  clear hr hu ha hb hd hb0 hx0
  by_cases hlen : 200 < xs.length
  · go_enter Try.func3, Try.ntmps3
    go_wp2_with fail
    refine (sane_any _).mono ?_
    rintro e W ⟨rfl, hb⟩
    go_wp2
    go_ret
    exact ⟨rfl, bvia HB0.out hb (Nat.le_refl _)⟩
  · go_enter Try.func3, Try.ntmps3
    go_wp2_with fail
    refine (shaped_any a b d HA.out HB.out HDD.out _).mono ?_
    rintro e W1 ⟨rfl, hb1⟩
    obtain ⟨hs1, hs2⟩ := setsOf_le b
    obtain ⟨n, hn⟩ : ∃ n : Nat, setsOf b = n := ⟨_, rfl⟩
    have hsh := shape_of a b d
    obtain ⟨hdv, hl1, hl2⟩ := lineOf_dvd a
    have hw12 : 1 ≤ waysOf d ∧ waysOf d ≤ 16 := by unfold waysOf; have := HDD.out; omega
    obtain ⟨line, hline⟩ : ∃ line, lineOf a = line := ⟨_, rfl⟩
    obtain ⟨u, hW⟩ : ∃ u, waysOf d = u := ⟨_, rfl⟩
    rw [hline, hn, hW] at hsh
    rw [hline] at hdv hl1 hl2
    rw [hW] at hw12
    rw [hn] at hs1 hs2
    rw [hline, hn, hW]
    obtain ⟨hw1, hw2⟩ := hw12
    have HSH := Lib.hid hsh
    have HDV := Lib.hid hdv
    have HBA := Lib.hid (bvia HB0.out hb1 (Nat.le_refl _))
    have HXA := Lib.hid (belowBox hb1 HX0.out)
    obtain ⟨V1, hV1⟩ : ∃ V, W1.alloc (.cells #[.int .i64 line, .int .i64 (n : Int), .int .i64 u] 25) = V := ⟨_, rfl⟩
    have hbv : Below W1.heap.size W1 V1 := by rw [← hV1]; exact balloc _ _
    have hx1 : V1.heap[W1.heap.size]? = some (.cells #[.int .i64 line, .int .i64 (n : Int), .int .i64 u] 25 (0, 0)) := by rw [← hV1]; exact heap_alloc_new _ _
    have HB1 := Lib.hid (HBA.out.trans (hbv.mono HBA.out.size))
    have HR1 := Lib.hid (show RdI V1 .u32 A xs.length xs from Rd.below (Rd.below HR.out hb1) hbv)
    have y0 := boxAt (i := 0) hx1 rfl
    have y1 := boxAt (i := 1) hx1 rfl
    have y2 := boxAt (i := 2) hx1 rfl
    have z0 := boxAt (i := 0) (belowBox hbv HXA.out) rfl
    have HX1 := Lib.hid hx1
    have HZ1 := Lib.hid (belowBox hbv HXA.out)
    clear hsh hdv hline hn hW hb1 hbv hx1 c0
    go_wp2_with fail
    refine (replayed_any line u n A cap xs _ HSH.out HR1.out (by omega) HU.out).mono ?_
    rintro e W2 ⟨q1, rfl, ho1, hb2⟩
    obtain ⟨A1, c1, rfl, hg1⟩ := own_rd ho1
    have HB2 := Lib.hid (HB1.out.trans (hb2.mono HB1.out.size))
    have HR2 := Lib.hid (show RdI W2 .u32 A xs.length xs from Rd.below HR1.out hb2)
    have HX2 := Lib.hid (belowBox hb2 HX1.out)
    have HZ2 := Lib.hid (belowBox hb2 HZ1.out)
    have HG := Lib.hid (show RdB W2 A1 xs.length _ from hg1)
    have z1 := boxAt (i := 0) HZ2.out rfl
    clear ho1 hb2 hg1 y0 y1 y2 z0
    go_wp2_with fail
    go_loopw [36] (fun i wr => ∃ k : Nat, k ≤ xs.length ∧ i = .int .i64 k ∧ Hid (Below W2.heap.size W2 wr)) (fun i _ => xs.length - (intOf i).toNat)
    case atStart => exact ⟨0, Nat.zero_le _, rfl, Lib.hid (Below.refl _ _)⟩
    case round =>
      obtain ⟨i, hi, rfl, hI⟩ := hrel
      obtain ⟨wo, rfl⟩ : ∃ wo, wo = wr := ⟨wr, rfl⟩
      by_cases hlt : i < xs.length
      · have hmk : ∀ W : World, (Instr.makeMap 32 none).run Try.prog W = .ok (.map (some W.heap.size)) (W.alloc (.map #[] 0)) := fun W => rfl
        obtain ⟨W3, hW3⟩ : ∃ W3, wo.alloc (.map #[] 0) = W3 := ⟨_, rfl⟩
        have hb3 : Below wo.heap.size wo W3 := by rw [← hW3]; exact balloc _ _
        have HM3 := Lib.hid (show MapIs W3 wo.heap.size (setP []) by rw [← hW3]; exact MapIs.made wo)
        have HB3 := Lib.hid (hI.out.trans (hb3.mono hI.out.size))
        have hwri : IntKind.i64.wrap ((i : Int) - 1) = (i : Int) - 1 := IntWalk.i64_in _ (by omega)
        have hws : W2.heap.size ≤ wo.heap.size := hI.out.size
        have HWS := Lib.hid hws
        clear hb3 hws
        go_wp2_with fail
        clear hW3
        go_loopw [15, 16] (fun hv kv wr => ∃ (kk : Int) (j : Nat) (ks : List Int), hv = .bool false ∧ kv = .int .i64 kk ∧ Hid (kk + 1 = (j : Int)) ∧ j ≤ i ∧ Hid (Below W2.heap.size W2 wr) ∧ Hid (MapIs wr wo.heap.size (setP ks)) ∧ Hid (Since xs line n i j ks)) (fun _ kv _ => (intOf kv + 1).toNat)
        case atStart => exact ⟨(i : Int) - 1, i, [], rfl, rfl, Lib.hid (by omega), Nat.le_refl _, HB3, HM3, Lib.hid (Since.start xs line n i)⟩
        case round =>
          obtain ⟨kk, j, ks, rfl, rfl, hkj, hj, hJ, hMs, hSn⟩ := hrel
          obtain ⟨ad2, e2, g0⟩ := (show RdB wr A1 xs.length _ from Rd.below HG.out hJ.out).at i hlt
          subst e2
          obtain ⟨gv, hgv⟩ : ∃ gv, gb (replayL line n u (List.replicate n []) xs).2 i = gv := ⟨_, rfl⟩
          rw [hgv] at g0
          have HGV := Lib.hid hgv
          clear hgv
          by_cases hneg : kk < 0
          · have hj0 : j = 0 := by have := hkj.out; omega
            subst hj0
            obtain rfl : gv = false := by rw [← HGV.out]; exact hSn.out.miss (by omega) HDV.out (by omega) HU.out hlt
            go_wp2_with fail
            go_roundw
            case rel => exact ⟨i + 1, by omega, by go_num, hJ⟩
            case measure => simp [intOf]; omega
          · obtain ⟨m, hm2⟩ : ∃ m : Nat, kk = (m : Int) := ⟨kk.toNat, by omega⟩
            subst hm2
            have hjm : j = m + 1 := by have := hkj.out; omega
            subst hjm
            clear hneg
            have c0 := boxAt (i := 0) (belowBox hJ.out HZ2.out) rfl
            have c1 := boxAt (i := 0) (belowBox hJ.out HX2.out) rfl
            go_wp2_with fail
            refine (of_any w.heap.size W1.heap.size A xs cap line m (by omega) _ (show RdI wr .u32 A xs.length xs from Rd.below HR2.out hJ.out) HU.out ⟨by omega, by omega⟩ c0 c1).mono ?_
            rintro e W5 ⟨rfl, hb5⟩
            have d0 := bkeep hb5 c0
            have d1 := bkeep hb5 c1
            have hb5' := hJ.out.trans (hb5.mono hJ.out.size)
            clear c0 c1
            go_wp2_with fail
            refine (of_any w.heap.size W1.heap.size A xs cap line i (by omega) _ (show RdI W5 .u32 A xs.length xs from Rd.below HR2.out hb5') HU.out ⟨by omega, by omega⟩ d0 d1).mono ?_
            rintro e W6 ⟨rfl, hb6⟩
            have HB56 := Lib.hid (hb5.trans (hb6.mono hb5.size))
            have HB6 := Lib.hid (hb5'.trans (hb6.mono hb5'.size))
            have HM6 := Lib.hid (hMs.out.below HB56.out)
            have HX6 := Lib.hid (belowBox HB6.out HX2.out)
            have HZ6 := Lib.hid (belowBox HB6.out HZ2.out)
            have g6 := bkeep HB56.out g0
            clear g0 d0 d1 hb5' hb5 hb6
            obtain ⟨pm, hpm⟩ : ∃ pm, gi xs m / line = pm := ⟨_, rfl⟩
            obtain ⟨pi, hpi⟩ : ∃ pi, gi xs i / line = pi := ⟨_, rfl⟩
            rw [hpm, hpi]
            have hml : m < xs.length := by omega
            have hpm0 : 0 ≤ pm ∧ pm < 4294967296 := by
              have h1 := HU.out _ (gi_mem xs m hml)
              have h2 := Int.ediv_le_self line h1.1
              rw [← hpm]
              exact ⟨Int.ediv_nonneg h1.1 (by omega), by have := Int.ediv_le_self line h1.1; omega⟩
            have hpi0 : 0 ≤ pi ∧ pi < 4294967296 := by
              have h1 := HU.out _ (gi_mem xs i hlt)
              rw [← hpi]
              exact ⟨Int.ediv_nonneg h1.1 (by omega), by have := Int.ediv_le_self line h1.1; omega⟩
            have HPM := Lib.hid hpm
            have HPI := Lib.hid hpi
            clear hpm hpi
            by_cases he : pm = pi
            · have hhit := hSn.out.hit (ways := u) (by omega) (by omega) HDV.out (by omega) HU.out hlt (by rw [HPM.out, HPI.out, he])
              rw [HGV.out] at hhit
              have hln : ∀ ty, (Builtin.len_ #[32] ty #[.map (some wo.heap.size)]).run Try.prog W6 = .ok (.int .i64 ((setP ks).length : Int)) W6 := fun ty => HM6.out.run_len Try.underlying32
              rw [setP_length] at hln
              obtain ⟨q, hq⟩ : ∃ q, ks.length = q := ⟨_, rfl⟩
              rw [hq] at hln hhit
              have u6 := boxAt (i := 2) HX6.out rfl
              subst he
              clear hq
              have hc : ((q : Int) < u ∧ gv = true) ∨ (¬ (q : Int) < u ∧ gv = false) := by
                rw [hhit]
                by_cases h : (q : Int) < u
                · exact .inl ⟨h, decide_eq_true (by omega)⟩
                · exact .inr ⟨h, decide_eq_false (by omega)⟩
              clear hhit
              rcases hc with ⟨hq, rfl⟩ | ⟨hq, rfl⟩
              all_goals
                go_wp2_with fail
                go_roundw
                case rel => exact ⟨i + 1, by omega, by go_num, HB6⟩
                case measure => simp [intOf]; omega
            · have hne : gi xs m / line ≠ gi xs i / line := by rw [HPM.out, HPI.out]; exact he
              have HNE := Lib.hid hne
              clear hne
              have hsm : pm.tmod (n : Int) = pm % (n : Int) := Int.tmod_eq_emod_of_nonneg hpm0.1
              have hsi : pi.tmod (n : Int) = pi % (n : Int) := Int.tmod_eq_emod_of_nonneg hpi0.1
              obtain ⟨sm, hsm2⟩ : ∃ sm, pm % (n : Int) = sm := ⟨_, rfl⟩
              obtain ⟨si, hsi2⟩ : ∃ si, pi % (n : Int) = si := ⟨_, rfl⟩
              have hm0 : 0 ≤ sm ∧ sm < (n : Int) := by rw [← hsm2]; exact ⟨Int.emod_nonneg _ (by omega), Int.emod_lt_of_pos _ (by omega)⟩
              have hi0 : 0 ≤ si ∧ si < (n : Int) := by rw [← hsi2]; exact ⟨Int.emod_nonneg _ (by omega), Int.emod_lt_of_pos _ (by omega)⟩
              rw [hsm2] at hsm
              rw [hsi2] at hsi
              have hwm : IntKind.i64.wrap sm = sm := IntWalk.i64_in _ (by omega)
              have hwi : IntKind.i64.wrap si = si := IntWalk.i64_in _ (by omega)
              have hn0 : ¬ (n : Int) = 0 := by omega
              have HSM := Lib.hid hsm2
              have HSI := Lib.hid hsi2
              have z6 := boxAt (i := 0) HZ6.out rfl
              have l6 := boxAt (i := 0) HX6.out rfl
              have n6 := boxAt (i := 1) HX6.out rfl
              have HQM := Lib.hid (fun q : After W6.heap.size W6 => of_any w.heap.size W1.heap.size A xs cap line m (by omega) q.W (show RdI q.W .u32 A xs.length xs from Rd.below (Rd.below HR2.out HB6.out) q.below) HU.out ⟨by omega, by omega⟩ (After.cell z6 q) (After.cell l6 q))
              have HQI := Lib.hid (fun q : After W6.heap.size W6 => of_any w.heap.size W1.heap.size A xs cap line i (by omega) q.W (show RdI q.W .u32 A xs.length xs from Rd.below (Rd.below HR2.out HB6.out) q.below) HU.out ⟨by omega, by omega⟩ (After.cell z6 q) (After.cell l6 q))
              rw [HPM.out] at HQM
              rw [HPI.out] at HQI
              have HM0 := Lib.hid hpm0
              have HI0 := Lib.hid hpi0
              clear hsm2 hsi2 z6 l6 hm0 hi0 hpm0 hpi0
              go_wp2_with fail
              have f1 := After.cell n6
              refine region_after (Below.refl W6.heap.size W6) (by kernel_rfl) (by kernel_rfl) ?_
              repeat (go_big_quiet_step (first
                | (go_at_call 15; (with_reducible exact calls_after (Nat.le_refl _) (HQM.out _)))
                | (go_at_call 15; (with_reducible exact calls_after (Nat.le_refl _) (HQI.out _)))))
              refine wpQuiet_nil ?_
              intro _ hw'
              obtain ⟨nq, hw''⟩ := hw'
              subst hw''
              clear f1 n6
              have hb7 := nq.below
              obtain ⟨W7, hW7⟩ : ∃ W, nq.W = W := ⟨_, rfl⟩
              rw [hW7] at hb7
              rw [hW7]
              have HB7 := Lib.hid (HB6.out.trans (hb7.mono HB6.out.size))
              have HM7 := Lib.hid (HM6.out.below hb7)
              have HX7 := Lib.hid (belowBox hb7 HX6.out)
              have HZ7 := Lib.hid (belowBox hb7 HZ6.out)
              clear hW7 nq hb7 g6
              by_cases hss : sm = si
              · subst hss
                have hset : setNo n (gi xs m / line) = setNo n (gi xs i / line) := by unfold setNo; rw [HPM.out, HPI.out, HSM.out, HSI.out]
                have HNX := Lib.hid (hSn.out.one (by omega) HNE.out hset)
                rw [HPM.out] at HNX
                have z7 := boxAt (i := 0) HZ7.out rfl
                have l7 := boxAt (i := 0) HX7.out rfl
                clear hset
                go_wp2_with fail
                refine (of_any w.heap.size W1.heap.size A xs cap line m (by omega) _ (show RdI W7 .u32 A xs.length xs from Rd.below HR2.out HB7.out) HU.out ⟨by omega, by omega⟩ z7 l7).mono ?_
                rintro e W8 ⟨rfl, hb8⟩
                rw [HPM.out]
                obtain ⟨o, hrun, hm9, hu9⟩ := (HM7.out.below hb8).run_put (P := Try.prog) Try.underlying32 Try.underlying3 pm (.bool true)
                rw [putP_setP] at hm9
                have hb8' := HB7.out.trans (hb8.mono HB7.out.size)
                have HB9 := Lib.hid (hb8'.trans (hu9.below hb8'.size fun k (h : k = wo.heap.size) => by have := HWS.out; omega))
                have HM9 := Lib.hid hm9
                obtain ⟨W9, hW9⟩ : ∃ W, W8.putObj wo.heap.size o = W := ⟨_, rfl⟩
                rw [hW9] at hrun HB9 HM9
                clear hm9 hu9 hb8 hb8' z7 l7 hW9
                go_wp2_with fail
                go_roundw
                case rel => exact ⟨(m : Int) - 1, m, _, rfl, rfl, Lib.hid (by omega), by omega, HB9, HM9, HNX⟩
                case measure => simp [intOf]
              · have hset : setNo n (gi xs m / line) ≠ setNo n (gi xs i / line) := by
                  have h1 : 0 ≤ sm := by rw [← HSM.out]; exact Int.emod_nonneg _ (by omega)
                  have h2 : 0 ≤ si := by rw [← HSI.out]; exact Int.emod_nonneg _ (by omega)
                  unfold setNo
                  rw [HPM.out, HPI.out, HSM.out, HSI.out]
                  omega
                have HNX := Lib.hid (hSn.out.other HNE.out hset)
                clear hset
                go_wp2_with fail
                go_roundw
                case rel => exact ⟨(m : Int) - 1, m, ks, rfl, rfl, Lib.hid (by omega), by omega, HB7, HM7, HNX⟩
                case measure => simp [intOf]
      · go_wp2_with fail
        refine (sane_any wo).mono ?_
        rintro e W9 ⟨rfl, hb9⟩
        go_wp2_with fail
        go_ret
        exact ⟨rfl, (HB2.out.trans (hI.out.mono HB2.out.size)).trans (hb9.mono (by have := hI.out.size; have := HB2.out.size; omega))⟩
end Go.Proofs.Ytdkacdfhapgboaa
