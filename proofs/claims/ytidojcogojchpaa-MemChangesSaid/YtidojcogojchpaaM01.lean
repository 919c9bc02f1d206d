/- Part 1 of the texts that the proof stands on: Base, Row, MU, MF, MFE, MI, MN, MLay, MK, MH, MT, MA, MW, After, MC, MM, MMo, MP. -/
import Derived.Test.YtidojcogojchpaaProg
import Derived.WalkKit
import Derived.WalkSpells
import Derived.WalkLawsBesides
import Derived.KernelRfl
import Derived.Lib.Hide
import Derived.StillTailTactics
import Derived.Lib.AppendZerosOnto
import Derived.Lib.Overlaps
import Derived.Laws.Externs
import Derived.Laws.CopyOwn
import Derived.RangeFuncNested
import Derived.RangeFuncBound
import Derived.RangeFuncCalls
import Derived.RangeFuncLeaves
import Derived.RangeFuncBox
import Derived.Shelf.Abstract
import Derived.Shelf.RegionOpen
import Derived.OwnWalkIn
import Derived.TacticsInMore
import Derived.LoopNIn
import Derived.LoopIn
import Derived.Sort.QuietIn
import Derived.Maps.Keyed
import Derived.Maps.Own
import Derived.Lib.SlKeysI
import Derived.Carry
import Derived.Shelf.SlIterI.Nil
import Derived.Shelf.SlIterI.Sorted
import Derived.Shelf.SortM.Plain
import Derived.Shelf.SortM.SortNone
import Derived.Maps.OwnOps
import Derived.Lib.AppendZeros
import Derived.Deep.QuietTactic
import Derived.BigQuiet
import Derived.StillTail
import Derived.Deep.MidRow
import Derived.Deep.RegionHeld3

/- Words on memory that all texts of this seat share: how a slice's cells are read; what stays as it was. -/
namespace Go.Proofs.Ytidojcogojchpaa
open Go.RowKit

/-! ### What stays as it was -/
theorem bvia {B : Nat} {w w1 w2 : World} (h : Below B w w1) (k : Below w1.heap.size w1 w2) (hB : B ≤ w.heap.size) : Below B w w2 :=
  h.trans (k.mono (Nat.le_trans hB h.size))
theorem balloc (w : World) (o : Obj) : Below w.heap.size w (w.alloc o) := (Below.refl _ _).alloc (Nat.le_refl _) _
theorem bcell {W w1 : World} (hb : Below W.heap.size W w1) : (∀ b o, b < W.heap.size → w1.cell? ⟨b, o, none⟩ = W.cell? ⟨b, o, none⟩) ∧ (∀ b o, b < W.heap.size → w1.frozen? ⟨b, o, none⟩ = W.frozen? ⟨b, o, none⟩) :=
  ⟨fun b o h => hb.cell (p := ⟨b, o, none⟩) h, fun b o h => hb.frozen (p := ⟨b, o, none⟩) h⟩
theorem bkeep {w w1 : World} (h : Below w.heap.size w w1) {a : Addr} {v : Value} (hc : w.cell? a = some v) : w1.cell? a = some v := (h.cell (World.block_lt_of_cell? w a hc)).trans hc

/-! ### Reading a slice: 'cs' are the cells of its elements -/
structure Rd (w : World) (A : Option Addr) (n sz : Nat) (cs : List Value) : Prop where
  len : cs.length = n * sz
  le : n ≤ 9223372036854775807
  cell : ∀ j (h : j < cs.length), ∃ ad, A = some ad ∧ w.cell? (ad.add j) = some cs[j]

theorem Rd.below {w w1 : World} {A : Option Addr} {n sz : Nat} {cs : List Value} (h : Rd w A n sz cs) (hb : Below w.heap.size w w1) : Rd w1 A n sz cs :=
  ⟨h.len, h.le, fun j hj => let ⟨ad, e, hc⟩ := h.cell j hj; ⟨ad, e, bkeep hb hc⟩⟩

/-- Element i of a list of numbers, 0 behind its end (a word that the walk's simp does not open). -/
def gi (xs : List Int) (i : Nat) : Int := xs.getD i 0
def gb (xs : List Bool) (i : Nat) : Bool := xs.getD i false
theorem gi_get (xs : List Int) (i : Nat) (h : i < xs.length) : gi xs i = xs[i] := by simp [gi, List.getD_eq_getElem?_getD, List.getElem?_eq_getElem h]
theorem gb_get (xs : List Bool) (i : Nat) (h : i < xs.length) : gb xs i = xs[i] := by simp [gb, List.getD_eq_getElem?_getD, List.getElem?_eq_getElem h]
theorem gi_mem (xs : List Int) (i : Nat) (h : i < xs.length) : gi xs i ∈ xs := by rw [gi_get xs i h]; exact List.getElem_mem h
def nums (k : IntKind) (xs : List Int) : List Value := xs.map (Value.int k)
def bools (xs : List Bool) : List Value := xs.map Value.bool
@[simp] theorem nums_length (k : IntKind) (xs : List Int) : (nums k xs).length = xs.length := by simp [nums]
@[simp] theorem bools_length (xs : List Bool) : (bools xs).length = xs.length := by simp [bools]
theorem nums_append (k : IntKind) (xs ys : List Int) : nums k (xs ++ ys) = nums k xs ++ nums k ys := by simp [nums]
theorem nums_get (k : IntKind) (xs : List Int) (j : Nat) (h : j < (nums k xs).length) : (nums k xs)[j] = .int k (gi xs j) := by
  have h' : j < xs.length := by simpa using h
  simp [nums, gi, List.getD_eq_getElem?_getD, List.getElem?_eq_getElem h']
theorem bools_get (xs : List Bool) (j : Nat) (h : j < (bools xs).length) : (bools xs)[j] = .bool (gb xs j) := by
  have h' : j < xs.length := by simpa using h
  simp [bools, gb, List.getD_eq_getElem?_getD, List.getElem?_eq_getElem h']

abbrev RdI (w : World) (k : IntKind) (A : Option Addr) (n : Nat) (xs : List Int) : Prop := Rd w A n 1 (nums k xs)
theorem RdI.length {w : World} {k : IntKind} {A : Option Addr} {n : Nat} {xs : List Int} (h : RdI w k A n xs) : xs.length = n := by
  have := h.len; simpa using this
theorem RdI.at {w : World} {k : IntKind} {A : Option Addr} {n : Nat} {xs : List Int} (h : RdI w k A n xs) (i : Nat) (hi : i < n) :
    ∃ ad, A = some ad ∧ w.cell? (ad.add i) = some (.int k (gi xs i)) := by
  obtain ⟨ad, e, hc⟩ := h.cell i (by have := h.length; simp; omega)
  exact ⟨ad, e, by rw [hc, nums_get]⟩
abbrev RdB (w : World) (A : Option Addr) (n : Nat) (xs : List Bool) : Prop := Rd w A n 1 (bools xs)
theorem RdB.length {w : World} {A : Option Addr} {n : Nat} {xs : List Bool} (h : RdB w A n xs) : xs.length = n := by
  have := h.len; simpa using this
theorem RdB.at {w : World} {A : Option Addr} {n : Nat} {xs : List Bool} (h : RdB w A n xs) (i : Nat) (hi : i < n) :
    ∃ ad, A = some ad ∧ w.cell? (ad.add i) = some (.bool (gb xs i)) := by
  obtain ⟨ad, e, hc⟩ := h.cell i (by have := h.length; simp; omega)
  exact ⟨ad, e, by rw [hc, bools_get]⟩
theorem bdrewN {B : Nat} {w W : World} (h : Below B w W) (n : Nat) : Below B w (W.drewN n) := ⟨h.os, h.tape, h.output, h.size, h.block⟩
/-- Two lists of one length are equal just where all their places are. -/
theorem gi_ext {xs ys : List Int} (hl : xs.length = ys.length) (h : ∀ j, j < xs.length → gi xs j = gi ys j) : xs = ys :=
  List.ext_getElem hl fun j h1 h2 => by have := h j h1; rwa [gi_get xs j h1, gi_get ys j h2] at this
theorem gb_ext {xs ys : List Bool} (hl : xs.length = ys.length) (h : ∀ j, j < xs.length → gb xs j = gb ys j) : xs = ys :=
  List.ext_getElem hl fun j h1 h2 => by have := h j h1; rwa [gb_get xs j h1, gb_get ys j h2] at this
/-- The first places of a slice. -/
theorem Rd.take {w : World} {A : Option Addr} {n sz : Nat} {cs : List Value} (h : Rd w A n sz cs) (m : Nat) (hm : m ≤ n) : Rd w A m sz (cs.take (m * sz)) := by
  have hl := h.len
  have h1 : m * sz ≤ n * sz := Nat.mul_le_mul_right _ hm
  refine ⟨by simp; omega, by have := h.le; omega, fun j hj => ?_⟩
  have hj' : j < cs.length := by simp at hj; omega
  obtain ⟨ad, e, hc⟩ := h.cell j hj'
  exact ⟨ad, e, by rw [hc]; simp⟩
theorem RdI.take {w : World} {k : IntKind} {A : Option Addr} {n : Nat} {xs : List Int} (h : RdI w k A n xs) (m : Nat) (hm : m ≤ n) : RdI w k A m (xs.take m) := by
  have := Rd.take h m hm
  have e : nums k (xs.take m) = (nums k xs).take (m * 1) := by simp [nums, List.map_take]
  unfold RdI
  rw [e]
  exact this

/-! ### What the call owns can be read -/
theorem own_rd {w : World} {base n : Nat} {e : TypeId} {sz : Nat} {v : Value} {cs : List Value} (h : w.ownsRow base e sz v n cs) : ∃ A c, v = .slice A n c ∧ Rd w A n sz cs := by
  rcases h.2 with ⟨rfl, rfl⟩ | ⟨g, cap, cur, rfl, hb, hh, h1, h2, h3, h4⟩
  · exact ⟨none, 0, rfl, h.1, by omega, fun j hj => by have := h.1; omega⟩
  · refine ⟨_, cap, rfl, h.1, by simp only [maxLen] at h2; omega, fun j hj => ⟨_, rfl, ?_⟩⟩
    exact h.cells (g := g) rfl j _ (List.getElem?_eq_getElem hj)
end Go.Proofs.Ytidojcogojchpaa

/- Laws on a row of cells that the call owns: a beginning of it, clear, and copy inside it. -/
namespace Go.Proofs.Ytidojcogojchpaa
open Go.RowKit

/-- A run's equation is all that an operation without a guard wants. -/
theorem wpList_run {P : Program} {w w' : World} {ops : Array Oper} {rest : List Oper} {o : Oper} {a : Act} {Q : Exit → Act → World → Prop} {v : Value} (hgd : o.guard = none)
    (hrun : (execOp a.eval o).run P w = .ok (.value v) w') (h : wpList P ops Q rest (a.put o.dst v) w') : wpList P ops Q (o :: rest) a w := by
  refine wpList_plain hgd fun K hK => ?_
  unfold Oper.wp
  rw [hrun]
  exact hK _ _ h

theorem own_prefix {w : World} {B : Nat} {e : TypeId} {sz g n cap : Nat} {cs : List Value} (h : w.ownsRow B e sz (.slice (some ⟨g, 0, none⟩) n cap) n cs) (m : Nat) (hm : m ≤ n) :
    w.ownsRow B e sz (.slice (some ⟨g, 0, none⟩) m cap) m (cs.take (m * sz)) := by
  have hmn : m * sz ≤ n * sz := Nat.mul_le_mul_right _ hm
  rcases h.2 with ⟨hx, _⟩ | ⟨g', cap', cur, hx, hb, hh, h1, h2, h3, h4⟩
  · simp at hx
  · simp only [Value.slice.injEq, Option.some.injEq, Addr.mk.injEq, and_true, true_and] at hx
    obtain ⟨rfl, rfl⟩ := hx
    refine ⟨by have := h.1; simp; omega, .inr ⟨g, cap, cur, rfl, hb, hh, by omega, h2, h3, ?_⟩⟩
    rw [← h4, List.take_take, Nat.min_eq_left hmn]

/-- 'clear' of places behind the first n of a row of the call's own. -/
theorem run_clear_own {P : Program} {w : World} {B : Nat} {t ty e : TypeId} {i : TypeInfo} {z : Value} (ht : P.underlying t = some (.slice e)) (hi : P.info? e = some i) (hz : i.zero = some z) {sz : Nat} (hzs : z.cells.size = sz) (hz1 : ∀ v ∈ z.cells, v.oneCell' = true)
    {g n cap : Nat} {cs : List Value} (h : w.ownsRow B e sz (.slice (some ⟨g, 0, none⟩) n cap) n cs) (m c : Nat) (hm : n + m ≤ cap) :
    ∃ w', (Builtin.clear_ #[t] ty #[.slice (some ⟨g, n * sz, none⟩) m c]).run P w = .ok (.tuple #[]) w' ∧ w'.ownsRow B e sz (.slice (some ⟨g, 0, none⟩) n cap) n cs ∧ w.grownBy w' (some g) := by
  rcases h.2 with ⟨hx, _⟩ | ⟨g', cap', cur, hx, hb, hh, h1, h2, h3, h4⟩
  · simp at hx
  · simp only [Value.slice.injEq, Option.some.injEq, Addr.mk.injEq, and_true, true_and] at hx
    obtain ⟨rfl, rfl⟩ := hx
    by_cases h0 : m = 0
    · subst h0
      exact ⟨w, by simp [Builtin.clear_, run_underlying ht], h, World.grownBy.refl _ _⟩
    · have hl : ((Builtin.zeroCells z.cells m).toList).length = m * sz := by rw [Array.length_toList, size_zeroCells, hzs]
      have hle : n * sz + m * sz ≤ cap * sz := by rw [← Nat.add_mul]; exact Nat.mul_le_mul_right _ hm
      have hst := run_storeCells_at P g (n * sz) e (Builtin.zeroCells z.cells m).toList 0 cur w hh (by rw [hl]; omega) (by
        intro v hv
        simp only [Builtin.zeroCells, Array.toList_map, List.mem_map] at hv
        obtain ⟨j, hj, rfl⟩ := hv
        have hp : 0 < z.cells.size := by
          rcases Nat.eq_zero_or_pos z.cells.size with h0 | h0
          · simp [h0] at hj
          · exact h0
        have hlt := Nat.mod_lt j hp
        exact hz1 _ (by rw [getElem!_pos z.cells _ hlt]; exact Array.getElem_mem hlt))
      obtain ⟨m', rfl⟩ : ∃ m', m = m' + 1 := ⟨m - 1, by omega⟩
      generalize hnew : (cur.toList.take (n * sz + 0) ++ (Builtin.zeroCells z.cells (m' + 1)).toList ++ cur.toList.drop (n * sz + 0 + (Builtin.zeroCells z.cells (m' + 1)).toList.length)).toArray = new at hst
      refine ⟨w.setRow g new, ?_, ⟨h.1, .inr ⟨g, cap, new, rfl, hb, setRow_heap w g cur _ e _ hh, h1, h2, ?_, ?_⟩⟩, ⟨rfl, rfl, rfl, by simp, fun k _ hk => setRow_other w g k _ (fun e => hk (by simp [e]))⟩⟩
      · simp [Builtin.clear_, run_underlying ht, zeroValue, typeInfo, hi, hz, hst]
      · subst hnew
        simp only [Nat.add_zero, List.size_toArray, List.length_append, List.length_take, List.length_drop, hl, Array.length_toList]
        omega
      · subst hnew
        have hlt : n * sz ≤ cur.toList.length := by rw [Array.length_toList, h3]; omega
        simp only [Nat.add_zero, List.append_assoc]
        rw [List.take_append_of_le_length (by rw [List.length_take]; omega), List.take_take, Nat.min_self, h4]

/-- The builtins copy and append (and append of a make) where their run is known by an equation. -/
theorem wpList_copy_eq {P : Program} {w w' : World} {ops : Array Oper} {rest : List Oper} {o : Oper} {a : Act} {Q : Exit → Act → World → Prop} (hgd : o.guard = none) (d s : Operand) (t t' : TypeId)
    (ho : o.op = .call { callee := .builtin .copy, args := #[d, s], argTypes := #[t, t'] }) (v u : Value) (hd : a.eval d = v) (hs : a.eval s = u) {v' : Value}
    (hr : (Builtin.copy_ #[t, t'] o.type #[v, u]).run P w = .ok v' w') (h : wpList P ops Q rest (a.put o.dst v') w') : wpList P ops Q (o :: rest) a w :=
  wpList_run hgd (v := v') (w' := w') (by
    unfold execOp
    simp only [ho, resolve, invoke, builtin, Sem.run_bind, Sem.run_pure, Result.andThen_ok, List.map_toArray, List.map_cons, List.map_nil, hd, hs, hr]) h
theorem wpList_append_eq {P : Program} {w w' : World} {ops : Array Oper} {rest : List Oper} {o : Oper} {a : Act} {Q : Exit → Act → World → Prop} (hgd : o.guard = none) (d s : Operand) (t t' : TypeId)
    (ho : o.op = .call { callee := .builtin .append, args := #[d, s], argTypes := #[t, t'] }) (v u : Value) (hd : a.eval d = v) (hs : a.eval s = u) {v' : Value}
    (hr : (Builtin.append_ #[t, t'] o.type #[v, u]).run P w = .ok v' w') (h : wpList P ops Q rest (a.put o.dst v') w') : wpList P ops Q (o :: rest) a w :=
  wpList_run hgd (v := v') (w' := w') (by
    unfold execOp
    simp only [ho, resolve, invoke, builtin, Sem.run_bind, Sem.run_pure, Result.andThen_ok, List.map_toArray, List.map_cons, List.map_nil, hd, hs, hr]) h

/-- 'copy' onto a row, whatever an element's size. -/
theorem run_copy_onto {P : Program} {w : World} {dT sT ty e : TypeId} {i : TypeInfo} (ht : P.underlying dT = some (.slice e)) (hi : P.info? e = some i) {sz : Nat} (hsz : i.size = sz)
    {g o dLen dCap sLen sCap m : Nat} {a : Addr} {cur : Array Value} {t : TypeId} (hg : w.heap[g]? = some (.cells cur t (0, 0))) (news : List Value) (hm : Nat.min sLen dLen = m) (hl : news.length = m * sz)
    (hsrc : ∀ j v, news[j]? = some v → w.cell? (a.add j) = some v) (hfit : o + news.length ≤ cur.size) (h1 : ∀ v ∈ news, v.oneCell' = true) :
    (Builtin.copy_ #[dT, sT] ty #[.slice (some ⟨g, o, none⟩) dLen dCap, .slice (some a) sLen sCap]).run P w = .ok (goInt m) (w.setRow g (splice cur.toList o news).toArray) := by
  have hf := run_firstCells_some (P := P) w sz m a sLen sCap news hl hsrc
  have hst := run_storeCells_at P g o t news 0 cur w hg (by simpa using hfit) h1
  simp only [Nat.add_zero, List.append_assoc] at hst
  subst hm hsz
  simp [Builtin.copy_, run_underlying ht, Builtin.lenOf, sizeOf, typeInfo, hi, hf, hst, splice]

/-- Where n cells stand at the head of a list, m more put in at a place push the rest on. -/
theorem splice_insert {α : Type} (cur cs news : List α) (a : Nat) (ha : a ≤ cs.length) (hcs : cur.take cs.length = cs) (hfit : cs.length + news.length ≤ cur.length) :
    (splice (splice cur (a + news.length) (cs.drop a)) a news).take (cs.length + news.length) = cs.take a ++ (news ++ cs.drop a) := by
  have h1 : cur.take a = cs.take a := by rw [← hcs, List.take_take, Nat.min_eq_left ha]
  have hX : splice cur (a + news.length) (cs.drop a) = cur.take (a + news.length) ++ (cs.drop a ++ cur.drop (a + news.length + (cs.drop a).length)) := rfl
  rw [hX]
  have hl : (cur.take (a + news.length)).length = a + news.length := by rw [List.length_take]; omega
  have e1 : (cur.take (a + news.length) ++ (cs.drop a ++ cur.drop (a + news.length + (cs.drop a).length))).take a = cs.take a := by
    rw [List.take_append_of_le_length (by omega), List.take_take, Nat.min_eq_left (by omega), h1]
  have e2 : (cur.take (a + news.length) ++ (cs.drop a ++ cur.drop (a + news.length + (cs.drop a).length))).drop (a + news.length) = cs.drop a ++ cur.drop (a + news.length + (cs.drop a).length) := by
    rw [List.drop_append_of_le_length (by omega), List.drop_of_length_le (by omega), List.nil_append]
  unfold splice
  rw [e1, e2, ← List.append_assoc, ← List.append_assoc, List.take_append_of_le_length (by simp; omega), List.take_of_length_le (by simp; omega), List.append_assoc]

theorem own_caps {w : World} {B : Nat} {e : TypeId} {sz g n c : Nat} {cs : List Value} (h : w.ownsRow B e sz (.slice (some ⟨g, 0, none⟩) n c) n cs) : n ≤ c ∧ c ≤ 9223372036854775807 := by
  rcases h.2 with ⟨hx, _⟩ | ⟨g', cap', cur, hx, hb, hh, h1, h2, h3, h4⟩
  · simp at hx
  · simp only [Value.slice.injEq, Option.some.injEq, Addr.mk.injEq, and_true, true_and] at hx
    obtain ⟨rfl, rfl⟩ := hx
    exact ⟨h1, h2⟩
theorem own_open {w : World} {B : Nat} {e : TypeId} {sz g n c : Nat} {cs : List Value} (h : w.ownsRow B e sz (.slice (some ⟨g, 0, none⟩) n c) n cs) :
    ∃ cur : Array Value, B ≤ g ∧ w.heap[g]? = some (.cells cur e (0, 0)) ∧ n ≤ c ∧ c ≤ maxLen ∧ cur.size = c * sz ∧ cur.toList.take (n * sz) = cs := by
  rcases h.2 with ⟨hx, _⟩ | ⟨g', cap', cur, hx, hb, hh, h1, h2, h3, h4⟩
  · simp at hx
  · simp only [Value.slice.injEq, Option.some.injEq, Addr.mk.injEq, and_true, true_and] at hx
    obtain ⟨rfl, rfl⟩ := hx
    exact ⟨cur, hb, hh, h1, h2, h3, h4⟩
theorem gtrans {w w1 w2 : World} {r : Option Nat} (h : w.grownBy w1 r) (k : w1.grownBy w2 r) : w.grownBy w2 r :=
  ⟨k.os.trans h.os, k.tape.trans h.tape, k.output.trans h.output, Nat.le_trans h.size k.size, fun b hb hne => (k.block b (Nat.lt_of_lt_of_le hb h.size) hne).trans (h.block b hb hne)⟩
theorem gdrew {w w1 : World} {r : Option Nat} (h : w.drew.grownBy w1 r) : w.grownBy w1 r := ⟨h.os, h.tape, h.output, h.size, h.block⟩
theorem galloc {w w1 : World} {r : Option Nat} {o : Obj} (h : (w.alloc o).grownBy w1 r) : w.grownBy w1 r :=
  ⟨h.os, h.tape, h.output, by have := h.size; simp at this; omega, fun k hk hne => (h.block k (by simp; omega) hne).trans (heap_alloc_old w o hk)⟩
theorem gsetRow (w : World) (g : Nat) (cs : Array Value) : w.grownBy (w.setRow g cs) (some g) :=
  ⟨rfl, rfl, rfl, by simp, fun k _ hk => setRow_other w g k _ (fun e => hk (by simp [e]))⟩
end Go.Proofs.Ytidojcogojchpaa

/- What may have changed between two worlds. -/
set_option linter.unusedVariables false
set_option linter.unusedSimpArgs false
namespace Go.Proofs.Ytidojcogojchpaa
open Go.RowKit

/-! ### What may have changed: the blocks of F -/
structure Upd (F : Nat → Prop) (w w' : World) : Prop where
  os : w'.os = w.os
  tape : w'.tape = w.tape
  output : w'.output = w.output
  size : w.heap.size ≤ w'.heap.size
  block : ∀ k, k < w.heap.size → ¬ F k → w'.heap[k]? = w.heap[k]?
theorem Upd.refl (F : Nat → Prop) (w : World) : Upd F w w := ⟨rfl, rfl, rfl, Nat.le_refl _, fun _ _ _ => rfl⟩
theorem Upd.trans {F G : Nat → Prop} {a b c : World} (h : Upd F a b) (k : Upd G b c) (hG : ∀ i, G i → F i ∨ a.heap.size ≤ i) : Upd F a c :=
  ⟨k.os.trans h.os, k.tape.trans h.tape, k.output.trans h.output, Nat.le_trans h.size k.size, fun i hi hF => by
    refine (k.block i (Nat.lt_of_lt_of_le hi h.size) (fun hg => ?_)).trans (h.block i hi hF)
    rcases hG i hg with h1 | h1
    · exact hF h1
    · omega⟩
theorem Upd.mono {F G : Nat → Prop} {a b : World} (h : Upd F a b) (hG : ∀ i, F i → G i) : Upd G a b := ⟨h.os, h.tape, h.output, h.size, fun i hi hn => h.block i hi fun hf => hn (hG i hf)⟩
theorem Upd.of_grown {w w' : World} {row : Option Nat} (h : w.grownBy w' row) : Upd (fun k => row = some k) w w' := ⟨h.os, h.tape, h.output, h.size, fun k hk hn => h.block k hk fun e => hn e.symm⟩
theorem Upd.below {F : Nat → Prop} {B : Nat} {w w' : World} (h : Upd F w w') (hB : B ≤ w.heap.size) (hF : ∀ k, F k → B ≤ k) : Below B w w' :=
  ⟨h.os, h.tape, h.output, h.size, fun k hk => h.block k (by omega) fun hf => by have := hF k hf; omega⟩
theorem Upd.of_below {B : Nat} {w w' : World} (h : Below B w w') : Upd (fun k => B ≤ k) w w' := ⟨h.os, h.tape, h.output, h.size, fun k _ hn => h.block k (by omega)⟩
theorem Upd.any {F : Nat → Prop} {w w' : World} (h : Below w.heap.size w w') : Upd F w w' := ⟨h.os, h.tape, h.output, h.size, fun k hk _ => h.block k hk⟩
theorem Upd.alloc (F : Nat → Prop) (w : World) (o : Obj) : Upd F w (w.alloc o) := ⟨rfl, rfl, rfl, by simp, fun k hk _ => heap_alloc_old w o hk⟩
theorem Upd.setCell (w : World) (a : Addr) (v : Value) : Upd (fun k => k = a.block) w (w.setCell a v) := ⟨rfl, rfl, rfl, by simp [World.setCell], fun k _ hn => Below.heap_setCell w a v k hn⟩
theorem Upd.drew (F : Nat → Prop) (w : World) : Upd F w w.drew := ⟨rfl, rfl, rfl, Nat.le_refl _, fun _ _ _ => rfl⟩
theorem Upd.drewN (F : Nat → Prop) (w : World) (n : Nat) : Upd F w (w.drewN n) := ⟨rfl, rfl, rfl, Nat.le_refl _, fun _ _ _ => rfl⟩

/-- A row lies as it lay where its block is none of those that may have changed. -/
theorem own_upd {F : Nat → Prop} {w w' : World} {B : Nat} {e : TypeId} {sz : Nat} {v : Value} {n : Nat} {cs : List Value} (h : w.ownsRow B e sz v n cs) (hu : Upd F w w') (hn : ∀ k, v.ownBlock = some k → ¬ F k) : w'.ownsRow B e sz v n cs := by
  refine ⟨h.1, ?_⟩
  rcases h.2 with h0 | ⟨g, cap, cur, rfl, hb, hh, h1⟩
  · exact .inl h0
  · exact .inr ⟨g, cap, cur, rfl, hb, by rw [hu.block g (Array.getElem?_eq_some_iff.1 hh).1 (hn g rfl)]; exact hh, h1⟩
/-- .. and where only what is no cells has changed. -/
theorem own_nc {w w' : World} {row : Option Nat} {B : Nat} {e : TypeId} {sz : Nat} {v : Value} {n : Nat} {cs : List Value} (h : w.ownsRow B e sz v n cs) (hg : w.grownBy w' row) (hr : ∀ r, row = some r → ∃ o : Obj, w.heap[r]? = some o ∧ o.isCells = false) : w'.ownsRow B e sz v n cs := by
  refine h.kept hg ?_
  rcases h.2 with ⟨rfl, _⟩ | ⟨g, cap, cur, rfl, _, hh, _⟩
  · exact .inl rfl
  · refine .inr fun e' => ?_
    obtain ⟨o, ho, hc⟩ := hr g (by simpa [Value.ownBlock] using e'.symm)
    rw [hh] at ho; cases ho; cases hc
theorem heap_nc {w w' : World} {row : Option Nat} {b : Nat} {c : Array Value} {t : TypeId} (h : w.heap[b]? = some (.cells c t (0, 0))) (hg : w.grownBy w' row) (hr : ∀ r, row = some r → ∃ o : Obj, w.heap[r]? = some o ∧ o.isCells = false) : w'.heap[b]? = some (.cells c t (0, 0)) := by
  rw [hg.block b (Array.getElem?_eq_some_iff.1 h).1 (fun e => by
    obtain ⟨o, ho, hc⟩ := hr b e.symm
    rw [h] at ho; cases ho; cases hc)]
  exact h
theorem own_base' {w : World} {B B' : Nat} {e : TypeId} {sz : Nat} {v : Value} {n : Nat} {cs : List Value} (h : w.ownsRow B e sz v n cs) (hB : ∀ k, v.ownBlock = some k → B' ≤ k) : w.ownsRow B' e sz v n cs := by
  refine ⟨h.1, ?_⟩
  rcases h.2 with h0 | ⟨g, cap, cur, rfl, hb, rest⟩
  · exact .inl h0
  · exact .inr ⟨g, cap, cur, rfl, hB g rfl, rest⟩

theorem putObj_get {W : World} {b : Nat} {o o' : Obj} (h : W.heap[b]? = some o) : (W.putObj b o').heap[b]? = some o' := by
  have := (Array.getElem?_eq_some_iff.1 h).1
  simp [World.putObj, this]
theorem putObj_upd (W : World) (b : Nat) (o : Obj) : Upd (fun k => k = b) W (W.putObj b o) := ⟨rfl, rfl, rfl, by simp [World.putObj], fun k _ hn => by simp [World.putObj, Ne.symm hn]⟩
end Go.Proofs.Ytidojcogojchpaa

/- Maps keyed by int: the keys, increasing, and what stands at each. -/
set_option linter.unusedVariables false
set_option linter.unusedSimpArgs false
namespace Go.Proofs.Ytidojcogojchpaa
open Go.RowKit

/-! ### Increasing lists of numbers -/
def insI : List Int → Int → List Int
  | [], x => [x]
  | k :: ks, x => if x < k then x :: k :: ks else if x = k then k :: ks else k :: insI ks x
theorem mem_insI (x y : Int) : ∀ ks : List Int, y ∈ insI ks x ↔ y = x ∨ y ∈ ks
  | [] => by simp [insI]
  | k :: ks => by
    unfold insI
    split
    · simp
    · split
      · rename_i h1 h2; subst h2; simp
      · simp [mem_insI x y ks]; constructor <;> rintro (h | h | h) <;> simp [h]
abbrev Up (ks : List Int) : Prop := ks.Pairwise (· < ·)
theorem up_insI (x : Int) : ∀ {ks : List Int}, Up ks → Up (insI ks x)
  | [], _ => by simp [insI, Up]
  | k :: ks, h => by
    obtain ⟨h1, h2⟩ := List.pairwise_cons.1 h
    unfold insI
    split
    · rename_i hx
      exact List.pairwise_cons.2 ⟨fun y hy => by
        rcases List.mem_cons.1 hy with rfl | hy
        · exact hx
        · have := h1 y hy; omega, h⟩
    · split
      · exact h
      · rename_i h3 h4
        exact List.pairwise_cons.2 ⟨fun y hy => by
          rcases (mem_insI x y ks).1 hy with rfl | hy
          · omega
          · exact h1 y hy, up_insI x h2⟩
theorem insI_mem {x : Int} : ∀ {ks : List Int}, Up ks → x ∈ ks → insI ks x = ks
  | [], _, h => by simp at h
  | k :: ks, hu, h => by
    obtain ⟨h1, h2⟩ := List.pairwise_cons.1 hu
    unfold insI
    rcases List.mem_cons.1 h with rfl | h
    · simp
    · have := h1 x h
      rw [if_neg (by omega), if_neg (by omega), insI_mem h2 h]
theorem insI_perm {x : Int} : ∀ {ks : List Int}, x ∉ ks → (insI ks x).Perm (x :: ks)
  | [], _ => by simp [insI]
  | k :: ks, h => by
    simp only [List.mem_cons, not_or] at h
    unfold insI
    split
    · exact List.Perm.refl _
    · rw [if_neg h.1]
      exact ((insI_perm h.2).cons k).trans (List.Perm.swap x k ks)
theorem insI_length {x : Int} {ks : List Int} (h : x ∉ ks) : (insI ks x).length = ks.length + 1 := by have := (insI_perm h).length_eq; simpa using this
theorem insI_length_le (x : Int) (ks : List Int) (hu : Up ks) : (insI ks x).length ≤ ks.length + 1 := by
  by_cases h : x ∈ ks
  · rw [insI_mem hu h]; omega
  · rw [insI_length h]; omega
theorem Up.nodup {ks : List Int} (h : Up ks) : ks.Nodup := h.imp fun hab => by omega
/-- Two increasing lists with the same numbers are one. -/
theorem up_ext : ∀ {ks ls : List Int}, Up ks → Up ls → (∀ x, x ∈ ks ↔ x ∈ ls) → ks = ls
  | [], [], _, _, _ => rfl
  | [], l :: ls, _, _, h => by have := (h l).2 (by simp); simp at this
  | k :: ks, [], _, _, h => by have := (h k).1 (by simp); simp at this
  | k :: ks, l :: ls, hk, hl, h => by
    obtain ⟨k1, k2⟩ := List.pairwise_cons.1 hk
    obtain ⟨l1, l2⟩ := List.pairwise_cons.1 hl
    have e : k = l := by
      have a := (h k).1 (by simp)
      have b := (h l).2 (by simp)
      rcases List.mem_cons.1 a with a | a
      · exact a
      · rcases List.mem_cons.1 b with b | b
        · exact b.symm
        · have := l1 k a; have := k1 l b; omega
    subst e
    refine congrArg (k :: ·) (up_ext k2 l2 fun x => ?_)
    constructor
    · intro hx
      rcases List.mem_cons.1 ((h x).1 (by simp [hx])) with e | e
      · subst e; have := k1 x hx; omega
      · exact e
    · intro hx
      rcases List.mem_cons.1 ((h x).2 (by simp [hx])) with e | e
      · subst e; have := l1 x hx; omega
      · exact e
theorem up_len : ∀ (d : Nat) {a : Int} {ks : List Int}, Up ks → (∀ k ∈ ks, a ≤ k ∧ k < a + d) → ks.length ≤ d
  | _, _, [], _, _ => Nat.zero_le _
  | 0, a, k :: ks, _, h => by have := h k (by simp); omega
  | d + 1, a, k :: ks, hu, h => by
    obtain ⟨h1, h2⟩ := List.pairwise_cons.1 hu
    have hk := h k (by simp)
    have := up_len d (a := a + 1) h2 fun y hy => by have := h1 y hy; have := h y (by simp [hy]); omega
    simp only [List.length_cons]
    omega
def delI (ks : List Int) (x : Int) : List Int := ks.filter fun k => decide (k ≠ x)
theorem mem_delI (ks : List Int) (x y : Int) : y ∈ delI ks x ↔ y ∈ ks ∧ y ≠ x := by simp [delI]
theorem up_delI {ks : List Int} (x : Int) (h : Up ks) : Up (delI ks x) := h.sublist List.filter_sublist
def updF (f : Int → Value) (x : Int) (v : Value) : Int → Value := fun k => if k = x then v else f k

/-! ### The map's block -/
def keyB (x : Int) : Value → Bool
  | .int .i64 y => y == x
  | _ => false
theorem keyB_iff {x : Int} {v : Value} : keyB x v = true ↔ v = .int .i64 x := by
  unfold keyB
  split
  · rename_i y; simp
  · rename_i h; constructor
    · intro h'; cases h'
    · intro h'; exact (h x h').elim
theorem keyB_not {x : Int} {v : Value} (h : v ≠ .int .i64 x) : keyB x v = false := by
  cases hk : keyB x v
  · rfl
  · exact absurd (keyB_iff.1 hk) h
@[simp] theorem keyB_self (x : Int) : keyB x (.int .i64 x) = true := keyB_iff.2 rfl
theorem keyB_int (x k : Int) : keyB x (.int .i64 k) = (k == x) := rfl
abbrev pr (e : MapEntry) : Value × Value := (e.key, e.val)
def prs (ks : List Int) (f : Int → Value) : List (Value × Value) := ks.map fun k => (Value.int .i64 k, f k)
/-- Block b is a map from int: its keys, increasing, and what stands at each. -/
structure MapF (W : World) (b : Nat) (ks : List Int) (f : Int → Value) : Prop where
  ex : ∃ es clock, W.heap[b]? = some (.map es clock) ∧ MapKept.Stamped es clock ∧ (es.toList.map pr).Perm (prs ks f)
  up : Up ks
  rng : ∀ k ∈ ks, 0 ≤ k ∧ k < 16777216

section
variable {P : Program} {W : World} {t kt et : TypeId} {b : Nat} {ks : List Int} {f : Int → Value}
theorem MapF.lt (h : MapF W b ks f) : b < W.heap.size := by obtain ⟨es, c, h1, _⟩ := h.ex; exact (Array.getElem?_eq_some_iff.1 h1).1
theorem MapF.le (h : MapF W b ks f) : ks.length ≤ 16777216 := up_len 16777216 (a := 0) h.up fun k hk => by have := h.rng k hk; omega
theorem MapF.wf (h : MapF W b ks f) : ∀ k ∈ ks, (Lit.int .i64 k).wf = true := fun k hk => WalkArith.wf_i64 (by have := h.rng k hk; omega)
theorem MapF.upd {F : Nat → Prop} {W' : World} (h : MapF W b ks f) (hu : Upd F W W') (hF : ¬ F b) : MapF W' b ks f := by
  have hl := h.lt
  obtain ⟨es, c, h1, h2⟩ := h.ex
  exact ⟨⟨es, c, (hu.block b hl hF).trans h1, h2⟩, h.up, h.rng⟩
theorem MapF.below {W' : World} (h : MapF W b ks f) (hb : Below W.heap.size W W') : MapF W' b ks f := h.upd (Upd.of_below hb) (by have := h.lt; omega)
theorem MapF.made (W : World) (f : Int → Value) : MapF (W.alloc (.map #[] 0)) W.heap.size [] f := ⟨⟨#[], 0, heap_alloc_new W _, MapKept.stamped_empty 0, by simp [prs]⟩, List.Pairwise.nil, by simp⟩
theorem isKeys_of {es : Array MapEntry} (hp : (es.toList.map pr).Perm (prs ks f)) : ∀ x ∈ es.toList, MapKept.IsKey (.int .i64) x.key := fun x hx => by
  have : pr x ∈ prs ks f := hp.mem_iff.1 (List.mem_map.2 ⟨x, hx, rfl⟩)
  obtain ⟨k, _, e⟩ := List.mem_map.1 this
  have e1 : Value.int .i64 k = x.key := congrArg Prod.fst e
  rw [← e1]
  exact rfl
theorem ent_at {es : Array MapEntry} (hp : (es.toList.map pr).Perm (prs ks f)) {e : MapEntry} {x : Int} (he : e ∈ es.toList) (hk : e.key = .int .i64 x) : x ∈ ks ∧ e.val = f x := by
  have : pr e ∈ prs ks f := hp.mem_iff.1 (List.mem_map.2 ⟨e, he, rfl⟩)
  obtain ⟨k, hk1, e2⟩ := List.mem_map.1 this
  have e3 : Value.int .i64 k = e.key := congrArg Prod.fst e2
  have e4 : f k = e.val := congrArg Prod.snd e2
  rw [hk] at e3
  obtain rfl : k = x := by simpa using e3
  exact ⟨hk1, e4.symm⟩
theorem ent_none {es : Array MapEntry} (hp : (es.toList.map pr).Perm (prs ks f)) {x : Int} (h : ∀ e ∈ es.toList, e.key ≠ .int .i64 x) : x ∉ ks := fun hx => by
  have : (Value.int .i64 x, f x) ∈ es.toList.map pr := hp.mem_iff.2 (List.mem_map.2 ⟨x, hx, rfl⟩)
  obtain ⟨e, he, e1⟩ := List.mem_map.1 this
  exact h e he (congrArg Prod.fst e1)
theorem MapF.run_look (h : MapF W b ks f) (hu : P.underlying t = some (.map kt et)) (hk : P.underlying kt = some (.int .i64)) {z : Value} (hz : ∀ W, (zeroValue et).run P W = .ok z W) (x : Int) :
    (Instr.lookup t (.map (some b)) (.int .i64 x) false).run P W = .ok (if x ∈ ks then f x else z) W := by
  obtain ⟨es, c, h1, h2, hp⟩ := h.ex
  have hK : MapKept.IsKey (.int .i64) (.int .i64 x) := rfl
  rcases MapKept.findNow_spec hK es.toList 0 (isKeys_of hp) with ⟨ho, hn⟩ | ⟨j, e, ho, hj, he⟩
  · rw [if_neg (ent_none hp hn)]
    simp [Instr.lookup, run_underlying hu, MapKept.run_getObj_map h1, MapKept.run_checkKey hk hK, MapKept.run_findKey hk ho, hz]
  · obtain ⟨m1, m2⟩ := ent_at hp (List.mem_of_getElem? hj) he
    rw [if_pos m1]
    simp [Instr.lookup, run_underlying hu, MapKept.run_getObj_map h1, MapKept.run_checkKey hk hK, MapKept.run_findKey hk ho, m2]
theorem MapF.run_len {ty : TypeId} (h : MapF W b ks f) (hu : P.underlying t = some (.map kt et)) : (Builtin.len_ #[t] ty #[.map (some b)]).run P W = .ok (.int .i64 (ks.length : Int)) W := by
  obtain ⟨es, c, h1, _, hp⟩ := h.ex
  have hl : es.size = ks.length := by have := hp.length_eq; simpa [prs] using this
  simp [Builtin.len_, run_underlying hu, MapKept.run_getObj_map h1, hl, goInt]
theorem MapF.run_clear {ty : TypeId} (h : MapF W b ks f) (hu : P.underlying t = some (.map kt et)) (g : Int → Value) :
    ∃ o, (Builtin.clear_ #[t] ty #[.map (some b)]).run P W = .ok (.tuple #[]) (W.putObj b o) ∧ MapF (W.putObj b o) b [] g := by
  obtain ⟨es, c, h1, _, hp⟩ := h.ex
  exact ⟨.map #[] c, by simp [Builtin.clear_, run_underlying hu, MapKept.run_getObj_map h1, MapKept.run_setObj_map _ h1, World.putObj], ⟨⟨_, _, putObj_get h1, MapKept.stamped_empty c, by simp [prs]⟩, List.Pairwise.nil, by simp⟩⟩
theorem prs_upd_not {x : Int} {v : Value} (h : x ∉ ks) : prs ks (updF f x v) = prs ks f := List.map_congr_left fun k hk => by
  have : k ≠ x := fun e => h (e ▸ hk)
  simp [updF, this]
theorem MapF.run_put (h : MapF W b ks f) (hu : P.underlying t = some (.map kt et)) (hk : P.underlying kt = some (.int .i64)) (x : Int) (v : Value) (hx : 0 ≤ x ∧ x < 16777216) :
    ∃ o, (Instr.mapUpdate t (.map (some b)) (.int .i64 x) v).run P W = .ok () (W.putObj b o) ∧ MapF (W.putObj b o) b (insI ks x) (updF f x v) := by
  obtain ⟨es, c, h1, h2, hp⟩ := h.ex
  have hK : MapKept.IsKey (.int .i64) (.int .i64 x) := rfl
  have hwf : ∀ k ∈ insI ks x, 0 ≤ k ∧ k < 16777216 := fun k hk => by
    rcases (mem_insI x k ks).1 hk with rfl | hk
    · exact hx
    · exact h.rng k hk
  rcases MapKept.findNow_spec hK es.toList 0 (isKeys_of hp) with ⟨ho, hn⟩ | ⟨j, e, ho, hj, he⟩
  · have hnk := ent_none hp hn
    refine ⟨.map (es.push ⟨.int .i64 x, v, c⟩) (c + 1), ?_, ⟨_, _, putObj_get h1, MapKept.stamped_push h2 hn, ?_⟩, up_insI x h.up, hwf⟩
    · simp [Instr.mapUpdate, run_underlying hu, MapKept.run_getObj_map h1, MapKept.run_checkKey hk hK, MapKept.run_findKey hk ho, MapKept.run_setObj_map _ h1, World.putObj]
    · have e1 : (prs (insI ks x) (updF f x v)).Perm ((Value.int .i64 x, v) :: prs ks f) := by
        refine ((insI_perm hnk).map _).trans ?_
        rw [List.map_cons]
        have e2 := prs_upd_not (f := f) (v := v) hnk
        unfold prs at e2
        rw [e2]
        simp [updF, prs]
      refine List.Perm.trans ?_ e1.symm
      simp only [Array.toList_push, List.map_append, List.map_cons, List.map_nil]
      exact (List.perm_append_comm).trans ((List.Perm.refl _).append hp)
  · obtain ⟨m1, m2⟩ := ent_at hp (List.mem_of_getElem? hj) he
    have hjj : es[j]? = some e := by simpa using hj
    simp only [Nat.zero_add] at ho
    have hkey : ∀ e', es[j]? = some e' → ({ e' with key := .int .i64 x, val := v } : MapEntry).key = e'.key := fun e' he' => by rw [hjj] at he'; cases he'; exact he.symm
    refine ⟨.map (es.modify j fun e => { e with key := .int .i64 x, val := v }) c, ?_, ⟨_, _, putObj_get h1, MapKept.stamped_modify h2 _ _ (fun _ _ => rfl) (fun e' _ he' => hkey e' he'), ?_⟩, up_insI x h.up, hwf⟩
    · simp [Instr.mapUpdate, run_underlying hu, MapKept.run_getObj_map h1, MapKept.run_checkKey hk hK, MapKept.run_findKey hk ho, hjj, he, MapKept.run_keyThatStays (d := .int .i64) hK, MapKept.run_setObj_map _ h1, World.putObj]
    · rw [insI_mem h.up m1]
      have e1 : (es.modify j fun e => { e with key := .int .i64 x, val := v }).toList.map pr = (es.toList.map pr).map fun p => if keyB x p.1 = true then (p.1, v) else p := by
        refine List.ext_getElem? fun i => ?_
        simp only [List.getElem?_map, Array.getElem?_toList, Array.getElem?_modify]
        by_cases hij : j = i
        · subst hij
          rw [hjj]
          simp [he, pr]
        · rw [if_neg hij]
          cases hi : es[i]? with
          | none => simp
          | some y =>
            have hpw := List.pairwise_iff_getElem.1 ((MapKept.stamped_iff es c).1 h2).2.2
            have li : i < es.toList.length := by have := (Array.getElem?_eq_some_iff.1 hi).1; simpa using this
            have lj : j < es.toList.length := by have := (Array.getElem?_eq_some_iff.1 hjj).1; simpa using this
            have ei : es.toList[i] = y := by have := (Array.getElem?_eq_some_iff.1 hi).2; simpa using this
            have ej : es.toList[j] = e := by have := (Array.getElem?_eq_some_iff.1 hjj).2; simpa using this
            have hne : y.key ≠ .int .i64 x := fun ey => by
              rcases Nat.lt_or_gt_of_ne hij with hl | hl
              · have := hpw j i lj li hl; rw [ei, ej, ey, he] at this; exact this rfl
              · have := hpw i j li lj hl; rw [ei, ej, ey, he] at this; exact this rfl
            have hkb := keyB_not hne
            simp [hkb, pr]
      have e2 : (prs ks f).map (fun p => if keyB x p.1 = true then (p.1, v) else p) = prs ks (updF f x v) := by
        simp only [prs, List.map_map]
        refine List.map_congr_left fun k _ => ?_
        by_cases hkx : k = x
        · subst hkx; simp [updF]
        · simp [updF, hkx, keyB_int]
      rw [e1, ← e2]
      exact hp.map _
theorem MapF.run_del {ty : TypeId} (h : MapF W b ks f) (hu : P.underlying t = some (.map kt et)) (hk : P.underlying kt = some (.int .i64)) (x : Int) :
    ∃ o, (Builtin.delete_ #[t, kt] ty #[.map (some b), .int .i64 x]).run P W = .ok (.tuple #[]) (W.putObj b o) ∧ MapF (W.putObj b o) b (delI ks x) f := by
  obtain ⟨es, c, h1, h2, hp⟩ := h.ex
  have hK : MapKept.IsKey (.int .i64) (.int .i64 x) := rfl
  have hwf : ∀ k ∈ delI ks x, 0 ≤ k ∧ k < 16777216 := fun k hk => h.rng k ((mem_delI ks x k).1 hk).1
  rcases MapKept.findNow_spec hK es.toList 0 (isKeys_of hp) with ⟨ho, hn⟩ | ⟨j, e, ho, hj, he⟩
  · have hnk := ent_none hp hn
    have e1 : delI ks x = ks := List.filter_eq_self.2 fun k hk => by simp; exact fun e => hnk (e ▸ hk)
    refine ⟨.map es c, by simp [Builtin.delete_, run_underlying hu, MapKept.run_getObj_map h1, MapKept.run_checkKey hk hK, MapKept.run_findKey hk ho, MapKept.run_setObj_map _ h1, World.putObj], ⟨_, _, putObj_get h1, h2, by rw [e1]; exact hp⟩, up_delI x h.up, hwf⟩
  · simp only [Nat.zero_add] at ho
    refine ⟨.map (es.eraseIdxIfInBounds j) c, by simp [Builtin.delete_, run_underlying hu, MapKept.run_getObj_map h1, MapKept.run_checkKey hk hK, MapKept.run_findKey hk ho, MapKept.run_setObj_map _ h1, World.putObj], ⟨_, _, putObj_get h1, MapKept.stamped_erase h2 j, ?_⟩, up_delI x h.up, hwf⟩
    have hjl : j < es.size := by
      have := (List.getElem?_eq_some_iff.1 hj).1
      simpa using this
    have e0 : (es.eraseIdxIfInBounds j).toList = es.toList.eraseIdx j := by
      unfold Array.eraseIdxIfInBounds
      rw [dif_pos hjl]
      simp
    have hq : (es.toList.filter fun y => !keyB x y.key) = es.toList.eraseIdx j :=
      Go.ChangeMaps.filter_eq_eraseIdx (fun y : MapEntry => keyB x y.key) es.toList j e hj (by simp [he]) (by
        have := ((MapKept.stamped_iff es c).1 h2).2.2
        exact this.imp fun hne => by
          rintro ⟨a1, a2⟩
          exact hne ((keyB_iff.1 a1).trans (keyB_iff.1 a2).symm))
    rw [e0, ← hq]
    have e3 : (es.toList.filter fun y => !keyB x y.key).map pr = (es.toList.map pr).filter fun p => !keyB x p.1 := by
      rw [List.filter_map]; rfl
    have e4 : (prs ks f).filter (fun p => !keyB x p.1) = prs (delI ks x) f := by
      unfold prs delI
      rw [List.filter_map]
      congr 1
      refine List.filter_congr fun k _ => ?_
      by_cases hkx : k = x <;> simp [keyB_int, hkx]
    rw [e3, ← e4]
    exact hp.filter _

/-- As the library's contracts on maps.Keys ask for it. -/
theorem MapF.owns (h : MapF W b ks f) (hk : P.underlying kt = some (.int .i64)) :
    ∃ D0 : DataW Unit, W.ownsMap P kt (fun _ => some (.lit (.bool true), [])) b ks.length D0 ∧ (Go.intKeys D0).Perm ks ∧ Maps.size D0 = ks.length := by
  obtain ⟨es, c, h1, h2, hp⟩ := h.ex
  have hl : es.size = ks.length := by have := hp.length_eq; simpa [prs] using this
  have hrd : ∀ x ∈ es.toList, ∃ k ∈ ks, x.key = .int .i64 k := fun x hx => by
    have : pr x ∈ prs ks f := hp.mem_iff.1 (List.mem_map.2 ⟨x, hx, rfl⟩)
    obtain ⟨k, hk, e⟩ := List.mem_map.1 this
    exact ⟨k, hk, (congrArg Prod.fst e).symm⟩
  have hr2 : ∀ x ∈ es.toList, ∀ k, x.key = .int .i64 k → k ∈ ks → WideElems.rd P kt (fun _ => some ((.lit (.bool true) : DataW Unit), [])) x = some (.int .i64 k, .lit (.bool true)) := fun x _ k e hkk => by
    unfold WideElems.rd
    rw [e, Maps.keyOf_int_mk hk (h.wf k hkk)]
    rfl
  refine ⟨_, ⟨es, c, h1, ⟨by have := h.le; unfold maxLen; omega, h2, fun x hx => ?_⟩, by omega, rfl⟩, ?_, ?_⟩
  · obtain ⟨k, hkk, e⟩ := hrd x hx
    exact ⟨_, hr2 x hx k e hkk⟩
  · unfold Go.intKeys
    refine ((WideShapes.sorted_perm _).map _).trans ?_
    rw [List.map_map]
    have e1 : es.toList.map ((fun p : Lit × DataW Unit => Go.intOf p.1) ∘ WideElems.rg P kt fun _ => some ((.lit (.bool true) : DataW Unit), [])) = (es.toList.map pr).map fun p => match p.1 with | .int _ k => k | _ => 0 := by
      rw [List.map_map]
      refine List.map_congr_left fun x hx => ?_
      obtain ⟨k, hkk, e⟩ := hrd x hx
      simp only [Function.comp, WideElems.rg, hr2 x hx k e hkk, Option.getD_some, pr, e]
      rfl
    rw [e1]
    refine (hp.map _).trans ?_
    unfold prs
    rw [List.map_map]
    have : ks.map ((fun p : Value × Value => match p.1 with | .int _ k => k | _ => (0 : Int)) ∘ fun k => (Value.int .i64 k, f k)) = ks := by
      conv => rhs; rw [← List.map_id ks]
      exact List.map_congr_left fun k _ => rfl
    rw [this]
  · show (List.foldr DataW.insert [] _).length = ks.length
    rw [Go.length_sorted]
    simp [hl]
end
/-- Sorted, a permutation of an increasing list is that list. -/
theorem sorted_perm_up {ss ks : List Int} (h : ss.Perm ks) (hu : Up ks) : (ss.mergeSort fun x y => decide (x ≤ y)) = ks := by
  have hs : (ss.mergeSort fun x y => decide (x ≤ y)).Pairwise (· ≤ ·) := by
    have := List.pairwise_mergeSort (le := fun x y : Int => decide (x ≤ y)) (by intro a b c h1 h2; simp at *; omega) (by intro a b; simp; omega) ss
    exact this.imp fun h => by simpa using h
  have hp : (ss.mergeSort fun x y => decide (x ≤ y)).Perm ks := (List.mergeSort_perm ss _).trans h
  have hn : (ss.mergeSort fun x y => decide (x ≤ y)).Nodup := hp.nodup_iff.2 hu.nodup
  refine up_ext ?_ hu fun x => hp.mem_iff
  have := hs.and hn
  exact this.imp fun ⟨a, b⟩ => by
    have : _ ≠ _ := b
    omega
end Go.Proofs.Ytidojcogojchpaa

/- A store into a map in two steps: the entry is found or made, then it is written; maps.clone. -/
set_option linter.unusedVariables false
set_option linter.unusedSimpArgs false
namespace Go.Proofs.Ytidojcogojchpaa
open Go.RowKit

section
variable {P : Program} {W : World} {t kt et : TypeId} {b : Nat} {ks : List Int} {f : Int → Value}
/-- Behind the first step: the second one, in whatever world in which the map's block lies so. -/
def Entered (P : Program) (t : TypeId) (b : Nat) (ks : List Int) (f : Int → Value) (x : Int) (st : Nat) (o : Obj) : Prop :=
  ∀ (W2 : World) (v : Value), W2.heap[b]? = some o → ∃ o2, (Instr.entryStore t (.map (some b)) (goInt st) v).run P W2 = .ok () (W2.putObj b o2) ∧ MapF (W2.putObj b o2) b (insI ks x) (updF f x v)

theorem find_born {es : List MapEntry} {j : Nat} {e : MapEntry} (hj : es[j]? = some e) (hn : (es.map (·.born)).Nodup) : es.findIdx? (fun y => (y.born : Int) == (e.born : Int)) = some j := by
  rw [List.findIdx?_eq_some_iff_getElem]
  obtain ⟨hl, he⟩ := List.getElem?_eq_some_iff.1 hj
  refine ⟨hl, by simp [he], fun i hi => ?_⟩
  have hpw := List.pairwise_iff_getElem.1 hn i j (by simp; omega) (by simpa using hl) hi
  simp only [List.getElem_map, he] at hpw
  have : ((es[i].born : Nat) : Int) ≠ (e.born : Int) := fun h => hpw (by exact_mod_cast h)
  simpa using this

theorem findIdx_arr' {p : MapEntry → Bool} (es : Array MapEntry) : es.findIdx? p = es.toList.findIdx? p := by cases es; simp
theorem MapF.run_entry (h : MapF W b ks f) (hu : P.underlying t = some (.map kt et)) (hk : P.underlying kt = some (.int .i64)) {z : Value} (hz : ∀ W, (zeroValue et).run P W = .ok z W) (x : Int) (hx : 0 ≤ x ∧ x < 16777216) :
    ∃ (v0 : Value) (st : Nat) (o : Obj), (Instr.mapEntry t (.map (some b)) (.int .i64 x)).run P W = .ok (.tuple #[v0, goInt st]) (W.putObj b o) ∧ Entered P t b ks f x st o := by
  obtain ⟨es, c, h1, h2, hp⟩ := h.ex
  have hK : MapKept.IsKey (.int .i64) (.int .i64 x) := rfl
  have hwf : ∀ k ∈ insI ks x, 0 ≤ k ∧ k < 16777216 := fun k hk => by
    rcases (mem_insI x k ks).1 hk with rfl | hk
    · exact hx
    · exact h.rng k hk
  have step : ∀ (es1 : Array MapEntry) (c1 : Nat) (e : MapEntry) (j : Nat) (v : Value) (W2 : World), MapKept.Stamped es1 c1 → es1[j]? = some e → W2.heap[b]? = some (.map es1 c1) →
      (Instr.entryStore t (.map (some b)) (goInt e.born) v).run P W2 = .ok () (W2.putObj b (.map (es1.modify j fun e => { e with val := v }) c1)) ∧ MapKept.Stamped (es1.modify j fun e => { e with val := v }) c1 := by
    intro es1 c1 e j v W2 hs hj hb
    have hf : es1.findIdx? (fun y => (y.born : Int) == (e.born : Int)) = some j := by
      rw [findIdx_arr']
      exact find_born (by simpa using hj) hs.2.1
    refine ⟨?_, MapKept.stamped_modify hs _ _ (fun _ _ => rfl) (fun _ _ _ => rfl)⟩
    simp only [Instr.entryStore, Sem.run_bind, MapKept.run_getObj_map hb, Result.andThen, goInt]
    simp [asInt, asIntOf, Result.andThen, hf, MapKept.run_setObj_map _ hb, World.putObj]
  rcases MapKept.findNow_spec hK es.toList 0 (isKeys_of hp) with ⟨ho, hn⟩ | ⟨j, e, ho, hj, he⟩
  · have hnk := ent_none hp hn
    refine ⟨z, c, .map (es.push ⟨.int .i64 x, z, c⟩) (c + 1), ?_, fun W2 v hW2 => ?_⟩
    · simp [Instr.mapEntry, run_underlying hu, MapKept.run_getObj_map h1, MapKept.run_checkKey hk hK, MapKept.run_findKey hk ho, hz, MapKept.run_setObj_map _ h1, World.putObj]
    · have hs := MapKept.stamped_push (val := z) h2 hn
      obtain ⟨s1, s2⟩ := step _ _ ⟨.int .i64 x, z, c⟩ es.size v W2 hs (by simp) hW2
      refine ⟨_, s1, ⟨_, _, putObj_get hW2, s2, ?_⟩, up_insI x h.up, hwf⟩
      have e0 : ((es.push ⟨.int .i64 x, z, c⟩).modify es.size fun e => { e with val := v }).toList.map pr = es.toList.map pr ++ [(Value.int .i64 x, v)] := by
        refine List.ext_getElem? fun i => ?_
        simp only [List.getElem?_map, Array.getElem?_toList, Array.getElem?_modify, Array.getElem?_push]
        by_cases hi : es.size = i
        · subst hi
          simp [List.getElem?_append, pr]
        · have hi2 : i ≠ es.size := fun e => hi e.symm
          rw [if_neg hi, if_neg hi2]
          rw [List.getElem?_append]
          split
          · simp
          · rename_i hlt
            simp only [List.length_map, Array.length_toList, Nat.not_lt] at hlt
            rw [Array.getElem?_eq_none hlt, List.getElem?_eq_none (by simp; omega)]
            rfl
      rw [e0]
      have e1 : (prs (insI ks x) (updF f x v)).Perm ((Value.int .i64 x, v) :: prs ks f) := by
        refine ((insI_perm hnk).map _).trans ?_
        rw [List.map_cons]
        have e2 := prs_upd_not (f := f) (v := v) hnk
        unfold prs at e2
        rw [e2]
        simp [updF, prs]
      refine List.Perm.trans ?_ e1.symm
      exact (List.perm_append_comm).trans ((List.Perm.refl _).append hp)
  · obtain ⟨m1, m2⟩ := ent_at hp (List.mem_of_getElem? hj) he
    have hjj : es[j]? = some e := by simpa using hj
    simp only [Nat.zero_add] at ho
    have hkey : ∀ e', es[j]? = some e' → ({ e' with key := .int .i64 x } : MapEntry).key = e'.key := fun e' he' => by rw [hjj] at he'; cases he'; exact he.symm
    refine ⟨e.val, e.born, .map (es.modify j fun e => { e with key := .int .i64 x }) c, ?_, fun W2 v hW2 => ?_⟩
    · simp [Instr.mapEntry, run_underlying hu, MapKept.run_getObj_map h1, MapKept.run_checkKey hk hK, MapKept.run_findKey hk ho, hjj, he, MapKept.run_keyThatStays (d := .int .i64) hK, MapKept.run_setObj_map _ h1, World.putObj]
    · have hs := MapKept.stamped_modify h2 j (fun e => { e with key := .int .i64 x }) (fun _ _ => rfl) (fun e' _ he' => hkey e' he')
      obtain ⟨s1, s2⟩ := step _ _ { e with key := .int .i64 x } j v W2 hs (by rw [Array.getElem?_modify]; simp [hjj]) hW2
      refine ⟨_, s1, ⟨_, _, putObj_get hW2, s2, ?_⟩, up_insI x h.up, hwf⟩
      rw [insI_mem h.up m1]
      have e1 : ((es.modify j fun e => { e with key := .int .i64 x }).modify j fun e => { e with val := v }).toList.map pr = (es.toList.map pr).map fun p => if keyB x p.1 = true then (p.1, v) else p := by
        refine List.ext_getElem? fun i => ?_
        simp only [List.getElem?_map, Array.getElem?_toList, Array.getElem?_modify]
        by_cases hij : j = i
        · subst hij
          rw [hjj]
          simp [he, pr]
        · rw [if_neg hij, if_neg hij]
          cases hi : es[i]? with
          | none => simp
          | some y =>
            have hpw := List.pairwise_iff_getElem.1 ((MapKept.stamped_iff es c).1 h2).2.2
            have li : i < es.toList.length := by have := (Array.getElem?_eq_some_iff.1 hi).1; simpa using this
            have lj : j < es.toList.length := by have := (Array.getElem?_eq_some_iff.1 hjj).1; simpa using this
            have ei : es.toList[i] = y := by have := (Array.getElem?_eq_some_iff.1 hi).2; simpa using this
            have ej : es.toList[j] = e := by have := (Array.getElem?_eq_some_iff.1 hjj).2; simpa using this
            have hne : y.key ≠ .int .i64 x := fun ey => by
              rcases Nat.lt_or_gt_of_ne hij with hl | hl
              · have := hpw j i lj li hl; rw [ei, ej, ey, he] at this; exact this rfl
              · have := hpw i j li lj hl; rw [ei, ej, ey, he] at this; exact this rfl
            have hkb := keyB_not hne
            simp [hkb, pr]
      have e2 : (prs ks f).map (fun p => if keyB x p.1 = true then (p.1, v) else p) = prs ks (updF f x v) := by
        simp only [prs, List.map_map]
        refine List.map_congr_left fun k _ => ?_
        by_cases hkx : k = x
        · subst hkx; simp [updF]
        · simp [updF, hkx, keyB_int]
      rw [e1, ← e2]
      exact hp.map _
end

/-! ### A map that may be nil -/
def MapO (W : World) (ob : Option Nat) (ks : List Int) (f : Int → Value) : Prop := match ob with
  | none => ks = []
  | some b => MapF W b ks f
section
variable {P : Program} {W : World} {t kt et : TypeId} {ob : Option Nat} {ks : List Int} {f : Int → Value}
theorem MapO.upd {F : Nat → Prop} {W' : World} (h : MapO W ob ks f) (hu : Upd F W W') (hF : ∀ k, ob = some k → ¬ F k) : MapO W' ob ks f := by
  cases ob with
  | none => exact h
  | some b => exact MapF.upd h hu (hF b rfl)
theorem MapO.lt (h : MapO W ob ks f) : ∀ k, ob = some k → k < W.heap.size := fun k e => by subst e; exact MapF.lt h
theorem MapO.up (h : MapO W ob ks f) : Up ks := by
  cases ob with
  | none => have : ks = [] := h; subst this; exact List.Pairwise.nil
  | some b => exact MapF.up h
theorem MapO.rng (h : MapO W ob ks f) : ∀ k ∈ ks, 0 ≤ k ∧ k < 16777216 := by
  cases ob with
  | none => have : ks = [] := h; subst this; simp
  | some b => exact MapF.rng h
theorem MapO.le (h : MapO W ob ks f) : ks.length ≤ 16777216 := up_len 16777216 (a := 0) h.up fun k hk => by have := h.rng k hk; omega
theorem MapO.run_look (h : MapO W ob ks f) (hu : P.underlying t = some (.map kt et)) (hk : P.underlying kt = some (.int .i64)) {z : Value} (hz : ∀ W, (zeroValue et).run P W = .ok z W) (x : Int) :
    (Instr.lookup t (.map ob) (.int .i64 x) false).run P W = .ok (if x ∈ ks then f x else z) W := by
  cases ob with
  | none =>
    have : ks = [] := h
    subst this
    have hK : MapKept.IsKey (.int .i64) (.int .i64 x) := rfl
    simp [Instr.lookup, run_underlying hu, MapKept.run_checkKey hk hK, MapKept.run_findKey (l := []) (k := .int .i64 x) (a := none) hk rfl, hz]
  | some b => exact MapF.run_look h hu hk hz x
theorem MapO.run_len {ty : TypeId} (h : MapO W ob ks f) (hu : P.underlying t = some (.map kt et)) : (Builtin.len_ #[t] ty #[.map ob]).run P W = .ok (.int .i64 (ks.length : Int)) W := by
  cases ob with
  | none =>
    have : ks = [] := h
    subst this
    simp [Builtin.len_, run_underlying hu, goInt]
  | some b => exact MapF.run_len h hu
end
end Go.Proofs.Ytidojcogojchpaa

/- A memory of the guest: its maps and pages in the heap; what a call may change of it. -/
set_option linter.unusedVariables false
set_option linter.unusedSimpArgs false
namespace Go.Proofs.Ytidojcogojchpaa
open Go.RowKit

/-- A page: rights and bytes. -/
structure Pg where
  r : Int
  bs : List Int
def pgCells (p : Pg) : List Value := .int .i64 p.r :: nums .u8 p.bs
def pgObj (p : Pg) : Obj := .cells (pgCells p).toArray 98 (0, 0)
structure PgOk (p : Pg) : Prop where
  len : p.bs.length = 256
  u8 : ∀ x ∈ p.bs, 0 ≤ x ∧ x < 256
  r : 0 ≤ p.r ∧ p.r ≤ 7
/-- A memory, as the statements see it: the numbers of its pages, the pages, the numbers of those that have changed. -/
structure PM where
  ks : List Int
  pg : Int → Pg
  cg : List Int
/-- Where a memory lies: its page blocks, which of these it has alone, its three maps. -/
structure MS where
  at_ : Int → Nat
  own : List Int
  bc : Option Nat
  bp : Option Nat
  bo : Option Nat
abbrev ptrTo (S : MS) (n : Int) : Value := .pointer (some ⟨S.at_ n, 0, none⟩)
structure MemIs (W : World) (b : Nat) (S : MS) (A : PM) : Prop where
  box : W.heap[b]? = some (.cells #[.map S.bc, .map S.bp, .map S.bo] 104 (0, 0))
  pages : MapO W S.bp A.ks (ptrTo S)
  owns : MapO W S.bo S.own (fun _ => .bool true)
  chg : MapO W S.bc A.cg (fun _ => .bool true)
  page : ∀ n ∈ A.ks, W.heap[S.at_ n]? = some (pgObj (A.pg n)) ∧ PgOk (A.pg n)
  le : A.ks.length ≤ 2000
  sub : ∀ n ∈ S.own, n ∈ A.ks
  inj : ∀ n ∈ S.own, ∀ m ∈ A.ks, S.at_ n = S.at_ m → n = m
  ap1 : ∀ x, S.bp = some x → S.bo ≠ some x ∧ S.bc ≠ some x
  ap2 : ∀ x, S.bo = some x → S.bc ≠ some x
  nil : S.bp = none ↔ S.bo = none
/-- The blocks that a memory reads; those that it may write. -/
def MS.reads (S : MS) (ks : List Int) (b k : Nat) : Prop := k = b ∨ S.bc = some k ∨ S.bp = some k ∨ S.bo = some k ∨ ∃ n ∈ ks, k = S.at_ n
def MS.foot (S : MS) (b k : Nat) : Prop := k = b ∨ S.bc = some k ∨ S.bp = some k ∨ S.bo = some k ∨ ∃ n ∈ S.own, k = S.at_ n
section
variable {W W' : World} {b : Nat} {S : MS} {A : PM}
theorem MemIs.lt (h : MemIs W b S A) : ∀ k, S.reads A.ks b k → k < W.heap.size := by
  rintro k (rfl | e | e | e | ⟨n, hn, rfl⟩)
  · exact (Array.getElem?_eq_some_iff.1 h.box).1
  · exact h.chg.lt k e
  · exact h.pages.lt k e
  · exact h.owns.lt k e
  · exact (Array.getElem?_eq_some_iff.1 (h.page n hn).1).1
theorem MemIs.foot_reads (h : MemIs W b S A) : ∀ k, S.foot b k → S.reads A.ks b k := by
  rintro k (rfl | e | e | e | ⟨n, hn, rfl⟩)
  · exact .inl rfl
  · exact .inr (.inl e)
  · exact .inr (.inr (.inl e))
  · exact .inr (.inr (.inr (.inl e)))
  · exact .inr (.inr (.inr (.inr ⟨n, h.sub n hn, rfl⟩)))
theorem MemIs.upd {F : Nat → Prop} (h : MemIs W b S A) (hu : Upd F W W') (hF : ∀ k, S.reads A.ks b k → ¬ F k) : MemIs W' b S A := by
  have hl := h.lt
  refine ⟨?_, h.pages.upd hu fun k e => hF k (.inr (.inr (.inl e))), h.owns.upd hu fun k e => hF k (.inr (.inr (.inr (.inl e)))), h.chg.upd hu fun k e => hF k (.inr (.inl e)), fun n hn => ⟨?_, (h.page n hn).2⟩, h.le, h.sub, h.inj, h.ap1, h.ap2, h.nil⟩
  · rw [hu.block b (hl b (.inl rfl)) (hF b (.inl rfl))]; exact h.box
  · have hr : S.reads A.ks b (S.at_ n) := .inr (.inr (.inr (.inr ⟨n, hn, rfl⟩)))
    rw [hu.block _ (hl _ hr) (hF _ hr)]; exact (h.page n hn).1
theorem MemIs.below (h : MemIs W b S A) (hb : Below W.heap.size W W') : MemIs W' b S A := h.upd (Upd.of_below hb) fun k hk => by have := h.lt k hk; omega
theorem MemIs.up (h : MemIs W b S A) : Up A.ks := h.pages.up
theorem MemIs.rng (h : MemIs W b S A) : ∀ n ∈ A.ks, 0 ≤ n ∧ n < 16777216 := h.pages.rng
/-- No page's block is the struct or a map. -/
theorem MemIs.page_ne (h : MemIs W b S A) (n : Int) (hn : n ∈ A.ks) : S.at_ n ≠ b ∧ S.bc ≠ some (S.at_ n) ∧ S.bp ≠ some (S.at_ n) ∧ S.bo ≠ some (S.at_ n) := by
  have hp := (h.page n hn).1
  refine ⟨fun e => ?_, fun e => ?_, fun e => ?_, fun e => ?_⟩
  · rw [e, h.box] at hp
    simp [pgObj] at hp
  · have hm := h.chg
    rw [e] at hm
    obtain ⟨es, c, h1, _⟩ := MapF.ex hm
    rw [hp] at h1; simp [pgObj] at h1
  · have hm := h.pages
    rw [e] at hm
    obtain ⟨es, c, h1, _⟩ := MapF.ex hm
    rw [hp] at h1; simp [pgObj] at h1
  · have hm := h.owns
    rw [e] at hm
    obtain ⟨es, c, h1, _⟩ := MapF.ex hm
    rw [hp] at h1; simp [pgObj] at h1
theorem MemIs.box_ne (h : MemIs W b S A) : S.bc ≠ some b ∧ S.bp ≠ some b ∧ S.bo ≠ some b := by
  have key : ∀ {ob : Option Nat} {ks : List Int} {f : Int → Value}, MapO W ob ks f → ob ≠ some b := fun {ob ks f} hm e => by
    rw [e] at hm
    obtain ⟨es, c, h1, _⟩ := MapF.ex hm
    rw [h.box] at h1; simp at h1
  exact ⟨key h.chg, key h.pages, key h.owns⟩
end
/-- What a call on a memory did. -/
structure Went (w w' : World) (b : Nat) (S : MS) (ks : List Int) (S' : MS) (ks' : List Int) : Prop where
  upd : Upd (S.foot b) w w'
  foot : ∀ k, S'.foot b k → S.foot b k ∨ w.heap.size ≤ k
  reads : ∀ k, S'.reads ks' b k → S.reads ks b k ∨ w.heap.size ≤ k
  bp : S'.bp = S.bp
theorem Went.refl (w : World) (b : Nat) (S : MS) (ks : List Int) : Went w w b S ks S ks := ⟨Upd.refl _ _, fun _ h => .inl h, fun _ h => .inl h, rfl⟩
theorem Went.trans {w1 w2 w3 : World} {b : Nat} {S1 S2 S3 : MS} {k1 k2 k3 : List Int} (h : Went w1 w2 b S1 k1 S2 k2) (h' : Went w2 w3 b S2 k2 S3 k3) : Went w1 w3 b S1 k1 S3 k3 := by
  have hs := h.upd.size
  refine ⟨h.upd.trans h'.upd h.foot, fun k hk => ?_, fun k hk => ?_, h'.bp.trans h.bp⟩
  · rcases h'.foot k hk with h2 | h2
    · exact h.foot k h2
    · exact .inr (by omega)
  · rcases h'.reads k hk with h2 | h2
    · exact h.reads k h2
    · exact .inr (by omega)
theorem Went.below {w w' w'' : World} {b : Nat} {S : MS} {ks : List Int} {S' : MS} {ks' : List Int} (h : Went w w' b S ks S' ks') (hb : Below w'.heap.size w' w'') : Went w w'' b S ks S' ks' :=
  ⟨h.upd.trans (Upd.of_below hb) fun i hi => .inr (by have := h.upd.size; omega), h.foot, h.reads, h.bp⟩
theorem Went.of_below {w w' : World} (hb : Below w.heap.size w w') (b : Nat) (S : MS) (ks : List Int) : Went w w' b S ks S ks :=
  ⟨⟨hb.os, hb.tape, hb.output, hb.size, fun k hk _ => hb.block k hk⟩, fun _ h => .inl h, fun _ h => .inl h, rfl⟩
/-- All that lies in new blocks is left alone by what came before. -/
theorem Went.low {w w' : World} {b : Nat} {S : MS} {ks : List Int} {S' : MS} {ks' : List Int} (h : Went w w' b S ks S' ks') {B : Nat} (hB : B ≤ w.heap.size) (hS : ∀ k, S.foot b k → B ≤ k) : Below B w w' ∧ ∀ k, S'.foot b k → B ≤ k :=
  ⟨h.upd.below hB hS, fun k hk => by rcases h.foot k hk with h1 | h1; exact hS k h1; omega⟩
end Go.Proofs.Ytidojcogojchpaa

/- mem.New, touch, at. -/
set_option linter.unusedVariables false
set_option linter.unusedSimpArgs false
namespace Go.Proofs.Ytidojcogojchpaa
open Go.RowKit

def zeroP : Pg := ⟨0, []⟩
def PM.new : PM := ⟨[], fun _ => zeroP, []⟩
def MS.new (n : Nat) : MS := ⟨fun _ => 0, [], none, some n, some (n + 1)⟩
set_option maxHeartbeats 400000 in
theorem New_any (w : World) : Calls Try.prog 39 #[] w fun e w' => e = .returned (.pointer (some ⟨w.heap.size + 2, 0, none⟩)) ∧ MemIs w' (w.heap.size + 2) (MS.new w.heap.size) PM.new ∧ Below w.heap.size w w' := by
  have hmm := @run_makeMap Try.prog
  go_enter Try.func39, Try.ntmps39
  go_wp2
  go_ret
  obtain ⟨W1, hW1⟩ : ∃ W1, w.alloc (.map #[] 0) = W1 := ⟨_, rfl⟩
  obtain ⟨W2, hW2⟩ : ∃ W2, W1.alloc (.map #[] 0) = W2 := ⟨_, rfl⟩
  rw [hW1, hW2]
  have s1 : W1.heap.size = w.heap.size + 1 := by rw [← hW1]; simp
  have s2 : W2.heap.size = w.heap.size + 2 := by rw [← hW2]; simp [s1]
  have m1 : MapF W1 w.heap.size [] (ptrTo (MS.new w.heap.size)) := by rw [← hW1]; exact MapF.made _ _
  have m2 : MapF W2 (w.heap.size + 1) [] (fun _ => .bool true) := by rw [← hW2, ← s1]; exact MapF.made _ _
  have b2 : Below W1.heap.size W1 W2 := by rw [← hW2]; exact balloc _ _
  have b3 := balloc W2 (.cells #[.map none, .map (some w.heap.size), .map (some (w.heap.size + 1))] 104)
  refine ⟨rfl, ⟨?_, (m1.below b2).below b3, m2.below b3, rfl, fun n hn => absurd hn (by simp [PM.new]), Nat.zero_le _, fun n hn => absurd hn (by simp [MS.new]), fun n hn => absurd hn (by simp [MS.new]), ?_, ?_, (by simp [MS.new])⟩, ?_⟩
  · rw [← s2]; exact heap_alloc_new _ _
  · intro x hx
    obtain rfl : w.heap.size = x := by simpa [MS.new] using hx
    simp [MS.new]
  · intro x _; simp [MS.new]
  · have b1 : Below w.heap.size w W1 := by rw [← hW1]; exact balloc _ _
    exact (b1.trans (b2.mono (by omega))).trans (b3.mono (by omega))
end Go.Proofs.Ytidojcogojchpaa

/- The library's contracts on maps.Keys, slices.Sorted and slices.Sort, laid at this program. (printed by gen/lay.py) -/
set_option linter.unusedVariables false
set_option linter.unusedSimpArgs false
namespace Go.Proofs.Ytidojcogojchpaa
open Go.RowKit Go.Shelf Go.Proofs

def keysP_ren : Go.Shelf.Ren := ⟨fun | 7 => 100 | 10 => 121 | n => n, fun | 23 => 102 | 26 => 3 | 3 => 95 | 28 => 140 | 0 => 0 | 27 => 139 | 33 => 155 | 4 => 4 | n => n, fun | n => n⟩
theorem keysP : Go.Proofs.SlLaysZI.n7 Try.prog keysP_ren := { mixed := by kernel_rfl, f7 := ⟨Try.f100.name, by decide, Try.func100.trans (congrArg some (by kernel_rfl))⟩, f10 := ⟨Try.f121.name, by decide, Try.func121.trans (congrArg some (by kernel_rfl))⟩, t0 := Try.underlying0, a0 := Try.isAgg0, z0 := Try.sizeOf0, v0 := Try.zeroValue0, t4 := Try.underlying4, a4 := Try.isAgg4, z4 := Try.sizeOf4, v4 := Try.zeroValue4, t23 := Try.underlying102, a23 := Try.isAgg102, z23 := Try.sizeOf102, v23 := Try.zeroValue102, t26 := Try.underlying3, a26 := Try.isAgg3, z26 := Try.sizeOf3, v26 := Try.zeroValue3, t27 := Try.underlying139, a27 := Try.isAgg139, z27 := Try.sizeOf139, v27 := Try.zeroValue139, t28 := Try.underlying140, a28 := Try.isAgg140, z28 := Try.sizeOf140, v28 := Try.zeroValue140, t33 := Try.underlying155, a33 := Try.isAgg155, z33 := Try.sizeOf155, v33 := Try.zeroValue155 }
def keysB_ren : Go.Shelf.Ren := ⟨fun | 7 => 106 | 10 => 133 | n => n, fun | 23 => 99 | 26 => 3 | 3 => 4 | 28 => 140 | 0 => 0 | 27 => 139 | 33 => 155 | 4 => 4 | n => n, fun | n => n⟩
theorem keysB : Go.Proofs.SlLaysZI.n7 Try.prog keysB_ren := { mixed := by kernel_rfl, f7 := ⟨Try.f106.name, by decide, Try.func106.trans (congrArg some (by kernel_rfl))⟩, f10 := ⟨Try.f133.name, by decide, Try.func133.trans (congrArg some (by kernel_rfl))⟩, t0 := Try.underlying0, a0 := Try.isAgg0, z0 := Try.sizeOf0, v0 := Try.zeroValue0, t4 := Try.underlying4, a4 := Try.isAgg4, z4 := Try.sizeOf4, v4 := Try.zeroValue4, t23 := Try.underlying99, a23 := Try.isAgg99, z23 := Try.sizeOf99, v23 := Try.zeroValue99, t26 := Try.underlying3, a26 := Try.isAgg3, z26 := Try.sizeOf3, v26 := Try.zeroValue3, t27 := Try.underlying139, a27 := Try.isAgg139, z27 := Try.sizeOf139, v27 := Try.zeroValue139, t28 := Try.underlying140, a28 := Try.isAgg140, z28 := Try.sizeOf140, v28 := Try.zeroValue140, t33 := Try.underlying155, a33 := Try.isAgg155, z33 := Try.sizeOf155, v33 := Try.zeroValue155 }
def sortedL_ren : Go.Shelf.Ren := ⟨fun | 6 => 99 | 8 => 120 | 9 => 60 | 11 => 137 | 13 => 102 | 12 => 101 | 23 => 130 | 24 => 131 | 14 => 122 | 15 => 123 | 16 => 124 | 17 => 125 | 18 => 126 | 19 => 127 | 20 => 91 | 21 => 128 | 22 => 129 | 25 => 138 | 26 => 139 | 27 => 140 | 28 => 141 | 29 => 142 | 30 => 117 | 31 => 144 | n => n, fun | 26 => 3 | 28 => 140 | 24 => 59 | 0 => 0 | 3 => 3 | 37 => 67 | 48 => 34 | 50 => 92 | 4 => 4 | 40 => 160 | 39 => 159 | 45 => 55 | 5 => 5 | 9 => 9 | 51 => 169 | 55 => 173 | 57 => 176 | 58 => 177 | 33 => 155 | n => n, fun | n => n⟩
theorem sortedL : Go.Proofs.SlLaysZI.n6 Try.prog sortedL_ren := { mixed := by kernel_rfl, f6 := ⟨Try.f99.name, by decide, Try.func99.trans (congrArg some (by kernel_rfl))⟩, f8 := ⟨Try.f120.name, by decide, Try.func120.trans (congrArg some (by kernel_rfl))⟩, f11 := ⟨Try.f137.name, by decide, Try.func137.trans (congrArg some (by kernel_rfl))⟩, t0 := Try.underlying0, a0 := Try.isAgg0, z0 := Try.sizeOf0, v0 := Try.zeroValue0, t24 := Try.underlying59, a24 := Try.isAgg59, z24 := Try.sizeOf59, v24 := Try.zeroValue59, t26 := Try.underlying3, a26 := Try.isAgg3, z26 := Try.sizeOf3, v26 := Try.zeroValue3, t28 := Try.underlying140, a28 := Try.isAgg140, z28 := Try.sizeOf140, v28 := Try.zeroValue140, i26 := by kernel_rfl }
def sortL_ren : Go.Shelf.Ren := ⟨fun | 5 => 60 | 8 => 102 | 7 => 101 | 19 => 130 | 20 => 131 | 10 => 122 | 11 => 123 | 12 => 124 | 13 => 125 | 14 => 126 | 15 => 127 | 16 => 91 | 17 => 128 | 18 => 129 | 30 => 138 | 31 => 139 | 32 => 140 | 33 => 141 | 34 => 142 | 35 => 117 | 40 => 144 | n => n, fun | 23 => 59 | 25 => 3 | 3 => 3 | 32 => 67 | 22 => 59 | 0 => 0 | 44 => 34 | 46 => 92 | 4 => 4 | 36 => 160 | 35 => 159 | 41 => 55 | 5 => 5 | 9 => 9 | 53 => 169 | 57 => 173 | 63 => 176 | 64 => 177 | n => n, fun | n => n⟩
theorem sortL : Go.Proofs.SlLaysM.n5 Try.prog sortL_ren := { mixed := by kernel_rfl, f5 := ⟨Try.f60.name, by decide, Try.func60.trans (congrArg some (by kernel_rfl))⟩, f7 := ⟨Try.f101.name, by decide, Try.func101.trans (congrArg some (by kernel_rfl))⟩, f8 := Try.func102.trans (congrArg some (by kernel_rfl)), f10 := ⟨Try.f122.name, by decide, Try.func122.trans (congrArg some (by kernel_rfl))⟩, f11 := ⟨Try.f123.name, by decide, Try.func123.trans (congrArg some (by kernel_rfl))⟩, f12 := ⟨Try.f124.name, by decide, Try.func124.trans (congrArg some (by kernel_rfl))⟩, f13 := ⟨Try.f125.name, by decide, Try.func125.trans (congrArg some (by kernel_rfl))⟩, f14 := ⟨Try.f126.name, by decide, Try.func126.trans (congrArg some (by kernel_rfl))⟩, f15 := ⟨Try.f127.name, by decide, Try.func127.trans (congrArg some (by kernel_rfl))⟩, f16 := ⟨Try.f91.name, by decide, Try.func91.trans (congrArg some (by kernel_rfl))⟩, f17 := ⟨Try.f128.name, by decide, Try.func128.trans (congrArg some (by kernel_rfl))⟩, f18 := ⟨Try.f129.name, by decide, Try.func129.trans (congrArg some (by kernel_rfl))⟩, f19 := Try.func130.trans (congrArg some (by kernel_rfl)), f20 := Try.func131.trans (congrArg some (by kernel_rfl)), f30 := ⟨Try.f138.name, by decide, Try.func138.trans (congrArg some (by kernel_rfl))⟩, f31 := Try.func139.trans (congrArg some (by kernel_rfl)), f32 := Try.func140.trans (congrArg some (by kernel_rfl)), f33 := ⟨Try.f141.name, by decide, Try.func141.trans (congrArg some (by kernel_rfl))⟩, f34 := ⟨Try.f142.name, by decide, Try.func142.trans (congrArg some (by kernel_rfl))⟩, f35 := ⟨Try.f117.name, by decide, Try.func117.trans (congrArg some (by kernel_rfl))⟩, f40 := ⟨Try.f144.name, by decide, Try.func144.trans (congrArg some (by kernel_rfl))⟩, t0 := Try.underlying0, a0 := Try.isAgg0, z0 := Try.sizeOf0, v0 := Try.zeroValue0, t3 := Try.underlying3, a3 := Try.isAgg3, z3 := Try.sizeOf3, v3 := Try.zeroValue3, t4 := Try.underlying4, a4 := Try.isAgg4, z4 := Try.sizeOf4, v4 := Try.zeroValue4, t5 := Try.underlying5, a5 := Try.isAgg5, z5 := Try.sizeOf5, v5 := Try.zeroValue5, t9 := Try.underlying9, a9 := Try.isAgg9, z9 := Try.sizeOf9, v9 := Try.zeroValue9, t22 := Try.underlying59, a22 := Try.isAgg59, z22 := Try.sizeOf59, v22 := Try.zeroValue59, t23 := Try.underlying59, a23 := Try.isAgg59, z23 := Try.sizeOf59, v23 := Try.zeroValue59, t25 := Try.underlying3, a25 := Try.isAgg3, z25 := Try.sizeOf3, v25 := Try.zeroValue3, t32 := Try.underlying67, a32 := Try.isAgg67, z32 := Try.sizeOf67, v32 := Try.zeroValue67, t35 := Try.underlying159, a35 := Try.isAgg159, z35 := Try.sizeOf159, v35 := Try.zeroValue159, t36 := Try.underlying160, a36 := Try.isAgg160, z36 := Try.sizeOf160, v36 := Try.zeroValue160, t41 := Try.underlying55, a41 := Try.isAgg55, z41 := Try.sizeOf55, v41 := Try.zeroValue55, t44 := Try.underlying34, a44 := Try.isAgg34, z44 := Try.sizeOf34, v44 := Try.zeroValue34, t46 := Try.underlying92, a46 := Try.isAgg92, z46 := Try.sizeOf92, v46 := Try.zeroValue92, t53 := Try.underlying169, a53 := Try.isAgg169, z53 := Try.sizeOf169, v53 := Try.zeroValue169, t57 := Try.underlying173, a57 := Try.isAgg173, z57 := Try.sizeOf173, v57 := Try.zeroValue173, t63 := Try.underlying176, a63 := Try.isAgg176, z63 := Try.sizeOf176, v63 := Try.zeroValue176, t64 := Try.underlying177, a64 := Try.isAgg177, z64 := Try.sizeOf177, v64 := Try.zeroValue177 }

/-- slices.Sort's two contracts at this program, at the fence that asks nothing. -/
theorem sortsL (m : Nat) : AnyZI.SortsIn Try.prog sortedL_ren Fence.wide m :=
  ⟨fun blk off cap ss W hH hblk hsz => callsIn_wide.2 (AnyM.slices_Sort_int sortL blk off cap ss W hH hblk hsz),
   fun p cap W => callsIn_wide.2 (AnyM.slices_Sort_int_none sortL p cap W)⟩
end Go.Proofs.Ytidojcogojchpaa

/- slices.Sorted(maps.Keys(m)) at the memory's maps: the keys, increasing. (printed by gen/keys.py) -/
set_option linter.unusedVariables false
set_option linter.unusedSimpArgs false
namespace Go.Proofs.Ytidojcogojchpaa
open Go.RowKit Go.Shelf Go.Proofs

/-- What comes back: a new slice that holds the keys; nil just where there is none. -/
structure KeysE (ks : List Int) (w : World) (v : Value) (w' : World) : Prop where
  row : w'.ownsRow w.heap.size 3 1 v ks.length (nums .i64 ks)
  nil : v = .slice none 0 0 ↔ ks = []
  below : Below w.heap.size w w'

theorem keysP_any (mb : Option Nat) (W : World) : Calls Try.prog 100 #[.map mb] W fun e w' => e = .returned (.func (.func 121) #[] #[.pointer (some ⟨W.heap.size, 0, none⟩)]) ∧ W.alloc (.cells #[.map mb] 102) = w' := by
  have h : CallsIn Fence.wide 5 Try.prog 100 #[.map mb] W fun e w' => e = .returned (.func (.func 121) #[] #[.pointer (some ⟨W.heap.size, 0, none⟩)]) ∧ w' = W.alloc (.cells #[.map mb] 102) := AnyZI.keys_in keysP Fence.wide 5 trivial rfl mb W
  exact (callsIn_wide.1 h).mono fun e w' ⟨a, b⟩ => ⟨a, b.symm⟩
theorem sortP_any {ob : Option Nat} {ks : List Int} {f : Int → Value} (W : World) (h : MapO W ob ks f) : Calls Try.prog 99 #[.func (.func 121) #[] #[.pointer (some ⟨W.heap.size, 0, none⟩)]] (W.alloc (.cells #[.map ob] 102)) fun e w' => ∃ v, e = .returned v ∧ KeysE ks W v w' := by
  cases ob with
  | none =>
    obtain rfl : ks = [] := h
    have hseq : SeqGives Fence.wide 2 Try.prog 121 #[.pointer (some ⟨W.heap.size, 0, none⟩)] encZ (fun ss : List Int => ss = []) 0 (W.alloc (.cells #[.map none] 102)) :=
      AnyZI.keys_gives_nil (ρ := keysP_ren) { keysP with } Fence.wide _ trivial rfl W.heap.size _ (by simp) (by simp)
    have cS := AnyZI.sorted_in sortedL Fence.wide 5 trivial trivial trivial trivial rfl (by omega) (sortsL _) (enters_of Try.func60 (by kernel_rfl) rfl) 121 #[.pointer (some ⟨W.heap.size, 0, none⟩)] trivial (enters_of Try.func121 (by kernel_rfl) rfl) _ 0 (Nat.zero_le _) (by omega) _ hseq
    change CallsIn _ _ Try.prog 99 _ _ _ at cS
    refine (callsIn_wide.1 cS).mono ?_
    rintro e w' ⟨v, ss, rfl, rfl, hrow, hnil, hb⟩
    refine ⟨v, rfl, ⟨?_, hnil, ((Below.refl _ W).alloc (Nat.le_refl _) _).trans (hb.mono (by simp))⟩⟩
    have := ownsRow_base_a (base' := W.heap.size) hrow (by simp)
    change w'.ownsRow W.heap.size 3 1 v 0 _ at this
    simpa [nums] using this
  | some b =>
    have hm : MapF W b ks f := h
    obtain ⟨D0, hown, hperm, hsz⟩ := hm.owns (P := Try.prog) Try.underlying3
    have hbl := hown.lt
    have hle := hm.le
    have hseq : SeqGives Fence.wide 2 Try.prog 121 #[.pointer (some ⟨W.heap.size, 0, none⟩)] encZ (fun ss => ss.Perm (Go.intKeys D0)) (Maps.size D0) (W.alloc (.cells #[.map (some b)] 102)) :=
      AnyZI.keys_gives (ρ := keysP_ren) { keysP with } Fence.wide _ trivial rfl (by omega) W.heap.size b ks.length D0 _ (by simp) (by simp) (by
        obtain ⟨es, clock, hb, Ft, hs, hD⟩ := hown
        exact ⟨es, clock, (Below.heap_alloc _ _ b hbl).trans hb, Ft, hs, hD⟩)
    have cS := AnyZI.sorted_in sortedL Fence.wide 5 trivial trivial trivial trivial rfl (by omega) (sortsL _) (enters_of Try.func60 (by kernel_rfl) rfl) 121 #[.pointer (some ⟨W.heap.size, 0, none⟩)] trivial (enters_of Try.func121 (by kernel_rfl) rfl) _ (Maps.size D0) (by rw [hsz]; unfold maxLen; omega) (by rw [hsz]; omega) _ hseq
    change CallsIn _ _ Try.prog 99 _ _ _ at cS
    refine (callsIn_wide.1 cS).mono ?_
    rintro e w' ⟨v, ss, rfl, hS, hrow, hnil, hb⟩
    have hp := hS.trans hperm
    have es := sorted_perm_up hp hm.up
    rw [es] at hrow
    have hl := hp.length_eq
    rw [hl] at hrow
    refine ⟨v, rfl, ⟨ownsRow_base_a hrow (by simp), hnil.trans ⟨fun e => ?_, fun e => ?_⟩, ((Below.refl _ W).alloc (Nat.le_refl _) _).trans (hb.mono (by simp))⟩⟩
    · subst e; exact List.eq_nil_of_length_eq_zero (by rw [← hl]; rfl)
    · subst e; exact List.eq_nil_of_length_eq_zero (by rw [hl]; rfl)

theorem keysB_any (mb : Option Nat) (W : World) : Calls Try.prog 106 #[.map mb] W fun e w' => e = .returned (.func (.func 133) #[] #[.pointer (some ⟨W.heap.size, 0, none⟩)]) ∧ W.alloc (.cells #[.map mb] 99) = w' := by
  have h : CallsIn Fence.wide 5 Try.prog 106 #[.map mb] W fun e w' => e = .returned (.func (.func 133) #[] #[.pointer (some ⟨W.heap.size, 0, none⟩)]) ∧ w' = W.alloc (.cells #[.map mb] 99) := AnyZI.keys_in keysB Fence.wide 5 trivial rfl mb W
  exact (callsIn_wide.1 h).mono fun e w' ⟨a, b⟩ => ⟨a, b.symm⟩
theorem sortB_any {ob : Option Nat} {ks : List Int} {f : Int → Value} (W : World) (h : MapO W ob ks f) : Calls Try.prog 99 #[.func (.func 133) #[] #[.pointer (some ⟨W.heap.size, 0, none⟩)]] (W.alloc (.cells #[.map ob] 99)) fun e w' => ∃ v, e = .returned v ∧ KeysE ks W v w' := by
  cases ob with
  | none =>
    obtain rfl : ks = [] := h
    have hseq : SeqGives Fence.wide 2 Try.prog 133 #[.pointer (some ⟨W.heap.size, 0, none⟩)] encZ (fun ss : List Int => ss = []) 0 (W.alloc (.cells #[.map none] 99)) :=
      AnyZI.keys_gives_nil (ρ := keysB_ren) { keysB with } Fence.wide _ trivial rfl W.heap.size _ (by simp) (by simp)
    have cS := AnyZI.sorted_in sortedL Fence.wide 5 trivial trivial trivial trivial rfl (by omega) (sortsL _) (enters_of Try.func60 (by kernel_rfl) rfl) 133 #[.pointer (some ⟨W.heap.size, 0, none⟩)] trivial (enters_of Try.func133 (by kernel_rfl) rfl) _ 0 (Nat.zero_le _) (by omega) _ hseq
    change CallsIn _ _ Try.prog 99 _ _ _ at cS
    refine (callsIn_wide.1 cS).mono ?_
    rintro e w' ⟨v, ss, rfl, rfl, hrow, hnil, hb⟩
    refine ⟨v, rfl, ⟨?_, hnil, ((Below.refl _ W).alloc (Nat.le_refl _) _).trans (hb.mono (by simp))⟩⟩
    have := ownsRow_base_a (base' := W.heap.size) hrow (by simp)
    change w'.ownsRow W.heap.size 3 1 v 0 _ at this
    simpa [nums] using this
  | some b =>
    have hm : MapF W b ks f := h
    obtain ⟨D0, hown, hperm, hsz⟩ := hm.owns (P := Try.prog) Try.underlying3
    have hbl := hown.lt
    have hle := hm.le
    have hseq : SeqGives Fence.wide 2 Try.prog 133 #[.pointer (some ⟨W.heap.size, 0, none⟩)] encZ (fun ss => ss.Perm (Go.intKeys D0)) (Maps.size D0) (W.alloc (.cells #[.map (some b)] 99)) :=
      AnyZI.keys_gives (ρ := keysB_ren) { keysB with } Fence.wide _ trivial rfl (by omega) W.heap.size b ks.length D0 _ (by simp) (by simp) (by
        obtain ⟨es, clock, hb, Ft, hs, hD⟩ := hown
        exact ⟨es, clock, (Below.heap_alloc _ _ b hbl).trans hb, Ft, hs, hD⟩)
    have cS := AnyZI.sorted_in sortedL Fence.wide 5 trivial trivial trivial trivial rfl (by omega) (sortsL _) (enters_of Try.func60 (by kernel_rfl) rfl) 133 #[.pointer (some ⟨W.heap.size, 0, none⟩)] trivial (enters_of Try.func133 (by kernel_rfl) rfl) _ (Maps.size D0) (by rw [hsz]; unfold maxLen; omega) (by rw [hsz]; omega) _ hseq
    change CallsIn _ _ Try.prog 99 _ _ _ at cS
    refine (callsIn_wide.1 cS).mono ?_
    rintro e w' ⟨v, ss, rfl, hS, hrow, hnil, hb⟩
    have hp := hS.trans hperm
    have es := sorted_perm_up hp hm.up
    rw [es] at hrow
    have hl := hp.length_eq
    rw [hl] at hrow
    refine ⟨v, rfl, ⟨ownsRow_base_a hrow (by simp), hnil.trans ⟨fun e => ?_, fun e => ?_⟩, ((Below.refl _ W).alloc (Nat.le_refl _) _).trans (hb.mono (by simp))⟩⟩
    · subst e; exact List.eq_nil_of_length_eq_zero (by rw [← hl]; rfl)
    · subst e; exact List.eq_nil_of_length_eq_zero (by rw [hl]; rfl)
end Go.Proofs.Ytidojcogojchpaa

/- What stands of a memory behind a store: into the map of changed pages, into the maps of pages, into a page. -/
set_option linter.unusedVariables false
set_option linter.unusedSimpArgs false
namespace Go.Proofs.Ytidojcogojchpaa
open Go.RowKit

section
variable {W W1 : World} {b : Nat} {S : MS} {A : PM}
/-- What a map at another block is, stays. -/
theorem MapO.other {ob : Option Nat} {ks : List Int} {f : Int → Value} (h : MapO W ob ks f) {F : Nat → Prop} (hu : Upd F W W1) (hF : ∀ k, F k → ob ≠ some k) : MapO W1 ob ks f := h.upd hu fun k e hf => hF k hf e
theorem MemIs.chg1 (h : MemIs W b S A) {k : Nat} (hk : S.bc = some k) (hu : Upd (fun i => i = k) W W1) {cg : List Int} (hm : MapF W1 k cg (fun _ => .bool true)) :
    MemIs W1 b S { A with cg := cg } ∧ Went W W1 b S A.ks S A.ks := by
  obtain ⟨n1, n2, n3⟩ := h.box_ne
  have hl := h.lt
  refine ⟨⟨?_, h.pages.other hu fun i e => ?_, h.owns.other hu fun i e => ?_, ?_, fun n hn => ⟨?_, (h.page n hn).2⟩, h.le, h.sub, h.inj, h.ap1, h.ap2, h.nil⟩, hu.mono fun i e => .inr (.inl (e ▸ hk)), fun _ h => .inl h, fun _ h => .inl h, rfl⟩
  · rw [hu.block b (hl b (.inl rfl)) fun e => n1 (e ▸ hk)]; exact h.box
  · subst e; exact fun e => (h.ap1 i e).2 hk
  · subst e; exact fun e => h.ap2 i e hk
  · show MapO W1 S.bc cg _
    rw [hk]; exact hm
  · rw [hu.block _ (hl _ (.inr (.inr (.inr (.inr ⟨n, hn, rfl⟩))))) fun e => (h.page_ne n hn).2.1 (e ▸ hk)]; exact (h.page n hn).1
theorem MemIs.chg0 (h : MemIs W b S A) (hk : S.bc = none) :
    MemIs ((W.alloc (.map #[] 0)).setCell ⟨b, 0, none⟩ (.map (some W.heap.size))) b { S with bc := some W.heap.size } { A with cg := [] } ∧
      Went W ((W.alloc (.map #[] 0)).setCell ⟨b, 0, none⟩ (.map (some W.heap.size))) b S A.ks { S with bc := some W.heap.size } A.ks := by
  obtain ⟨n1, n2, n3⟩ := h.box_ne
  have hl := h.lt
  have hbl := hl b (.inl rfl)
  obtain ⟨W1, hW1⟩ : ∃ W1, W.alloc (.map #[] 0) = W1 := ⟨_, rfl⟩
  obtain ⟨W2, hW2⟩ : ∃ W2, W1.setCell ⟨b, 0, none⟩ (.map (some W.heap.size)) = W2 := ⟨_, rfl⟩
  rw [hW1, hW2]
  have hb1 : Below W.heap.size W W1 := by rw [← hW1]; exact balloc _ _
  have hu1 : Upd (fun i => i = b) W1 W2 := by rw [← hW2]; exact Upd.setCell W1 ⟨b, 0, none⟩ _
  have hu : Upd (fun i => i = b) W W2 := (Upd.any hb1).trans hu1 fun _ h => .inl h
  have hm : MapF W2 W.heap.size [] (fun _ => .bool true) := by
    have := (MapF.made W (fun _ => Value.bool true))
    rw [hW1] at this
    exact this.upd hu1 fun e => by omega
  refine ⟨⟨?_, h.pages.other hu fun i e => ?_, h.owns.other hu fun i e => ?_, hm, fun n hn => ⟨?_, (h.page n hn).2⟩, h.le, h.sub, h.inj, fun x hx => ⟨(h.ap1 x hx).1, fun e => ?_⟩, fun x hx e => ?_, h.nil⟩, hu.mono fun i e => .inl e, fun k hk => ?_, fun k hk => ?_, rfl⟩
  · have hb : W1.heap[b]? = some (.cells #[.map S.bc, .map S.bp, .map S.bo] 104 (0, 0)) := (hb1.block b hbl).trans h.box
    rw [← hW2]
    obtain ⟨hq, e⟩ := Array.getElem?_eq_some_iff.1 hb
    simp [World.setCell, e, hq, Array.getElem_modify, Array.getElem?_modify]
  · subst e; exact n2
  · subst e; exact n3
  · rw [hu.block _ (hl _ (.inr (.inr (.inr (.inr ⟨n, hn, rfl⟩))))) (h.page_ne n hn).1]; exact (h.page n hn).1
  · have := hl x (.inr (.inr (.inl hx)))
    have : W.heap.size = x := by simpa using e
    omega
  · have := hl x (.inr (.inr (.inr (.inl hx))))
    have : W.heap.size = x := by simpa using e
    omega
  · rcases hk with e | e | e | e | e
    · exact .inl (.inl e)
    · exact .inr (by have : W.heap.size = k := by simpa using e
                     omega)
    · exact .inl (.inr (.inr (.inl e)))
    · exact .inl (.inr (.inr (.inr (.inl e))))
    · exact .inl (.inr (.inr (.inr (.inr e))))
  · rcases hk with e | e | e | e | e
    · exact .inl (.inl e)
    · exact .inr (by have : W.heap.size = k := by simpa using e
                     omega)
    · exact .inl (.inr (.inr (.inl e)))
    · exact .inl (.inr (.inr (.inr (.inl e))))
    · exact .inl (.inr (.inr (.inr (.inr e))))

def updN (f : Int → Nat) (x : Int) (p : Nat) : Int → Nat := fun k => if k = x then p else f k
def updPg (f : Int → Pg) (x : Int) (p : Pg) : Int → Pg := fun k => if k = x then p else f k
theorem updN_same (f : Int → Nat) (x : Int) (p : Nat) : updN f x p x = p := by simp [updN]
theorem updN_ne {f : Int → Nat} {x k : Int} {p : Nat} (h : k ≠ x) : updN f x p k = f k := by simp [updN, h]
theorem updPg_same (f : Int → Pg) (x : Int) (p : Pg) : updPg f x p x = p := by simp [updPg]
theorem updPg_ne {f : Int → Pg} {x k : Int} {p : Pg} (h : k ≠ x) : updPg f x p k = f k := by simp [updPg, h]
/-- A page of one's own at a number. -/
def MS.put (S : MS) (n : Int) (p : Nat) : MS := { S with at_ := updN S.at_ n p, own := insI S.own n }
def PM.put (A : PM) (n : Int) (g : Pg) : PM := { A with ks := insI A.ks n, pg := updPg A.pg n g }
theorem ptrTo_put (S : MS) (n : Int) (p : Nat) : ptrTo (S.put n p) = updF (ptrTo S) n (.pointer (some ⟨p, 0, none⟩)) := by
  funext k
  by_cases h : k = n
  · subst h; simp [ptrTo, MS.put, updN, updF]
  · simp [ptrTo, MS.put, updN, updF, h]
theorem true_upd (n : Int) : updF (fun _ => Value.bool true) n (.bool true) = fun _ => .bool true := by
  funext k; simp [updF]
theorem MemIs.put1 (h : MemIs W b S A) {kp ko p : Nat} (hp : S.bp = some kp) (ho : S.bo = some ko) (hu : Upd (fun i => i = kp ∨ i = ko) W W1) {n : Int} {g : Pg} (hn : 0 ≤ n ∧ n < 16777216) (hle : (insI A.ks n).length ≤ 2000)
    (hmp : MapF W1 kp (insI A.ks n) (updF (ptrTo S) n (.pointer (some ⟨p, 0, none⟩)))) (hmo : MapF W1 ko (insI S.own n) (updF (fun _ => .bool true) n (.bool true))) (hpg : W.heap[p]? = some (pgObj g)) (hok : PgOk g) (hfr : ¬ S.reads A.ks b p) :
    MemIs W1 b (S.put n p) (A.put n g) := by
  obtain ⟨n1, n2, n3⟩ := h.box_ne
  have hl := h.lt
  have hpl := (Array.getElem?_eq_some_iff.1 hpg).1
  have hpk : p ≠ kp := fun e => hfr (.inr (.inr (.inl (e ▸ hp))))
  have hpo : p ≠ ko := fun e => hfr (.inr (.inr (.inr (.inl (e ▸ ho)))))
  refine ⟨?_, ?_, ?_, h.chg.other hu fun i e => ?_, fun m hm => ?_, hle, fun m hm => ?_, fun m hm q hq e => ?_, h.ap1, h.ap2, h.nil⟩
  · have hb := hu.block b (hl b (.inl rfl)) fun e => by
      rcases e with e | e
      · exact n2 (e ▸ hp)
      · exact n3 (e ▸ ho)
    show W1.heap[b]? = _
    rw [hb]; exact h.box
  · show MapO W1 S.bp _ _
    rw [hp, ptrTo_put]; exact hmp
  · show MapO W1 S.bo _ _
    rw [ho, ← true_upd n]; exact hmo
  · rcases e with e | e
    · subst e; exact (h.ap1 _ hp).2
    · subst e; exact h.ap2 _ ho
  · have hne : ∀ q, q ∈ A.ks → S.at_ q ≠ kp ∧ S.at_ q ≠ ko := fun q hq => ⟨fun e => (h.page_ne q hq).2.2.1 (e ▸ hp), fun e => (h.page_ne q hq).2.2.2 (e ▸ ho)⟩
    show W1.heap[updN S.at_ n p m]? = some (pgObj (updPg A.pg n g m)) ∧ PgOk (updPg A.pg n g m)
    by_cases e : m = n
    · subst e
      rw [updN_same, updPg_same, hu.block p hpl fun e => by rcases e with e | e; exact hpk e; exact hpo e]
      exact ⟨hpg, hok⟩
    · have hmk : m ∈ A.ks := by
        rcases (mem_insI n m A.ks).1 hm with h1 | h1
        · exact absurd h1 e
        · exact h1
      rw [updN_ne e, updPg_ne e, hu.block _ (hl _ (.inr (.inr (.inr (.inr ⟨m, hmk, rfl⟩))))) fun e => by
        rcases e with e | e
        · exact (hne m hmk).1 e
        · exact (hne m hmk).2 e]
      exact h.page m hmk
  · rcases (mem_insI n m S.own).1 hm with h1 | h1
    · exact (mem_insI n m A.ks).2 (.inl h1)
    · exact (mem_insI n m A.ks).2 (.inr (h.sub m h1))
  · have hks : ∀ q, q ∈ A.ks → S.at_ q ≠ p := fun q hq e => hfr (.inr (.inr (.inr (.inr ⟨q, hq, e.symm⟩))))
    have hm1 := (mem_insI n m S.own).1 hm
    have hq1 := (mem_insI n q A.ks).1 hq
    change updN S.at_ n p m = updN S.at_ n p q at e
    by_cases em : m = n
    · subst em
      by_cases eq : q = m
      · exact eq.symm
      · rw [updN_same, updN_ne eq] at e
        exact absurd e.symm (hks q (hq1.resolve_left eq))
    · by_cases eq : q = n
      · subst eq
        rw [updN_same, updN_ne em] at e
        exact absurd e (hks m (h.sub m (hm1.resolve_left em)))
      · rw [updN_ne em, updN_ne eq] at e
        exact h.inj m (hm1.resolve_left em) q (hq1.resolve_left eq) e
/-- .. as a move from a world in which its block was not yet laid. -/
theorem Went.put {W0 : World} {b : Nat} {S : MS} {A : PM} {kp ko p : Nat} {n : Int} {g : Pg} (hp : S.bp = some kp) (ho : S.bo = some ko) (h0 : Below W0.heap.size W0 W) (hu : Upd (fun i => i = kp ∨ i = ko) W W1) (hpn : W0.heap.size ≤ p) :
    Went W0 W1 b S A.ks (S.put n p) (A.put n g).ks := by
  refine ⟨(Upd.any h0).trans hu fun i hi => .inl ?_, fun k hk => ?_, fun k hk => ?_, rfl⟩
  · rcases hi with e | e
    · subst e; exact .inr (.inr (.inl hp))
    · subst e; exact .inr (.inr (.inr (.inl ho)))
  · rcases hk with e | e | e | e | ⟨m, hm, e⟩
    · exact .inl (.inl e)
    · exact .inl (.inr (.inl e))
    · exact .inl (.inr (.inr (.inl e)))
    · exact .inl (.inr (.inr (.inr (.inl e))))
    · change k = updN S.at_ n p m at e
      by_cases em : m = n
      · subst em; rw [updN_same] at e; subst e; exact .inr hpn
      · rw [updN_ne em] at e
        exact .inl (.inr (.inr (.inr (.inr ⟨m, ((mem_insI n m S.own).1 hm).resolve_left em, e⟩))))
  · rcases hk with e | e | e | e | ⟨m, hm, e⟩
    · exact .inl (.inl e)
    · exact .inl (.inr (.inl e))
    · exact .inl (.inr (.inr (.inl e)))
    · exact .inl (.inr (.inr (.inr (.inl e))))
    · change k = updN S.at_ n p m at e
      by_cases em : m = n
      · subst em; rw [updN_same] at e; subst e; exact .inr hpn
      · rw [updN_ne em] at e
        exact .inl (.inr (.inr (.inr (.inr ⟨m, ((mem_insI n m A.ks).1 hm).resolve_left em, e⟩))))
/-- A page that the memory has alone is written. -/
theorem MemIs.page1 (h : MemIs W b S A) {n : Int} (hn : n ∈ S.own) (hu : Upd (fun i => i = S.at_ n) W W1) {g : Pg} (hg : W1.heap[S.at_ n]? = some (pgObj g)) (hok : PgOk g) :
    MemIs W1 b S { A with pg := updPg A.pg n g } ∧ Went W W1 b S A.ks S A.ks := by
  have hk := h.sub n hn
  obtain ⟨p1, p2, p3, p4⟩ := h.page_ne n hk
  have hl := h.lt
  refine ⟨⟨?_, h.pages.other hu fun i e => ?_, h.owns.other hu fun i e => ?_, h.chg.other hu fun i e => ?_, fun m hm => ?_, h.le, h.sub, h.inj, h.ap1, h.ap2, h.nil⟩, hu.mono fun i e => .inr (.inr (.inr (.inr ⟨n, hn, e⟩))), fun _ h => .inl h, fun _ h => .inl h, rfl⟩
  · rw [hu.block b (hl b (.inl rfl)) fun e => p1 e.symm]; exact h.box
  · subst e; exact p3
  · subst e; exact p4
  · subst e; exact p2
  · show W1.heap[S.at_ m]? = some (pgObj (updPg A.pg n g m)) ∧ PgOk (updPg A.pg n g m)
    by_cases e : m = n
    · subst e; rw [updPg_same]; exact ⟨hg, hok⟩
    · rw [updPg_ne e, hu.block _ (hl _ (.inr (.inr (.inr (.inr ⟨m, hm, rfl⟩))))) fun e2 => e (h.inj n hn m hm e2.symm).symm]
      exact h.page m hm
end
end Go.Proofs.Ytidojcogojchpaa

/- mem: touch, at, known, list, Rights. -/
set_option linter.unusedVariables false
set_option linter.unusedSimpArgs false
namespace Go.Proofs.Ytidojcogojchpaa
open Go.RowKit

theorem MemIs.cells {W : World} {b : Nat} {S : MS} {A : PM} (h : MemIs W b S A) : W.cell? ⟨b, 0, none⟩ = some (.map S.bc) ∧ W.cell? ⟨b, 1, none⟩ = some (.map S.bp) ∧ W.cell? ⟨b, 2, none⟩ = some (.map S.bo) ∧ W.frozen? ⟨b, 0, none⟩ = false ∧ W.frozen? ⟨b, 1, none⟩ = false ∧ W.frozen? ⟨b, 2, none⟩ = false := by
  have hb := h.box
  simp [World.cell?, World.frozen?, hb]
/-- What touch has done. -/
structure TouchE (W : World) (b : Nat) (S : MS) (A : PM) (n : Int) (W' : World) : Prop where
  ex : ∃ bc, MemIs W' b { S with bc := bc } { A with cg := insI A.cg n } ∧ Went W W' b S A.ks { S with bc := bc } A.ks
set_option maxHeartbeats 1000000 in
theorem touch_any (W : World) (b : Nat) (S : MS) (A : PM) (n : Int) (h : MemIs W b S A) (hn : 0 ≤ n ∧ n < 16777216) :
    Calls Try.prog 74 #[.pointer (some ⟨b, 0, none⟩), .int .i64 n] W fun e w' => e = .returned (.tuple #[]) ∧ TouchE W b S A n w' := by
  obtain ⟨c0, _, _, f0, _, _⟩ := h.cells
  have hnil := fun (W : World) (r : Option Nat) => run_eql_map_nil (P := Try.prog) W 99 3 4 r Try.underlying99
  cases hbc : S.bc with
  | none =>
    rw [hbc] at c0
    obtain ⟨h1, g1⟩ := h.chg0 hbc
    obtain ⟨W1, hW1⟩ : ∃ W1, W.alloc (.map #[] 0) = W1 := ⟨_, rfl⟩
    have hmm : ∀ t, (Instr.makeMap t none).run Try.prog W = .ok (.map (some W.heap.size)) W1 := fun t => by rw [← hW1]; exact run_makeMap t W
    rw [hW1] at h1 g1
    obtain ⟨W2, hW2⟩ : ∃ W2, W1.setCell ⟨b, 0, none⟩ (.map (some W.heap.size)) = W2 := ⟨_, rfl⟩
    rw [hW2] at h1 g1
    obtain ⟨o, hrun, hm⟩ := MapF.run_put (P := Try.prog) (show MapF W2 W.heap.size [] _ from h1.chg) Try.underlying99 Try.underlying3 n (.bool true) hn
    obtain ⟨W3, hW3⟩ : ∃ W3, W2.putObj W.heap.size o = W3 := ⟨_, rfl⟩
    rw [hW3] at hrun hm
    have hu3 : Upd (fun i => i = W.heap.size) W2 W3 := by rw [← hW3]; exact putObj_upd _ _ _
    rw [true_upd] at hm
    obtain ⟨h2, g2⟩ := h1.chg1 rfl hu3 hm
    obtain ⟨c1, _, _, _, _, _⟩ := h1.cells
    have b1 : W1.cell? ⟨b, 0, none⟩ = some (.map none) := by
      have hb1 : Below W.heap.size W W1 := by rw [← hW1]; exact balloc _ _
      exact bkeep hb1 c0
    have f1 : W1.frozen? ⟨b, 0, none⟩ = false := by
      have hb1 : Below W.heap.size W W1 := by rw [← hW1]; exact balloc _ _
      exact (hb1.frozen (p := ⟨b, 0, none⟩) (World.block_lt_of_cell? W _ c0)).trans f0
    have hcg : A.cg = [] := by have := h.chg; rw [hbc] at this; exact this
    have HF := Lib.hid (show TouchE W b S A n W3 from ⟨_, (by rw [hcg]; exact h2), g1.trans g2⟩)
    clear h h1 g1 h2 g2 hm hu3 hW3
    go_enter Try.func74, Try.ntmps74
    go_wp2_with fail
    go_end0
    exact ⟨rfl, HF.out⟩
  | some k =>
    rw [hbc] at c0
    obtain ⟨o, hrun, hm⟩ := MapF.run_put (P := Try.prog) (show MapF W k A.cg _ from by have := h.chg; rw [hbc] at this; exact this) Try.underlying99 Try.underlying3 n (.bool true) hn
    obtain ⟨W3, hW3⟩ : ∃ W3, W.putObj k o = W3 := ⟨_, rfl⟩
    rw [hW3] at hrun hm
    have hu3 : Upd (fun i => i = k) W W3 := by rw [← hW3]; exact putObj_upd _ _ _
    rw [true_upd] at hm
    obtain ⟨h2, g2⟩ := h.chg1 hbc hu3 hm
    have HF := Lib.hid (show TouchE W b S A n W3 from ⟨S.bc, h2, g2⟩)
    clear h h2 g2 hm hu3 hW3
    go_enter Try.func74, Try.ntmps74
    go_wp2_with fail
    go_end0
    exact ⟨rfl, HF.out⟩
theorem zero_page (W : World) : (zeroValue 95).run Try.prog W = .ok (.pointer none) W := by kernel_rfl
theorem zero_bool (W : World) : (zeroValue 4).run Try.prog W = .ok (.bool false) W := by kernel_rfl
set_option maxHeartbeats 400000 in
theorem at_any (W : World) (b : Nat) (S : MS) (A : PM) (n : Int) (h : MemIs W b S A) :
    Calls Try.prog 62 #[.pointer (some ⟨b, 0, none⟩), .int .i64 n] W fun e w' => e = .returned (if n ∈ A.ks then ptrTo S n else .pointer none) ∧ W = w' := by
  obtain ⟨_, c1, _, _, _, _⟩ := h.cells
  have hlk := h.pages.run_look (P := Try.prog) Try.underlying102 Try.underlying3 zero_page n
  obtain ⟨v, hv⟩ : ∃ v, (if n ∈ A.ks then ptrTo S n else .pointer none) = v := ⟨_, rfl⟩
  rw [hv] at hlk ⊢
  clear h hv
  go_enter Try.func62, Try.ntmps62
  go_wp2
  go_ret
  exact ⟨rfl, rfl⟩
set_option maxHeartbeats 400000 in
theorem at_nil (W : World) (n : Int) : Calls Try.prog 62 #[.pointer none, .int .i64 n] W fun e w' => e = .returned (.pointer none) ∧ W = w' := by
  go_enter Try.func62, Try.ntmps62
  go_wp2
  go_ret
  exact ⟨rfl, rfl⟩
set_option maxHeartbeats 1000000 in
theorem known_any (W : World) (b : Nat) (S : MS) (A : PM) (h : MemIs W b S A) :
    Calls Try.prog 59 #[.pointer (some ⟨b, 0, none⟩)] W fun e w' => ∃ v, e = .returned v ∧ KeysE A.ks W v w' := by
  obtain ⟨_, c1, _, _, _, _⟩ := h.cells
  have HS := Lib.hid (sortP_any W h.pages)
  clear h
  go_enter Try.func59, Try.ntmps59
  go_wp2_with fail
  refine (keysP_any _ _).mono ?_
  rintro e w1 ⟨rfl, rfl⟩
  go_wp2_with fail
  refine HS.out.mono ?_
  rintro e w2 ⟨v, rfl, hk⟩
  go_wp2_with fail
  go_ret
  exact ⟨v, rfl, hk⟩
theorem known_nil (W : World) : Calls Try.prog 59 #[.pointer none] W fun e w' => e = .returned (.slice none 0 0) ∧ W = w' := by
  go_enter Try.func59, Try.ntmps59
  go_wp2
  go_ret
  exact ⟨rfl, rfl⟩
set_option maxHeartbeats 1000000 in
theorem list_any (W : World) (b : Nat) (S : MS) (A : PM) (h : MemIs W b S A) :
    Calls Try.prog 75 #[.pointer (some ⟨b, 0, none⟩)] W fun e w' => ∃ v, e = .returned v ∧ KeysE A.cg W v w' := by
  obtain ⟨c0, _, _, _, _, _⟩ := h.cells
  have HS := Lib.hid (sortB_any W h.chg)
  clear h
  go_enter Try.func75, Try.ntmps75
  go_wp2_with fail
  refine (keysB_any _ _).mono ?_
  rintro e w1 ⟨rfl, rfl⟩
  go_wp2_with fail
  refine HS.out.mono ?_
  rintro e w2 ⟨v, rfl, hk⟩
  go_wp2_with fail
  go_ret
  exact ⟨v, rfl, hk⟩
theorem pg_cells {W : World} {p : Nat} {g : Pg} (h : W.heap[p]? = some (pgObj g)) : W.cell? ⟨p, 0, none⟩ = some (.int .i64 g.r) ∧ (∀ j, j < g.bs.length → W.cell? ⟨p, j + 1, none⟩ = some (.int .u8 (gi g.bs j))) ∧ ∀ j, W.frozen? ⟨p, j, none⟩ = false := by
  unfold pgObj at h
  refine ⟨by simp [World.cell?, h, pgCells], fun j hj => ?_, fun j => by simp [World.frozen?, h]⟩
  have e : (pgCells g)[j + 1]? = some (.int .u8 (gi g.bs j)) := by
    simp [pgCells, nums, hj, gi, List.getD_eq_getElem?_getD]
  simp [World.cell?, h, e]
set_option maxHeartbeats 400000 in
theorem Rights_any (W : World) (b : Nat) (S : MS) (A : PM) (n : Int) (h : MemIs W b S A) :
    Calls Try.prog 28 #[.pointer (some ⟨b, 0, none⟩), .int .i64 n] W fun e w' => e = .returned (.tuple #[.int .i64 (if n ∈ A.ks then (A.pg n).r else 0), .bool (decide (n ∈ A.ks))]) ∧ W = w' := by
  have HA := Lib.hid (at_any W b S A n h)
  by_cases hn : n ∈ A.ks
  · obtain ⟨hp, _⟩ := h.page n hn
    obtain ⟨q0, _, _⟩ := pg_cells hp
    have ha := HA.out
    rw [if_pos hn] at ha
    rw [if_pos hn, decide_eq_true hn]
    replace HA := Lib.hid ha
    clear h hp hn ha
    go_enter Try.func28, Try.ntmps28
    go_wp2_with fail
    refine HA.out.mono ?_
    rintro e w1 ⟨rfl, rfl⟩
    go_wp2_with fail
    go_ret2
    exact ⟨rfl, rfl⟩
  · have ha := HA.out
    rw [if_neg hn] at ha
    rw [if_neg hn, decide_eq_false hn]
    replace HA := Lib.hid ha
    clear h hn ha
    go_enter Try.func28, Try.ntmps28
    go_wp2_with fail
    refine HA.out.mono ?_
    rintro e w1 ⟨rfl, rfl⟩
    go_wp2_with fail
    go_ret2
    exact ⟨rfl, rfl⟩
theorem Rights_nil (W : World) (n : Int) : Calls Try.prog 28 #[.pointer none, .int .i64 n] W fun e w' => e = .returned (.tuple #[.int .i64 0, .bool false]) ∧ W = w' := by
  go_enter Try.func28, Try.ntmps28
  go_wp2_with fail
  refine (at_nil W n).mono ?_
  rintro e w1 ⟨rfl, rfl⟩
  go_wp2_with fail
  go_ret2
  exact ⟨rfl, rfl⟩
end Go.Proofs.Ytidojcogojchpaa

/- append onto a row of the call's own, whatever an element's size. -/
set_option linter.unusedVariables false
set_option linter.unusedSimpArgs false
namespace Go.Proofs.Ytidojcogojchpaa
open Go.RowKit

theorem app_gen {P : Program} {W : World} {base : Nat} {t ty e : TypeId} {i : TypeInfo} {z : Value} {sz bytes : Nat} (ht : P.underlying t = some (.slice e)) (hi : P.info? e = some i) (hz : i.zero = some z) (hsize : i.size = sz) (hby : i.bytes = bytes) (hzs : z.cells.size = sz) (hsz : 0 < sz)
    {v : Value} {n : Nat} {xs : List Value} (hown : W.ownsRow base e sz v n xs) {A : Option Addr} {m c : Nat} {news : List Value} (hr : Rd W A m sz news) (h1 : ∀ u ∈ news, u.oneCell' = true)
    (h63 : n + m ≤ maxLen) (hbytes : (n + m) * bytes ≤ 140737488355328) (hbase : base ≤ W.heap.size) :
    ∃ v' W', (Builtin.append_ #[t, t] ty #[v, .slice A m c]).run P W = .ok v' W' ∧ W'.ownsRow base e sz v' (n + m) (xs ++ news) ∧ W.grownBy W' v.ownBlock ∧ (v'.ownBlock = v.ownBlock ∨ v'.ownBlock = some W.heap.size) := by
  have hl := hr.len
  cases A with
  | none =>
    have hn : news = [] := by
      rcases news with _ | ⟨u, us⟩
      · rfl
      · obtain ⟨ad, e, _⟩ := hr.cell 0 (by simp)
        exact absurd e (by simp)
    subst hn
    obtain rfl : m = 0 := by
      rcases Nat.eq_zero_or_pos m with h | h
      · exact h
      · have := Nat.mul_pos h hsz
        simp at hl; omega
    refine ⟨v, W, ?_, by simpa using hown, World.grownBy.refl W _, .inl rfl⟩
    rcases hown.2 with ⟨rfl, rfl⟩ | ⟨g, cap, cur, rfl, _, _, hnc, _⟩
    · simp [Builtin.append_, run_underlying ht, sizeOf, typeInfo, hi, Builtin.lenOf, Builtin.firstCells]
    · simp [Builtin.append_, run_underlying ht, sizeOf, typeInfo, hi, Builtin.lenOf, Builtin.firstCells, hnc, storeCells]
  | some ad =>
    obtain ⟨v', W', hrun, h2, h3, _, h4⟩ := run_append_own_at (P := P) W base t ty e i z sz bytes ht hi hz hsize hby hzs hsz v n xs hown ad m c news hl (fun j u hu => by
      obtain ⟨hj, rfl⟩ := List.getElem?_eq_some_iff.1 hu
      obtain ⟨ad', e', hc⟩ := hr.cell j hj
      obtain rfl := Option.some.inj e'
      exact hc) h1 h63 hbytes hbase
    exact ⟨v', W', hrun, h2, h3, h4⟩
theorem nums_oneC (k : IntKind) (xs : List Int) : ∀ u ∈ nums k xs, u.oneCell' = true := by simp [nums, Value.oneCell']
/-- What has just been laid can be read. -/
theorem rd_new (W : World) (e : TypeId) (cs : List Value) (m sz : Nat) (hl : cs.length = m * sz) (hm : m ≤ 9223372036854775807) : Rd (W.alloc (.cells cs.toArray e)) (some ⟨W.heap.size, 0, none⟩) m sz cs :=
  ⟨hl, hm, fun j hj => ⟨_, rfl, by
    have := heap_alloc_new W (.cells cs.toArray e)
    have e1 : ((⟨W.heap.size, 0, none⟩ : Addr).add j) = ⟨W.heap.size, j, none⟩ := by unfold Addr.add; split <;> simp_all
    rw [e1]
    simp only [World.cell?]
    rw [this]
    simp [hj]⟩⟩
theorem own_rdC {w : World} {base n sz : Nat} {e : TypeId} {A : Option Addr} {c : Nat} {cs : List Value} (h : w.ownsRow base e sz (.slice A n c) n cs) : Rd w A n sz cs := by
  obtain ⟨A', c', e1, hr⟩ := own_rd h
  simp only [Value.slice.injEq, true_and] at e1
  obtain ⟨rfl, _⟩ := e1
  exact hr
theorem own_sliceC {w : World} {base n sz : Nat} {e : TypeId} {v : Value} {cs : List Value} (h : w.ownsRow base e sz v n cs) (hn : 1 ≤ n) : ∃ g c, v = .slice (some ⟨g, 0, none⟩) n c := by
  rcases h.2 with ⟨_, h'⟩ | ⟨g, cap, cur, rfl, _⟩
  · omega
  · exact ⟨g, cap, rfl⟩
theorem info_int : (Try.prog.info? 3).map (fun i => (i.zero, i.size, i.bytes)) = some (some (.int .i64 0), 1, 8) := by kernel_rfl
/-- .. one number, laid into a block of its own first. -/
theorem app_int {W : World} {base : Nat} {v : Value} {n : Nat} {xs : List Int} (hown : W.ownsRow base 3 1 v n (nums .i64 xs)) (x : Int) (hn : n ≤ 1000000) (hbase : base ≤ W.heap.size) :
    ∃ v' W', (Builtin.append_ #[59, 59] 59 #[v, .slice (some ⟨W.heap.size, 0, none⟩) 1 1]).run Try.prog (W.alloc (.cells #[.int .i64 x] 3)) = .ok v' W' ∧ W'.ownsRow base 3 1 v' (n + 1) (nums .i64 (xs ++ [x])) ∧ W.grownBy W' v.ownBlock ∧ (v'.ownBlock = v.ownBlock ∨ v'.ownBlock = some (W.heap.size + 1)) := by
  obtain ⟨i0, hi0, hz0, hz1, hz2⟩ := info_parts info_int
  have hr : Rd (W.alloc (.cells #[.int .i64 x] 3)) (some ⟨W.heap.size, 0, none⟩) 1 1 (nums .i64 [x]) := rd_new W 3 (nums .i64 [x]) 1 1 rfl (by omega)
  obtain ⟨v', W', h1, h2, h3, h4⟩ := app_gen (P := Try.prog) (t := 59) (ty := 59) (c := 1) Try.underlying59 hi0 hz0 hz1 hz2 rfl (by decide) (hown.alloc _) hr (nums_oneC _ _) (by unfold maxLen; omega) (by omega) (by simp; omega)
  refine ⟨v', W', h1, by rw [nums_append]; exact h2, (World.grownBy_alloc W _ _).trans h3, by simpa using h4⟩
end Go.Proofs.Ytidojcogojchpaa

/- mem: within. -/
set_option linter.unusedVariables false
set_option linter.unusedSimpArgs false
namespace Go.Proofs.Ytidojcogojchpaa
open Go.RowKit

/-- Are these numbers of pages? -/
def withinB (from_ n : Int) : Bool := decide (0 ≤ from_ ∧ from_ < 16777216 ∧ 1 ≤ n ∧ n ≤ 16777216 - from_)
/-- The pages among n from a number on. -/
def inL (ks : List Int) (from_ n : Int) : List Int := ks.filter fun k => decide (from_ ≤ k ∧ k < from_ + n)
theorem inL_le (ks : List Int) (from_ n : Int) : (inL ks from_ n).length ≤ ks.length := List.length_filter_le _ _
theorem inL_snoc (ks : List Int) (from_ n : Int) (k : Nat) (hk : k < ks.length) : inL (ks.take (k + 1)) from_ n = if from_ ≤ gi ks k ∧ gi ks k < from_ + n then inL (ks.take k) from_ n ++ [gi ks k] else inL (ks.take k) from_ n := by
  unfold inL
  rw [List.take_succ_eq_append_getElem hk, List.filter_append, ← gi_get ks k hk]
  by_cases h : from_ ≤ gi ks k ∧ gi ks k < from_ + n
  · rw [if_pos h]; simp [h]
  · rw [if_neg h]
    have hd := decide_eq_false h
    rw [List.filter_cons, hd]
    simp
set_option maxHeartbeats 1000000 in
theorem within_bad (W : World) (m : Option Addr) (from_ n : Int) (hf : withinB from_ n = false) :
    Calls Try.prog 71 #[.pointer m, .int .i64 from_, .int .i64 n] W fun e w' => e = .returned (.tuple #[.slice none 0 0, .bool false]) ∧ W = w' := by
  have hc : from_ < 0 ∨ (0 ≤ from_ ∧ 16777216 ≤ from_) ∨ (0 ≤ from_ ∧ from_ < 16777216 ∧ n < 1) ∨ (0 ≤ from_ ∧ from_ < 16777216 ∧ 1 ≤ n ∧ 16777216 - from_ < n) := by
    have := of_decide_eq_false hf
    omega
  clear hf
  rcases hc with h1 | ⟨h1, h2⟩ | ⟨h1, h2, h3⟩ | ⟨h1, h2, h3, h4⟩
  all_goals
    go_enter Try.func71, Try.ntmps71
    go_wp2
    go_ret2
    exact ⟨rfl, rfl⟩

/-- What within has collected. -/
structure WinI (W0 : World) (L : List Int) (v : Value) (W : World) : Prop where
  row : W.ownsRow W0.heap.size 3 1 v L.length (nums .i64 L)
  below : Below W0.heap.size W0 W
set_option maxRecDepth 100000 in
set_option maxHeartbeats 2000000 in
theorem within_ok (W : World) (b : Nat) (S : MS) (A : PM) (from_ n : Int) (h : MemIs W b S A) (hf : withinB from_ n = true) :
    Calls Try.prog 71 #[.pointer (some ⟨b, 0, none⟩), .int .i64 from_, .int .i64 n] W fun e w' => ∃ c, ∃ g : Option Addr, e = .returned (.tuple #[.slice g (inL A.ks from_ n).length c, .bool true]) ∧ WinI W (inL A.ks from_ n) (.slice g (inL A.ks from_ n).length c) w' := by
  obtain ⟨h1, h2, h3, h4⟩ := of_decide_eq_true hf
  have HK := Lib.hid (known_any W b S A h)
  have hle := h.le
  have hrg := h.rng
  obtain ⟨ks, hks⟩ : ∃ ks, A.ks = ks := ⟨_, rfl⟩
  rw [hks] at HK hle hrg ⊢
  have HR := Lib.hid hrg
  clear h hks hf hrg
  go_enter Try.func71, Try.ntmps71
  go_wp2_with fail
  refine HK.out.mono ?_
  rintro e W1 ⟨v, rfl, hk⟩
  obtain ⟨Av, cv, rfl, hrd⟩ := own_rd hk.row
  have hrow0 : WinI W1 (inL (ks.take 0) from_ n) (.slice none 0 0) W1 := ⟨by simp [inL]; exact World.ownsRow_nil _ _ _ _, Below.refl _ _⟩
  have HRD := Lib.hid hrd
  have HB := Lib.hid hk.below
  have HI := Lib.hid hrow0
  clear hk hrd hrow0
  go_wp2_with fail
  go_loopw [8, 30] (fun o i wr => ∃ k : Nat, k ≤ ks.length ∧ i = .int .i64 k ∧ ∃ (g : Option Addr) (c : Nat), o = .slice g (inL (ks.take k) from_ n).length c ∧ Hid (WinI W1 (inL (ks.take k) from_ n) o wr)) (fun _ i _ => ks.length - (intOf i).toNat)
  case atStart => exact ⟨0, Nat.zero_le _, rfl, none, 0, by simp [inL], HI⟩
  case round =>
    obtain ⟨k, hk, rfl, g, c, rfl, hI⟩ := hrel
    by_cases hlt : k < ks.length
    · have hx := HR.out (gi ks k) (gi_mem ks k hlt)
      obtain ⟨ad, e1, hc⟩ := RdI.at (Rd.below HRD.out hI.out.below) k hlt
      obtain rfl : Av = some ad := e1
      have hsn := inL_snoc ks from_ n k hlt
      obtain ⟨x, hxe⟩ : ∃ x, gi ks k = x := ⟨_, rfl⟩
      rw [hxe] at hx hc hsn
      obtain ⟨x1, x2⟩ := hx
      obtain ⟨L, hL⟩ : ∃ L, inL (ks.take k) from_ n = L := ⟨_, rfl⟩
      have hLl : L.length ≤ 2000 := by rw [← hL]; have := inL_le (ks.take k) from_ n; have := List.length_take_le k ks; omega
      rw [hL] at hI hsn ⊢
      clear hxe hL
      by_cases hin : from_ ≤ x ∧ x < from_ + n
      · rw [if_pos hin] at hsn
        obtain ⟨in1, in2⟩ := hin
        have hbs := hI.out.below.size
        obtain ⟨v2, W2, run2, ho2, hg2, hl2⟩ := app_int hI.out.row x (by omega) hbs
        obtain ⟨g2, c2, rfl⟩ := own_sliceC ho2 (by omega)
        have hb2 : Below W1.heap.size W1 W2 := hI.out.below.trans ((Upd.of_grown hg2).below hbs fun k hk => (hI.out.row.lt k hk).1)
        have HS := Lib.hid hsn
        have HO := Lib.hid (show WinI W1 (L ++ [x]) (.slice (some ⟨g2, 0, none⟩) (L.length + 1) c2) W2 from ⟨by simpa using ho2, hb2⟩)
        clear hsn ho2 hg2 hl2 hb2 hbs
        go_wp2_with (at_builtin; refine Lib.wpList_append_run _ rfl (.tmp 44) (.tmp 46) _ _ rfl _ _ rfl rfl _ _ run2 ?_)
        go_roundw
        case rel => exact ⟨k + 1, by omega, by go_num, some ⟨g2, 0, none⟩, c2, by rw [HS.out]; simp, by rw [HS.out]; exact HO⟩
        case measure => simp [intOf]; omega
      · rw [if_neg hin] at hsn
        have HS := Lib.hid hsn
        clear hsn
        by_cases hin1 : from_ ≤ x
        · have hin2 : ¬ x < from_ + n := fun h => hin ⟨hin1, h⟩
          clear hin
          go_wp2_with fail
          go_roundw
          case rel => exact ⟨k + 1, by omega, by go_num, g, c, by rw [HS.out], by rw [HS.out]; exact hI⟩
          case measure => simp [intOf]; omega
        · clear hin
          go_wp2_with fail
          go_roundw
          case rel => exact ⟨k + 1, by omega, by go_num, g, c, by rw [HS.out], by rw [HS.out]; exact hI⟩
          case measure => simp [intOf]; omega
    · obtain rfl : k = ks.length := by omega
      go_wp2
      go_ret2
      rw [List.take_length] at hI
      simp only [List.take_length]
      have hI' := hI.out
      refine ⟨c, g, rfl, ⟨own_base' hI'.row fun k hk => ?_, HB.out.trans (hI'.below.mono HB.out.size)⟩⟩
      have := (hI'.row.lt k hk).1
      have := HB.out.size
      omega
end Go.Proofs.Ytidojcogojchpaa

/- A region that draws its order, reads, and calls functions that make memory of their own and hand back what hangs on no memory: walked once. -/
set_option linter.unusedVariables false
namespace Go.Proofs.Ytidojcogojchpaa
open Go.RowKit

/-- A world in which all lies that lay in W0. -/
structure After (n : Nat) (W0 : World) where
  W : World
  below : Below n W0 W
instance {n : Nat} {W0 : World} : Nonempty (After n W0) := ⟨⟨W0, Below.refl _ _⟩⟩
theorem After.eq {n : Nat} {W0 W : World} (h : Below n W0 W) : ∃ q : After n W0, W = q.W := ⟨⟨W, h⟩, rfl⟩
theorem After.cell {W0 : World} {a : Addr} {v : Value} (hc : W0.cell? a = some v) (q : After W0.heap.size W0) : q.W.cell? a = some v := bkeep q.below hc
theorem region_after {P : Program} {n : Nat} {W0 : World} {id : Nat} {Q : Exit → Act → World → Prop} {a : Act} {w : World} {l : List Oper} (hw : Below n W0 w) (hm : P.follows .mixedOrders = true) (hB : Region.lexB .any l.toArray = true)
    (h : wpQuiet P l.toArray (fun w' => ∃ q : After n W0, w' = q.W) (fun a' => ∀ w', (∃ q : After n W0, w' = q.W) → Q .normal a' w') l a) : (Code.region id l.toArray true).wp P Q a w :=
  wp_region_quiet (C := fun w' => ∃ q : After n W0, w' = q.W) hm hB (After.eq (bdrewN hw 1)) (by simpa using h)
/-- A contract, met inside such a region. -/
theorem calls_after {P : Program} {f : FuncId} {args : Array Value} {n : Nat} {W0 : World} {q : After n W0} {v : Value} (hn : n ≤ W0.heap.size) (h : Calls P f args q.W fun e w' => e = .returned v ∧ Below q.W.heap.size q.W w') :
    Calls P f args q.W fun e w'' => e = .returned v ∧ ∃ q' : After n W0, w'' = q'.W :=
  h.mono fun _ _ ⟨he, hb⟩ => ⟨he, After.eq (q.below.trans (hb.mono (Nat.le_trans hn q.below.size)))⟩
theorem calls_after_same {P : Program} {f : FuncId} {args : Array Value} {n : Nat} {W0 : World} {q : After n W0} {v : Value} (h : Calls P f args q.W fun e w' => e = .returned v ∧ q.W = w') :
    Calls P f args q.W fun e w'' => e = .returned v ∧ ∃ q' : After n W0, w'' = q'.W :=
  h.mono fun _ _ ⟨he, hb⟩ => ⟨he, q, hb.symm⟩

/-! ### A region that reads, and ends in operations of one forced order: the reads walked once -/
/-- One world alone. -/
structure Just (W0 : World) where
  W : World
  eq : W = W0
instance {W0 : World} : Nonempty (Just W0) := ⟨⟨W0, rfl⟩⟩
theorem Just.cell {W0 : World} {a : Addr} {v : Value} (hc : W0.cell? a = some v) (q : Just W0) : q.W.cell? a = some v := by rw [q.eq]; exact hc
theorem still_of_quiet {P : Program} {ops : Array Oper} {W0 : World} {Q : Act → Prop} : ∀ (l : List Oper) (a : Act), wpQuiet P ops (fun w' => ∃ q : Just W0, w' = q.W) Q l a → wpStill P ops W0 Q l a
  | [], a, h => h
  | o :: rest, a, h => by
    unfold wpQuiet at h
    unfold wpStill
    split
    · rename_i hw
      rw [if_pos hw] at h
      obtain ⟨v, h1, h2⟩ := h
      have h3 := h1 W0 ⟨⟨W0, rfl⟩, rfl⟩
      unfold Oper.quietAt at h3
      unfold Oper.still
      cases hr : (execOp a.eval o).run P W0 with
      | ok n w' =>
        rw [hr] at h3
        cases n with
        | value u => obtain ⟨e1, e2⟩ := h3; exact ⟨e1, by rw [e2]; exact still_of_quiet rest _ h2⟩
        | skip => obtain ⟨e1, e2⟩ := h3; exact ⟨e1, by rw [← e2]; exact still_of_quiet rest _ h2⟩
        | enter f args =>
          obtain ⟨e1, e2⟩ := h3
          exact ⟨e1, v, e2.mono fun e w'' ⟨he, q, hq⟩ => ⟨he, hq.trans q.eq⟩, still_of_quiet rest _ h2⟩
        | _ => exact h3.elim
      | halt x w' => rw [hr] at h3; exact h3.elim
    · rename_i hw
      rw [if_neg hw] at h
      exact still_of_quiet rest _ h
theorem region_tail {P : Program} {id : Nat} {Q : Exit → Act → World → Prop} {a : Act} {w w0 : World} {l : List Oper} (n : Nat) (hd : w.drew = w0) (hm : P.follows .mixedOrders = true) (hB : Region.lexTailB .any l.toArray n = true)
    (h : wpQuiet P l.toArray (fun w' => ∃ q : Just w0, w' = q.W) (fun a' => wpList P l.toArray Q (l.drop n) a' w0) (l.take n) a) : (Code.region id l.toArray true).wp P Q a w := by
  subst hd
  exact wp_region_still_tail n hm hB (still_of_quiet _ _ h)
end Go.Proofs.Ytidojcogojchpaa

/- mem: change. -/
set_option linter.unusedVariables false
set_option linter.unusedSimpArgs false
namespace Go.Proofs.Ytidojcogojchpaa
open Go.RowKit

def page0 (r : Int) : Pg := ⟨r, List.replicate 256 0⟩
theorem zero_pg : Try.zeroCells98 = (pgCells (page0 0)).toArray := by kernel_rfl
theorem page0_ok {r : Int} (h : 0 ≤ r ∧ r ≤ 7) : PgOk (page0 r) := ⟨List.length_replicate, fun x hx => by have := List.eq_of_mem_replicate hx; omega, h⟩
theorem pgCells_len {g : Pg} (h : PgOk g) : (pgCells g).length = 257 := by have := h.len; simp [pgCells, this]
theorem pgCells_one (g : Pg) : ∀ v ∈ pgCells g, v.oneCell' = true := by simp [pgCells, nums, Value.oneCell']
theorem pg_range {W : World} {p : Nat} {g : Pg} (h : W.heap[p]? = some (pgObj g)) : W.rangeAt p 0 (pgCells g) := by
  intro j v hj
  rw [Nat.zero_add]
  simp only [World.cell?, h, pgObj]
  simpa using hj
/-- What change has done. -/
structure ChangeE (W : World) (b : Nat) (S : MS) (A : PM) (n : Int) (p : Nat) (W' : World) : Prop where
  ex : ∃ S', MemIs W' b S' { A with cg := insI A.cg n } ∧ Went W W' b S A.ks S' A.ks ∧ S'.at_ n = p ∧ n ∈ S'.own
theorem MemIs.some_maps {W : World} {b : Nat} {S : MS} {A : PM} (h : MemIs W b S A) {n : Int} (hn : n ∈ A.ks) : ∃ kp ko, S.bp = some kp ∧ S.bo = some ko := by
  cases hp : S.bp with
  | none =>
    have := h.pages
    rw [hp] at this
    have : A.ks = [] := this
    rw [this] at hn; simp at hn
  | some kp =>
    cases ho : S.bo with
    | none => rw [h.nil.2 ho] at hp; cases hp
    | some ko => exact ⟨kp, ko, rfl, rfl⟩
theorem pg_info : (Try.prog.info? 98).map (·.size) = some 257 := by kernel_rfl
/-- Behind both stores into the maps of pages. -/
theorem put_maps {W0 V : World} {b : Nat} {S : MS} {A : PM} {kp ko p : Nat} {n : Int} {g : Pg} (h0 : MemIs W0 b S A) (h : MemIs V b S A) (hB : Below W0.heap.size W0 V) (hp : S.bp = some kp) (ho : S.bo = some ko) (hn : 0 ≤ n ∧ n < 16777216) (hle : (insI A.ks n).length ≤ 2000) (hpg : V.heap[p]? = some (pgObj g)) (hok : PgOk g) (hpn : W0.heap.size ≤ p) :
    ∃ (v1 v2 : Value) (s1 s2 : Nat) (V1 V2 V3 V4 : World), (Instr.mapEntry 102 (.map (some kp)) (.int .i64 n)).run Try.prog V = .ok (.tuple #[v1, .int .i64 (s1 : Int)]) V1 ∧
      (Instr.entryStore 102 (.map (some kp)) (.int .i64 (s1 : Int)) (.pointer (some ⟨p, 0, none⟩))).run Try.prog V1 = .ok () V2 ∧
      (Instr.mapEntry 99 (.map (some ko)) (.int .i64 n)).run Try.prog V2 = .ok (.tuple #[v2, .int .i64 (s2 : Int)]) V3 ∧
      (Instr.entryStore 99 (.map (some ko)) (.int .i64 (s2 : Int)) (.bool true)).run Try.prog V3 = .ok () V4 ∧
      MemIs V4 b (S.put n p) (A.put n g) ∧ Went W0 V4 b S A.ks (S.put n p) (A.put n g).ks ∧ (∀ k, k ≠ kp → k ≠ ko → k < V.heap.size → V1.heap[k]? = V.heap[k]? ∧ V2.heap[k]? = V.heap[k]? ∧ V3.heap[k]? = V.heap[k]? ∧ V4.heap[k]? = V.heap[k]?) := by
  have hpo : kp ≠ ko := fun e => (h.ap1 kp hp).1 (by rw [ho, e])
  have hm1 : MapF V kp A.ks (ptrTo S) := by have := h.pages; rw [hp] at this; exact this
  have hm2 : MapF V ko S.own (fun _ => .bool true) := by have := h.owns; rw [ho] at this; exact this
  obtain ⟨v1, s1, o1, r1, e1⟩ := hm1.run_entry (P := Try.prog) Try.underlying102 Try.underlying3 zero_page n hn
  obtain ⟨o2, r2, e2⟩ := e1 (V.putObj kp o1) (.pointer (some ⟨p, 0, none⟩)) (World.putObj_heap_same hm1.lt)
  obtain ⟨V2, hV2⟩ : ∃ V2, (V.putObj kp o1).putObj kp o2 = V2 := ⟨_, rfl⟩
  rw [hV2] at r2 e2
  have hu1 : Upd (fun k => k = kp) V (V.putObj kp o1) := putObj_upd _ _ _
  have hu2 : Upd (fun k => k = kp) V V2 := by rw [← hV2]; exact hu1.trans (putObj_upd _ _ _) fun _ h => .inl h
  have hm3 : MapF V2 ko S.own (fun _ => .bool true) := hm2.upd hu2 fun e => hpo e.symm
  obtain ⟨v2, s2, o3, r3, e3⟩ := hm3.run_entry (P := Try.prog) Try.underlying99 Try.underlying3 zero_bool n hn
  obtain ⟨o4, r4, e4⟩ := e3 (V2.putObj ko o3) (.bool true) (World.putObj_heap_same hm3.lt)
  obtain ⟨V3, hV3⟩ : ∃ V3, V2.putObj ko o3 = V3 := ⟨_, rfl⟩
  rw [hV3] at r3 r4 e4
  obtain ⟨V4, hV4⟩ : ∃ V4, V3.putObj ko o4 = V4 := ⟨_, rfl⟩
  rw [hV4] at r4 e4
  have hu3 : Upd (fun k => k = ko) V2 V3 := by rw [← hV3]; exact putObj_upd _ _ _
  have hu4 : Upd (fun k => k = ko) V2 V4 := hu3.trans (by rw [← hV4]; exact putObj_upd _ _ _) fun _ h => .inl h
  have hu : Upd (fun k => k = kp ∨ k = ko) V V4 := (hu2.mono fun _ h => .inl h).trans hu4 fun _ h => .inl (.inr h)
  have hmp : MapF V4 kp (insI A.ks n) (updF (ptrTo S) n (.pointer (some ⟨p, 0, none⟩))) := e2.upd hu4 hpo
  have hfr : ¬ S.reads A.ks b p := fun hr => by have := h0.lt p hr; omega
  have hfin := h.put1 hp ho hu hn hle hmp e4 hpg hok hfr
  refine ⟨v1, v2, s1, s2, _, V2, V3, V4, r1, r2, r3, r4, hfin, Went.put (A := A) (g := g) hp ho hB hu hpn, fun k k1 k2 k3 => ⟨hu1.block k k3 k1, hu2.block k k3 k1, ?_, hu.block k k3 fun e => by rcases e with e | e; exact k1 e; exact k2 e⟩⟩
  rw [hu3.block k (by have := hu2.size; omega) k2]
  exact hu2.block k k3 k1
set_option maxRecDepth 100000 in
set_option maxHeartbeats 2000000 in
theorem change_new (W : World) (b : Nat) (S : MS) (A : PM) (n : Int) (h : MemIs W b S A) (hn : n ∈ A.ks) (hno : n ∉ S.own) :
    Calls Try.prog 72 #[.pointer (some ⟨b, 0, none⟩), .int .i64 n] W fun e w' => ∃ p, e = .returned (.pointer (some ⟨p, 0, none⟩)) ∧ ChangeE W b S A n p w' := by
  obtain ⟨c0, c1, c2, f0, f1, f2⟩ := h.cells
  obtain ⟨kp, ko, hkp, hko⟩ := h.some_maps hn
  have hl1 := h.pages.run_look (P := Try.prog) Try.underlying102 Try.underlying3 zero_page n
  have hl2 := h.owns.run_look (P := Try.prog) Try.underlying99 Try.underlying3 zero_bool n
  rw [if_pos hn, hkp] at hl1
  rw [if_neg hno, hko] at hl2
  rw [hkp] at c1
  rw [hko] at c2
  obtain ⟨hp, hok⟩ := h.page n hn
  obtain ⟨g, hg⟩ : ∃ g, A.pg n = g := ⟨_, rfl⟩
  rw [hg] at hp hok
  have hlen := pgCells_len hok
  -- the copy
  obtain ⟨W1, hW1⟩ : ∃ W1, W.alloc (.cells Try.zeroCells98 98) = W1 := ⟨_, rfl⟩
  have hb1 : Below W.heap.size W W1 := by rw [← hW1]; exact balloc _ _
  have hz1 : W1.heap[W.heap.size]? = some (.cells Try.zeroCells98 98 (0, 0)) := by rw [← hW1]; exact heap_alloc_new _ _
  obtain ⟨W2, hW2⟩ : ∃ W2, W1.setRow W.heap.size (pgCells g).toArray = W2 := ⟨_, rfl⟩
  have hp2 : W2.heap[W.heap.size]? = some (pgObj g) := by rw [← hW2]; exact setRow_heap W1 _ _ _ _ _ hz1
  have hb2 : Below W.heap.size W W2 := by rw [← hW2]; exact hb1.trans ((Upd.of_grown (gsetRow W1 W.heap.size (pgCells g).toArray)).below hb1.size fun k hk => by have : W.heap.size = k := Option.some.inj hk; omega)
  have hb2d : Below W.heap.size W W2.drew := bdrewN hb2 1
  have hins : insI A.ks n = A.ks := insI_mem h.up hn
  obtain ⟨v1, v2, s1, s2, V1, V2, V3, V4, r1, r2, r3, r4, hM, hG, hK⟩ := put_maps (p := W.heap.size) (g := g) h (h.below hb2d) hb2d hkp hko (h.rng n hn) (by rw [hins]; exact h.le) hp2 hok (Nat.le_refl _)
  have hAe : A.put n g = A := by
    unfold PM.put
    rw [hins, ← hg]
    congr 1
    funext k
    by_cases e : k = n
    · subst e; simp [updPg]
    · simp [updPg, e]
  rw [hAe] at hM hG
  obtain ⟨n1, n2, n3⟩ := h.box_ne
  have hbl := h.lt b (.inl rfl)
  have hKb := hK b (fun e => n2 (e ▸ hkp)) (fun e => n3 (e ▸ hko)) (by have := hb2d.size; omega)
  have hcell : ∀ (V : World) (o : Nat) (v : Value), V.heap[b]? = W2.drew.heap[b]? → W.cell? ⟨b, o, none⟩ = some v → V.cell? ⟨b, o, none⟩ = some v := fun V o v e hc => by
    have := bkeep hb2d hc
    simp only [World.cell?] at this ⊢
    rw [e]; exact this
  have HT := Lib.hid (touch_any V4 b (S.put n W.heap.size) A n hM (h.rng n hn))
  have HG := Lib.hid hG
  have HC1 := Lib.hid (⟨hcell V1 1 _ hKb.1 c1, hcell V1 2 _ hKb.1 c2⟩ : V1.cell? ⟨b, 1, none⟩ = _ ∧ V1.cell? ⟨b, 2, none⟩ = _)
  have HC2 := Lib.hid (⟨hcell V2 1 _ hKb.2.1 c1, hcell V2 2 _ hKb.2.1 c2⟩ : V2.cell? ⟨b, 1, none⟩ = _ ∧ V2.cell? ⟨b, 2, none⟩ = _)
  have HC3 := Lib.hid (⟨hcell V3 1 _ hKb.2.2.1 c1, hcell V3 2 _ hKb.2.2.1 c2⟩ : V3.cell? ⟨b, 1, none⟩ = _ ∧ V3.cell? ⟨b, 2, none⟩ = _)
  have HC4 := Lib.hid (⟨hcell V4 1 _ hKb.2.2.2 c1, hcell V4 2 _ hKb.2.2.2 c2⟩ : V4.cell? ⟨b, 1, none⟩ = _ ∧ V4.cell? ⟨b, 2, none⟩ = _)
  have d1 := hcell W2.drew 1 _ rfl c1
  have d2 := hcell W2.drew 2 _ rfl c2
  have hsz : (Try.prog.info? 98).map (·.size) = some (pgCells g).length := by rw [hlen]; exact pg_info
  have hsz2 : (Try.prog.info? 98).map (·.size) = some (pgCells g).toArray.size := by
    have e : (pgCells g).toArray.size = 257 := by simp [hlen]
    rw [e]; exact pg_info
  have hold : Try.zeroCells98.size = (pgCells g).toArray.size := by
    have e : Try.zeroCells98.size = 257 := by kernel_rfl
    rw [e]; simp [hlen]
  have hone : (pgCells g).toArray.all (·.oneCell') = true := by simpa using pgCells_one g
  have hrg := pg_range hp
  have hnil : ptrTo S n = .pointer (some ⟨S.at_ n, 0, none⟩) := rfl
  rw [hnil] at hl1
  clear h hM hG hK hKb hb1 hb2 hb2d hp hp2 hlen hcell hg hkp hko n1 n2 n3 hnil hins hAe
  go_enter Try.func72, Try.ntmps72
  go_wp2_with (first
    | with_reducible refine wpList_load_mid rfl 98 (Operand.tmp 21) rfl (S.at_ n) 0 rfl (pgCells g) _ hrg Try.underlying98 rfl hsz ?_
    | with_reducible refine wpList_store_row rfl 98 (Operand.tmp 6) (Operand.tmp 22) rfl W.heap.size (pgCells g).toArray rfl rfl 98 _ hz1 hsz2 hold hone ?_)
  go_region_held3 (fun w' => w'.cell? ⟨b, 1, none⟩ = some (.map (some kp)) ∧ w'.cell? ⟨b, 2, none⟩ = some (.map (some ko))) (first | exact ⟨d1, d2⟩ | exact HC1.out | exact HC2.out | exact HC3.out | exact HC4.out) (fail)
  go_wp2_with fail
  refine HT.out.mono ?_
  rintro e W5 ⟨rfl, ht⟩
  have HE := Lib.hid ht
  clear ht
  go_wp2_with fail
  go_ret
  obtain ⟨bc, hm, hw⟩ := HE.out.ex
  refine ⟨_, rfl, ⟨{ (S.put n W.heap.size) with bc := bc }, hm, HG.out.trans hw, by simp [MS.put, updN], by simp [MS.put, mem_insI]⟩⟩
set_option maxRecDepth 100000 in
set_option maxHeartbeats 2000000 in
theorem change_own (W : World) (b : Nat) (S : MS) (A : PM) (n : Int) (h : MemIs W b S A) (hn : n ∈ A.ks) (ho : n ∈ S.own) :
    Calls Try.prog 72 #[.pointer (some ⟨b, 0, none⟩), .int .i64 n] W fun e w' => ∃ p, e = .returned (.pointer (some ⟨p, 0, none⟩)) ∧ ChangeE W b S A n p w' := by
  obtain ⟨c0, c1, c2, f0, f1, f2⟩ := h.cells
  have hl1 := h.pages.run_look (P := Try.prog) Try.underlying102 Try.underlying3 zero_page n
  have hl2 := h.owns.run_look (P := Try.prog) Try.underlying99 Try.underlying3 zero_bool n
  rw [if_pos hn] at hl1
  rw [if_pos ho] at hl2
  have HT := Lib.hid (touch_any W b S A n h (h.rng n hn))
  have HO := Lib.hid ho
  clear h hn ho
  go_enter Try.func72, Try.ntmps72
  go_wp2_with fail
  refine HT.out.mono ?_
  rintro e W5 ⟨rfl, ht⟩
  have HE := Lib.hid ht
  clear ht
  go_wp2_with fail
  go_ret
  obtain ⟨bc, hm, hw⟩ := HE.out.ex
  exact ⟨_, rfl, ⟨_, hm, hw, rfl, HO.out⟩⟩
theorem change_any (W : World) (b : Nat) (S : MS) (A : PM) (n : Int) (h : MemIs W b S A) (hn : n ∈ A.ks) :
    Calls Try.prog 72 #[.pointer (some ⟨b, 0, none⟩), .int .i64 n] W fun e w' => ∃ p, e = .returned (.pointer (some ⟨p, 0, none⟩)) ∧ ChangeE W b S A n p w' := by
  by_cases ho : n ∈ S.own
  · exact change_own W b S A n h hn ho
  · exact change_new W b S A n h hn ho
end Go.Proofs.Ytidojcogojchpaa

/- mem: Map. -/
set_option linter.unusedVariables false
set_option linter.unusedSimpArgs false
namespace Go.Proofs.Ytidojcogojchpaa
open Go.RowKit

theorem build_page (r : Int) (W : World) : (Instr.build 98 #[(0, .int .i64 r)]).run Try.prog W = .ok (.agg (pgCells (page0 r)).toArray) W := by kernel_rfl
theorem box_page (r : Int) (W : World) : (Instr.box 98 (.agg (pgCells (page0 r)).toArray)).run Try.prog W = .ok (.pointer (some ⟨W.heap.size, 0, none⟩)) (W.alloc (.cells (pgCells (page0 r)).toArray 98)) := by kernel_rfl
set_option maxRecDepth 100000 in
set_option maxHeartbeats 1000000 in
theorem Map_nil (W : World) (a b c : Int) : Calls Try.prog 33 #[.pointer none, .int .i64 a, .int .i64 b, .int .i64 c] W fun e w' => e = .returned (.int .i64 5) ∧ W = w' := by
  go_enter Try.func33, Try.ntmps33
  go_wp2
  go_ret
  exact ⟨rfl, rfl⟩
set_option maxRecDepth 100000 in
set_option maxHeartbeats 1000000 in
theorem Map_arg (W : World) (b : Nat) (S : MS) (A : PM) (f n r : Int) (h : MemIs W b S A) (hb : withinB f n = false ∨ r < 0 ∨ 7 < r) :
    Calls Try.prog 33 #[.pointer (some ⟨b, 0, none⟩), .int .i64 f, .int .i64 n, .int .i64 r] W fun e w' => e = .returned (.int .i64 1) ∧ Below W.heap.size W w' := by
  cases hw : withinB f n
  · have HW := Lib.hid (within_bad W (some ⟨b, 0, none⟩) f n hw)
    clear h hb hw
    go_enter Try.func33, Try.ntmps33
    go_wp2_with fail
    refine HW.out.mono ?_
    rintro e w1 ⟨rfl, rfl⟩
    go_wp2_with fail
    go_ret
    exact ⟨rfl, Below.refl _ _⟩
  · have HW := Lib.hid (within_ok W b S A f n h hw)
    have hr : r < 0 ∨ (0 ≤ r ∧ 7 < r) := by
      rcases hb with h1 | h1 | h1
      · rw [hw] at h1; cases h1
      · exact .inl h1
      · exact .inr ⟨by omega, h1⟩
    clear h hb hw
    rcases hr with h1 | ⟨h1, h2⟩
    all_goals
      go_enter Try.func33, Try.ntmps33
      go_wp2_with fail
      refine HW.out.mono ?_
      rintro e w1 ⟨c, g, rfl, hI⟩
      have HB := Lib.hid hI.below
      clear hI
      go_wp2_with fail
      go_ret
      exact ⟨rfl, HB.out⟩
set_option maxRecDepth 100000 in
set_option maxHeartbeats 1000000 in
theorem Map_there (W : World) (b : Nat) (S : MS) (A : PM) (f n r : Int) (h : MemIs W b S A) (hw : withinB f n = true) (h1 : 0 ≤ r) (h2 : r ≤ 7) (hb : inL A.ks f n ≠ []) :
    Calls Try.prog 33 #[.pointer (some ⟨b, 0, none⟩), .int .i64 f, .int .i64 n, .int .i64 r] W fun e w' => e = .returned (.int .i64 5) ∧ Below W.heap.size W w' := by
  have HW := Lib.hid (within_ok W b S A f n h hw)
  have hl : (0 : Int) < ((inL A.ks f n).length : Int) := by
    have : 0 < (inL A.ks f n).length := List.length_pos_iff.2 hb
    omega
  clear h hw hb
  go_enter Try.func33, Try.ntmps33
  go_wp2_with fail
  refine HW.out.mono ?_
  rintro e w1 ⟨c, g, rfl, hI⟩
  have HB := Lib.hid hI.below
  clear hI
  go_wp2_with fail
  go_ret
  exact ⟨rfl, HB.out⟩
set_option maxRecDepth 100000 in
set_option maxHeartbeats 1000000 in
theorem Map_many (W : World) (b : Nat) (S : MS) (A : PM) (f n r : Int) (h : MemIs W b S A) (hw : withinB f n = true) (h1 : 0 ≤ r) (h2 : r ≤ 7) (hb : inL A.ks f n = []) (hm : 2000 < (A.ks.length : Int) + n) :
    Calls Try.prog 33 #[.pointer (some ⟨b, 0, none⟩), .int .i64 f, .int .i64 n, .int .i64 r] W fun e w' => e = .returned (.int .i64 2) ∧ Below W.heap.size W w' := by
  have HW := Lib.hid (within_ok W b S A f n h hw)
  rw [hb] at HW
  have hle := h.le
  obtain ⟨w1', w2', w3', w4'⟩ := of_decide_eq_true hw
  have H := Lib.hid h
  clear h hw hb
  go_enter Try.func33, Try.ntmps33
  go_wp2_with fail
  refine HW.out.mono ?_
  rintro e w1 ⟨c, g, rfl, hI⟩
  have HB := Lib.hid hI.below
  have hm1 := H.out.below hI.below
  obtain ⟨_, c1, _, _, _, _⟩ := hm1.cells
  have hln := fun ty => hm1.pages.run_len (P := Try.prog) (ty := ty) Try.underlying102
  clear hI hm1
  go_wp2_with fail
  go_ret
  exact ⟨rfl, HB.out⟩
end Go.Proofs.Ytidojcogojchpaa

/- mem: Map, where pages are mapped. -/
set_option linter.unusedVariables false
set_option linter.unusedSimpArgs false
namespace Go.Proofs.Ytidojcogojchpaa
open Go.RowKit

/-- A page with zeros at a number, and marked. -/
def PM.map1 (A : PM) (n r : Int) : PM := { A.put n (page0 r) with cg := insI A.cg n }
def PM.mapN (A : PM) (f r : Int) : Nat → PM
  | 0 => A
  | j + 1 => (A.mapN f r j).map1 (f + j) r
theorem mem_mapN (A : PM) (f r x : Int) : ∀ j, x ∈ (A.mapN f r j).ks ↔ x ∈ A.ks ∨ (f ≤ x ∧ x < f + j)
  | 0 => by simp [PM.mapN]; omega
  | j + 1 => by
    show x ∈ insI (A.mapN f r j).ks (f + j) ↔ _
    rw [mem_insI, mem_mapN A f r x j]
    constructor
    · rintro (h | h | h)
      · exact .inr (by omega)
      · exact .inl h
      · exact .inr (by omega)
    · rintro (h | h)
      · exact .inr (.inl h)
      · by_cases e : x = f + j
        · exact .inl e
        · exact .inr (.inr (by omega))
theorem len_mapN (A : PM) (f r : Int) {n : Int} (hno : inL A.ks f n = []) : ∀ j : Nat, (j : Int) ≤ n → (A.mapN f r j).ks.length = A.ks.length + j
  | 0, _ => rfl
  | j + 1, hj => by
    have hnin : f + (j : Int) ∉ (A.mapN f r j).ks := fun h => by
      rcases (mem_mapN A f r _ j).1 h with h1 | h1
      · have : f + (j : Int) ∈ inL A.ks f n := List.mem_filter.2 ⟨h1, by simp; omega⟩
        rw [hno] at this; simp at this
      · omega
    show (insI (A.mapN f r j).ks (f + j)).length = _
    rw [insI_length hnin, len_mapN A f r hno j (by omega)]
    omega
/-- Behind both stores into the maps of pages, the page laid between the two steps of the first one. -/
theorem put_maps2 {W0 V : World} {b : Nat} {S : MS} {A : PM} {kp ko : Nat} {n : Int} {g : Pg} {cs : Array Value} (h : MemIs V b S A) (hB : Below W0.heap.size W0 V) (h0 : MemIs W0 b S A) (hp : S.bp = some kp) (ho : S.bo = some ko) (hn : 0 ≤ n ∧ n < 16777216) (hle : (insI A.ks n).length ≤ 2000) (hcs : Obj.cells cs 98 (0, 0) = pgObj g) (hok : PgOk g) :
    ∃ (v1 v2 : Value) (s1 s2 : Nat) (V1 V1' V2 V3 V4 : World), (Instr.mapEntry 102 (.map (some kp)) (.int .i64 n)).run Try.prog V = .ok (.tuple #[v1, .int .i64 (s1 : Int)]) V1 ∧ V1.alloc (.cells cs 98) = V1' ∧ V1.heap.size = V.heap.size ∧
      (Instr.entryStore 102 (.map (some kp)) (.int .i64 (s1 : Int)) (.pointer (some ⟨V.heap.size, 0, none⟩))).run Try.prog V1' = .ok () V2 ∧
      (Instr.mapEntry 99 (.map (some ko)) (.int .i64 n)).run Try.prog V2 = .ok (.tuple #[v2, .int .i64 (s2 : Int)]) V3 ∧
      (Instr.entryStore 99 (.map (some ko)) (.int .i64 (s2 : Int)) (.bool true)).run Try.prog V3 = .ok () V4 ∧
      MemIs V4 b (S.put n V.heap.size) (A.put n g) ∧ Went W0 V4 b S A.ks (S.put n V.heap.size) (A.put n g).ks ∧ (∀ k, k ≠ kp → k ≠ ko → k < V.heap.size → V1.heap[k]? = V.heap[k]? ∧ V1'.heap[k]? = V.heap[k]? ∧ V2.heap[k]? = V.heap[k]? ∧ V3.heap[k]? = V.heap[k]? ∧ V4.heap[k]? = V.heap[k]?) := by
  have hpo : kp ≠ ko := fun e => (h.ap1 kp hp).1 (by rw [ho, e])
  have hm1 : MapF V kp A.ks (ptrTo S) := by have := h.pages; rw [hp] at this; exact this
  have hm2 : MapF V ko S.own (fun _ => .bool true) := by have := h.owns; rw [ho] at this; exact this
  obtain ⟨v1, s1, o1, r1, e1⟩ := hm1.run_entry (P := Try.prog) Try.underlying102 Try.underlying3 zero_page n hn
  obtain ⟨V1, hV1⟩ : ∃ V1, V.putObj kp o1 = V1 := ⟨_, rfl⟩
  rw [hV1] at r1
  have hu1 : Upd (fun k => k = kp) V V1 := by rw [← hV1]; exact putObj_upd _ _ _
  have hs1 : V1.heap.size = V.heap.size := by rw [← hV1]; simp
  obtain ⟨V1', hV1'⟩ : ∃ V1', V1.alloc (.cells cs 98) = V1' := ⟨_, rfl⟩
  have ha : Below V1.heap.size V1 V1' := by rw [← hV1']; exact balloc _ _
  have hu1' : Upd (fun k => k = kp) V V1' := hu1.trans (Upd.any (F := fun _ => False) ha) fun _ h => h.elim
  have hk1 : V1'.heap[kp]? = some o1 := by
    rw [ha.block kp (by rw [hs1]; exact hm1.lt), ← hV1]; exact World.putObj_heap_same hm1.lt
  obtain ⟨o2, r2, e2⟩ := e1 V1' (.pointer (some ⟨V.heap.size, 0, none⟩)) hk1
  obtain ⟨V2, hV2⟩ : ∃ V2, V1'.putObj kp o2 = V2 := ⟨_, rfl⟩
  rw [hV2] at r2 e2
  have hu2 : Upd (fun k => k = kp) V V2 := by rw [← hV2]; exact hu1'.trans (putObj_upd _ _ _) fun _ h => .inl h
  have hpg2 : V2.heap[V.heap.size]? = some (pgObj g) := by
    have : V1'.heap[V.heap.size]? = some (pgObj g) := by rw [← hV1', ← hs1, ← hcs]; exact heap_alloc_new V1 _
    rw [← hV2, World.putObj_heap_other (by have := hm1.lt; omega)]; exact this
  have hm3 : MapF V2 ko S.own (fun _ => .bool true) := hm2.upd hu2 fun e => hpo e.symm
  obtain ⟨v2, s2, o3, r3, e3⟩ := hm3.run_entry (P := Try.prog) Try.underlying99 Try.underlying3 zero_bool n hn
  obtain ⟨o4, r4, e4⟩ := e3 (V2.putObj ko o3) (.bool true) (World.putObj_heap_same hm3.lt)
  obtain ⟨V3, hV3⟩ : ∃ V3, V2.putObj ko o3 = V3 := ⟨_, rfl⟩
  rw [hV3] at r3 r4 e4
  obtain ⟨V4, hV4⟩ : ∃ V4, V3.putObj ko o4 = V4 := ⟨_, rfl⟩
  rw [hV4] at r4 e4
  have hu3 : Upd (fun k => k = ko) V2 V3 := by rw [← hV3]; exact putObj_upd _ _ _
  have hu4 : Upd (fun k => k = ko) V2 V4 := hu3.trans (by rw [← hV4]; exact putObj_upd _ _ _) fun _ h => .inl h
  have hu : Upd (fun k => k = kp ∨ k = ko) V V4 := (hu2.mono fun _ h => .inl h).trans hu4 fun _ h => .inl (.inr h)
  have hmp : MapF V4 kp (insI A.ks n) (updF (ptrTo S) n (.pointer (some ⟨V.heap.size, 0, none⟩))) := e2.upd hu4 hpo
  have hfr : ¬ S.reads A.ks b V.heap.size := fun hr => by have := h.lt _ hr; omega
  have hkoV : ko ≠ V.heap.size := by have := hm2.lt; omega
  have hpg4 : V4.heap[V.heap.size]? = some (pgObj g) := by
    rw [hu4.block _ (Array.getElem?_eq_some_iff.1 hpg2).1 fun e => hkoV e.symm]; exact hpg2
  -- the world as it would be had the page been laid first
  have hfin : MemIs V4 b (S.put n V.heap.size) (A.put n g) := by
    obtain ⟨X, hX⟩ : ∃ X, V.alloc (pgObj g) = X := ⟨_, rfl⟩
    have hbX : Below V.heap.size V X := by rw [← hX]; exact balloc _ _
    have hXp : X.heap[V.heap.size]? = some (pgObj g) := by rw [← hX]; exact heap_alloc_new _ _
    have hsX : X.heap.size = V.heap.size + 1 := by rw [← hX]; simp
    have hs1' : V1'.heap.size = V.heap.size + 1 := by rw [← hV1']; simp [hs1]
    have hs4 : V4.heap.size = V.heap.size + 1 := by rw [← hV4, ← hV3, ← hV2]; simp [hs1']
    refine (h.below hbX).put1 (kp := kp) (ko := ko) hp ho (W1 := V4) ⟨hu.os.trans hbX.os.symm, hu.tape.trans hbX.tape.symm, hu.output.trans hbX.output.symm, by omega, fun k hk hf => ?_⟩ hn hle hmp e4 hXp hok hfr
    by_cases e : k = V.heap.size
    · rw [e, hpg4, hXp]
    · rw [hu.block k (by omega) hf, hbX.block k (by omega)]
  refine ⟨v1, v2, s1, s2, V1, V1', V2, V3, V4, r1, hV1', hs1, r2, r3, r4, hfin, Went.put (A := A) (g := g) hp ho hB hu hB.size, fun k k1 k2 k3 => ⟨hu1.block k k3 k1, hu1'.block k k3 k1, hu2.block k k3 k1, ?_, hu.block k k3 fun e => by rcases e with e | e; exact k1 e; exact k2 e⟩⟩
  rw [hu3.block k (by have := hu2.size; omega) k2]
  exact hu2.block k k3 k1
/-- How a call on a memory ended: an error number; the memory behind it. -/
structure OpE (W : World) (b : Nat) (S : MS) (A : PM) (A' : PM) (W' : World) : Prop where
  ex : ∃ S', MemIs W' b S' A' ∧ Went W W' b S A.ks S' A'.ks
set_option maxRecDepth 100000 in
set_option maxHeartbeats 4000000 in
theorem Map_some (W : World) (b : Nat) (S : MS) (A : PM) (f n r : Int) (h : MemIs W b S A) (hw : withinB f n = true) (h1 : 0 ≤ r) (h2 : r ≤ 7) (hb : inL A.ks f n = []) (hm : (A.ks.length : Int) + n ≤ 2000) {kp ko : Nat} (hp : S.bp = some kp) (ho : S.bo = some ko) :
    Calls Try.prog 33 #[.pointer (some ⟨b, 0, none⟩), .int .i64 f, .int .i64 n, .int .i64 r] W fun e w' => e = .returned (.int .i64 0) ∧ OpE W b S A (A.mapN f r n.toNat) w' := by
  have HW := Lib.hid (within_ok W b S A f n h hw)
  have HNO := Lib.hid hb
  rw [hb] at HW
  obtain ⟨w1', w2', w3', w4'⟩ := of_decide_eq_true hw
  have H := Lib.hid h
  have HP := Lib.hid hp
  have HO := Lib.hid ho
  clear h hw hb
  go_enter Try.func33, Try.ntmps33
  go_wp2_with fail
  refine HW.out.mono ?_
  rintro e w1 ⟨c, g, rfl, hI⟩
  have HB := Lib.hid hI.below
  have hm1 := H.out.below hI.below
  obtain ⟨_, c1, _, _, _, _⟩ := hm1.cells
  have hln := fun ty => hm1.pages.run_len (P := Try.prog) (ty := ty) Try.underlying102
  rw [hp] at c1 hln
  have hnil := fun (W : World) (r : Option Nat) => run_eql_map_nil (P := Try.prog) W 102 3 95 r Try.underlying102
  have HM1 := Lib.hid hm1
  clear hI hm1 hp ho
  go_wp2_with fail
  clear c1 hln hnil
  go_loopw [11] (fun k wr => ∃ j : Nat, (j : Int) ≤ n ∧ k = .int .i64 (f + (j : Int)) ∧ ∃ S', Hid (S'.bp = some kp ∧ S'.bo = some ko ∧ MemIs wr b S' (A.mapN f r j) ∧ Went w1 wr b S A.ks S' (A.mapN f r j).ks)) (fun k _ => (f + n - intOf k).toNat)
  case atStart => exact ⟨0, by omega, by simp, S, Lib.hid ⟨HP.out, HO.out, HM1.out, Went.refl _ _ _ _⟩⟩
  case round =>
    obtain ⟨j, hj, rfl, S', hI⟩ := hrel
    by_cases hlt : (j : Int) < n
    · have hI' := hI.out
      obtain ⟨hp, ho, hM, hG⟩ := hI'
      have hpl := fun (V : World) => page0_ok (r := r) ⟨h1, h2⟩
      have hlen := len_mapN A f r HNO.out (j + 1) (by omega)
      obtain ⟨V, hV⟩ : ∃ V, (wr.alloc (.cells (Try.zeroCells98.setIfInBounds 0 (.int .i64 r)) 98)).drew = V := ⟨_, rfl⟩
      have hbV : Below wr.heap.size wr V := by rw [← hV]; exact bdrewN (balloc wr _) 1
      have hpg : V.heap[wr.heap.size]? = some (pgObj (page0 r)) := by
        have e : Try.zeroCells98.setIfInBounds 0 (.int .i64 r) = (pgCells (page0 r)).toArray := by kernel_rfl
        rw [← hV, e]; exact heap_alloc_new wr _
      have hrg : 0 ≤ f + (j : Int) ∧ f + (j : Int) < 16777216 := by omega
      obtain ⟨v1, v2, s1, s2, V1, V2, V3, V4, r1, r2, r3, r4, hM4, hG4, hK⟩ := put_maps (p := wr.heap.size) (g := page0 r) (n := f + (j : Int)) hM (hM.below hbV) hbV hp ho hrg (by show (A.mapN f r (j + 1)).ks.length ≤ 2000; omega) hpg (page0_ok ⟨h1, h2⟩) (Nat.le_refl _)
      have hcs : Obj.cells (Try.zeroCells98.setIfInBounds 0 (.int .i64 r)) 98 (0, 0) = pgObj (page0 r) := by
        have e : Try.zeroCells98.setIfInBounds 0 (.int .i64 r) = (pgCells (page0 r)).toArray := by kernel_rfl
        rw [e]; rfl
      have hbD : Below wr.heap.size wr wr.drew := bdrewN (Below.refl _ wr) 1
      obtain ⟨x1, x2, t1, t2, X1, X1', X2, X3, X4, q1, qa, qs, q2, q3, q4, hMX, hGX, hKX⟩ := put_maps2 (n := f + (j : Int)) (hM.below hbD) hbD hM hp ho hrg (by show (A.mapN f r (j + 1)).ks.length ≤ 2000; omega) hcs (page0_ok ⟨h1, h2⟩)
      rw [show wr.drew.heap.size = wr.heap.size from rfl] at qs q2 hMX hGX
      obtain ⟨_, c1, c2, _, _, _⟩ := hM.cells
      rw [hp] at c1
      rw [ho] at c2
      obtain ⟨n1, n2, n3⟩ := hM.box_ne
      have hbl := hM.lt b (.inl rfl)
      have hKb := hK b (fun e => n2 (e ▸ hp)) (fun e => n3 (e ▸ ho)) (by have := hbV.size; omega)
      have hcell : ∀ (X : World) (o : Nat) (v : Value), X.heap[b]? = V.heap[b]? → wr.cell? ⟨b, o, none⟩ = some v → X.cell? ⟨b, o, none⟩ = some v := fun X o v e hc => by
        have := bkeep hbV hc
        simp only [World.cell?] at this ⊢
        rw [e]; exact this
      have hKx := hKX b (fun e => n2 (e ▸ hp)) (fun e => n3 (e ▸ ho)) hbl
      have hcelx : ∀ (X : World) (o : Nat) (v : Value), X.heap[b]? = wr.heap[b]? → wr.cell? ⟨b, o, none⟩ = some v → X.cell? ⟨b, o, none⟩ = some v := fun X o v e hc => by
        simp only [World.cell?] at hc ⊢
        rw [e]; exact hc
      have HX1 := Lib.hid (⟨hcelx X1 1 _ hKx.1 c1, hcelx X1 2 _ hKx.1 c2⟩ : X1.cell? ⟨b, 1, none⟩ = _ ∧ X1.cell? ⟨b, 2, none⟩ = _)
      have HX1' := Lib.hid (⟨hcelx X1' 1 _ hKx.2.1 c1, hcelx X1' 2 _ hKx.2.1 c2⟩ : X1'.cell? ⟨b, 1, none⟩ = _ ∧ X1'.cell? ⟨b, 2, none⟩ = _)
      have HX2 := Lib.hid (⟨hcelx X2 1 _ hKx.2.2.1 c1, hcelx X2 2 _ hKx.2.2.1 c2⟩ : X2.cell? ⟨b, 1, none⟩ = _ ∧ X2.cell? ⟨b, 2, none⟩ = _)
      have HX3 := Lib.hid (⟨hcelx X3 1 _ hKx.2.2.2.1 c1, hcelx X3 2 _ hKx.2.2.2.1 c2⟩ : X3.cell? ⟨b, 1, none⟩ = _ ∧ X3.cell? ⟨b, 2, none⟩ = _)
      have HX4 := Lib.hid (⟨hcelx X4 1 _ hKx.2.2.2.2 c1, hcelx X4 2 _ hKx.2.2.2.2 c2⟩ : X4.cell? ⟨b, 1, none⟩ = _ ∧ X4.cell? ⟨b, 2, none⟩ = _)
      have HTX := Lib.hid (touch_any X4 b _ _ (f + (j : Int)) hMX hrg)
      have HGX := Lib.hid (hG.trans hGX)
      have HC0 := Lib.hid (⟨hcell V 1 _ rfl c1, hcell V 2 _ rfl c2⟩ : V.cell? ⟨b, 1, none⟩ = _ ∧ V.cell? ⟨b, 2, none⟩ = _)
      have HC1 := Lib.hid (⟨hcell V1 1 _ hKb.1 c1, hcell V1 2 _ hKb.1 c2⟩ : V1.cell? ⟨b, 1, none⟩ = _ ∧ V1.cell? ⟨b, 2, none⟩ = _)
      have HC2 := Lib.hid (⟨hcell V2 1 _ hKb.2.1 c1, hcell V2 2 _ hKb.2.1 c2⟩ : V2.cell? ⟨b, 1, none⟩ = _ ∧ V2.cell? ⟨b, 2, none⟩ = _)
      have HC3 := Lib.hid (⟨hcell V3 1 _ hKb.2.2.1 c1, hcell V3 2 _ hKb.2.2.1 c2⟩ : V3.cell? ⟨b, 1, none⟩ = _ ∧ V3.cell? ⟨b, 2, none⟩ = _)
      have HC4 := Lib.hid (⟨hcell V4 1 _ hKb.2.2.2 c1, hcell V4 2 _ hKb.2.2.2 c2⟩ : V4.cell? ⟨b, 1, none⟩ = _ ∧ V4.cell? ⟨b, 2, none⟩ = _)
      have HT := Lib.hid (touch_any V4 b _ _ (f + (j : Int)) hM4 hrg)
      have HG := Lib.hid (hG.trans hG4)
      have HP5 := Lib.hid hp
      have HO5 := Lib.hid ho
      clear hM hG hM4 hG4 hK hKb hcell hbV hpg hpl hlen hp ho n1 n2 n3 hI hMX hGX hKX hKx hcelx hcs hbD hbl
      go_wp2_with fail
      go_region_held3 (fun w' => w'.cell? ⟨b, 1, none⟩ = some (.map (some kp)) ∧ w'.cell? ⟨b, 2, none⟩ = some (.map (some ko))) (first | exact ⟨c1, c2⟩ | exact HC0.out | exact HC1.out | exact HC2.out | exact HC3.out | exact HC4.out | exact HX1.out | exact HX1'.out | exact HX2.out | exact HX3.out | exact HX4.out) (fail)
      · go_wp2_with fail
        refine HT.out.mono ?_
        rintro e W5 ⟨rfl, ht⟩
        have HE := Lib.hid ht
        clear ht
        go_wp2_with fail
        go_roundw
        case rel =>
          obtain ⟨bc, hmm, hww⟩ := HE.out.ex
          exact ⟨j + 1, by omega, by go_num, { (S'.put (f + (j : Int)) wr.heap.size) with bc := bc }, Lib.hid ⟨HP5.out, HO5.out, hmm, HG.out.trans hww⟩⟩
        case measure => simp [intOf]; omega
      · go_wp2_with fail
        refine HTX.out.mono ?_
        rintro e W5 ⟨rfl, ht⟩
        have HE := Lib.hid ht
        clear ht
        go_wp2_with fail
        go_roundw
        case rel =>
          obtain ⟨bc, hmm, hww⟩ := HE.out.ex
          exact ⟨j + 1, by omega, by go_num, { (S'.put (f + (j : Int)) wr.heap.size) with bc := bc }, Lib.hid ⟨HP5.out, HO5.out, hmm, HGX.out.trans hww⟩⟩
        case measure => simp [intOf]; omega
    · obtain rfl : n = (j : Int) := by omega
      have hI' := Lib.hid (show OpE w1 b S A (A.mapN f r j) wr from ⟨S', hI.out.2.2.1, hI.out.2.2.2⟩)
      clear hI
      go_wp2_with fail
      go_ret
      obtain ⟨S2, a1, a2⟩ := hI'.out.ex
      exact ⟨rfl, ⟨S2, a1, (Went.of_below HB.out b S A.ks).trans a2⟩⟩
end Go.Proofs.Ytidojcogojchpaa

/- mem: Protect. -/
set_option linter.unusedVariables false
set_option linter.unusedSimpArgs false
namespace Go.Proofs.Ytidojcogojchpaa
open Go.RowKit

def PM.prot1 (A : PM) (r x : Int) : PM := { A with pg := updPg A.pg x ⟨r, (A.pg x).bs⟩, cg := insI A.cg x }
def PM.protL (A : PM) (r : Int) (L : List Int) : PM := L.foldl (fun A x => A.prot1 r x) A
theorem protL_ks (r : Int) : ∀ (L : List Int) (A : PM), (A.protL r L).ks = A.ks
  | [], _ => rfl
  | x :: L, A => by show ((A.prot1 r x).protL r L).ks = A.ks; rw [protL_ks r L]; rfl
theorem protL_snoc (A : PM) (r x : Int) (L : List Int) : A.protL r (L ++ [x]) = (A.protL r L).prot1 r x := by simp [PM.protL]
theorem setCell_row {W : World} {p j : Nat} {cs : Array Value} {t : TypeId} {fr : Nat × Nat} (h : W.heap[p]? = some (.cells cs t fr)) (v : Value) : (W.setCell ⟨p, j, none⟩ v).heap[p]? = some (.cells (cs.setIfInBounds j v) t fr) := by
  obtain ⟨hq, e⟩ := Array.getElem?_eq_some_iff.1 h
  simp [World.setCell, e, hq, Array.getElem_modify, Array.getElem?_modify]
theorem pg_setr {W : World} {p : Nat} {g : Pg} (h : W.heap[p]? = some (pgObj g)) (r : Int) : (W.setCell ⟨p, 0, none⟩ (.int .i64 r)).heap[p]? = some (pgObj ⟨r, g.bs⟩) := by
  rw [setCell_row h]
  simp [pgObj, pgCells]
theorem inL_sub {ks : List Int} {f n x : Int} (h : x ∈ inL ks f n) : x ∈ ks ∧ f ≤ x ∧ x < f + n := by
  have := List.mem_filter.1 h
  simpa using this
/-- The list of pages stays while the memory is written. -/
theorem WinI.stays {W w1 wr : World} {b : Nat} {S S' : MS} {A : PM} {ks' L : List Int} {v : Value} (hI : WinI W L v w1) (h : MemIs W b S A) (hG : Went w1 wr b S A.ks S' ks') : wr.ownsRow W.heap.size 3 1 v L.length (nums .i64 L) :=
  own_upd hI.row hG.upd fun k hk hf => by
    have h1 := (hI.row.lt k hk).1
    have h2 := h.lt k (h.foot_reads k hf)
    omega
theorem take_gi (L : List Int) (j : Nat) (hj : j < L.length) : L.take (j + 1) = L.take j ++ [gi L j] := by
  rw [List.take_succ_eq_append_getElem hj, gi_get L j hj]
set_option maxRecDepth 100000 in
set_option maxHeartbeats 1000000 in
theorem Protect_nil (W : World) (a b c : Int) : Calls Try.prog 30 #[.pointer none, .int .i64 a, .int .i64 b, .int .i64 c] W fun e w' => e = .returned (.int .i64 5) ∧ W = w' := by
  go_enter Try.func30, Try.ntmps30
  go_wp2
  go_ret
  exact ⟨rfl, rfl⟩
set_option maxRecDepth 100000 in
set_option maxHeartbeats 1000000 in
theorem Protect_arg (W : World) (b : Nat) (S : MS) (A : PM) (f n r : Int) (h : MemIs W b S A) (hb : withinB f n = false ∨ r < 0 ∨ 7 < r) :
    Calls Try.prog 30 #[.pointer (some ⟨b, 0, none⟩), .int .i64 f, .int .i64 n, .int .i64 r] W fun e w' => e = .returned (.int .i64 1) ∧ Below W.heap.size W w' := by
  cases hw : withinB f n
  · have HW := Lib.hid (within_bad W (some ⟨b, 0, none⟩) f n hw)
    clear h hb hw
    go_enter Try.func30, Try.ntmps30
    go_wp2_with fail
    refine HW.out.mono ?_
    rintro e w1 ⟨rfl, rfl⟩
    go_wp2_with fail
    go_ret
    exact ⟨rfl, Below.refl _ _⟩
  · have HW := Lib.hid (within_ok W b S A f n h hw)
    have hr : r < 0 ∨ (0 ≤ r ∧ 7 < r) := by
      rcases hb with h1 | h1 | h1
      · rw [hw] at h1; cases h1
      · exact .inl h1
      · exact .inr ⟨by omega, h1⟩
    clear h hb hw
    rcases hr with h1 | ⟨h1, h2⟩
    all_goals
      go_enter Try.func30, Try.ntmps30
      go_wp2_with fail
      refine HW.out.mono ?_
      rintro e w1 ⟨c, g, rfl, hI⟩
      have HB := Lib.hid hI.below
      clear hI
      go_wp2_with fail
      go_ret
      exact ⟨rfl, HB.out⟩
set_option maxRecDepth 100000 in
set_option maxHeartbeats 1000000 in
theorem Protect_there (W : World) (b : Nat) (S : MS) (A : PM) (f n r : Int) (h : MemIs W b S A) (hw : withinB f n = true) (h1 : 0 ≤ r) (h2 : r ≤ 7) (hb : ((inL A.ks f n).length : Int) ≠ n) :
    Calls Try.prog 30 #[.pointer (some ⟨b, 0, none⟩), .int .i64 f, .int .i64 n, .int .i64 r] W fun e w' => e = .returned (.int .i64 5) ∧ Below W.heap.size W w' := by
  have HW := Lib.hid (within_ok W b S A f n h hw)
  have hl : (((inL A.ks f n).length : Int) != n) = true := by simpa using hb
  have hl2 : decide (((inL A.ks f n).length : Int) = n) = false := decide_eq_false hb
  clear h hw hb
  go_enter Try.func30, Try.ntmps30
  go_wp2_with fail
  refine HW.out.mono ?_
  rintro e w1 ⟨c, g, rfl, hI⟩
  have HB := Lib.hid hI.below
  clear hI
  go_wp2_with fail
  go_ret
  exact ⟨rfl, HB.out⟩
set_option maxRecDepth 100000 in
set_option maxHeartbeats 4000000 in
theorem Protect_ok (W : World) (b : Nat) (S : MS) (A : PM) (f n r : Int) (h : MemIs W b S A) (hw : withinB f n = true) (h1 : 0 ≤ r) (h2 : r ≤ 7) (hb : ((inL A.ks f n).length : Int) = n) :
    Calls Try.prog 30 #[.pointer (some ⟨b, 0, none⟩), .int .i64 f, .int .i64 n, .int .i64 r] W fun e w' => e = .returned (.int .i64 0) ∧ OpE W b S A (A.protL r (inL A.ks f n)) w' := by
  have HW := Lib.hid (within_ok W b S A f n h hw)
  have H := Lib.hid h
  have HS := Lib.hid (show ∀ x ∈ inL A.ks f n, x ∈ A.ks from fun x hx => (inL_sub hx).1)
  have hll := inL_le A.ks f n
  have hle := h.le
  obtain ⟨L, hL⟩ : ∃ L, inL A.ks f n = L := ⟨_, rfl⟩
  rw [hL] at HW HS hb hll ⊢
  clear h hw hL
  go_enter Try.func30, Try.ntmps30
  go_wp2_with fail
  refine HW.out.mono ?_
  rintro e w1 ⟨c, g, rfl, hI⟩
  have HB := Lib.hid hI.below
  have HM1 := Lib.hid (H.out.below hI.below)
  have HI := Lib.hid hI
  clear hI
  subst hb
  go_wp2_with fail
  go_loopw [38] (fun i wr => ∃ j : Nat, j ≤ L.length ∧ i = .int .i64 (j : Int) ∧ ∃ S', Hid (MemIs wr b S' (A.protL r (L.take j)) ∧ Went w1 wr b S A.ks S' (A.protL r (L.take j)).ks)) (fun i _ => L.length - (intOf i).toNat)
  case atStart => exact ⟨0, Nat.zero_le _, rfl, S, Lib.hid ⟨HM1.out, Went.refl _ _ _ _⟩⟩
  case round =>
    obtain ⟨j, hj, rfl, S', hJ⟩ := hrel
    by_cases hlt : j < L.length
    · obtain ⟨hM, hG⟩ := hJ.out
      obtain ⟨ad, e1, hc⟩ := RdI.at (own_rdC (HI.out.stays H.out hG)) j hlt
      obtain rfl : g = some ad := e1
      have hx : gi L j ∈ A.ks := HS.out _ (gi_mem L j hlt)
      have htk := take_gi L j hlt
      obtain ⟨x, hxe⟩ : ∃ x, gi L j = x := ⟨_, rfl⟩
      rw [hxe] at hc hx htk
      have HC := Lib.hid (change_any wr b S' _ x hM (by rw [protL_ks]; exact hx))
      have HT := Lib.hid htk
      have HG := Lib.hid hG
      have HX := Lib.hid hx
      clear hM hG hJ htk hxe hx
      go_wp2_with fail
      refine HC.out.mono ?_
      rintro e w2 ⟨p, rfl, hch⟩
      obtain ⟨S2, hM2, hG2, hat, hown⟩ := hch.ex
      subst hat
      obtain ⟨hp, hok⟩ := hM2.page x (hM2.sub x hown)
      obtain ⟨_, _, f0⟩ := pg_cells hp
      have q0 := (pg_cells hp).1
      have f0 := f0 0
      have hset := pg_setr hp r
      obtain ⟨W3, hW3⟩ : ∃ W3, w2.setCell ⟨S2.at_ x, 0, none⟩ (.int .i64 r) = W3 := ⟨_, rfl⟩
      rw [hW3] at hset
      have hu3 : Upd (fun k => k = S2.at_ x) w2 W3 := by rw [← hW3]; exact Upd.setCell w2 ⟨S2.at_ x, 0, none⟩ _
      obtain ⟨hM3, hG3⟩ := hM2.page1 hown hu3 hset ⟨hok.len, hok.u8, h1, h2⟩
      have HE := Lib.hid (show MemIs W3 b S2 (A.protL r (L.take j ++ [x])) ∧ Went w1 W3 b S A.ks S2 (A.protL r (L.take j ++ [x])).ks by rw [protL_snoc]; exact ⟨hM3, (HG.out.trans hG2).trans hG3⟩)
      clear hM2 hG2 hown hp hok hset hu3 hM3 hG3 hch
      go_wp2_with fail
      go_roundw
      case rel => exact ⟨j + 1, by omega, by go_num, S2, Lib.hid (by rw [HT.out]; exact HE.out)⟩
      case measure => simp [intOf]; omega
    · obtain rfl : j = L.length := by omega
      have hI' := Lib.hid (show OpE w1 b S A (A.protL r L) wr from ⟨S', by have := hJ.out.1; rwa [List.take_length] at this, by have := hJ.out.2; rwa [List.take_length] at this⟩)
      clear hJ
      go_wp2_with fail
      go_ret
      obtain ⟨S2, a1, a2⟩ := hI'.out.ex
      exact ⟨rfl, ⟨S2, a1, (Went.of_below HB.out b S A.ks).trans a2⟩⟩
end Go.Proofs.Ytidojcogojchpaa
