/- Part 1 of the texts that the proof stands on: Base, Bits, PredA, Row, SlC, Repeat, SlA, SlD, SlI, Front, Lines, CacheW, Cch, CchN, Owned, Round. -/
import Derived.Test.YtdkacdfhapgboaaProg
import Derived.WalkKit
import Derived.WalkSpells
import Derived.WalkLawsBesides
import Derived.KernelRfl
import Derived.Lib.Hide
import Derived.StillTailTactics
import Derived.Lib.AppendZerosOnto
import Derived.Lib.Overlaps
import Derived.Laws.Externs
import Derived.Laws.CopyOwn
import Derived.Deep.QuietTactic
import Derived.BigQuiet
import Derived.Laws.Bits64b
import Derived.Laws.OwnMore
import Derived.RegionTactic
import Derived.ChangeAlike
import Derived.BigRegion
import Derived.Deep.AppendLies
import Derived.RangeFuncNested
import Derived.RangeFuncBound
import Derived.RangeFuncCalls
import Derived.RangeFuncLeaves
import Derived.RangeFuncBox
import Derived.Shelf.Abstract
import Derived.Shelf.RegionOpen
import Derived.OwnWalkIn
import Derived.TacticsInMore
import Derived.LoopNIn
import Derived.LoopIn
import Derived.Sort.QuietIn
import Derived.OwnWalk
import Derived.Laws.Rows
import Derived.Deep.RegionHeld3

/- Words on memory that all texts of this seat share: how a slice's cells are read; what stays as it was. -/
namespace Go.Proofs.Ytdkacdfhapgboaa
open Go.RowKit

/-! ### What stays as it was -/
theorem bvia {B : Nat} {w w1 w2 : World} (h : Below B w w1) (k : Below w1.heap.size w1 w2) (hB : B ≤ w.heap.size) : Below B w w2 :=
  h.trans (k.mono (Nat.le_trans hB h.size))
theorem balloc (w : World) (o : Obj) : Below w.heap.size w (w.alloc o) := (Below.refl _ _).alloc (Nat.le_refl _) _
theorem bcell {W w1 : World} (hb : Below W.heap.size W w1) : (∀ b o, b < W.heap.size → w1.cell? ⟨b, o, none⟩ = W.cell? ⟨b, o, none⟩) ∧ (∀ b o, b < W.heap.size → w1.frozen? ⟨b, o, none⟩ = W.frozen? ⟨b, o, none⟩) :=
  ⟨fun b o h => hb.cell (p := ⟨b, o, none⟩) h, fun b o h => hb.frozen (p := ⟨b, o, none⟩) h⟩
theorem bkeep {w w1 : World} (h : Below w.heap.size w w1) {a : Addr} {v : Value} (hc : w.cell? a = some v) : w1.cell? a = some v := (h.cell (World.block_lt_of_cell? w a hc)).trans hc

/-! ### Reading a slice: 'cs' are the cells of its elements -/
structure Rd (w : World) (A : Option Addr) (n sz : Nat) (cs : List Value) : Prop where
  len : cs.length = n * sz
  le : n ≤ 9223372036854775807
  cell : ∀ j (h : j < cs.length), ∃ ad, A = some ad ∧ w.cell? (ad.add j) = some cs[j]

theorem Rd.below {w w1 : World} {A : Option Addr} {n sz : Nat} {cs : List Value} (h : Rd w A n sz cs) (hb : Below w.heap.size w w1) : Rd w1 A n sz cs :=
  ⟨h.len, h.le, fun j hj => let ⟨ad, e, hc⟩ := h.cell j hj; ⟨ad, e, bkeep hb hc⟩⟩

/-- Element i of a list of numbers, 0 behind its end (a word that the walk's simp does not open). -/
def gi (xs : List Int) (i : Nat) : Int := xs.getD i 0
def gb (xs : List Bool) (i : Nat) : Bool := xs.getD i false
theorem gi_get (xs : List Int) (i : Nat) (h : i < xs.length) : gi xs i = xs[i] := by simp [gi, List.getD_eq_getElem?_getD, List.getElem?_eq_getElem h]
theorem gb_get (xs : List Bool) (i : Nat) (h : i < xs.length) : gb xs i = xs[i] := by simp [gb, List.getD_eq_getElem?_getD, List.getElem?_eq_getElem h]
theorem gi_mem (xs : List Int) (i : Nat) (h : i < xs.length) : gi xs i ∈ xs := by rw [gi_get xs i h]; exact List.getElem_mem h
def nums (k : IntKind) (xs : List Int) : List Value := xs.map (Value.int k)
def bools (xs : List Bool) : List Value := xs.map Value.bool
@[simp] theorem nums_length (k : IntKind) (xs : List Int) : (nums k xs).length = xs.length := by simp [nums]
@[simp] theorem bools_length (xs : List Bool) : (bools xs).length = xs.length := by simp [bools]
theorem nums_append (k : IntKind) (xs ys : List Int) : nums k (xs ++ ys) = nums k xs ++ nums k ys := by simp [nums]
theorem nums_get (k : IntKind) (xs : List Int) (j : Nat) (h : j < (nums k xs).length) : (nums k xs)[j] = .int k (gi xs j) := by
  have h' : j < xs.length := by simpa using h
  simp [nums, gi, List.getD_eq_getElem?_getD, List.getElem?_eq_getElem h']
theorem bools_get (xs : List Bool) (j : Nat) (h : j < (bools xs).length) : (bools xs)[j] = .bool (gb xs j) := by
  have h' : j < xs.length := by simpa using h
  simp [bools, gb, List.getD_eq_getElem?_getD, List.getElem?_eq_getElem h']

abbrev RdI (w : World) (k : IntKind) (A : Option Addr) (n : Nat) (xs : List Int) : Prop := Rd w A n 1 (nums k xs)
theorem RdI.length {w : World} {k : IntKind} {A : Option Addr} {n : Nat} {xs : List Int} (h : RdI w k A n xs) : xs.length = n := by
  have := h.len; simpa using this
theorem RdI.at {w : World} {k : IntKind} {A : Option Addr} {n : Nat} {xs : List Int} (h : RdI w k A n xs) (i : Nat) (hi : i < n) :
    ∃ ad, A = some ad ∧ w.cell? (ad.add i) = some (.int k (gi xs i)) := by
  obtain ⟨ad, e, hc⟩ := h.cell i (by have := h.length; simp; omega)
  exact ⟨ad, e, by rw [hc, nums_get]⟩
abbrev RdB (w : World) (A : Option Addr) (n : Nat) (xs : List Bool) : Prop := Rd w A n 1 (bools xs)
theorem RdB.length {w : World} {A : Option Addr} {n : Nat} {xs : List Bool} (h : RdB w A n xs) : xs.length = n := by
  have := h.len; simpa using this
theorem RdB.at {w : World} {A : Option Addr} {n : Nat} {xs : List Bool} (h : RdB w A n xs) (i : Nat) (hi : i < n) :
    ∃ ad, A = some ad ∧ w.cell? (ad.add i) = some (.bool (gb xs i)) := by
  obtain ⟨ad, e, hc⟩ := h.cell i (by have := h.length; simp; omega)
  exact ⟨ad, e, by rw [hc, bools_get]⟩
theorem bdrewN {B : Nat} {w W : World} (h : Below B w W) (n : Nat) : Below B w (W.drewN n) := ⟨h.os, h.tape, h.output, h.size, h.block⟩
/-- Two lists of one length are equal just where all their places are. -/
theorem gi_ext {xs ys : List Int} (hl : xs.length = ys.length) (h : ∀ j, j < xs.length → gi xs j = gi ys j) : xs = ys :=
  List.ext_getElem hl fun j h1 h2 => by have := h j h1; rwa [gi_get xs j h1, gi_get ys j h2] at this
theorem gb_ext {xs ys : List Bool} (hl : xs.length = ys.length) (h : ∀ j, j < xs.length → gb xs j = gb ys j) : xs = ys :=
  List.ext_getElem hl fun j h1 h2 => by have := h j h1; rwa [gb_get xs j h1, gb_get ys j h2] at this
/-- The first places of a slice. -/
theorem Rd.take {w : World} {A : Option Addr} {n sz : Nat} {cs : List Value} (h : Rd w A n sz cs) (m : Nat) (hm : m ≤ n) : Rd w A m sz (cs.take (m * sz)) := by
  have hl := h.len
  have h1 : m * sz ≤ n * sz := Nat.mul_le_mul_right _ hm
  refine ⟨by simp; omega, by have := h.le; omega, fun j hj => ?_⟩
  have hj' : j < cs.length := by simp at hj; omega
  obtain ⟨ad, e, hc⟩ := h.cell j hj'
  exact ⟨ad, e, by rw [hc]; simp⟩
theorem RdI.take {w : World} {k : IntKind} {A : Option Addr} {n : Nat} {xs : List Int} (h : RdI w k A n xs) (m : Nat) (hm : m ≤ n) : RdI w k A m (xs.take m) := by
  have := Rd.take h m hm
  have e : nums k (xs.take m) = (nums k xs).take (m * 1) := by simp [nums, List.map_take]
  unfold RdI
  rw [e]
  exact this

/-! ### What the call owns can be read -/
theorem own_rd {w : World} {base n : Nat} {e : TypeId} {sz : Nat} {v : Value} {cs : List Value} (h : w.ownsRow base e sz v n cs) : ∃ A c, v = .slice A n c ∧ Rd w A n sz cs := by
  rcases h.2 with ⟨rfl, rfl⟩ | ⟨g, cap, cur, rfl, hb, hh, h1, h2, h3, h4⟩
  · exact ⟨none, 0, rfl, h.1, by omega, fun j hj => by have := h.1; omega⟩
  · refine ⟨_, cap, rfl, h.1, by simp only [maxLen] at h2; omega, fun j hj => ⟨_, rfl, ?_⟩⟩
    exact h.cells (g := g) rfl j _ (List.getElem?_eq_getElem hj)
end Go.Proofs.Ytdkacdfhapgboaa

/- bits.OnesCount and sim.power: what they return. -/
namespace Go.Proofs.Ytdkacdfhapgboaa
open Go.RowKit

/-! the steps of bits.OnesCount64 -/
def on1 (x : Int) : Int := IntKind.u64.wrap (bits BinOp.and IntKind.u64 (x / 2) 6148914691236517205 + bits BinOp.and IntKind.u64 x 6148914691236517205)
def on2 (x : Int) : Int := IntKind.u64.wrap (bits BinOp.and IntKind.u64 (x / 4) 3689348814741910323 + bits BinOp.and IntKind.u64 x 3689348814741910323)
def on3 (x : Int) : Int := bits BinOp.and IntKind.u64 (IntKind.u64.wrap (x / 16 + x)) 1085102592571150095
def on4 (x : Int) : Int := IntKind.u64.wrap (x + x / 256)
def on5 (x : Int) : Int := IntKind.u64.wrap (x + x / 65536)
def on6 (x : Int) : Int := IntKind.u64.wrap (x + x / 4294967296)
def ones (x : Int) : Int := bits BinOp.and IntKind.i64 (wrap64 (on6 (on5 (on4 (on3 (on2 (on1 x))))))) 127

set_option maxHeartbeats 400000 in
theorem ones64_any (x : Int) (w : World) : Calls Try.prog 111 #[.int .u64 x] w fun e w' => e = .returned (.int .i64 (ones x)) ∧ w = w' := by
  go_enter Try.func111, Try.ntmps111
  go_wp2
  go_ret
  exact ⟨rfl, rfl⟩

set_option maxHeartbeats 400000 in
theorem ones_any (x : Int) (w : World) : Calls Try.prog 102 #[.int .u64 x] w fun e w' => e = .returned (.int .i64 (ones x)) ∧ w = w' := by
  go_enter Try.func102, Try.ntmps102
  go_wp2_with (go_at_call 111; refine (ones64_any _ _).mono ?_; rintro e w' ⟨rfl, rfl⟩)
  go_ret
  exact ⟨rfl, rfl⟩

def powerB (n least most : Int) : Bool := decide (least ≤ n) && (decide (n ≤ most) && (ones (IntKind.u64.wrap n) == 1))
set_option maxHeartbeats 400000 in
theorem power_any (n least most : Int) (w : World) : Calls Try.prog 93 #[.int .i64 n, .int .i64 least, .int .i64 most] w fun e w' => e = .returned (.bool (powerB n least most)) ∧ w = w' := by
  cases h1 : decide (least ≤ n) <;> cases h2 : decide (n ≤ most)
  all_goals
    go_enter Try.func93, Try.ntmps93
    go_wp2_with (go_at_call 102; refine (ones_any _ _).mono ?_; rintro e w' ⟨rfl, rfl⟩)
    go_ret
    exact ⟨by simp [powerB, h1, h2], rfl⟩

/-- A cache's shape. -/
def shapeB (a b c : Int) : Bool := powerB a 4 256 && (powerB b 1 1024 && (decide (1 ≤ c) && decide (c ≤ 16)))
set_option maxHeartbeats 400000 in
theorem shape_any (a b c : Int) (w : World) : Calls Try.prog 72 #[.agg #[.int .i64 a, .int .i64 b, .int .i64 c]] w fun e w' => e = .returned (.bool (shapeB a b c)) ∧ Below w.heap.size w w' := by
  cases h1 : powerB a 4 256 <;> cases h2 : powerB b 1 1024 <;> cases h3 : decide (1 ≤ c) <;> cases h4 : decide (c ≤ 16)
  all_goals
    go_enter Try.func72, Try.ntmps72
    go_wp2_with (go_at_call 93; refine (power_any _ _ _ _).mono ?_; rintro e w' ⟨rfl, rfl⟩)
    go_ret
    exact ⟨by simp [shapeB, h1, h2, h3, h4], (Below.refl _ _).alloc (Nat.le_refl _) _⟩
def predShapeB (a b c : Int) : Bool := decide (0 ≤ a) && (decide (a ≤ 12) && (decide (0 ≤ b) && (decide (b ≤ 12) && (decide (0 ≤ c) && decide (c ≤ 32)))))
set_option maxHeartbeats 400000 in
theorem predShape_any (a b c : Int) (w : World) : Calls Try.prog 44 #[.agg #[.int .i64 a, .int .i64 b, .int .i64 c]] w fun e w' => e = .returned (.bool (predShapeB a b c)) ∧ Below w.heap.size w w' := by
  cases h1 : decide (0 ≤ a) <;> cases h2 : decide (a ≤ 12) <;> cases h3 : decide (0 ≤ b) <;> cases h4 : decide (b ≤ 12) <;> cases h5 : decide (0 ≤ c) <;> cases h6 : decide (c ≤ 32)
  all_goals
    go_enter Try.func44, Try.ntmps44
    go_wp2
    go_ret
    exact ⟨by simp [predShapeB, h1, h2, h3, h4, h5, h6], (Below.refl _ _).alloc (Nat.le_refl _) _⟩
set_option maxHeartbeats 400000 in
theorem number_any (b : Bool) (w : World) : Calls Try.prog 69 #[.bool b] w fun e w' => e = .returned (.int .i64 (if b then 0 else 330)) ∧ w = w' := by
  cases b
  all_goals
    go_enter Try.func69, Try.ntmps69
    go_wp2
    go_ret
    exact ⟨rfl, rfl⟩
set_option maxHeartbeats 400000 in
theorem checkShape_any (a b c : Int) (w : World) : Calls Try.prog 34 #[.agg #[.int .i64 a, .int .i64 b, .int .i64 c]] w fun e w' => e = .returned (.int .i64 (if shapeB a b c then 0 else 330)) ∧ Below w.heap.size w w' := by
  cases h : shapeB a b c
  all_goals
    go_enter Try.func34, Try.ntmps34
    go_wp2_with (first | (go_at_call 72; refine (shape_any _ _ _ _).mono ?_; rintro e w' ⟨rfl, hb⟩; rw [h]) | (go_at_call 69; refine (number_any _ _).mono ?_; rintro e w' ⟨rfl, rfl⟩))
    go_ret
    exact ⟨rfl, bvia (balloc w _) hb (Nat.le_refl _)⟩
end Go.Proofs.Ytdkacdfhapgboaa

/- slices.IndexFunc, ContainsFunc at []int with the test of sim.pred. -/
set_option linter.unusedVariables false
set_option linter.unusedSimpArgs false
namespace Go.Proofs.Ytdkacdfhapgboaa
open Go.RowKit

def badN (x : Int) : Bool := decide (x < 0) || decide (3 < x)
set_option maxHeartbeats 400000 in
theorem pred1_any (x : Int) (w : World) : Calls Try.prog 76 #[.int .i64 x] w fun e w' => e = .returned (.bool (badN x)) ∧ w = w' := by
  cases h1 : decide (x < 0) <;> cases h2 : decide (3 < x)
  all_goals
    go_enter Try.func76, Try.ntmps76
    go_wp2
    go_ret
    exact ⟨by simp [badN, h1, h2], rfl⟩

def badAt (xs : List Int) : Nat → Int
  | 0 => if badN (gi xs 0) then 0 else -1
  | k + 1 => badAt xs k
/-- The first bad place, -1: none. -/
def badI (xs : List Int) : Int := if xs.any badN then (xs.findIdx badN : Int) else -1
theorem badI_at (xs : List Int) (k : Nat) (hk : k < xs.length) (h : ∀ j, j < k → badN (gi xs j) = false) (hx : badN (gi xs k) = true) : badI xs = k := by
  have ha : xs.any badN = true := List.any_eq_true.2 ⟨_, gi_mem xs k hk, hx⟩
  unfold badI
  rw [if_pos ha]
  have : xs.findIdx badN = k := by
    rw [List.findIdx_eq hk]
    rw [gi_get xs k hk] at hx
    exact ⟨hx, fun j hj => by have := h j hj; rwa [gi_get xs j (by omega)] at this⟩
  rw [this]
theorem badI_none (xs : List Int) (h : ∀ j, j < xs.length → badN (gi xs j) = false) : badI xs = -1 := by
  unfold badI
  rw [if_neg]
  intro ha
  obtain ⟨x, hm, hx⟩ := List.any_eq_true.1 ha
  obtain ⟨j, hj, e⟩ := List.getElem_of_mem hm
  have := h j hj
  rw [gi_get xs j hj, e, hx] at this
  cases this
theorem badI_nonneg (xs : List Int) : decide (0 ≤ badI xs) = xs.any badN := by
  unfold badI
  cases h : xs.any badN <;> simp

set_option maxHeartbeats 400000 in
theorem indexFunc_pred (A : Option Addr) (n c : Nat) (xs : List Int) (w : World) (h : RdI w .i64 A n xs) :
    Calls Try.prog 98 #[.slice A n c, .func (.func 76) #[] #[]] w fun e w' => e = .returned (.int .i64 (badI xs)) ∧ w = w' := by
  have hle := h.le
  have H := Lib.hid h
  clear h
  go_enter Try.func98, Try.ntmps98
  go_wp2
  go_loop [8] (fun i => ∃ k : Nat, k ≤ n ∧ i = .int .i64 k ∧ Hid (∀ j, j < k → badN (gi xs j) = false)) (fun i => n - (intOf i).toNat)
  case atStart => exact ⟨0, Nat.zero_le _, rfl, Lib.hid (fun j hj => absurd hj (Nat.not_lt_zero _))⟩
  case round =>
    obtain ⟨k, hk, rfl, hne⟩ := hrel
    by_cases hlt : k < n
    · obtain ⟨ad, rfl, hc⟩ := RdI.at H.out k hlt
      cases hx : badN (gi xs k)
      · go_wp2_with (go_at_call 76; refine (pred1_any _ _).mono ?_; rintro e w' ⟨rfl, rfl⟩; rw [hx])
        go_round
        case rel => exact ⟨k + 1, by omega, by go_num, fun j hj => by rcases Nat.lt_succ_iff_lt_or_eq.1 hj with h | rfl; exact hne.out j h; exact hx⟩
        case measure => simp [intOf]; omega
      · go_wp2_with (go_at_call 76; refine (pred1_any _ _).mono ?_; rintro e w' ⟨rfl, rfl⟩; rw [hx])
        go_ret
        refine ⟨?_, rfl⟩
        rw [badI_at xs k (by have := H.out.length; omega) hne.out hx]
        rfl
    · go_wp2
      go_ret
      refine ⟨?_, rfl⟩
      rw [badI_none xs (fun j hj => hne.out j (by have := H.out.length; omega))]
      rfl

set_option maxHeartbeats 400000 in
theorem containsFunc_pred (A : Option Addr) (n c : Nat) (xs : List Int) (w : World) (h : RdI w .i64 A n xs) :
    Calls Try.prog 77 #[.slice A n c, .func (.func 76) #[] #[]] w fun e w' => e = .returned (.bool (xs.any badN)) ∧ w = w' := by
  have H := Lib.hid h
  clear h
  have h1 := badI_nonneg xs
  cases h2 : xs.any badN
  all_goals
    rw [h2] at h1
    go_enter Try.func77, Try.ntmps77
    go_wp2_with (go_at_call 98; refine (indexFunc_pred _ _ _ xs _ H.out).mono ?_; rintro e w' ⟨rfl, rfl⟩)
    go_ret
    exact ⟨rfl, rfl⟩
end Go.Proofs.Ytdkacdfhapgboaa

/- Laws on a row of cells that the call owns: a beginning of it, clear, and copy inside it. -/
namespace Go.Proofs.Ytdkacdfhapgboaa
open Go.RowKit

/-- A run's equation is all that an operation without a guard wants. -/
theorem wpList_run {P : Program} {w w' : World} {ops : Array Oper} {rest : List Oper} {o : Oper} {a : Act} {Q : Exit → Act → World → Prop} {v : Value} (hgd : o.guard = none)
    (hrun : (execOp a.eval o).run P w = .ok (.value v) w') (h : wpList P ops Q rest (a.put o.dst v) w') : wpList P ops Q (o :: rest) a w := by
  refine wpList_plain hgd fun K hK => ?_
  unfold Oper.wp
  rw [hrun]
  exact hK _ _ h

theorem own_prefix {w : World} {B : Nat} {e : TypeId} {sz g n cap : Nat} {cs : List Value} (h : w.ownsRow B e sz (.slice (some ⟨g, 0, none⟩) n cap) n cs) (m : Nat) (hm : m ≤ n) :
    w.ownsRow B e sz (.slice (some ⟨g, 0, none⟩) m cap) m (cs.take (m * sz)) := by
  have hmn : m * sz ≤ n * sz := Nat.mul_le_mul_right _ hm
  rcases h.2 with ⟨hx, _⟩ | ⟨g', cap', cur, hx, hb, hh, h1, h2, h3, h4⟩
  · simp at hx
  · simp only [Value.slice.injEq, Option.some.injEq, Addr.mk.injEq, and_true, true_and] at hx
    obtain ⟨rfl, rfl⟩ := hx
    refine ⟨by have := h.1; simp; omega, .inr ⟨g, cap, cur, rfl, hb, hh, by omega, h2, h3, ?_⟩⟩
    rw [← h4, List.take_take, Nat.min_eq_left hmn]

/-- 'clear' of places behind the first n of a row of the call's own. -/
theorem run_clear_own {P : Program} {w : World} {B : Nat} {t ty e : TypeId} {i : TypeInfo} {z : Value} (ht : P.underlying t = some (.slice e)) (hi : P.info? e = some i) (hz : i.zero = some z) {sz : Nat} (hzs : z.cells.size = sz) (hz1 : ∀ v ∈ z.cells, v.oneCell' = true)
    {g n cap : Nat} {cs : List Value} (h : w.ownsRow B e sz (.slice (some ⟨g, 0, none⟩) n cap) n cs) (m c : Nat) (hm : n + m ≤ cap) :
    ∃ w', (Builtin.clear_ #[t] ty #[.slice (some ⟨g, n * sz, none⟩) m c]).run P w = .ok (.tuple #[]) w' ∧ w'.ownsRow B e sz (.slice (some ⟨g, 0, none⟩) n cap) n cs ∧ w.grownBy w' (some g) := by
  rcases h.2 with ⟨hx, _⟩ | ⟨g', cap', cur, hx, hb, hh, h1, h2, h3, h4⟩
  · simp at hx
  · simp only [Value.slice.injEq, Option.some.injEq, Addr.mk.injEq, and_true, true_and] at hx
    obtain ⟨rfl, rfl⟩ := hx
    by_cases h0 : m = 0
    · subst h0
      exact ⟨w, by simp [Builtin.clear_, run_underlying ht], h, World.grownBy.refl _ _⟩
    · have hl : ((Builtin.zeroCells z.cells m).toList).length = m * sz := by rw [Array.length_toList, size_zeroCells, hzs]
      have hle : n * sz + m * sz ≤ cap * sz := by rw [← Nat.add_mul]; exact Nat.mul_le_mul_right _ hm
      have hst := run_storeCells_at P g (n * sz) e (Builtin.zeroCells z.cells m).toList 0 cur w hh (by rw [hl]; omega) (by
        intro v hv
        simp only [Builtin.zeroCells, Array.toList_map, List.mem_map] at hv
        obtain ⟨j, hj, rfl⟩ := hv
        have hp : 0 < z.cells.size := by
          rcases Nat.eq_zero_or_pos z.cells.size with h0 | h0
          · simp [h0] at hj
          · exact h0
        have hlt := Nat.mod_lt j hp
        exact hz1 _ (by rw [getElem!_pos z.cells _ hlt]; exact Array.getElem_mem hlt))
      obtain ⟨m', rfl⟩ : ∃ m', m = m' + 1 := ⟨m - 1, by omega⟩
      generalize hnew : (cur.toList.take (n * sz + 0) ++ (Builtin.zeroCells z.cells (m' + 1)).toList ++ cur.toList.drop (n * sz + 0 + (Builtin.zeroCells z.cells (m' + 1)).toList.length)).toArray = new at hst
      refine ⟨w.setRow g new, ?_, ⟨h.1, .inr ⟨g, cap, new, rfl, hb, setRow_heap w g cur _ e _ hh, h1, h2, ?_, ?_⟩⟩, ⟨rfl, rfl, rfl, by simp, fun k _ hk => setRow_other w g k _ (fun e => hk (by simp [e]))⟩⟩
      · simp [Builtin.clear_, run_underlying ht, zeroValue, typeInfo, hi, hz, hst]
      · subst hnew
        simp only [Nat.add_zero, List.size_toArray, List.length_append, List.length_take, List.length_drop, hl, Array.length_toList]
        omega
      · subst hnew
        have hlt : n * sz ≤ cur.toList.length := by rw [Array.length_toList, h3]; omega
        simp only [Nat.add_zero, List.append_assoc]
        rw [List.take_append_of_le_length (by rw [List.length_take]; omega), List.take_take, Nat.min_self, h4]

/-- The builtins copy and append (and append of a make) where their run is known by an equation. -/
theorem wpList_copy_eq {P : Program} {w w' : World} {ops : Array Oper} {rest : List Oper} {o : Oper} {a : Act} {Q : Exit → Act → World → Prop} (hgd : o.guard = none) (d s : Operand) (t t' : TypeId)
    (ho : o.op = .call { callee := .builtin .copy, args := #[d, s], argTypes := #[t, t'] }) (v u : Value) (hd : a.eval d = v) (hs : a.eval s = u) {v' : Value}
    (hr : (Builtin.copy_ #[t, t'] o.type #[v, u]).run P w = .ok v' w') (h : wpList P ops Q rest (a.put o.dst v') w') : wpList P ops Q (o :: rest) a w :=
  wpList_run hgd (v := v') (w' := w') (by
    unfold execOp
    simp only [ho, resolve, invoke, builtin, Sem.run_bind, Sem.run_pure, Result.andThen_ok, List.map_toArray, List.map_cons, List.map_nil, hd, hs, hr]) h
theorem wpList_append_eq {P : Program} {w w' : World} {ops : Array Oper} {rest : List Oper} {o : Oper} {a : Act} {Q : Exit → Act → World → Prop} (hgd : o.guard = none) (d s : Operand) (t t' : TypeId)
    (ho : o.op = .call { callee := .builtin .append, args := #[d, s], argTypes := #[t, t'] }) (v u : Value) (hd : a.eval d = v) (hs : a.eval s = u) {v' : Value}
    (hr : (Builtin.append_ #[t, t'] o.type #[v, u]).run P w = .ok v' w') (h : wpList P ops Q rest (a.put o.dst v') w') : wpList P ops Q (o :: rest) a w :=
  wpList_run hgd (v := v') (w' := w') (by
    unfold execOp
    simp only [ho, resolve, invoke, builtin, Sem.run_bind, Sem.run_pure, Result.andThen_ok, List.map_toArray, List.map_cons, List.map_nil, hd, hs, hr]) h

/-- 'copy' onto a row, whatever an element's size. -/
theorem run_copy_onto {P : Program} {w : World} {dT sT ty e : TypeId} {i : TypeInfo} (ht : P.underlying dT = some (.slice e)) (hi : P.info? e = some i) {sz : Nat} (hsz : i.size = sz)
    {g o dLen dCap sLen sCap m : Nat} {a : Addr} {cur : Array Value} {t : TypeId} (hg : w.heap[g]? = some (.cells cur t (0, 0))) (news : List Value) (hm : Nat.min sLen dLen = m) (hl : news.length = m * sz)
    (hsrc : ∀ j v, news[j]? = some v → w.cell? (a.add j) = some v) (hfit : o + news.length ≤ cur.size) (h1 : ∀ v ∈ news, v.oneCell' = true) :
    (Builtin.copy_ #[dT, sT] ty #[.slice (some ⟨g, o, none⟩) dLen dCap, .slice (some a) sLen sCap]).run P w = .ok (goInt m) (w.setRow g (splice cur.toList o news).toArray) := by
  have hf := run_firstCells_some (P := P) w sz m a sLen sCap news hl hsrc
  have hst := run_storeCells_at P g o t news 0 cur w hg (by simpa using hfit) h1
  simp only [Nat.add_zero, List.append_assoc] at hst
  subst hm hsz
  simp [Builtin.copy_, run_underlying ht, Builtin.lenOf, sizeOf, typeInfo, hi, hf, hst, splice]

/-- Where n cells stand at the head of a list, m more put in at a place push the rest on. -/
theorem splice_insert {α : Type} (cur cs news : List α) (a : Nat) (ha : a ≤ cs.length) (hcs : cur.take cs.length = cs) (hfit : cs.length + news.length ≤ cur.length) :
    (splice (splice cur (a + news.length) (cs.drop a)) a news).take (cs.length + news.length) = cs.take a ++ (news ++ cs.drop a) := by
  have h1 : cur.take a = cs.take a := by rw [← hcs, List.take_take, Nat.min_eq_left ha]
  have hX : splice cur (a + news.length) (cs.drop a) = cur.take (a + news.length) ++ (cs.drop a ++ cur.drop (a + news.length + (cs.drop a).length)) := rfl
  rw [hX]
  have hl : (cur.take (a + news.length)).length = a + news.length := by rw [List.length_take]; omega
  have e1 : (cur.take (a + news.length) ++ (cs.drop a ++ cur.drop (a + news.length + (cs.drop a).length))).take a = cs.take a := by
    rw [List.take_append_of_le_length (by omega), List.take_take, Nat.min_eq_left (by omega), h1]
  have e2 : (cur.take (a + news.length) ++ (cs.drop a ++ cur.drop (a + news.length + (cs.drop a).length))).drop (a + news.length) = cs.drop a ++ cur.drop (a + news.length + (cs.drop a).length) := by
    rw [List.drop_append_of_le_length (by omega), List.drop_of_length_le (by omega), List.nil_append]
  unfold splice
  rw [e1, e2, ← List.append_assoc, ← List.append_assoc, List.take_append_of_le_length (by simp; omega), List.take_of_length_le (by simp; omega), List.append_assoc]

theorem own_caps {w : World} {B : Nat} {e : TypeId} {sz g n c : Nat} {cs : List Value} (h : w.ownsRow B e sz (.slice (some ⟨g, 0, none⟩) n c) n cs) : n ≤ c ∧ c ≤ 9223372036854775807 := by
  rcases h.2 with ⟨hx, _⟩ | ⟨g', cap', cur, hx, hb, hh, h1, h2, h3, h4⟩
  · simp at hx
  · simp only [Value.slice.injEq, Option.some.injEq, Addr.mk.injEq, and_true, true_and] at hx
    obtain ⟨rfl, rfl⟩ := hx
    exact ⟨h1, h2⟩
theorem own_open {w : World} {B : Nat} {e : TypeId} {sz g n c : Nat} {cs : List Value} (h : w.ownsRow B e sz (.slice (some ⟨g, 0, none⟩) n c) n cs) :
    ∃ cur : Array Value, B ≤ g ∧ w.heap[g]? = some (.cells cur e (0, 0)) ∧ n ≤ c ∧ c ≤ maxLen ∧ cur.size = c * sz ∧ cur.toList.take (n * sz) = cs := by
  rcases h.2 with ⟨hx, _⟩ | ⟨g', cap', cur, hx, hb, hh, h1, h2, h3, h4⟩
  · simp at hx
  · simp only [Value.slice.injEq, Option.some.injEq, Addr.mk.injEq, and_true, true_and] at hx
    obtain ⟨rfl, rfl⟩ := hx
    exact ⟨cur, hb, hh, h1, h2, h3, h4⟩
theorem gtrans {w w1 w2 : World} {r : Option Nat} (h : w.grownBy w1 r) (k : w1.grownBy w2 r) : w.grownBy w2 r :=
  ⟨k.os.trans h.os, k.tape.trans h.tape, k.output.trans h.output, Nat.le_trans h.size k.size, fun b hb hne => (k.block b (Nat.lt_of_lt_of_le hb h.size) hne).trans (h.block b hb hne)⟩
theorem gdrew {w w1 : World} {r : Option Nat} (h : w.drew.grownBy w1 r) : w.grownBy w1 r := ⟨h.os, h.tape, h.output, h.size, h.block⟩
theorem galloc {w w1 : World} {r : Option Nat} {o : Obj} (h : (w.alloc o).grownBy w1 r) : w.grownBy w1 r :=
  ⟨h.os, h.tape, h.output, by have := h.size; simp at this; omega, fun k hk hne => (h.block k (by simp; omega) hne).trans (heap_alloc_old w o hk)⟩
theorem gsetRow (w : World) (g : Nat) (cs : Array Value) : w.grownBy (w.setRow g cs) (some g) :=
  ⟨rfl, rfl, rfl, by simp, fun k _ hk => setRow_other w g k _ (fun e => hk (by simp [e]))⟩
end Go.Proofs.Ytdkacdfhapgboaa

/- package slices: Clone. -/
namespace Go.Proofs.Ytdkacdfhapgboaa
open Go.RowKit

theorem info_int : (Try.prog.info? 3).map (fun i => (i.zero, i.size, i.bytes)) = some (some (.int .i64 0), 1, 8) := by kernel_rfl
set_option maxHeartbeats 400000 in
theorem clone_int (A : Option Addr) (n c : Nat) (cs : List Value) (w : World) (h : Rd w A n 1 cs) (hA : A = none → c = 0) (h1 : ∀ u ∈ cs, u.oneCell' = true) (hby : n * 8 ≤ 140737488355328) :
    Calls Try.prog 79 #[.slice A n c] w fun e w' => ∃ v, e = .returned v ∧ w'.ownsRow w.heap.size 3 1 v n cs ∧ Below w.heap.size w w' := by
  have hle := h.le
  have hlen := h.len
  have H := Lib.hid h
  have H1 := Lib.hid h1
  have HL := Lib.hid hlen
  have HB := Lib.hid hby
  have HN := Lib.hid hle
  clear h h1 hlen hby hle
  cases A with
  | none =>
    obtain rfl := hA rfl
    have hcs : cs = [] := by
      rcases cs with _ | ⟨u, us⟩
      · rfl
      · obtain ⟨ad, e, _⟩ := H.out.cell 0 (by simp)
        exact absurd e (by simp)
    subst hcs
    obtain rfl : n = 0 := by have := HL.out; simp at this; omega
    clear HL H H1 HB HN
    have hnil := fun (W : World) => Lib.run_eql_slice_nil (P := Try.prog) W 41 3 none 0 0 0 0 Try.underlying41
    go_enter Try.func79, Try.ntmps79
    go_wp2
    go_ret
    exact ⟨_, rfl, World.ownsRow_nil _ _ _ _, Below.refl _ _⟩
  | some ad =>
    clear hA
    obtain ⟨i0, hi, hz0, hz1, hz2⟩ := info_parts info_int
    have HOWN := Lib.hid (World.ownsRow_lit (base := w.heap.size) (e := 3) (size := 1) w #[] 0 (Nat.le_refl _) (by decide) rfl)
    have HC : Hid (∀ j u, cs[j]? = some u → (w.alloc (.cells #[] 3)).cell? (ad.add j) = some u) := fun j u hu => by
      obtain ⟨hj, rfl⟩ := List.getElem?_eq_some_iff.1 hu
      obtain ⟨ad', e, hc⟩ := H.out.cell j hj
      obtain rfl := Option.some.inj e
      exact bkeep (balloc _ _) hc
    have hnil := fun (W : World) => Lib.run_eql_slice_nil (P := Try.prog) W 41 3 (some ad) n c 0 0 Try.underlying41
    go_enter Try.func79, Try.ntmps79
    go_wp2_with (at_builtin; refine wpList_append_own _ rfl _ _ 41 rfl w.heap.size 3 i0 (.int .i64 0) 1 8 Try.underlying41 hi hz0 hz1 hz2 rfl (by decide) _ 0 [] rfl HOWN.out ad n c cs rfl HL.out HC.out H1.out (by have := HN.out; unfold maxLen; omega) (by have := HB.out; omega) (by simp) ?_; intro v' w1 hown' hgrow _)
    go_ret
    refine ⟨_, rfl, ?_, (balloc _ _).grown hgrow (by simp) (fun k e => by cases e; exact Nat.le_refl _)⟩
    rw [Nat.zero_add, List.nil_append] at hown'
    exact hown'

theorem info_sets : (Try.prog.info? 22).map (fun i => (i.zero, i.size, i.bytes)) = some (some (.slice none 0 0), 1, 24) := by kernel_rfl
set_option maxHeartbeats 400000 in
theorem clone_sets (A : Option Addr) (n c : Nat) (cs : List Value) (w : World) (h : Rd w A n 1 cs) (hA : A = none → c = 0) (h1 : ∀ u ∈ cs, u.oneCell' = true) (hby : n * 24 ≤ 140737488355328) :
    Calls Try.prog 80 #[.slice A n c] w fun e w' => ∃ v, e = .returned v ∧ w'.ownsRow w.heap.size 22 1 v n cs ∧ Below w.heap.size w w' := by
  have hle := h.le
  have hlen := h.len
  have H := Lib.hid h
  have H1 := Lib.hid h1
  have HL := Lib.hid hlen
  have HB := Lib.hid hby
  have HN := Lib.hid hle
  clear h h1 hlen hby hle
  cases A with
  | none =>
    obtain rfl := hA rfl
    have hcs : cs = [] := by
      rcases cs with _ | ⟨u, us⟩
      · rfl
      · obtain ⟨ad, e, _⟩ := H.out.cell 0 (by simp)
        exact absurd e (by simp)
    subst hcs
    obtain rfl : n = 0 := by have := HL.out; simp at this; omega
    clear HL H H1 HB HN
    have hnil := fun (W : World) => Lib.run_eql_slice_nil (P := Try.prog) W 34 22 none 0 0 0 0 Try.underlying34
    go_enter Try.func80, Try.ntmps80
    go_wp2
    go_ret
    exact ⟨_, rfl, World.ownsRow_nil _ _ _ _, Below.refl _ _⟩
  | some ad =>
    clear hA
    obtain ⟨i0, hi, hz0, hz1, hz2⟩ := info_parts info_sets
    have HOWN := Lib.hid (World.ownsRow_lit (base := w.heap.size) (e := 22) (size := 1) w #[] 0 (Nat.le_refl _) (by decide) rfl)
    have HC : Hid (∀ j u, cs[j]? = some u → (w.alloc (.cells #[] 22)).cell? (ad.add j) = some u) := fun j u hu => by
      obtain ⟨hj, rfl⟩ := List.getElem?_eq_some_iff.1 hu
      obtain ⟨ad', e, hc⟩ := H.out.cell j hj
      obtain rfl := Option.some.inj e
      exact bkeep (balloc _ _) hc
    have hnil := fun (W : World) => Lib.run_eql_slice_nil (P := Try.prog) W 34 22 (some ad) n c 0 0 Try.underlying34
    go_enter Try.func80, Try.ntmps80
    go_wp2_with (at_builtin; refine wpList_append_own _ rfl _ _ 34 rfl w.heap.size 22 i0 (.slice none 0 0) 1 24 Try.underlying34 hi hz0 hz1 hz2 rfl (by decide) _ 0 [] rfl HOWN.out ad n c cs rfl HL.out HC.out H1.out (by have := HN.out; unfold maxLen; omega) (by have := HB.out; omega) (by simp) ?_; intro v' w1 hown' hgrow _)
    go_ret
    refine ⟨_, rfl, ?_, (balloc _ _).grown hgrow (by simp) (fun k e => by cases e; exact Nat.le_refl _)⟩
    rw [Nat.zero_add, List.nil_append] at hown'
    exact hown'

theorem info_u32 : (Try.prog.info? 30).map (fun i => (i.zero, i.size, i.bytes)) = some (some (.int .u32 0), 1, 4) := by kernel_rfl
set_option maxHeartbeats 400000 in
theorem clone_u32 (A : Option Addr) (n c : Nat) (cs : List Value) (w : World) (h : Rd w A n 1 cs) (hA : A = none → c = 0) (h1 : ∀ u ∈ cs, u.oneCell' = true) (hby : n * 4 ≤ 140737488355328) :
    Calls Try.prog 19 #[.slice A n c] w fun e w' => ∃ v, e = .returned v ∧ w'.ownsRow w.heap.size 30 1 v n cs ∧ Below w.heap.size w w' := by
  have hle := h.le
  have hlen := h.len
  have H := Lib.hid h
  have H1 := Lib.hid h1
  have HL := Lib.hid hlen
  have HB := Lib.hid hby
  have HN := Lib.hid hle
  clear h h1 hlen hby hle
  cases A with
  | none =>
    obtain rfl := hA rfl
    have hcs : cs = [] := by
      rcases cs with _ | ⟨u, us⟩
      · rfl
      · obtain ⟨ad, e, _⟩ := H.out.cell 0 (by simp)
        exact absurd e (by simp)
    subst hcs
    obtain rfl : n = 0 := by have := HL.out; simp at this; omega
    clear HL H H1 HB HN
    have hnil := fun (W : World) => Lib.run_eql_slice_nil (P := Try.prog) W 22 30 none 0 0 0 0 Try.underlying22
    go_enter Try.func19, Try.ntmps19
    go_wp2
    go_ret
    exact ⟨_, rfl, World.ownsRow_nil _ _ _ _, Below.refl _ _⟩
  | some ad =>
    clear hA
    obtain ⟨i0, hi, hz0, hz1, hz2⟩ := info_parts info_u32
    have HOWN := Lib.hid (World.ownsRow_lit (base := w.heap.size) (e := 30) (size := 1) w #[] 0 (Nat.le_refl _) (by decide) rfl)
    have HC : Hid (∀ j u, cs[j]? = some u → (w.alloc (.cells #[] 30)).cell? (ad.add j) = some u) := fun j u hu => by
      obtain ⟨hj, rfl⟩ := List.getElem?_eq_some_iff.1 hu
      obtain ⟨ad', e, hc⟩ := H.out.cell j hj
      obtain rfl := Option.some.inj e
      exact bkeep (balloc _ _) hc
    have hnil := fun (W : World) => Lib.run_eql_slice_nil (P := Try.prog) W 22 30 (some ad) n c 0 0 Try.underlying22
    go_enter Try.func19, Try.ntmps19
    go_wp2_with (at_builtin; refine wpList_append_own _ rfl _ _ 22 rfl w.heap.size 30 i0 (.int .u32 0) 1 4 Try.underlying22 hi hz0 hz1 hz2 rfl (by decide) _ 0 [] rfl HOWN.out ad n c cs rfl HL.out HC.out H1.out (by have := HN.out; unfold maxLen; omega) (by have := HB.out; omega) (by simp) ?_; intro v' w1 hown' hgrow _)
    go_ret
    refine ⟨_, rfl, ?_, (balloc _ _).grown hgrow (by simp) (fun k e => by cases e; exact Nat.le_refl _)⟩
    rw [Nat.zero_add, List.nil_append] at hown'
    exact hown'
end Go.Proofs.Ytdkacdfhapgboaa

/- bits.Mul at one; slices.Repeat of one number. -/
set_option linter.unusedVariables false
set_option linter.unusedSimpArgs false
namespace Go.Proofs.Ytdkacdfhapgboaa
open Go.RowKit

theorem low32 (n : Nat) (h : n < 4294967296) : bits .and .u64 (n : Int) 4294967295 = (n : Int) := by
  have := bits_and_u64_nat n 4294967295 (by omega) (by omega)
  have e : n &&& 4294967295 = n := by
    have := Nat.and_two_pow_sub_one_eq_mod n 32
    simp at this
    rw [this]; omega
  rw [e] at this
  exact this

set_option maxHeartbeats 400000 in
theorem mul64_one (n : Nat) (h : n < 4294967296) (w : World) : Calls Try.prog 108 #[.int .u64 1, .int .u64 (n : Int)] w fun e w' => e = .returned (.tuple #[.int .u64 0, .int .u64 (n : Int)]) ∧ w = w' := by
  have h1 := low32 n h
  have h2 : (n : Int) / 4294967296 = 0 := by omega
  have h3 : bits .and .u64 1 4294967295 = 1 := low32 1 (by omega)
  have h4 : bits .and .u64 0 4294967295 = 0 := low32 0 (by omega)
  go_enter Try.func108, Try.ntmps108
  go_wp2
  go_ret2
  exact ⟨rfl, rfl⟩

set_option maxHeartbeats 400000 in
theorem mul_one (n : Nat) (h : n < 4294967296) (w : World) : Calls Try.prog 97 #[.int .u64 1, .int .u64 (n : Int)] w fun e w' => e = .returned (.tuple #[.int .u64 0, .int .u64 (n : Int)]) ∧ w = w' := by
  go_enter Try.func97, Try.ntmps97
  go_wp2_with (go_at_call 108; refine (mul64_one n h _).mono ?_; rintro e w' ⟨rfl, rfl⟩)
  go_ret2
  exact ⟨rfl, rfl⟩

/-- k ones, and zeros to the length n. -/
def onesRow (k n : Nat) : List Value := List.replicate k (.int .i64 1) ++ List.replicate (n - k) (.int .i64 0)
theorem onesRow_step (k m n : Nat) (h : k + m ≤ n) : splice (onesRow k n) k (List.replicate m (.int .i64 1)) = onesRow (k + m) n := by
  unfold splice onesRow
  rw [List.take_append_of_le_length (by simp), List.take_of_length_le (by simp), List.drop_append, List.drop_of_length_le (by simp)]
  simp only [List.length_replicate, List.nil_append, List.drop_replicate]
  rw [← List.append_assoc, List.replicate_append_replicate]
  congr 2
  omega
theorem onesRow_length (k n : Nat) (h : k ≤ n) : (onesRow k n).length = n := by simp [onesRow]; omega
theorem onesRow_get (k n j : Nat) (h : j < k) : (onesRow k n)[j]? = some (.int .i64 1) := by
  unfold onesRow
  rw [List.getElem?_append_left (by simpa using h), List.getElem?_replicate, if_pos h]
theorem made_ones (n : Nat) : madeCells (Value.int .i64 0).cells (n * 1) = (onesRow 0 n).toArray := by
  apply Array.toList_inj.1
  apply List.ext_getElem
  · simp [madeCells, onesRow]
  · intro i h1 h2
    have e : i % 1 = 0 := Nat.mod_one i
    simp [madeCells, Value.cells, e, onesRow]

theorem bsetRow {B : Nat} {W0 W : World} (h : Below B W0 W) {g : Nat} (hg : B ≤ g) (cs : Array Value) : Below B W0 (W.setRow g cs) :=
  h.trans ⟨rfl, rfl, rfl, by simp, fun k hk => setRow_other W g k cs (by omega)⟩
set_option maxRecDepth 100000 in
set_option maxHeartbeats 1000000 in
theorem repeat_ones (q n : Nat) (hn : 1 ≤ n ∧ n ≤ 4096) (w : World) (hq : w.cell? ⟨q, 0, none⟩ = some (.int .i64 1)) :
    Calls Try.prog 75 #[.slice (some ⟨q, 0, none⟩) 1 1, .int .i64 (n : Int)] w fun e w' => e = .returned (.slice (some ⟨w.heap.size, 0, none⟩) n n) ∧
      w'.ownsRow w.heap.size 3 1 (.slice (some ⟨w.heap.size, 0, none⟩) n n) n (List.replicate n (.int .i64 1)) ∧ Below w.heap.size w w' := by
  obtain ⟨n1, n2⟩ := hn
  obtain ⟨i0, hi, hz0, hz1, hz2⟩ := info_parts info_int
  have hmk : ∀ W, (Instr.makeSlice 41 (.int .i64 (n : Int)) (.int .i64 (n : Int))).run Try.prog W = .ok (.slice (some ⟨W.heap.size, 0, none⟩) n n) (W.alloc (.cells (onesRow 0 n).toArray 3)) := fun W => by
    have := Go.run_make (P := Try.prog) W 41 3 i0 (.int .i64 0) Try.underlying41 hi hz0 .i64 .i64 n n (by omega) (Int.le_refl _) (by rw [hz2]; omega) (by omega)
    rw [hz1, Int.toNat_natCast, made_ones] at this
    exact this
  have hcp : ∀ (W : World) (a : Addr) (k m sl sc dl dc : Nat) (ty : TypeId), W.heap[w.heap.size]? = some (.cells (onesRow k n).toArray 3 (0, 0)) → Nat.min sl dl = m → (∀ j v, (List.replicate m (Value.int .i64 1))[j]? = some v → W.cell? (a.add j) = some v) → k + m ≤ n →
      (Builtin.copy_ #[41, 41] ty #[.slice (some ⟨w.heap.size, k, none⟩) dl dc, .slice (some a) sl sc]).run Try.prog W = .ok (.int .i64 (m : Int)) (W.setRow w.heap.size (onesRow (k + m) n).toArray) := fun W a k m sl sc dl dc ty hW hm hs hkm => by
    have := run_copy_onto (P := Try.prog) (ty := ty) (dT := 41) (sT := 41) Try.underlying41 hi hz1 (g := w.heap.size) (o := k) (dLen := dl) (dCap := dc) (sLen := sl) (sCap := sc) (m := m) (a := a) hW (List.replicate m (.int .i64 1)) hm (by simp) hs (by simp [onesRow_length k n (by omega)]; omega) (by intro v hv; rw [List.eq_of_mem_replicate hv]; rfl)
    rw [List.toList_toArray, onesRow_step k m n hkm] at this
    exact this
  have HCP := Lib.hid hcp
  obtain ⟨W1, hW1⟩ : ∃ W1, (w.alloc (.cells (onesRow 0 n).toArray 3)).setRow w.heap.size (onesRow 1 n).toArray = W1 := ⟨_, rfl⟩
  have hc1 := hcp (w.alloc (.cells (onesRow 0 n).toArray 3)) ⟨q, 0, none⟩ 0 1 1 1 n n 3 (heap_alloc_new w _) (by show min 1 n = 1; omega) (by
    intro j v hv
    match j, hv with
    | 0, hv => simp at hv; subst hv; exact bkeep (balloc w _) hq) (by omega)
  rw [Nat.zero_add, hW1] at hc1
  have hh1 : W1.heap[w.heap.size]? = some (.cells (onesRow 1 n).toArray 3 (0, 0)) := by rw [← hW1]; exact setRow_heap _ _ _ _ _ _ (heap_alloc_new w _)
  have hb1 : Below w.heap.size w W1 := by rw [← hW1]; exact bsetRow ((Below.refl _ _).alloc (Nat.le_refl _) _) (Nat.le_refl _) _
  have HH := Lib.hid hh1
  clear hcp hW1 hh1
  go_enter Try.func75, Try.ntmps75
  go_wp2_with (go_at_call 97; refine (mul_one n (by omega) _).mono ?_; rintro e w' ⟨rfl, rfl⟩)
  go_loopw [8] (fun i wr => ∃ k : Nat, 1 ≤ k ∧ k ≤ n ∧ i = .int .i64 k ∧ Hid (wr.heap[w.heap.size]? = some (.cells (onesRow k n).toArray 3 (0, 0)) ∧ Below w.heap.size w wr)) (fun i _ => n - (intOf i).toNat)
  case atStart => exact ⟨1, Nat.le_refl _, n1, rfl, HH.out, hb1⟩
  case round =>
    obtain ⟨k, hk1, hk, rfl, hR⟩ := hrel
    obtain ⟨hrow, hbw⟩ := hR.out
    by_cases hlt : k < n
    · obtain ⟨m, hm⟩ : ∃ m, m = min k (n - k) := ⟨_, rfl⟩
      obtain ⟨W2, hW2⟩ : ∃ W2, wr.drew.setRow w.heap.size (onesRow (k + m) n).toArray = W2 := ⟨_, rfl⟩
      have hc2 : ∀ ty dc sc, (Builtin.copy_ #[41, 41] ty #[.slice (some ⟨w.heap.size, k, none⟩) (n - k) dc, .slice (some ⟨w.heap.size, 0, none⟩) k sc]).run Try.prog wr.drew = .ok (.int .i64 (m : Int)) W2 := fun ty dc sc => by
        rw [← hW2]
        refine HCP.out wr.drew ⟨w.heap.size, 0, none⟩ k m k sc (n - k) dc ty hrow (by rw [hm]) ?_ (by omega)
        intro j v hv
        obtain ⟨hj, e⟩ := List.getElem?_eq_some_iff.1 hv
        simp only [List.length_replicate] at hj
        rw [List.getElem_replicate] at e
        subst e
        have : wr.heap[w.heap.size]? = some (.cells (onesRow k n).toArray 3 (0, 0)) := hrow
        have e2 : wr.cell? ⟨w.heap.size, j, none⟩ = some (.int .i64 1) := by simp [World.cell?, this, onesRow_get k n j (by omega)]
        have e3 : (⟨w.heap.size, 0, none⟩ : Addr).add j = ⟨w.heap.size, j, none⟩ := by unfold Addr.add; split <;> simp_all
        rw [e3]
        exact e2
      have hW2h : W2.heap[w.heap.size]? = some (.cells (onesRow (k + m) n).toArray 3 (0, 0)) := by rw [← hW2]; exact setRow_heap _ _ _ _ _ _ hrow
      have hW2b : Below w.heap.size w W2 := by rw [← hW2]; exact bsetRow (bdrewN hbw 1) (Nat.le_refl _) _
      have HN := Lib.hid (⟨hW2h, hW2b⟩ : W2.heap[w.heap.size]? = some (.cells (onesRow (k + m) n).toArray 3 (0, 0)) ∧ Below w.heap.size w W2)
      clear hW2h hW2b hW2 hrow hbw hR
      have b1 : (0 : Int) ≤ (k : Int) := by omega
      have b2 : (k : Int) ≤ (n : Int) := by omega
      have b3 : IntKind.i64.wrap ((k : Int) + (m : Int)) = (k : Int) + (m : Int) := by rw [IntKind.wrap_i64]; omega
      have b4 : ¬ n = k := by omega
      have b5 : 1 ≤ m ∧ k + m ≤ n := by omega
      obtain ⟨b6, b7⟩ := b5
      clear hm
      go_wp2_with fail
      go_region
      go_wp2
      go_roundw
      case rel => exact ⟨k + m, by omega, by omega, by go_num, HN⟩
      case measure => simp [intOf]; omega
    · obtain rfl : k = n := by omega
      have HR := Lib.hid hrow
      clear hrow hR
      go_wp2
      go_ret
      refine ⟨rfl, ⟨by simp, .inr ⟨w.heap.size, k, _, rfl, Nat.le_refl _, HR.out, Nat.le_refl _, by unfold maxLen; omega, by simp [onesRow_length k k (Nat.le_refl _)], ?_⟩⟩, hbw⟩
      simp [onesRow]
end Go.Proofs.Ytdkacdfhapgboaa

/- package slices at []uint32: Index, Contains, Equal, Clone. -/
namespace Go.Proofs.Ytdkacdfhapgboaa
open Go.RowKit

def idxI (xs : List Int) (x : Int) : Int := if x ∈ xs then (xs.idxOf x : Int) else -1
theorem idxOf_at (xs : List Int) (x : Int) : ∀ (k : Nat), k < xs.length → (∀ j, j < k → gi xs j ≠ x) → gi xs k = x → xs.idxOf x = k := by
  induction xs with
  | nil => intro k hk; simp at hk
  | cons y ys ih =>
    intro k hk h hx
    cases k with
    | zero => simp [gi] at hx; simp [hx]
    | succ k =>
      have h0 : y ≠ x := by have := h 0 (by omega); simpa [gi] using this
      have := ih k (by simpa using hk) (fun j hj => by have := h (j + 1) (by omega); simpa [gi] using this) (by simpa [gi] using hx)
      have h1 : (y == x) = false := by simpa using h0
      rw [List.idxOf_cons, h1, cond_false, this]
theorem idxI_at (xs : List Int) (x : Int) (k : Nat) (hk : k < xs.length) (h : ∀ j, j < k → gi xs j ≠ x) (hx : gi xs k = x) : idxI xs x = k := by
  have hm : x ∈ xs := hx ▸ gi_mem xs k hk
  unfold idxI
  rw [if_pos hm, idxOf_at xs x k hk h hx]
theorem idxI_none (xs : List Int) (x : Int) (h : ∀ j, j < xs.length → gi xs j ≠ x) : idxI xs x = -1 := by
  unfold idxI
  rw [if_neg]
  intro hm
  obtain ⟨j, hj, e⟩ := List.getElem_of_mem hm
  exact h j hj (by rw [gi_get xs j hj]; exact e)

set_option maxHeartbeats 400000 in
theorem index_u32 (A : Option Addr) (n c : Nat) (xs : List Int) (x : Int) (w : World) (h : RdI w .u32 A n xs) :
    Calls Try.prog 103 #[.slice A n c, .int .u32 x] w fun e w' => e = .returned (.int .i64 (idxI xs x)) ∧ w = w' := by
  have hle := h.le
  have H := Lib.hid h
  clear h
  go_enter Try.func103, Try.ntmps103
  go_wp2
  go_loop [8] (fun i => ∃ k : Nat, k ≤ n ∧ i = .int .i64 k ∧ Hid (∀ j, j < k → gi xs j ≠ x)) (fun i => n - (intOf i).toNat)
  case atStart => exact ⟨0, Nat.zero_le _, rfl, Lib.hid (fun j hj => absurd hj (Nat.not_lt_zero _))⟩
  case round =>
    obtain ⟨k, hk, rfl, hne⟩ := hrel
    by_cases hlt : k < n
    · obtain ⟨ad, rfl, hc⟩ := RdI.at H.out k hlt
      cases hx : (x == gi xs k)
      · go_wp2
        go_round
        case rel => exact ⟨k + 1, by omega, by go_num, fun j hj => by rcases Nat.lt_succ_iff_lt_or_eq.1 hj with h | rfl; exact hne.out j h; exact fun e => by simp [e] at hx⟩
        case measure => simp [intOf]; omega
      · go_wp2
        go_ret
        refine ⟨?_, rfl⟩
        rw [idxI_at xs x k (by have := H.out.length; omega) hne.out (by simpa using (beq_iff_eq.1 hx).symm)]
        rfl
    · go_wp2
      go_ret
      refine ⟨?_, rfl⟩
      rw [idxI_none xs x (fun j hj => hne.out j (by have := H.out.length; omega))]
      rfl

theorem idxI_nonneg (xs : List Int) (x : Int) : decide (0 ≤ idxI xs x) = decide (x ∈ xs) := by
  unfold idxI
  by_cases h : x ∈ xs <;> simp [h]
theorem idxI_lt (xs : List Int) (x : Int) : idxI xs x < xs.length ∨ xs = [] := by
  unfold idxI
  by_cases h : x ∈ xs
  · rw [if_pos h]; have := List.idxOf_lt_length_of_mem h; omega
  · rw [if_neg h]; omega

set_option maxHeartbeats 400000 in
theorem contains_u32 (A : Option Addr) (n c : Nat) (xs : List Int) (x : Int) (w : World) (h : RdI w .u32 A n xs) :
    Calls Try.prog 94 #[.slice A n c, .int .u32 x] w fun e w' => e = .returned (.bool (decide (x ∈ xs))) ∧ w = w' := by
  have H := Lib.hid h
  clear h
  have h1 := idxI_nonneg xs x
  cases h2 : decide (x ∈ xs)
  all_goals
    rw [h2] at h1
    go_enter Try.func94, Try.ntmps94
    go_wp2_with (go_at_call 103; refine (index_u32 _ _ _ xs _ _ H.out).mono ?_; rintro e w' ⟨rfl, rfl⟩)
    go_ret
    exact ⟨rfl, rfl⟩
end Go.Proofs.Ytdkacdfhapgboaa

/- slices.Delete of one place at []uint32, in a row of the call's own. -/
namespace Go.Proofs.Ytdkacdfhapgboaa
open Go.RowKit

theorem info_u32' : (Try.prog.info? 30).map (fun i => (i.zero, i.size, i.bytes)) = some (some (.int .u32 0), 1, 4) := by kernel_rfl

set_option maxRecDepth 100000 in
theorem delete_mid (B g n c i : Nat) (xs : List Int) (w : World) (h : w.ownsRow B 30 1 (.slice (some ⟨g, 0, none⟩) n c) n (nums .u32 xs)) (hi : i < n) (hj : ¬ c = i + 1) :
    Calls Try.prog 105 #[.slice (some ⟨g, 0, none⟩) n c, .int .i64 (i : Int), .int .i64 ((i : Int) + 1)] w fun e w' =>
      e = .returned (.slice (some ⟨g, 0, none⟩) (n - 1) c) ∧ w'.ownsRow B 30 1 (.slice (some ⟨g, 0, none⟩) (n - 1) c) (n - 1) (nums .u32 (xs.eraseIdx i)) ∧ w.grownBy w' (some g) := by
  obtain ⟨hb1, hb2⟩ := own_caps h
  have H := Lib.hid h
  clear h
  obtain ⟨i0, hi0, hz0, hz1, hz2⟩ := info_parts info_u32'
  have t1 : ((i : Int) == (i : Int) + 1) = false := by simp; omega
  have q1 : (0 : Int) ≤ (i : Int) := by omega
  have q2 : (i : Int) ≤ (i : Int) + 1 := by omega
  have q3 : (i : Int) + 1 ≤ (n : Int) := by omega
  have q4 : (i : Int) ≤ (c : Int) := by omega
  have q5 : i ≤ c := by omega
  have q6 : i + 1 ≤ n := by omega
  have q7 : (0 : Int) ≤ (i : Int) + 1 := by omega

  have HO := Lib.hid (own_prefix H.out.drew i (by omega))
  have HC : Hid (∀ j u, ((nums .u32 xs).drop (i + 1))[j]? = some u → w.drew.cell? ((⟨g, i + 1, none⟩ : Addr).add j) = some u) := fun j u hu => by
    rw [List.getElem?_drop] at hu
    have := (H.out.drew).cells (g := g) rfl _ u hu
    rw [← this]
    congr 1
    simp only [Addr.add]
    split <;> split <;> simp_all <;> omega
  go_enter Try.func105, Try.ntmps105
  go_wp2_with fail
  go_still_tail 6, (by kernel_rfl)
  refine wpList_append_fits_any _ (by rfl) (.tmp 22) (.tmp 25) 22 (by rfl) B 30 i0 1 Try.underlying22 hi0 hz1 g i c _ (by rfl) HO.out (some ⟨g, i + 1, none⟩) (n - (i + 1)) (c - (i + 1)) ((nums .u32 xs).drop (i + 1)) (by rfl) ?hn (fun e => by cases e) (fun ad e => by cases e; exact HC.out) ?h1 (by omega) ?hK
  case hn => have := H.out.1; simp at this; simp; omega
  case h1 =>
    intro u hu
    obtain ⟨x, _, rfl⟩ := List.mem_map.1 (List.mem_of_mem_drop hu)
    rfl
  case hK =>
    intro w1 hown1 hgrow1
    have e1 : i + (n - (i + 1)) = n - 1 := by omega
    rw [e1] at hown1 ⊢
    have e2 : (nums .u32 xs).take (i * 1) ++ (nums .u32 xs).drop (i + 1) = nums .u32 (xs.eraseIdx i) := by
      rw [List.eraseIdx_eq_take_drop_succ, nums_append]
      simp [nums, List.map_take, List.map_drop]
    rw [e2] at hown1
    obtain ⟨w2, hrun, hown2, hgrow2⟩ := run_clear_own (P := Try.prog) (t := 22) (ty := 0) Try.underlying22 hi0 hz0 (sz := 1) rfl (by simp [Value.cells, Value.oneCell']) hown1 (n - (n - 1)) (c - (n - 1)) (by omega)
    rw [Nat.mul_one] at hrun
    have HW := Lib.hid hown2
    have HG := Lib.hid (gdrew (gtrans hgrow1 hgrow2))
    have p1 : ((n - 1 : Nat) : Int) ≤ (n : Int) := by omega
    have p2 : (n : Int) ≤ (c : Int) := by omega
    have p3 : n - 1 ≤ n := by omega
    have p4 : ¬ c = n - 1 := by omega
    clear hown1 hgrow1 hown2 hgrow2 HO HC H e1 e2
    go_wp2
    go_ret
    exact ⟨rfl, HW.out, HG.out⟩

set_option maxRecDepth 100000 in
theorem delete_end (B g n c i : Nat) (xs : List Int) (w : World) (h : w.ownsRow B 30 1 (.slice (some ⟨g, 0, none⟩) n c) n (nums .u32 xs)) (hi : i < n) (hj : c = i + 1) :
    Calls Try.prog 105 #[.slice (some ⟨g, 0, none⟩) n c, .int .i64 (i : Int), .int .i64 ((i : Int) + 1)] w fun e w' =>
      e = .returned (.slice (some ⟨g, 0, none⟩) (n - 1) c) ∧ w'.ownsRow B 30 1 (.slice (some ⟨g, 0, none⟩) (n - 1) c) (n - 1) (nums .u32 (xs.eraseIdx i)) ∧ w.grownBy w' (some g) := by
  obtain ⟨hb1, hb2⟩ := own_caps h
  have H := Lib.hid h
  clear h
  obtain ⟨i0, hi0, hz0, hz1, hz2⟩ := info_parts info_u32'
  have t1 : ((i : Int) == (i : Int) + 1) = false := by simp; omega
  have q1 : (0 : Int) ≤ (i : Int) := by omega
  have q2 : (i : Int) ≤ (i : Int) + 1 := by omega
  have q3 : (i : Int) + 1 ≤ (n : Int) := by omega
  have q4 : (i : Int) ≤ (c : Int) := by omega
  have q5 : i ≤ c := by omega
  have q6 : i + 1 ≤ n := by omega
  have q7 : (0 : Int) ≤ (i : Int) + 1 := by omega
  have hn1 : n = i + 1 := by omega
  have q9 : n - (i + 1) = 0 := by omega
  have q10 : c - (i + 1) = 0 := by omega
  have HJ := Lib.hid hj
  have HN1 := Lib.hid hn1
  have hd : (c = i + 1) = True := eq_true hj
  clear hn1 hj
  have HO := Lib.hid (own_prefix H.out.drew i (by omega))
  have HC : Hid (∀ j u, ((nums .u32 xs).drop (i + 1))[j]? = some u → w.drew.cell? ((⟨g, 0, none⟩ : Addr).add j) = some u) := fun j u hu => by
    have hl := H.out.1; have := HN1.out
    rw [List.getElem?_drop, List.getElem?_eq_none (by omega)] at hu
    exact absurd hu (by simp)
  go_enter Try.func105, Try.ntmps105
  go_wp2_with fail
  go_still_tail 6, (by kernel_rfl)
  refine wpList_append_fits_any _ (by rfl) (.tmp 22) (.tmp 25) 22 (by rfl) B 30 i0 1 Try.underlying22 hi0 hz1 g i c _ (by rfl) HO.out (some ⟨g, 0, none⟩) (0) (0) ((nums .u32 xs).drop (i + 1)) (by rfl) ?hn (fun e => by cases e) (fun ad e => by cases e; exact HC.out) ?h1 (by omega) ?hK
  case hn => have := H.out.1; simp at this; simp; omega
  case h1 =>
    intro u hu
    obtain ⟨x, _, rfl⟩ := List.mem_map.1 (List.mem_of_mem_drop hu)
    rfl
  case hK =>
    intro w1 hown1 hgrow1
    have e1 : i + (0) = n - 1 := by omega
    rw [e1] at hown1 ⊢
    have e2 : (nums .u32 xs).take (i * 1) ++ (nums .u32 xs).drop (i + 1) = nums .u32 (xs.eraseIdx i) := by
      rw [List.eraseIdx_eq_take_drop_succ, nums_append]
      simp [nums, List.map_take, List.map_drop]
    rw [e2] at hown1
    obtain ⟨w2, hrun, hown2, hgrow2⟩ := run_clear_own (P := Try.prog) (t := 22) (ty := 0) Try.underlying22 hi0 hz0 (sz := 1) rfl (by simp [Value.cells, Value.oneCell']) hown1 (n - (n - 1)) (c - (n - 1)) (by omega)
    rw [Nat.mul_one] at hrun
    have HW := Lib.hid hown2
    have HG := Lib.hid (gdrew (gtrans hgrow1 hgrow2))
    have p1 : ((n - 1 : Nat) : Int) ≤ (n : Int) := by omega
    have p2 : (n : Int) ≤ (c : Int) := by omega
    have p3 : n - 1 ≤ n := by omega
    have p4 : ¬ c = n - 1 := by omega
    clear hown1 hgrow1 hown2 hgrow2 HO HC H e1 e2 HJ HN1 hd
    go_wp2
    go_ret
    exact ⟨rfl, HW.out, HG.out⟩

theorem delete_u32 (B g n c i : Nat) (xs : List Int) (w : World) (h : w.ownsRow B 30 1 (.slice (some ⟨g, 0, none⟩) n c) n (nums .u32 xs)) (hi : i < n) :
    Calls Try.prog 105 #[.slice (some ⟨g, 0, none⟩) n c, .int .i64 (i : Int), .int .i64 ((i : Int) + 1)] w fun e w' =>
      e = .returned (.slice (some ⟨g, 0, none⟩) (n - 1) c) ∧ w'.ownsRow B 30 1 (.slice (some ⟨g, 0, none⟩) (n - 1) c) (n - 1) (nums .u32 (xs.eraseIdx i)) ∧ w.grownBy w' (some g) := by
  by_cases hj : c = i + 1
  · exact delete_end B g n c i xs w h hi hj
  · exact delete_mid B g n c i xs w h hi hj
end Go.Proofs.Ytdkacdfhapgboaa

/- slices.Insert of one element at []uint32, in a row of the call's own: at the end, with room, without. -/
set_option linter.unusedVariables false
set_option linter.unusedSimpArgs false
namespace Go.Proofs.Ytdkacdfhapgboaa
open Go.RowKit

theorem info_u32_i : (Try.prog.info? 30).map (fun i => (i.zero, i.size, i.bytes)) = some (some (Value.int .u32 0), 1, 4) := by kernel_rfl
theorem size_u32 (w : World) : (Go.sizeOf 30).run Try.prog w = .ok 1 w := by kernel_rfl

set_option maxRecDepth 100000 in
theorem insert_u32_end (B n c i q : Nat) (g : Nat) (cs news : List Value) (w : World) (h : w.ownsRow B 30 1 (Value.slice (some ⟨g, 0, none⟩) n c) n cs) (hi : i = n)
    (hq : w.heap[q]? = some (.cells news.toArray 30 (0, 0))) (hnl : news.length = 1) (hne : (Value.slice (some ⟨g, 0, none⟩) n c).ownBlock ≠ some q) (h1 : ∀ u ∈ cs, u.oneCell' = true) (h1n : ∀ u ∈ news, u.oneCell' = true)
    (hB : B ≤ w.heap.size) (hby : (n + 1) * 4 ≤ 140737488355328) :
    Calls Try.prog 106 #[Value.slice (some ⟨g, 0, none⟩) n c, .int .i64 (i : Int), .slice (some ⟨q, 0, none⟩) 1 1] w fun e w' =>
      ∃ g' c', e = .returned (.slice (some ⟨g', 0, none⟩) (n + 1) c') ∧ w'.ownsRow B 30 1 (.slice (some ⟨g', 0, none⟩) (n + 1) c') (n + 1) (cs.take (i * 1) ++ (news ++ cs.drop (i * 1))) ∧ w.grownBy w' (Value.slice (some ⟨g, 0, none⟩) n c).ownBlock ∧ ((Value.slice (some ⟨g, 0, none⟩) n c).ownBlock = some g' ∨ w.heap.size ≤ g') := by
  have H := Lib.hid h
  have H1 := Lib.hid h1
  have H1n := Lib.hid h1n
  have HQ := Lib.hid hq
  have HNL := Lib.hid hnl
  have HNE := Lib.hid hne
  have HBY := Lib.hid hby
  have hcl := Lib.hid h.1
  clear h h1 h1n hq hnl hne hby
  obtain ⟨i0, hi0, hz0, hz1, hz2⟩ := info_parts info_u32_i
  have HNC : Hid (∀ j u, news[j]? = some u → w.cell? ((⟨q, 0, none⟩ : Addr).add j) = some u) := fun j u hu => by
    have e : (⟨q, 0, none⟩ : Addr).add j = ⟨q, j, none⟩ := by unfold Addr.add; split <;> simp_all
    rw [e]
    simp [World.cell?, HQ.out, hu]
  have t1 : ((1 : Int) == 0) = false := by decide
  have q0 : (0 : Int) ≤ (i : Int) := by omega
  have q1 : (i : Int) ≤ (n : Int) := by omega
  have t2 : ((i : Int) == (n : Int)) = true := by simp; omega
  have HI := Lib.hid hi
  clear hi
  have hd : (c = i) = True ∨ (c = i) = False := by by_cases h : c = i <;> simp [h]
  rcases hd with hd | hd
  all_goals
    go_enter Try.func106, Try.ntmps106
    go_wp2_with (at_builtin; go_loud (refine wpList_append_lies _ (by rfl) (.tmp 23) (.tmp 24) 22 (by rfl) B 30 i0 (Value.int .u32 0) 1 4 Try.underlying22 hi0 hz0 hz1 hz2 rfl (by decide) (Value.slice (some ⟨g, 0, none⟩) n c) n cs (by rfl) H.out ⟨q, 0, none⟩ 1 1 news (by rfl) HNL.out HNC.out H1n.out (by decide) (by have := HBY.out; unfold maxLen; omega) (by have := HBY.out; omega) hB w.heap.size rfl ?_); intro g cap w1 hown hgrow hat hlt)
    go_ret
    refine ⟨g, cap, rfl, ?_, hgrow, ?_⟩
    · have e : cs.length = i * 1 := by rw [hcl.out, HI.out]
      rw [← e, List.take_length, List.drop_length, List.append_nil]
      exact hown
    · rcases hat with e | e
      · exact .inl e
      · exact .inr (by omega)

set_option maxRecDepth 100000 in
theorem insert_u32_shift (B n c i q : Nat) (g : Nat) (cs news : List Value) (w : World) (h : w.ownsRow B 30 1 (Value.slice (some ⟨g, 0, none⟩) n c) n cs) (hi : i < n)
    (hq : w.heap[q]? = some (.cells news.toArray 30 (0, 0))) (hnl : news.length = 1) (hne : (Value.slice (some ⟨g, 0, none⟩) n c).ownBlock ≠ some q) (h1 : ∀ u ∈ cs, u.oneCell' = true) (h1n : ∀ u ∈ news, u.oneCell' = true)
    (hB : B ≤ w.heap.size) (hby : (n + 1) * 4 ≤ 140737488355328) (hroom : n + 1 ≤ c) :
    Calls Try.prog 106 #[Value.slice (some ⟨g, 0, none⟩) n c, .int .i64 (i : Int), .slice (some ⟨q, 0, none⟩) 1 1] w fun e w' =>
      ∃ g' c', e = .returned (.slice (some ⟨g', 0, none⟩) (n + 1) c') ∧ w'.ownsRow B 30 1 (.slice (some ⟨g', 0, none⟩) (n + 1) c') (n + 1) (cs.take (i * 1) ++ (news ++ cs.drop (i * 1))) ∧ w.grownBy w' (Value.slice (some ⟨g, 0, none⟩) n c).ownBlock ∧ ((Value.slice (some ⟨g, 0, none⟩) n c).ownBlock = some g' ∨ w.heap.size ≤ g') := by
  have H := Lib.hid h
  have H1 := Lib.hid h1
  have H1n := Lib.hid h1n
  have HQ := Lib.hid hq
  have HNL := Lib.hid hnl
  have HNE := Lib.hid hne
  have HBY := Lib.hid hby
  have hcl := Lib.hid h.1
  clear h h1 h1n hq hnl hne hby
  obtain ⟨i0, hi0, hz0, hz1, hz2⟩ := info_parts info_u32_i
  have HNC : Hid (∀ j u, news[j]? = some u → w.cell? ((⟨q, 0, none⟩ : Addr).add j) = some u) := fun j u hu => by
    have e : (⟨q, 0, none⟩ : Addr).add j = ⟨q, j, none⟩ := by unfold Addr.add; split <;> simp_all
    rw [e]
    simp [World.cell?, HQ.out, hu]
  have t1 : ((1 : Int) == 0) = false := by decide
  have q0 : (0 : Int) ≤ (i : Int) := by omega
  obtain ⟨cur, hBg, hh, hnc, hcm, hcs, htake⟩ := own_open H.out
  have hg2 := (own_caps H.out).2
  have q1 : (i : Int) ≤ (n : Int) := by omega
  have t2 : ((i : Int) == (n : Int)) = false := by simp; omega
  have t3 : decide ((c : Int) < (n : Int) + 1) = false := by simp; omega
  have q2 : ((n : Int) + 1) ≤ (c : Int) := by omega
  have q3 : ((i : Int) + 1) ≤ (n : Int) + 1 := by omega
  have q4 : (0 : Int) ≤ (i : Int) + 1 := by omega
  have q5 : ¬ c = i + 1 := by omega
  have q6 : ¬ c = i := by omega
  have q7 : (i : Int) ≤ (n : Int) + 1 := by omega
  have q8 : (0 : Int) ≤ (n : Int) + 1 := by omega
  have q9 : i ≤ n := by omega
  have hov : ∀ lb cb, (callFunc 112 #[.slice (some ⟨q, 0, none⟩) 1 1, .slice (some ⟨g, i + 1, none⟩) lb cb]).run Try.prog w = .ok (.value (.bool false)) w := fun lb cb => by
    rw [run_callFunc_extern Try.func112 (by kernel_rfl) (by kernel_rfl) (by kernel_rfl) (e := Extern.SlicesOverlaps.overlaps #[22, 22] #[4]) (by kernel_rfl),
      Lib.run_overlaps_apart w 22 4 30 Try.underlying22 1 size_u32 ⟨q, 0, none⟩ ⟨g, i + 1, none⟩ 1 1 lb cb (fun e => HNE.out (by simp only at e; rw [e]; rfl)) 30 30 news.length cur.size
        (by simp [World.shape?, HQ.out]) (by simp [World.shape?, hh]) (by rw [hcs]; omega) (by simp [World.frozen?, HQ.out]) (by simp [World.frozen?, HQ.out])]
    rfl
  have hcN : cs.length = n * 1 := hcl.out
  have hfit1 : n * 1 + 1 ≤ cur.size := by rw [hcs]; have := Nat.mul_le_mul_right 1 (show n + 1 ≤ c by omega); rw [Nat.add_mul] at this; omega
  have hi1 : i * 1 ≤ n * 1 := Nat.mul_le_mul_right _ q9
  have hdl : (cs.drop (i * 1)).length = (n - i) * 1 := by rw [List.length_drop, hcN, Nat.sub_mul]
  have hrow : ∀ j u, cs[j]? = some u → w.cell? ⟨g, j, none⟩ = some u := fun j u hu => by
    have hj : j < cs.length := (List.getElem?_eq_some_iff.1 hu).1
    rw [← htake, List.getElem?_take, if_pos (by omega)] at hu
    simp only [World.cell?, hh]
    simpa using hu
  have hcp1 : ∀ ty dc sc, (Builtin.copy_ #[22, 22] ty #[.slice (some ⟨g, i + 1, none⟩) (n - i) dc, .slice (some ⟨g, i, none⟩) (n + 1 - i) sc]).run Try.prog w.drew = .ok (goInt ((n - i : Nat) : Int)) (w.drew.setRow g (splice cur.toList (i + 1) (cs.drop (i * 1))).toArray) := fun ty dc sc =>
    run_copy_onto Try.underlying22 hi0 hz1 (w := w.drew) hh (cs.drop (i * 1)) (by simp only [Nat.min_def]; split <;> omega) hdl (fun j u hu => by
      rw [List.getElem?_drop] at hu
      have e : (⟨g, i, none⟩ : Addr).add j = ⟨g, i * 1 + j, none⟩ := by unfold Addr.add; split <;> simp_all
      rw [e]; exact hrow _ _ hu) (by rw [hdl]; have := Nat.sub_mul n i 1; omega) (fun u hu => H1.out u (List.mem_of_mem_drop hu))
  have HG1 := Lib.hid (setRow_heap w.drew g cur (splice cur.toList (i + 1) (cs.drop (i * 1))).toArray 30 (0, 0) hh)
  have hX : (splice cur.toList (i + 1) (cs.drop (i * 1))).length = cur.size := by rw [length_splice _ _ _ (by rw [hdl, Array.length_toList]; have := Nat.sub_mul n i 1; omega)]; simp
  obtain ⟨X, hXe⟩ : ∃ X, X = splice cur.toList (i + 1) (cs.drop (i * 1)) := ⟨_, rfl⟩
  rw [← hXe] at hX HG1 hcp1
  have hcp2 : ∀ ty dc, (Builtin.copy_ #[22, 22] ty #[.slice (some ⟨g, i, none⟩) (n + 1 - i) dc, .slice (some ⟨q, 0, none⟩) 1 1]).run Try.prog (w.drew.setRow g X.toArray) = .ok (goInt ((1 : Nat) : Int)) ((w.drew.setRow g X.toArray).setRow g (splice X (i) news).toArray) := fun ty dc => by
    have := run_copy_onto (P := Try.prog) (ty := ty) (sT := 22) (dCap := dc) (sCap := 1) Try.underlying22 hi0 hz1 (w := w.drew.setRow g X.toArray) (o := i) (dLen := n + 1 - i) (sLen := 1) (a := ⟨q, 0, none⟩) HG1.out news (m := 1) (by simp only [Nat.min_def]; split <;> omega) (by rw [HNL.out]) (fun j u hu => by
      have := HNC.out j u hu
      rw [← this]
      exact World.cell?_of_block (setRow_other w.drew g _ _ (fun e => HNE.out (by
        have e2 : (⟨q, 0, none⟩ : Addr).add j = ⟨q, j, none⟩ := by unfold Addr.add; split <;> simp_all
        rw [e2] at e; simp only at e; rw [e]; rfl)))) (by rw [HNL.out]; simp [hX]; omega) H1n.out
    simpa using this
  have hfin : (((w.drew.setRow g X.toArray).setRow g (splice X (i) news).toArray).ownsRow B 30 1 (.slice (some ⟨g, 0, none⟩) (n + 1) c) (n + 1) (cs.take (i * 1) ++ (news ++ cs.drop (i * 1)))) := by
    have hsl : (splice X (i) news).length = cur.size := by rw [length_splice _ _ _ (by rw [HNL.out, hX]; omega), hX]
    refine ⟨by simp [HNL.out, hcN]; omega, .inr ⟨g, c, _, rfl, hBg, setRow_heap _ g _ _ 30 (0, 0) HG1.out, by omega, hcm, by simp [hsl, hcs], ?_⟩⟩
    have := splice_insert cur.toList cs news (i * 1) (by rw [hcN]; exact hi1) (by rw [hcN]; exact htake) (by rw [HNL.out, hcN]; simpa using hfit1)
    rw [HNL.out] at this
    have e3 : i * 1 + 1 = i + 1 := by omega
    have e4 : cs.length + 1 = (n + 1) * 1 := by rw [hcN]; omega
    rw [e3, ← hXe, e4] at this
    simp only [Nat.mul_one, List.toList_toArray] at this ⊢
    exact this
  have HF := Lib.hid hfin
  have HG := Lib.hid (gdrew (gtrans (gsetRow w.drew g X.toArray) (gsetRow _ g (splice X (i) news).toArray)))
  clear HG1 hX hfin hrow hdl hi1 hfit1 hcN htake hcs hcm hh HNC H1n H1 HNL HNE HQ HBY hcl
  clear hXe
  have wi : IntKind.i64.wrap ((i : Int) + 1) = (i : Int) + 1 := by rw [IntKind.wrap_i64]; omega
  go_enter Try.func106, Try.ntmps106
  go_wp2_with (simp only [hov])
  go_still_tail 8, (by kernel_rfl)
  refine wpList_copy_eq (by rfl) (.tmp 73) (.tmp 76) 22 22 (by rfl) _ _ (by rfl) (by rfl) (hcp1 _ _ _) ?_
  clear hcp1 hov
  obtain ⟨W1, hW1⟩ : ∃ W1, W1 = w.drew.setRow g X.toArray := ⟨_, rfl⟩
  rw [← hW1] at hcp2 HF HG ⊢
  clear hW1
  go_wp2_with (refine wpList_copy_eq (by rfl) (.tmp 80) (.tmp 81) 22 22 (by rfl) _ _ (by rfl) (by rfl) (hcp2 _ _) ?_)
  go_ret
  exact ⟨g, c, rfl, HF.out, HG.out, .inl rfl⟩

set_option maxRecDepth 100000 in
theorem insert_u32_grow (B n c i q : Nat) (g : Nat) (cs news : List Value) (w : World) (h : w.ownsRow B 30 1 (Value.slice (some ⟨g, 0, none⟩) n c) n cs) (hi : i < n)
    (hq : w.heap[q]? = some (.cells news.toArray 30 (0, 0))) (hnl : news.length = 1) (hne : (Value.slice (some ⟨g, 0, none⟩) n c).ownBlock ≠ some q) (h1 : ∀ u ∈ cs, u.oneCell' = true) (h1n : ∀ u ∈ news, u.oneCell' = true)
    (hB : B ≤ w.heap.size) (hby : (n + 1) * 4 ≤ 140737488355328) (hroom : ¬ n + 1 ≤ c) :
    Calls Try.prog 106 #[Value.slice (some ⟨g, 0, none⟩) n c, .int .i64 (i : Int), .slice (some ⟨q, 0, none⟩) 1 1] w fun e w' =>
      ∃ g' c', e = .returned (.slice (some ⟨g', 0, none⟩) (n + 1) c') ∧ w'.ownsRow B 30 1 (.slice (some ⟨g', 0, none⟩) (n + 1) c') (n + 1) (cs.take (i * 1) ++ (news ++ cs.drop (i * 1))) ∧ w.grownBy w' (Value.slice (some ⟨g, 0, none⟩) n c).ownBlock ∧ ((Value.slice (some ⟨g, 0, none⟩) n c).ownBlock = some g' ∨ w.heap.size ≤ g') := by
  have H := Lib.hid h
  have H1 := Lib.hid h1
  have H1n := Lib.hid h1n
  have HQ := Lib.hid hq
  have HNL := Lib.hid hnl
  have HNE := Lib.hid hne
  have HBY := Lib.hid hby
  have hcl := Lib.hid h.1
  clear h h1 h1n hq hnl hne hby
  obtain ⟨i0, hi0, hz0, hz1, hz2⟩ := info_parts info_u32_i
  have HNC : Hid (∀ j u, news[j]? = some u → w.cell? ((⟨q, 0, none⟩ : Addr).add j) = some u) := fun j u hu => by
    have e : (⟨q, 0, none⟩ : Addr).add j = ⟨q, j, none⟩ := by unfold Addr.add; split <;> simp_all
    rw [e]
    simp [World.cell?, HQ.out, hu]
  have t1 : ((1 : Int) == 0) = false := by decide
  have q0 : (0 : Int) ≤ (i : Int) := by omega
  obtain ⟨cur, hBg, hh, hnc, hcm, hcs, htake⟩ := own_open H.out
  have q1 : (i : Int) ≤ (n : Int) := by omega
  have t2 : ((i : Int) == (n : Int)) = false := by simp; omega
  have t3 : decide ((c : Int) < (n : Int) + 1) = true := by simp; omega
  have q3 : ((i : Int) + 1) ≤ (n : Int) + 1 := by omega
  have q4 : (0 : Int) ≤ (i : Int) + 1 := by omega
  have q5 : (i : Int) ≤ (c : Int) := by omega
  have q6 : ¬ c = i := by omega
  have q7 : (i : Int) ≤ (n : Int) + 1 := by omega
  have q8 : (0 : Int) ≤ (n : Int) + 1 := by omega
  have q9 : i ≤ n := by omega
  have hcN : cs.length = n * 1 := hcl.out
  have hi1 : i * 1 ≤ n * 1 := Nat.mul_le_mul_right _ q9
  have hdl : (cs.drop (i * 1)).length = (n - i) * 1 := by rw [List.length_drop, hcN, Nat.sub_mul]
  have hrow : ∀ j u, cs[j]? = some u → w.cell? ⟨g, j, none⟩ = some u := fun j u hu => by
    have hj : j < cs.length := (List.getElem?_eq_some_iff.1 hu).1
    rw [← htake, List.getElem?_take, if_pos (by omega)] at hu
    simp only [World.cell?, hh]
    simpa using hu
  obtain ⟨G, hG⟩ : ∃ G, G = grownCap w (n + 1) c 30 := ⟨_, rfl⟩
  have hGn : n + 1 ≤ G := by rw [hG]; exact grownCap_ge w _ _ _
  have hGm : G ≤ maxLen := by rw [hG]; exact grownCap_le_maxLen w _ _ _ (by have := HBY.out; unfold maxLen; omega)
  obtain ⟨Z, hZ⟩ : ∃ Z : Array Value, Z = (cs.take (i * 1)).toArray ++ Builtin.zeroCells (Value.int .u32 0).cells (n + 1 - i) ++ Builtin.zeroCells (Value.int .u32 0).cells (G - (n + 1)) := ⟨_, rfl⟩
  have hZl : Z.size = G * 1 := by
    rw [hZ]
    have e0 : (Value.int .u32 0).cells.size = 1 := rfl
    simp only [Array.size_append, List.size_toArray, List.length_take, size_zeroCells, e0]
    have := Nat.sub_mul (n + 1) i 1
    have := Nat.sub_mul G (n + 1) 1
    have := Nat.mul_le_mul_right 1 hGn
    rw [Nat.min_eq_left (by omega)]
    omega
  have hap : ∀ ty, (Builtin.append_ #[22, 3] ty #[.slice (some ⟨g, 0, none⟩) i c, .int .i64 ((n : Int) + 1 - (i : Int))]).run Try.prog w = .ok (.slice (some ⟨w.heap.size, 0, none⟩) (n + 1) G) (w.drew.alloc (.cells Z 30)) := fun ty => by
    have hold : (Builtin.firstCells i0.size i (.slice (some ⟨g, 0, none⟩) i c)).run Try.prog w.drew = .ok (cs.take (i * 1)).toArray w.drew := by
      rw [hz1]
      refine run_firstCells_some w.drew 1 i ⟨g, 0, none⟩ i c _ (by rw [List.length_take]; omega) (fun j u hu => ?_)
      rw [List.getElem?_take] at hu
      split at hu
      · have e : (⟨g, 0, none⟩ : Addr).add j = ⟨g, j, none⟩ := by unfold Addr.add; split <;> simp_all
        rw [e]; exact hrow _ _ hu
      · cases hu
    have := Lib.run_append_grow_zeros (P := Try.prog) w 22 3 ty 30 i0 (Value.int .u32 0) .i64 .i64 Try.underlying22 Try.underlying3 hi0 hz0 (some ⟨g, 0, none⟩) i c (cs.take (i * 1)) hold (n + 1 - i) (by omega) (by omega) (by omega) (by have := HBY.out; omega) (by rw [hz2]; have := HBY.out; have := Nat.mul_le_mul_right 4 (show n + 1 - i ≤ n + 1 by omega); omega) (by
      rw [hz2, show i + (n + 1 - i) = n + 1 by omega]
      exact growslice_fits (by omega) HBY.out)
    rw [show i + (n + 1 - i) = n + 1 by omega, ← hG, ← hZ] at this
    rw [show ((n : Int) + 1 - (i : Int)) = ((n + 1 - i : Nat) : Int) by omega]
    exact this
  obtain ⟨W1, hW1⟩ : ∃ W1, W1 = w.drew.alloc (.cells Z 30) := ⟨_, rfl⟩
  rw [← hW1] at hap
  have hhN : W1.heap[w.heap.size]? = some (.cells Z 30 (0, 0)) := by rw [hW1]; exact heap_alloc_new w.drew _
  have hold1 : ∀ k, k < w.heap.size → W1.heap[k]? = w.heap[k]? := fun k hk => by rw [hW1]; exact heap_alloc_old w.drew _ hk
  have hqs : q < w.heap.size := (Array.getElem?_eq_some_iff.1 HQ.out).1
  have hgs : g < w.heap.size := (Array.getElem?_eq_some_iff.1 hh).1
  have hgG := Nat.mul_le_mul_right 1 hGn
  have hcpA : ∀ ty dc, (Builtin.copy_ #[22, 22] ty #[.slice (some ⟨w.heap.size, i, none⟩) (n + 1 - i) dc, .slice (some ⟨q, 0, none⟩) 1 1]).run Try.prog W1 = .ok (goInt ((1 : Nat) : Int)) (W1.setRow w.heap.size (splice Z.toList (i) news).toArray) := fun ty dc =>
    run_copy_onto Try.underlying22 hi0 hz1 (w := W1) hhN news (by simp only [Nat.min_def]; split <;> omega) (by rw [HNL.out]) (fun j u hu => by
      have := HNC.out j u hu
      rw [← this]
      have e2 : (⟨q, 0, none⟩ : Addr).add j = ⟨q, j, none⟩ := by unfold Addr.add; split <;> simp_all
      rw [e2]
      exact World.cell?_of_block (hold1 _ hqs)) (by rw [HNL.out, hZl]; omega) H1n.out
  obtain ⟨Y, hY⟩ : ∃ Y, Y = splice Z.toList (i) news := ⟨_, rfl⟩
  rw [← hY] at hcpA
  have hYl : Y.length = G * 1 := by rw [hY, length_splice _ _ _ (by rw [HNL.out, Array.length_toList, hZl]; omega), Array.length_toList, hZl]
  obtain ⟨W2, hW2⟩ : ∃ W2, W2 = W1.setRow w.heap.size Y.toArray := ⟨_, rfl⟩
  rw [← hW2] at hcpA
  have hhN2 : W2.heap[w.heap.size]? = some (.cells Y.toArray 30 (0, 0)) := by rw [hW2]; exact setRow_heap W1 _ _ _ _ _ hhN
  have hold2 : ∀ k, k < w.heap.size → W2.heap[k]? = w.heap[k]? := fun k hk => by rw [hW2, setRow_other _ _ _ _ (by omega)]; exact hold1 k hk
  have hcpB : ∀ ty dc sc, (Builtin.copy_ #[22, 22] ty #[.slice (some ⟨w.heap.size, i + 1, none⟩) (n - i) dc, .slice (some ⟨g, i, none⟩) (n - i) sc]).run Try.prog W2.drew = .ok (goInt ((n - i : Nat) : Int)) (W2.drew.setRow w.heap.size (splice Y (i + 1) (cs.drop (i * 1))).toArray) := fun ty dc sc => by
    have := run_copy_onto (P := Try.prog) (ty := ty) (sT := 22) (dCap := dc) (sCap := sc) Try.underlying22 hi0 hz1 (w := W2.drew) (o := i + 1) (dLen := n - i) (sLen := n - i) (a := ⟨g, i, none⟩) (m := n - i) hhN2 (cs.drop (i * 1)) (by simp only [Nat.min_def]; split <;> omega) hdl (fun j u hu => by
      rw [List.getElem?_drop] at hu
      have e : (⟨g, i, none⟩ : Addr).add j = ⟨g, i * 1 + j, none⟩ := by unfold Addr.add; split <;> simp_all
      rw [e, ← hrow _ _ hu]
      exact World.cell?_of_block (hold2 g hgs)) (by rw [hdl]; simp [hYl]; have := Nat.sub_mul n i 1; omega) (fun u hu => H1.out u (List.mem_of_mem_drop hu))
    simpa using this
  have hfin : ((W2.drew.setRow w.heap.size (splice Y (i + 1) (cs.drop (i * 1))).toArray).ownsRow B 30 1 (.slice (some ⟨w.heap.size, 0, none⟩) (n + 1) G) (n + 1) (cs.take (i * 1) ++ (news ++ cs.drop (i * 1)))) := by
    have hsl : (splice Y (i + 1) (cs.drop (i * 1))).length = G * 1 := by rw [length_splice _ _ _ (by rw [hdl, hYl]; have := Nat.sub_mul n i 1; omega), hYl]
    refine ⟨by simp [HNL.out, hcN]; omega, .inr ⟨w.heap.size, G, _, rfl, hB, setRow_heap _ _ _ _ 30 (0, 0) hhN2, by omega, hGm, by simp only [List.size_toArray, hsl], ?_⟩⟩
    have ea : (cs.take (i * 1)).length = i * 1 := by rw [List.length_take]; omega
    have eY : Y.take (i + 1) = cs.take (i * 1) ++ news := by
      rw [hY, hZ]
      unfold splice
      have e5 : ((cs.take (i * 1)).toArray ++ Builtin.zeroCells (Value.int .u32 0).cells (n + 1 - i) ++ Builtin.zeroCells (Value.int .u32 0).cells (G - (n + 1))).toList.take (i) = cs.take (i * 1) := by
        simp only [Array.toList_append]
        rw [List.append_assoc, List.take_append_of_le_length (by rw [ea]; omega), List.take_of_length_le (by rw [ea]; omega)]
      rw [e5, ← List.append_assoc, List.take_append_of_le_length (by rw [List.length_append, ea, HNL.out]; omega), List.take_of_length_le (by rw [List.length_append, ea, HNL.out]; omega)]
    simp only [splice]
    rw [eY, ← List.append_assoc, List.take_append_of_le_length (by simp only [List.length_append, ea, HNL.out, hdl]; have := Nat.sub_mul n i 1; omega), List.take_of_length_le (by simp only [List.length_append, ea, HNL.out, hdl]; have := Nat.sub_mul n i 1; omega), List.append_assoc]
  have HF := Lib.hid hfin
  have hg : w.grownBy (W2.drew.setRow w.heap.size (splice Y (i + 1) (cs.drop (i * 1))).toArray) (some g) := by
    refine ⟨by rw [hW2, hW1]; rfl, by rw [hW2, hW1]; rfl, by rw [hW2, hW1]; rfl, by rw [hW2, hW1]; simp, fun k hk _ => ?_⟩
    rw [setRow_other _ _ _ _ (by omega)]
    exact hold2 k hk
  have HG := Lib.hid hg
  clear hg hfin
  obtain ⟨W3, hW3⟩ : ∃ W3, W3 = W2.drew.setRow w.heap.size (splice Y (i + 1) (cs.drop (i * 1))).toArray := ⟨_, rfl⟩
  rw [← hW3] at hcpB HF HG
  clear hW3
  have hG63 : G ≤ 9223372036854775807 := hGm
  have g1 : ¬ G = i := by omega
  have g2 : ¬ G = i + 1 := by omega
  have g3 : (i : Int) ≤ (n : Int) + 1 := by omega
  clear hold2 hhN2 hYl hgG hold1 hhN hZl hrow hdl hi1 hcN htake hcs hcm hh HNC H1n H1 HNL HNE HQ HBY hcl hGm hY hZ hG hqs hgs
  clear hW1 hW2
  go_enter Try.func106, Try.ntmps106
  have wi : IntKind.i64.wrap ((i : Int) + 1) = (i : Int) + 1 := by rw [IntKind.wrap_i64]; omega
  go_wp2_with (first
    | (at_builtin; refine wpList_append_eq (by rfl) (.tmp 34) (.tmp 39) 22 3 (by rfl) _ _ (by rfl) (by rfl) (hap _) ?_; clear hap)
    | (refine wpList_copy_eq (by rfl) (.tmp 43) (.tmp 44) 22 22 (by rfl) _ _ (by rfl) (by rfl) (hcpA _ _) ?_; clear hcpA))
  go_still_tail 8, (by kernel_rfl)
  refine wpList_copy_eq (by rfl) (.tmp 50) (.tmp 53) 22 22 (by rfl) _ _ (by rfl) (by rfl) (hcpB _ _ _) ?_
  go_wp2
  go_ret
  exact ⟨_, _, rfl, HF.out, HG.out, .inr (Nat.le_refl _)⟩

set_option maxRecDepth 100000 in
theorem insert_u32_nil (B q : Nat) (news : List Value) (w : World) (hq : w.heap[q]? = some (.cells news.toArray 30 (0, 0))) (hnl : news.length = 1) (h1n : ∀ u ∈ news, u.oneCell' = true) (hB : B ≤ w.heap.size) :
    Calls Try.prog 106 #[.slice none 0 0, .int .i64 0, .slice (some ⟨q, 0, none⟩) 1 1] w fun e w' =>
      ∃ g' c', e = .returned (.slice (some ⟨g', 0, none⟩) 1 c') ∧ w'.ownsRow B 30 1 (.slice (some ⟨g', 0, none⟩) 1 c') 1 news ∧ w.grownBy w' none ∧ w.heap.size ≤ g' := by
  have H1n := Lib.hid h1n
  have HQ := Lib.hid hq
  have HNL := Lib.hid hnl
  clear h1n hq hnl
  obtain ⟨i0, hi0, hz0, hz1, hz2⟩ := info_parts info_u32_i
  have HNC : Hid (∀ j u, news[j]? = some u → w.cell? ((⟨q, 0, none⟩ : Addr).add j) = some u) := fun j u hu => by
    have e : (⟨q, 0, none⟩ : Addr).add j = ⟨q, j, none⟩ := by unfold Addr.add; split <;> simp_all
    rw [e]
    simp [World.cell?, HQ.out, hu]
  have t1 : ((1 : Int) == 0) = false := by decide
  have t2 : ((0 : Int) == 0) = true := by decide
  go_enter Try.func106, Try.ntmps106
  go_wp2_with (at_builtin; refine wpList_append_lies _ (by rfl) (.tmp 23) (.tmp 24) 22 (by rfl) B 30 i0 (Value.int .u32 0) 1 4 Try.underlying22 hi0 hz0 hz1 hz2 rfl (by decide) (.slice none 0 0) 0 [] (by rfl) (World.ownsRow_nil _ _ _ _) ⟨q, 0, none⟩ 1 1 news (by rfl) HNL.out HNC.out H1n.out (by decide) (by decide) (by decide) hB w.heap.size rfl ?_; intro g cap w1 hown hgrow hat hlt)
  go_ret
  refine ⟨g, cap, rfl, hown, hgrow, ?_⟩
  rcases hat with e | e
  · simp [Value.ownBlock] at e
  · omega

/-- slices.Insert of one element at i, for every row that the call owns (nil too). -/
theorem insert_u32 (B n i q : Nat) (v : Value) (cs news : List Value) (w : World) (h : w.ownsRow B 30 1 v n cs) (hi : i ≤ n)
    (hq : w.heap[q]? = some (.cells news.toArray 30 (0, 0))) (hnl : news.length = 1) (hne : v.ownBlock ≠ some q) (h1 : ∀ u ∈ cs, u.oneCell' = true) (h1n : ∀ u ∈ news, u.oneCell' = true)
    (hB : B ≤ w.heap.size) (hby : (n + 1) * 4 ≤ 140737488355328) :
    Calls Try.prog 106 #[v, .int .i64 (i : Int), .slice (some ⟨q, 0, none⟩) 1 1] w fun e w' =>
      ∃ g' c', e = .returned (.slice (some ⟨g', 0, none⟩) (n + 1) c') ∧ w'.ownsRow B 30 1 (.slice (some ⟨g', 0, none⟩) (n + 1) c') (n + 1) (cs.take (i * 1) ++ (news ++ cs.drop (i * 1))) ∧ w.grownBy w' v.ownBlock ∧ (v.ownBlock = some g' ∨ w.heap.size ≤ g') := by
  have h' := h
  rcases h.2 with ⟨rfl, rfl⟩ | ⟨g, c, cur, rfl, _⟩
  · obtain rfl : i = 0 := by omega
    obtain rfl : cs = [] := List.eq_nil_of_length_eq_zero (by simpa using h.1)
    refine (insert_u32_nil B q news w hq hnl h1n hB).mono fun e w' ⟨g', c', he, ho, hg, hs⟩ => ⟨g', c', he, by simpa using ho, hg, .inr hs⟩
  · by_cases hin : i = n
    · exact insert_u32_end B n c i q g cs news w h' hin hq hnl hne h1 h1n hB hby
    · by_cases hr : n + 1 ≤ c
      · exact insert_u32_shift B n c i q g cs news w h' (by omega) hq hnl hne h1 h1n hB hby hr
      · exact insert_u32_grow B n c i q g cs news w h' (by omega) hq hnl hne h1 h1n hB hby hr
end Go.Proofs.Ytdkacdfhapgboaa

/- sim.front at uint32: the element comes to the front of its list. -/
set_option linter.unusedVariables false
namespace Go.Proofs.Ytdkacdfhapgboaa
open Go.RowKit

/-- What front makes of a list. -/
def frontL (xs : List Int) (x : Int) : List Int := x :: xs.erase x

theorem nums_one (k : IntKind) (xs : List Int) : ∀ u ∈ nums k xs, u.oneCell' = true := by
  intro u hu
  obtain ⟨x, _, rfl⟩ := List.mem_map.1 hu
  rfl

set_option maxRecDepth 100000 in
theorem front_miss (B n : Nat) (v : Value) (xs : List Int) (x : Int) (w : World) (h : w.ownsRow B 30 1 v n (nums .u32 xs)) (hB : B ≤ w.heap.size) (hby : (n + 1) * 4 ≤ 140737488355328) (hx : x ∉ xs) :
    Calls Try.prog 96 #[v, .int .u32 x] w fun e w' =>
      ∃ g' c', e = .returned (.tuple #[.slice (some ⟨g', 0, none⟩) (n + 1) c', .bool false]) ∧ w'.ownsRow B 30 1 (.slice (some ⟨g', 0, none⟩) (n + 1) c') (n + 1) (nums .u32 (x :: xs)) ∧ w.grownBy w' v.ownBlock ∧ (v.ownBlock = some g' ∨ w.heap.size ≤ g') := by
  obtain ⟨A, c, rfl, hr⟩ := own_rd h
  have hid : idxI xs x = -1 := by unfold idxI; rw [if_neg hx]
  have H := Lib.hid h
  have HR := Lib.hid hr
  have HBY := Lib.hid hby
  clear h hr hby hx
  go_enter Try.func96, Try.ntmps96
  go_wp2_with (first
    | (go_at_call 103; refine (index_u32 _ _ _ xs _ _ HR.out).mono ?_; rintro e w' ⟨rfl, rfl⟩)
    | (go_at_call 106; refine (insert_u32 B n 0 w.heap.size _ (nums .u32 xs) [.int .u32 x] _ (H.out.alloc _) (Nat.zero_le _) (heap_alloc_new w _) rfl (fun e => by have := (H.out.lt _ e).2; omega) (nums_one _ _) (by simp [Value.oneCell']) (by simp; omega) HBY.out).mono ?_; rintro e w' ⟨g', c', rfl, ho, hg, hs⟩))
  go_ret2
  refine ⟨g', c', by rfl, by simpa [nums] using ho, galloc hg, ?_⟩
  rcases hs with e | e
  · exact .inl e
  · exact .inr (by simp at e; omega)

set_option maxRecDepth 100000 in
theorem front_hit (B n c g : Nat) (xs : List Int) (x : Int) (w : World) (h : w.ownsRow B 30 1 (.slice (some ⟨g, 0, none⟩) n c) n (nums .u32 xs)) (hB : B ≤ w.heap.size) (hby : (n + 1) * 4 ≤ 140737488355328) (hx : x ∈ xs) :
    Calls Try.prog 96 #[.slice (some ⟨g, 0, none⟩) n c, .int .u32 x] w fun e w' =>
      ∃ g' c', e = .returned (.tuple #[.slice (some ⟨g', 0, none⟩) n c', .bool true]) ∧ w'.ownsRow B 30 1 (.slice (some ⟨g', 0, none⟩) n c') n (nums .u32 (x :: xs.erase x)) ∧ w.grownBy w' (some g) ∧ (some g = some g' ∨ w.heap.size ≤ g') := by
  obtain ⟨A, c0, hA, hr⟩ := own_rd h
  cases hA
  have hlen : xs.length = n := RdI.length hr
  have hlt := List.idxOf_lt_length_of_mem hx
  obtain ⟨i, hi⟩ : ∃ i, i = xs.idxOf x := ⟨_, rfl⟩
  have hid : idxI xs x = (i : Int) := by unfold idxI; rw [if_pos hx, hi]
  have hin : i < n := by omega
  have he := List.erase_eq_eraseIdx_of_idxOf hi.symm
  have hn : n - 1 + 1 = n := by omega
  have hge : (0 : Int) ≤ (i : Int) := by omega
  have hlt2 : (i : Int) < (n : Int) := by omega
  have hnm : (n : Int) ≤ 9223372036854775807 := by have := hr.le; omega
  have HN := Lib.hid hn
  have H := Lib.hid h
  have HR := Lib.hid hr
  have HBY := Lib.hid hby
  have HE := Lib.hid he
  clear h hr hby hx he hi hlt hlen hn
  go_enter Try.func96, Try.ntmps96
  go_wp2_with (go_at_call 103; refine (index_u32 _ _ _ xs _ _ HR.out).mono ?_; rintro e w' ⟨rfl, rfl⟩)
  refine (delete_u32 B g n c i xs _ H.out hin).mono ?_
  rintro e w1 ⟨rfl, ho1, hg1⟩
  have HO := Lib.hid ho1
  have HG := Lib.hid hg1
  have hB1 : B ≤ w1.heap.size := Nat.le_trans hB hg1.size
  have hsz := hg1.size
  clear ho1 hg1
  go_wp2_with (go_at_call 106; refine (insert_u32 B (n - 1) 0 w1.heap.size _ (nums .u32 (xs.eraseIdx i)) [.int .u32 x] _ (HO.out.alloc _) (Nat.zero_le _) (heap_alloc_new w1 _) rfl (fun e => by have := (HO.out.lt _ e).2; omega) (nums_one _ _) (by simp [Value.oneCell']) (by simp; omega) (by have := HBY.out; omega)).mono ?_; rintro e w' ⟨g', c', rfl, ho, hg, hs⟩)
  go_ret2
  rw [HN.out] at ho
  refine ⟨g', c', by rw [HN.out]; rfl, by rw [HE.out]; simpa [nums] using ho, gtrans HG.out (galloc hg), ?_⟩
  rcases hs with e | e
  · exact .inl e
  · exact .inr (by simp at e; omega)

/-- sim.front: whether the element was there; the list behind it. -/
theorem front_any (B n : Nat) (v : Value) (xs : List Int) (x : Int) (w : World) (h : w.ownsRow B 30 1 v n (nums .u32 xs)) (hB : B ≤ w.heap.size) (hby : (n + 1) * 4 ≤ 140737488355328) :
    Calls Try.prog 96 #[v, .int .u32 x] w fun e w' =>
      ∃ g' c', e = .returned (.tuple #[.slice (some ⟨g', 0, none⟩) (frontL xs x).length c', .bool (decide (x ∈ xs))]) ∧ w'.ownsRow B 30 1 (.slice (some ⟨g', 0, none⟩) (frontL xs x).length c') (frontL xs x).length (nums .u32 (frontL xs x)) ∧ w.grownBy w' v.ownBlock ∧ (v.ownBlock = some g' ∨ w.heap.size ≤ g') := by
  have hl : xs.length = n := by have := h.1; simpa using this
  by_cases hx : x ∈ xs
  · rcases h.2 with ⟨rfl, rfl⟩ | ⟨g, c, cur, rfl, _⟩
    · exact absurd (List.eq_nil_of_length_eq_zero hl ▸ hx) (by simp)
    · have e : (frontL xs x).length = n := by
        have := List.length_erase_of_mem hx
        have := List.length_pos_of_mem hx
        simp [frontL]; omega
      rw [e, decide_eq_true hx]
      exact front_hit B n c g xs x w h hB hby hx
  · have e : (frontL xs x).length = n + 1 := by simp [frontL, List.erase_of_not_mem hx, hl]
    rw [e, decide_eq_false hx, frontL, List.erase_of_not_mem hx]
    exact front_miss B n v xs x w h hB hby hx
end Go.Proofs.Ytdkacdfhapgboaa

/- sim.lines: which lines it yields. -/
set_option linter.unusedVariables false
set_option linter.unusedSimpArgs false
namespace Go.Proofs.Ytdkacdfhapgboaa
open Go.RowKit Go.Shelf
attribute [local go_sem] Oper.semAt_some

/-- A number of 32 bits. -/
abbrev U32 := { x : Int // 0 ≤ x ∧ x < 4294967296 }

/-- How many lines have a byte of cnt ones from at on. -/
def nLines (line at_ cnt : Int) : Nat := ((at_ + cnt - 1) / line - at_ / line + 1).toNat
def lineNo (line at_ : Int) (j : Nat) : Int := (at_ / line + (j : Int)) % (4294967296 / line)
theorem lineNo_range (line at_ : Int) (h1 : 1 ≤ line) (h2 : line ≤ 4294967296) (j : Nat) : 0 ≤ lineNo line at_ j ∧ lineNo line at_ j < 4294967296 := by
  have hq : 1 ≤ 4294967296 / line := by
    rw [Int.le_ediv_iff_mul_le (by omega)]; omega
  have hq2 : 4294967296 / line ≤ 4294967296 := Int.ediv_le_self _ (by omega)
  have := Int.emod_lt_of_pos (at_ / line + (j : Int)) (show 0 < 4294967296 / line by omega)
  have := Int.emod_nonneg (at_ / line + (j : Int)) (show 4294967296 / line ≠ 0 by omega)
  unfold lineNo
  omega
/-- The lines that an access touches. -/
def linesL (line at_ cnt : Int) (h1 : 1 ≤ line) (h2 : line ≤ 4294967296) : List U32 := (List.range (nLines line at_ cnt)).map fun j => ⟨lineNo line at_ j, lineNo_range line at_ h1 h2 j⟩

/-- Some blocks of cells lie as they lay. -/
def KeepB (bs : List Nat) (W W' : World) : Prop := ∀ b ∈ bs, ∀ o : Obj, W.heap[b]? = some o → o.isCells = true → W'.heap[b]? = some o
theorem KeepB.trans {bs : List Nat} {A B C : World} (h : KeepB bs A B) (k : KeepB bs B C) : KeepB bs A C := fun b hb o ho hc => k b hb o (h b hb o ho hc) hc
theorem KeepB.putObj (bs : List Nat) (W : World) (l : Nat) (o o' : Obj) (hl : W.heap[l]? = some o) (ho : o.isCells = false) : KeepB bs W (W.putObj l o') := fun b _ u hu hc => by
  have hne : b ≠ l := fun e => by subst e; rw [hl] at hu; cases hu; rw [ho] at hc; cases hc
  rw [World.putObj_heap_other hne]; exact hu
theorem KeepB.of_grownBy {bs : List Nat} {W W' : World} {row : Option Nat} (hg : W.grownBy W' row) (hrow : ∀ b ∈ bs, some b ≠ row) : KeepB bs W W' := fun b hb o ho _ =>
  (hg.block b (Array.getElem?_eq_some_iff.1 ho).1 (hrow b hb)).trans ho

theorem boxed_kept {bs : List Nat} {W W' : World} {b : Nat} {c : Array Value} {t : TypeId} (h : W.heap[b]? = some (.cells c t (0, 0))) (k : KeepB bs W W') (hb : b ∈ bs) : W'.heap[b]? = some (.cells c t (0, 0)) := k b hb _ h rfl

set_option maxHeartbeats 1000000 in
theorem lines1_in (n l Ba Bc Bn : Nat) (hn : 1 ≤ n) (line sets ways at_ cnt : Int) (h1 : 1 ≤ line) (h2 : line ≤ 4294967296) (ha : 0 ≤ at_ ∧ at_ < 4294967296) (hc : 1 ≤ cnt ∧ cnt ≤ 65536)
    (J Jx : List U32 → World → Prop) (W : World) (hJa : AbidesFrom W.heap.size J)
    (hY : ∀ pre (x : U32) W, J pre W → pre.length < nLines line at_ cnt → YieldAt Fence.wide (n - 1) Try.prog l #[.int .u32 x.1] W fun e W' =>
      (e = .returned (.bool true) ∧ J (pre ++ [x]) W' ∧ KeepB [Ba, Bc, Bn] W W') ∨ (e = .returned (.bool false) ∧ Jx (pre ++ [x]) W'))
    (hBa : W.heap[Ba]? = some (.cells #[.int .u32 at_] 30 (0, 0))) (hBc : W.heap[Bc]? = some (.cells #[.int .i64 line, .int .i64 sets, .int .i64 ways] 25 (0, 0))) (hBn : W.heap[Bn]? = some (.cells #[.int .i64 cnt] 3 (0, 0))) (h0 : J [] W) :
    CallsIn Fence.wide n Try.prog 104 #[.func (.yield l) #[] #[], .pointer (some ⟨Ba, 0, none⟩), .pointer (some ⟨Bc, 0, none⟩), .pointer (some ⟨Bn, 0, none⟩)] W fun e W' => (∃ v, e = .returned v) ∧
      ((∃ ys, ys = linesL line at_ cnt h1 h2 ∧ J ys W') ∨ (∃ pre, pre <+: linesL line at_ cnt h1 h2 ∧ Jx pre W')) := by
  have ca : W.cell? ⟨Ba, 0, none⟩ = some (.int .u32 at_) := by simp [World.cell?, hBa]
  have cc : W.cell? ⟨Bc, 0, none⟩ = some (.int .i64 line) := by simp [World.cell?, hBc]
  have cn : W.cell? ⟨Bn, 0, none⟩ = some (.int .i64 cnt) := by simp [World.cell?, hBn]
  obtain ⟨ha1, ha2⟩ := ha
  obtain ⟨hc1, hc2⟩ := hc
  refine callsIn_of_wp Try.func104 rfl trivial ?_ rfl
  simp only [Try.ntmps104, List.size_toArray, List.length_cons, List.length_nil, Nat.reduceAdd, Nat.reduceSub, Array.replicate_succ, Array.replicate_zero, List.push_toArray, List.append_toArray, List.nil_append, List.cons_append]
  gi_wp2_with fail
  gi_quiet (fail)
  gi_wp2_with fail
  have hN : nLines line at_ cnt = ((at_ + cnt - 1) / line - at_ / line + 1).toNat := rfl
  have hF0 : 0 ≤ at_ / line := Int.ediv_nonneg ha1 (by omega)
  have hF1 : at_ / line ≤ at_ := Int.ediv_le_self _ ha1
  have hL0 : at_ / line ≤ (at_ + cnt - 1) / line := Int.ediv_le_ediv (by omega) (by omega)
  have hL1 : (at_ + cnt - 1) / line ≤ at_ + cnt - 1 := Int.ediv_le_self _ (by omega)
  have hlen : (linesL line at_ cnt h1 h2).length = nLines line at_ cnt := by simp [linesL]
  have hget : ∀ j, j < nLines line at_ cnt → (linesL line at_ cnt h1 h2).take (j + 1) = (linesL line at_ cnt h1 h2).take j ++ [⟨lineNo line at_ j, lineNo_range line at_ h1 h2 j⟩] := fun j hj => by
    rw [List.take_succ_eq_append_getElem (by omega)]
    simp [linesL]
  have hno : ∀ j : Nat, lineNo line at_ j = (at_ / line + (j : Int)) % (4294967296 / line) := fun _ => rfl
  have hrng : ∀ j : Nat, 0 ≤ lineNo line at_ j ∧ lineNo line at_ j < 4294967296 := fun j => lineNo_range line at_ h1 h2 j
  generalize hLs : linesL line at_ cnt h1 h2 = LS at *
  have HLS := Lib.hid hLs
  clear hLs
  generalize nLines line at_ cnt = N at *
  generalize at_ / line = F at *
  generalize (at_ + cnt - 1) / line = L at *
  have HGET := Lib.hid hget
  have HNO := Lib.hid hno
  have HN := Lib.hid hN
  have HLEN := Lib.hid hlen
  have HRNG := Lib.hid hrng
  have HY := Lib.hid hY
  clear hget hno hN hlen hrng hY
  have hb1 : (1 : Int) ≤ line := h1
  have hq : (1 : Int) ≤ 4294967296 / line := by rw [Int.le_ediv_iff_mul_le (by omega)]; omega
  gi_loopw [7] (fun i wr => ∃ j : Nat, j ≤ N ∧ i = .int .i64 (F + (j : Int)) ∧ J (LS.take j) wr ∧ Hid (wr.heap[Ba]? = some (.cells #[.int .u32 at_] 30 (0, 0)) ∧ wr.heap[Bc]? = some (.cells #[.int .i64 line, .int .i64 sets, .int .i64 ways] 25 (0, 0)) ∧ wr.heap[Bn]? = some (.cells #[.int .i64 cnt] 3 (0, 0)))) (fun i _ => (L + 1 - intOf i).toNat)
  case atStart =>
    refine ⟨0, Nat.zero_le _, by simp, ?_, hBa, hBc, hBn⟩
    exact hJa _ _ _ none h0 ⟨rfl, rfl, rfl, Nat.le_refl _, fun _ _ _ => rfl⟩ (fun r e => by cases e)
  case round =>
    obtain ⟨j, hj, rfl, hJs, hbx⟩ := hrel
    by_cases hlt : j < N
    · have hle : F + (j : Int) ≤ L := by have := HN.out; omega
      obtain ⟨g1, g2, g3⟩ := hbx.out
      have cc' : wr.cell? ⟨Bc, 0, none⟩ = some (.int .i64 line) := by simp [World.cell?, g2]
      obtain ⟨fn, tmps, assign, body, hy, hR⟩ := HY.out (LS.take j) ⟨lineNo line at_ j, HRNG.out j⟩ wr hJs (by rw [List.length_take]; omega)
      dsimp only at hy
      have hxr := HRNG.out j
      rw [HNO.out j] at hy hxr
      obtain ⟨hx1, hx2⟩ := hxr
      gi_wp2_with fail
      refine hR.mono ?_
      rintro e W3 (⟨rfl, hJ3, hk3⟩ | ⟨rfl, hJx3⟩)
      · have hg := HGET.out j hlt
        have HJ := Lib.hid hJ3
        have HK := Lib.hid hk3
        have HG := Lib.hid hg
        clear hJ3 hk3 hg
        gi_wp2
        go_roundw
        case rel => exact ⟨j + 1, by omega, by go_num, by rw [HG.out]; exact HJ.out, boxed_kept g1 HK.out (by simp), boxed_kept g2 HK.out (by simp), boxed_kept g3 HK.out (by simp)⟩
        case measure => simp [intOf]; omega
      · have HJ := Lib.hid hJx3
        have HG := Lib.hid (HGET.out j hlt)
        clear hJx3
        gi_wp2
        refine bodyPost_ret (results_none rfl _ _ _) rfl ?_
        exact ⟨⟨_, rfl⟩, .inr ⟨_, ⟨_, by rw [HLS.out]; exact HG.out ▸ List.take_append_drop (j + 1) LS⟩, HJ.out⟩⟩
    · have hgt : L < F + (j : Int) := by have := HN.out; omega
      have hJ2 : J LS wr := by
        have : LS.take j = LS := List.take_of_length_le (by have := HLEN.out; omega)
        rw [← this]; exact hJs
      have HJ := Lib.hid hJ2
      clear hJs hJ2
      gi_wp2
      go_end0
      exact ⟨⟨_, rfl⟩, .inl ⟨LS, HLS.out.symm, HJ.out⟩⟩

/-- The iterator's contract, as the loop's law asks for it. -/
theorem lines_stops (n Ba Bc Bn : Nat) (hn : 1 ≤ n) (line sets ways at_ cnt : Int) (h1 : 1 ≤ line) (h2 : line ≤ 4294967296) (ha : 0 ≤ at_ ∧ at_ < 4294967296) (hc : 1 ≤ cnt ∧ cnt ≤ 65536) (w : World)
    (hBa : w.heap[Ba]? = some (.cells #[.int .u32 at_] 30 (0, 0))) (hBc : w.heap[Bc]? = some (.cells #[.int .i64 line, .int .i64 sets, .int .i64 ways] 25 (0, 0))) (hBn : w.heap[Bn]? = some (.cells #[.int .i64 cnt] 3 (0, 0))) :
    SeqStopsK Fence.wide n Try.prog 104 #[.pointer (some ⟨Ba, 0, none⟩), .pointer (some ⟨Bc, 0, none⟩), .pointer (some ⟨Bn, 0, none⟩)] (fun x : U32 => #[.int .u32 x.1]) (KeepB [Ba, Bc, Bn]) (fun xs => xs = linesL line at_ cnt h1 h2) (fun pre => pre <+: linesL line at_ cnt h1 h2) (nLines line at_ cnt) w := by
  intro l J Jx W hW hJ hJx hY h0
  have e : ∀ (b : Nat) (o : Obj), w.heap[b]? = some o → W.heap[b]? = some o := fun b o h => by
    rw [hW.block b (Array.getElem?_eq_some_iff.1 h).1]; exact h
  exact lines1_in n l Ba Bc Bn hn line sets ways at_ cnt h1 h2 ha hc J Jx W hJ hY (e _ _ hBa) (e _ _ hBc) (e _ _ hBn) h0

set_option maxHeartbeats 400000 in
theorem lines_any (line sets ways at_ cnt : Int) (w : World) : Calls Try.prog 95 #[.agg #[.int .i64 line, .int .i64 sets, .int .i64 ways], .int .u32 at_, .int .i64 cnt] w fun e w' =>
    e = .returned (.func (.func 104) #[] #[.pointer (some ⟨w.heap.size + 1, 0, none⟩), .pointer (some ⟨w.heap.size, 0, none⟩), .pointer (some ⟨w.heap.size + 2, 0, none⟩)]) ∧
      ((w.alloc (.cells #[.int .i64 line, .int .i64 sets, .int .i64 ways] 25)).alloc (.cells #[.int .u32 at_] 30)).alloc (.cells #[.int .i64 cnt] 3) = w' := by
  go_enter Try.func95, Try.ntmps95
  go_wp2
  go_ret
  exact ⟨rfl, rfl⟩
end Go.Proofs.Ytdkacdfhapgboaa

/- Words on a cache's sets in memory, and what an access makes of them. -/
set_option linter.unusedVariables false
set_option linter.unusedSimpArgs false
namespace Go.Proofs.Ytdkacdfhapgboaa
open Go.RowKit

/-! ### What may have changed: the blocks of F -/
structure Upd (F : Nat → Prop) (w w' : World) : Prop where
  os : w'.os = w.os
  tape : w'.tape = w.tape
  output : w'.output = w.output
  size : w.heap.size ≤ w'.heap.size
  block : ∀ k, k < w.heap.size → ¬ F k → w'.heap[k]? = w.heap[k]?
theorem Upd.refl (F : Nat → Prop) (w : World) : Upd F w w := ⟨rfl, rfl, rfl, Nat.le_refl _, fun _ _ _ => rfl⟩
theorem Upd.trans {F G : Nat → Prop} {a b c : World} (h : Upd F a b) (k : Upd G b c) (hG : ∀ i, G i → F i ∨ a.heap.size ≤ i) : Upd F a c :=
  ⟨k.os.trans h.os, k.tape.trans h.tape, k.output.trans h.output, Nat.le_trans h.size k.size, fun i hi hF => by
    refine (k.block i (Nat.lt_of_lt_of_le hi h.size) (fun hg => ?_)).trans (h.block i hi hF)
    rcases hG i hg with h1 | h1
    · exact hF h1
    · omega⟩
theorem Upd.mono {F G : Nat → Prop} {a b : World} (h : Upd F a b) (hG : ∀ i, F i → G i) : Upd G a b := ⟨h.os, h.tape, h.output, h.size, fun i hi hn => h.block i hi fun hf => hn (hG i hf)⟩
theorem Upd.of_grown {w w' : World} {row : Option Nat} (h : w.grownBy w' row) : Upd (fun k => row = some k) w w' := ⟨h.os, h.tape, h.output, h.size, fun k hk hn => h.block k hk fun e => hn e.symm⟩
theorem Upd.below {F : Nat → Prop} {B : Nat} {w w' : World} (h : Upd F w w') (hB : B ≤ w.heap.size) (hF : ∀ k, F k → B ≤ k) : Below B w w' :=
  ⟨h.os, h.tape, h.output, h.size, fun k hk => h.block k (by omega) fun hf => by have := hF k hf; omega⟩
theorem Upd.of_below {B : Nat} {w w' : World} (h : Below B w w') : Upd (fun k => B ≤ k) w w' := ⟨h.os, h.tape, h.output, h.size, fun k _ hn => h.block k (by omega)⟩
theorem Upd.alloc (F : Nat → Prop) (w : World) (o : Obj) : Upd F w (w.alloc o) := ⟨rfl, rfl, rfl, by simp, fun k hk _ => heap_alloc_old w o hk⟩
theorem Upd.setCell (w : World) (a : Addr) (v : Value) : Upd (fun k => k = a.block) w (w.setCell a v) := ⟨rfl, rfl, rfl, by simp [World.setCell], fun k _ hn => Below.heap_setCell w a v k hn⟩
theorem Upd.drew (F : Nat → Prop) (w : World) : Upd F w w.drew := ⟨rfl, rfl, rfl, Nat.le_refl _, fun _ _ _ => rfl⟩
theorem Upd.drewN (F : Nat → Prop) (w : World) (n : Nat) : Upd F w (w.drewN n) := ⟨rfl, rfl, rfl, Nat.le_refl _, fun _ _ _ => rfl⟩

/-- A row lies as it lay where its block is none of those that may have changed. -/
theorem own_upd {F : Nat → Prop} {w w' : World} {B : Nat} {e : TypeId} {sz : Nat} {v : Value} {n : Nat} {cs : List Value} (h : w.ownsRow B e sz v n cs) (hu : Upd F w w') (hn : ∀ k, v.ownBlock = some k → ¬ F k) : w'.ownsRow B e sz v n cs := by
  refine ⟨h.1, ?_⟩
  rcases h.2 with h0 | ⟨g, cap, cur, rfl, hb, hh, h1⟩
  · exact .inl h0
  · exact .inr ⟨g, cap, cur, rfl, hb, by rw [hu.block g (Array.getElem?_eq_some_iff.1 hh).1 (hn g rfl)]; exact hh, h1⟩
/-- .. and where only what is no cells has changed. -/
theorem own_nc {w w' : World} {row : Option Nat} {B : Nat} {e : TypeId} {sz : Nat} {v : Value} {n : Nat} {cs : List Value} (h : w.ownsRow B e sz v n cs) (hg : w.grownBy w' row) (hr : ∀ r, row = some r → ∃ o : Obj, w.heap[r]? = some o ∧ o.isCells = false) : w'.ownsRow B e sz v n cs := by
  refine h.kept hg ?_
  rcases h.2 with ⟨rfl, _⟩ | ⟨g, cap, cur, rfl, _, hh, _⟩
  · exact .inl rfl
  · refine .inr fun e' => ?_
    obtain ⟨o, ho, hc⟩ := hr g (by simpa [Value.ownBlock] using e'.symm)
    rw [hh] at ho; cases ho; cases hc
theorem heap_nc {w w' : World} {row : Option Nat} {b : Nat} {c : Array Value} {t : TypeId} (h : w.heap[b]? = some (.cells c t (0, 0))) (hg : w.grownBy w' row) (hr : ∀ r, row = some r → ∃ o : Obj, w.heap[r]? = some o ∧ o.isCells = false) : w'.heap[b]? = some (.cells c t (0, 0)) := by
  rw [hg.block b (Array.getElem?_eq_some_iff.1 h).1 (fun e => by
    obtain ⟨o, ho, hc⟩ := hr b e.symm
    rw [h] at ho; cases ho; cases hc)]
  exact h
theorem own_base' {w : World} {B B' : Nat} {e : TypeId} {sz : Nat} {v : Value} {n : Nat} {cs : List Value} (h : w.ownsRow B e sz v n cs) (hB : ∀ k, v.ownBlock = some k → B' ≤ k) : w.ownsRow B' e sz v n cs := by
  refine ⟨h.1, ?_⟩
  rcases h.2 with h0 | ⟨g, cap, cur, rfl, hb, rest⟩
  · exact .inl h0
  · exact .inr ⟨g, cap, cur, rfl, hB g rfl, rest⟩

/-! ### A cache's sets -/
def gl (L : List (List Int)) (i : Nat) : List Int := L.getD i []
def gv (vs : List Value) (i : Nat) : Value := vs.getD i undef
theorem gv_get (vs : List Value) (i : Nat) (h : i < vs.length) : gv vs i = vs[i] := by simp [gv, List.getD_eq_getElem?_getD, List.getElem?_eq_getElem h]
theorem gv_set (vs : List Value) (s i : Nat) (v : Value) (h : s < vs.length) : gv (vs.set s v) i = if i = s then v else gv vs i := by
  by_cases e : i = s
  · subst e; simp [gv, List.getD_eq_getElem?_getD, h]
  · rw [if_neg e]
    simp only [gv, List.getD_eq_getElem?_getD, List.getElem?_set]
    rw [if_neg (fun e' => e e'.symm)]
theorem gl_set (L : List (List Int)) (s i : Nat) (l : List Int) (h : s < L.length) : gl (L.set s l) i = if i = s then l else gl L i := by
  by_cases e : i = s
  · subst e; simp [gl, List.getD_eq_getElem?_getD, h]
  · rw [if_neg e]
    simp only [gl, List.getD_eq_getElem?_getD, List.getElem?_set]
    rw [if_neg (fun e' => e e'.symm)]

/-- The sets of a cache that the call owns: a row of slices, each of which has a row of its own. -/
structure OwnSets (w : World) (B g c : Nat) (vs : List Value) (L : List (List Int)) : Prop where
  row : w.ownsRow B 22 1 (.slice (some ⟨g, 0, none⟩) L.length c) L.length vs
  each : ∀ i, i < L.length → w.ownsRow B 30 1 (gv vs i) (gl L i).length (nums .u32 (gl L i))
  apart : ∀ i j, i < L.length → j < L.length → i ≠ j → (gv vs i).ownBlock = none ∨ (gv vs i).ownBlock ≠ (gv vs j).ownBlock
theorem OwnSets.vlen {w : World} {B g c : Nat} {vs : List Value} {L : List (List Int)} (h : OwnSets w B g c vs L) : vs.length = L.length := by have := h.row.1; omega
/-- The blocks on which the sets lie. -/
def foot (g : Nat) (vs : List Value) (n : Nat) (k : Nat) : Prop := k = g ∨ ∃ i, i < n ∧ (gv vs i).ownBlock = some k
theorem OwnSets.ne {w : World} {B g c : Nat} {vs : List Value} {L : List (List Int)} (h : OwnSets w B g c vs L) (i : Nat) (hi : i < L.length) : (gv vs i).ownBlock ≠ some g := by
  intro e
  rcases (h.each i hi).2 with ⟨e1, _⟩ | ⟨g', cap, cur, e1, hb, hh, _⟩
  · rw [e1] at e; simp [Value.ownBlock] at e
  · rw [e1] at e
    obtain rfl : g' = g := by simpa [Value.ownBlock] using e
    obtain ⟨cur', _, hh', _⟩ := own_open h.row
    rw [hh] at hh'
    simp at hh'
theorem OwnSets.foot_lt {w : World} {B g c : Nat} {vs : List Value} {L : List (List Int)} (h : OwnSets w B g c vs L) : ∀ k, foot g vs L.length k → B ≤ k ∧ k < w.heap.size := by
  rintro k (rfl | ⟨i, hi, e⟩)
  · exact h.row.lt k rfl
  · exact (h.each i hi).lt k e
theorem OwnSets.upd {F : Nat → Prop} {w w' : World} {B g c : Nat} {vs : List Value} {L : List (List Int)} (h : OwnSets w B g c vs L) (hu : Upd F w w') (hn : ∀ k, foot g vs L.length k → ¬ F k) : OwnSets w' B g c vs L :=
  ⟨own_upd h.row hu fun k e => hn k (.inl (by simpa [Value.ownBlock] using e.symm)), fun i hi => own_upd (h.each i hi) hu fun k e => hn k (.inr ⟨i, hi, e⟩), h.apart⟩
theorem OwnSets.nc {w w' : World} {row : Option Nat} {B g c : Nat} {vs : List Value} {L : List (List Int)} (h : OwnSets w B g c vs L) (hg : w.grownBy w' row) (hr : ∀ r, row = some r → ∃ o : Obj, w.heap[r]? = some o ∧ o.isCells = false) : OwnSets w' B g c vs L :=
  ⟨own_nc h.row hg hr, fun i hi => own_nc (h.each i hi) hg hr, h.apart⟩

/-- Behind a round: one set has a new row, and its slice is stored; F: what else has changed in between. -/
theorem sets_step {W W1 W2 : World} {B g c s g1 c1 : Nat} {vs : List Value} {L : List (List Int)} {l : List Int} (h : OwnSets W B g c vs L) (hs : s < L.length)
    (ho : W1.ownsRow B 30 1 (.slice (some ⟨g1, 0, none⟩) l.length c1) l.length (nums .u32 l)) (hg : W.grownBy W1 (gv vs s).ownBlock) (hat : (gv vs s).ownBlock = some g1 ∨ W.heap.size ≤ g1)
    {F : Nat → Prop} (hu : Upd F W1 W2) (hF : ∀ k, foot g vs L.length k → ¬ F k) (hF1 : ¬ F g1) (m : Nat) (hm : m ≤ l.length) :
    OwnSets (W2.setCell ⟨g, s, none⟩ (.slice (some ⟨g1, 0, none⟩) m c1)) B g c (vs.set s (.slice (some ⟨g1, 0, none⟩) m c1)) (L.set s (l.take m)) ∧
      (∀ k, foot g (vs.set s (.slice (some ⟨g1, 0, none⟩) m c1)) L.length k → foot g vs L.length k ∨ k = g1) := by
  have hvl := h.vlen
  have hgl : ∀ i, i < L.length → i ≠ s → ∀ k, (gv vs i).ownBlock = some k → k ≠ g1 := fun i hi hne k hk e => by
    subst e
    rcases hat with e | e
    · rcases h.apart i s hi hs hne with h1 | h1
      · rw [h1] at hk; cases hk
      · exact h1 (hk.trans e.symm)
    · have := (h.each i hi).lt k hk; omega
  have hgg : g1 ≠ g := fun e => by
    subst e
    rcases hat with e | e
    · exact h.ne s hs e
    · have := (h.row.lt g1 rfl).2; omega
  -- the other sets in W2
  have heach : ∀ i, i < L.length → i ≠ s → W2.ownsRow B 30 1 (gv vs i) (gl L i).length (nums .u32 (gl L i)) := fun i hi hne => by
    have h1 : W1.ownsRow B 30 1 (gv vs i) (gl L i).length (nums .u32 (gl L i)) := (h.each i hi).kept hg (by
      rcases h.apart i s hi hs hne with h1 | h1
      · exact .inl h1
      · exact .inr h1)
    exact own_upd h1 hu fun k hk => hF k (.inr ⟨i, hi, hk⟩)
  have hrow1 : W1.ownsRow B 22 1 (.slice (some ⟨g, 0, none⟩) L.length c) L.length vs := h.row.kept hg (.inr fun e => h.ne s hs e.symm)
  have hrow2 : W2.ownsRow B 22 1 (.slice (some ⟨g, 0, none⟩) L.length c) L.length vs := own_upd hrow1 hu fun k hk => hF k (.inl (by simpa [Value.ownBlock] using hk.symm))
  have hnew2 : W2.ownsRow B 30 1 (.slice (some ⟨g1, 0, none⟩) l.length c1) l.length (nums .u32 l) := own_upd ho hu fun k hk => by
    obtain rfl : g1 = k := by simpa [Value.ownBlock] using hk
    exact hF1
  have hnew : W2.ownsRow B 30 1 (.slice (some ⟨g1, 0, none⟩) m c1) m (nums .u32 (l.take m)) := by
    have := own_prefix hnew2 m hm
    simpa [nums, List.map_take] using this
  have hset : Upd (fun k => k = g) W2 (W2.setCell ⟨g, s, none⟩ (.slice (some ⟨g1, 0, none⟩) m c1)) := Upd.setCell W2 ⟨g, s, none⟩ _
  have hml : (l.take m).length = m := by simp; omega
  have hsv : s < vs.length := by omega
  refine ⟨⟨?_, ?_, ?_⟩, ?_⟩
  · have := (hrow2.stored s (.slice (some ⟨g1, 0, none⟩) m c1)).1
    simpa using this
  · intro i hi
    rw [List.length_set] at hi
    rw [gv_set _ _ _ _ hsv, gl_set _ _ _ _ hs]
    split
    · rw [hml]
      exact own_upd hnew hset fun k hk => by
        obtain rfl : g1 = k := by simpa [Value.ownBlock] using hk
        exact hgg
    · rename_i hne
      exact own_upd (heach i hi hne) hset fun k hk e => by subst e; exact h.ne i hi hk
  · intro i j hi hj hij
    rw [List.length_set] at hi hj
    rw [gv_set _ _ _ _ hsv, gv_set _ _ _ _ hsv]
    split
    · rename_i e
      subst e
      rw [if_neg (fun e => hij e.symm)]
      refine .inr fun e => ?_
      exact hgl j hj (fun e => hij e.symm) g1 (by simpa [Value.ownBlock] using e.symm) rfl
    · rename_i hne
      split
      · cases hk : (gv vs i).ownBlock with
        | none => exact .inl rfl
        | some k => exact .inr fun e => hgl i hi hne k hk (by simpa [Value.ownBlock] using e)
      · exact h.apart i j hi hj hij
  · rintro k (rfl | ⟨i, hi, hk⟩)
    · exact .inl (.inl rfl)
    · rw [gv_set _ _ _ _ hsv] at hk
      split at hk
      · obtain rfl : g1 = k := by simpa [Value.ownBlock] using hk
        exact .inr rfl
      · exact .inl (.inr ⟨i, hi, hk⟩)

/-! ### What an access makes of the sets -/
def setNo (sets : Int) (x : Int) : Nat := (x % sets).toNat
/-- One line: the sets behind it. -/
def touchL (sets ways : Int) (L : List (List Int)) (x : Int) : List (List Int) := L.set (setNo sets x) ((frontL (gl L (setNo sets x)) x).take ways.toNat)
def hitL (sets : Int) (L : List (List Int)) (x : Int) : Bool := decide (x ∈ gl L (setNo sets x))
def missL (hit : Bool) (x : Int) : List Int := match hit with | true => [] | false => [x]
/-- Several lines: the sets behind them, and those that were missed. -/
def runL (sets ways : Int) : List (List Int) → List Int → List (List Int) × List Int
  | L, [] => (L, [])
  | L, x :: xs => let r := runL sets ways (touchL sets ways L x) xs; (r.1, missL (hitL sets L x) x ++ r.2)
theorem runL_snoc (sets ways : Int) (xs : List Int) (x : Int) : ∀ L, runL sets ways L (xs ++ [x]) = (touchL sets ways (runL sets ways L xs).1 x, (runL sets ways L xs).2 ++ missL (hitL sets (runL sets ways L xs).1 x) x) := by
  induction xs with
  | nil => intro L; simp [runL]
  | cons y ys ih =>
    intro L
    simp only [List.cons_append, runL, ih, List.append_assoc]
theorem setNo_lt (n : Nat) (hn : 1 ≤ n) (x : Int) : setNo n x < n := by
  have := Int.emod_lt_of_pos x (show (0 : Int) < (n : Int) by omega)
  have := Int.emod_nonneg x (show (n : Int) ≠ 0 by omega)
  unfold setNo
  omega
theorem touchL_length (sets ways : Int) (L : List (List Int)) (x : Int) : (touchL sets ways L x).length = L.length := by simp [touchL]
theorem runL_length (sets ways : Int) (xs : List Int) : ∀ L, (runL sets ways L xs).1.length = L.length := by
  induction xs with
  | nil => intro L; rfl
  | cons x xs ih => intro L; simp only [runL, ih, touchL_length]
/-- Each set has at most so many lines. -/
def Small (ways : Int) (L : List (List Int)) : Prop := ∀ i, i < L.length → (gl L i).length ≤ ways.toNat
theorem touchL_small {sets ways : Int} {L : List (List Int)} (h : Small ways L) (x : Int) : Small ways (touchL sets ways L x) := by
  intro i hi
  rw [touchL_length] at hi
  by_cases hs : setNo sets x < L.length
  · rw [touchL, gl_set _ _ _ _ hs]
    split
    · simp; omega
    · exact h i hi
  · rw [touchL, List.set_eq_of_length_le (by omega)]; exact h i hi
theorem runL_small {sets ways : Int} (xs : List Int) : ∀ {L : List (List Int)}, Small ways L → Small ways (runL sets ways L xs).1 := by
  induction xs with
  | nil => intro L h; exact h
  | cons x xs ih => intro L h; exact ih (touchL_small h x)
theorem runL_out_le (sets ways : Int) (xs : List Int) : ∀ L, (runL sets ways L xs).2.length ≤ xs.length := by
  induction xs with
  | nil => intro L; simp [runL]
  | cons x xs ih =>
    intro L
    have := ih (touchL sets ways L x)
    simp only [runL]
    cases hitL sets L x <;> simp [missL] <;> omega
end Go.Proofs.Ytdkacdfhapgboaa

/- sim: empty, NewCache, cache (the check), CheckCache, owned. -/
set_option linter.unusedVariables false
set_option linter.unusedSimpArgs false
namespace Go.Proofs.Ytdkacdfhapgboaa
open Go.RowKit

/-! ### A cache that is read -/
/-- What a slice's value is: no address means no room. -/
structure SlU (w : World) (v : Value) (l : List Int) : Prop where
  rd : ∃ A c, v = .slice A l.length c ∧ (A = none → c = 0) ∧ l.length ≤ c ∧ RdI w .u32 A l.length l
  u32 : ∀ x ∈ l, 0 ≤ x ∧ x < 4294967296
structure RdSets (w : World) (A : Option Addr) (vs : List Value) (L : List (List Int)) : Prop where
  row : Rd w A L.length 1 vs
  each : ∀ i, i < L.length → SlU w (gv vs i) (gl L i)
theorem SlU.below {w w1 : World} {v : Value} {l : List Int} (h : SlU w v l) (hb : Below w.heap.size w w1) : SlU w1 v l :=
  ⟨let ⟨A, c, e, h1, h2, h3⟩ := h.rd; ⟨A, c, e, h1, h2, Rd.below h3 hb⟩, h.u32⟩
theorem RdSets.below {w w1 : World} {A : Option Addr} {vs : List Value} {L : List (List Int)} (h : RdSets w A vs L) (hb : Below w.heap.size w w1) : RdSets w1 A vs L :=
  ⟨Rd.below h.row hb, fun i hi => (h.each i hi).below hb⟩
theorem RdSets.vlen {w : World} {A : Option Addr} {vs : List Value} {L : List (List Int)} (h : RdSets w A vs L) : vs.length = L.length := by have := h.row.len; omega
theorem RdSets.at {w : World} {A : Option Addr} {vs : List Value} {L : List (List Int)} (h : RdSets w A vs L) (i : Nat) (hi : i < L.length) : ∃ ad, A = some ad ∧ w.cell? (ad.add i) = some (gv vs i) := by
  obtain ⟨ad, e, hc⟩ := h.row.cell i (by have := h.vlen; omega)
  exact ⟨ad, e, by rw [hc, gv_get _ _ (by have := h.vlen; omega)]⟩

/-! ### The check -/
def lineOk (line sets : Int) (l : List Int) (i j : Nat) : Prop := gi l j < 4294967296 / line ∧ gi l j % sets = (i : Int) ∧ gi l j ∉ l.take j
def setOk (line sets ways : Int) (l : List Int) (i : Nat) : Prop := (l.length : Int) ≤ ways ∧ ∀ j, j < l.length → lineOk line sets l i j
def cacheOk (line sets ways : Int) (L : List (List Int)) : Prop := shapeB line sets ways = true ∧ (L.length : Int) = sets ∧ ∀ i, i < L.length → setOk line sets ways (gl L i) i
instance (line sets : Int) (l : List Int) (i j : Nat) : Decidable (lineOk line sets l i j) := by unfold lineOk; infer_instance
instance (line sets ways : Int) (l : List Int) (i : Nat) : Decidable (setOk line sets ways l i) := by unfold setOk; infer_instance
instance (line sets ways : Int) (L : List (List Int)) : Decidable (cacheOk line sets ways L) := by unfold cacheOk; infer_instance

theorem shapeB_line {line sets ways : Int} (h : shapeB line sets ways = true) : 4 ≤ line ∧ line ≤ 256 ∧ 1 ≤ sets ∧ sets ≤ 1024 ∧ 1 ≤ ways ∧ ways ≤ 16 := by
  simp [shapeB, powerB] at h
  omega

set_option maxRecDepth 100000 in
set_option maxHeartbeats 1000000 in
theorem cache_any (line sets ways : Int) (A : Option Addr) (c : Nat) (vs : List Value) (L : List (List Int)) (w : World) (h : RdSets w A vs L) :
    Calls Try.prog 73 #[.agg #[.int .i64 line, .int .i64 sets, .int .i64 ways, .slice A L.length c]] w fun e w' => e = .returned (.bool (decide (cacheOk line sets ways L))) ∧ Below w.heap.size w w' := by
  have hle := h.row.le
  have H := Lib.hid h
  clear h
  cases hs : shapeB line sets ways
  · have hf : decide (cacheOk line sets ways L) = false := by simp [cacheOk, hs]
    rw [hf]
    go_enter Try.func73, Try.ntmps73
    go_wp2_with (go_at_call 72; refine (shape_any _ _ _ _).mono ?_; rintro e w' ⟨rfl, hb⟩; rw [hs])
    go_ret
    exact ⟨rfl, bvia (balloc w _) hb (Nat.le_refl _)⟩
  · obtain ⟨a1, a2, a3, a4, a5, a6⟩ := shapeB_line hs
    cases hn : ((L.length : Int) != sets)
    · have hsz : (L.length : Int) = sets := by simpa using hn
      go_enter Try.func73, Try.ntmps73
      go_wp2_with fail
      refine (shape_any _ _ _ _).mono ?_
      rintro e W ⟨rfl, hb⟩
      rw [hs]
      have hbw : Below w.heap.size w W := bvia (balloc w _) hb (Nat.le_refl _)
      have hbox : W.heap[w.heap.size]? = some (.cells #[.int .i64 line, .int .i64 sets, .int .i64 ways, .slice A L.length c] 36 (0, 0)) := (hb.block _ (by simp)).trans (heap_alloc_new w _)
      have c0 : W.cell? ⟨w.heap.size, 0, none⟩ = some (.int .i64 line) := by simp [World.cell?, hbox]
      have c1 : W.cell? ⟨w.heap.size, 1, none⟩ = some (.int .i64 sets) := by simp [World.cell?, hbox]
      have c2 : W.cell? ⟨w.heap.size, 2, none⟩ = some (.int .i64 ways) := by simp [World.cell?, hbox]
      have c3 : W.cell? ⟨w.heap.size, 3, none⟩ = some (.slice A L.length c) := by simp [World.cell?, hbox]
      have HW := Lib.hid (H.out.below hbw)
      clear hb hbox H
      go_wp2_with fail
      go_loop [23] (fun i => ∃ k : Nat, k ≤ L.length ∧ i = .int .i64 k ∧ Hid (∀ j, j < k → setOk line sets ways (gl L j) j)) (fun i => L.length - (intOf i).toNat)
      case atStart => exact ⟨0, Nat.zero_le _, rfl, Lib.hid (fun j hj => absurd hj (Nat.not_lt_zero _))⟩
      case round =>
        obtain ⟨k, hk, rfl, hok⟩ := hrel
        by_cases hlt : k < L.length
        · obtain ⟨ad, rfl, hc⟩ := HW.out.at k hlt
          obtain ⟨⟨B, cb, ev, _, hcb, hr⟩, hu⟩ := HW.out.each k hlt
          rw [ev] at hc
          have HR := Lib.hid hr
          have HU := Lib.hid hu
          have hln := hr.le
          clear hr hu ev
          by_cases hwy : ((gl L k).length : Int) ≤ ways
          · go_wp2_with fail
            have hle2 := HR.out.le
            go_loop [36] (fun i => ∃ m : Nat, m ≤ (gl L k).length ∧ i = .int .i64 m ∧ Hid (∀ j, j < m → lineOk line sets (gl L k) k j)) (fun i => (gl L k).length - (intOf i).toNat)
            case atStart => exact ⟨0, Nat.zero_le _, rfl, Lib.hid (fun j hj => absurd hj (Nat.not_lt_zero _))⟩
            case round =>
              obtain ⟨m, hm, rfl, hok2⟩ := hrel
              by_cases hlt2 : m < (gl L k).length
              · obtain ⟨bd, rfl, hcx⟩ := RdI.at HR.out m hlt2
                obtain ⟨u1, u2⟩ := HU.out _ (gi_mem (gl L k) m hlt2)
                have hnot : ¬ lineOk line sets (gl L k) k m → decide (cacheOk line sets ways L) = false := fun hh => decide_eq_false fun h => hh ((h.2.2 k hlt).2 m hlt2)
                have HRT := Lib.hid (HR.out.take m (by omega))
                obtain ⟨x, hx⟩ : ∃ x, x = gi (gl L k) m := ⟨_, rfl⟩
                rw [← hx] at hcx u1 u2
                have HX := Lib.hid hx
                have HNOT := Lib.hid hnot
                clear hx hnot
                by_cases t1 : x < 4294967296 / line
                · by_cases t2 : x % sets = (k : Int)
                  · cases t3 : decide (x ∈ (gl L k).take m)
                    · go_wp2_with (go_at_call 94; refine (contains_u32 _ _ _ ((gl L k).take m) _ _ HRT.out).mono ?_; rintro e w' ⟨rfl, rfl⟩; rw [t3])
                      go_round
                      case rel =>
                        refine ⟨m + 1, by omega, by go_num, fun j hj => ?_⟩
                        rcases Nat.lt_succ_iff_lt_or_eq.1 hj with h | rfl
                        · exact hok2.out j h
                        · exact ⟨by rw [← HX.out]; exact t1, by rw [← HX.out]; exact t2, by rw [← HX.out]; simpa using t3⟩
                      case measure => simp [intOf]; omega
                    · have HF := Lib.hid (HNOT.out fun h => h.2.2 (by rw [← HX.out]; simpa using t3))
                      go_wp2_with (go_at_call 94; refine (contains_u32 _ _ _ ((gl L k).take m) _ _ HRT.out).mono ?_; rintro e w' ⟨rfl, rfl⟩; rw [t3])
                      go_ret
                      exact ⟨by rw [HF.out]; rfl, hbw⟩
                  · have HF := Lib.hid (HNOT.out fun h => t2 (by rw [HX.out]; exact h.2.1))
                    have t3 := eq_false t2
                    clear t2
                    go_wp2
                    go_ret
                    exact ⟨by rw [HF.out]; rfl, hbw⟩
                · have HF := Lib.hid (HNOT.out fun h => t1 (by rw [HX.out]; exact h.1))
                  have t2 : 4294967296 / line ≤ x := by omega
                  clear t1
                  go_wp2
                  go_ret
                  exact ⟨by rw [HF.out]; rfl, hbw⟩
              · have hok3 : setOk line sets ways (gl L k) k := ⟨hwy, fun j hj => hok2.out j (by omega)⟩
                have HOK3 := Lib.hid hok3
                clear hok3
                go_wp2
                go_round
                case rel =>
                  refine ⟨k + 1, by omega, by go_num, fun j hj => ?_⟩
                  rcases Nat.lt_succ_iff_lt_or_eq.1 hj with h | rfl
                  · exact hok.out j h
                  · exact HOK3.out
                case measure => simp [intOf]; omega
          · have hf : decide (cacheOk line sets ways L) = false := by
              refine decide_eq_false fun h => hwy (h.2.2 k hlt).1
            have hwy2 : ways < ((gl L k).length : Int) := by omega
            have HF := Lib.hid hf
            clear hf hwy
            go_wp2_with fail
            go_ret
            exact ⟨by rw [HF.out]; rfl, hbw⟩
        · have hf : decide (cacheOk line sets ways L) = true := by
            refine decide_eq_true ⟨hs, hsz, fun i hi => hok.out i (by omega)⟩
          have HF := Lib.hid hf
          clear hf
          go_wp2
          go_ret
          exact ⟨by rw [HF.out]; rfl, hbw⟩
    · have hf : decide (cacheOk line sets ways L) = false := by
        have : ¬ (L.length : Int) = sets := by simpa using hn
        simp [cacheOk, this]
      rw [hf]
      go_enter Try.func73, Try.ntmps73
      go_wp2_with fail
      refine (shape_any _ _ _ _).mono ?_
      rintro e W ⟨rfl, hb⟩
      rw [hs]
      have hbw : Below w.heap.size w W := bvia (balloc w _) hb (Nat.le_refl _)
      have hbox : W.heap[w.heap.size]? = some (.cells #[.int .i64 line, .int .i64 sets, .int .i64 ways, .slice A L.length c] 36 (0, 0)) := (hb.block _ (by simp)).trans (heap_alloc_new w _)
      have c0 : W.cell? ⟨w.heap.size, 0, none⟩ = some (.int .i64 line) := by simp [World.cell?, hbox]
      have c1 : W.cell? ⟨w.heap.size, 1, none⟩ = some (.int .i64 sets) := by simp [World.cell?, hbox]
      have c2 : W.cell? ⟨w.heap.size, 2, none⟩ = some (.int .i64 ways) := by simp [World.cell?, hbox]
      have c3 : W.cell? ⟨w.heap.size, 3, none⟩ = some (.slice A L.length c) := by simp [World.cell?, hbox]
      go_wp2
      go_ret
      exact ⟨rfl, hbw⟩

theorem checkCache_any (line sets ways : Int) (A : Option Addr) (c : Nat) (vs : List Value) (L : List (List Int)) (w : World) (h : RdSets w A vs L) :
    Calls Try.prog 36 #[.agg #[.int .i64 line, .int .i64 sets, .int .i64 ways, .slice A L.length c]] w fun e w' => e = .returned (.int .i64 (if cacheOk line sets ways L then 0 else 330)) ∧ Below w.heap.size w w' := by
  have H := Lib.hid (h.below (balloc w (.cells #[.int .i64 line, .int .i64 sets, .int .i64 ways, .slice A L.length c] 36)))
  clear h
  have hif : (if cacheOk line sets ways L then (0 : Int) else 330) = if decide (cacheOk line sets ways L) = true then 0 else 330 := by by_cases h : cacheOk line sets ways L <;> simp [h]
  rw [hif]
  clear hif
  cases hq : decide (cacheOk line sets ways L)
  all_goals
    have HQ := Lib.hid hq
    clear hq
    go_enter Try.func36, Try.ntmps36
    go_wp2_with (first | (go_at_call 73; refine (cache_any _ _ _ _ _ _ _ _ H.out).mono ?_; rintro e w' ⟨rfl, hb⟩; rw [HQ.out]) | (go_at_call 69; refine (number_any _ _).mono ?_; rintro e w' ⟨rfl, rfl⟩))
    go_ret
    exact ⟨rfl, bvia (balloc w _) hb (Nat.le_refl _)⟩

end Go.Proofs.Ytdkacdfhapgboaa

/- sim: empty, NewCache. -/
set_option linter.unusedVariables false
set_option linter.unusedSimpArgs false
namespace Go.Proofs.Ytdkacdfhapgboaa
open Go.RowKit

theorem empty_sets : (Try.prog.info? 22).map (fun i => (i.zero, i.size, i.bytes)) = some (some (.slice none 0 0), 1, 24) := by kernel_rfl
theorem made_nil (n : Nat) : (madeCells (Value.slice none 0 0).cells (n * 1)).toList = List.replicate n (.slice none 0 0) := by
  apply List.ext_getElem
  · simp [madeCells]
  · intro i h1 h2
    have e : i % 1 = 0 := Nat.mod_one i
    simp [madeCells, Value.cells, e]

/-- A cache's sets, all of them empty, in a row just made. -/
theorem ownSets_new {w : World} {B g n : Nat} (h : w.ownsRow B 22 1 (.slice (some ⟨g, 0, none⟩) n n) n (List.replicate n (.slice none 0 0))) : OwnSets w B g n (List.replicate n (.slice none 0 0)) (List.replicate n []) := by
  have e1 : ∀ i, i < n → gv (List.replicate n (Value.slice none 0 0)) i = .slice none 0 0 := fun i hi => by simp [gv, List.getD_eq_getElem?_getD, List.getElem?_replicate, hi]
  have e2 : ∀ i, i < n → gl (List.replicate n []) i = [] := fun i hi => by simp [gl, List.getD_eq_getElem?_getD, List.getElem?_replicate, hi]
  refine ⟨by simpa using h, fun i hi => ?_, fun i j hi hj hne => .inl ?_⟩
  · rw [List.length_replicate] at hi
    rw [e1 i hi, e2 i hi]
    exact World.ownsRow_nil _ _ _ _
  · rw [List.length_replicate] at hi
    rw [e1 i hi]; rfl

theorem results_cell1 {fn : Func} {a : Tmp} {ty : TypeId} (h : fn.results = #[.cell a ty]) {tmps : Array Value} {P : Program} {w : World} {p : Addr} {v : Value} (ha : tmps[a]?.getD undef = .pointer (some p)) (hl : (loadVar ty p).run P w = .ok v w) :
    (results fn tmps).run P w = .ok v w := by
  simp [results, h, ha, hl, asAddr]
theorem results_cell2 {fn : Func} {a t : Tmp} {ty : TypeId} (h : fn.results = #[.cell a ty, .tmp t]) {tmps : Array Value} {P : Program} {w : World} {p : Addr} {v u : Value} (ha : tmps[a]?.getD undef = .pointer (some p)) (hu : tmps[t]?.getD undef = u) (hl : (loadVar ty p).run P w = .ok v w) :
    (results fn tmps).run P w = .ok (.tuple #[v, u]) w := by
  simp [results, h, ha, hl, hu, asAddr]
theorem results_cell3 {fn : Func} {a t t' : Tmp} {ty : TypeId} (h : fn.results = #[.cell a ty, .tmp t, .tmp t']) {tmps : Array Value} {P : Program} {w : World} {p : Addr} {v u u' : Value} (ha : tmps[a]?.getD undef = .pointer (some p)) (hu : tmps[t]?.getD undef = u) (hu' : tmps[t']?.getD undef = u') (hl : (loadVar ty p).run P w = .ok v w) :
    (results fn tmps).run P w = .ok (.tuple #[v, u, u']) w := by
  simp [results, h, ha, hl, hu, hu', asAddr]
theorem OwnSets.base {w : World} {B B' g c : Nat} {vs : List Value} {L : List (List Int)} (h : OwnSets w B g c vs L) (hB : ∀ k, foot g vs L.length k → B' ≤ k) : OwnSets w B' g c vs L :=
  ⟨own_base' h.row fun k hk => hB k (.inl (by simpa [Value.ownBlock] using hk.symm)), fun i hi => own_base' (h.each i hi) fun k hk => hB k (.inr ⟨i, hi, hk⟩), h.apart⟩

set_option maxRecDepth 100000 in
theorem empty_any (line ways : Int) (n : Nat) (hn : n ≤ 1024) (w : World) :
    Calls Try.prog 71 #[.agg #[.int .i64 line, .int .i64 (n : Int), .int .i64 ways]] w fun e w' => ∃ g, e = .returned (.agg #[.int .i64 line, .int .i64 (n : Int), .int .i64 ways, .slice (some ⟨g, 0, none⟩) n n]) ∧ OwnSets w' w.heap.size g n (List.replicate n (.slice none 0 0)) (List.replicate n []) ∧ Below w.heap.size w w' := by
  obtain ⟨i0, hi, hz0, hz1, hz2⟩ := info_parts empty_sets
  have hmk : ∀ W, (Instr.makeSlice 34 (.int .i64 (n : Int)) (.int .i64 (n : Int))).run Try.prog W = .ok (.slice (some ⟨W.heap.size, 0, none⟩) n n) (W.alloc (.cells (madeCells (Value.slice none 0 0).cells (n * 1)) 22)) := fun W => by
    have := Go.run_make (P := Try.prog) W 34 22 i0 (.slice none 0 0) Try.underlying34 hi hz0 .i64 .i64 n n (by omega) (Int.le_refl _) (by rw [hz2]; omega) (by omega)
    rw [hz1] at this
    simpa using this
  go_enter Try.func71, Try.ntmps71
  go_wp2_with fail
  go_region
  go_wp2
  (try simp only [Exit.inBlock, Exit.then])
  refine bodyPost_ret (v := .agg #[.int .i64 line, .int .i64 (n : Int), .int .i64 ways, .slice (some ⟨w.heap.size + 1 + 1, 0, none⟩) n n]) (results_cell1 rfl rfl (run_loadVar_row (P := Try.prog) _ _ 36 36 _ (0, 0) _ ?_ Try.underlying36 rfl (by kernel_rfl))) rfl ?_
  · have e := heap_alloc_new (w.alloc (.cells #[.int .i64 line, .int .i64 (n : Int), .int .i64 ways] 25)) (.cells #[.int .i64 line, .int .i64 (n : Int), .int .i64 ways, .slice (some ⟨w.heap.size + 1 + 1, 0, none⟩) n n] 36)
    have e2 : (w.alloc (.cells #[.int .i64 line, .int .i64 (n : Int), .int .i64 ways] 25)).heap.size = w.heap.size + 1 := by simp
    rw [e2] at e
    exact (heap_alloc_old _ _ (by simp)).trans e
  · refine ⟨_, rfl, ownSets_new ?_, ?_⟩
    · have hX := World.ownsRow_lit (base := w.heap.size) (e := 22) (size := 1) ((w.alloc (.cells #[.int .i64 line, .int .i64 (n : Int), .int .i64 ways] 25)).alloc (.cells #[.int .i64 line, .int .i64 (n : Int), .int .i64 ways, .slice (some ⟨w.heap.size + 1 + 1, 0, none⟩) n n] 36))
        (madeCells (Value.slice none 0 0).cells (n * 1)) n (by simp <;> omega) (by unfold maxLen; omega) (by simp [madeCells])
      rw [made_nil] at hX
      have e3 : ((w.alloc (.cells #[.int .i64 line, .int .i64 (n : Int), .int .i64 ways] 25)).alloc (.cells #[.int .i64 line, .int .i64 (n : Int), .int .i64 ways, .slice (some ⟨w.heap.size + 1 + 1, 0, none⟩) n n] 36)).heap.size = w.heap.size + 1 + 1 := by simp
      rw [e3, Nat.mul_one] at hX
      exact hX
    · exact bdrewN ((((Below.refl _ _).alloc (Nat.le_refl _) _).alloc (by simp) _).alloc (by simp <;> omega) _) 1

/-- A box of four cells whose cells are written one after the other. -/
theorem set4_heap {W : World} {b : Nat} {a0 a1 a2 a3 : Value} {t : TypeId} (h : W.heap[b]? = some (.cells #[a0, a1, a2, a3] t (0, 0))) (v0 v1 v2 v3 : Value) :
    ((((W.setCell ⟨b, 0, none⟩ v0).setCell ⟨b, 1, none⟩ v1).setCell ⟨b, 2, none⟩ v2).setCell ⟨b, 3, none⟩ v3).heap[b]? = some (.cells #[v0, v1, v2, v3] t (0, 0)) := by
  obtain ⟨hb, e⟩ := Array.getElem?_eq_some_iff.1 h
  simp [World.setCell, e, hb, Array.getElem_modify, Array.getElem?_modify]
theorem bset4 {B : Nat} {W0 W : World} (h : Below B W0 W) {b : Nat} (hb : B ≤ b) (v0 v1 v2 v3 : Value) : Below B W0 ((((W.setCell ⟨b, 0, none⟩ v0).setCell ⟨b, 1, none⟩ v1).setCell ⟨b, 2, none⟩ v2).setCell ⟨b, 3, none⟩ v3) :=
  (((h.setCell hb _).setCell hb _).setCell hb _).setCell hb _

set_option maxRecDepth 100000 in
set_option maxHeartbeats 1000000 in
theorem newCache_bad (line sets ways : Int) (hs : shapeB line sets ways = false) (w : World) :
    Calls Try.prog 33 #[.agg #[.int .i64 line, .int .i64 sets, .int .i64 ways]] w fun e w' => Below w.heap.size w w' ∧ e = .returned (.tuple #[.agg #[.int .i64 0, .int .i64 0, .int .i64 0, .slice none 0 0], .int .i64 330]) := by
  go_enter Try.func33, Try.ntmps33
  go_wp2_with fail
  refine (shape_any _ _ _ _).mono ?_
  rintro e W ⟨rfl, hb⟩
  rw [hs]
  have hb2 : Below w.heap.size w W := ((((Below.refl _ _).alloc (Nat.le_refl _) _).alloc (by simp) _)).trans (hb.mono (by simp <;> omega))
  have hbox : W.heap[w.heap.size + 1]? = some (.cells #[.int .i64 0, .int .i64 0, .int .i64 0, .slice none 0 0] 36 (0, 0)) := by
    rw [hb.block _ (by simp)]
    have := heap_alloc_new (w.alloc (.cells #[.int .i64 line, .int .i64 sets, .int .i64 ways] 25)) (.cells #[.int .i64 0, .int .i64 0, .int .i64 0, .slice none 0 0] 36)
    simpa using this
  have HB := Lib.hid hbox
  have c0 : W.cell? ⟨w.heap.size + 1, 0, none⟩ = some (.int .i64 0) := by simp [World.cell?, hbox]
  have c1 : W.cell? ⟨w.heap.size + 1, 1, none⟩ = some (.int .i64 0) := by simp [World.cell?, hbox]
  have c2 : W.cell? ⟨w.heap.size + 1, 2, none⟩ = some (.int .i64 0) := by simp [World.cell?, hbox]
  have c3 : W.cell? ⟨w.heap.size + 1, 3, none⟩ = some (.slice none 0 0) := by simp [World.cell?, hbox]
  have d0 : ∀ o, W.frozen? ⟨w.heap.size + 1, o, none⟩ = false := fun o => by simp [World.frozen?, hbox]
  clear hbox hb
  go_wp2
  (try simp only [Exit.inBlock, Exit.then])
  refine bodyPost_ret (v := .tuple #[.agg #[.int .i64 0, .int .i64 0, .int .i64 0, .slice none 0 0], .int .i64 330]) (results_cell2 rfl rfl rfl (run_loadVar_row (P := Try.prog) _ _ 36 36 _ (0, 0) _ (set4_heap HB.out _ _ _ _) Try.underlying36 rfl (by kernel_rfl))) rfl ?_
  exact ⟨bset4 hb2 (by omega) _ _ _ _, rfl⟩

set_option maxRecDepth 100000 in
set_option maxHeartbeats 1000000 in
theorem newCache_ok (line ways : Int) (n : Nat) (hs : shapeB line n ways = true) (w : World) :
    Calls Try.prog 33 #[.agg #[.int .i64 line, .int .i64 (n : Int), .int .i64 ways]] w fun e w' => Below w.heap.size w w' ∧
      ∃ g, e = .returned (.tuple #[.agg #[.int .i64 line, .int .i64 (n : Int), .int .i64 ways, .slice (some ⟨g, 0, none⟩) n n], .int .i64 0]) ∧ OwnSets w' w.heap.size g n (List.replicate n (.slice none 0 0)) (List.replicate n []) := by
  obtain ⟨_, _, _, hn, _, _⟩ := shapeB_line hs
  go_enter Try.func33, Try.ntmps33
  go_wp2_with fail
  refine (shape_any _ _ _ _).mono ?_
  rintro e W ⟨rfl, hb⟩
  rw [hs]
  have hb2 : Below w.heap.size w W := ((((Below.refl _ _).alloc (Nat.le_refl _) _).alloc (by simp) _)).trans (hb.mono (by simp <;> omega))
  have hbox : W.heap[w.heap.size + 1]? = some (.cells #[.int .i64 0, .int .i64 0, .int .i64 0, .slice none 0 0] 36 (0, 0)) := by
    rw [hb.block _ (by simp)]
    have := heap_alloc_new (w.alloc (.cells #[.int .i64 line, .int .i64 (n : Int), .int .i64 ways] 25)) (.cells #[.int .i64 0, .int .i64 0, .int .i64 0, .slice none 0 0] 36)
    simpa using this
  have hbx : W.heap[w.heap.size]? = some (.cells #[.int .i64 line, .int .i64 (n : Int), .int .i64 ways] 25 (0, 0)) := by
    rw [hb.block _ (by simp <;> omega)]
    exact (heap_alloc_old _ _ (by simp)).trans (heap_alloc_new w _)
  have hwsz := hb.size
  simp at hwsz
  have HB := Lib.hid hbox
  have e0 : W.cell? ⟨w.heap.size, 0, none⟩ = some (.int .i64 line) := by simp [World.cell?, hbx]
  have e1 : W.cell? ⟨w.heap.size, 1, none⟩ = some (.int .i64 (n : Int)) := by simp [World.cell?, hbx]
  have e2 : W.cell? ⟨w.heap.size, 2, none⟩ = some (.int .i64 ways) := by simp [World.cell?, hbx]
  clear hbox hb hbx
  go_wp2_with fail
  refine (empty_any _ _ _ (by omega) _).mono ?_
  rintro e W1 ⟨g, rfl, hos, hb3⟩
  have hbox1 : W1.heap[w.heap.size + 1]? = some (.cells #[.int .i64 0, .int .i64 0, .int .i64 0, .slice none 0 0] 36 (0, 0)) := (hb3.block _ (by omega)).trans HB.out
  have HB1 := Lib.hid hbox1
  have c0 : W1.cell? ⟨w.heap.size + 1, 0, none⟩ = some (.int .i64 0) := by simp [World.cell?, hbox1]
  have c1 : W1.cell? ⟨w.heap.size + 1, 1, none⟩ = some (.int .i64 0) := by simp [World.cell?, hbox1]
  have c2 : W1.cell? ⟨w.heap.size + 1, 2, none⟩ = some (.int .i64 0) := by simp [World.cell?, hbox1]
  have c3 : W1.cell? ⟨w.heap.size + 1, 3, none⟩ = some (.slice none 0 0) := by simp [World.cell?, hbox1]
  have d0 : ∀ o, W1.frozen? ⟨w.heap.size + 1, o, none⟩ = false := fun o => by simp [World.frozen?, hbox1]
  have HOS := Lib.hid hos
  clear hbox1 hos
  go_wp2
  (try simp only [Exit.inBlock, Exit.then])
  refine bodyPost_ret (v := .tuple #[.agg #[.int .i64 line, .int .i64 (n : Int), .int .i64 ways, .slice (some ⟨g, 0, none⟩) n n], .int .i64 0]) (results_cell2 rfl rfl rfl (run_loadVar_row (P := Try.prog) _ _ 36 36 _ (0, 0) _ (set4_heap HB1.out _ _ _ _) Try.underlying36 rfl (by kernel_rfl))) rfl ?_
  refine ⟨bset4 (hb2.trans (hb3.mono (by omega))) (by omega) _ _ _ _, g, rfl, ?_⟩
  have hft := HOS.out.foot_lt
  refine (HOS.out.upd (F := fun k => k = w.heap.size + 1) ?_ ?_).base ?_
  · exact (((Upd.setCell W1 ⟨w.heap.size + 1, 0, none⟩ _).trans (Upd.setCell _ ⟨w.heap.size + 1, 1, none⟩ _) fun _ h => .inl h).trans (Upd.setCell _ ⟨w.heap.size + 1, 2, none⟩ _) fun _ h => .inl h).trans (Upd.setCell _ ⟨w.heap.size + 1, 3, none⟩ _) fun _ h => .inl h
  · intro k hk e
    have := (hft k hk).1
    omega
  · intro k hk
    have := (hft k hk).1
    omega
end Go.Proofs.Ytdkacdfhapgboaa

/- sim.owned: a cache with rows of its own. -/
set_option linter.unusedVariables false
set_option linter.unusedSimpArgs false
namespace Go.Proofs.Ytdkacdfhapgboaa
open Go.RowKit

theorem Rd.drew {w : World} {A : Option Addr} {n sz : Nat} {cs : List Value} (h : Rd w A n sz cs) : Rd w.drew A n sz cs := ⟨h.len, h.le, h.cell⟩
theorem undrew {B : Nat} {w W : World} (h : Below B w.drew W) : Below B w W := ⟨h.os, h.tape, h.output, h.size, h.block⟩

/-- Behind k rounds. -/
structure OwnedI (w : World) (g c' k : Nat) (vs : List Value) (L : List (List Int)) (line sets ways : Int) (vsn : List Value) (W : World) : Prop where
  len : vsn.length = L.length
  row : W.ownsRow (w.heap.size + 2) 22 1 (.slice (some ⟨g, 0, none⟩) L.length c') L.length vsn
  rest : ∀ i, k ≤ i → gv vsn i = gv vs i
  new : ∀ i, i < k → W.ownsRow (w.heap.size + 2) 30 1 (gv vsn i) (gl L i).length (nums .u32 (gl L i)) ∧ (gv vsn i).ownBlock ≠ some g
  apart : ∀ i j, i < k → j < k → i ≠ j → (gv vsn i).ownBlock = none ∨ (gv vsn i).ownBlock ≠ (gv vsn j).ownBlock
  below : Below w.heap.size w W
  box : W.heap[w.heap.size]? = some (.cells #[.int .i64 line, .int .i64 sets, .int .i64 ways, .slice (some ⟨g, 0, none⟩) L.length c'] 36 (0, 0))
  box2 : W.heap[w.heap.size + 1]? = some (.cells #[.int .i64 0, .int .i64 0, .int .i64 0, .slice none 0 0] 36 (0, 0))

theorem OwnedI.step {w W W1 : World} {g c' k : Nat} {vs : List Value} {L : List (List Int)} {line sets ways : Int} {vsn : List Value} {v : Value} (h : OwnedI w g c' k vs L line sets ways vsn W) (hk : k < L.length)
    (hb : Below W.heap.size W W1) (ho : W1.ownsRow W.heap.size 30 1 v (gl L k).length (nums .u32 (gl L k))) :
    OwnedI w g c' (k + 1) vs L line sets ways (vsn.set k v) (W1.setCell ⟨g, k, none⟩ v) := by
  have hgl := h.row.lt g rfl
  have hkl : k < vsn.length := by rw [h.len]; exact hk
  have hup : Upd (fun j => W.heap.size ≤ j) W W1 := Upd.of_below hb
  have hrow1 := own_upd h.row hup fun j hj hge => by
    have e : g = j := by simpa [Value.ownBlock] using hj
    omega
  have hset : Upd (fun j => j = g) W1 (W1.setCell ⟨g, k, none⟩ v) := Upd.setCell W1 ⟨g, k, none⟩ v
  have hvg : v.ownBlock ≠ some g := fun e => by have := (ho.lt g e).1; omega
  have hw2 : w.heap.size + 2 ≤ W.heap.size := by omega
  have hbx : ∀ (j : Nat) (o : Obj), j < w.heap.size + 2 → W.heap[j]? = some o → (W1.setCell ⟨g, k, none⟩ v).heap[j]? = some o := fun j o hj e => by
    have hjl := (Array.getElem?_eq_some_iff.1 e).1
    rw [hset.block j (by have := hb.size; omega) (by omega), hb.block j hjl]; exact e
  refine ⟨by simp [h.len], ?_, ?_, ?_, ?_, ?_, hbx _ _ (by omega) h.box, hbx _ _ (by omega) h.box2⟩
  · have := (hrow1.stored k v).1
    simpa using this
  · intro i hi
    rw [gv_set _ _ _ _ hkl, if_neg (by omega)]
    exact h.rest i (by omega)
  · intro i hi
    rw [gv_set _ _ _ _ hkl]
    split
    · rename_i e
      subst e
      exact ⟨own_upd (own_base' ho fun j hj => by have := (ho.lt j hj).1; omega) hset fun j hj e => hvg (e ▸ hj), hvg⟩
    · obtain ⟨h1, h2⟩ := h.new i (by omega)
      exact ⟨own_upd (own_upd h1 hup fun j hj hge => by have := (h1.lt j hj).2; omega) hset fun j hj e => h2 (e ▸ hj), h2⟩
  · intro i j hi hj hij
    have key : ∀ i, i < k → (gv vsn i).ownBlock = none ∨ (gv vsn i).ownBlock ≠ v.ownBlock := fun i hi => by
      cases e : (gv vsn i).ownBlock with
      | none => exact .inl rfl
      | some b =>
        refine .inr fun e2 => ?_
        have h1 := ((h.new i hi).1.lt b e).2
        have h2 := (ho.lt b e2.symm).1
        omega
    rw [gv_set _ _ _ _ hkl, gv_set _ _ _ _ hkl]
    split
    · rename_i e
      subst e
      rw [if_neg (fun e => hij e.symm)]
      rcases key j (by omega) with h1 | h1
      · cases e : v.ownBlock with
        | none => exact .inl rfl
        | some b => rw [h1]; exact .inr (by simp)
      · exact .inr fun e => h1 e.symm
    · split
      · exact key i (by omega)
      · exact h.apart i j (by omega) (by omega) hij
  · exact (h.below.trans (hb.mono (by omega))).setCell (by show w.heap.size ≤ g; omega) v

set_option maxRecDepth 100000 in
set_option maxHeartbeats 1000000 in
theorem owned_any (line sets ways : Int) (A : Option Addr) (c : Nat) (vs : List Value) (L : List (List Int)) (w : World) (h : RdSets w A vs L) (hA : A = none → c = 0) (h1 : 1 ≤ L.length) (h2 : L.length ≤ 1024) (h3 : ∀ i, i < L.length → (gl L i).length ≤ 1024) :
    Calls Try.prog 59 #[.agg #[.int .i64 line, .int .i64 sets, .int .i64 ways, .slice A L.length c]] w fun e w' => ∃ g c' vs', e = .returned (.agg #[.int .i64 line, .int .i64 sets, .int .i64 ways, .slice (some ⟨g, 0, none⟩) L.length c']) ∧
      OwnSets w' w.heap.size g c' vs' L ∧ Below w.heap.size w w' := by
  have hb0 : Below w.heap.size w ((w.alloc (.cells #[.int .i64 line, .int .i64 sets, .int .i64 ways, .slice A L.length c] 36)).alloc (.cells #[.int .i64 0, .int .i64 0, .int .i64 0, .slice none 0 0] 36)) :=
    ((Below.refl _ _).alloc (Nat.le_refl _) _).alloc (by simp) _
  have hone : ∀ u ∈ vs, u.oneCell' = true := fun u hu => by
    obtain ⟨i, hi, rfl⟩ := List.getElem_of_mem hu
    have hi' : i < L.length := by rw [← h.vlen]; exact hi
    obtain ⟨Ai, ci, e, _⟩ := (h.each i hi').rd
    rw [gv_get _ _ hi] at e
    rw [e]; rfl
  have H := Lib.hid h
  have HONE := Lib.hid hone
  have HL := Lib.hid h3
  clear h h3 hone
  go_enter Try.func59, Try.ntmps59
  go_wp2_with fail
  refine (clone_sets _ _ _ vs _ (Rd.below H.out.row hb0) hA HONE.out (by omega)).mono ?_
  rintro e W ⟨v, rfl, ho, hb⟩
  obtain ⟨g, c', rfl⟩ : ∃ g c', v = .slice (some ⟨g, 0, none⟩) L.length c' := by
    rcases ho.2 with ⟨_, e⟩ | ⟨g, cap, cur, e, _⟩
    · omega
    · exact ⟨g, cap, e⟩
  have e2 : ((w.alloc (.cells #[.int .i64 line, .int .i64 sets, .int .i64 ways, .slice A L.length c] 36)).alloc (.cells #[.int .i64 0, .int .i64 0, .int .i64 0, .slice none 0 0] 36)).heap.size = w.heap.size + 2 := by simp
  rw [e2] at ho hb
  have hbx : W.heap[w.heap.size]? = some (.cells #[.int .i64 line, .int .i64 sets, .int .i64 ways, .slice A L.length c] 36 (0, 0)) := by
    rw [hb.block _ (by omega)]
    exact (heap_alloc_old _ _ (by simp)).trans (heap_alloc_new w _)
  have hbx2 : W.heap[w.heap.size + 1]? = some (.cells #[.int .i64 0, .int .i64 0, .int .i64 0, .slice none 0 0] 36 (0, 0)) := by
    rw [hb.block _ (by omega)]
    have := heap_alloc_new (w.alloc (.cells #[.int .i64 line, .int .i64 sets, .int .i64 ways, .slice A L.length c] 36)) (.cells #[.int .i64 0, .int .i64 0, .int .i64 0, .slice none 0 0] 36)
    simpa using this
  have q3 : W.cell? ⟨w.heap.size, 3, none⟩ = some (.slice A L.length c) := by simp [World.cell?, hbx]
  have q4 : W.frozen? ⟨w.heap.size, 3, none⟩ = false := by simp [World.frozen?, hbx]
  have hgl := ho.lt g rfl
  obtain ⟨W1, hW1⟩ : ∃ W1, W.setCell ⟨w.heap.size, 3, none⟩ (.slice (some ⟨g, 0, none⟩) L.length c') = W1 := ⟨_, rfl⟩
  have hI0 : OwnedI w g c' 0 vs L line sets ways vs W1 := by
    rw [← hW1]
    have hset : Upd (fun j => j = w.heap.size) W (W.setCell ⟨w.heap.size, 3, none⟩ (.slice (some ⟨g, 0, none⟩) L.length c')) := Upd.setCell W ⟨w.heap.size, 3, none⟩ _
    refine ⟨H.out.vlen, own_upd ho hset fun j hj e => ?_, fun _ _ => rfl, fun i hi => absurd hi (Nat.not_lt_zero _), fun i j hi => absurd hi (Nat.not_lt_zero _), (hb0.trans (hb.mono (by omega))).setCell (Nat.le_refl _) _, ?_, ?_⟩
    · have e3 : g = j := by simpa [Value.ownBlock] using hj
      omega
    · obtain ⟨hq, e⟩ := Array.getElem?_eq_some_iff.1 hbx
      simp [World.setCell, e, hq, Array.getElem_modify, Array.getElem?_modify]
    · rw [hset.block _ (by omega) (by omega)]; exact hbx2
  have r3 : W1.cell? ⟨w.heap.size, 3, none⟩ = some (.slice (some ⟨g, 0, none⟩) L.length c') := by simp [World.cell?, hI0.box]
  have HI := Lib.hid hI0
  clear hI0 hbx hbx2 e2 hb ho hb0
  go_wp2_with fail
  go_loopw [12] (fun i wr => ∃ k : Nat, k ≤ L.length ∧ i = .int .i64 k ∧ ∃ vsn, Hid (OwnedI w g c' k vs L line sets ways vsn wr)) (fun i _ => L.length - (intOf i).toNat)
  case atStart => exact ⟨0, Nat.zero_le _, rfl, _, HI⟩
  case round =>
    obtain ⟨k, hk, rfl, vsn, hI⟩ := hrel
    by_cases hlt : k < L.length
    · have hc : wr.cell? ⟨g, k, none⟩ = some (gv vs k) := by
        have := hI.out.row.cellAt k (by omega)
        rw [this, ← hI.out.rest k (Nat.le_refl _), gv_get _ _ (by have := hI.out.len; omega)]
        exact List.getElem?_eq_getElem _
      have hf : wr.frozen? ⟨g, k, none⟩ = false := hI.out.row.frozenAt k
      have hx : wr.cell? ⟨w.heap.size, 3, none⟩ = some (.slice (some ⟨g, 0, none⟩) L.length c') := by simp [World.cell?, hI.out.box]
      obtain ⟨⟨B, cb, ev, hB0, hcb, hr⟩, hu⟩ := (H.out.below hI.out.below).each k hlt
      rw [ev] at hc
      have hgr := (hI.out.row.lt g rfl)
      have hwb := World.block_lt_of_cell? wr _ hx
      have HR := Lib.hid hr
      have HU := Lib.hid hu
      have HK := Lib.hid (HL.out k hlt)
      clear hr hu ev
      have hon : ∀ u ∈ nums .u32 (gl L k), u.oneCell' = true := nums_one _ _
      have kp : ∀ W2, Below wr.heap.size wr W2 → W2.cell? ⟨w.heap.size, 3, none⟩ = some (.slice (some ⟨g, 0, none⟩) L.length c') := fun W2 h => bkeep h hx
      have kp2 : ∀ W2 v, Below wr.heap.size wr W2 → (W2.setCell ⟨g, k, none⟩ v).cell? ⟨w.heap.size, 3, none⟩ = some (.slice (some ⟨g, 0, none⟩) L.length c') := fun W2 v h => by
        have e := (Upd.setCell W2 ⟨g, k, none⟩ v).block w.heap.size (by have := h.size; omega) (by show ¬ w.heap.size = g; omega)
        have := kp W2 h
        simp only [World.cell?, e] at this ⊢
        exact this
      go_wp2_with fail
      go_region_held3 (fun w' => w'.cell? ⟨w.heap.size, 3, none⟩ = some (.slice (some ⟨g, 0, none⟩) L.length c')) (first | exact hx | exact kp _ (undrew hb2) | exact kp2 _ _ (undrew hb2)) (first | (go_at_call 19; refine (clone_u32 B _ cb _ wr.drew (Rd.drew HR.out) hB0 hon (by have := HK.out; omega)).mono ?_; rintro e W2 ⟨v2, rfl, ho2, hb2⟩; obtain ⟨A2, c2, rfl, _⟩ := own_rd ho2; have s1 := bkeep (undrew hb2) hc; have s2 := ((undrew hb2).frozen (p := ⟨g, k, none⟩) hgr.2).trans hf))
      have HS := Lib.hid (OwnedI.step hI.out hlt (undrew hb2) ho2)
      clear ho2 hb2
      go_wp2
      go_roundw
      case rel => exact ⟨k + 1, by omega, by go_num, _, HS⟩
      case measure => simp [intOf]; omega
    · have hI' := hI.out
      obtain rfl : k = L.length := by omega
      have HI' := Lib.hid hI'
      have z0 : wr.cell? ⟨w.heap.size, 0, none⟩ = some (.int .i64 line) := by simp [World.cell?, hI'.box]
      have z1 : wr.cell? ⟨w.heap.size, 1, none⟩ = some (.int .i64 sets) := by simp [World.cell?, hI'.box]
      have z2 : wr.cell? ⟨w.heap.size, 2, none⟩ = some (.int .i64 ways) := by simp [World.cell?, hI'.box]
      have z3 : wr.cell? ⟨w.heap.size, 3, none⟩ = some (.slice (some ⟨g, 0, none⟩) L.length c') := by simp [World.cell?, hI'.box]
      have y0 : wr.cell? ⟨w.heap.size + 1, 0, none⟩ = some (.int .i64 0) := by simp [World.cell?, hI'.box2]
      have y1 : wr.cell? ⟨w.heap.size + 1, 1, none⟩ = some (.int .i64 0) := by simp [World.cell?, hI'.box2]
      have y2 : wr.cell? ⟨w.heap.size + 1, 2, none⟩ = some (.int .i64 0) := by simp [World.cell?, hI'.box2]
      have y3 : wr.cell? ⟨w.heap.size + 1, 3, none⟩ = some (.slice none 0 0) := by simp [World.cell?, hI'.box2]
      have d0 : ∀ o, wr.frozen? ⟨w.heap.size + 1, o, none⟩ = false := fun o => by simp [World.frozen?, hI'.box2]
      clear hI' hI
      go_wp2
      (try simp only [Exit.inBlock, Exit.then])
      refine bodyPost_ret (v := .agg #[.int .i64 line, .int .i64 sets, .int .i64 ways, .slice (some ⟨g, 0, none⟩) L.length c']) (results_cell1 rfl rfl (run_loadVar_row (P := Try.prog) _ _ 36 36 _ (0, 0) _ (set4_heap HI'.out.box2 _ _ _ _) Try.underlying36 rfl (by kernel_rfl))) rfl ?_
      refine ⟨g, c', vsn, rfl, ?_, bset4 HI'.out.below (by omega) _ _ _ _⟩
      have hos : OwnSets wr (w.heap.size + 2) g c' vsn L := ⟨HI'.out.row, fun i hi => (HI'.out.new i hi).1, HI'.out.apart⟩
      have hft := hos.foot_lt
      refine (hos.upd (F := fun k => k = w.heap.size + 1) ?_ ?_).base ?_
      · exact (((Upd.setCell wr ⟨w.heap.size + 1, 0, none⟩ _).trans (Upd.setCell _ ⟨w.heap.size + 1, 1, none⟩ _) fun _ h => .inl h).trans (Upd.setCell _ ⟨w.heap.size + 1, 2, none⟩ _) fun _ h => .inl h).trans (Upd.setCell _ ⟨w.heap.size + 1, 3, none⟩ _) fun _ h => .inl h
      · intro k hk e
        have := (hft k hk).1
        omega
      · intro k hk
        have := (hft k hk).1
        omega
end Go.Proofs.Ytdkacdfhapgboaa

/- A region that draws its order and leaves the world alone, inside a round of a range over a function: the lexical walk serves every order. -/
set_option linter.unusedVariables false
set_option linter.unusedSimpArgs false
namespace Go.Proofs.Ytdkacdfhapgboaa
open Go.RowKit Go.Shelf
section
variable {F : Fence} {n : Nat} {P : Program} {ops : Array Oper} {md : Region.Mode} {C : World → Prop}

def noDefer (ops : Array Oper) : Bool := ops.all fun o => match o.op with | .defer _ => false | _ => true
theorem noDefer_spec (h : noDefer ops = true) (i : Nat) (o : Oper) (ho : ops[i]? = some o) : ∀ c, o.op ≠ .defer c := by
  intro c hc
  obtain ⟨hi, rfl⟩ := Array.getElem?_eq_some_iff.1 ho
  have := (Array.all_eq_true.1 h) i hi
  rw [hc] at this
  exact absurd this (by simp)

theorem wpIn_of_quiet_nd {o : Oper} {a : Act} {K : Act → Prop} {K' : Act → World → Prop} {Q' : Exit → Act → World → Prop} {w : World} (hnd : ∀ c, o.op ≠ .defer c) (hw : C w) (h : ∀ a w', C w' → K a → K' a w')
    (ha : o.askedIn F P a C) (hh : o.quietIn F n P a C K) : o.wpIn F n P a w K' Q' := by
  obtain ⟨v, h1, h2⟩ := hh
  have h3 := h1 w hw
  unfold Oper.quietAtIn at h3
  refine ⟨ha w hw, ?_⟩
  rw [Oper.semAt_eq _ _ _ hnd]
  cases hr : (execOp a.eval o).run P w with
  | ok x w' =>
    rw [hr] at h3
    cases x <;> simp only [Oper.quietUponIn] at h3 <;> simp only [Oper.uponIn]
    case value u =>
      obtain ⟨rfl, rfl⟩ := h3
      exact h _ _ hw h2
    case skip =>
      obtain ⟨rfl, rfl⟩ := h3
      exact h _ _ hw h2
    case enter f args =>
      obtain ⟨rfl, hd, hc⟩ := h3
      exact ⟨hd, hc.mono fun e w'' ⟨he, hw''⟩ => by subst he; exact h _ _ hw'' h2⟩
  | halt x w' => rw [hr] at h3; exact h3.elim
theorem wpOpIn_nd {i : Nat} {a : Act} {K : Act → Prop} {K' : Act → World → Prop} {Q' : Exit → Act → World → Prop} {w : World} (hnd : noDefer ops = true) (hC : C w) (h : ∀ a w', C w' → K a → K' a w')
    (hh : qOpIn F n P ops C i K a) : wpOpIn F n P ops Q' i K' a w := by
  unfold qOpIn at hh
  unfold wpOpIn
  cases ho : ops[i]? with
  | none => simp only [ho] at hh ⊢; exact h _ _ hC hh
  | some o =>
    simp only [ho] at hh ⊢
    obtain ⟨ha, hh⟩ := hh
    split
    · rename_i hw; simp only [hw, if_true] at hh; exact wpIn_of_quiet_nd (noDefer_spec hnd i o ho) hC h ha hh
    · rename_i hw; simp only [hw] at hh; exact ⟨ha w hC, h _ _ hC hh⟩
theorem wpAnyIn_nd {Q : Act → Prop} {Q' : Exit → Act → World → Prop} (hnd : noDefer ops = true) (hQ : ∀ a w, C w → Q a → Q' .normal a w) : ∀ (fuel : Nat) (listed : Array Bool) (a : Act) (w : World), C w →
    wpAnyQIn F n P md ops C Q fuel listed a → wpAnyIn F n P md ops Q' fuel listed a w
  | 0, _, _, _, hw, h => ⟨h.1, hQ _ _ hw h.2⟩
  | fuel + 1, _, _, _, hw, h => ⟨fun h0 => hQ _ _ hw (h.1 h0), fun i hi => wpOpIn_nd hnd hw (fun a' w' hw' => wpAnyIn_nd hnd hQ fuel _ a' w' hw') (h.2 i hi)⟩
/-- 'wpIn_region_quiet_lit' in a round: what is asked instead is that no operation is a defer statement. -/
theorem region_quiet_nd {id : Nat} {Q : Exit → Act → World → Prop} {a : Act} {w : World} {l : List Oper} (hnd : noDefer l.toArray = true) (hm : P.follows .mixedOrders = true) (hB : Region.lexB .any l.toArray = true)
    (h : wpQuietIn F n P l.toArray (fun w' => ∃ n, w' = w.drewN n) (fun a' => ∀ w', (∃ n, w' = w.drewN n) → Q .normal a' w') l a) : (Code.region id l.toArray true).wpIn F n P Q a w := by
  simp only [Region.lexB, Bool.and_eq_true] at hB
  refine wpIn_region_any hm (wpAnyIn_nd (C := fun w' => ∃ n, w' = w.drewN n) (Q := fun a' => ∀ w', (∃ n, w' = w.drewN n) → Q .normal a' w') hnd (fun _ w' hw' h => h w' hw') _ _ _ _ ⟨1, rfl⟩ ?_)
  have := wpAnyQIn_lex (F := F) (n := n) (P := P) (C := fun w' => ∃ n, w' = w.drewN n) (md := .any) hB.1 l 0 (Array.replicate l.toArray.size false) a (by simp) (by simpa using hB.2) h
  simpa using this
end
end Go.Proofs.Ytdkacdfhapgboaa
