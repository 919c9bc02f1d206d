/- Part 5 of the texts that the proof stands on: FeedL. -/
import Derived.Test.YtdkacdfhapgboaaM04
import Derived.Deep.RegionHeld3
import Derived.Deep.DeepCutAuto
import Derived.Deep.RegionWith

/- The loop of sim.Feed: events of kinds 1 and 2 of one instruction. (printed by gen/feedl.py) -/
set_option linter.unusedVariables false
set_option linter.unusedSimpArgs false
namespace Go.Proofs.Ytdkacdfhapgboaa
open Go.RowKit

def codeL : Code → Code | .seq a _ => a | c => c
def codeR : Code → Code | .seq _ b => b | c => c
/-- The loop's code. -/
noncomputable def feedCode : Code := codeR (codeL (codeR (codeR (codeR (codeR (codeR (Try.f28.body.getD .skip)))))))

theorem FRow.block {P : FP} {S : FS} {g cap : Nat} {uI uD uL : List Value} {W : World} (h : FRow P S g cap uI uD uL W) : ∃ cur, W.heap[g]? = some (.cells cur 79 (0, 0)) ∧ ∀ j, j < 14 → cur[j]? = some (cntV S.c j) := by
  rcases h.row.2 with ⟨e, _⟩ | ⟨g', cap', cur, e, hb, hh, h1, h2, h3, h4⟩
  · cases e
  · cases e
    refine ⟨cur, hh, fun j hj => ?_⟩
    have e2 : (cur.toList.take 14)[j]? = (cntCells S.c)[j]? := by rw [← h4]
    rw [List.getElem?_take, if_pos hj, Array.getElem?_toList] at e2
    rw [e2]
    simp [cntCells, hj]
theorem own_form1 {w : World} {B : Nat} {e : TypeId} {sz : Nat} {v : Value} {cs : List Value} (h : w.ownsRow B e sz v 1 cs) : ∃ g cap, v = .slice (some ⟨g, 0, none⟩) 1 cap := by
  rcases h.2 with ⟨_, h0⟩ | ⟨g, cap, cur, e, _⟩
  · cases h0
  · exact ⟨g, cap, e⟩
theorem FRow.rdN {P : FP} {S : FS} {g cap : Nat} {uI uD uL : List Value} {W : World} (h : FRow P S g cap uI uD uL W) : RdN W (some ⟨g, 0, none⟩) [S.c] := by
  obtain ⟨cur, hb, hc⟩ := h.block
  refine ⟨by simp, fun k hk j hj => ⟨_, rfl, ?_⟩⟩
  have hk0 : k = 0 := by simpa using hk
  subst hk0
  have e : (⟨g, 0, none⟩ : Addr).add (0 * 14 + j) = ⟨g, j, none⟩ := by unfold Addr.add; split <;> simp_all
  rw [e]
  exact boxAt hb (hc j hj)
theorem FRow.numRd {P : FP} {S : FS} {g cap : Nat} {uI uD uL : List Value} {W W7 : World} (h : FRow P S g cap uI uD uL W) {r : Nat} (hb : Below W.heap.size W W7) (hr : W7.heap[r]? = some (.cells (ptrs g 0).toArray 101 (0, 0))) : NumRd W7 r g 0 (cntX S.c) := by
  obtain ⟨cur, hg, hc⟩ := h.block
  refine ⟨cntX_len _, hr, fun j hj => ?_⟩
  refine bkeep hb (boxAt hg ?_)
  rw [cntX_gi _ _ hj, Nat.zero_add]
  exact hc (j + 1) (by omega)
theorem FI.execCall {P : FP} {S : FS} {vN : Value} {uI uD uL : List Value} {W : World} {g cap : Nat} (h : FI P S vN uI uD uL W) (hr : FRow P S g cap uI uD uL W) (hl : S.c.length = 14) (s1 : shapeB P.il P.nI P.iw = true) (s2 : shapeB P.ll P.nL P.lw = true) (e : List Int) (he : gi e 0 = 1) (p0 : Int) (hp : gi e 2 = p0) (hp0 : 0 ≤ p0 ∧ p0 < 4294967296) (hn : 1 ≤ gi e 5 ∧ gi e 5 ≤ 65536)
    (hx : ∀ i, 1 ≤ i → i < 14 → 0 ≤ gi S.c i ∧ gi S.c i ≤ 2199023255552) :
    Calls Try.prog 81 #[.pointer (some ⟨P.fb, 0, none⟩), .pointer (some ⟨g, 0, none⟩), .agg #[.int .i64 1, .int .i64 (gi e 1), .int .u32 p0, .int .u32 (gi e 3), .int .u32 (gi e 4), .int .i64 (gi e 5)]] W fun x W' => x = .returned (.tuple #[]) ∧ ∃ uI' uL', FI P (S.step P.il P.iw P.dl P.dw P.ll P.lw e) vN uI' uD uL' W' ∧ FRow P (S.step P.il P.iw P.dl P.dw P.ll P.lw e) g cap uI' uD uL' W' := by
  obtain ⟨cur, hg, hc⟩ := hr.block
  subst hp
  refine (exec_any P.B P.fb P.gI P.kI P.gL P.kL g 0 uI uL S.I S.L P.il P.iw P.ll P.lw cur _ (gi S.c 1) (gi S.c 2) (gi S.c 3) 1 (gi e 1) (gi e 2) (gi e 3) (gi e 4) (gi e 5) W (h.handI s1 s2) hg (hc 1 (by omega)) (hc 2 (by omega)) (hc 3 (by omega)) (fun hk => hr.out (.inl (by rw [← h.nI]; exact hk))) (fun hk => hr.out (.inr (.inr (by rw [← h.nL]; exact hk)))) (hx 1 (by omega) (by omega)) (hx 2 (by omega) (by omega)) (hx 3 (by omega) (by omega)) hp0 hn).mono ?_
  rintro x W' ⟨rfl, vC', vL', W0, W1, M, b0, hW'⟩
  exact ⟨rfl, vC', vL', h.exec hr hl b0 e he M W' hW'⟩
theorem FI.loadCall {P : FP} {S : FS} {vN : Value} {uI uD uL : List Value} {W : World} {g cap : Nat} (h : FI P S vN uI uD uL W) (hr : FRow P S g cap uI uD uL W) (hl : S.c.length = 14) (s1 : shapeB P.dl P.nD P.dw = true) (s2 : shapeB P.ll P.nL P.lw = true) (e : List Int) (he : gi e 0 = 2) (p0 : Int) (hp : gi e 2 = p0) (ha : 0 ≤ gi e 3 ∧ gi e 3 < 4294967296) (hn : 1 ≤ gi e 5 ∧ gi e 5 ≤ 65536)
    (hx : ∀ i, 1 ≤ i → i < 14 → 0 ≤ gi S.c i ∧ gi S.c i ≤ 2199023255552) :
    Calls Try.prog 82 #[.pointer (some ⟨P.fb, 0, none⟩), .pointer (some ⟨g, 0, none⟩), .agg #[.int .i64 2, .int .i64 (gi e 1), .int .u32 p0, .int .u32 (gi e 3), .int .u32 (gi e 4), .int .i64 (gi e 5)]] W fun x W' => x = .returned (.tuple #[]) ∧ ∃ uD' uL', FI P (S.step P.il P.iw P.dl P.dw P.ll P.lw e) vN uI uD' uL' W' ∧ FRow P (S.step P.il P.iw P.dl P.dw P.ll P.lw e) g cap uI uD' uL' W' := by
  obtain ⟨cur, hg, hc⟩ := hr.block
  subst hp
  refine (load_any P.B P.fb P.gD P.kD P.gL P.kL g 0 uD uL S.D S.L P.dl P.dw P.ll P.lw cur _ (gi S.c 4) (gi S.c 5) (gi S.c 6) 2 (gi e 1) (gi e 2) (gi e 3) (gi e 4) (gi e 5) W (h.handD s1 s2) hg (hc 4 (by omega)) (hc 5 (by omega)) (hc 6 (by omega)) (fun hk => hr.out (.inr (.inl (by rw [← h.nD]; exact hk)))) (fun hk => hr.out (.inr (.inr (by rw [← h.nL]; exact hk)))) (hx 4 (by omega) (by omega)) (hx 5 (by omega) (by omega)) (hx 6 (by omega) (by omega)) ha hn).mono ?_
  rintro x W' ⟨rfl, vC', vL', W0, W1, M, b0, hW'⟩
  exact ⟨rfl, vC', vL', h.load hr hl b0 e he M W' hW'⟩

/-- One event of the restricted kind. -/
def Ev1 (p0 : Int) (e : List Int) : Prop := (gi e 0 = 1 ∨ gi e 0 = 2) ∧ gi e 2 = p0 ∧ (0 ≤ gi e 3 ∧ gi e 3 < 4294967296) ∧ 1 ≤ gi e 5 ∧ gi e 5 ≤ 65536
/-- How far the numbers go. -/
theorem FS.run_inv (il iw dl dw ll lw : Int) (S0 : FS) (es : List (List Int)) (p0 : Int) (hc : S0.c = p0 :: List.replicate 13 0) (h1 : 4 ≤ il ∧ il ≤ 256) (h2 : 4 ≤ dl ∧ dl ≤ 256) (h3 : 4 ≤ ll) (hp0 : 0 ≤ p0 ∧ p0 < 4294967296) (hev : ∀ k, k < es.length → Ev1 p0 (gn es k)) :
    ∀ k, k ≤ es.length → (FS.run il iw dl dw ll lw S0 (es.take k)).c.length = 14 ∧ gi (FS.run il iw dl dw ll lw S0 (es.take k)).c 0 = p0 ∧ ∀ i, 1 ≤ i → i < 14 → 0 ≤ gi (FS.run il iw dl dw ll lw S0 (es.take k)).c i ∧ gi (FS.run il iw dl dw ll lw S0 (es.take k)).c i ≤ 4300000000 * (k : Int) := by
  intro k
  induction k with
  | zero =>
    intro _
    have e : FS.run il iw dl dw ll lw S0 (es.take 0) = S0 := by simp [FS.run]
    rw [e, hc]
    refine ⟨by simp, rfl, fun i hi1 hi2 => ?_⟩
    have : gi (p0 :: List.replicate 13 0) i = 0 := by
      obtain ⟨j, rfl⟩ : ∃ j, i = j + 1 := ⟨i - 1, by omega⟩
      exact (show ∀ j, j < 13 → (List.replicate 13 (0 : Int)).getD j 0 = 0 by decide) j (by omega)
    omega
  | succ k ih =>
    intro hk
    obtain ⟨i1, i2, i3⟩ := ih (by omega)
    obtain ⟨e1, e2, e3, e4⟩ := hev k (by omega)
    rw [FS.run_succ _ _ _ _ _ _ _ _ _ (by omega)]
    refine ⟨by rw [FS.step_len]; exact i1, by rw [FS.step_pc _ _ _ _ _ _ _ _ i1]; exact i2, fun i hi1 hi2 => ?_⟩
    have := FS.step_le il iw dl dw ll lw (FS.run il iw dl dw ll lw S0 (es.take k)) (gn es k) i1 h1 h2 h3 (by omega) e3.1 e4 i hi2
    have := i3 i hi1 hi2
    omega
theorem over_false (c : List Int) (h : ∀ i, 1 ≤ i → i < 14 → 0 ≤ gi c i ∧ gi c i ≤ 1099511627776) : (cntX c).any overN = false := by
  rw [List.any_eq_false]
  intro x hx
  obtain ⟨j, hj, e⟩ := List.getElem_of_mem hx
  rw [cntX_len] at hj
  have := h (j + 1) (by omega) (by omega)
  rw [← e, ← gi_get _ j (by rw [cntX_len]; exact hj), cntX_gi _ _ hj]
  simp [overN]
  omega
/-- How the loop ends. -/
def FEnd (P : FP) (S : FS) (vN : Value) (aI aD aL : List Value) (W : World) : Prop := FI P S vN aI aD aL W ∧ ∃ g cap, vN = .slice (some ⟨g, 0, none⟩) 1 cap ∧ FRow P S g cap aI aD aL W
def FRel (P : FP) (S0 : FS) (es : List (List Int)) (k : Nat) (S : FS) (vN : Value) (aI aD aL : List Value) (W : World) : Prop := FI P S vN aI aD aL W ∧ S = FS.run P.il P.iw P.dl P.dw P.ll P.lw S0 (es.take k) ∧ ((k = 0 ∧ vN = .slice none 0 0) ∨ (0 < k ∧ ∃ g cap, vN = .slice (some ⟨g, 0, none⟩) 1 cap ∧ FRow P S g cap aI aD aL W))

attribute [local irreducible] World.setCell in
set_option maxRecDepth 1000000 in
set_option maxHeartbeats 8000000 in
theorem feed_loop (P : FP) (S0 : FS) (aI0 aD0 aL0 : List Value) (AE : Option Addr) (ce : Nat) (es : List (List Int)) (p0 : Int) (Q : Exit → Act → World → Prop) (c0 c2 c3 c4 c5 c8 c9 c10 c11 c12 c13 c14 c15 c16 c17 c18 c19 c20 c21 c22 c23 c24 c25 c26 c27 c28 c29 c30 c31 c32 c33 c34 c35 c36 c37 c38 c39 c40 c41 c42 c43 c44 c45 c46 c47 c48 c49 c50 c51 c52 c53 c57 c58 c59 c60 c61 c62 c63 c64 c65 c66 c67 c68 c69 c70 c71 c72 c73 c74 c75 c76 c77 c78 c79 c80 c81 c82 c83 c84 c85 c86 c87 c88 c89 c90 c91 c92 c93 c94 c95 c96 c97 c98 c99 c100 c101 c102 c103 c104 c105 c106 c107 c108 c109 c110 c111 c112 c113 c114 c115 c116 c117 c118 c119 c120 c121 c122 c123 c124 c125 c126 c127 c128 c129 c130 c131 c132 c133 c134 c135 c136 c137 c138 c139 c140 c141 c142 c143 c144 c145 c146 c147 c148 c149 c150 c151 c152 : Value)
    (hF0 : FI P S0 (.slice none 0 0) aI0 aD0 aL0 P.W9) (hc0 : S0.c = p0 :: List.replicate 13 0) (s1 : shapeB P.il P.nI P.iw = true) (s2 : shapeB P.dl P.nD P.dw = true) (s3 : shapeB P.ll P.nL P.lw = true)
    (hel : 1 ≤ es.length ∧ es.length ≤ 200) (hev : ∀ k, k < es.length → Ev1 p0 (gn es k)) (hp0 : 0 ≤ p0 ∧ p0 < 4294967296) (hE : ∀ W, Upd (fun b => ¬ P.X b ∨ b = P.fb) P.W9 W → RdE W AE es)
    (hQ : ∀ (u5 u9 u10 u11 u12 u13 u14 u56 u57 u58 u59 u60 u61 u62 u63 u64 u65 u66 u67 u68 u69 u70 u71 u72 u73 u74 u75 u76 u77 u78 u79 u80 u81 u82 u83 u84 u85 u86 u87 u88 u89 u90 u91 u92 u93 u94 u95 u96 u97 u98 u99 u100 u101 u102 u103 u104 u105 u106 u107 u108 u109 u110 u111 u112 u113 u114 u115 u116 u117 u118 u119 u120 u121 u122 u123 u124 u125 u126 u127 u128 u129 u130 u131 u132 u133 u134 u135 u136 u137 : Value) (W' : World) (vN : Value) (aI aD aL : List Value), FEnd P (FS.run P.il P.iw P.dl P.dw P.ll P.lw S0 es) vN aI aD aL W' → Q .normal ⟨#[c0, .slice AE es.length ce, c2, c3, c4, u5, .pointer (some ⟨P.fb, 0, none⟩), .map (some P.mb), c8, u9, u10, u11, u12, u13, u14, c15, c16, c17, c18, c19, c20, c21, c22, c23, c24, c25, c26, c27, c28, c29, c30, c31, c32, c33, c34, c35, c36, c37, c38, c39, c40, c41, c42, c43, c44, c45, c46, c47, c48, c49, c50, c51, c52, c53, .slice AE es.length ce, .int .i64 (es.length : Int), u56, u57, u58, u59, u60, u61, u62, u63, u64, u65, u66, u67, u68, u69, u70, u71, u72, u73, u74, u75, u76, u77, u78, u79, u80, u81, u82, u83, u84, u85, u86, u87, u88, u89, u90, u91, u92, u93, u94, u95, u96, u97, u98, u99, u100, u101, u102, u103, u104, u105, u106, u107, u108, u109, u110, u111, u112, u113, u114, u115, u116, u117, u118, u119, u120, u121, u122, u123, u124, u125, u126, u127, u128, u129, u130, u131, u132, u133, u134, u135, u136, u137, c138, c139, c140, c141, c142, c143, c144, c145, c146, c147, c148, c149, c150, c151, c152], []⟩ W') :
    Code.wp Try.prog feedCode Q ⟨#[c0, .slice AE es.length ce, c2, c3, c4, c5, .pointer (some ⟨P.fb, 0, none⟩), .map (some P.mb), c8, c9, c10, c11, c12, c13, c14, c15, c16, c17, c18, c19, c20, c21, c22, c23, c24, c25, c26, c27, c28, c29, c30, c31, c32, c33, c34, c35, c36, c37, c38, c39, c40, c41, c42, c43, c44, c45, c46, c47, c48, c49, c50, c51, c52, c53, .slice AE es.length ce, .int .i64 (es.length : Int), .int .i64 0, c57, c58, c59, c60, c61, c62, c63, c64, c65, c66, c67, c68, c69, c70, c71, c72, c73, c74, c75, c76, c77, c78, c79, c80, c81, c82, c83, c84, c85, c86, c87, c88, c89, c90, c91, c92, c93, c94, c95, c96, c97, c98, c99, c100, c101, c102, c103, c104, c105, c106, c107, c108, c109, c110, c111, c112, c113, c114, c115, c116, c117, c118, c119, c120, c121, c122, c123, c124, c125, c126, c127, c128, c129, c130, c131, c132, c133, c134, c135, c136, c137, c138, c139, c140, c141, c142, c143, c144, c145, c146, c147, c148, c149, c150, c151, c152], []⟩ P.W9 := by
  have HF0 := Lib.hid hF0
  have HC0 := Lib.hid hc0
  have HS1 := Lib.hid s1
  have HS2 := Lib.hid s2
  have HS3 := Lib.hid s3
  have HEV := Lib.hid hev
  have HE := Lib.hid hE
  have HQ := Lib.hid hQ
  obtain ⟨i1, i2, _, _, _, _⟩ := shapeB_line s1
  obtain ⟨d1, d2, _, _, _, _⟩ := shapeB_line s2
  obtain ⟨l1, l2, _, _, _, _⟩ := shapeB_line s3
  have HINV := Lib.hid (FS.run_inv P.il P.iw P.dl P.dw P.ll P.lw S0 es p0 hc0 ⟨i1, i2⟩ ⟨d1, d2⟩ l1 hp0 hev)
  clear hF0 hc0 s1 s2 s3 hev hE hQ
  obtain ⟨el1, el2⟩ := hel
  conv => arg 2; whnf
  go_wp2_with fail
  go_loopw [56] (fun i wr => ∃ k : Nat, k ≤ es.length ∧ i = .int .i64 k ∧ ∃ (S : FS) (vN : Value) (aI aD aL : List Value), Hid (FRel P S0 es k S vN aI aD aL wr)) (fun i _ => es.length - (intOf i).toNat)
  case atStart => exact ⟨0, Nat.zero_le _, rfl, _, _, aI0, aD0, aL0, Lib.hid ⟨HF0.out, rfl, .inl ⟨rfl, rfl⟩⟩⟩
  case round =>
    obtain ⟨k, hk, rfl, S, vN, aI, aD, aL, hI⟩ := hrel
    by_cases hlt : k < es.length
    · obtain ⟨hF, hS, hN⟩ := hI.out
      obtain ⟨ad, e0, x0, x1, x2, x3, x4, x5⟩ := (HE.out wr hF.keep).at6 k hlt
      subst e0
      obtain ⟨ek, en, ea, eb⟩ := HEV.out k hlt
      obtain ⟨iv1, iv2, iv3⟩ := HINV.out k hk
      rw [← hS] at iv1 iv2 iv3
      obtain ⟨e, he⟩ : ∃ e, gn es k = e := ⟨_, rfl⟩
      rw [he] at x0 x1 x2 x3 x4 x5 ek en ea eb
      have hb4 : 0 ≤ gi e 3 := ea.1
      rw [en] at x2
      have HINV3 := Lib.hid iv3
      have HEA := Lib.hid ea
      have HEB := Lib.hid eb
      have HEN := Lib.hid en
      have HE1 := Lib.hid he
      have HIV1 := Lib.hid iv1
      have HIV2 := Lib.hid iv2
      have HSS := Lib.hid hS
      have HN := Lib.hid hN
      have HFF := Lib.hid hF
      clear iv1 iv2 iv3 ea eb en he hS hN hF hI
      obtain ⟨kd, fn, hkd, hkf⟩ : ∃ (kd : Int) (fn : Nat), gi e 0 = kd ∧ ((kd = 1 ∧ fn = 81) ∨ (kd = 2 ∧ fn = 82)) := by
        rcases ek with h | h
        · exact ⟨1, _, h, .inl ⟨rfl, rfl⟩⟩
        · exact ⟨2, _, h, .inr ⟨rfl, rfl⟩⟩
      rw [hkd] at x0
      have HKD := Lib.hid hkd
      clear hkd ek
      obtain ⟨W0, hW0⟩ : ∃ W0, wr.alloc (.cells #[.int .i64 kd, .int .i64 (gi e 1), .int .u32 p0, .int .u32 (gi e 3), .int .u32 (gi e 4), .int .i64 (gi e 5)] 71) = W0 := ⟨_, rfl⟩
      have hb0 : Below wr.heap.size wr W0 := by rw [← hW0]; exact balloc _ _
      have hz0 : W0.heap[wr.heap.size]? = some (.cells #[.int .i64 kd, .int .i64 (gi e 1), .int .u32 p0, .int .u32 (gi e 3), .int .u32 (gi e 4), .int .i64 (gi e 5)] 71 (0, 0)) := by rw [← hW0]; exact heap_alloc_new _ _
      have hs0 : W0.heap.size = wr.heap.size + 1 := by rw [← hW0]; simp
      have hmp := (HFF.out.below hb0).mp
      have hlk : (Instr.lookup 118 (.map (some P.mb)) (.int .i64 kd) true).run Try.prog W0 = .ok (.tuple #[.func (.func fn) #[] #[], .bool true]) W0 := by
        rcases hkf with ⟨rfl, rfl⟩ | ⟨rfl, rfl⟩
        · exact run_mapLook (P := Try.prog) (t := 118) (W := W0) Try.underlying118 Try.underlying3 hmp 1 0 (.func (.func 81) #[] #[]) rfl
        · exact run_mapLook (P := Try.prog) (t := 118) (W := W0) Try.underlying118 Try.underlying3 hmp 2 1 (.func (.func 82) #[] #[]) rfl
      have hk6 : (kd == 6) = false := by rcases hkf with ⟨rfl, _⟩ | ⟨rfl, _⟩ <;> rfl
      have hk12 : kd = 1 ∨ kd = 2 ∨ kd = 3 ∨ kd = 4 := by omega
      have HK12 := Lib.hid hk12
      have HKF := Lib.hid hkf
      have HB0 := Lib.hid hb0
      have HZ0 := Lib.hid hz0
      have HS0 := Lib.hid hs0
      have z0 := boxAt (i := 0) hz0 rfl
      have z1 := boxAt (i := 1) hz0 rfl
      have z2 := boxAt (i := 2) hz0 rfl
      have z3 := boxAt (i := 3) hz0 rfl
      have z4 := boxAt (i := 4) hz0 rfl
      have z5 := boxAt (i := 5) hz0 rfl
      clear hb0 hz0 hs0 hmp hk12 hkf
      go_wp2_with fail
      refine (wf_mem _ _ _ _ _ _ _ HK12.out HEB.out).mono ?_
      rintro ee W1 ⟨rfl, hb1⟩
      have F1 := HFF.out.below (bvia HB0.out hb1 (Nat.le_refl _))
      have hz1 := belowBox hb1 HZ0.out
      have HB1 := Lib.hid (bvia HB0.out hb1 (Nat.le_refl _))
      have hs1 : wr.heap.size + 1 ≤ W1.heap.size := by have := hb1.size; have := HS0.out; omega
      have HZ1 := Lib.hid hz1
      have y30 := boxAt (i := 30) F1.box rfl
      have q2 := boxAt (i := 2) hz1 rfl
      have HF1 := Lib.hid F1
      clear z0 z1 z2 z3 z4 z5 hlk hW0 hz1 hb1 F1 HZ0 HS0 hk6 x0 x1 x2 x3 x4 x5
      obtain ⟨N, nc, ns, hvN, hrd, hsr, hnl, hcs⟩ : ∃ (N : Option Addr) (nc : Nat) (ns : List (List Int)), vN = .slice N ns.length nc ∧ RdN W1.drew N ns ∧ sortedN ns ∧ ns.length ≤ 1 ∧ ((k = 0 ∧ ns = [] ∧ N = none ∧ nc = 0) ∨ (0 < k ∧ ns = [S.c] ∧ ∃ g, N = some ⟨g, 0, none⟩ ∧ FRow P S g nc aI aD aL W1)) := by
        rcases HN.out with ⟨h0, h1⟩ | ⟨h0, g, cap, h1, hr⟩
        · exact ⟨none, 0, [], h1, ⟨by simp, fun j hj => absurd hj (Nat.not_lt_zero _)⟩, fun i j h1 h2 => absurd h2 (Nat.not_lt_zero _), by simp, .inl ⟨h0, rfl, rfl, rfl⟩⟩
        · exact ⟨some ⟨g, 0, none⟩, cap, [S.c], h1, (hr.below HB1.out).rdN.below (bdrewN (Below.refl _ _) 1), fun i j h1 h2 => absurd h2 (by simp; omega), by simp, .inr ⟨h0, rfl, g, rfl, hr.below HB1.out⟩⟩
      subst hvN
      have HCS := Lib.hid hcs
      have HSR := Lib.hid hsr
      have HRD := Lib.hid hrd
      clear hcs hsr hrd
      go_wp2_with fail
      go_region_held3 (fun W' => W'.cell? ⟨P.fb, 30, none⟩ = some (.slice N ns.length nc) ∧ W'.cell? ⟨wr.heap.size, 2, none⟩ = some (.int .u32 p0))
        (first | exact ⟨y30, q2⟩ | exact ⟨bkeep hb2' y30, bkeep hb2' q2⟩)
        (first
          | (go_at_call 63; refine (byPC_any N nc ns p0 _ HRD.out HSR.out (by omega)).mono ?_; rintro ee W2 ⟨fi, rfl, hFd, hb2⟩; have hb2' : Below W1.heap.size W1 W2 := (bdrewN (Below.refl _ W1) 1).trans hb2; clear hb2))
      have HF2 := Lib.hid (HF1.out.below hb2')
      have HZ2 := Lib.hid (belowBox hb2' HZ1.out)
      have hs2 : wr.heap.size + 1 ≤ W2.heap.size := by have := hb2'.size; omega
      have HB2 := Lib.hid hb2'
      have HFD := Lib.hid hFd
      clear hb2' hFd y30 q2 HF1 HZ1 hs1 HRD HSR
      go_upto_if 96 with fail
      go_cut [12, 13] from 57 to 137 (fun s12 s13 wx => s12 = .int .i64 0 ∧ ∃ g cap, Hid (FI P S (.slice (some ⟨g, 0, none⟩) 1 cap) aI aD aL wx ∧ FRow P S g cap aI aD aL wx ∧ wx.heap[wr.heap.size]? = some (.cells #[.int .i64 kd, .int .i64 (gi e 1), .int .u32 p0, .int .u32 (gi e 3), .int .u32 (gi e 4), .int .i64 (gi e 5)] 71 (0, 0))))
      case first =>
        rcases HCS.out with ⟨rfl, rfl, rfl, rfl⟩ | ⟨h0, rfl, g, rfl, hr⟩
        · have hfi : fi = 0 := by have := HFD.out.le; simp at this; omega
          subst hfi
          have hfb : foundB [] p0 0 = false := rfl
          rw [hfb]
          clear hfb
          have y2 : W2.cell? ⟨P.fb, 30, none⟩ = some (.slice none 0 0) := boxAt (i := 30) HF2.out.box rfl
          have r2 := boxAt (i := 2) HZ2.out rfl
          have c3 : ∀ W3 : World, Below W2.heap.size W2 W3 → W3.cell? ⟨P.fb, 30, none⟩ = some (.slice none 0 0) ∧ W3.frozen? ⟨P.fb, 30, none⟩ = false := fun W3 h => ⟨bkeep h y2, boxFree (HF2.out.below h).box⟩
          have HC3 := Lib.hid c3
          have n2 := World.new_ne W2 _ y2
          have n3 := World.new_ne W2 _ r2
          have fbl := World.block_lt_of_cell? W2 _ y2
          dsimp only at n2 n3 fbl
          clear c3
          go_wp2_with fail
          refine wp_region_noPanic ?_
          go_region_with (first
            | (go_at_call 64; refine (insertN_nil _ (p0 :: List.replicate 13 0) _ (by exact alloc_at _ _ _ (by simp [World.drew]))).mono ?_; rintro ee W3 ⟨v, rfl, ho, hb3⟩; obtain ⟨g, cap, rfl⟩ := own_form1 ho; have hb3' : Below W2.heap.size W2 W3 := ((bdrewN (Below.refl _ W2) 1).alloc (Nat.le_refl _) _).trans (hb3.mono (by simp [World.drew])); have y3 := (HC3.out W3 hb3').1; have d3 := (HC3.out W3 hb3').2; clear hb3))
          all_goals
            refine NoPanic.normal ?_
            go_wp2_with fail
            go_meet
            case rel =>
              have hSc : S.c = p0 :: List.replicate 13 0 := by
                rw [HSS.out, ← HC0.out]
                simp [FS.run]
              have hN := HF2.out.newCount (S' := S) hb3' (by rw [hSc]; exact own_base' ho fun k hk => by have := (ho.lt k hk).1; simp [World.drew] at this; omega) rfl rfl rfl
              have hfw : P.fb < wr.heap.size := (HFF.out.out _ HFF.out.xf).1
              exact ⟨rfl, g, cap, Lib.hid ⟨hN.1, hN.2, ((Upd.setCell W3 ⟨P.fb, 30, none⟩ (.slice (some ⟨g, 0, none⟩) 1 cap)).block _ (by have := hb3'.size; omega) (by simp; omega)).trans (belowBox hb3' HZ2.out)⟩⟩
        · have hfi : fi = 0 := by
            have h1 := HFD.out.le
            have h2 := HFD.out.lo 0
            have h3 : gi (gn [S.c] 0) 0 = p0 := HIV2.out
            simp at h1
            by_cases h : fi = 0
            · exact h
            · have := h2 (by omega); omega
          subst hfi
          have hfb : foundB [S.c] p0 0 = true := by
            have h3 : gi (gn [S.c] 0) 0 = p0 := HIV2.out
            simp [foundB, h3]
          rw [hfb]
          have HR := Lib.hid (hr.below HB2.out)
          clear hfb hr
          go_wp2_with fail
          go_meet
          case rel =>
            exact ⟨rfl, g, nc, Lib.hid ⟨HF2.out, HR.out, HZ2.out⟩⟩
      case rest =>
        obtain ⟨rfl, g, cap, hH⟩ := hcut
        obtain ⟨hF3, hR3, hZ3⟩ := hH.out
        have HF3 := Lib.hid hF3
        have HR3 := Lib.hid hR3
        have y3 : wc.cell? ⟨P.fb, 30, none⟩ = some (.slice (some ⟨g, 0, none⟩) 1 cap) := boxAt (i := 30) hF3.box rfl
        have z0 := boxAt (i := 0) hZ3 rfl
        have z1 := boxAt (i := 1) hZ3 rfl
        have z2 := boxAt (i := 2) hZ3 rfl
        have z3 := boxAt (i := 3) hZ3 rfl
        have z4 := boxAt (i := 4) hZ3 rfl
        have z5 := boxAt (i := 5) hZ3 rfl
        clear hF3 hR3 hZ3 hH HF2 HZ2 HB2 HFD HCS HF0 HFF HN HB1
        rcases HKF.out with ⟨rfl, rfl⟩ | ⟨rfl, rfl⟩
        · have HX : Hid (∀ i, 1 ≤ i → i < 14 → 0 ≤ gi S.c i ∧ gi S.c i ≤ 2199023255552) := Lib.hid fun i h1 h2 => by have := HINV3.out i h1 h2; omega
          go_wp2_with fail
          refine (HF3.out.execCall HR3.out HIV1.out HS1.out HS3.out e HKD.out p0 HEN.out hp0 HEB.out HX.out).mono ?_
          rintro ee W4 ⟨rfl, vI', vL', hF4, hR4⟩
          obtain ⟨S', hS'⟩ : ∃ S', FS.step P.il P.iw P.dl P.dw P.ll P.lw S e = S' := ⟨_, rfl⟩
          rw [hS'] at hF4 hR4
          have hSr : S' = FS.run P.il P.iw P.dl P.dw P.ll P.lw S0 (es.take (k + 1)) := by
            rw [FS.run_succ _ _ _ _ _ _ _ _ _ hlt, ← hS', HSS.out, HE1.out]
          have hov : (cntX S'.c).any overN = false := over_false _ fun i h1 h2 => by
            have := (HINV.out (k + 1) hlt).2.2 i h1 h2
            rw [← hSr] at this
            omega
          have HF4 := Lib.hid hF4
          have HR4 := Lib.hid hR4
          have HSR := Lib.hid hSr
          have y4 : W4.cell? ⟨P.fb, 30, none⟩ = some (.slice (some ⟨g, 0, none⟩) 1 cap) := boxAt (i := 30) hF4.box rfl
          have HOV := Lib.hid hov
          clear hF4 hR4 hSr hov hS' y3 z0 z1 z2 z3 z4 z5
          go_wp2_with fail
          refine (numbers_any g 0 W4).mono ?_
          rintro ee W5 ⟨rfl, hr5, hs5, hb5⟩
          have hnr := HR4.out.numRd hb5 hr5
          have HF5 := Lib.hid (HF4.out.below hb5)
          have HR5 := Lib.hid (HR4.out.below hb5)
          have HNR := Lib.hid hnr
          clear hnr hr5 hs5 hb5 y4
          go_wp2_with fail
          refine (containsFunc_feed _ _ _ _ _ HNR.out).mono ?_
          rintro ee W6 ⟨rfl, rfl⟩
          rw [HOV.out]
          go_wp2
          (try simp only [Exit.inBlock, Exit.then])
          go_roundw
          case rel => exact ⟨k + 1, hlt, by go_num, S', _, vI', aD, vL', Lib.hid ⟨HF5.out, HSR.out, .inr ⟨Nat.succ_pos _, g, cap, rfl, HR5.out⟩⟩⟩
          case measure => simp [intOf]; omega
        · have HX : Hid (∀ i, 1 ≤ i → i < 14 → 0 ≤ gi S.c i ∧ gi S.c i ≤ 2199023255552) := Lib.hid fun i h1 h2 => by have := HINV3.out i h1 h2; omega
          go_wp2_with fail
          refine (HF3.out.loadCall HR3.out HIV1.out HS2.out HS3.out e HKD.out p0 HEN.out HEA.out HEB.out HX.out).mono ?_
          rintro ee W4 ⟨rfl, vD', vL', hF4, hR4⟩
          obtain ⟨S', hS'⟩ : ∃ S', FS.step P.il P.iw P.dl P.dw P.ll P.lw S e = S' := ⟨_, rfl⟩
          rw [hS'] at hF4 hR4
          have hSr : S' = FS.run P.il P.iw P.dl P.dw P.ll P.lw S0 (es.take (k + 1)) := by
            rw [FS.run_succ _ _ _ _ _ _ _ _ _ hlt, ← hS', HSS.out, HE1.out]
          have hov : (cntX S'.c).any overN = false := over_false _ fun i h1 h2 => by
            have := (HINV.out (k + 1) hlt).2.2 i h1 h2
            rw [← hSr] at this
            omega
          have HF4 := Lib.hid hF4
          have HR4 := Lib.hid hR4
          have HSR := Lib.hid hSr
          have y4 : W4.cell? ⟨P.fb, 30, none⟩ = some (.slice (some ⟨g, 0, none⟩) 1 cap) := boxAt (i := 30) hF4.box rfl
          have HOV := Lib.hid hov
          clear hF4 hR4 hSr hov hS' y3 z0 z1 z2 z3 z4 z5
          go_wp2_with fail
          refine (numbers_any g 0 W4).mono ?_
          rintro ee W5 ⟨rfl, hr5, hs5, hb5⟩
          have hnr := HR4.out.numRd hb5 hr5
          have HF5 := Lib.hid (HF4.out.below hb5)
          have HR5 := Lib.hid (HR4.out.below hb5)
          have HNR := Lib.hid hnr
          clear hnr hr5 hs5 hb5 y4
          go_wp2_with fail
          refine (containsFunc_feed _ _ _ _ _ HNR.out).mono ?_
          rintro ee W6 ⟨rfl, rfl⟩
          rw [HOV.out]
          go_wp2
          (try simp only [Exit.inBlock, Exit.then])
          go_roundw
          case rel => exact ⟨k + 1, hlt, by go_num, S', _, aI, vD', vL', Lib.hid ⟨HF5.out, HSR.out, .inr ⟨Nat.succ_pos _, g, cap, rfl, HR5.out⟩⟩⟩
          case measure => simp [intOf]; omega
    · obtain ⟨hF, hS, hN⟩ := hI.out
      have hke : k = es.length := by omega
      have hfe : FEnd P (FS.run P.il P.iw P.dl P.dw P.ll P.lw S0 es) vN aI aD aL wr := by
        rw [hke, List.take_length] at hS
        subst hS
        rcases hN with ⟨h0, _⟩ | ⟨_, h⟩
        · omega
        · exact ⟨hF, h⟩
      have HFE := Lib.hid hfe
      clear hfe hke hF hS hN hI HINV HEV HE
      go_wp2
      (try simp only [Exit.inBlock, Exit.then])
      exact HQ.out _ _ _ _ _ _ _ _ _ _ _ _ _ _ _ _ _ _ _ _ _ _ _ _ _ _ _ _ _ _ _ _ _ _ _ _ _ _ _ _ _ _ _ _ _ _ _ _ _ _ _ _ _ _ _ _ _ _ _ _ _ _ _ _ _ _ _ _ _ _ _ _ _ _ _ _ _ _ _ _ _ _ _ _ _ _ _ _ _  _ _ _ _ _ HFE.out
end Go.Proofs.Ytdkacdfhapgboaa
