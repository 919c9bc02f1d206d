/- Part 17 of the texts that the proof stands on: SumL. -/
import Derived.Test.YtdkacdfhapgboaaM16
import Derived.Deep.DeepCutAuto

/- SimSums: the loop that counts events. (printed by gen/sumsl.py) -/
set_option linter.unusedVariables false
set_option linter.unusedSimpArgs false
namespace Go.Proofs.Ytdkacdfhapgboaa
open Go.RowKit

def firstBlock : Code → Option Code
  | .block n c => some (.block n c)
  | .seq a b => match firstBlock a with
    | some c => some c
    | none => firstBlock b
  | _ => none
/-- The loop's code. -/
noncomputable def sumsCode : Code := (Try.f11.body.bind firstBlock).getD .skip
def findBlock (n : Nat) : Code → Option Code
  | .block m c => if (m == n) = true then some (.block m c) else findBlock n c
  | .seq a b => match findBlock n a with
    | some c => some c
    | none => findBlock n b
  | .loop c => findBlock n c
  | .scope c => findBlock n c
  | _ => none
/-- The switch's code. -/
noncomputable def switchCode : Code := (Try.f11.body.bind (findBlock 2)).getD .skip
theorem Upd.al {F : Nat → Prop} {W0 W : World} (h : Upd F W0 W) (o : Obj) : Upd F W0 (W.alloc o) := h.trans (Upd.alloc (fun _ => False) W o) fun _ hf => absurd hf id
theorem boxAl {W : World} {b : Nat} {o x : Obj} (h : W.heap[b]? = some x) : (W.alloc o).heap[b]? = some x := by
  rw [heap_alloc_old _ _ (Array.getElem?_eq_some_iff.1 h).1]
  exact h
def evCells (e : List Int) : List Value := (List.range 6).map (evV e)
theorem evCells_len (e : List Int) : (evCells e).length = 6 := by simp [evCells]
theorem evCells_eq (e : List Int) : evCells e = [.int .i64 (gi e 0), .int .i64 (gi e 1), .int .u32 (gi e 2), .int .u32 (gi e 3), .int .u32 (gi e 4), .int .i64 (gi e 5)] := rfl
/-- What SimSums keeps of a list. -/
def keepB (e : List Int) : Bool := evOn e || decide (gi e 0 = 6)
def keepL (es : List (List Int)) (k : Nat) : List (List Int) := (es.take k).filter keepB
def nCells (l : List (List Int)) : Array Value := #[.int .u32 0, .int .i64 (evSum l 1), .int .i64 0, .int .i64 0, .int .i64 (evSum l 4), .int .i64 0, .int .i64 0, .int .i64 (evSum l 7), .int .i64 0, .int .i64 0, .int .i64 (evSum l 10), .int .i64 0, .int .i64 (evSum l 12), .int .i64 0]
theorem evCol_range (k : Int) (j : Nat) : 0 ≤ evCol k j ∧ evCol k j ≤ 1 := by
  unfold evCol
  repeat' split
  all_goals omega
theorem evSum_snoc (l : List (List Int)) (e : List Int) (j : Nat) : evSum (l ++ [e]) j = evSum l j + if evOn e then evCol (gi e 0) j else 0 := by simp [evSum]
theorem evSum_range (j : Nat) : ∀ l : List (List Int), 0 ≤ evSum l j ∧ evSum l j ≤ l.length
  | [] => by simp [evSum]
  | e :: l => by
    have h1 := evSum_range j l
    have h2 := evCol_range (gi e 0) j
    have h3 : evSum (e :: l) j = (if evOn e then evCol (gi e 0) j else 0) + evSum l j := by simp [evSum]
    rw [h3]
    simp only [List.length_cons]
    split <;> omega
theorem take_gn {es : List (List Int)} {k : Nat} (hk : k < es.length) : es.take (k + 1) = es.take k ++ [gn es k] := by
  have e : gn es k = es[k] := by simp [gn, List.getD_eq_getElem?_getD, hk]
  rw [List.take_succ_eq_append_getElem hk, e]
theorem keepL_succ {es : List (List Int)} {k : Nat} (hk : k < es.length) : keepL es (k + 1) = keepL es k ++ if keepB (gn es k) then [gn es k] else [] := by
  unfold keepL
  rw [take_gn hk, List.filter_append]
  congr 1
  cases h : keepB (gn es k) <;> simp [h]
theorem nCells_idle {l : List (List Int)} {e : List Int} (h : evOn e = false) : nCells (l ++ [e]) = nCells l := by
  unfold nCells
  simp [evSum_snoc, h]
/-- What the loop carries. -/
structure SumR (WL : World) (nb : Nat) (es : List (List Int)) (k : Nat) (v : Value) (wr : World) : Prop where
  box : wr.heap[nb]? = some (.cells (nCells (es.take k)) 79 (0, 0))
  own : wr.ownsRow WL.heap.size 71 6 v (keepL es k).length ((keepL es k).flatMap evCells)
  upd : Upd (fun b => b = nb) WL wr
theorem SumR.keep {WL wr Wb : World} {nb k : Nat} {es : List (List Int)} {v : Value} (h : SumR WL nb es k v wr) (hnb : nb < WL.heap.size) (hu : Upd (fun b => b = nb) wr Wb) : Wb.ownsRow WL.heap.size 71 6 v (keepL es k).length ((keepL es k).flatMap evCells) :=
  own_upd h.own hu fun k hk (e : k = nb) => by have := (h.own.lt k hk).1; omega
/-- An event that is kept. -/
theorem SumR.next {WL wr Wb w1 : World} {nb k : Nat} {es : List (List Int)} {v v' : Value} (h : SumR WL nb es k v wr) (hnb : nb < WL.heap.size) (hk : k < es.length) (hu : Upd (fun b => b = nb) wr Wb) (hbox : Wb.heap[nb]? = some (.cells (nCells (es.take k ++ [gn es k])) 79 (0, 0)))
    (ho : w1.ownsRow WL.heap.size 71 6 v' ((keepL es k).length + 1) ((keepL es k).flatMap evCells ++ evCells (gn es k))) (hg : Wb.grownBy w1 v.ownBlock) (hb : keepB (gn es k) = true) : SumR WL nb es (k + 1) v' w1 := by
  have hlt : ∀ j, v.ownBlock = some j → WL.heap.size ≤ j := fun j hj => (h.own.lt j hj).1
  have hs := hu.size
  have hsb := h.upd.size
  refine ⟨?_, ?_, (h.upd.trans hu fun j hj => .inl hj).trans (Upd.of_grown hg) fun j hj => .inr (hlt j hj)⟩
  · rw [take_gn hk]
    exact ((Upd.of_grown hg).block nb (Array.getElem?_eq_some_iff.1 hbox).1 fun e => by have := hlt nb e; omega).trans hbox
  · rw [keepL_succ hk, hb, if_pos rfl, List.length_append, List.flatMap_append]
    simpa using ho
/-- An event that is passed by. -/
theorem SumR.idle {WL wr Wb : World} {nb k : Nat} {es : List (List Int)} {v : Value} (h : SumR WL nb es k v wr) (hnb : nb < WL.heap.size) (hk : k < es.length) (hu : Upd (fun _ => False) wr Wb) (hb : evOn (gn es k) = false) (h6 : gi (gn es k) 0 ≠ 6) : SumR WL nb es (k + 1) v Wb := by
  have hs := h.upd.size
  refine ⟨?_, ?_, h.upd.trans hu fun j hj => absurd hj id⟩
  · rw [take_gn hk, nCells_idle hb]
    exact (hu.block nb (by omega) id).trans h.box
  · have hkb : keepB (gn es k) = false := by unfold keepB; rw [hb, decide_eq_false h6]; rfl
    rw [keepL_succ hk, hkb]
    simpa using own_upd h.own hu fun j _ e => e
theorem cells_block {W : World} {q : Nat} {xs : List Value} {t : TypeId} (h : W.heap[q]? = some (.cells xs.toArray t (0, 0))) : ∀ j u, xs[j]? = some u → W.cell? ((⟨q, 0, none⟩ : Addr).add j) = some u := fun j u hu => by
  have e : (⟨q, 0, none⟩ : Addr).add j = ⟨q, j, none⟩ := by unfold Addr.add; split <;> simp_all
  rw [e]
  exact boxAt h (by rw [List.getElem?_toArray]; exact hu)
theorem evCells_one (e : List Int) : ∀ u ∈ evCells e, u.oneCell' = true := by
  intro u hu
  rw [evCells_eq] at hu
  simp only [List.mem_cons, List.not_mem_nil, or_false] at hu
  rcases hu with rfl | rfl | rfl | rfl | rfl | rfl <;> rfl
theorem info_evS : (Try.prog.info? 71).map (fun i => (i.zero, i.size, i.bytes)) = some (some (.agg #[.int .i64 0, .int .i64 0, .int .u32 0, .int .u32 0, .int .u32 0, .int .i64 0]), 6, 40) := by kernel_rfl
def fitsB (n : Int) : Bool := decide (1 ≤ n) && decide (n ≤ 65536)

/-- What stands behind the switch. -/
structure SwN (nb : Nat) (l : List (List Int)) (e : List Int) (W0 Wb : World) : Prop where
  upd : Upd (fun b => b = nb) W0 Wb
  size : Wb.heap.size = W0.heap.size
  box : Wb.heap[nb]? = some (.cells (nCells (l ++ [e])) 79 (0, 0))
  keep : keepB e = true
attribute [local irreducible] World.setCell World.setRow in
set_option maxRecDepth 1000000 in
set_option maxHeartbeats 8000000 in
theorem sum_switch (nb eb : Nat) (W0 : World) (l : List (List Int)) (e : List Int) (fb : Bool) (Q : Exit → Act → World → Prop) (c0 c1 c2 c3 c4 c5 c6 c7 c8 c9 c10 c11 c13 c14 c17 c18 c19 c20 c21 c22 c23 c24 c25 c26 c27 c28 c29 c30 c31 c32 c33 c34 c35 c36 c37 c38 c39 c40 c41 c42 c43 c44 c45 c46 c47 c48 c49 c50 c51 c52 c53 c54 c55 c56 c57 c58 c59 c60 c61 c62 c63 c64 c65 c66 c67 c68 c69 c70 c71 c72 c73 c74 c75 c76 c77 c78 c79 c80 c81 c82 c83 c84 c85 c86 c87 c88 c89 c90 c91 c92 c93 c94 c95 c96 c97 c98 c99 c100 c101 c102 c103 c104 c105 c106 c107 c108 c109 c110 c111 c112 c113 c114 c115 c116 c117 c118 c119 c120 c121 c122 c123 c124 c125 c126 c127 c128 c129 c130 c131 c132 c133 c134 c135 c136 c137 c138 c139 c140 c141 c142 c143 c144 c145 c146 c147 c148 c149 c150 c151 c152 c153 c154 c155 c156 c157 c158 c159 c160 c161 c162 c163 c164 c165 c166 c167 c168 c169 c170 c171 c172 c173 c174 c175 c176 c177 c178 c179 c180 c181 c182 c183 c184 c185 c186 c187 c188 c189 c190 c191 c192 c193 c194 c195 c196 c197 c198 c199 c200 c201 c202 c203 c204 c205 c206 c207 c208 c209 c210 c211 c212 c213 c214 c215 c216 c217 c218 c219 c220 c221 c222 c223 c224 c225 c226 c227 c228 c229 c230 c231 c232 c233 c234 c235 c236 c237 c238 c239 c240 c241 c242 c243 c244 c245 c246 : Value) (hz : W0.heap[eb]? = some (.cells #[.int .i64 (gi e 0), .int .i64 (gi e 1), .int .u32 (gi e 2), .int .u32 (gi e 3), .int .u32 (gi e 4), .int .i64 (gi e 5)] 71 (0, 0))) (hbn : W0.heap[nb]? = some (.cells (nCells l) 79 (0, 0))) (hne : eb ≠ nb) (hl : l.length ≤ 60) (hfb : fitsB (gi e 5) = fb) (hb4 : 0 ≤ gi e 4)
    (hQN : ∀ (u67 u68 u69 u70 u71 u72 u73 u74 u75 u76 u77 u78 u79 u80 u81 u82 u83 u84 u85 u86 u87 u88 u89 u90 u91 u92 u93 u94 u95 u96 u97 u98 u99 u100 u101 u102 u103 u104 u105 u106 u107 u108 u109 u110 u111 u112 u113 u114 u115 u116 u117 u118 u119 u120 u121 u122 u123 u124 u125 u126 u127 u128 u129 u130 u131 u132 u133 u134 u135 u136 u137 u138 u139 : Value) (Wb : World), SwN nb l e W0 Wb → Q .normal ⟨#[c0, c1, c2, c3, c4, c5, c6, c7, c8, c9, c10, c11, .pointer (some ⟨nb, 0, none⟩), c13, c14, .pointer (some ⟨eb, 0, none⟩), .bool fb, c17, c18, c19, c20, c21, c22, c23, c24, c25, c26, c27, c28, c29, c30, c31, c32, c33, c34, c35, c36, c37, c38, c39, c40, c41, c42, c43, c44, c45, c46, c47, c48, c49, c50, c51, c52, c53, c54, c55, c56, c57, c58, c59, c60, c61, c62, c63, c64, c65, c66, u67, u68, u69, u70, u71, u72, u73, u74, u75, u76, u77, u78, u79, u80, u81, u82, u83, u84, u85, u86, u87, u88, u89, u90, u91, u92, u93, u94, u95, u96, u97, u98, u99, u100, u101, u102, u103, u104, u105, u106, u107, u108, u109, u110, u111, u112, u113, u114, u115, u116, u117, u118, u119, u120, u121, u122, u123, u124, u125, u126, u127, u128, u129, u130, u131, u132, u133, u134, u135, u136, u137, u138, u139, c140, c141, c142, c143, c144, c145, c146, c147, c148, c149, c150, c151, c152, c153, c154, c155, c156, c157, c158, c159, c160, c161, c162, c163, c164, c165, c166, c167, c168, c169, c170, c171, c172, c173, c174, c175, c176, c177, c178, c179, c180, c181, c182, c183, c184, c185, c186, c187, c188, c189, c190, c191, c192, c193, c194, c195, c196, c197, c198, c199, c200, c201, c202, c203, c204, c205, c206, c207, c208, c209, c210, c211, c212, c213, c214, c215, c216, c217, c218, c219, c220, c221, c222, c223, c224, c225, c226, c227, c228, c229, c230, c231, c232, c233, c234, c235, c236, c237, c238, c239, c240, c241, c242, c243, c244, c245, c246], []⟩ Wb)
    (hQC : ∀ (u67 u68 u69 u70 u71 u72 u73 u74 u75 u76 u77 u78 u79 u80 u81 u82 u83 u84 u85 u86 u87 u88 u89 u90 u91 u92 u93 u94 u95 u96 u97 u98 u99 u100 u101 u102 u103 u104 u105 u106 u107 u108 u109 u110 u111 u112 u113 u114 u115 u116 u117 u118 u119 u120 u121 u122 u123 u124 u125 u126 u127 u128 u129 u130 u131 u132 u133 u134 u135 u136 u137 u138 u139 : Value), evOn e = false → gi e 0 ≠ 6 → Q (.exit 1) ⟨#[c0, c1, c2, c3, c4, c5, c6, c7, c8, c9, c10, c11, .pointer (some ⟨nb, 0, none⟩), c13, c14, .pointer (some ⟨eb, 0, none⟩), .bool fb, c17, c18, c19, c20, c21, c22, c23, c24, c25, c26, c27, c28, c29, c30, c31, c32, c33, c34, c35, c36, c37, c38, c39, c40, c41, c42, c43, c44, c45, c46, c47, c48, c49, c50, c51, c52, c53, c54, c55, c56, c57, c58, c59, c60, c61, c62, c63, c64, c65, c66, u67, u68, u69, u70, u71, u72, u73, u74, u75, u76, u77, u78, u79, u80, u81, u82, u83, u84, u85, u86, u87, u88, u89, u90, u91, u92, u93, u94, u95, u96, u97, u98, u99, u100, u101, u102, u103, u104, u105, u106, u107, u108, u109, u110, u111, u112, u113, u114, u115, u116, u117, u118, u119, u120, u121, u122, u123, u124, u125, u126, u127, u128, u129, u130, u131, u132, u133, u134, u135, u136, u137, u138, u139, c140, c141, c142, c143, c144, c145, c146, c147, c148, c149, c150, c151, c152, c153, c154, c155, c156, c157, c158, c159, c160, c161, c162, c163, c164, c165, c166, c167, c168, c169, c170, c171, c172, c173, c174, c175, c176, c177, c178, c179, c180, c181, c182, c183, c184, c185, c186, c187, c188, c189, c190, c191, c192, c193, c194, c195, c196, c197, c198, c199, c200, c201, c202, c203, c204, c205, c206, c207, c208, c209, c210, c211, c212, c213, c214, c215, c216, c217, c218, c219, c220, c221, c222, c223, c224, c225, c226, c227, c228, c229, c230, c231, c232, c233, c234, c235, c236, c237, c238, c239, c240, c241, c242, c243, c244, c245, c246], []⟩ W0) :
    Code.wp Try.prog switchCode Q ⟨#[c0, c1, c2, c3, c4, c5, c6, c7, c8, c9, c10, c11, .pointer (some ⟨nb, 0, none⟩), c13, c14, .pointer (some ⟨eb, 0, none⟩), .bool fb, c17, c18, c19, c20, c21, c22, c23, c24, c25, c26, c27, c28, c29, c30, c31, c32, c33, c34, c35, c36, c37, c38, c39, c40, c41, c42, c43, c44, c45, c46, c47, c48, c49, c50, c51, c52, c53, c54, c55, c56, c57, c58, c59, c60, c61, c62, c63, c64, c65, c66, c67, c68, c69, c70, c71, c72, c73, c74, c75, c76, c77, c78, c79, c80, c81, c82, c83, c84, c85, c86, c87, c88, c89, c90, c91, c92, c93, c94, c95, c96, c97, c98, c99, c100, c101, c102, c103, c104, c105, c106, c107, c108, c109, c110, c111, c112, c113, c114, c115, c116, c117, c118, c119, c120, c121, c122, c123, c124, c125, c126, c127, c128, c129, c130, c131, c132, c133, c134, c135, c136, c137, c138, c139, c140, c141, c142, c143, c144, c145, c146, c147, c148, c149, c150, c151, c152, c153, c154, c155, c156, c157, c158, c159, c160, c161, c162, c163, c164, c165, c166, c167, c168, c169, c170, c171, c172, c173, c174, c175, c176, c177, c178, c179, c180, c181, c182, c183, c184, c185, c186, c187, c188, c189, c190, c191, c192, c193, c194, c195, c196, c197, c198, c199, c200, c201, c202, c203, c204, c205, c206, c207, c208, c209, c210, c211, c212, c213, c214, c215, c216, c217, c218, c219, c220, c221, c222, c223, c224, c225, c226, c227, c228, c229, c230, c231, c232, c233, c234, c235, c236, c237, c238, c239, c240, c241, c242, c243, c244, c245, c246], []⟩ W0 := by
  have HQN := Lib.hid hQN
  have HQC := Lib.hid hQC
  have HBN := Lib.hid hbn
  have HFB := Lib.hid hfb
  obtain ⟨z0, z1, z2, z3, z4, z5, _⟩ := box6 hz
  clear hQN hQC hbn hfb hz
  conv => arg 2; whnf
  obtain ⟨x1, h1⟩ : ∃ x, evSum l 1 = x := ⟨_, rfl⟩
  obtain ⟨x4, h4⟩ : ∃ x, evSum l 4 = x := ⟨_, rfl⟩
  obtain ⟨x7, h7⟩ : ∃ x, evSum l 7 = x := ⟨_, rfl⟩
  obtain ⟨x10, h10⟩ : ∃ x, evSum l 10 = x := ⟨_, rfl⟩
  obtain ⟨x12, h12⟩ : ∃ x, evSum l 12 = x := ⟨_, rfl⟩
  have hr : ∀ j, 0 ≤ evSum l j ∧ evSum l j ≤ 60 := fun j => by have := evSum_range j l; omega
  obtain ⟨r1, r1'⟩ := hr 1
  obtain ⟨r4, r4'⟩ := hr 4
  obtain ⟨r7, r7'⟩ := hr 7
  obtain ⟨r10, r10'⟩ := hr 10
  obtain ⟨r12, r12'⟩ := hr 12
  rw [h1] at r1 r1'
  rw [h4] at r4 r4'
  rw [h7] at r7 r7'
  rw [h10] at r10 r10'
  rw [h12] at r12 r12'
  have hbx : W0.heap[nb]? = some (.cells #[.int .u32 0, .int .i64 x1, .int .i64 0, .int .i64 0, .int .i64 x4, .int .i64 0, .int .i64 0, .int .i64 x7, .int .i64 0, .int .i64 0, .int .i64 x10, .int .i64 0, .int .i64 x12, .int .i64 0] 79 (0, 0)) := by
    have := HBN.out
    unfold nCells at this
    rw [h1, h4, h7, h10, h12] at this
    exact this
  have hNC : ∀ a1 a4 a7 a10 a12 : Int, evOn e = true → evCol (gi e 0) 1 = a1 → evCol (gi e 0) 4 = a4 → evCol (gi e 0) 7 = a7 → evCol (gi e 0) 10 = a10 → evCol (gi e 0) 12 = a12 → nCells (l ++ [e]) = #[.int .u32 0, .int .i64 (x1 + a1), .int .i64 0, .int .i64 0, .int .i64 (x4 + a4), .int .i64 0, .int .i64 0, .int .i64 (x7 + a7), .int .i64 0, .int .i64 0, .int .i64 (x10 + a10), .int .i64 0, .int .i64 (x12 + a12), .int .i64 0] := by
    intro a1 a4 a7 a10 a12 hon e1 e4 e7 e10 e12
    unfold nCells
    rw [evSum_snoc, evSum_snoc, evSum_snoc, evSum_snoc, evSum_snoc, hon, h1, h4, h7, h10, h12, e1, e4, e7, e10, e12]
    simp
  have HNC := Lib.hid hNC
  have HBX := Lib.hid hbx
  have q1 := boxAt (i := 1) hbx rfl
  have q4 := boxAt (i := 4) hbx rfl
  have q7 := boxAt (i := 7) hbx rfl
  have q10 := boxAt (i := 10) hbx rfl
  have q12 := boxAt (i := 12) hbx rfl
  have d0 : ∀ o, W0.frozen? ⟨nb, o, none⟩ = false := fun o => boxFree hbx
  have hne1 : eb ≠ nb := hne
  have hne2 : nb ≠ eb := fun h => hne h.symm
  clear h1 h4 h7 h10 h12 hr hbx hNC
  obtain ⟨kd, hkd⟩ : ∃ kd, gi e 0 = kd := ⟨_, rfl⟩
  rw [hkd] at z0
  have HKD := Lib.hid hkd
  clear hkd
  have hon : ∀ b, fitsB (gi e 5) = b → (kd = 1 ∨ kd = 2 ∨ kd = 3 ∨ kd = 4 → evOn e = b) := fun b hb hk4 => by
    unfold evOn kindB wfB
    rw [HKD.out, if_pos hk4, decide_eq_true (by omega), Bool.true_and]
    exact hb
  have hon5 : kd = 5 → evOn e = decide (gi e 4 ≤ 1) := fun hk5 => by
    unfold evOn kindB wfB
    rw [HKD.out, if_neg (by omega), if_pos hk5, decide_eq_true (by omega), Bool.true_and]
  have hon7 : kd = 7 → evOn e = true := fun hk7 => by
    unfold evOn kindB wfB
    rw [HKD.out, if_neg (by omega), if_neg (by omega), decide_eq_true (by omega)]; rfl
  have honx : ¬ (kd = 1 ∨ kd = 2 ∨ kd = 3 ∨ kd = 4 ∨ kd = 5 ∨ kd = 7) → evOn e = false := fun hk => by
    unfold evOn kindB
    rw [HKD.out, decide_eq_false hk, Bool.false_and]
  have HON := Lib.hid hon
  have HON5 := Lib.hid hon5
  have HON7 := Lib.hid hon7
  have HONX := Lib.hid honx
  clear hon hon5 hon7 honx
  by_cases k1 : kd = 1
  · subst k1
    cases fb
    · have HEV0 := Lib.hid (HON.out false HFB.out (by omega))
      go_wp2_with fail
      (try simp only [Exit.inBlock, Exit.then])
      exact HQC.out _ _ _ _ _ _ _ _ _ _ _ _ _ _ _ _ _ _ _ _ _ _ _ _ _ _ _ _ _ _ _ _ _ _ _ _ _ _ _ _ _ _ _ _ _ _ _ _ _ _ _ _ _ _ _ _ _ _ _ _ _ _ _ _ _ _ _ _ _ _ _ _ _  HEV0.out (by rw [HKD.out]; omega)
    · have HEV0 := Lib.hid (HON.out true HFB.out (by omega))
      have hnc := HNC.out 1 0 0 0 0 HEV0.out (by rw [HKD.out]; rfl) (by rw [HKD.out]; rfl) (by rw [HKD.out]; rfl) (by rw [HKD.out]; rfl) (by rw [HKD.out]; rfl)
      have HNCE := Lib.hid hnc
      clear hnc
      go_wp2_with fail
      (try simp only [Exit.inBlock, Exit.then])
      exact HQN.out _ _ _ _ _ _ _ _ _ _ _ _ _ _ _ _ _ _ _ _ _ _ _ _ _ _ _ _ _ _ _ _ _ _ _ _ _ _ _ _ _ _ _ _ _ _ _ _ _ _ _ _ _ _ _ _ _ _ _ _ _ _ _ _ _ _ _ _ _ _ _ _ _  _ ⟨(by (repeat refine Upd.set ?_ (by rfl) _ _); exact Upd.refl _ _), (by simp [World.setCell]), (by rw [HNCE.out]; simp only [Int.add_zero]; exact (set1_heap HBX.out 1 _)), (by unfold keepB; rw [HEV0.out]; rfl)⟩
  by_cases k2 : kd = 2
  · subst k2
    cases fb
    · have HEV0 := Lib.hid (HON.out false HFB.out (by omega))
      go_wp2_with fail
      (try simp only [Exit.inBlock, Exit.then])
      exact HQC.out _ _ _ _ _ _ _ _ _ _ _ _ _ _ _ _ _ _ _ _ _ _ _ _ _ _ _ _ _ _ _ _ _ _ _ _ _ _ _ _ _ _ _ _ _ _ _ _ _ _ _ _ _ _ _ _ _ _ _ _ _ _ _ _ _ _ _ _ _ _ _ _ _  HEV0.out (by rw [HKD.out]; omega)
    · have HEV0 := Lib.hid (HON.out true HFB.out (by omega))
      have hnc := HNC.out 0 1 0 0 0 HEV0.out (by rw [HKD.out]; rfl) (by rw [HKD.out]; rfl) (by rw [HKD.out]; rfl) (by rw [HKD.out]; rfl) (by rw [HKD.out]; rfl)
      have HNCE := Lib.hid hnc
      clear hnc
      go_wp2_with fail
      (try simp only [Exit.inBlock, Exit.then])
      exact HQN.out _ _ _ _ _ _ _ _ _ _ _ _ _ _ _ _ _ _ _ _ _ _ _ _ _ _ _ _ _ _ _ _ _ _ _ _ _ _ _ _ _ _ _ _ _ _ _ _ _ _ _ _ _ _ _ _ _ _ _ _ _ _ _ _ _ _ _ _ _ _ _ _ _  _ ⟨(by (repeat refine Upd.set ?_ (by rfl) _ _); exact Upd.refl _ _), (by simp [World.setCell]), (by rw [HNCE.out]; simp only [Int.add_zero]; exact (set1_heap HBX.out 4 _)), (by unfold keepB; rw [HEV0.out]; rfl)⟩
  by_cases k3 : kd = 3
  · subst k3
    cases fb
    · have HEV0 := Lib.hid (HON.out false HFB.out (by omega))
      go_wp2_with fail
      (try simp only [Exit.inBlock, Exit.then])
      exact HQC.out _ _ _ _ _ _ _ _ _ _ _ _ _ _ _ _ _ _ _ _ _ _ _ _ _ _ _ _ _ _ _ _ _ _ _ _ _ _ _ _ _ _ _ _ _ _ _ _ _ _ _ _ _ _ _ _ _ _ _ _ _ _ _ _ _ _ _ _ _ _ _ _ _  HEV0.out (by rw [HKD.out]; omega)
    · have HEV0 := Lib.hid (HON.out true HFB.out (by omega))
      have hnc := HNC.out 0 0 1 0 0 HEV0.out (by rw [HKD.out]; rfl) (by rw [HKD.out]; rfl) (by rw [HKD.out]; rfl) (by rw [HKD.out]; rfl) (by rw [HKD.out]; rfl)
      have HNCE := Lib.hid hnc
      clear hnc
      go_wp2_with fail
      (try simp only [Exit.inBlock, Exit.then])
      exact HQN.out _ _ _ _ _ _ _ _ _ _ _ _ _ _ _ _ _ _ _ _ _ _ _ _ _ _ _ _ _ _ _ _ _ _ _ _ _ _ _ _ _ _ _ _ _ _ _ _ _ _ _ _ _ _ _ _ _ _ _ _ _ _ _ _ _ _ _ _ _ _ _ _ _  _ ⟨(by (repeat refine Upd.set ?_ (by rfl) _ _); exact Upd.refl _ _), (by simp [World.setCell]), (by rw [HNCE.out]; simp only [Int.add_zero]; exact (set1_heap HBX.out 7 _)), (by unfold keepB; rw [HEV0.out]; rfl)⟩
  by_cases k4 : kd = 4
  · subst k4
    cases fb
    · have HEV0 := Lib.hid (HON.out false HFB.out (by omega))
      go_wp2_with fail
      (try simp only [Exit.inBlock, Exit.then])
      exact HQC.out _ _ _ _ _ _ _ _ _ _ _ _ _ _ _ _ _ _ _ _ _ _ _ _ _ _ _ _ _ _ _ _ _ _ _ _ _ _ _ _ _ _ _ _ _ _ _ _ _ _ _ _ _ _ _ _ _ _ _ _ _ _ _ _ _ _ _ _ _ _ _ _ _  HEV0.out (by rw [HKD.out]; omega)
    · have HEV0 := Lib.hid (HON.out true HFB.out (by omega))
      have hnc := HNC.out 0 1 1 0 0 HEV0.out (by rw [HKD.out]; rfl) (by rw [HKD.out]; rfl) (by rw [HKD.out]; rfl) (by rw [HKD.out]; rfl) (by rw [HKD.out]; rfl)
      have HNCE := Lib.hid hnc
      clear hnc
      go_wp2_with fail
      (try simp only [Exit.inBlock, Exit.then])
      exact HQN.out _ _ _ _ _ _ _ _ _ _ _ _ _ _ _ _ _ _ _ _ _ _ _ _ _ _ _ _ _ _ _ _ _ _ _ _ _ _ _ _ _ _ _ _ _ _ _ _ _ _ _ _ _ _ _ _ _ _ _ _ _ _ _ _ _ _ _ _ _ _ _ _ _  _ ⟨(by (repeat refine Upd.set ?_ (by rfl) _ _); exact Upd.refl _ _), (by simp [World.setCell]), (by rw [HNCE.out]; simp only [Int.add_zero]; exact (set1_heap (set1_heap HBX.out 4 _) 7 _)), (by unfold keepB; rw [HEV0.out]; rfl)⟩
  by_cases k5 : kd = 5
  · subst k5
    by_cases nb1 : gi e 4 ≤ 1
    · have HEV0 := Lib.hid ((HON5.out rfl).trans (decide_eq_true nb1))
      have hnc := HNC.out 0 0 0 1 0 HEV0.out (by rw [HKD.out]; rfl) (by rw [HKD.out]; rfl) (by rw [HKD.out]; rfl) (by rw [HKD.out]; rfl) (by rw [HKD.out]; rfl)
      have HNCE := Lib.hid hnc
      clear hnc
      go_wp2_with fail
      (try simp only [Exit.inBlock, Exit.then])
      exact HQN.out _ _ _ _ _ _ _ _ _ _ _ _ _ _ _ _ _ _ _ _ _ _ _ _ _ _ _ _ _ _ _ _ _ _ _ _ _ _ _ _ _ _ _ _ _ _ _ _ _ _ _ _ _ _ _ _ _ _ _ _ _ _ _ _ _ _ _ _ _ _ _ _ _  _ ⟨(by (repeat refine Upd.set ?_ (by rfl) _ _); exact Upd.refl _ _), (by simp [World.setCell]), (by rw [HNCE.out]; simp only [Int.add_zero]; exact (set1_heap HBX.out 10 _)), (by unfold keepB; rw [HEV0.out]; rfl)⟩
    · have HEV0 := Lib.hid ((HON5.out rfl).trans (decide_eq_false nb1))
      go_wp2_with fail
      (try simp only [Exit.inBlock, Exit.then])
      exact HQC.out _ _ _ _ _ _ _ _ _ _ _ _ _ _ _ _ _ _ _ _ _ _ _ _ _ _ _ _ _ _ _ _ _ _ _ _ _ _ _ _ _ _ _ _ _ _ _ _ _ _ _ _ _ _ _ _ _ _ _ _ _ _ _ _ _ _ _ _ _ _ _ _ _  HEV0.out (by rw [HKD.out]; omega)
  by_cases k7 : kd = 7
  · subst k7
    have HEV0 := Lib.hid (HON7.out rfl)
    have hnc := HNC.out 0 0 0 0 1 HEV0.out (by rw [HKD.out]; rfl) (by rw [HKD.out]; rfl) (by rw [HKD.out]; rfl) (by rw [HKD.out]; rfl) (by rw [HKD.out]; rfl)
    have HNCE := Lib.hid hnc
    clear hnc
    go_wp2_with fail
    (try simp only [Exit.inBlock, Exit.then])
    exact HQN.out _ _ _ _ _ _ _ _ _ _ _ _ _ _ _ _ _ _ _ _ _ _ _ _ _ _ _ _ _ _ _ _ _ _ _ _ _ _ _ _ _ _ _ _ _ _ _ _ _ _ _ _ _ _ _ _ _ _ _ _ _ _ _ _ _ _ _ _ _ _ _ _ _  _ ⟨(by (repeat refine Upd.set ?_ (by rfl) _ _); exact Upd.refl _ _), (by simp [World.setCell]), (by rw [HNCE.out]; simp only [Int.add_zero]; exact (set1_heap HBX.out 12 _)), (by unfold keepB; rw [HEV0.out]; rfl)⟩
  have HEV0 := Lib.hid (HONX.out (by omega))
  by_cases k6 : kd = 6
  · subst k6
    go_wp2_with fail
    (try simp only [Exit.inBlock, Exit.then])
    exact HQN.out _ _ _ _ _ _ _ _ _ _ _ _ _ _ _ _ _ _ _ _ _ _ _ _ _ _ _ _ _ _ _ _ _ _ _ _ _ _ _ _ _ _ _ _ _ _ _ _ _ _ _ _ _ _ _ _ _ _ _ _ _ _ _ _ _ _ _ _ _ _ _ _ _  _ ⟨Upd.refl _ _, rfl, (by rw [nCells_idle HEV0.out]; exact HBN.out), (by unfold keepB; rw [HKD.out, HEV0.out]; rfl)⟩
  have b1 : (kd == 1) = false := by simpa using k1
  have b2 : (kd == 2) = false := by simpa using k2
  have b3 : (kd == 3) = false := by simpa using k3
  have b4 : (kd == 4) = false := by simpa using k4
  have b5 : (kd == 5) = false := by simpa using k5
  have b6 : (kd == 6) = false := by simpa using k6
  have b7 : (kd == 7) = false := by simpa using k7
  have b8 : (kd != 6) = true := by simpa using k6
  have HK6 := Lib.hid k6
  clear k1 k2 k3 k4 k5 k6 k7
  go_wp2_with fail
  (try simp only [Exit.inBlock, Exit.then])
  exact HQC.out _ _ _ _ _ _ _ _ _ _ _ _ _ _ _ _ _ _ _ _ _ _ _ _ _ _ _ _ _ _ _ _ _ _ _ _ _ _ _ _ _ _ _ _ _ _ _ _ _ _ _ _ _ _ _ _ _ _ _ _ _ _ _ _ _ _ _ _ _ _ _ _ _  HEV0.out (by rw [HKD.out]; exact HK6.out)
attribute [local irreducible] World.setCell World.setRow in
set_option maxRecDepth 1000000 in
set_option maxHeartbeats 8000000 in
theorem sums_loop (nb : Nat) (WL : World) (AE : Option Addr) (ce : Nat) (es : List (List Int)) (Q : Exit → Act → World → Prop) (c0 c1 c2 c4 c5 c6 c7 c8 c9 c10 c11 c14 c15 c16 c17 c18 c19 c20 c21 c22 c23 c24 c25 c26 c27 c28 c29 c30 c31 c32 c33 c34 c35 c36 c37 c38 c39 c40 c44 c45 c46 c47 c48 c49 c50 c51 c52 c53 c54 c55 c56 c57 c58 c59 c60 c61 c62 c63 c64 c65 c66 c67 c68 c69 c70 c71 c72 c73 c74 c75 c76 c77 c78 c79 c80 c81 c82 c83 c84 c85 c86 c87 c88 c89 c90 c91 c92 c93 c94 c95 c96 c97 c98 c99 c100 c101 c102 c103 c104 c105 c106 c107 c108 c109 c110 c111 c112 c113 c114 c115 c116 c117 c118 c119 c120 c121 c122 c123 c124 c125 c126 c127 c128 c129 c130 c131 c132 c133 c134 c135 c136 c137 c138 c139 c140 c141 c142 c143 c144 c145 c146 c147 c148 c149 c150 c151 c152 c153 c154 c155 c156 c157 c158 c159 c160 c161 c162 c163 c164 c165 c166 c167 c168 c169 c170 c171 c172 c173 c174 c175 c176 c177 c178 c179 c180 c181 c182 c183 c184 c185 c186 c187 c188 c189 c190 c191 c192 c193 c194 c195 c196 c197 c198 c199 c200 c201 c202 c203 c204 c205 c206 c207 c208 c209 c210 c211 c212 c213 c214 c215 c216 c217 c218 c219 c220 c221 c222 c223 c224 c225 c226 c227 c228 c229 c230 c231 c232 c233 c234 c235 c236 c237 c238 c239 c240 c241 c242 c243 c244 c245 c246 : Value) (hnb : nb < WL.heap.size) (hel : es.length ≤ 60) (hbox : WL.heap[nb]? = some (.cells (nCells []) 79 (0, 0)))
    (hE : ∀ W, Upd (fun b => b = nb) WL W → RdE W AE es) (hev : ∀ k, k < es.length → EvU (gn es k))
    (hQ : ∀ (v u8 u43 u14 u15 u16 u44 u45 u46 u47 u48 u49 u50 u51 u52 u53 u54 u55 u56 u57 u58 u59 u60 u61 u62 u63 u64 u65 u66 u67 u68 u69 u70 u71 u72 u73 u74 u75 u76 u77 u78 u79 u80 u81 u82 u83 u84 u85 u86 u87 u88 u89 u90 u91 u92 u93 u94 u95 u96 u97 u98 u99 u100 u101 u102 u103 u104 u105 u106 u107 u108 u109 u110 u111 u112 u113 u114 u115 u116 u117 u118 u119 u120 u121 u122 u123 u124 u125 u126 u127 u128 u129 u130 u131 u132 u133 u134 u135 u136 u137 u138 u139 u140 u141 u142 u143 u144 : Value) (W' : World), SumR WL nb es es.length v W' → Q .normal ⟨#[c0, c1, c2, .slice AE es.length ce, c4, c5, c6, c7, u8, c9, c10, c11, .pointer (some ⟨nb, 0, none⟩), v, u14, u15, u16, c17, c18, c19, c20, c21, c22, c23, c24, c25, c26, c27, c28, c29, c30, c31, c32, c33, c34, c35, c36, c37, c38, c39, c40, .slice AE es.length ce, .int .i64 (es.length : Int), u43, u44, u45, u46, u47, u48, u49, u50, u51, u52, u53, u54, u55, u56, u57, u58, u59, u60, u61, u62, u63, u64, u65, u66, u67, u68, u69, u70, u71, u72, u73, u74, u75, u76, u77, u78, u79, u80, u81, u82, u83, u84, u85, u86, u87, u88, u89, u90, u91, u92, u93, u94, u95, u96, u97, u98, u99, u100, u101, u102, u103, u104, u105, u106, u107, u108, u109, u110, u111, u112, u113, u114, u115, u116, u117, u118, u119, u120, u121, u122, u123, u124, u125, u126, u127, u128, u129, u130, u131, u132, u133, u134, u135, u136, u137, u138, u139, u140, u141, u142, u143, u144, c145, c146, c147, c148, c149, c150, c151, c152, c153, c154, c155, c156, c157, c158, c159, c160, c161, c162, c163, c164, c165, c166, c167, c168, c169, c170, c171, c172, c173, c174, c175, c176, c177, c178, c179, c180, c181, c182, c183, c184, c185, c186, c187, c188, c189, c190, c191, c192, c193, c194, c195, c196, c197, c198, c199, c200, c201, c202, c203, c204, c205, c206, c207, c208, c209, c210, c211, c212, c213, c214, c215, c216, c217, c218, c219, c220, c221, c222, c223, c224, c225, c226, c227, c228, c229, c230, c231, c232, c233, c234, c235, c236, c237, c238, c239, c240, c241, c242, c243, c244, c245, c246], []⟩ W')
    (hR : ∀ (v i u14 u15 u16 u44 u45 u46 u47 u48 u49 u50 u51 u52 u53 u54 u55 u56 u57 u58 u59 u60 u61 u62 u63 u64 u65 u66 u67 u68 u69 u70 u71 u72 u73 u74 u75 u76 u77 u78 u79 u80 u81 u82 u83 u84 u85 u86 u87 u88 u89 u90 u91 u92 u93 u94 u95 u96 u97 u98 u99 u100 u101 u102 u103 u104 u105 u106 u107 u108 u109 u110 u111 u112 u113 u114 u115 u116 u117 u118 u119 u120 u121 u122 u123 u124 u125 u126 u127 u128 u129 u130 u131 u132 u133 u134 u135 u136 u137 u138 u139 u140 u141 u142 u143 u144 : Value) (W' : World), Upd (fun b => b = nb) WL W' → Q .ret ⟨#[c0, c1, c2, .slice AE es.length ce, c4, c5, c6, c7, .bool true, c9, c10, c11, .pointer (some ⟨nb, 0, none⟩), v, u14, u15, u16, c17, c18, c19, c20, c21, c22, c23, c24, c25, c26, c27, c28, c29, c30, c31, c32, c33, c34, c35, c36, c37, c38, c39, c40, .slice AE es.length ce, .int .i64 (es.length : Int), i, u44, u45, u46, u47, u48, u49, u50, u51, u52, u53, u54, u55, u56, u57, u58, u59, u60, u61, u62, u63, u64, u65, u66, u67, u68, u69, u70, u71, u72, u73, u74, u75, u76, u77, u78, u79, u80, u81, u82, u83, u84, u85, u86, u87, u88, u89, u90, u91, u92, u93, u94, u95, u96, u97, u98, u99, u100, u101, u102, u103, u104, u105, u106, u107, u108, u109, u110, u111, u112, u113, u114, u115, u116, u117, u118, u119, u120, u121, u122, u123, u124, u125, u126, u127, u128, u129, u130, u131, u132, u133, u134, u135, u136, u137, u138, u139, u140, u141, u142, u143, u144, c145, c146, c147, c148, c149, c150, c151, c152, c153, c154, c155, c156, c157, c158, c159, c160, c161, c162, c163, c164, c165, c166, c167, c168, c169, c170, c171, c172, c173, c174, c175, c176, c177, c178, c179, c180, c181, c182, c183, c184, c185, c186, c187, c188, c189, c190, c191, c192, c193, c194, c195, c196, c197, c198, c199, c200, c201, c202, c203, c204, c205, c206, c207, c208, c209, c210, c211, c212, c213, c214, c215, c216, c217, c218, c219, c220, c221, c222, c223, c224, c225, c226, c227, c228, c229, c230, c231, c232, c233, c234, c235, c236, c237, c238, c239, c240, c241, c242, c243, c244, c245, c246], []⟩ W') :
    Code.wp Try.prog sumsCode Q ⟨#[c0, c1, c2, .slice AE es.length ce, c4, c5, c6, c7, c8, c9, c10, c11, .pointer (some ⟨nb, 0, none⟩), .slice none 0 0, c14, c15, c16, c17, c18, c19, c20, c21, c22, c23, c24, c25, c26, c27, c28, c29, c30, c31, c32, c33, c34, c35, c36, c37, c38, c39, c40, .slice AE es.length ce, .int .i64 (es.length : Int), .int .i64 0, c44, c45, c46, c47, c48, c49, c50, c51, c52, c53, c54, c55, c56, c57, c58, c59, c60, c61, c62, c63, c64, c65, c66, c67, c68, c69, c70, c71, c72, c73, c74, c75, c76, c77, c78, c79, c80, c81, c82, c83, c84, c85, c86, c87, c88, c89, c90, c91, c92, c93, c94, c95, c96, c97, c98, c99, c100, c101, c102, c103, c104, c105, c106, c107, c108, c109, c110, c111, c112, c113, c114, c115, c116, c117, c118, c119, c120, c121, c122, c123, c124, c125, c126, c127, c128, c129, c130, c131, c132, c133, c134, c135, c136, c137, c138, c139, c140, c141, c142, c143, c144, c145, c146, c147, c148, c149, c150, c151, c152, c153, c154, c155, c156, c157, c158, c159, c160, c161, c162, c163, c164, c165, c166, c167, c168, c169, c170, c171, c172, c173, c174, c175, c176, c177, c178, c179, c180, c181, c182, c183, c184, c185, c186, c187, c188, c189, c190, c191, c192, c193, c194, c195, c196, c197, c198, c199, c200, c201, c202, c203, c204, c205, c206, c207, c208, c209, c210, c211, c212, c213, c214, c215, c216, c217, c218, c219, c220, c221, c222, c223, c224, c225, c226, c227, c228, c229, c230, c231, c232, c233, c234, c235, c236, c237, c238, c239, c240, c241, c242, c243, c244, c245, c246], []⟩ WL := by
  have HE := Lib.hid hE
  have HEV := Lib.hid hev
  have HQ := Lib.hid hQ
  have HRR := Lib.hid hR
  have HB := Lib.hid hbox
  clear hE hev hQ hR hbox
  obtain ⟨i0, hi0, hz0, hz1, hz2⟩ := info_parts info_evS
  conv => arg 2; whnf
  go_wp2_with fail
  go_loopw [13, 43] (fun v i wr => ∃ k : Nat, k ≤ es.length ∧ i = .int .i64 k ∧ Hid (SumR WL nb es k v wr)) (fun _ i _ => es.length - (intOf i).toNat)
  case atStart => exact ⟨0, Nat.zero_le _, rfl, Lib.hid ⟨HB.out, World.ownsRow_nil _ _ _ _, Upd.refl _ _⟩⟩
  case round =>
    obtain ⟨k, hk, rfl, HR⟩ := hrel
    by_cases hlt : k < es.length
    · obtain ⟨ad, e0, y0, y1, y2, y3, y4, y5⟩ := (HE.out wr HR.out.upd).at6 k hlt
      subst e0
      obtain ⟨e, he⟩ : ∃ e, gn es k = e := ⟨_, rfl⟩
      have hEU := HEV.out k hlt
      rw [he] at y0 y1 y2 y3 y4 y5 hEU
      have HEG := Lib.hid he
      have hb4 := hEU.b.1
      have hkl : (keepL es k).length ≤ 60 := by unfold keepL; have := List.length_filter_le keepB (es.take k); simp at this; omega
      clear he hEU
      obtain ⟨W0, hW0⟩ : ∃ W0, wr.alloc (.cells #[.int .i64 (gi e 0), .int .i64 (gi e 1), .int .u32 (gi e 2), .int .u32 (gi e 3), .int .u32 (gi e 4), .int .i64 (gi e 5)] 71) = W0 := ⟨_, rfl⟩
      have hu0 : Upd (fun _ => False) wr W0 := by rw [← hW0]; exact Upd.alloc _ _ _
      have hz0' : W0.heap[wr.heap.size]? = some (.cells #[.int .i64 (gi e 0), .int .i64 (gi e 1), .int .u32 (gi e 2), .int .u32 (gi e 3), .int .u32 (gi e 4), .int .i64 (gi e 5)] 71 (0, 0)) := by rw [← hW0]; exact heap_alloc_new _ _
      have hs0 : wr.heap.size < W0.heap.size := by rw [← hW0]; simp
      have hsl := HR.out.upd.size
      obtain ⟨z0, z1, z2, z3, z4, z5, _⟩ := box6 hz0'
      have HUF := Lib.hid hu0
      have HU0 := Lib.hid (hu0.mono (G := fun b => b = nb) fun _ h => absurd h id)
      have HZ0 := Lib.hid hz0'
      have hbn : W0.heap[nb]? = some (.cells (nCells (es.take k)) 79 (0, 0)) := (hu0.block nb (by omega) id).trans HR.out.box
      have HBN := Lib.hid hbn
      clear hu0 hz0' hbn
      by_cases hearly : 3000 < gi e 5 ∧ gi e 5 ≤ 65536
      · obtain ⟨n1, n2⟩ := hearly
        go_wp2_with fail
        refine (sane_any _).mono ?_
        rintro ee W1 ⟨rfl, hb1⟩
        have HU1 := Lib.hid (((HR.out.upd.trans HU0.out fun j hj => .inl hj)).trans (Upd.of_below hb1) fun j hj => .inr (by have := HR.out.upd.size; omega))
        clear hb1
        go_wp2_with fail
        (try simp only [Exit.inBlock, Exit.then])
        exact HRR.out _ _ _ _ _ _ _ _ _ _ _ _ _ _ _ _ _ _ _ _ _ _ _ _ _ _ _ _ _ _ _ _ _ _ _ _ _ _ _ _ _ _ _ _ _ _ _ _ _ _ _ _ _ _ _ _ _ _ _ _ _ _ _ _ _ _ _ _ _ _ _ _ _ _ _ _ _ _ _ _ _ _ _ _ _ _ _ _ _ _ _ _ _ _ _ _ _ _ _ _ _ _ _ _ _ _  _ HU1.out
      · skip
        have hne : wr.heap.size ≠ nb := by omega
        have HBN2 := Lib.hid HBN.out
        by_cases n1 : 1 ≤ gi e 5
        · by_cases n2 : gi e 5 ≤ 65536
          · have n3 : ¬ 3000 < gi e 5 := fun h => hearly ⟨h, n2⟩
            have HFB : Hid (fitsB (gi e 5) = true) := Lib.hid (by unfold fitsB; rw [decide_eq_true n1, decide_eq_true n2]; rfl)
            clear hearly
            go_upto_block 2 with fail
            refine sum_switch nb wr.heap.size W0 (es.take k) e true _ _ _ _ _ _ _ _ _ _ _ _ _ _ _ _ _ _ _ _ _ _ _ _ _ _ _ _ _ _ _ _ _ _ _ _ _ _ _ _ _ _ _ _ _ _ _ _ _ _ _ _ _ _ _ _ _ _ _ _ _ _ _ _ _ _ _ _ _ _ _ _ _ _ _ _ _ _ _ _ _ _ _ _ _ _ _ _ _ _ _ _ _ _ _ _ _ _ _ _ _ _ _ _ _ _ _ _ _ _ _ _ _ _ _ _ _ _ _ _ _ _ _ _ _ _ _ _ _ _ _ _ _ _ _ _ _ _ _ _ _ _ _ _ _ _ _ _ _ _ _ _ _ _ _ _ _ _ _ _ _ _ _ _ _ _ _ _ _ _ _ _ _ _ _ _ _ _ _ _ _ _ _ _ _ _ _ _ _ _ _ _ _ _ _ _ _ _ _ _ _ _ _ _ _ _ _ _ _ _ _ _ _ _ _ _ _ _ _ _ _ _ _ _ _ _ _ _ _ _ _ _ _ _ _ _ _ _ _ _ _ _ _ _ _  HZ0.out HBN.out hne (by simp; omega) HFB.out hb4 ?_ ?_
            · intro u67 u68 u69 u70 u71 u72 u73 u74 u75 u76 u77 u78 u79 u80 u81 u82 u83 u84 u85 u86 u87 u88 u89 u90 u91 u92 u93 u94 u95 u96 u97 u98 u99 u100 u101 u102 u103 u104 u105 u106 u107 u108 u109 u110 u111 u112 u113 u114 u115 u116 u117 u118 u119 u120 u121 u122 u123 u124 u125 u126 u127 u128 u129 u130 u131 u132 u133 u134 u135 u136 u137 u138 u139 Wb hsw
              obtain ⟨q1, q2, q3, q4⟩ := hsw
              have hzb := (q1.block _ (Array.getElem?_eq_some_iff.1 HZ0.out).1 hne).trans HZ0.out
              obtain ⟨z0, z1, z2, z3, z4, z5, _⟩ := box6 hzb
              have HUB := Lib.hid (HU0.out.trans q1 fun j hj => .inl hj)
              have HQ3 := Lib.hid q3
              have HQ4 := Lib.hid q4
              have HQ2 := Lib.hid q2
              have hsb : wr.heap.size < Wb.heap.size := by omega
              clear q1 q2 q3 q4 hzb y0 y1 y2 y3 y4 y5 hW0
              (try simp only [Exit.inBlock, Exit.then])
              go_wp2_with (at_builtin; refine wpList_append_own _ rfl (.tmp 140) (.tmp 142) 68 rfl WL.heap.size 71 i0 (.agg #[.int .i64 0, .int .i64 0, .int .u32 0, .int .u32 0, .int .u32 0, .int .i64 0]) 6 40 Try.underlying68 hi0 hz0 hz1 hz2 rfl (by decide) u13 (keepL es k).length ((keepL es k).flatMap evCells) rfl (HR.out.keep hnb (HUB.out.al _)) ⟨Wb.heap.size, 0, none⟩ 1 1 [.int .i64 (gi e 0), .int .i64 (gi e 1), .int .u32 (gi e 2), .int .u32 (gi e 3), .int .u32 (gi e 4), .int .i64 (gi e 5)] rfl rfl (cells_block (by exact alloc_at _ _ Wb.heap.size (by first | (simp; done) | rfl | (simp [World.setCell]; done)))) (by simp [Value.oneCell']) (by unfold maxLen; omega) (by omega) (by first | (simp; omega) | (simp [World.setCell]; omega) | omega) ?_; intro v1 w1 hown1 hgrow1 _)
              (try simp only [Exit.inBlock, Exit.then])
              go_roundw
              case rel => exact ⟨k + 1, hlt, by go_num, Lib.hid (HR.out.next hnb hlt (HUB.out.al _) (by rw [HEG.out]; exact boxAl HQ3.out) (by rw [HEG.out]; exact hown1) hgrow1 (by rw [HEG.out]; exact HQ4.out))⟩
              case measure => simp [intOf]; omega
            · intro u67 u68 u69 u70 u71 u72 u73 u74 u75 u76 u77 u78 u79 u80 u81 u82 u83 u84 u85 u86 u87 u88 u89 u90 u91 u92 u93 u94 u95 u96 u97 u98 u99 u100 u101 u102 u103 u104 u105 u106 u107 u108 u109 u110 u111 u112 u113 u114 u115 u116 u117 u118 u119 u120 u121 u122 u123 u124 u125 u126 u127 u128 u129 u130 u131 u132 u133 u134 u135 u136 u137 u138 u139 hev0 h60
              have HEV0 := Lib.hid hev0
              have H60 := Lib.hid h60
              clear hev0 h60
              (try simp only [Exit.inBlock, Exit.then])
              go_wp2_with fail
              (try simp only [Exit.inBlock, Exit.then])
              go_roundw
              case rel => exact ⟨k + 1, hlt, by go_num, Lib.hid (HR.out.idle hnb hlt HUF.out (by rw [HEG.out]; exact HEV0.out) (by rw [HEG.out]; exact H60.out))⟩
              case measure => simp [intOf]; omega
          · have n3 : 3000 < gi e 5 := by omega
            have HFB : Hid (fitsB (gi e 5) = false) := Lib.hid (by unfold fitsB; rw [decide_eq_false n2, Bool.and_false])
            clear hearly
            go_upto_block 2 with fail
            refine sum_switch nb wr.heap.size W0 (es.take k) e false _ _ _ _ _ _ _ _ _ _ _ _ _ _ _ _ _ _ _ _ _ _ _ _ _ _ _ _ _ _ _ _ _ _ _ _ _ _ _ _ _ _ _ _ _ _ _ _ _ _ _ _ _ _ _ _ _ _ _ _ _ _ _ _ _ _ _ _ _ _ _ _ _ _ _ _ _ _ _ _ _ _ _ _ _ _ _ _ _ _ _ _ _ _ _ _ _ _ _ _ _ _ _ _ _ _ _ _ _ _ _ _ _ _ _ _ _ _ _ _ _ _ _ _ _ _ _ _ _ _ _ _ _ _ _ _ _ _ _ _ _ _ _ _ _ _ _ _ _ _ _ _ _ _ _ _ _ _ _ _ _ _ _ _ _ _ _ _ _ _ _ _ _ _ _ _ _ _ _ _ _ _ _ _ _ _ _ _ _ _ _ _ _ _ _ _ _ _ _ _ _ _ _ _ _ _ _ _ _ _ _ _ _ _ _ _ _ _ _ _ _ _ _ _ _ _ _ _ _ _ _ _ _ _ _ _ _ _ _ _ _ _ _ _ _  HZ0.out HBN.out hne (by simp; omega) HFB.out hb4 ?_ ?_
            · intro u67 u68 u69 u70 u71 u72 u73 u74 u75 u76 u77 u78 u79 u80 u81 u82 u83 u84 u85 u86 u87 u88 u89 u90 u91 u92 u93 u94 u95 u96 u97 u98 u99 u100 u101 u102 u103 u104 u105 u106 u107 u108 u109 u110 u111 u112 u113 u114 u115 u116 u117 u118 u119 u120 u121 u122 u123 u124 u125 u126 u127 u128 u129 u130 u131 u132 u133 u134 u135 u136 u137 u138 u139 Wb hsw
              obtain ⟨q1, q2, q3, q4⟩ := hsw
              have hzb := (q1.block _ (Array.getElem?_eq_some_iff.1 HZ0.out).1 hne).trans HZ0.out
              obtain ⟨z0, z1, z2, z3, z4, z5, _⟩ := box6 hzb
              have HUB := Lib.hid (HU0.out.trans q1 fun j hj => .inl hj)
              have HQ3 := Lib.hid q3
              have HQ4 := Lib.hid q4
              have HQ2 := Lib.hid q2
              have hsb : wr.heap.size < Wb.heap.size := by omega
              clear q1 q2 q3 q4 hzb y0 y1 y2 y3 y4 y5 hW0
              (try simp only [Exit.inBlock, Exit.then])
              go_wp2_with (at_builtin; refine wpList_append_own _ rfl (.tmp 140) (.tmp 142) 68 rfl WL.heap.size 71 i0 (.agg #[.int .i64 0, .int .i64 0, .int .u32 0, .int .u32 0, .int .u32 0, .int .i64 0]) 6 40 Try.underlying68 hi0 hz0 hz1 hz2 rfl (by decide) u13 (keepL es k).length ((keepL es k).flatMap evCells) rfl (HR.out.keep hnb (HUB.out.al _)) ⟨Wb.heap.size, 0, none⟩ 1 1 [.int .i64 (gi e 0), .int .i64 (gi e 1), .int .u32 (gi e 2), .int .u32 (gi e 3), .int .u32 (gi e 4), .int .i64 (gi e 5)] rfl rfl (cells_block (by exact alloc_at _ _ Wb.heap.size (by first | (simp; done) | rfl | (simp [World.setCell]; done)))) (by simp [Value.oneCell']) (by unfold maxLen; omega) (by omega) (by first | (simp; omega) | (simp [World.setCell]; omega) | omega) ?_; intro v1 w1 hown1 hgrow1 _)
              (try simp only [Exit.inBlock, Exit.then])
              go_roundw
              case rel => exact ⟨k + 1, hlt, by go_num, Lib.hid (HR.out.next hnb hlt (HUB.out.al _) (by rw [HEG.out]; exact boxAl HQ3.out) (by rw [HEG.out]; exact hown1) hgrow1 (by rw [HEG.out]; exact HQ4.out))⟩
              case measure => simp [intOf]; omega
            · intro u67 u68 u69 u70 u71 u72 u73 u74 u75 u76 u77 u78 u79 u80 u81 u82 u83 u84 u85 u86 u87 u88 u89 u90 u91 u92 u93 u94 u95 u96 u97 u98 u99 u100 u101 u102 u103 u104 u105 u106 u107 u108 u109 u110 u111 u112 u113 u114 u115 u116 u117 u118 u119 u120 u121 u122 u123 u124 u125 u126 u127 u128 u129 u130 u131 u132 u133 u134 u135 u136 u137 u138 u139 hev0 h60
              have HEV0 := Lib.hid hev0
              have H60 := Lib.hid h60
              clear hev0 h60
              (try simp only [Exit.inBlock, Exit.then])
              go_wp2_with fail
              (try simp only [Exit.inBlock, Exit.then])
              go_roundw
              case rel => exact ⟨k + 1, hlt, by go_num, Lib.hid (HR.out.idle hnb hlt HUF.out (by rw [HEG.out]; exact HEV0.out) (by rw [HEG.out]; exact H60.out))⟩
              case measure => simp [intOf]; omega
        · have n3 : ¬ 3000 < gi e 5 := by omega
          have HFB : Hid (fitsB (gi e 5) = false) := Lib.hid (by unfold fitsB; rw [decide_eq_false n1, Bool.false_and])
          clear hearly
          go_upto_block 2 with fail
          refine sum_switch nb wr.heap.size W0 (es.take k) e false _ _ _ _ _ _ _ _ _ _ _ _ _ _ _ _ _ _ _ _ _ _ _ _ _ _ _ _ _ _ _ _ _ _ _ _ _ _ _ _ _ _ _ _ _ _ _ _ _ _ _ _ _ _ _ _ _ _ _ _ _ _ _ _ _ _ _ _ _ _ _ _ _ _ _ _ _ _ _ _ _ _ _ _ _ _ _ _ _ _ _ _ _ _ _ _ _ _ _ _ _ _ _ _ _ _ _ _ _ _ _ _ _ _ _ _ _ _ _ _ _ _ _ _ _ _ _ _ _ _ _ _ _ _ _ _ _ _ _ _ _ _ _ _ _ _ _ _ _ _ _ _ _ _ _ _ _ _ _ _ _ _ _ _ _ _ _ _ _ _ _ _ _ _ _ _ _ _ _ _ _ _ _ _ _ _ _ _ _ _ _ _ _ _ _ _ _ _ _ _ _ _ _ _ _ _ _ _ _ _ _ _ _ _ _ _ _ _ _ _ _ _ _ _ _ _ _ _ _ _ _ _ _ _ _ _ _ _ _ _ _ _ _ _ _  HZ0.out HBN.out hne (by simp; omega) HFB.out hb4 ?_ ?_
          · intro u67 u68 u69 u70 u71 u72 u73 u74 u75 u76 u77 u78 u79 u80 u81 u82 u83 u84 u85 u86 u87 u88 u89 u90 u91 u92 u93 u94 u95 u96 u97 u98 u99 u100 u101 u102 u103 u104 u105 u106 u107 u108 u109 u110 u111 u112 u113 u114 u115 u116 u117 u118 u119 u120 u121 u122 u123 u124 u125 u126 u127 u128 u129 u130 u131 u132 u133 u134 u135 u136 u137 u138 u139 Wb hsw
            obtain ⟨q1, q2, q3, q4⟩ := hsw
            have hzb := (q1.block _ (Array.getElem?_eq_some_iff.1 HZ0.out).1 hne).trans HZ0.out
            obtain ⟨z0, z1, z2, z3, z4, z5, _⟩ := box6 hzb
            have HUB := Lib.hid (HU0.out.trans q1 fun j hj => .inl hj)
            have HQ3 := Lib.hid q3
            have HQ4 := Lib.hid q4
            have HQ2 := Lib.hid q2
            have hsb : wr.heap.size < Wb.heap.size := by omega
            clear q1 q2 q3 q4 hzb y0 y1 y2 y3 y4 y5 hW0
            (try simp only [Exit.inBlock, Exit.then])
            go_wp2_with (at_builtin; refine wpList_append_own _ rfl (.tmp 140) (.tmp 142) 68 rfl WL.heap.size 71 i0 (.agg #[.int .i64 0, .int .i64 0, .int .u32 0, .int .u32 0, .int .u32 0, .int .i64 0]) 6 40 Try.underlying68 hi0 hz0 hz1 hz2 rfl (by decide) u13 (keepL es k).length ((keepL es k).flatMap evCells) rfl (HR.out.keep hnb (HUB.out.al _)) ⟨Wb.heap.size, 0, none⟩ 1 1 [.int .i64 (gi e 0), .int .i64 (gi e 1), .int .u32 (gi e 2), .int .u32 (gi e 3), .int .u32 (gi e 4), .int .i64 (gi e 5)] rfl rfl (cells_block (by exact alloc_at _ _ Wb.heap.size (by first | (simp; done) | rfl | (simp [World.setCell]; done)))) (by simp [Value.oneCell']) (by unfold maxLen; omega) (by omega) (by first | (simp; omega) | (simp [World.setCell]; omega) | omega) ?_; intro v1 w1 hown1 hgrow1 _)
            (try simp only [Exit.inBlock, Exit.then])
            go_roundw
            case rel => exact ⟨k + 1, hlt, by go_num, Lib.hid (HR.out.next hnb hlt (HUB.out.al _) (by rw [HEG.out]; exact boxAl HQ3.out) (by rw [HEG.out]; exact hown1) hgrow1 (by rw [HEG.out]; exact HQ4.out))⟩
            case measure => simp [intOf]; omega
          · intro u67 u68 u69 u70 u71 u72 u73 u74 u75 u76 u77 u78 u79 u80 u81 u82 u83 u84 u85 u86 u87 u88 u89 u90 u91 u92 u93 u94 u95 u96 u97 u98 u99 u100 u101 u102 u103 u104 u105 u106 u107 u108 u109 u110 u111 u112 u113 u114 u115 u116 u117 u118 u119 u120 u121 u122 u123 u124 u125 u126 u127 u128 u129 u130 u131 u132 u133 u134 u135 u136 u137 u138 u139 hev0 h60
            have HEV0 := Lib.hid hev0
            have H60 := Lib.hid h60
            clear hev0 h60
            (try simp only [Exit.inBlock, Exit.then])
            go_wp2_with fail
            (try simp only [Exit.inBlock, Exit.then])
            go_roundw
            case rel => exact ⟨k + 1, hlt, by go_num, Lib.hid (HR.out.idle hnb hlt HUF.out (by rw [HEG.out]; exact HEV0.out) (by rw [HEG.out]; exact H60.out))⟩
            case measure => simp [intOf]; omega
    · have hke : k = es.length := by omega
      have HFE := Lib.hid (show SumR WL nb es es.length u13 wr by rw [← hke]; exact HR.out)
      clear hke HR HE HEV
      go_wp2
      (try simp only [Exit.inBlock, Exit.then])
      exact HQ.out _ _ _ _ _ _ _ _ _ _ _ _ _ _ _ _ _ _ _ _ _ _ _ _ _ _ _ _ _ _ _ _ _ _ _ _ _ _ _ _ _ _ _ _ _ _ _ _ _ _ _ _ _ _ _ _ _ _ _ _ _ _ _ _ _ _ _ _ _ _ _ _ _ _ _ _ _ _ _ _ _ _ _ _ _ _ _ _ _ _ _ _ _ _ _ _ _ _ _ _ _ _ _ _ _ _ _  _ HFE.out
end Go.Proofs.Ytdkacdfhapgboaa
