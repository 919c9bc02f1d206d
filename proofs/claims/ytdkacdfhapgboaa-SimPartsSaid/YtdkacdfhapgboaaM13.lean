/- Part 13 of the texts that the proof stands on: FeedV. -/
import Derived.Test.YtdkacdfhapgboaaM12

/- The loop of sim.Feed, in full. (printed by gen/feedg.py) -/
set_option linter.unusedVariables false
set_option linter.unusedSimpArgs false
namespace Go.Proofs.Ytdkacdfhapgboaa
open Go.RowKit

/-- What the loop carries behind k events. -/
structure FGRel (P : FP) (K : GC) (t : Int) (s0 : GS) (es : List (List Int)) (B gP cP k : Nat) (s : GS) (vN : Value) (aI aD aL : List Value) (vR : Value) (W : World) : Prop where
  gi : GI P s vN aI aD aL B gP cP vR W
  ran : s0.feed K (es.take k) = some s
  ok : GOk K t P.nI P.nD P.nL s
  len : s.N.length ≤ s0.N.length + k

def evK (e : List Int) : Bool := kindB (gi e 0) && wfB (gi e 0) (gi e 4) (gi e 5)
theorem idleK (K : GC) (s : GS) (e : List Int) (h : evK e = false) (h6 : gi e 0 ≠ 6) : s.ev K e = some s := by
  unfold GS.ev
  rw [if_neg (by unfold evK at h; rw [h]; simp)]
  unfold GS.called
  rw [if_neg h6]

theorem look_hit {W : World} {mb : Nat} (h : W.heap[mb]? = some (.map handE 6)) (kd : Int) (fn : Nat)
    (hk : (kd = 1 ∧ fn = 81) ∨ (kd = 2 ∧ fn = 82) ∨ (kd = 3 ∧ fn = 83) ∨ (kd = 4 ∧ fn = 84) ∨ (kd = 5 ∧ fn = 85) ∨ (kd = 7 ∧ fn = 86)) :
    (Instr.lookup 118 (.map (some mb)) (.int .i64 kd) true).run Try.prog W = .ok (.tuple #[.func (.func fn) #[] #[], .bool true]) W := by
  rcases hk with ⟨rfl, rfl⟩ | ⟨rfl, rfl⟩ | ⟨rfl, rfl⟩ | ⟨rfl, rfl⟩ | ⟨rfl, rfl⟩ | ⟨rfl, rfl⟩
  · exact run_mapLook (P := Try.prog) (t := 118) (W := W) Try.underlying118 Try.underlying3 h 1 0 (.func (.func 81) #[] #[]) rfl
  · exact run_mapLook (P := Try.prog) (t := 118) (W := W) Try.underlying118 Try.underlying3 h 2 1 (.func (.func 82) #[] #[]) rfl
  · exact run_mapLook (P := Try.prog) (t := 118) (W := W) Try.underlying118 Try.underlying3 h 3 2 (.func (.func 83) #[] #[]) rfl
  · exact run_mapLook (P := Try.prog) (t := 118) (W := W) Try.underlying118 Try.underlying3 h 4 3 (.func (.func 84) #[] #[]) rfl
  · exact run_mapLook (P := Try.prog) (t := 118) (W := W) Try.underlying118 Try.underlying3 h 5 4 (.func (.func 85) #[] #[]) rfl
  · exact run_mapLook (P := Try.prog) (t := 118) (W := W) Try.underlying118 Try.underlying3 h 7 5 (.func (.func 86) #[] #[]) rfl

/-- An empty simulation's cells. -/
abbrev zeroA : Array Value := #[.int .i64 0, .int .i64 0, .int .i64 0, .int .i64 0, .int .i64 0, .int .i64 0, .int .i64 0, .int .i64 0, .int .i64 0, .int .i64 0, .int .i64 0, .int .i64 0, .int .i64 0, .int .i64 0, .int .i64 0, .slice none 0 0, .int .i64 0, .int .i64 0, .int .i64 0, .slice none 0 0, .int .i64 0, .int .i64 0, .int .i64 0, .slice none 0 0, .int .i64 0, .int .i64 0, .int .i64 0, .slice none 0 0, .int .u32 0, .slice none 0 0, .slice none 0 0]
/-- The simulation with a place for an instruction. -/
def GS.atPC (s : GS) (e : List Int) : GS := { s with N := rowN s.N (gi e 2) }
theorem GS.atPC_same {s : GS} {e : List Int} (h : rowN s.N (gi e 2) = s.N) : s.atPC e = s := by unfold GS.atPC; rw [h]
theorem GOk.atPC {K : GC} {t : Int} {nI nD nL : Nat} {s : GS} (h : GOk K t nI nD nL s) (e : List Int) : GOk K t nI nD nL (s.atPC e) := ⟨h.i, h.d, h.l, h.n.row _, h.p, h.hist⟩
theorem acts_N (K : GC) (s : GS) (N : List (List Int)) (e c : List Int) : ({ s with N := N } : GS).acts K e c = ({ (s.acts K e c).1 with N := N }, (s.acts K e c).2) := by
  unfold GS.acts
  repeat' split
  all_goals rfl
theorem ev_hand (K : GC) (s : GS) (e : List Int) (i : Nat) (h : evK e = true) (h6 : gi e 0 ≠ 6) (hi : posN s.N (gi e 2) = i) (hl : i < (s.atPC e).N.length) :
    s.ev K e = if (cntX (gn ((s.atPC e).hand K e i).N i)).any overN then none else some ((s.atPC e).hand K e i) := by
  have hc : s.called K e = s := by unfold GS.called; rw [if_neg h6]
  unfold evK at h
  unfold GS.ev
  rw [if_pos h, hc, hi]
  have hg : gn ((s.atPC e).hand K e i).N i = (s.acts K e (gn (rowN s.N (gi e 2)) i)).2 := by
    unfold GS.hand GS.atPC
    rw [acts_N]
    have : i < (rowN s.N (gi e 2)).length := hl
    simp [gn, List.getD_eq_getElem?_getD, this]
  have hs : (s.atPC e).hand K e i = { (s.acts K e (gn (rowN s.N (gi e 2)) i)).1 with N := (rowN s.N (gi e 2)).set i (s.acts K e (gn (rowN s.N (gi e 2)) i)).2 } := by
    unfold GS.hand GS.atPC
    rw [acts_N]
  rw [hg, hs]
theorem hand_enters (fn : Nat) (kd : Int) (hfn : (kd = 1 ∧ fn = 81) ∨ (kd = 2 ∧ fn = 82) ∨ (kd = 3 ∧ fn = 83) ∨ (kd = 4 ∧ fn = 84) ∨ (kd = 5 ∧ fn = 85) ∨ (kd = 7 ∧ fn = 86)) :
    ∀ args w, (callFunc fn args).run Try.prog w = .ok (.enter fn args) w := by
  rcases hfn with ⟨_, rfl⟩ | ⟨_, rfl⟩ | ⟨_, rfl⟩ | ⟨_, rfl⟩ | ⟨_, rfl⟩ | ⟨_, rfl⟩
  · exact enters_of Try.func81 (by kernel_rfl) rfl
  · exact enters_of Try.func82 (by kernel_rfl) rfl
  · exact enters_of Try.func83 (by kernel_rfl) rfl
  · exact enters_of Try.func84 (by kernel_rfl) rfl
  · exact enters_of Try.func85 (by kernel_rfl) rfl
  · exact enters_of Try.func86 (by kernel_rfl) rfl
theorem cnt_one (c : List Int) : ∀ u ∈ cntCells c, u.oneCell' = true := by
  intro u hu
  simp only [cntCells, List.mem_map, List.mem_range] at hu
  obtain ⟨j, _, rfl⟩ := hu
  cases j <;> rfl
theorem flat_one (N : List (List Int)) : ∀ u ∈ N.flatMap cntCells, u.oneCell' = true := by
  intro u hu
  obtain ⟨c, _, h⟩ := List.mem_flatMap.1 hu
  exact cnt_one c u h
theorem GI.ins_after {P : FP} {s : GS} {A : Option Addr} {n c : Nat} {uI uD uL : List Value} {B gP cP : Nat} {vR : Value} {W Wc W3 : World} (h : GI P s (.slice A n c) uI uD uL B gP cP vR W) (b1 : Below W.heap.size W Wc) (hg : Wc.grownBy W3 (Value.slice A n c).ownBlock) :
    W3.cell? ⟨P.fb, 30, none⟩ = some (.slice A n c) ∧ W3.frozen? ⟨P.fb, 30, none⟩ = false := by
  have h1 := h.below b1
  have hb := ((Upd.of_grown hg).block _ (Array.getElem?_eq_some_iff.1 h1.fi.box).1 fun e => (h.row.out _ e).2 h.fi.xf).trans h1.fi.box
  exact ⟨boxAt (i := 30) hb rfl, boxFree hb⟩
theorem GI.handleG {P : FP} {s : GS} {g c : Nat} {uI uD uL : List Value} {B gP cP : Nat} {vR : Value} {W : World} (h : GI P s (.slice (some ⟨g, 0, none⟩) s.N.length c) uI uD uL B gP cP vR W) (hh : Nat) (t : Int) (e : List Int) (i : Nat) (hi : i < s.N.length) (hok : GOk (P.gc hh) t P.nI P.nD P.nL s) (hph : P.ph = (hh : Int)) (fn : Nat)
    (hfn : (gi e 0 = 1 ∧ fn = 81) ∨ (gi e 0 = 2 ∧ fn = 82) ∨ (gi e 0 = 3 ∧ fn = 83) ∨ (gi e 0 = 4 ∧ fn = 84) ∨ (gi e 0 = 5 ∧ fn = 85) ∨ (gi e 0 = 7 ∧ fn = 86)) (hwf : wfB (gi e 0) (gi e 4) (gi e 5) = true) (heu : EvU e) :
    Calls Try.prog fn #[.pointer (some ⟨P.fb, 0, none⟩), .pointer (some ⟨g, i * 14, none⟩), .agg #[.int .i64 (gi e 0), .int .i64 (gi e 1), .int .u32 (gi e 2), .int .u32 (gi e 3), .int .u32 (gi e 4), .int .i64 (gi e 5)]] W fun x W' => x = .returned (.tuple #[]) ∧ HandE P (P.gc hh) s e i g c B gP cP W' := by
  have hx : NumsOk (gn s.N i) := fun j h1 hj => by
    have := hok.n.num (gn s.N i) (by rw [gn_get s.N i hi]; exact List.getElem_mem hi) j h1 hj
    omega
  have s1 := hok.i.1
  have s2 := hok.d.1
  have s3 := hok.l.1
  obtain ⟨p1, p2, p3⟩ := predOk_len hok.p
  have p12 : hh ≤ 12 := by
    have h0 : predShapeB t (hh : Int) P.pr = true := hok.p.1
    simp [predShapeB] at h0
    omega
  have p4 : s.hist < 4294967296 := by
    have h1 : s.hist < 2 ^ hh := by have := hok.p.2.2.2.1; simpa [FP.gc] using this
    have h2 : (2 : Int) ^ hh ≤ 2 ^ 12 := by exact_mod_cast Nat.pow_le_pow_right (show 0 < 2 by omega) p12
    omega
  have p5 := any_bad.1 hok.p.2.2.1
  rcases hfn with ⟨hk, rfl⟩ | ⟨hk, rfl⟩ | ⟨hk, rfl⟩ | ⟨hk, rfl⟩ | ⟨hk, rfl⟩ | ⟨hk, rfl⟩
  · exact h.execG hh e i hi hx s1 s3 hk heu.pc (by rw [hk] at hwf; simpa [wfB] using hwf)
  · exact h.loadG hh e i hi hx s2 s3 hk heu.a (by rw [hk] at hwf; simpa [wfB] using hwf)
  · exact h.storeG hh e i hi hx s2 s3 hk heu.a (by rw [hk] at hwf; simpa [wfB] using hwf)
  · exact h.atomicG hh e i hi hx s2 s3 hk heu.a (by rw [hk] at hwf; simpa [wfB] using hwf)
  · exact h.branchG hh e i hi hx hph p12 p1 ⟨hok.hist, p4⟩ p5 hk heu.pc ⟨heu.b.1, by rw [hk] at hwf; simpa [wfB] using hwf⟩
  · exact h.retG hh e i hi hx (by omega) hk

attribute [local irreducible] World.setCell in
set_option maxRecDepth 1000000 in
set_option maxHeartbeats 8000000 in
theorem feed_loopG (P : FP) (hh : Nat) (t : Int) (s0 : GS) (vN0 : Value) (aI0 aD0 aL0 : List Value) (B gP cP rb : Nat) (vR0 : Value) (AE : Option Addr) (ce : Nat) (es : List (List Int)) (Q : Exit → Act → World → Prop) (c0 c2 c3 c5 c8 c9 c10 c11 c12 c13 c14 c15 c16 c17 c18 c19 c20 c21 c22 c23 c24 c25 c26 c27 c28 c29 c30 c31 c32 c33 c34 c35 c36 c37 c38 c39 c40 c41 c42 c43 c44 c45 c46 c47 c48 c49 c50 c51 c52 c53 c57 c58 c59 c60 c61 c62 c63 c64 c65 c66 c67 c68 c69 c70 c71 c72 c73 c74 c75 c76 c77 c78 c79 c80 c81 c82 c83 c84 c85 c86 c87 c88 c89 c90 c91 c92 c93 c94 c95 c96 c97 c98 c99 c100 c101 c102 c103 c104 c105 c106 c107 c108 c109 c110 c111 c112 c113 c114 c115 c116 c117 c118 c119 c120 c121 c122 c123 c124 c125 c126 c127 c128 c129 c130 c131 c132 c133 c134 c135 c136 c137 c138 c139 c140 c141 c142 c143 c144 c145 c146 c147 c148 c149 c150 c151 c152 : Value)
    (hF0 : GI P s0 vN0 aI0 aD0 aL0 B gP cP vR0 P.W9) (hok : GOk (P.gc hh) t P.nI P.nD P.nL s0) (hph : P.ph = (hh : Int)) (hel : es.length ≤ 200) (hlen : s0.N.length + es.length ≤ 20000) (hev : ∀ k, k < es.length → EvU (gn es k)) (hB : B ≤ P.W9.heap.size)
    (hrb : P.X rb ∧ rb ≠ P.fb ∧ P.W9.heap[rb]? = some zeroS) (hE : ∀ W, Upd (fun b => ¬ P.X b ∨ b = P.fb) P.W9 W → RdE W AE es)
    (hQ : ∀ (u5 u9 u10 u11 u12 u13 u14 u56 u57 u58 u59 u60 u61 u62 u63 u64 u65 u66 u67 u68 u69 u70 u71 u72 u73 u74 u75 u76 u77 u78 u79 u80 u81 u82 u83 u84 u85 u86 u87 u88 u89 u90 u91 u92 u93 u94 u95 u96 u97 u98 u99 u100 u101 u102 u103 u104 u105 u106 u107 u108 u109 u110 u111 u112 u113 u114 u115 u116 u117 u118 u119 u120 u121 u122 u123 u124 u125 u126 u127 u128 u129 u130 u131 u132 u133 u134 u135 u136 u137 : Value) (W' : World) (s : GS) (vN : Value) (aI aD aL : List Value) (vR : Value), FGRel P (P.gc hh) t s0 es B gP cP es.length s vN aI aD aL vR W' → Q .normal ⟨#[c0, .slice AE es.length ce, c2, c3, .pointer (some ⟨rb, 0, none⟩), u5, .pointer (some ⟨P.fb, 0, none⟩), .map (some P.mb), c8, u9, u10, u11, u12, u13, u14, c15, c16, c17, c18, c19, c20, c21, c22, c23, c24, c25, c26, c27, c28, c29, c30, c31, c32, c33, c34, c35, c36, c37, c38, c39, c40, c41, c42, c43, c44, c45, c46, c47, c48, c49, c50, c51, c52, c53, .slice AE es.length ce, .int .i64 (es.length : Int), u56, u57, u58, u59, u60, u61, u62, u63, u64, u65, u66, u67, u68, u69, u70, u71, u72, u73, u74, u75, u76, u77, u78, u79, u80, u81, u82, u83, u84, u85, u86, u87, u88, u89, u90, u91, u92, u93, u94, u95, u96, u97, u98, u99, u100, u101, u102, u103, u104, u105, u106, u107, u108, u109, u110, u111, u112, u113, u114, u115, u116, u117, u118, u119, u120, u121, u122, u123, u124, u125, u126, u127, u128, u129, u130, u131, u132, u133, u134, u135, u136, u137, c138, c139, c140, c141, c142, c143, c144, c145, c146, c147, c148, c149, c150, c151, c152], []⟩ W')
    (hR : ∀ (u9 u10 u11 u12 u13 u14 u56 u57 u58 u59 u60 u61 u62 u63 u64 u65 u66 u67 u68 u69 u70 u71 u72 u73 u74 u75 u76 u77 u78 u79 u80 u81 u82 u83 u84 u85 u86 u87 u88 u89 u90 u91 u92 u93 u94 u95 u96 u97 u98 u99 u100 u101 u102 u103 u104 u105 u106 u107 u108 u109 u110 u111 u112 u113 u114 u115 u116 u117 u118 u119 u120 u121 u122 u123 u124 u125 u126 u127 u128 u129 u130 u131 u132 u133 u134 u135 u136 u137 : Value) (W' : World), Upd (fun b => ¬ P.X b ∨ b = P.fb ∨ b = rb) P.W9 W' → W'.heap[rb]? = some zeroS → s0.feed (P.gc hh) es = none → Q .ret ⟨#[c0, .slice AE es.length ce, c2, c3, .pointer (some ⟨rb, 0, none⟩), .int .i64 2, .pointer (some ⟨P.fb, 0, none⟩), .map (some P.mb), c8, u9, u10, u11, u12, u13, u14, c15, c16, c17, c18, c19, c20, c21, c22, c23, c24, c25, c26, c27, c28, c29, c30, c31, c32, c33, c34, c35, c36, c37, c38, c39, c40, c41, c42, c43, c44, c45, c46, c47, c48, c49, c50, c51, c52, c53, .slice AE es.length ce, .int .i64 (es.length : Int), u56, u57, u58, u59, u60, u61, u62, u63, u64, u65, u66, u67, u68, u69, u70, u71, u72, u73, u74, u75, u76, u77, u78, u79, u80, u81, u82, u83, u84, u85, u86, u87, u88, u89, u90, u91, u92, u93, u94, u95, u96, u97, u98, u99, u100, u101, u102, u103, u104, u105, u106, u107, u108, u109, u110, u111, u112, u113, u114, u115, u116, u117, u118, u119, u120, u121, u122, u123, u124, u125, u126, u127, u128, u129, u130, u131, u132, u133, u134, u135, u136, u137, c138, c139, c140, c141, c142, c143, c144, c145, c146, c147, c148, c149, c150, c151, c152], []⟩ W') :
    Code.wp Try.prog feedCode Q ⟨#[c0, .slice AE es.length ce, c2, c3, .pointer (some ⟨rb, 0, none⟩), c5, .pointer (some ⟨P.fb, 0, none⟩), .map (some P.mb), c8, c9, c10, c11, c12, c13, c14, c15, c16, c17, c18, c19, c20, c21, c22, c23, c24, c25, c26, c27, c28, c29, c30, c31, c32, c33, c34, c35, c36, c37, c38, c39, c40, c41, c42, c43, c44, c45, c46, c47, c48, c49, c50, c51, c52, c53, .slice AE es.length ce, .int .i64 (es.length : Int), .int .i64 0, c57, c58, c59, c60, c61, c62, c63, c64, c65, c66, c67, c68, c69, c70, c71, c72, c73, c74, c75, c76, c77, c78, c79, c80, c81, c82, c83, c84, c85, c86, c87, c88, c89, c90, c91, c92, c93, c94, c95, c96, c97, c98, c99, c100, c101, c102, c103, c104, c105, c106, c107, c108, c109, c110, c111, c112, c113, c114, c115, c116, c117, c118, c119, c120, c121, c122, c123, c124, c125, c126, c127, c128, c129, c130, c131, c132, c133, c134, c135, c136, c137, c138, c139, c140, c141, c142, c143, c144, c145, c146, c147, c148, c149, c150, c151, c152], []⟩ P.W9 := by
  have HF0 := Lib.hid hF0
  have HOK := Lib.hid hok
  have HEV := Lib.hid hev
  have HE := Lib.hid hE
  have HQ := Lib.hid hQ
  have HRB := Lib.hid hrb
  have HRR := Lib.hid hR
  clear hF0 hok hev hE hQ hrb hR
  conv => arg 2; whnf
  go_wp2_with fail
  go_loopw [56] (fun i wr => ∃ k : Nat, k ≤ es.length ∧ i = .int .i64 k ∧ ∃ (s : GS) (vN : Value) (aI aD aL : List Value) (vR : Value), Hid (FGRel P (P.gc hh) t s0 es B gP cP k s vN aI aD aL vR wr)) (fun i _ => es.length - (intOf i).toNat)
  case atStart => exact ⟨0, Nat.zero_le _, rfl, _, _, aI0, aD0, aL0, vR0, Lib.hid ⟨HF0.out, by simp [GS.feed], HOK.out, Nat.le_refl _⟩⟩
  case round =>
    obtain ⟨k, hk, rfl, s, vN, aI, aD, aL, vR, hI⟩ := hrel
    by_cases hlt : k < es.length
    · obtain ⟨ad, e0, x0, x1, x2, x3, x4, x5⟩ := (HE.out wr hI.out.gi.fi.keep).at6 k hlt
      subst e0
      obtain ⟨e, he⟩ : ∃ e, gn es k = e := ⟨_, rfl⟩
      have hEU := HEV.out k hlt
      rw [he] at x0 x1 x2 x3 x4 x5 hEU
      have HEU := Lib.hid hEU
      have HE1 := Lib.hid he
      clear he hEU
      obtain ⟨W0, hW0⟩ : ∃ W0, wr.alloc (.cells #[.int .i64 (gi e 0), .int .i64 (gi e 1), .int .u32 (gi e 2), .int .u32 (gi e 3), .int .u32 (gi e 4), .int .i64 (gi e 5)] 71) = W0 := ⟨_, rfl⟩
      have hb0 : Below wr.heap.size wr W0 := by rw [← hW0]; exact balloc _ _
      have hz0 : W0.heap[wr.heap.size]? = some (.cells #[.int .i64 (gi e 0), .int .i64 (gi e 1), .int .u32 (gi e 2), .int .u32 (gi e 3), .int .u32 (gi e 4), .int .i64 (gi e 5)] 71 (0, 0)) := by rw [← hW0]; exact heap_alloc_new _ _
      have hmp := (hI.out.gi.fi.below hb0).mp
      have HB0 := Lib.hid hb0
      obtain ⟨z0, z1, z2, z3, z4, z5, _⟩ := box6 hz0
      by_cases hon : gi e 0 = 1 ∨ gi e 0 = 2 ∨ gi e 0 = 3 ∨ gi e 0 = 4 ∨ gi e 0 = 5 ∨ gi e 0 = 7
      · obtain ⟨fn, hfn⟩ : ∃ fn : Nat, (gi e 0 = 1 ∧ fn = 81) ∨ (gi e 0 = 2 ∧ fn = 82) ∨ (gi e 0 = 3 ∧ fn = 83) ∨ (gi e 0 = 4 ∧ fn = 84) ∨ (gi e 0 = 5 ∧ fn = 85) ∨ (gi e 0 = 7 ∧ fn = 86) := by
          rcases hon with h | h | h | h | h | h
          · exact ⟨_, .inl ⟨h, rfl⟩⟩
          · exact ⟨_, .inr (.inl ⟨h, rfl⟩)⟩
          · exact ⟨_, .inr (.inr (.inl ⟨h, rfl⟩))⟩
          · exact ⟨_, .inr (.inr (.inr (.inl ⟨h, rfl⟩)))⟩
          · exact ⟨_, .inr (.inr (.inr (.inr (.inl ⟨h, rfl⟩))))⟩
          · exact ⟨_, .inr (.inr (.inr (.inr (.inr ⟨h, rfl⟩))))⟩
        have hlk := look_hit hmp (gi e 0) fn hfn
        have h6 : gi e 0 ≠ 6 := by omega
        have hk6 : (gi e 0 == 6) = false := by simpa using h6
        cases hwf : wfB (gi e 0) (gi e 4) (gi e 5)
        · have hev1 : evK e = false := by unfold evK; rw [hwf, Bool.and_false]
          have HREL := Lib.hid (show ∀ W', Below wr.heap.size wr W' → FGRel P (P.gc hh) t s0 es B gP cP (k + 1) s vN aI aD aL vR W' from fun W' hb' => ⟨hI.out.gi.below hb', by rw [GS.feed_take _ _ _ _ hlt, hI.out.ran, HE1.out]; exact idleK _ _ _ hev1 h6, hI.out.ok, by have := hI.out.len; omega⟩)
          have HWF := Lib.hid hwf
          clear hev1 hon h6 hb0 hz0 hmp hI hfn hwf
          go_wp2_with fail
          refine (wf_any _ _ _ _ _ _ _).mono ?_
          rintro ee W1 ⟨rfl, hb1⟩
          rw [HWF.out]
          have HR1 := Lib.hid (HREL.out W1 (bvia HB0.out hb1 (Nat.le_refl _)))
          clear hb1
          go_wp2_with fail
          (try simp only [Exit.inBlock, Exit.then])
          go_roundw
          case rel => exact ⟨k + 1, hlt, by go_num, s, _, aI, aD, aL, vR, HR1⟩
          case measure => simp [intOf]; omega
        · have hev1 : evK e = true := by unfold evK kindB; rw [hwf, decide_eq_true hon]; rfl
          have HEV1 := Lib.hid hev1
          have HWF := Lib.hid hwf
          have H6 := Lib.hid h6
          have HFN := Lib.hid hfn
          have HII := Lib.hid hI.out
          have HZ0 := Lib.hid hz0
          clear hev1 hon h6 hb0 hz0 hmp hI hfn hwf
          go_wp2_with fail
          refine (wf_any _ _ _ _ _ _ _).mono ?_
          rintro ee W1 ⟨rfl, hb1⟩
          rw [HWF.out]
          have hz1 := belowBox hb1 HZ0.out
          have b1 : Below wr.heap.size wr W1 := bvia HB0.out hb1 (Nat.le_refl _)
          have hs1 : wr.heap.size + 1 ≤ W1.heap.size := by have := (Array.getElem?_eq_some_iff.1 hz1).1; omega
          have G1 := HII.out.gi.below b1
          obtain ⟨N, nc, hvN, hrd⟩ := G1.row.rdN
          subst hvN
          have y30 : W1.cell? ⟨P.fb, 30, none⟩ = some (.slice N s.N.length nc) := boxAt (i := 30) G1.fi.box rfl
          have q2 := boxAt (i := 2) hz1 rfl
          have HG1 := Lib.hid G1
          have HZ1 := Lib.hid hz1
          have HRD := Lib.hid (hrd.below (bdrewN (Below.refl _ W1) 1))
          have HSR := Lib.hid HII.out.ok.n.sorted
          have hsl : s.N.length ≤ 1000000 := by have := HII.out.len; omega
          clear z0 z1 z2 z3 z4 z5 hlk hW0 hz1 hb1 b1 G1 HZ0 hk6 x0 x1 x2 x3 x4 x5 hrd
          go_wp2_with fail
          go_region_held3 (fun W' => W'.cell? ⟨P.fb, 30, none⟩ = some (.slice N s.N.length nc) ∧ W'.cell? ⟨wr.heap.size, 2, none⟩ = some (.int .u32 (gi e 2)))
            (first | exact ⟨y30, q2⟩ | exact ⟨bkeep hb2' y30, bkeep hb2' q2⟩)
            (first
              | (go_at_call 63; refine (byPC_any N nc s.N (gi e 2) _ HRD.out HSR.out hsl).mono ?_; rintro ee W2 ⟨fi, rfl, hFd, hb2⟩; have hb2' : Below W1.heap.size W1 W2 := (bdrewN (Below.refl _ W1) 1).trans hb2; clear hb2))
          have HG2 := Lib.hid (HG1.out.below hb2')
          have HZ2 := Lib.hid (belowBox hb2' HZ1.out)
          have hs2 : wr.heap.size + 1 ≤ W2.heap.size := by have := hb2'.size; omega
          have HPOS := Lib.hid (posN_find hFd)
          have hfl : fi ≤ s.N.length := hFd.le.2
          clear hb2' hFd y30 q2 HG1 HZ1 hs1 HRD HSR
          go_upto_if 96 with fail
          go_cut [12, 13] from 57 to 137 (fun s12 s13 wx => s12 = .int .i64 (fi : Int) ∧ ∃ g cap, Hid (GI P (s.atPC e) (.slice (some ⟨g, 0, none⟩) (s.atPC e).N.length cap) aI aD aL B gP cP vR wx ∧ wx.heap[wr.heap.size]? = some (.cells #[.int .i64 (gi e 0), .int .i64 (gi e 1), .int .u32 (gi e 2), .int .u32 (gi e 3), .int .u32 (gi e 4), .int .i64 (gi e 5)] 71 (0, 0))))
          case first =>
            cases hfb : foundB s.N (gi e 2) fi
            · have y2 : W2.cell? ⟨P.fb, 30, none⟩ = some (.slice N s.N.length nc) := boxAt (i := 30) HG2.out.fi.box rfl
              have r2 := boxAt (i := 2) HZ2.out rfl
              have n2 := World.new_ne W2 _ y2
              have n3 := World.new_ne W2 _ r2
              have fbl := World.block_lt_of_cell? W2 _ y2
              dsimp only at n2 n3 fbl
              have HFB := Lib.hid hfb
              clear hfb
              go_wp2_with fail
              refine wp_region_noPanic ?_
              go_region_with (first
                | (go_at_call 64; refine (insert_cnt P.B s.N.length fi _ (.slice N s.N.length nc) (s.N.flatMap cntCells) (cntCells (gi e 2 :: List.replicate 13 0)) _ (by exact (HG2.out.below (bdrewN ((Below.refl _ W2).alloc (Nat.le_refl _) _) 1)).row.row) hfl (by exact alloc_at _ _ _ rfl) (cntCells_len _) (fun ex => by have := (HG2.out.row.row.lt _ ex).2; simp [World.drew] at this) (flat_one _) (cnt_one _) (by have := HG2.out.fi.ge; simp [World.drew]; omega) (by omega)).mono ?_; rintro ee W3 ⟨g, cap, rfl, ho, hg, hv⟩; have hin := HG2.out.ins_after (bdrewN ((Below.refl _ W2).alloc (Nat.le_refl _) _) 1) hg; obtain ⟨y3, d3⟩ := hin; have HI3 := Lib.hid (And.intro ho (And.intro hg hv)); clear ho hg hv))
              all_goals
                refine NoPanic.normal ?_
                go_wp2_with fail
                go_meet
                case rel =>
                  obtain ⟨ho, hg, hv⟩ := HI3.out
                  have hlt3 : wr.heap.size < W2.heap.size := by omega
                  have hne3 : (Value.slice N s.N.length nc).ownBlock ≠ some wr.heap.size := fun ex => by have := (HII.out.gi.row.row.lt _ ex).2; omega
                  have hfw : P.fb < wr.heap.size := (HII.out.gi.fi.out _ HII.out.gi.fi.xf).1
                  have hin := HG2.out.insert (r := gi e 2 :: List.replicate 13 0) (bdrewN ((Below.refl _ W2).alloc (Nat.le_refl _) _) 1) ho hg (fun k hk => by cases hk; rcases hv with h | h; exact .inl h; refine .inr ?_; show W2.heap.size ≤ g; simp [World.drew] at h; omega) hfl (by simp)
                  refine ⟨rfl, g, cap, Lib.hid ⟨?_, ?_⟩⟩
                  · have hrow : s.atPC e = { s with N := s.N.take fi ++ (gi e 2 :: List.replicate 13 0) :: s.N.drop fi } := by unfold GS.atPC rowN; rw [HPOS.out, if_neg (by rw [HFB.out]; simp)]
                    have hlen : (s.N.take fi ++ (gi e 2 :: List.replicate 13 0) :: s.N.drop fi).length = s.N.length + 1 := by simp; omega
                    rw [hrow]
                    show GI P _ (.slice (some ⟨g, 0, none⟩) (s.N.take fi ++ (gi e 2 :: List.replicate 13 0) :: s.N.drop fi).length cap) aI aD aL B gP cP vR _
                    rw [hlen]
                    exact hin
                  · exact ((Upd.setCell W3 ⟨P.fb, 30, none⟩ (.slice (some ⟨g, 0, none⟩) (s.N.length + 1) cap)).block _ (by have := (Upd.of_grown hg).size; simp [World.drew] at this; omega) (by simp; omega)).trans (((Upd.of_grown hg).block _ (by simp [World.drew]; omega) (by simpa using hne3)).trans (belowBox (bdrewN ((Below.refl _ W2).alloc (Nat.le_refl _) _) 1) HZ2.out))
            · have hrow : rowN s.N (gi e 2) = s.N := by unfold rowN; rw [HPOS.out, if_pos hfb]
              have hlt2 : fi < s.N.length := by simp [foundB] at hfb; exact hfb.1
              obtain ⟨g, c, cur, hv, _, _⟩ := HG2.out.row.block fi hlt2
              cases hv
              have HROW := Lib.hid hrow
              clear hfb hrow
              go_wp2_with fail
              go_meet
              case rel => exact ⟨rfl, g, nc, Lib.hid ⟨by rw [GS.atPC_same HROW.out]; exact HG2.out, HZ2.out⟩⟩
          case rest =>
            obtain ⟨rfl, g, cap, hH⟩ := hcut
            obtain ⟨hG3, hZ3⟩ := hH.out
            obtain ⟨S1, hS1⟩ : ∃ S1, s.atPC e = S1 := ⟨_, rfl⟩
            rw [hS1] at hG3
            have hfi : fi < S1.N.length := by rw [← hS1, ← HPOS.out]; exact (rowN_at HII.out.ok.n.sorted).1
            have hok1 : GOk (P.gc hh) t P.nI P.nD P.nL S1 := by rw [← hS1]; exact HII.out.ok.atPC e
            have hsl1 : S1.N.length ≤ 20000 := by rw [← hS1]; have := (rowN_len (pc := gi e 2) HII.out.ok.n.sorted).2; have := HII.out.len; show (rowN s.N (gi e 2)).length ≤ 20000; omega
            have y3 : wc.cell? ⟨P.fb, 30, none⟩ = some (.slice (some ⟨g, 0, none⟩) S1.N.length cap) := boxAt (i := 30) hG3.fi.box rfl
            obtain ⟨z0, z1, z2, z3, z4, z5, _⟩ := box6 hZ3
            have HG3 := Lib.hid hG3
            have HS1 := Lib.hid hS1
            have HOK1 := Lib.hid hok1
            clear hG3 hZ3 hH HG2 HZ2 hS1 hok1
            have hent := hand_enters fn (gi e 0) HFN.out
            go_wp2_with fail
            clear hent
            refine (HG3.out.handleG hh t e fi hfi HOK1.out hph fn HFN.out HWF.out HEU.out).mono ?_
            rintro ee W4 ⟨rfl, ⟨uI4, uD4, uL4, vR4, hG4⟩⟩
            obtain ⟨S2, hS2⟩ : ∃ S2, S1.hand (P.gc hh) e fi = S2 := ⟨_, rfl⟩
            rw [hS2] at hG4
            have hN2 : S2.N.length = S1.N.length := by rw [← hS2]; simp [GS.hand]
            rw [← hN2] at hG4 hsl1 hfi
            have hev : s.ev (P.gc hh) e = if (cntX (gn S2.N fi)).any overN then none else some S2 := by
              rw [← hS2, ← HS1.out]
              exact ev_hand _ s e fi HEV1.out H6.out HPOS.out (by rw [HS1.out, ← hN2]; exact hfi)
            have HEV2 := Lib.hid hev
            have HG4 := Lib.hid hG4
            have y4 : W4.cell? ⟨P.fb, 30, none⟩ = some (.slice (some ⟨g, 0, none⟩) S2.N.length cap) := boxAt (i := 30) hG4.fi.box rfl
            have HN2 := Lib.hid hN2
            clear hG4 hev hS2 y3 z0 z1 z2 z3 z4 z5 hN2
            go_wp2_with fail
            refine (numbers_any g (fi * 14) W4).mono ?_
            rintro ee W5 ⟨rfl, hr5, hs5, hb5⟩
            have hnr := HG4.out.numRd fi hfi hb5 hr5
            have HG5 := Lib.hid (HG4.out.below hb5)
            have HNR := Lib.hid hnr
            clear hnr hr5 hs5 hb5 y4
            go_wp2_with fail
            refine (containsFunc_feed _ _ _ _ _ HNR.out).mono ?_
            rintro ee W6 ⟨rfl, rfl⟩
            cases hov : (cntX (gn S2.N fi)).any overN
            · have hs1 : s.ev (P.gc hh) e = some S2 := by rw [HEV2.out, hov]; rfl
              have HREL := Lib.hid (show FGRel P (P.gc hh) t s0 es B gP cP (k + 1) S2 (.slice (some ⟨g, 0, none⟩) S2.N.length cap) uI4 uD4 uL4 vR4 W5 from ⟨HG5.out, by rw [GS.feed_take _ _ _ _ hlt, HII.out.ran, HE1.out]; exact hs1, HII.out.ok.ev hs1, by
                have := GS.ev_len HII.out.ok.n.sorted hs1
                have := HII.out.len
                omega⟩)
              clear hov hs1
              go_wp2
              (try simp only [Exit.inBlock, Exit.then])
              go_roundw
              case rel => exact ⟨k + 1, hlt, by go_num, S2, _, uI4, uD4, uL4, vR4, HREL⟩
              case measure => simp [intOf]; omega
            · have hs1 : s.ev (P.gc hh) e = none := by rw [HEV2.out, hov]; rfl
              have HNO := Lib.hid (show s0.feed (P.gc hh) es = none from GS.feed_stop (k := k + 1) hlt (by rw [GS.feed_take _ _ _ _ hlt, HII.out.ran, HE1.out]; exact hs1))
              have hk5 := HG5.out.fi.keep
              have hr5 : W5.heap[rb]? = some zeroS := (hk5.block rb (Array.getElem?_eq_some_iff.1 HRB.out.2.2).1 fun e => e.elim (fun h => h HRB.out.1) HRB.out.2.1).trans HRB.out.2.2
              have HR5 := Lib.hid hr5
              have HK5 := Lib.hid (hk5.mono (G := fun b => ¬ P.X b ∨ b = P.fb ∨ b = rb) fun b h => h.imp id .inl)
              clear hov hs1 hk5 hr5
              go_wp2_with (refine wpList_store_row rfl 67 (Operand.tmp 4) (Operand.tmp 136) rfl rb zeroA rfl rfl 67 _ HR5.out (by kernel_rfl) rfl (by simp [Value.oneCell', zeroA]) ?_)
              (try simp only [Exit.inBlock, Exit.then])
              exact HRR.out _ _ _ _ _ _ _ _ _ _ _ _ _ _ _ _ _ _ _ _ _ _ _ _ _ _ _ _ _ _ _ _ _ _ _ _ _ _ _ _ _ _ _ _ _ _ _ _ _ _ _ _ _ _ _ _ _ _ _ _ _ _ _ _ _ _ _ _ _ _ _ _ _ _ _ _ _ _ _ _ _ _ _ _ _ _ _ _  _ (HK5.out.trans (Upd.setRow _ _ _) fun b (hb : b = rb) => .inl (.inr (.inr hb))) (setRow_heap HR5.out _) HNO.out
      · by_cases h6 : gi e 0 = 6
        · have hG0 := hI.out.gi.below hb0
          have y31 : W0.cell? ⟨P.fb, 31, none⟩ = some (.pointer (some ⟨P.pb, 0, none⟩)) := boxAt (i := 31) hG0.fi.box rfl
          have hk6 : (gi e 0 == 6) = true := by simpa using h6
          have hev1 : evK e = false := by unfold evK kindB; rw [decide_eq_false hon]; rfl
          have HEV1 := Lib.hid hev1
          have HON := Lib.hid hon
          have H6 := Lib.hid h6
          have HG0 := Lib.hid hG0
          have HZ0 := Lib.hid hz0
          have HII := Lib.hid hI.out
          clear hev1 hon h6 hb0 hz0 hmp hI hG0
          go_wp2_with fail
          go_still_tail 6, (by kernel_rfl)
          go_wp2_with fail
          have HGD := Lib.hid (show GI P s vN aI aD aL B gP cP vR W0.drew from HG0.out.below (bdrewN (Below.refl _ W0) 1))
          have hzd : W0.drew.heap[wr.heap.size]? = some (.cells #[.int .i64 (gi e 0), .int .i64 (gi e 1), .int .u32 (gi e 2), .int .u32 (gi e 3), .int .u32 (gi e 4), .int .i64 (gi e 5)] 71 (0, 0)) := HZ0.out
          have hud : Upd (fun _ => False) W0 W0.drew := Upd.drew _ _
          generalize W0.drew = Wd at *
          refine (HGD.out.callG hh e H6.out (by have := (predOk_len HII.out.ok.p).2.2; omega) (Nat.le_trans hB (Nat.le_trans HII.out.gi.fi.keep.size (Nat.le_trans HB0.out.size hud.size)))).mono ?_
          rintro ee W1 ⟨rfl, ⟨vR1, hG1⟩, hu1⟩
          have hz1 := (hu1.block wr.heap.size (Array.getElem?_eq_some_iff.1 hzd).1 fun hk => by have := HII.out.gi.p.lt _ hk; omega).trans hzd
          obtain ⟨z0, z1, z2, z3, z4, z5, _⟩ := box6 hz1
          have hlk := look_miss hG1.fi.mp (gi e 0) (by have := H6.out; omega) (by have := H6.out; omega) (by have := H6.out; omega) (by have := H6.out; omega) (by have := H6.out; omega) (by have := H6.out; omega)
          have hs1 : s.ev (P.gc hh) e = some (s.called (P.gc hh) e) := by
            unfold GS.ev
            rw [if_neg (show ¬ (kindB (gi e 0) && wfB (gi e 0) (gi e 4) (gi e 5)) = true by have := HEV1.out; unfold evK at this; rw [this]; simp)]
          have HREL := Lib.hid (show FGRel P (P.gc hh) t s0 es B gP cP (k + 1) (s.called (P.gc hh) e) vN aI aD aL vR1 W1 from ⟨hG1, by rw [GS.feed_take _ _ _ _ hlt, HII.out.ran, HE1.out]; exact hs1, HII.out.ok.called e, by
            have hc : (s.called (P.gc hh) e).N = s.N := by unfold GS.called; split <;> rfl
            rw [hc]
            have := HII.out.len
            omega⟩)
          clear hu1 hz1 hzd hG1 hs1 hud
          go_wp2_with fail
          (try simp only [Exit.inBlock, Exit.then])
          go_roundw
          case rel => exact ⟨k + 1, hlt, by go_num, _, _, aI, aD, aL, vR1, HREL⟩
          case measure => simp [intOf]; omega
        · have hlk := look_miss hmp (gi e 0) (by omega) (by omega) (by omega) (by omega) (by omega) (by omega)
          have hk6 : (gi e 0 == 6) = false := by simpa using h6
          have hev1 : evK e = false := by unfold evK kindB; rw [decide_eq_false hon]; rfl
          have HREL := Lib.hid (show FGRel P (P.gc hh) t s0 es B gP cP (k + 1) s vN aI aD aL vR W0 from ⟨hI.out.gi.below hb0, by rw [GS.feed_take _ _ _ _ hlt, hI.out.ran, HE1.out]; exact idleK _ _ _ hev1 h6, hI.out.ok, by have := hI.out.len; omega⟩)
          clear hev1 hon h6 hb0 hz0 hmp hI
          go_wp2_with fail
          (try simp only [Exit.inBlock, Exit.then])
          go_roundw
          case rel => exact ⟨k + 1, hlt, by go_num, s, _, aI, aD, aL, vR, HREL⟩
          case measure => simp [intOf]; omega
    · have hke : k = es.length := by omega
      have HFE := Lib.hid (show FGRel P (P.gc hh) t s0 es B gP cP es.length s vN aI aD aL vR wr by rw [← hke]; exact hI.out)
      clear hke hI HEV HE
      go_wp2
      (try simp only [Exit.inBlock, Exit.then])
      exact HQ.out _ _ _ _ _ _ _ _ _ _ _ _ _ _ _ _ _ _ _ _ _ _ _ _ _ _ _ _ _ _ _ _ _ _ _ _ _ _ _ _ _ _ _ _ _ _ _ _ _ _ _ _ _ _ _ _ _ _ _ _ _ _ _ _ _ _ _ _ _ _ _ _ _ _ _ _ _ _ _ _ _ _ _ _ _ _ _ _ _  _ _ _ _ _ _ _ HFE.out
end Go.Proofs.Ytdkacdfhapgboaa
