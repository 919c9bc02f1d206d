/- Part 8 of the texts that the proof stands on: SanE. -/
import Derived.Test.YtdkacdfhapgboaaM07

/- The last part of sane: a simulation. (printed by gen/san.py) -/
set_option linter.unusedVariables false
set_option linter.unusedSimpArgs false
namespace Go.Proofs.Ytdkacdfhapgboaa
open Go.RowKit

/-- The rest of sane's text, statement by statement. -/
noncomputable def saneAt : Nat → Code
  | 0 => Try.f12.body.getD .skip
  | k + 1 => codeR (saneAt k)
/-- What sane hands back. -/
def SaneQ (W : World) (Q : Exit → Act → World → Prop) : Prop := ∀ a w', a.tmps.getD 0 undef = .bool true → a.defers = [] → Below W.heap.size W w' → Q .ret a w'
theorem SaneQ.below {W W1 : World} {Q : Exit → Act → World → Prop} (h : SaneQ W Q) (hb : Below W.heap.size W W1) : SaneQ W1 Q := fun a w' h1 h2 h3 => h a w' h1 h2 (bvia hb h3 (Nat.le_refl _))
theorem rdE_own {w : World} {B g cap : Nat} (h : w.ownsRow B 71 6 (.slice (some ⟨g, 0, none⟩) 4 cap) 4 [.int .i64 1, .int .i64 0, .int .u32 0, .int .u32 0, .int .u32 0, .int .i64 4, .int .i64 2, .int .i64 0, .int .u32 0, .int .u32 64, .int .u32 0, .int .i64 4, .int .i64 1, .int .i64 0, .int .u32 0, .int .u32 0, .int .u32 0, .int .i64 4, .int .i64 2, .int .i64 0, .int .u32 0, .int .u32 64, .int .u32 0, .int .i64 4]) : RdE w (some ⟨g, 0, none⟩) evS := by
  refine ⟨by decide, fun k hk j hj => ⟨_, rfl, h.cells rfl _ _ ?_⟩⟩
  have hk : k < 4 := hk
  have h4 : k = 0 ∨ k = 1 ∨ k = 2 ∨ k = 3 := by omega
  have h6 : j = 0 ∨ j = 1 ∨ j = 2 ∨ j = 3 ∨ j = 4 ∨ j = 5 := by omega
  rcases h4 with rfl | rfl | rfl | rfl <;> rcases h6 with rfl | rfl | rfl | rfl | rfl | rfl <;> rfl

attribute [local irreducible] World.setCell World.setRow in
set_option maxRecDepth 1000000 in
set_option maxHeartbeats 8000000 in
/-- Behind Feed. -/
theorem san_e2 (s B : Nat) (W6 W : World) (Q : Exit → Act → World → Prop) (K : Act → World → Prop) (c0 c1 c2 c4 c5 c6 c7 c8 c9 c10 c11 c13 c14 c15 c16 c17 c18 c19 c21 c22 c23 c24 c25 c26 c27 c28 c29 c30 c31 c32 c33 c34 c35 c36 c37 c38 c39 c40 c41 c42 c43 c44 c45 c46 c47 c48 c49 c50 c51 c52 c53 c54 c55 c56 c57 c58 c59 c60 c61 c62 c63 c64 c65 c66 c67 c68 c69 c70 c71 c72 c73 c74 c75 c76 c77 c78 c79 c80 c81 c82 c83 c84 c85 c86 c87 c88 c89 c90 c91 c92 c93 c94 c95 c96 c97 c98 c99 c100 c101 c102 c103 c104 c105 c106 c107 c108 c109 c110 c111 c112 c113 c114 c115 c116 c117 c118 c119 c120 c121 c122 c123 c124 c125 c126 c127 c128 c129 c130 c131 c132 c133 c134 c135 c136 c137 c138 c139 c140 c141 c142 c143 c144 c145 c146 c147 c148 c149 c150 c151 c152 c153 c154 c155 c156 c157 c158 c159 c160 c161 c162 c163 c164 c165 c166 c167 c168 c169 c170 c171 c172 c173 c174 c175 c176 c177 c178 c179 c180 c181 c182 c183 c184 c185 c186 c187 c188 c189 c190 c191 c192 c193 c194 c195 c196 c197 c198 c199 c200 c201 c202 c203 c204 c205 c206 c207 c208 c209 c210 c211 c212 c213 c214 c215 c216 c217 c218 c219 c220 c221 c222 c223 c224 c225 c226 c227 c228 c229 c230 c231 c232 c233 c234 c235 c236 c237 c238 c239 c240 c241 c242 c243 c244 c245 c246 c247 c248 c249 c250 c251 c252 c253 c254 c255 c256 c257 c258 c259 c260 c261 c262 c263 c264 c265 c266 c267 c268 c269 c270 c271 c272 c273 c274 c275 c276 c277 c278 c279 c280 c281 c282 c283 c284 c285 c286 c287 : Value) (gi gd gl gp gI kI gD kD gL kL gP cP rc g cap : Nat) (R : Option Addr) (vI vD vL : List Value) (hb6 : Below W.heap.size W W6) (hs6 : W.heap.size ≤ s) (hsB : s < B) (hx6 : W6.heap[s]? = some (.cells #[.int .i64 16, .int .i64 2, .int .i64 2, .int .i64 16, .int .i64 2, .int .i64 2, .int .i64 16, .int .i64 2, .int .i64 2, .int .i64 0, .int .i64 0, .int .i64 0, .int .i64 16, .int .i64 2, .int .i64 2, .slice (some ⟨gi, 0, none⟩) 2 2, .int .i64 16, .int .i64 2, .int .i64 2, .slice (some ⟨gd, 0, none⟩) 2 2, .int .i64 16, .int .i64 2, .int .i64 2, .slice (some ⟨gl, 0, none⟩) 2 2, .int .i64 0, .int .i64 0, .int .i64 0, .slice (some ⟨gp, 0, none⟩) 1 1, .int .u32 0, .slice none 0 0, .slice none 0 0] 67 (0, 0)))
    (hF : ∀ W', Upd (fun k => k < B) W6 W' → FedS W' gI gD gL gP cP rc g R vI vD vL) (hQ : SaneQ W Q) (hK : ∀ a w, Code.wp Try.prog (codeR (saneAt 20)) Q a w → K a w) :
    NoPanic (Exit.then K Q) .normal ⟨#[c0, c1, c2, .int .i64 0, c4, c5, c6, c7, c8, c9, c10, c11, .int .i64 0, c13, c14, c15, c16, c17, c18, c19, .pointer (some ⟨s, 0, none⟩), c21, c22, c23, c24, c25, c26, c27, c28, c29, c30, c31, c32, c33, c34, c35, c36, c37, c38, c39, c40, c41, c42, c43, c44, c45, c46, c47, c48, c49, c50, c51, c52, c53, c54, c55, c56, c57, c58, c59, c60, c61, c62, c63, c64, c65, c66, c67, c68, c69, c70, c71, c72, c73, c74, c75, c76, c77, c78, c79, c80, c81, c82, c83, c84, c85, c86, c87, c88, c89, c90, c91, c92, c93, c94, c95, c96, c97, c98, c99, c100, c101, c102, c103, c104, c105, c106, c107, c108, c109, c110, c111, c112, c113, c114, c115, c116, c117, c118, c119, c120, c121, c122, c123, c124, c125, c126, c127, c128, c129, c130, c131, c132, c133, c134, c135, c136, c137, c138, c139, c140, c141, c142, c143, c144, c145, c146, c147, c148, c149, c150, c151, c152, c153, c154, c155, c156, c157, c158, c159, c160, c161, c162, c163, c164, c165, c166, c167, c168, c169, c170, c171, c172, c173, c174, c175, c176, c177, c178, c179, c180, c181, c182, c183, c184, c185, c186, c187, c188, c189, c190, c191, c192, c193, c194, c195, c196, c197, c198, c199, c200, c201, c202, c203, c204, c205, c206, c207, c208, c209, c210, c211, c212, c213, c214, c215, c216, c217, c218, c219, c220, c221, c222, c223, c224, c225, c226, c227, c228, c229, c230, c231, c232, c233, c234, c235, c236, c237, c238, c239, c240, c241, c242, c243, c244, c245, c246, c247, c248, c249, c250, c251, c252, c253, c254, c255, c256, c257, c258, c259, c260, c261, c262, c263, c264, c265, c266, c267, c268, c269, c270, c271, c272, c273, c274, c275, c276, c277, c278, c279, c280, c281, c282, c283, c284, c285, c286, c287], []⟩ (W6.setRow s #[.int .i64 16, .int .i64 2, .int .i64 2, .int .i64 16, .int .i64 2, .int .i64 2, .int .i64 16, .int .i64 2, .int .i64 2, .int .i64 0, .int .i64 0, .int .i64 0, .int .i64 16, .int .i64 2, .int .i64 2, .slice (some ⟨gI, 0, none⟩) 2 kI, .int .i64 16, .int .i64 2, .int .i64 2, .slice (some ⟨gD, 0, none⟩) 2 kD, .int .i64 16, .int .i64 2, .int .i64 2, .slice (some ⟨gL, 0, none⟩) 2 kL, .int .i64 0, .int .i64 0, .int .i64 0, .slice (some ⟨gP, 0, none⟩) 1 cP, .int .u32 0, .slice R 0 rc, .slice (some ⟨g, 0, none⟩) 1 cap]) := by
  refine NoPanic.normal ?_
  conv at hK => enter [a, w, 1]; arg 2; whnf
  obtain ⟨W7, hW7⟩ : ∃ W7, W6.setRow s #[.int .i64 16, .int .i64 2, .int .i64 2, .int .i64 16, .int .i64 2, .int .i64 2, .int .i64 16, .int .i64 2, .int .i64 2, .int .i64 0, .int .i64 0, .int .i64 0, .int .i64 16, .int .i64 2, .int .i64 2, .slice (some ⟨gI, 0, none⟩) 2 kI, .int .i64 16, .int .i64 2, .int .i64 2, .slice (some ⟨gD, 0, none⟩) 2 kD, .int .i64 16, .int .i64 2, .int .i64 2, .slice (some ⟨gL, 0, none⟩) 2 kL, .int .i64 0, .int .i64 0, .int .i64 0, .slice (some ⟨gP, 0, none⟩) 1 cP, .int .u32 0, .slice R 0 rc, .slice (some ⟨g, 0, none⟩) 1 cap] = W7 := ⟨_, rfl⟩
  have hu7 : Upd (fun k => k = s) W6 W7 := by rw [← hW7]; exact Upd.setRow _ _ _
  have hx7 : W7.heap[s]? = some (.cells #[.int .i64 16, .int .i64 2, .int .i64 2, .int .i64 16, .int .i64 2, .int .i64 2, .int .i64 16, .int .i64 2, .int .i64 2, .int .i64 0, .int .i64 0, .int .i64 0, .int .i64 16, .int .i64 2, .int .i64 2, .slice (some ⟨gI, 0, none⟩) 2 kI, .int .i64 16, .int .i64 2, .int .i64 2, .slice (some ⟨gD, 0, none⟩) 2 kD, .int .i64 16, .int .i64 2, .int .i64 2, .slice (some ⟨gL, 0, none⟩) 2 kL, .int .i64 0, .int .i64 0, .int .i64 0, .slice (some ⟨gP, 0, none⟩) 1 cP, .int .u32 0, .slice R 0 rc, .slice (some ⟨g, 0, none⟩) 1 cap] 67 (0, 0)) := by rw [← hW7]; exact setRow_heap hx6 _
  rw [hW7]
  have HF7 := Lib.hid (hF W7 (hu7.mono (G := fun k => k < B) fun k (h : k = s) => by omega))
  have HX7 := Lib.hid hx7
  have HB7 := Lib.hid (hb6.trans (hu7.below hb6.size fun k (h : k = s) => by omega))
  have hrg : ∀ W' : World, W'.heap[s]? = some (.cells #[.int .i64 16, .int .i64 2, .int .i64 2, .int .i64 16, .int .i64 2, .int .i64 2, .int .i64 16, .int .i64 2, .int .i64 2, .int .i64 0, .int .i64 0, .int .i64 0, .int .i64 16, .int .i64 2, .int .i64 2, .slice (some ⟨gI, 0, none⟩) 2 kI, .int .i64 16, .int .i64 2, .int .i64 2, .slice (some ⟨gD, 0, none⟩) 2 kD, .int .i64 16, .int .i64 2, .int .i64 2, .slice (some ⟨gL, 0, none⟩) 2 kL, .int .i64 0, .int .i64 0, .int .i64 0, .slice (some ⟨gP, 0, none⟩) 1 cP, .int .u32 0, .slice R 0 rc, .slice (some ⟨g, 0, none⟩) 1 cap] 67 (0, 0)) → W'.rangeAt s 0 [.int .i64 16, .int .i64 2, .int .i64 2, .int .i64 16, .int .i64 2, .int .i64 2, .int .i64 16, .int .i64 2, .int .i64 2, .int .i64 0, .int .i64 0, .int .i64 0, .int .i64 16, .int .i64 2, .int .i64 2, .slice (some ⟨gI, 0, none⟩) 2 kI, .int .i64 16, .int .i64 2, .int .i64 2, .slice (some ⟨gD, 0, none⟩) 2 kD, .int .i64 16, .int .i64 2, .int .i64 2, .slice (some ⟨gL, 0, none⟩) 2 kL, .int .i64 0, .int .i64 0, .int .i64 0, .slice (some ⟨gP, 0, none⟩) 1 cP, .int .u32 0, .slice R 0 rc, .slice (some ⟨g, 0, none⟩) 1 cap] := fun W' h => range_sub h 0 _ rfl
  have HRG := Lib.hid hrg
  have HQ := Lib.hid hQ
  clear hW7 hu7 hx7 hrg hb6 hx6 hF hQ hs6 hsB
  go_wp2_with (with_reducible refine wpList_load_mid rfl 67 (Operand.tmp 20) rfl s 0 rfl [.int .i64 16, .int .i64 2, .int .i64 2, .int .i64 16, .int .i64 2, .int .i64 2, .int .i64 16, .int .i64 2, .int .i64 2, .int .i64 0, .int .i64 0, .int .i64 0, .int .i64 16, .int .i64 2, .int .i64 2, .slice (some ⟨gI, 0, none⟩) 2 kI, .int .i64 16, .int .i64 2, .int .i64 2, .slice (some ⟨gD, 0, none⟩) 2 kD, .int .i64 16, .int .i64 2, .int .i64 2, .slice (some ⟨gL, 0, none⟩) 2 kL, .int .i64 0, .int .i64 0, .int .i64 0, .slice (some ⟨gP, 0, none⟩) 1 cP, .int .u32 0, .slice R 0 rc, .slice (some ⟨g, 0, none⟩) 1 cap] _ (HRG.out _ HX7.out) Try.underlying67 rfl (by kernel_rfl) ?_)
  refine (total_s gI kI gD kD gL kL gP cP rc g cap R vI vD vL W7 HF7.out).mono ?_
  rintro e W8 ⟨rfl, hb8⟩
  obtain ⟨W9, hW9⟩ : ∃ W9, (W8.alloc zeroCnt).setRow W8.heap.size #[.int .u32 0, .int .i64 2, .int .i64 1, .int .i64 1, .int .i64 2, .int .i64 1, .int .i64 1, .int .i64 0, .int .i64 0, .int .i64 0, .int .i64 0, .int .i64 0, .int .i64 0, .int .i64 0] = W9 := ⟨_, rfl⟩
  have hb89 : Below W8.heap.size W8 W9 := by rw [← hW9]; exact (balloc W8 zeroCnt).trans ((Upd.setRow _ _ _).below (by simp) fun k hk => by omega)
  have hx9 : W9.heap[W8.heap.size]? = some (.cells #[.int .u32 0, .int .i64 2, .int .i64 1, .int .i64 1, .int .i64 2, .int .i64 1, .int .i64 1, .int .i64 0, .int .i64 0, .int .i64 0, .int .i64 0, .int .i64 0, .int .i64 0, .int .i64 0] 79 (0, 0)) := by rw [← hW9]; exact setRow_heap (heap_alloc_new W8 zeroCnt) _
  have hb79 := bvia hb8 hb89 (Nat.le_refl _)
  have HX9 := Lib.hid (belowBox hb79 HX7.out)
  have HF9 := Lib.hid (HF7.out.below hb79)
  have HB9 := Lib.hid (bvia HB7.out hb79 (Nat.le_refl _))
  have HN9 := Lib.hid hx9
  have HW9 := Lib.hid hW9
  clear hb8 hb89 hx9 hb79 hW9 HX7 HF7 HB7
  go_wp2_with (first
    | (refine wpList_store_row rfl 79 (.tmp 22) (.tmp 238) rfl W8.heap.size #[.int .u32 0, .int .i64 2, .int .i64 1, .int .i64 1, .int .i64 2, .int .i64 1, .int .i64 1, .int .i64 0, .int .i64 0, .int .i64 0, .int .i64 0, .int .i64 0, .int .i64 0, .int .i64 0] rfl rfl 79 _ (heap_alloc_new W8 zeroCnt) (by kernel_rfl) rfl (by simp [Value.oneCell']) ?_; rw [HW9.out])
    | (with_reducible refine wpList_load_mid rfl 67 (Operand.tmp 20) rfl s 0 rfl [.int .i64 16, .int .i64 2, .int .i64 2, .int .i64 16, .int .i64 2, .int .i64 2, .int .i64 16, .int .i64 2, .int .i64 2, .int .i64 0, .int .i64 0, .int .i64 0, .int .i64 16, .int .i64 2, .int .i64 2, .slice (some ⟨gI, 0, none⟩) 2 kI, .int .i64 16, .int .i64 2, .int .i64 2, .slice (some ⟨gD, 0, none⟩) 2 kD, .int .i64 16, .int .i64 2, .int .i64 2, .slice (some ⟨gL, 0, none⟩) 2 kL, .int .i64 0, .int .i64 0, .int .i64 0, .slice (some ⟨gP, 0, none⟩) 1 cP, .int .u32 0, .slice R 0 rc, .slice (some ⟨g, 0, none⟩) 1 cap] _ (HRG.out _ HX9.out) Try.underlying67 rfl (by kernel_rfl) ?_))
  refine (of_s gI kI gD kD gL kL gP cP rc g cap R vI vD vL W9 HF9.out).mono ?_
  rintro e W10 ⟨rfl, hb10⟩
  obtain ⟨W11, hW11⟩ : ∃ W11, (W10.alloc zeroCnt).setRow W10.heap.size #[.int .u32 0, .int .i64 2, .int .i64 1, .int .i64 1, .int .i64 2, .int .i64 1, .int .i64 1, .int .i64 0, .int .i64 0, .int .i64 0, .int .i64 0, .int .i64 0, .int .i64 0, .int .i64 0] = W11 := ⟨_, rfl⟩
  have hb1011 : Below W10.heap.size W10 W11 := by rw [← hW11]; exact (balloc W10 zeroCnt).trans ((Upd.setRow _ _ _).below (by simp) fun k hk => by omega)
  have hx11 : W11.heap[W10.heap.size]? = some (.cells #[.int .u32 0, .int .i64 2, .int .i64 1, .int .i64 1, .int .i64 2, .int .i64 1, .int .i64 1, .int .i64 0, .int .i64 0, .int .i64 0, .int .i64 0, .int .i64 0, .int .i64 0, .int .i64 0] 79 (0, 0)) := by rw [← hW11]; exact setRow_heap (heap_alloc_new W10 zeroCnt) _
  have hb911 := bvia hb10 hb1011 (Nat.le_refl _)
  have HX11 := Lib.hid (belowBox hb911 HX9.out)
  have HF11 := Lib.hid (HF9.out.below hb911)
  have HB11 := Lib.hid (bvia HB9.out hb911 (Nat.le_refl _))
  have hn11 := belowBox hb911 HN9.out
  have HN11 := Lib.hid hn11
  have HO11 := Lib.hid hx11
  have HW11 := Lib.hid hW11
  have k1 := boxAt (i := 1) hn11 rfl
  have k2 := boxAt (i := 2) hn11 rfl
  have k4 := boxAt (i := 4) hn11 rfl
  have k5 := boxAt (i := 5) hn11 rfl
  have hrc : ∀ (W' : World) (b : Nat), W'.heap[b]? = some (.cells #[.int .u32 0, .int .i64 2, .int .i64 1, .int .i64 1, .int .i64 2, .int .i64 1, .int .i64 1, .int .i64 0, .int .i64 0, .int .i64 0, .int .i64 0, .int .i64 0, .int .i64 0, .int .i64 0] 79 (0, 0)) → W'.rangeAt b 0 [.int .u32 0, .int .i64 2, .int .i64 1, .int .i64 1, .int .i64 2, .int .i64 1, .int .i64 1, .int .i64 0, .int .i64 0, .int .i64 0, .int .i64 0, .int .i64 0, .int .i64 0, .int .i64 0] := fun W' b h => range_sub h 0 _ rfl
  have HRC := Lib.hid hrc
  clear hb10 hb1011 hx11 hb911 hW11 HX9 HF9 HB9 hn11 hrc HW9 HN9
  go_wp2_with (first
    | (refine wpList_store_row rfl 79 (.tmp 23) (.tmp 243) rfl W10.heap.size #[.int .u32 0, .int .i64 2, .int .i64 1, .int .i64 1, .int .i64 2, .int .i64 1, .int .i64 1, .int .i64 0, .int .i64 0, .int .i64 0, .int .i64 0, .int .i64 0, .int .i64 0, .int .i64 0] rfl rfl 79 _ (heap_alloc_new W10 zeroCnt) (by kernel_rfl) rfl (by simp [Value.oneCell']) ?_; rw [HW11.out])
    | (with_reducible refine wpList_load_midW (by kernel_rfl) 79 (Operand.tmp 23) rfl W10.heap.size 0 rfl [.int .u32 0, .int .i64 2, .int .i64 1, .int .i64 1, .int .i64 2, .int .i64 1, .int .i64 1, .int .i64 0, .int .i64 0, .int .i64 0, .int .i64 0, .int .i64 0, .int .i64 0, .int .i64 0] _ (HRC.out _ _ HO11.out) Try.underlying79 rfl (by kernel_rfl) ?_)
    | (with_reducible refine wpList_load_midW (by kernel_rfl) 79 (Operand.tmp 22) rfl W8.heap.size 0 rfl [.int .u32 0, .int .i64 2, .int .i64 1, .int .i64 1, .int .i64 2, .int .i64 1, .int .i64 1, .int .i64 0, .int .i64 0, .int .i64 0, .int .i64 0, .int .i64 0, .int .i64 0, .int .i64 0] _ (HRC.out _ _ HN11.out) Try.underlying79 rfl (by kernel_rfl) ?_)
    | (with_reducible refine wpList_load_midW (by kernel_rfl) 67 (Operand.tmp 20) rfl s 0 rfl [.int .i64 16, .int .i64 2, .int .i64 2, .int .i64 16, .int .i64 2, .int .i64 2, .int .i64 16, .int .i64 2, .int .i64 2, .int .i64 0, .int .i64 0, .int .i64 0, .int .i64 16, .int .i64 2, .int .i64 2, .slice (some ⟨gI, 0, none⟩) 2 kI, .int .i64 16, .int .i64 2, .int .i64 2, .slice (some ⟨gD, 0, none⟩) 2 kD, .int .i64 16, .int .i64 2, .int .i64 2, .slice (some ⟨gL, 0, none⟩) 2 kL, .int .i64 0, .int .i64 0, .int .i64 0, .slice (some ⟨gP, 0, none⟩) 1 cP, .int .u32 0, .slice R 0 rc, .slice (some ⟨g, 0, none⟩) 1 cap] _ (HRG.out _ HX11.out) Try.underlying67 rfl (by kernel_rfl) ?_))
  refine (check_s gI kI gD kD gL kL gP cP rc g cap R vI vD vL W11 HF11.out).mono ?_
  rintro e W12 ⟨rfl, hb12⟩
  go_wp2
  exact HQ.out _ _ rfl rfl (bvia HB11.out hb12 (Nat.le_refl _))

attribute [local irreducible] World.setCell World.setRow in
set_option maxRecDepth 1000000 in
set_option maxHeartbeats 8000000 in
theorem san_e (b1 : Nat) (W : World) (Q : Exit → Act → World → Prop) (c0 c2 c3 c4 c5 c6 c7 c8 c9 c10 c11 c12 c13 c14 c15 c16 c17 c18 c19 c20 c21 c22 c23 c24 c25 c26 c27 c28 c29 c30 c31 c32 c33 c34 c35 c36 c37 c38 c39 c40 c41 c42 c43 c44 c45 c46 c47 c48 c49 c50 c51 c52 c53 c54 c55 c56 c57 c58 c59 c60 c61 c62 c63 c64 c65 c66 c67 c68 c69 c70 c71 c72 c73 c74 c75 c76 c77 c78 c79 c80 c81 c82 c83 c84 c85 c86 c87 c88 c89 c90 c91 c92 c93 c94 c95 c96 c97 c98 c99 c100 c101 c102 c103 c104 c105 c106 c107 c108 c109 c110 c111 c112 c113 c114 c115 c116 c117 c118 c119 c120 c121 c122 c123 c124 c125 c126 c127 c128 c129 c130 c131 c132 c133 c134 c135 c136 c137 c138 c139 c140 c141 c142 c143 c144 c145 c146 c147 c148 c149 c150 c151 c152 c153 c154 c155 c156 c157 c158 c159 c160 c161 c162 c163 c164 c165 c166 c167 c168 c169 c170 c171 c172 c173 c174 c175 c176 c177 c178 c179 c180 c181 c182 c183 c184 c185 c186 c187 c188 c189 c190 c191 c192 c193 c194 c195 c196 c197 c198 c199 c200 c201 c202 c203 c204 c205 c206 c207 c208 c209 c210 c211 c212 c213 c214 c215 c216 c217 c218 c219 c220 c221 c222 c223 c224 c225 c226 c227 c228 c229 c230 c231 c232 c233 c234 c235 c236 c237 c238 c239 c240 c241 c242 c243 c244 c245 c246 c247 c248 c249 c250 c251 c252 c253 c254 c255 c256 c257 c258 c259 c260 c261 c262 c263 c264 c265 c266 c267 c268 c269 c270 c271 c272 c273 c274 c275 c276 c277 c278 c279 c280 c281 c282 c283 c284 c285 c286 c287 : Value) (hx : W.heap[b1]? = some (.cells #[.int .i64 16, .int .i64 2, .int .i64 2] 25 (0, 0))) (hQ : SaneQ W Q) (K : Act → World → Prop) (hK : ∀ a w, Code.wp Try.prog (codeR (saneAt 18)) Q a w → K a w) :
    Code.wp Try.prog (codeL (saneAt 18)) (Exit.then K Q) ⟨#[c0, .pointer (some ⟨b1, 0, none⟩), c2, c3, c4, c5, c6, c7, c8, c9, c10, c11, c12, c13, c14, c15, c16, c17, c18, c19, c20, c21, c22, c23, c24, c25, c26, c27, c28, c29, c30, c31, c32, c33, c34, c35, c36, c37, c38, c39, c40, c41, c42, c43, c44, c45, c46, c47, c48, c49, c50, c51, c52, c53, c54, c55, c56, c57, c58, c59, c60, c61, c62, c63, c64, c65, c66, c67, c68, c69, c70, c71, c72, c73, c74, c75, c76, c77, c78, c79, c80, c81, c82, c83, c84, c85, c86, c87, c88, c89, c90, c91, c92, c93, c94, c95, c96, c97, c98, c99, c100, c101, c102, c103, c104, c105, c106, c107, c108, c109, c110, c111, c112, c113, c114, c115, c116, c117, c118, c119, c120, c121, c122, c123, c124, c125, c126, c127, c128, c129, c130, c131, c132, c133, c134, c135, c136, c137, c138, c139, c140, c141, c142, c143, c144, c145, c146, c147, c148, c149, c150, c151, c152, c153, c154, c155, c156, c157, c158, c159, c160, c161, c162, c163, c164, c165, c166, c167, c168, c169, c170, c171, c172, c173, c174, c175, c176, c177, c178, c179, c180, c181, c182, c183, c184, c185, c186, c187, c188, c189, c190, c191, c192, c193, c194, c195, c196, c197, c198, c199, c200, c201, c202, c203, c204, c205, c206, c207, c208, c209, c210, c211, c212, c213, c214, c215, c216, c217, c218, c219, c220, c221, c222, c223, c224, c225, c226, c227, c228, c229, c230, c231, c232, c233, c234, c235, c236, c237, c238, c239, c240, c241, c242, c243, c244, c245, c246, c247, c248, c249, c250, c251, c252, c253, c254, c255, c256, c257, c258, c259, c260, c261, c262, c263, c264, c265, c266, c267, c268, c269, c270, c271, c272, c273, c274, c275, c276, c277, c278, c279, c280, c281, c282, c283, c284, c285, c286, c287], []⟩ W := by
  have HQ := Lib.hid hQ
  clear hQ
  have y0 := boxAt (i := 0) hx rfl
  have y1 := boxAt (i := 1) hx rfl
  have y2 := boxAt (i := 2) hx rfl
  clear hx
  conv => arg 2; whnf
  conv at hK => enter [a, w, 1]; arg 2; whnf
  go_wp2_with fail
  refine (new_s W).mono ?_
  rintro e W1 ⟨gi, gd, gl, gp, rfl, hN, hb1⟩
  have HS1 := Lib.hid hb1.size
  obtain ⟨W2, hW2⟩ : ∃ W2, (W1.alloc zeroS).setRow W1.heap.size #[.int .i64 16, .int .i64 2, .int .i64 2, .int .i64 16, .int .i64 2, .int .i64 2, .int .i64 16, .int .i64 2, .int .i64 2, .int .i64 0, .int .i64 0, .int .i64 0, .int .i64 16, .int .i64 2, .int .i64 2, .slice (some ⟨gi, 0, none⟩) 2 2, .int .i64 16, .int .i64 2, .int .i64 2, .slice (some ⟨gd, 0, none⟩) 2 2, .int .i64 16, .int .i64 2, .int .i64 2, .slice (some ⟨gl, 0, none⟩) 2 2, .int .i64 0, .int .i64 0, .int .i64 0, .slice (some ⟨gp, 0, none⟩) 1 1, .int .u32 0, .slice none 0 0, .slice none 0 0] = W2 := ⟨_, rfl⟩
  have hb12 : Below W1.heap.size W1 W2 := by rw [← hW2]; exact (balloc W1 zeroS).trans ((Upd.setRow _ _ _).below (by simp) fun k hk => by omega)
  have hx2 : W2.heap[W1.heap.size]? = some (.cells #[.int .i64 16, .int .i64 2, .int .i64 2, .int .i64 16, .int .i64 2, .int .i64 2, .int .i64 16, .int .i64 2, .int .i64 2, .int .i64 0, .int .i64 0, .int .i64 0, .int .i64 16, .int .i64 2, .int .i64 2, .slice (some ⟨gi, 0, none⟩) 2 2, .int .i64 16, .int .i64 2, .int .i64 2, .slice (some ⟨gd, 0, none⟩) 2 2, .int .i64 16, .int .i64 2, .int .i64 2, .slice (some ⟨gl, 0, none⟩) 2 2, .int .i64 0, .int .i64 0, .int .i64 0, .slice (some ⟨gp, 0, none⟩) 1 1, .int .u32 0, .slice none 0 0, .slice none 0 0] 67 (0, 0)) := by rw [← hW2]; exact setRow_heap (heap_alloc_new W1 zeroS) _
  have HW2 := Lib.hid hW2
  have HX2 := Lib.hid hx2
  have HN2 := Lib.hid (hN.below hb12)
  have HB2 := Lib.hid (bvia hb1 hb12 (Nat.le_refl _))
  clear hW2 hb12 hx2 hN hb1 y0 y1 y2
  obtain ⟨W3, hW3⟩ : ∃ W3, W2.alloc (.cells #[.int .i64 1, .int .i64 0, .int .u32 0, .int .u32 0, .int .u32 0, .int .i64 4, .int .i64 2, .int .i64 0, .int .u32 0, .int .u32 64, .int .u32 0, .int .i64 4] 71) = W3 := ⟨_, rfl⟩
  have hb23 : Below W2.heap.size W2 W3 := by rw [← hW3]; exact balloc _ _
  have hx3 : W3.heap[W2.heap.size]? = some (.cells #[.int .i64 1, .int .i64 0, .int .u32 0, .int .u32 0, .int .u32 0, .int .i64 4, .int .i64 2, .int .i64 0, .int .u32 0, .int .u32 64, .int .u32 0, .int .i64 4] 71 (0, 0)) := by rw [← hW3]; exact heap_alloc_new _ _
  have HB3 := Lib.hid hb23
  have HX3 := Lib.hid hx3
  clear hb23 hx3
  go_wp2_with (refine wpList_store_row rfl 67 (.tmp 20) (.tmp 221) rfl W1.heap.size #[.int .i64 16, .int .i64 2, .int .i64 2, .int .i64 16, .int .i64 2, .int .i64 2, .int .i64 16, .int .i64 2, .int .i64 2, .int .i64 0, .int .i64 0, .int .i64 0, .int .i64 16, .int .i64 2, .int .i64 2, .slice (some ⟨gi, 0, none⟩) 2 2, .int .i64 16, .int .i64 2, .int .i64 2, .slice (some ⟨gd, 0, none⟩) 2 2, .int .i64 16, .int .i64 2, .int .i64 2, .slice (some ⟨gl, 0, none⟩) 2 2, .int .i64 0, .int .i64 0, .int .i64 0, .slice (some ⟨gp, 0, none⟩) 1 1, .int .u32 0, .slice none 0 0, .slice none 0 0] rfl rfl 67 _ (heap_alloc_new W1 zeroS) (by kernel_rfl) rfl (by simp [Value.oneCell']) ?_; rw [HW2.out])
  refine wp_region_noPanic ?_
  have hs3 := belowBox HB3.out HX2.out
  have hs3d : W3.drew.heap[W1.heap.size]? = some (.cells #[.int .i64 16, .int .i64 2, .int .i64 2, .int .i64 16, .int .i64 2, .int .i64 2, .int .i64 16, .int .i64 2, .int .i64 2, .int .i64 0, .int .i64 0, .int .i64 0, .int .i64 16, .int .i64 2, .int .i64 2, .slice (some ⟨gi, 0, none⟩) 2 2, .int .i64 16, .int .i64 2, .int .i64 2, .slice (some ⟨gd, 0, none⟩) 2 2, .int .i64 16, .int .i64 2, .int .i64 2, .slice (some ⟨gl, 0, none⟩) 2 2, .int .i64 0, .int .i64 0, .int .i64 0, .slice (some ⟨gp, 0, none⟩) 1 1, .int .u32 0, .slice none 0 0, .slice none 0 0] 67 (0, 0)) := hs3
  refine wp_region_till 9 (fun W' => W'.heap[W1.heap.size]? = some (.cells #[.int .i64 16, .int .i64 2, .int .i64 2, .int .i64 16, .int .i64 2, .int .i64 2, .int .i64 16, .int .i64 2, .int .i64 2, .int .i64 0, .int .i64 0, .int .i64 0, .int .i64 16, .int .i64 2, .int .i64 2, .slice (some ⟨gi, 0, none⟩) 2 2, .int .i64 16, .int .i64 2, .int .i64 2, .slice (some ⟨gd, 0, none⟩) 2 2, .int .i64 16, .int .i64 2, .int .i64 2, .slice (some ⟨gl, 0, none⟩) 2 2, .int .i64 0, .int .i64 0, .int .i64 0, .slice (some ⟨gp, 0, none⟩) 1 1, .int .u32 0, .slice none 0 0, .slice none 0 0] 67 (0, 0))) (by kernel_rfl) hs3d (fun hS => ?_)
  refine wpAnyT_take 0 { dst := some 227, op := Op.load 67 (Operand.tmp 20), type := 67, pos := "law.go:52", after := #[], guard := none } (.agg #[.int .i64 16, .int .i64 2, .int .i64 2, .int .i64 16, .int .i64 2, .int .i64 2, .int .i64 16, .int .i64 2, .int .i64 2, .int .i64 0, .int .i64 0, .int .i64 0, .int .i64 16, .int .i64 2, .int .i64 2, .slice (some ⟨gi, 0, none⟩) 2 2, .int .i64 16, .int .i64 2, .int .i64 2, .slice (some ⟨gd, 0, none⟩) 2 2, .int .i64 16, .int .i64 2, .int .i64 2, .slice (some ⟨gl, 0, none⟩) 2 2, .int .i64 0, .int .i64 0, .int .i64 0, .slice (some ⟨gp, 0, none⟩) 1 1, .int .u32 0, .slice none 0 0, .slice none 0 0]) (by rfl) (by kernel_rfl) (by kernel_rfl) (by kernel_rfl) (by kernel_rfl) (by kernel_rfl) (fun _ _ _ h => h) (yieldsIf_load_mid (by rfl) 67 (Operand.tmp 20) rfl W1.heap.size 0 rfl [.int .i64 16, .int .i64 2, .int .i64 2, .int .i64 16, .int .i64 2, .int .i64 2, .int .i64 16, .int .i64 2, .int .i64 2, .int .i64 0, .int .i64 0, .int .i64 0, .int .i64 16, .int .i64 2, .int .i64 2, .slice (some ⟨gi, 0, none⟩) 2 2, .int .i64 16, .int .i64 2, .int .i64 2, .slice (some ⟨gd, 0, none⟩) 2 2, .int .i64 16, .int .i64 2, .int .i64 2, .slice (some ⟨gl, 0, none⟩) 2 2, .int .i64 0, .int .i64 0, .int .i64 0, .slice (some ⟨gp, 0, none⟩) 1 1, .int .u32 0, .slice none 0 0, .slice none 0 0] _ (fun W' h' => range_sub h' 0 _ rfl) Try.underlying67 rfl (by kernel_rfl)) hS ?_
  try simp only [Act.put, List.setIfInBounds_toArray, List.set_cons_zero, List.set_cons_succ]
  refine wpAnyT_take 1 { dst := some 228, op := Op.move (Operand.tmp 21), type := 68, pos := "law.go:52", after := #[], guard := none } (.slice (some ⟨W2.heap.size, 0, none⟩) 2 2) (by rfl) (by kernel_rfl) (by kernel_rfl) (by kernel_rfl) (by kernel_rfl) (by kernel_rfl) (fun _ _ _ h => h) (Or.inl ⟨by rfl, fun W' hW' => by kernel_rfl⟩) hS ?_
  try simp only [Act.put, List.setIfInBounds_toArray, List.set_cons_zero, List.set_cons_succ]
  refine wpAnyT_take 3 { dst := some 230, op := Op.move (Operand.tmp 21), type := 68, pos := "law.go:52", after := #[], guard := none } (.slice (some ⟨W2.heap.size, 0, none⟩) 2 2) (by rfl) (by kernel_rfl) (by kernel_rfl) (by kernel_rfl) (by kernel_rfl) (by kernel_rfl) (fun _ _ _ h => h) (Or.inl ⟨by rfl, fun W' hW' => by kernel_rfl⟩) hS ?_
  try simp only [Act.put, List.setIfInBounds_toArray, List.set_cons_zero, List.set_cons_succ]
  refine wpAnyT_one 2 { dst := some 229, op := Op.call { callee := Callee.value (Operand.func 39), args := #[Operand.tmp 228], argTypes := #[68] }, type := 68, pos := "law.go:52", after := #[{ on := 1, ground := Ground.data }], guard := none } (by kernel_rfl) (by kernel_rfl) (by rfl) (fun K' hK' => ?_)
  go_wp2_with fail
  have hsz3 : W3.heap.size = W2.heap.size + 1 := by rw [← hW3]; simp
  have hrd3 : Rd W3.drew (some ⟨W2.heap.size, 0, none⟩) 2 6 [.int .i64 1, .int .i64 0, .int .u32 0, .int .u32 0, .int .u32 0, .int .i64 4, .int .i64 2, .int .i64 0, .int .u32 0, .int .u32 64, .int .u32 0, .int .i64 4] := ⟨rfl, by decide, fun j hj => ⟨_, rfl, by
    have e : (⟨W2.heap.size, 0, none⟩ : Addr).add j = ⟨W2.heap.size, j, none⟩ := by unfold Addr.add; split <;> simp_all
    rw [e]
    refine boxAt (t := 71) (cs := #[.int .i64 1, .int .i64 0, .int .u32 0, .int .u32 0, .int .u32 0, .int .i64 4, .int .i64 2, .int .i64 0, .int .u32 0, .int .u32 64, .int .u32 0, .int .i64 4]) HX3.out ?_
    rw [List.getElem?_toArray, List.getElem?_eq_getElem hj]⟩⟩
  have H1c : ∀ u ∈ ([.int .i64 1, .int .i64 0, .int .u32 0, .int .u32 0, .int .u32 0, .int .i64 4, .int .i64 2, .int .i64 0, .int .u32 0, .int .u32 64, .int .u32 0, .int .i64 4] : List Value), u.oneCell' = true := by simp [Value.oneCell']
  have HRD := Lib.hid hrd3
  have HSZ := Lib.hid hsz3
  clear hW3 hsz3 hrd3
  refine (clone_ev (some ⟨W2.heap.size, 0, none⟩) 2 2 _ W3.drew HRD.out (by simp) H1c (by decide)).mono ?_
  rintro e W4 ⟨v4, rfl, ho4, hb4⟩
  have hb34 : Below W3.heap.size W3 W4 := (bdrewN (Below.refl _ W3) 1).trans hb4
  have HB34 := Lib.hid hb34
  have hS4 := belowBox hb34 hs3
  refine hK'.out _ _ hS4 ?_
  clear hK' K'
  try simp only [Act.put, List.setIfInBounds_toArray, List.set_cons_zero, List.set_cons_succ]
  obtain ⟨i0, hi, hz0, hz1, hz2⟩ := info_parts info_ev
  refine wpAnyT_one 4 { dst := some 231, op := Op.call { callee := Callee.builtin Builtin.append, args := #[Operand.tmp 229, Operand.tmp 230], argTypes := #[68, 68] }, type := 68, pos := "law.go:52", after := #[{ on := 2, ground := Ground.data }, { on := 3, ground := Ground.data }, { on := 2, ground := Ground.chain }], guard := none } (by kernel_rfl) (by kernel_rfl) (by rfl) (fun K' hK' => ?_)
  refine step_append_lies _ rfl (.tmp 229) (.tmp 230) 68 rfl W3.heap.size 71 i0 _ 6 40 Try.underlying68 hi hz0 hz1 hz2 rfl (by decide) v4 2 [.int .i64 1, .int .i64 0, .int .u32 0, .int .u32 0, .int .u32 0, .int .i64 4, .int .i64 2, .int .i64 0, .int .u32 0, .int .u32 64, .int .u32 0, .int .i64 4] rfl ho4 ⟨W2.heap.size, 0, none⟩ 2 2 [.int .i64 1, .int .i64 0, .int .u32 0, .int .u32 0, .int .u32 0, .int .i64 4, .int .i64 2, .int .i64 0, .int .u32 0, .int .u32 64, .int .u32 0, .int .i64 4] rfl rfl ?_ H1c (by decide) (by decide) (by decide) hb34.size W4.heap.size rfl ?_
  · intro j u hu
    obtain ⟨hj, rfl⟩ := List.getElem?_eq_some_iff.1 hu
    obtain ⟨ad', e, hc⟩ := HRD.out.cell j hj
    obtain rfl := Option.some.inj e
    exact bkeep hb4 hc
  intro g5 cap5 W5 hown5 hgrow5 _ _
  have hb45 : Below W3.heap.size W4 W5 := (Upd.of_grown hgrow5).below hb34.size fun k hk => (ho4.lt k hk).1
  have hb35 := hb34.trans hb45
  have hS5 := belowBox hb35 hs3
  refine hK'.out _ _ hS5 ?_
  clear hK' K'
  try simp only [Act.put, List.setIfInBounds_toArray, List.set_cons_zero, List.set_cons_succ]
  refine wpAnyT_one 5 { dst := some 232, op := Op.call { callee := Callee.value (Operand.func 28), args := #[Operand.tmp 227, Operand.tmp 231], argTypes := #[67, 68] }, type := 72, pos := "law.go:52", after := #[{ on := 0, ground := Ground.data }, { on := 4, ground := Ground.data }, { on := 4, ground := Ground.chain }], guard := none } (by kernel_rfl) (by kernel_rfl) (by rfl) (fun K' hK' => ?_)
  have HN5 := Lib.hid (HN2.out.below (bvia HB3.out hb35 (Nat.le_refl _)))
  have HE5 := Lib.hid (rdE_own (by exact hown5))
  have HB35 := Lib.hid hb35
  clear hb45 hb35 hown5 hgrow5 ho4 hb4 hb34 HRD H1c hs3 hs3d hi hz0 hz1 hz2
  rw [if_pos (by rfl)]
  go_wp2_with fail
  refine (feed_s gi gd gl gp cap5 (some ⟨g5, 0, none⟩) W5 HN5.out HE5.out).mono ?_
  rintro e W6 ⟨gI, kI, gD, kD, gL, kL, gP, cP, rc, g, cap, R, vI, vD, vL, rfl, hF6, hb56⟩
  have hS6 := belowBox hb56 hS5
  refine hK'.out _ _ hS6 ?_
  clear hK' K'
  try simp only [Act.put, List.setIfInBounds_toArray, List.set_cons_zero, List.set_cons_succ]
  refine wpAnyT_take 6 { dst := some 226, op := Op.move (Operand.tmp 232), type := 72, pos := "law.go:52", after := #[{ on := 5, ground := Ground.data }], guard := none } (.tuple #[.agg #[.int .i64 16, .int .i64 2, .int .i64 2, .int .i64 16, .int .i64 2, .int .i64 2, .int .i64 16, .int .i64 2, .int .i64 2, .int .i64 0, .int .i64 0, .int .i64 0, .int .i64 16, .int .i64 2, .int .i64 2, .slice (some ⟨gI, 0, none⟩) 2 kI, .int .i64 16, .int .i64 2, .int .i64 2, .slice (some ⟨gD, 0, none⟩) 2 kD, .int .i64 16, .int .i64 2, .int .i64 2, .slice (some ⟨gL, 0, none⟩) 2 kL, .int .i64 0, .int .i64 0, .int .i64 0, .slice (some ⟨gP, 0, none⟩) 1 cP, .int .u32 0, .slice R 0 rc, .slice (some ⟨g, 0, none⟩) 1 cap], .int .i64 0]) (by rfl) (by kernel_rfl) (by kernel_rfl) (by kernel_rfl) (by kernel_rfl) (by kernel_rfl) (fun _ _ _ h => h) (Or.inl ⟨by rfl, fun W' hW' => by kernel_rfl⟩) hS6 ?_
  try simp only [Act.put, List.setIfInBounds_toArray, List.set_cons_zero, List.set_cons_succ]
  refine wpAnyT_take 7 { dst := some 233, op := Op.extract (Operand.tmp 226) 0, type := 67, pos := "law.go:52", after := #[{ on := 6, ground := Ground.data }], guard := none } (.agg #[.int .i64 16, .int .i64 2, .int .i64 2, .int .i64 16, .int .i64 2, .int .i64 2, .int .i64 16, .int .i64 2, .int .i64 2, .int .i64 0, .int .i64 0, .int .i64 0, .int .i64 16, .int .i64 2, .int .i64 2, .slice (some ⟨gI, 0, none⟩) 2 kI, .int .i64 16, .int .i64 2, .int .i64 2, .slice (some ⟨gD, 0, none⟩) 2 kD, .int .i64 16, .int .i64 2, .int .i64 2, .slice (some ⟨gL, 0, none⟩) 2 kL, .int .i64 0, .int .i64 0, .int .i64 0, .slice (some ⟨gP, 0, none⟩) 1 cP, .int .u32 0, .slice R 0 rc, .slice (some ⟨g, 0, none⟩) 1 cap]) (by rfl) (by kernel_rfl) (by kernel_rfl) (by kernel_rfl) (by kernel_rfl) (by kernel_rfl) (fun _ _ _ h => h) (Or.inl ⟨by rfl, fun W' hW' => by kernel_rfl⟩) hS6 ?_
  try simp only [Act.put, List.setIfInBounds_toArray, List.set_cons_zero, List.set_cons_succ]
  have HF6 := Lib.hid hF6
  have HS5 := Lib.hid hS5
  have HB6 := Lib.hid (bvia HB2.out (bvia HB3.out (HB35.out.trans (hb56.mono (by have := HB35.out.size; omega))) (Nat.le_refl _)) (Nat.le_refl _))
  clear hF6 hb56 hS5 hS4
  refine wpAnyT_two 8 { dst := some 234, op := Op.extract (Operand.tmp 226) 1, type := 53, pos := "law.go:52", after := #[{ on := 6, ground := Ground.data }, { on := 9, ground := Ground.gcOnly Departure.lateStores }], guard := none } { dst := none, op := Op.store 67 (Operand.tmp 20) (Operand.tmp 233), type := 0, pos := "law.go:52", after := #[{ on := 7, ground := Ground.data }, { on := 5, ground := Ground.chain }, { on := 0, ground := Ground.phase }, { on := 1, ground := Ground.phase }, { on := 2, ground := Ground.phase }, { on := 3, ground := Ground.phase }, { on := 4, ground := Ground.phase }, { on := 5, ground := Ground.phase }, { on := 6, ground := Ground.phase }, { on := 7, ground := Ground.phase }, { on := 8, ground := Ground.textOnly Departure.lateStores }], guard := none } (by kernel_rfl) (by kernel_rfl) (by rfl) (by rfl) (fun K' hK' => ?_) (fun K' hK' => ?_)
  · rw [if_pos (by rfl)]
    refine wp_of_run (v := .int .i64 0) (w' := W6) (by kernel_rfl) ?_
    refine hK'.out _ _ hS6 ?_
    clear hK' K'
    try simp only [Act.put, List.setIfInBounds_toArray, List.set_cons_zero, List.set_cons_succ]
    refine wpAnyT_till { dst := none, op := Op.store 67 (Operand.tmp 20) (Operand.tmp 233), type := 0, pos := "law.go:52", after := #[{ on := 7, ground := Ground.data }, { on := 5, ground := Ground.chain }, { on := 0, ground := Ground.phase }, { on := 1, ground := Ground.phase }, { on := 2, ground := Ground.phase }, { on := 3, ground := Ground.phase }, { on := 4, ground := Ground.phase }, { on := 5, ground := Ground.phase }, { on := 6, ground := Ground.phase }, { on := 7, ground := Ground.phase }, { on := 8, ground := Ground.textOnly Departure.lateStores }], guard := none } (by kernel_rfl) (by rfl) (fun K' hK' => ?_)
    rw [if_pos (by rfl)]
    refine wp_store_row 67 (.tmp 20) (.tmp 233) rfl W1.heap.size #[.int .i64 16, .int .i64 2, .int .i64 2, .int .i64 16, .int .i64 2, .int .i64 2, .int .i64 16, .int .i64 2, .int .i64 2, .int .i64 0, .int .i64 0, .int .i64 0, .int .i64 16, .int .i64 2, .int .i64 2, .slice (some ⟨gI, 0, none⟩) 2 kI, .int .i64 16, .int .i64 2, .int .i64 2, .slice (some ⟨gD, 0, none⟩) 2 kD, .int .i64 16, .int .i64 2, .int .i64 2, .slice (some ⟨gL, 0, none⟩) 2 kL, .int .i64 0, .int .i64 0, .int .i64 0, .slice (some ⟨gP, 0, none⟩) 1 cP, .int .u32 0, .slice R 0 rc, .slice (some ⟨g, 0, none⟩) 1 cap] rfl rfl 67 _ hS6 (by kernel_rfl) rfl (by simp [Value.oneCell']) ?_
    refine hK'.out _ _ ?_
    clear hK' K'
    refine wpAny_take (i := 10) (oi := { dst := some 12, op := Op.assign (Operand.tmp 234), type := 53, pos := "law.go:52", after := #[{ on := 8, ground := Ground.data }, { on := 9, ground := Ground.chain }, { on := 0, ground := Ground.phase }, { on := 1, ground := Ground.phase }, { on := 2, ground := Ground.phase }, { on := 3, ground := Ground.phase }, { on := 4, ground := Ground.phase }, { on := 5, ground := Ground.phase }, { on := 6, ground := Ground.phase }, { on := 7, ground := Ground.phase }, { on := 8, ground := Ground.phase }, { on := 9, ground := Ground.phase }], guard := none }) (v := .int .i64 0) (by rfl) (by kernel_rfl) (by kernel_rfl) (by kernel_rfl) (fun _ _ _ h => h) (Or.inl ⟨by rfl, fun W' => by kernel_rfl⟩) ?_
    try simp only [Act.put, List.setIfInBounds_toArray, List.set_cons_zero, List.set_cons_succ]
    refine wpAny_done (by kernel_rfl) ?_ _
    exact san_e2 W1.heap.size W5.heap.size W6 W Q _ _ _ _ _ _ _ _ _ _ _ _ _ _ _ _ _ _ _ _ _ _ _ _ _ _ _ _ _ _ _ _ _ _ _ _ _ _ _ _ _ _ _ _ _ _ _ _ _ _ _ _ _ _ _ _ _ _ _ _ _ _ _ _ _ _ _ _ _ _ _ _ _ _ _ _ _ _ _ _ _ _ _ _ _ _ _ _ _ _ _ _ _ _ _ _ _ _ _ _ _ _ _ _ _ _ _ _ _ _ _ _ _ _ _ _ _ _ _ _ _ _ _ _ _ _ _ _ _ _ _ _ _ _ _ _ _ _ _ _ _ _ _ _ _ _ _ _ _ _ _ _ _ _ _ _ _ _ _ _ _ _ _ _ _ _ _ _ _ _ _ _ _ _ _ _ _ _ _ _ _ _ _ _ _ _ _ _ _ _ _ _ _ _ _ _ _ _ _ _ _ _ _ _ _ _ _ _ _ _ _ _ _ _ _ _ _ _ _ _ _ _ _ _ _ _ _ _ _ _ _ _ _ _ _ _ _ _ _ _ _ _ _ _ _ _ _ _ _ _ _ _ _ _ _ _ _ _ _ _ _ _ _ _ _ _ _ _ _ _ _ _ _ _ _ _ _ _ _ _ _ _ _ _ _ _  gi gd gl gp gI kI gD kD gL kL gP cP rc g cap R vI vD vL HB6.out HS1.out (Array.getElem?_eq_some_iff.1 HS5.out).1 hS6 HF6.out HQ.out (by assumption)
  · rw [if_pos (by rfl)]
    refine wp_store_row 67 (.tmp 20) (.tmp 233) rfl W1.heap.size #[.int .i64 16, .int .i64 2, .int .i64 2, .int .i64 16, .int .i64 2, .int .i64 2, .int .i64 16, .int .i64 2, .int .i64 2, .int .i64 0, .int .i64 0, .int .i64 0, .int .i64 16, .int .i64 2, .int .i64 2, .slice (some ⟨gI, 0, none⟩) 2 kI, .int .i64 16, .int .i64 2, .int .i64 2, .slice (some ⟨gD, 0, none⟩) 2 kD, .int .i64 16, .int .i64 2, .int .i64 2, .slice (some ⟨gL, 0, none⟩) 2 kL, .int .i64 0, .int .i64 0, .int .i64 0, .slice (some ⟨gP, 0, none⟩) 1 cP, .int .u32 0, .slice R 0 rc, .slice (some ⟨g, 0, none⟩) 1 cap] rfl rfl 67 _ hS6 (by kernel_rfl) rfl (by simp [Value.oneCell']) ?_
    refine hK'.out _ _ ?_
    clear hK' K'
    try simp only [Act.put, List.setIfInBounds_toArray, List.set_cons_zero, List.set_cons_succ]
    refine wpAny_take (i := 8) (oi := { dst := some 234, op := Op.extract (Operand.tmp 226) 1, type := 53, pos := "law.go:52", after := #[{ on := 6, ground := Ground.data }, { on := 9, ground := Ground.gcOnly Departure.lateStores }], guard := none }) (v := .int .i64 0) (by rfl) (by kernel_rfl) (by kernel_rfl) (by kernel_rfl) (fun _ _ _ h => h) (Or.inl ⟨by rfl, fun W' => by kernel_rfl⟩) ?_
    try simp only [Act.put, List.setIfInBounds_toArray, List.set_cons_zero, List.set_cons_succ]
    refine wpAny_take (i := 10) (oi := { dst := some 12, op := Op.assign (Operand.tmp 234), type := 53, pos := "law.go:52", after := #[{ on := 8, ground := Ground.data }, { on := 9, ground := Ground.chain }, { on := 0, ground := Ground.phase }, { on := 1, ground := Ground.phase }, { on := 2, ground := Ground.phase }, { on := 3, ground := Ground.phase }, { on := 4, ground := Ground.phase }, { on := 5, ground := Ground.phase }, { on := 6, ground := Ground.phase }, { on := 7, ground := Ground.phase }, { on := 8, ground := Ground.phase }, { on := 9, ground := Ground.phase }], guard := none }) (v := .int .i64 0) (by rfl) (by kernel_rfl) (by kernel_rfl) (by kernel_rfl) (fun _ _ _ h => h) (Or.inl ⟨by rfl, fun W' => by kernel_rfl⟩) ?_
    try simp only [Act.put, List.setIfInBounds_toArray, List.set_cons_zero, List.set_cons_succ]
    refine wpAny_done (by kernel_rfl) ?_ _
    exact san_e2 W1.heap.size W5.heap.size W6 W Q _ _ _ _ _ _ _ _ _ _ _ _ _ _ _ _ _ _ _ _ _ _ _ _ _ _ _ _ _ _ _ _ _ _ _ _ _ _ _ _ _ _ _ _ _ _ _ _ _ _ _ _ _ _ _ _ _ _ _ _ _ _ _ _ _ _ _ _ _ _ _ _ _ _ _ _ _ _ _ _ _ _ _ _ _ _ _ _ _ _ _ _ _ _ _ _ _ _ _ _ _ _ _ _ _ _ _ _ _ _ _ _ _ _ _ _ _ _ _ _ _ _ _ _ _ _ _ _ _ _ _ _ _ _ _ _ _ _ _ _ _ _ _ _ _ _ _ _ _ _ _ _ _ _ _ _ _ _ _ _ _ _ _ _ _ _ _ _ _ _ _ _ _ _ _ _ _ _ _ _ _ _ _ _ _ _ _ _ _ _ _ _ _ _ _ _ _ _ _ _ _ _ _ _ _ _ _ _ _ _ _ _ _ _ _ _ _ _ _ _ _ _ _ _ _ _ _ _ _ _ _ _ _ _ _ _ _ _ _ _ _ _ _ _ _ _ _ _ _ _ _ _ _ _ _ _ _ _ _ _ _ _ _ _ _ _ _ _ _ _ _ _ _ _ _ _ _ _ _ _ _ _ _ _ _ _  gi gd gl gp gI kI gD kD gL kL gP cP rc g cap R vI vD vL HB6.out HS1.out (Array.getElem?_eq_some_iff.1 HS5.out).1 hS6 HF6.out HQ.out (by assumption)
end Go.Proofs.Ytdkacdfhapgboaa
