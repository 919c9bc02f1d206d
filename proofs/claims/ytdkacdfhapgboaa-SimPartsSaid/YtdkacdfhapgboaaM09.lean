/- Part 9 of the texts that the proof stands on: SanD, SanC, SlB, SanB. -/
import Derived.Test.YtdkacdfhapgboaaM08
import Derived.Deep.CutBlock
import Derived.Deep.QuietTactic
import Derived.BigQuiet

/- sane: calls and returns. (printed by gen/san.py) -/
set_option linter.unusedVariables false
set_option linter.unusedSimpArgs false
namespace Go.Proofs.Ytdkacdfhapgboaa
open Go.RowKit

/-- What sane hands back, said below a base. -/
def SaneB (B : Nat) (W : World) (Q : Exit → Act → World → Prop) : Prop := ∀ a w', a.tmps.getD 0 undef = .bool true → a.defers = [] → Below B W w' → Q .ret a w'
theorem SaneB.step {B : Nat} {W W1 : World} {Q : Exit → Act → World → Prop} (h : SaneB B W Q) (hb : Below B W W1) : SaneB B W1 Q := fun a w' h1 h2 h3 => h a w' h1 h2 (hb.trans h3)
theorem SaneB.to {B : Nat} {W : World} {Q : Exit → Act → World → Prop} (h : SaneB B W Q) (hB : B ≤ W.heap.size) : SaneQ W Q := fun a w' h1 h2 h3 => h a w' h1 h2 (h3.mono hB)
/-- A predictor that a call handed back, to be read on. -/
theorem PredIs.rd {w w' : World} {u : Value} {t h r hist : Int} {cs rs : List Int} (H : PredIs w u t h r cs hist rs w') : ∃ g c R rc, u = .agg #[.int .i64 t, .int .i64 h, .int .i64 r, .slice (some ⟨g, 0, none⟩) cs.length c, .int .u32 hist, .slice R rs.length rc] ∧
    ∀ W2, Upd (fun k => k < w.heap.size) w' W2 → RdP W2 (some ⟨g, 0, none⟩) c cs R rc rs := by
  obtain ⟨g, c, v, rfl, hown, hret, hne⟩ := H
  obtain ⟨A6, c6, rfl, hc6, hn6, hr6⟩ := hret.slice
  have hrl : (nums .u32 rs).length = rs.length := by simp
  refine ⟨g, c, A6, c6, by rw [hrl], fun W2 hu => ?_⟩
  have hcnt := own_upd hown hu fun k hk e => by have := (hown.lt k hk).1; omega
  have hret2 := hret.upd hu fun k hk e => by have := (hret.lt k hk).1; omega
  obtain ⟨A5, c5, e5, hc5⟩ := own_rd hcnt
  cases e5
  obtain ⟨A7, c7, e7, hc7, hn7, hr7⟩ := hret2.slice
  rw [hrl] at e7 hc7 hr7
  have e8 : A6 = A7 ∧ c6 = c7 := by
    simp only [Value.slice.injEq] at e7
    exact ⟨e7.1, e7.2.2⟩
  obtain ⟨rfl, rfl⟩ := e8
  have hcc : cs.length ≤ c := by
    rcases hcnt.2 with ⟨e, _⟩ | ⟨g', cap', cur, e, _, _, h3, _⟩
    · cases e
    · cases e; exact h3
  exact ⟨hc5, fun h => (by cases h), hcc, hr7, hn7, hc7⟩
theorem predQ (rs : List Int) (h : rs.length ≤ 1) : predOk 2 0 1 [1, 1, 1, 1] 0 rs := ⟨by kernel_rfl, by kernel_rfl, by kernel_rfl, by decide, by omega⟩

attribute [local irreducible] World.setCell World.setRow in
set_option maxRecDepth 1000000 in
set_option maxHeartbeats 8000000 in
theorem san_d (B b1 b13 gp cp : Nat) (W : World) (Q : Exit → Act → World → Prop) (c0 c2 c3 c4 c5 c6 c7 c8 c9 c10 c11 c12 c14 c15 c16 c17 c18 c19 c20 c21 c22 c23 c24 c25 c26 c27 c28 c29 c30 c31 c32 c33 c34 c35 c36 c37 c38 c39 c40 c41 c42 c43 c44 c45 c46 c47 c48 c49 c50 c51 c52 c53 c54 c55 c56 c57 c58 c59 c60 c61 c62 c63 c64 c65 c66 c67 c68 c69 c70 c71 c72 c73 c74 c75 c76 c77 c78 c79 c80 c81 c82 c83 c84 c85 c86 c87 c88 c89 c90 c91 c92 c93 c94 c95 c96 c97 c98 c99 c100 c101 c102 c103 c104 c105 c106 c107 c108 c109 c110 c111 c112 c113 c114 c115 c116 c117 c118 c119 c120 c121 c122 c123 c124 c125 c126 c127 c128 c129 c130 c131 c132 c133 c134 c135 c136 c137 c138 c139 c140 c141 c142 c143 c144 c145 c146 c147 c148 c149 c150 c151 c152 c153 c154 c155 c156 c157 c158 c159 c160 c161 c162 c163 c164 c165 c166 c167 c168 c169 c170 c171 c172 c173 c174 c175 c176 c177 c178 c179 c180 c181 c182 c183 c184 c185 c186 c187 c188 c189 c190 c191 c192 c193 c194 c195 c196 c197 c198 c199 c200 c201 c202 c203 c204 c205 c206 c207 c208 c209 c210 c211 c212 c213 c214 c215 c216 c217 c218 c219 c220 c221 c222 c223 c224 c225 c226 c227 c228 c229 c230 c231 c232 c233 c234 c235 c236 c237 c238 c239 c240 c241 c242 c243 c244 c245 c246 c247 c248 c249 c250 c251 c252 c253 c254 c255 c256 c257 c258 c259 c260 c261 c262 c263 c264 c265 c266 c267 c268 c269 c270 c271 c272 c273 c274 c275 c276 c277 c278 c279 c280 c281 c282 c283 c284 c285 c286 c287 : Value) (hx : W.heap[b1]? = some (.cells #[.int .i64 16, .int .i64 2, .int .i64 2] 25 (0, 0))) (hb : W.heap[b13]? = some (.cells #[.int .i64 2, .int .i64 0, .int .i64 1, .slice (some ⟨gp, 0, none⟩) 4 cp, .int .u32 0, .slice none 0 0] 52 (0, 0))) (hne : b1 ≠ b13)
    (hp : RdP W (some ⟨gp, 0, none⟩) cp [1, 1, 1, 1] none 0 []) (hB : B ≤ W.heap.size ∧ B ≤ b13) (hQ : SaneB B W Q) (K : Act → World → Prop) (hK : ∀ a w, Code.wp Try.prog (codeR (saneAt 13)) Q a w → K a w) :
    Code.wp Try.prog (codeL (saneAt 13)) (Exit.then K Q) ⟨#[c0, .pointer (some ⟨b1, 0, none⟩), c2, c3, c4, c5, c6, c7, c8, c9, c10, c11, c12, .pointer (some ⟨b13, 0, none⟩), c14, c15, c16, c17, c18, c19, c20, c21, c22, c23, c24, c25, c26, c27, c28, c29, c30, c31, c32, c33, c34, c35, c36, c37, c38, c39, c40, c41, c42, c43, c44, c45, c46, c47, c48, c49, c50, c51, c52, c53, c54, c55, c56, c57, c58, c59, c60, c61, c62, c63, c64, c65, c66, c67, c68, c69, c70, c71, c72, c73, c74, c75, c76, c77, c78, c79, c80, c81, c82, c83, c84, c85, c86, c87, c88, c89, c90, c91, c92, c93, c94, c95, c96, c97, c98, c99, c100, c101, c102, c103, c104, c105, c106, c107, c108, c109, c110, c111, c112, c113, c114, c115, c116, c117, c118, c119, c120, c121, c122, c123, c124, c125, c126, c127, c128, c129, c130, c131, c132, c133, c134, c135, c136, c137, c138, c139, c140, c141, c142, c143, c144, c145, c146, c147, c148, c149, c150, c151, c152, c153, c154, c155, c156, c157, c158, c159, c160, c161, c162, c163, c164, c165, c166, c167, c168, c169, c170, c171, c172, c173, c174, c175, c176, c177, c178, c179, c180, c181, c182, c183, c184, c185, c186, c187, c188, c189, c190, c191, c192, c193, c194, c195, c196, c197, c198, c199, c200, c201, c202, c203, c204, c205, c206, c207, c208, c209, c210, c211, c212, c213, c214, c215, c216, c217, c218, c219, c220, c221, c222, c223, c224, c225, c226, c227, c228, c229, c230, c231, c232, c233, c234, c235, c236, c237, c238, c239, c240, c241, c242, c243, c244, c245, c246, c247, c248, c249, c250, c251, c252, c253, c254, c255, c256, c257, c258, c259, c260, c261, c262, c263, c264, c265, c266, c267, c268, c269, c270, c271, c272, c273, c274, c275, c276, c277, c278, c279, c280, c281, c282, c283, c284, c285, c286, c287], []⟩ W := by
  have HX := Lib.hid hx
  have HBX := Lib.hid hb
  have HP := Lib.hid hp
  have HQ := Lib.hid hQ
  obtain ⟨hB1, hB2⟩ := hB
  obtain ⟨y0, y1, y2, y3, y4, y5, yd⟩ := box6 hb
  clear hx hb hp hQ
  conv => arg 2; whnf
  conv at hK => enter [a, w, 1]; arg 2; whnf
  go_wp2_with fail
  refine (Call_ok 2 0 1 (some ⟨gp, 0, none⟩) none cp 0 [1, 1, 1, 1] [] 0 100 W HP.out (predQ _ (by decide)) ⟨by omega, by omega⟩).mono ?_
  rintro e W1 ⟨u, rfl, hpi, hbw⟩
  have hres : callL 1 [] 100 = [100] := by kernel_rfl
  rw [hres] at hpi
  clear hres
  obtain ⟨g1, k1, R1, r1, rfl, hrd⟩ := hpi.rd
  obtain ⟨V1, hV⟩ : ∃ V, (((((W1.setCell ⟨b13, 0, none⟩ (.int .i64 2)).setCell ⟨b13, 1, none⟩ (.int .i64 0)).setCell ⟨b13, 2, none⟩ (.int .i64 1)).setCell ⟨b13, 3, none⟩ (.slice (some ⟨g1, 0, none⟩) 4 k1)).setCell ⟨b13, 4, none⟩ (.int .u32 0)).setCell ⟨b13, 5, none⟩ (.slice R1 1 r1) = V := ⟨_, rfl⟩
  have hbox := belowBox hbw HBX.out
  have hu : Upd (fun k => k = b13) W1 V1 := by
    rw [← hV]
    (repeat refine Upd.set ?_ (by rfl) _ _)
    exact Upd.refl _ _
  have hbxl := (Array.getElem?_eq_some_iff.1 HBX.out).1
  have hbox2 : V1.heap[b13]? = some (.cells #[.int .i64 2, .int .i64 0, .int .i64 1, .slice (some ⟨g1, 0, none⟩) 4 k1, .int .u32 0, .slice R1 1 r1] 52 (0, 0)) := by rw [← hV]; exact set6_heap hbox _ _ _ _ _ _
  obtain ⟨x0, x1, x2, x3, x4, x5, xd⟩ := box6 hbox
  have HPn := Lib.hid (hrd V1 (hu.mono (G := fun k => k < W.heap.size) fun k (h : k = b13) => by omega))
  have hbv : Below B W V1 := (hbw.mono hB1).trans (hu.below (by have := hbw.size; omega) fun k (h : k = b13) => by omega)
  have HXn := Lib.hid (((hu.block _ (Array.getElem?_eq_some_iff.1 (belowBox hbw HX.out)).1 hne)).trans (belowBox hbw HX.out))
  have HQn := Lib.hid (HQ.out.step hbv)
  have hBn : B ≤ V1.heap.size := by have := hbv.size; omega
  have HBn := Lib.hid hbox2
  have HV := Lib.hid hV
  clear hpi hbw hrd hbox hbox2 hu hbv HX HBX HP HQ hB1 hbxl y0 y1 y2 y3 y4 y5 yd
  obtain ⟨HX, HBX, HP, HQ, hB1⟩ : Hid _ ∧ Hid _ ∧ Hid _ ∧ Hid _ ∧ _ := ⟨HXn, HBn, HPn, HQn, hBn⟩
  clear HXn HBn HPn HQn hBn
  obtain ⟨y0, y1, y2, y3, y4, y5, yd⟩ := box6 HBX.out
  go_wp2_with fail
  refine (Call_ok 2 0 1 (some ⟨g1, 0, none⟩) R1 k1 r1 [1, 1, 1, 1] [100] 0 200 V1 HP.out (predQ _ (by decide)) ⟨by omega, by omega⟩).mono ?_
  rintro e W2 ⟨u, rfl, hpi, hbw⟩
  have hres : callL 1 [100] 200 = [200] := by kernel_rfl
  rw [hres] at hpi
  clear hres
  obtain ⟨g2, k2, R2, r2, rfl, hrd⟩ := hpi.rd
  obtain ⟨V2, hV⟩ : ∃ V, (((((W2.setCell ⟨b13, 0, none⟩ (.int .i64 2)).setCell ⟨b13, 1, none⟩ (.int .i64 0)).setCell ⟨b13, 2, none⟩ (.int .i64 1)).setCell ⟨b13, 3, none⟩ (.slice (some ⟨g2, 0, none⟩) 4 k2)).setCell ⟨b13, 4, none⟩ (.int .u32 0)).setCell ⟨b13, 5, none⟩ (.slice R2 1 r2) = V := ⟨_, rfl⟩
  have hbox := belowBox hbw HBX.out
  have hu : Upd (fun k => k = b13) W2 V2 := by
    rw [← hV]
    (repeat refine Upd.set ?_ (by rfl) _ _)
    exact Upd.refl _ _
  have hbxl := (Array.getElem?_eq_some_iff.1 HBX.out).1
  have hbox2 : V2.heap[b13]? = some (.cells #[.int .i64 2, .int .i64 0, .int .i64 1, .slice (some ⟨g2, 0, none⟩) 4 k2, .int .u32 0, .slice R2 1 r2] 52 (0, 0)) := by rw [← hV]; exact set6_heap hbox _ _ _ _ _ _
  obtain ⟨x0, x1, x2, x3, x4, x5, xd⟩ := box6 hbox
  have HPn := Lib.hid (hrd V2 (hu.mono (G := fun k => k < V1.heap.size) fun k (h : k = b13) => by omega))
  have hbv : Below B V1 V2 := (hbw.mono hB1).trans (hu.below (by have := hbw.size; omega) fun k (h : k = b13) => by omega)
  have HXn := Lib.hid (((hu.block _ (Array.getElem?_eq_some_iff.1 (belowBox hbw HX.out)).1 hne)).trans (belowBox hbw HX.out))
  have HQn := Lib.hid (HQ.out.step hbv)
  have hBn : B ≤ V2.heap.size := by have := hbv.size; omega
  have HBn := Lib.hid hbox2
  have HV := Lib.hid hV
  clear hpi hbw hrd hbox hbox2 hu hbv HX HBX HP HQ hB1 hbxl y0 y1 y2 y3 y4 y5 yd
  obtain ⟨HX, HBX, HP, HQ, hB1⟩ : Hid _ ∧ Hid _ ∧ Hid _ ∧ Hid _ ∧ _ := ⟨HXn, HBn, HPn, HQn, hBn⟩
  clear HXn HBn HPn HQn hBn
  obtain ⟨y0, y1, y2, y3, y4, y5, yd⟩ := box6 HBX.out
  go_wp2_with fail
  refine (Return_ok 2 0 1 (some ⟨g2, 0, none⟩) R2 k2 r2 [1, 1, 1, 1] [200] 0 200 V2 HP.out (predQ _ (by decide)) ⟨by omega, by omega⟩).mono ?_
  rintro e W3 ⟨u, rfl, hpi, hbw⟩
  have hres : ([200] : List Int).dropLast = [] := by kernel_rfl
  rw [hres] at hpi
  clear hres
  have hres : retB [200] 200 = true := by kernel_rfl
  rw [hres]
  clear hres
  obtain ⟨g3, k3, R3, r3, rfl, hrd⟩ := hpi.rd
  obtain ⟨V3, hV⟩ : ∃ V, (((((W3.setCell ⟨b13, 0, none⟩ (.int .i64 2)).setCell ⟨b13, 1, none⟩ (.int .i64 0)).setCell ⟨b13, 2, none⟩ (.int .i64 1)).setCell ⟨b13, 3, none⟩ (.slice (some ⟨g3, 0, none⟩) 4 k3)).setCell ⟨b13, 4, none⟩ (.int .u32 0)).setCell ⟨b13, 5, none⟩ (.slice R3 0 r3) = V := ⟨_, rfl⟩
  have hbox := belowBox hbw HBX.out
  have hu : Upd (fun k => k = b13) W3 V3 := by
    rw [← hV]
    (repeat refine Upd.set ?_ (by rfl) _ _)
    exact Upd.refl _ _
  have hbxl := (Array.getElem?_eq_some_iff.1 HBX.out).1
  have hbox2 : V3.heap[b13]? = some (.cells #[.int .i64 2, .int .i64 0, .int .i64 1, .slice (some ⟨g3, 0, none⟩) 4 k3, .int .u32 0, .slice R3 0 r3] 52 (0, 0)) := by rw [← hV]; exact set6_heap hbox _ _ _ _ _ _
  obtain ⟨x0, x1, x2, x3, x4, x5, xd⟩ := box6 hbox
  have HPn := Lib.hid (hrd V3 (hu.mono (G := fun k => k < V2.heap.size) fun k (h : k = b13) => by omega))
  have hbv : Below B V2 V3 := (hbw.mono hB1).trans (hu.below (by have := hbw.size; omega) fun k (h : k = b13) => by omega)
  have HXn := Lib.hid (((hu.block _ (Array.getElem?_eq_some_iff.1 (belowBox hbw HX.out)).1 hne)).trans (belowBox hbw HX.out))
  have HQn := Lib.hid (HQ.out.step hbv)
  have hBn : B ≤ V3.heap.size := by have := hbv.size; omega
  have HBn := Lib.hid hbox2
  have HV := Lib.hid hV
  clear hpi hbw hrd hbox hbox2 hu hbv HX HBX HP HQ hB1 hbxl y0 y1 y2 y3 y4 y5 yd
  obtain ⟨HX, HBX, HP, HQ, hB1⟩ : Hid _ ∧ Hid _ ∧ Hid _ ∧ Hid _ ∧ _ := ⟨HXn, HBn, HPn, HQn, hBn⟩
  clear HXn HBn HPn HQn hBn
  obtain ⟨y0, y1, y2, y3, y4, y5, yd⟩ := box6 HBX.out
  go_wp2_with fail
  refine (Return_ok 2 0 1 (some ⟨g3, 0, none⟩) R3 k3 r3 [1, 1, 1, 1] [] 0 100 V3 HP.out (predQ _ (by decide)) ⟨by omega, by omega⟩).mono ?_
  rintro e W4 ⟨u, rfl, hpi, hbw⟩
  have hres : ([] : List Int).dropLast = [] := by kernel_rfl
  rw [hres] at hpi
  clear hres
  have hres : retB [] 100 = false := by kernel_rfl
  rw [hres]
  clear hres
  obtain ⟨g4, k4, R4, r4, rfl, _⟩ := hpi.rd
  obtain ⟨V4, hV⟩ : ∃ V, W4.alloc (.cells #[.int .i64 2, .int .i64 0, .int .i64 1, .slice (some ⟨g4, 0, none⟩) 4 k4, .int .u32 0, .slice R4 0 r4] 52) = V := ⟨_, rfl⟩
  have hb4 : Below V3.heap.size V3 V4 := by rw [← hV]; exact bvia hbw (balloc _ _) (Nat.le_refl _)
  have HX4 := Lib.hid (belowBox hb4 HX.out)
  have HQ4 := Lib.hid (HQ.out.step (hb4.mono hB1))
  have hB4 : B ≤ V4.heap.size := by have := hb4.size; omega
  clear hpi hbw hb4 y0 y1 y2 y3 y4 y5 yd
  go_upto_region 30 with fail
  exact san_e b1 V4 Q _ _ _ _ _ _ _ _ _ _ _ _ _ _ _ _ _ _ _ _ _ _ _ _ _ _ _ _ _ _ _ _ _ _ _ _ _ _ _ _ _ _ _ _ _ _ _ _ _ _ _ _ _ _ _ _ _ _ _ _ _ _ _ _ _ _ _ _ _ _ _ _ _ _ _ _ _ _ _ _ _ _ _ _ _ _ _ _ _ _ _ _ _ _ _ _ _ _ _ _ _ _ _ _ _ _ _ _ _ _ _ _ _ _ _ _ _ _ _ _ _ _ _ _ _ _ _ _ _ _ _ _ _ _ _ _ _ _ _ _ _ _ _ _ _ _ _ _ _ _ _ _ _ _ _ _ _ _ _ _ _ _ _ _ _ _ _ _ _ _ _ _ _ _ _ _ _ _ _ _ _ _ _ _ _ _ _ _ _ _ _ _ _ _ _ _ _ _ _ _ _ _ _ _ _ _ _ _ _ _ _ _ _ _ _ _ _ _ _ _ _ _ _ _ _ _ _ _ _ _ _ _ _ _ _ _ _ _ _ _ _ _ _ _ _ _ _ _ _ _ _ _ _ _ _ _ _ _ _ _ _ _ _ _ _ _ _ _ _ _ _ _ _ _ _ _ _ _ _ _ _ _ _ _ _ _ _  HX4.out (HQ4.out.to hB4) _ (by assumption)
end Go.Proofs.Ytdkacdfhapgboaa

/- sane: a predictor is trained. (printed by gen/san.py) -/
set_option linter.unusedVariables false
set_option linter.unusedSimpArgs false
namespace Go.Proofs.Ytdkacdfhapgboaa
open Go.RowKit

theorem np_s (w : World) : Calls Try.prog 22 #[.agg #[.int .i64 2, .int .i64 0, .int .i64 1]] w fun e w' => ∃ g, e = .returned (.tuple #[.agg #[.int .i64 2, .int .i64 0, .int .i64 1, .slice (some ⟨g, 0, none⟩) 4 4, .int .u32 0, .slice none 0 0], .int .i64 0]) ∧ RdP w' (some ⟨g, 0, none⟩) 4 [1, 1, 1, 1] none 0 [] ∧ Below w.heap.size w w' := by
  refine (NewPred_ok 2 0 1 (by kernel_rfl) w).mono ?_
  rintro e w' H
  obtain ⟨g, rfl, h⟩ := H
  refine ⟨g, rfl, ?_⟩
  obtain ⟨A, c, e, hr⟩ := own_rd h.1
  cases e
  exact ⟨⟨hr, fun h => (by cases h), Nat.le_refl _, rdI_nil _ _, fun _ => rfl, Nat.le_refl _⟩, h.2⟩
theorem predQ2 : predOk 2 0 1 [2, 1, 1, 1] 0 [] := ⟨by kernel_rfl, by kernel_rfl, by kernel_rfl, by decide, by decide⟩
theorem predQ3 : predOk 2 0 1 [3, 1, 1, 1] 0 [] := ⟨by kernel_rfl, by kernel_rfl, by kernel_rfl, by decide, by decide⟩

attribute [local irreducible] World.setCell World.setRow in
set_option maxRecDepth 1000000 in
set_option maxHeartbeats 8000000 in
theorem san_c (B b1 : Nat) (W : World) (Q : Exit → Act → World → Prop) (c0 c2 c3 c4 c5 c6 c7 c8 c9 c10 c11 c12 c13 c14 c15 c16 c17 c18 c19 c20 c21 c22 c23 c24 c25 c26 c27 c28 c29 c30 c31 c32 c33 c34 c35 c36 c37 c38 c39 c40 c41 c42 c43 c44 c45 c46 c47 c48 c49 c50 c51 c52 c53 c54 c55 c56 c57 c58 c59 c60 c61 c62 c63 c64 c65 c66 c67 c68 c69 c70 c71 c72 c73 c74 c75 c76 c77 c78 c79 c80 c81 c82 c83 c84 c85 c86 c87 c88 c89 c90 c91 c92 c93 c94 c95 c96 c97 c98 c99 c100 c101 c102 c103 c104 c105 c106 c107 c108 c109 c110 c111 c112 c113 c114 c115 c116 c117 c118 c119 c120 c121 c122 c123 c124 c125 c126 c127 c128 c129 c130 c131 c132 c133 c134 c135 c136 c137 c138 c139 c140 c141 c142 c143 c144 c145 c146 c147 c148 c149 c150 c151 c152 c153 c154 c155 c156 c157 c158 c159 c160 c161 c162 c163 c164 c165 c166 c167 c168 c169 c170 c171 c172 c173 c174 c175 c176 c177 c178 c179 c180 c181 c182 c183 c184 c185 c186 c187 c188 c189 c190 c191 c192 c193 c194 c195 c196 c197 c198 c199 c200 c201 c202 c203 c204 c205 c206 c207 c208 c209 c210 c211 c212 c213 c214 c215 c216 c217 c218 c219 c220 c221 c222 c223 c224 c225 c226 c227 c228 c229 c230 c231 c232 c233 c234 c235 c236 c237 c238 c239 c240 c241 c242 c243 c244 c245 c246 c247 c248 c249 c250 c251 c252 c253 c254 c255 c256 c257 c258 c259 c260 c261 c262 c263 c264 c265 c266 c267 c268 c269 c270 c271 c272 c273 c274 c275 c276 c277 c278 c279 c280 c281 c282 c283 c284 c285 c286 c287 : Value) (hx : W.heap[b1]? = some (.cells #[.int .i64 16, .int .i64 2, .int .i64 2] 25 (0, 0))) (hB : B ≤ W.heap.size) (hQ : SaneB B W Q) (K : Act → World → Prop) (hK : ∀ a w, Code.wp Try.prog (codeR (saneAt 9)) Q a w → K a w) :
    Code.wp Try.prog (codeL (saneAt 9)) (Exit.then K Q) ⟨#[c0, .pointer (some ⟨b1, 0, none⟩), c2, c3, c4, c5, c6, c7, c8, c9, c10, c11, c12, c13, c14, c15, c16, c17, c18, c19, c20, c21, c22, c23, c24, c25, c26, c27, c28, c29, c30, c31, c32, c33, c34, c35, c36, c37, c38, c39, c40, c41, c42, c43, c44, c45, c46, c47, c48, c49, c50, c51, c52, c53, c54, c55, c56, c57, c58, c59, c60, c61, c62, c63, c64, c65, c66, c67, c68, c69, c70, c71, c72, c73, c74, c75, c76, c77, c78, c79, c80, c81, c82, c83, c84, c85, c86, c87, c88, c89, c90, c91, c92, c93, c94, c95, c96, c97, c98, c99, c100, c101, c102, c103, c104, c105, c106, c107, c108, c109, c110, c111, c112, c113, c114, c115, c116, c117, c118, c119, c120, c121, c122, c123, c124, c125, c126, c127, c128, c129, c130, c131, c132, c133, c134, c135, c136, c137, c138, c139, c140, c141, c142, c143, c144, c145, c146, c147, c148, c149, c150, c151, c152, c153, c154, c155, c156, c157, c158, c159, c160, c161, c162, c163, c164, c165, c166, c167, c168, c169, c170, c171, c172, c173, c174, c175, c176, c177, c178, c179, c180, c181, c182, c183, c184, c185, c186, c187, c188, c189, c190, c191, c192, c193, c194, c195, c196, c197, c198, c199, c200, c201, c202, c203, c204, c205, c206, c207, c208, c209, c210, c211, c212, c213, c214, c215, c216, c217, c218, c219, c220, c221, c222, c223, c224, c225, c226, c227, c228, c229, c230, c231, c232, c233, c234, c235, c236, c237, c238, c239, c240, c241, c242, c243, c244, c245, c246, c247, c248, c249, c250, c251, c252, c253, c254, c255, c256, c257, c258, c259, c260, c261, c262, c263, c264, c265, c266, c267, c268, c269, c270, c271, c272, c273, c274, c275, c276, c277, c278, c279, c280, c281, c282, c283, c284, c285, c286, c287], []⟩ W := by
  have HX := Lib.hid hx
  have HQ := Lib.hid hQ
  clear hx hQ
  conv => arg 2; whnf
  conv at hK => enter [a, w, 1]; arg 2; whnf
  go_wp2_with fail
  refine (np_s W).mono ?_
  rintro e W1 ⟨gp, rfl, hp, hb⟩
  obtain ⟨V1, hV⟩ : ∃ V, W1.alloc (.cells #[.int .i64 2, .int .i64 0, .int .i64 1, .slice (some ⟨gp, 0, none⟩) 4 4, .int .u32 0, .slice none 0 0] 52) = V := ⟨_, rfl⟩
  have hbv : Below W.heap.size W V1 := by rw [← hV]; exact bvia hb (balloc _ _) (Nat.le_refl _)
  have hbx : V1.heap[W1.heap.size]? = some (.cells #[.int .i64 2, .int .i64 0, .int .i64 1, .slice (some ⟨gp, 0, none⟩) 4 4, .int .u32 0, .slice none 0 0] 52 (0, 0)) := by rw [← hV]; exact heap_alloc_new _ _
  have HP1 := Lib.hid (hp.below (show Below W1.heap.size W1 V1 by rw [← hV]; exact balloc _ _))
  have hs1 : W.heap.size ≤ W1.heap.size := hb.size
  obtain ⟨y0, y1, y2, y3, y4, y5, _⟩ := box6 hbx
  have HBX := Lib.hid hbx
  have HB1 := Lib.hid hbv
  have HV1 := Lib.hid hV
  clear hp hb hbv hbx hV y0 y1 y2 y3 y4 y5
  go_wp2_with fail
  rw [HV1.out]
  refine (Train_ok 2 0 1 (some ⟨gp, 0, none⟩) none 4 0 [1, 1, 1, 1] [] 0 0 true V1 HP1.out (predQ _ (by decide)) ⟨by omega, by omega⟩ ⟨by omega, by omega⟩).mono ?_
  rintro e W2 ⟨u, rfl, hpi, hb⟩
  have hres : trainCs [1, 1, 1, 1] 0 0 true = [2, 1, 1, 1] := by kernel_rfl
  rw [hres] at hpi
  clear hres
  have hres : trainH 0 0 true = 0 := by kernel_rfl
  rw [hres] at hpi
  clear hres
  obtain ⟨g2, k2, R2, r2, rfl, hrd⟩ := hpi.rd
  obtain ⟨V2, hV2⟩ : ∃ V, W2.alloc (.cells #[.int .i64 2, .int .i64 0, .int .i64 1, .slice (some ⟨g2, 0, none⟩) 4 k2, .int .u32 0, .slice R2 0 r2] 52) = V := ⟨_, rfl⟩
  have hb2 : Below W2.heap.size W2 V2 := by rw [← hV2]; exact balloc _ _
  have hbv2 := bvia hb hb2 (Nat.le_refl _)
  have hbx2 : V2.heap[W2.heap.size]? = some (.cells #[.int .i64 2, .int .i64 0, .int .i64 1, .slice (some ⟨g2, 0, none⟩) 4 k2, .int .u32 0, .slice R2 0 r2] 52 (0, 0)) := by rw [← hV2]; exact heap_alloc_new _ _
  have HP2 := Lib.hid (hrd V2 (by rw [← hV2]; exact Upd.alloc _ _ _))
  have HBV2 := Lib.hid hbv2
  have HBQ2 := Lib.hid hbx2
  have HB2 := Lib.hid (bvia HB1.out hbv2 (Nat.le_refl _))
  have hs2 : V1.heap.size ≤ W2.heap.size := hb.size
  have hs12 : W1.heap.size < V1.heap.size := (Array.getElem?_eq_some_iff.1 HBX.out).1
  have HV2 := Lib.hid hV2
  clear hpi hb hrd hb2 hbv2 hbx2 hV2
  go_wp2_with fail
  rw [HV2.out]
  refine (Train_ok 2 0 1 (some ⟨g2, 0, none⟩) R2 k2 r2 [2, 1, 1, 1] [] 0 0 true V2 HP2.out predQ2 ⟨by omega, by omega⟩ ⟨by omega, by omega⟩).mono ?_
  rintro e W3 ⟨u, rfl, hpi, hb⟩
  have hres : trainCs [2, 1, 1, 1] 0 0 true = [3, 1, 1, 1] := by kernel_rfl
  rw [hres] at hpi
  clear hres
  have hres : trainH 0 0 true = 0 := by kernel_rfl
  rw [hres] at hpi
  clear hres
  obtain ⟨g3, k3, R3, r3, rfl, hrd⟩ := hpi.rd
  obtain ⟨V3, hV3⟩ : ∃ V, (((((W3.setCell ⟨W2.heap.size, 0, none⟩ (.int .i64 2)).setCell ⟨W2.heap.size, 1, none⟩ (.int .i64 0)).setCell ⟨W2.heap.size, 2, none⟩ (.int .i64 1)).setCell ⟨W2.heap.size, 3, none⟩ (.slice (some ⟨g3, 0, none⟩) 4 k3)).setCell ⟨W2.heap.size, 4, none⟩ (.int .u32 0)).setCell ⟨W2.heap.size, 5, none⟩ (.slice R3 0 r3) = V := ⟨_, rfl⟩
  have hbox := belowBox hb HBQ2.out
  have hq2 := (Array.getElem?_eq_some_iff.1 HBQ2.out).1
  have hu : Upd (fun k => k = W2.heap.size) W3 V3 := by
    rw [← hV3]
    (repeat refine Upd.set ?_ (by rfl) _ _)
    exact Upd.refl _ _
  have hbox2 : V3.heap[W2.heap.size]? = some (.cells #[.int .i64 2, .int .i64 0, .int .i64 1, .slice (some ⟨g3, 0, none⟩) 4 k3, .int .u32 0, .slice R3 0 r3] 52 (0, 0)) := by rw [← hV3]; exact set6_heap hbox _ _ _ _ _ _
  obtain ⟨x0, x1, x2, x3, x4, x5, xd⟩ := box6 hbox
  have HP3 := Lib.hid (hrd V3 (hu.mono (G := fun k => k < V2.heap.size) fun k (h : k = W2.heap.size) => by omega))
  have hs3 := HB2.out.size
  have hb13 : Below W2.heap.size V2 V3 := (hb.mono (by omega)).trans (hu.below (by have := hb.size; omega) fun k (h : k = W2.heap.size) => by omega)
  have hb113 : Below V1.heap.size V1 V3 := HBV2.out.trans (hb13.mono hs2)
  have HBP3 := Lib.hid (belowBox hb113 HBX.out)
  have HPP3 := Lib.hid (HP1.out.below hb113)
  have hbw3 := bvia HB1.out hb113 (Nat.le_refl _)
  have HX3 := Lib.hid (belowBox hbw3 HX.out)
  have HB3 := Lib.hid hbw3
  have hs4 : V1.heap.size ≤ V3.heap.size := hb113.size
  have hb1l := (Array.getElem?_eq_some_iff.1 HX.out).1
  have HV3 := Lib.hid hV3
  obtain ⟨y0, y1, y2, y3, y4, y5, _⟩ := box6 hbox2
  clear hpi hb hrd hbox hbox2 hu hb13 hb113 hbw3 hV3 HB1 HBX HP1 HBQ2 HP2 HB2 HBV2 HX
  go_wp2_with fail
  rw [HV3.out]
  clear x0 x1 x2 x3 x4 x5 xd
  refine (Predict_any 2 0 1 (some ⟨g3, 0, none⟩) k3 [3, 1, 1, 1] 0 R3 [] r3 0 V3 HP3.out.cnt ⟨by omega, by omega⟩ ⟨by omega, by omega⟩).mono ?_
  rintro e V4 ⟨rfl, hb4⟩
  have hres : predictB 2 0 1 [3, 1, 1, 1] 0 [] 0 = true := by kernel_rfl
  rw [hres]
  clear hres
  replace y0 := bkeep hb4 y0
  replace y1 := bkeep hb4 y1
  replace y2 := bkeep hb4 y2
  replace y3 := bkeep hb4 y3
  replace y4 := bkeep hb4 y4
  replace y5 := bkeep hb4 y5
  go_wp2_with fail
  refine (Predict_any 2 0 1 (some ⟨g3, 0, none⟩) k3 [3, 1, 1, 1] 0 R3 [] r3 4 V4 (HP3.out.below hb4).cnt ⟨by omega, by omega⟩ ⟨by omega, by omega⟩).mono ?_
  rintro e V5 ⟨rfl, hb5⟩
  have hres : predictB 2 0 1 [3, 1, 1, 1] 0 [] 4 = false := by kernel_rfl
  rw [hres]
  clear hres
  replace y0 := bkeep hb5 y0
  replace y1 := bkeep hb5 y1
  replace y2 := bkeep hb5 y2
  replace y3 := bkeep hb5 y3
  replace y4 := bkeep hb5 y4
  replace y5 := bkeep hb5 y5
  have hb45 := bvia hb4 hb5 (Nat.le_refl _)
  go_wp2_with fail
  refine (checkPred_any 2 0 1 (some ⟨g3, 0, none⟩) k3 [3, 1, 1, 1] 0 R3 [] r3 V5 (HP3.out.below hb45).cnt ⟨by omega, by omega⟩).mono ?_
  rintro e V6 ⟨rfl, hb6⟩
  rw [if_pos predQ3]
  have hb36 := bvia hb45 hb6 (Nat.le_refl _)
  have HX6 := Lib.hid (belowBox hb36 HX3.out)
  have HBP6 := Lib.hid (belowBox hb36 HBP3.out)
  have HPP6 := Lib.hid (HPP3.out.below hb36)
  have HB6 := Lib.hid (bvia HB3.out hb36 (Nat.le_refl _))
  have hs6 := HB6.out.size
  clear hb4 hb5 hb6 hb45 hb36 y0 y1 y2 y3 y4 y5
  go_upto_region 24 with fail
  exact san_d B b1 W1.heap.size gp 4 V6 Q _ _ _ _ _ _ _ _ _ _ _ _ _ _ _ _ _ _ _ _ _ _ _ _ _ _ _ _ _ _ _ _ _ _ _ _ _ _ _ _ _ _ _ _ _ _ _ _ _ _ _ _ _ _ _ _ _ _ _ _ _ _ _ _ _ _ _ _ _ _ _ _ _ _ _ _ _ _ _ _ _ _ _ _ _ _ _ _ _ _ _ _ _ _ _ _ _ _ _ _ _ _ _ _ _ _ _ _ _ _ _ _ _ _ _ _ _ _ _ _ _ _ _ _ _ _ _ _ _ _ _ _ _ _ _ _ _ _ _ _ _ _ _ _ _ _ _ _ _ _ _ _ _ _ _ _ _ _ _ _ _ _ _ _ _ _ _ _ _ _ _ _ _ _ _ _ _ _ _ _ _ _ _ _ _ _ _ _ _ _ _ _ _ _ _ _ _ _ _ _ _ _ _ _ _ _ _ _ _ _ _ _ _ _ _ _ _ _ _ _ _ _ _ _ _ _ _ _ _ _ _ _ _ _ _ _ _ _ _ _ _ _ _ _ _ _ _ _ _ _ _ _ _ _ _ _ _ _ _ _ _ _ _ _ _ _ _ _ _ _ _ _ _ _ _ _ _ _ _ _ _ _ _ _ _ _  HX6.out HBP6.out (by omega) HPP6.out ⟨by omega, by omega⟩ (HQ.out.step (HB6.out.mono hB)) _ (by assumption)
end Go.Proofs.Ytdkacdfhapgboaa

/- package slices: Equal at []uint32 and []bool. -/
namespace Go.Proofs.Ytdkacdfhapgboaa
open Go.RowKit

set_option maxHeartbeats 400000 in
theorem equal_u32 (A A' : Option Addr) (n c n' c' : Nat) (xs ys : List Int) (w : World) (h : RdI w .u32 A n xs) (h' : RdI w .u32 A' n' ys) :
    Calls Try.prog 17 #[.slice A n c, .slice A' n' c'] w fun e w' => e = .returned (.bool (decide (xs = ys))) ∧ Below w.heap.size w w' := by
  have hle := h.le
  have hlx := h.length
  have hly := h'.length
  by_cases hn : n = n'
  · subst hn
    have H := Lib.hid h
    have H' := Lib.hid h'
    have HX := Lib.hid hlx
    have HY := Lib.hid hly
    clear h h' hlx hly
    go_enter Try.func17, Try.ntmps17
    go_wp2
    go_loopw [13] (fun i wr => ∃ k q : Nat, k ≤ n ∧ i = .int .i64 k ∧ wr = w.drewN q ∧ Hid (∀ j, j < k → gi xs j = gi ys j)) (fun i _ => n - (intOf i).toNat)
    case atStart => exact ⟨0, 0, Nat.zero_le _, rfl, rfl, Lib.hid (fun j hj => absurd hj (Nat.not_lt_zero _))⟩
    case round =>
      obtain ⟨k, q, hk, rfl, rfl, hne⟩ := hrel
      by_cases hlt : k < n
      · obtain ⟨ad, rfl, hc⟩ := RdI.at H.out k hlt
        obtain ⟨ad', rfl, hc'⟩ := RdI.at H'.out k hlt
        have b1 : (0 : Int) ≤ (k : Int) := by omega
        have b2 : (k : Int) < (n : Int) := by omega
        cases hx : (gi xs k != gi ys k)
        · go_wp2
          go_quiet (fail)
          go_wp2
          go_roundw
          case rel => exact ⟨k + 1, _, by omega, by go_num, rfl, fun j hj => by rcases Nat.lt_succ_iff_lt_or_eq.1 hj with h | rfl; exact hne.out j h; simpa using hx⟩
          case measure => simp [intOf]; omega
        · go_wp2
          go_quiet (fail)
          go_wp2
          go_ret
          refine ⟨?_, bdrewN (bdrewN (Below.refl _ _) _) _⟩
          rw [decide_eq_false (fun e => by simp [e] at hx)]
          rfl
      · go_wp2
        go_ret
        refine ⟨?_, bdrewN (Below.refl _ _) _⟩
        rw [decide_eq_true (gi_ext (by rw [HX.out, HY.out]) fun j hj => hne.out j (by have := HX.out; omega))]
        rfl
  · have hb : ((n : Int) != (n' : Int)) = true := by simp; omega
    go_enter Try.func17, Try.ntmps17
    go_wp2
    go_ret
    refine ⟨?_, Below.refl _ _⟩
    rw [decide_eq_false (fun e => hn (by rw [← hlx, ← hly, e]))]
    rfl

set_option maxHeartbeats 400000 in
theorem equal_bool (A A' : Option Addr) (n c n' c' : Nat) (xs ys : List Bool) (w : World) (h : RdB w A n xs) (h' : RdB w A' n' ys) :
    Calls Try.prog 20 #[.slice A n c, .slice A' n' c'] w fun e w' => e = .returned (.bool (decide (xs = ys))) ∧ Below w.heap.size w w' := by
  have hle := h.le
  have hlx := h.length
  have hly := h'.length
  by_cases hn : n = n'
  · subst hn
    have H := Lib.hid h
    have H' := Lib.hid h'
    have HX := Lib.hid hlx
    have HY := Lib.hid hly
    clear h h' hlx hly
    go_enter Try.func20, Try.ntmps20
    go_wp2
    go_loopw [13] (fun i wr => ∃ k q : Nat, k ≤ n ∧ i = .int .i64 k ∧ wr = w.drewN q ∧ Hid (∀ j, j < k → gb xs j = gb ys j)) (fun i _ => n - (intOf i).toNat)
    case atStart => exact ⟨0, 0, Nat.zero_le _, rfl, rfl, Lib.hid (fun j hj => absurd hj (Nat.not_lt_zero _))⟩
    case round =>
      obtain ⟨k, q, hk, rfl, rfl, hne⟩ := hrel
      by_cases hlt : k < n
      · obtain ⟨ad, rfl, hc⟩ := RdB.at H.out k hlt
        obtain ⟨ad', rfl, hc'⟩ := RdB.at H'.out k hlt
        have b1 : (0 : Int) ≤ (k : Int) := by omega
        have b2 : (k : Int) < (n : Int) := by omega
        cases hx : !(gb xs k == gb ys k)
        · go_wp2
          go_quiet (fail)
          go_wp2
          go_roundw
          case rel => exact ⟨k + 1, _, by omega, by go_num, rfl, fun j hj => by rcases Nat.lt_succ_iff_lt_or_eq.1 hj with h | rfl; exact hne.out j h; simpa using hx⟩
          case measure => simp [intOf]; omega
        · go_wp2
          go_quiet (fail)
          go_wp2
          go_ret
          refine ⟨?_, bdrewN (bdrewN (Below.refl _ _) _) _⟩
          rw [decide_eq_false (fun e => by simp [e] at hx)]
          rfl
      · go_wp2
        go_ret
        refine ⟨?_, bdrewN (Below.refl _ _) _⟩
        rw [decide_eq_true (gb_ext (by rw [HX.out, HY.out]) fun j hj => hne.out j (by have := HX.out; omega))]
        rfl
  · have hb : ((n : Int) != (n' : Int)) = true := by simp; omega
    go_enter Try.func20, Try.ntmps20
    go_wp2
    go_ret
    refine ⟨?_, Below.refl _ _⟩
    rw [decide_eq_false (fun e => hn (by rw [← hlx, ← hly, e]))]
    rfl
end Go.Proofs.Ytdkacdfhapgboaa

/- sane: an access, a replay. (printed by gen/san.py) -/
set_option linter.unusedVariables false
set_option linter.unusedSimpArgs false
namespace Go.Proofs.Ytdkacdfhapgboaa
open Go.RowKit

theorem add_off (g j : Nat) : (⟨g, 0, none⟩ : Addr).add j = ⟨g, j, none⟩ := by unfold Addr.add; split <;> simp_all
theorem rdI_box {w : World} {b : Nat} {k : IntKind} {xs : List Int} {t : TypeId} (h : w.heap[b]? = some (.cells (nums k xs).toArray t (0, 0))) (hl : xs.length ≤ 1000) : RdI w k (some ⟨b, 0, none⟩) xs.length xs :=
  ⟨by simp, by omega, fun j hj => ⟨_, rfl, by
    rw [add_off]
    refine boxAt h ?_
    rw [List.getElem?_toArray, List.getElem?_eq_getElem hj]⟩⟩
theorem rdB_box {w : World} {b : Nat} {xs : List Bool} {t : TypeId} (h : w.heap[b]? = some (.cells (bools xs).toArray t (0, 0))) (hl : xs.length ≤ 1000) : RdB w (some ⟨b, 0, none⟩) xs.length xs :=
  ⟨by simp, by omega, fun j hj => ⟨_, rfl, by
    rw [add_off]
    refine boxAt h ?_
    rw [List.getElem?_toArray, List.getElem?_eq_getElem hj]⟩⟩
theorem cacheB : cacheOk 16 2 2 [[0, 2], []] := of_decide_eq_true (by kernel_rfl)

attribute [local irreducible] World.setCell World.setRow in
set_option maxRecDepth 1000000 in
set_option maxHeartbeats 8000000 in
theorem san_b (B b1 b2 gc cc : Nat) (vs : List Value) (W : World) (Q : Exit → Act → World → Prop) (c0 c3 c4 c5 c6 c7 c8 c9 c10 c11 c12 c13 c14 c15 c16 c17 c18 c19 c20 c21 c22 c23 c24 c25 c26 c27 c28 c29 c30 c31 c32 c33 c34 c35 c36 c37 c38 c39 c40 c41 c42 c43 c44 c45 c46 c47 c48 c49 c50 c51 c52 c53 c54 c55 c56 c57 c58 c59 c60 c61 c62 c63 c64 c65 c66 c67 c68 c69 c70 c71 c72 c73 c74 c75 c76 c77 c78 c79 c80 c81 c82 c83 c84 c85 c86 c87 c88 c89 c90 c91 c92 c93 c94 c95 c96 c97 c98 c99 c100 c101 c102 c103 c104 c105 c106 c107 c108 c109 c110 c111 c112 c113 c114 c115 c116 c117 c118 c119 c120 c121 c122 c123 c124 c125 c126 c127 c128 c129 c130 c131 c132 c133 c134 c135 c136 c137 c138 c139 c140 c141 c142 c143 c144 c145 c146 c147 c148 c149 c150 c151 c152 c153 c154 c155 c156 c157 c158 c159 c160 c161 c162 c163 c164 c165 c166 c167 c168 c169 c170 c171 c172 c173 c174 c175 c176 c177 c178 c179 c180 c181 c182 c183 c184 c185 c186 c187 c188 c189 c190 c191 c192 c193 c194 c195 c196 c197 c198 c199 c200 c201 c202 c203 c204 c205 c206 c207 c208 c209 c210 c211 c212 c213 c214 c215 c216 c217 c218 c219 c220 c221 c222 c223 c224 c225 c226 c227 c228 c229 c230 c231 c232 c233 c234 c235 c236 c237 c238 c239 c240 c241 c242 c243 c244 c245 c246 c247 c248 c249 c250 c251 c252 c253 c254 c255 c256 c257 c258 c259 c260 c261 c262 c263 c264 c265 c266 c267 c268 c269 c270 c271 c272 c273 c274 c275 c276 c277 c278 c279 c280 c281 c282 c283 c284 c285 c286 c287 : Value) (hx : W.heap[b1]? = some (.cells #[.int .i64 16, .int .i64 2, .int .i64 2] 25 (0, 0))) (hc : W.heap[b2]? = some (.cells #[.int .i64 16, .int .i64 2, .int .i64 2, .slice (some ⟨gc, 0, none⟩) 2 cc] 36 (0, 0))) (hr : RdSets W (some ⟨gc, 0, none⟩) vs [[0, 2], []]) (hB : B ≤ W.heap.size) (hQ : SaneB B W Q) (K : Act → World → Prop) (hK : ∀ a w, Code.wp Try.prog (codeR (saneAt 6)) Q a w → K a w) :
    Code.wp Try.prog (codeL (saneAt 6)) (Exit.then K Q) ⟨#[c0, .pointer (some ⟨b1, 0, none⟩), .pointer (some ⟨b2, 0, none⟩), c3, c4, c5, c6, c7, c8, c9, c10, c11, c12, c13, c14, c15, c16, c17, c18, c19, c20, c21, c22, c23, c24, c25, c26, c27, c28, c29, c30, c31, c32, c33, c34, c35, c36, c37, c38, c39, c40, c41, c42, c43, c44, c45, c46, c47, c48, c49, c50, c51, c52, c53, c54, c55, c56, c57, c58, c59, c60, c61, c62, c63, c64, c65, c66, c67, c68, c69, c70, c71, c72, c73, c74, c75, c76, c77, c78, c79, c80, c81, c82, c83, c84, c85, c86, c87, c88, c89, c90, c91, c92, c93, c94, c95, c96, c97, c98, c99, c100, c101, c102, c103, c104, c105, c106, c107, c108, c109, c110, c111, c112, c113, c114, c115, c116, c117, c118, c119, c120, c121, c122, c123, c124, c125, c126, c127, c128, c129, c130, c131, c132, c133, c134, c135, c136, c137, c138, c139, c140, c141, c142, c143, c144, c145, c146, c147, c148, c149, c150, c151, c152, c153, c154, c155, c156, c157, c158, c159, c160, c161, c162, c163, c164, c165, c166, c167, c168, c169, c170, c171, c172, c173, c174, c175, c176, c177, c178, c179, c180, c181, c182, c183, c184, c185, c186, c187, c188, c189, c190, c191, c192, c193, c194, c195, c196, c197, c198, c199, c200, c201, c202, c203, c204, c205, c206, c207, c208, c209, c210, c211, c212, c213, c214, c215, c216, c217, c218, c219, c220, c221, c222, c223, c224, c225, c226, c227, c228, c229, c230, c231, c232, c233, c234, c235, c236, c237, c238, c239, c240, c241, c242, c243, c244, c245, c246, c247, c248, c249, c250, c251, c252, c253, c254, c255, c256, c257, c258, c259, c260, c261, c262, c263, c264, c265, c266, c267, c268, c269, c270, c271, c272, c273, c274, c275, c276, c277, c278, c279, c280, c281, c282, c283, c284, c285, c286, c287], []⟩ W := by
  have HX := Lib.hid hx
  have HQ := Lib.hid hQ
  have HR := Lib.hid hr
  have y0 := boxAt (i := 0) hc rfl
  have y1 := boxAt (i := 1) hc rfl
  have y2 := boxAt (i := 2) hc rfl
  have y3 := boxAt (i := 3) hc rfl
  clear hx hQ hr hc
  conv => arg 2; whnf
  conv at hK => enter [a, w, 1]; arg 2; whnf
  go_wp2_with fail
  refine (Access_ok 16 2 (some ⟨gc, 0, none⟩) cc vs [[0, 2], []] 12 20 W HR.out cacheB (by simp) ⟨by omega, by omega⟩ ⟨by omega, by omega⟩ (by omega) (by omega)).mono ?_
  rintro e W1 ⟨g1, c1, vs1, vo, rfl, _, hm, hb⟩
  have hres : (runL (([[0, 2], []] : List (List Int)).length : Int) 2 [[0, 2], []] (linI 16 12 20)).2 = [1] := by kernel_rfl
  rw [vals_linesL, hres] at hm
  clear hres
  obtain ⟨Am, cm, rfl, hrm⟩ := own_rd hm
  obtain ⟨V1, hV1⟩ : ∃ V, W1.alloc (.cells #[.int .i64 16, .int .i64 2, .int .i64 2, .slice (some ⟨g1, 0, none⟩) 2 c1] 36) = V := ⟨_, rfl⟩
  have hb1 : Below W.heap.size W V1 := by rw [← hV1]; exact bvia hb (balloc _ _) (Nat.le_refl _)
  have HM := Lib.hid (Rd.below hrm (show Below W1.heap.size W1 V1 by rw [← hV1]; exact balloc _ _))
  obtain ⟨V2, hV2⟩ : ∃ V, V1.alloc (.cells #[.int .u32 0, .int .u32 16, .int .u32 32, .int .u32 0] 30) = V := ⟨_, rfl⟩
  have hb12 : Below V1.heap.size V1 V2 := by rw [← hV2]; exact balloc _ _
  have HL := Lib.hid (rdI_box (k := .u32) (xs := [0, 16, 32, 0]) (show V2.heap[V1.heap.size]? = _ by rw [← hV2]; exact heap_alloc_new _ _) (by decide))
  have hx1 := belowBox hb1 HX.out
  have x0 := boxAt (i := 0) hx1 rfl
  have x1 := boxAt (i := 1) hx1 rfl
  have x2 := boxAt (i := 2) hx1 rfl
  have HB2 := Lib.hid (bvia hb1 hb12 (Nat.le_refl _))
  have HB12 := Lib.hid hb12
  clear hm hrm hb hb1 hb12 hx1
  go_wp2_with fail
  refine (replay_ok 16 2 2 (some ⟨V1.heap.size, 0, none⟩) 4 [0, 16, 32, 0] V2 (by kernel_rfl) HL.out (by decide) (by simp)).mono ?_
  rintro e W3 ⟨v, rfl, hl, hb3⟩
  have hres : (replayL 16 ((2 : Nat) : Int) 2 (List.replicate 2 []) [0, 16, 32, 0]).2 = [false, false, false, true] := by kernel_rfl
  rw [hres] at hl
  clear hres
  obtain ⟨Al, cl, rfl, hrl⟩ := own_rd hl
  obtain ⟨V3, hV3⟩ : ∃ V, W3.alloc (.cells #[.int .u32 1] 30) = V := ⟨_, rfl⟩
  have hb33 : Below W3.heap.size W3 V3 := by rw [← hV3]; exact balloc _ _
  have hb13 : Below V1.heap.size V1 V3 := HB12.out.trans ((hb3.mono HB12.out.size).trans (hb33.mono (by have := hb3.size; have := HB12.out.size; omega)))
  have HM3 := Lib.hid (Rd.below HM.out hb13)
  have HL3 := Lib.hid (Rd.below hrl hb33)
  have H1 := Lib.hid (rdI_box (k := .u32) (xs := [1]) (show V3.heap[W3.heap.size]? = _ by rw [← hV3]; exact heap_alloc_new _ _) (by decide))
  have HB3 := Lib.hid (bvia HB2.out (bvia hb3 hb33 (Nat.le_refl _)) (Nat.le_refl _))
  clear hl hrl hb3 hb33 hb13 HM x0 x1 x2 y0 y1 y2 y3
  go_wp2_with fail
  refine (equal_u32 Am (some ⟨W3.heap.size, 0, none⟩) 1 cm 1 1 [1] [1] V3 HM3.out H1.out).mono ?_
  rintro e W4 ⟨rfl, hb4⟩
  rw [show decide (([1] : List Int) = [1]) = true from rfl]
  obtain ⟨V4, hV4⟩ : ∃ V, W4.alloc (.cells #[.bool false, .bool false, .bool false, .bool true] 4) = V := ⟨_, rfl⟩
  have hb44 : Below V3.heap.size V3 V4 := by rw [← hV4]; exact bvia hb4 (balloc _ _) (Nat.le_refl _)
  have HL4 := Lib.hid (Rd.below HL3.out hb44)
  have H4 := Lib.hid (rdB_box (xs := [false, false, false, true]) (show V4.heap[W4.heap.size]? = _ by rw [← hV4]; exact heap_alloc_new _ _) (by decide))
  have HB4 := Lib.hid (bvia HB3.out hb44 (Nat.le_refl _))
  clear hb4 hb44
  go_wp2_with fail
  refine (equal_bool Al (some ⟨W4.heap.size, 0, none⟩) 4 cl 4 4 [false, false, false, true] [false, false, false, true] V4 HL4.out H4.out).mono ?_
  rintro e W5 ⟨rfl, hb5⟩
  rw [show decide (([false, false, false, true] : List Bool) = [false, false, false, true]) = true from rfl]
  have hbw := bvia HB4.out hb5 (Nat.le_refl _)
  have HX5 := Lib.hid (belowBox hbw HX.out)
  have HQ5 := Lib.hid (HQ.out.step (hbw.mono hB))
  have hs5 := hbw.size
  clear hb5 hbw
  go_upto_region 19 with fail
  exact san_c B b1 W5 Q _ _ _ _ _ _ _ _ _ _ _ _ _ _ _ _ _ _ _ _ _ _ _ _ _ _ _ _ _ _ _ _ _ _ _ _ _ _ _ _ _ _ _ _ _ _ _ _ _ _ _ _ _ _ _ _ _ _ _ _ _ _ _ _ _ _ _ _ _ _ _ _ _ _ _ _ _ _ _ _ _ _ _ _ _ _ _ _ _ _ _ _ _ _ _ _ _ _ _ _ _ _ _ _ _ _ _ _ _ _ _ _ _ _ _ _ _ _ _ _ _ _ _ _ _ _ _ _ _ _ _ _ _ _ _ _ _ _ _ _ _ _ _ _ _ _ _ _ _ _ _ _ _ _ _ _ _ _ _ _ _ _ _ _ _ _ _ _ _ _ _ _ _ _ _ _ _ _ _ _ _ _ _ _ _ _ _ _ _ _ _ _ _ _ _ _ _ _ _ _ _ _ _ _ _ _ _ _ _ _ _ _ _ _ _ _ _ _ _ _ _ _ _ _ _ _ _ _ _ _ _ _ _ _ _ _ _ _ _ _ _ _ _ _ _ _ _ _ _ _ _ _ _ _ _ _ _ _ _ _ _ _ _ _ _ _ _ _ _ _ _ _ _ _ _ _ _ _ _ _ _ _ _ _ _ _ _  HX5.out (by omega) HQ5.out _ (by assumption)
end Go.Proofs.Ytdkacdfhapgboaa
