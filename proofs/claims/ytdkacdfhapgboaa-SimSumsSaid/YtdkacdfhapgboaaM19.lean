/- Part 19 of the texts that the proof stands on: Sums. -/
import Derived.Test.YtdkacdfhapgboaaM18

/- SimSums hands back true. (printed by gen/sums.py) -/
set_option linter.unusedVariables false
set_option linter.unusedSimpArgs false
namespace Go.Proofs.Ytdkacdfhapgboaa
open Go.RowKit

theorem sumConf (a b c : Int) (ha : 0 ≤ a ∧ a < 256) (hb : 0 ≤ b ∧ b < 256) (hc : 0 ≤ c ∧ c < 256) : simShapeB ⟨lineOf a, (setsOf b : Int), waysOf c, lineOf a, (setsOf b : Int), waysOf c, lineOf a, (setsOf b : Int), waysOf c, ((3 : Nat) : Int), 2, 4⟩ = true := by
  have h1 := shape_of a b c
  have h2 : predShapeB ((3 : Nat) : Int) 2 4 = true := by decide
  unfold simShapeB
  dsimp only
  rw [h1, h2]
  simp
theorem rd_rdE {w : World} {A : Option Addr} {es : List (List Int)} (h : Rd w A es.length 6 (es.flatMap evCells)) : RdE w A es := by
  refine ⟨h.le, fun k hk j hj => ?_⟩
  have hlt : k * 6 + j < (es.flatMap evCells).length := by rw [flat_len evCells_len]; omega
  obtain ⟨ad, e, hc⟩ := h.cell (k * 6 + j) hlt
  refine ⟨ad, e, ?_⟩
  rw [hc]
  have h2 := flat_at evCells_len es k j hk hj
  rw [List.getElem?_eq_getElem hlt] at h2
  rw [h2, gn_get es k hk]
  simp [evCells, hj]
theorem list13 (T : List Int) (h : T.length = 13) : ∃ t0 t1 t2 t3 t4 t5 t6 t7 t8 t9 t10 t11 t12, T = [t0, t1, t2, t3, t4, t5, t6, t7, t8, t9, t10, t11, t12] := by
  match T, h with
  | [t0, t1, t2, t3, t4, t5, t6, t7, t8, t9, t10, t11, t12], _ => exact ⟨_, _, _, _, _, _, _, _, _, _, _, _, _, rfl⟩
theorem prd_new {w : World} {B g : Nat} (h : w.ownsRow B 3 1 (.slice (some ⟨g, 0, none⟩) 8 8) 8 (List.replicate 8 (.int .i64 1))) : RdP w (some ⟨g, 0, none⟩) 8 [1, 1, 1, 1, 1, 1, 1, 1] none 0 [] := by
  obtain ⟨A, c, e, hr⟩ := own_rd h
  cases e
  exact ⟨hr, (fun h => by cases h), by decide, ⟨by simp, by simp, fun j hj => absurd hj (by simp [nums])⟩, fun _ => rfl, by decide⟩
theorem keep_feed (K : GC) (s : GS) (es : List (List Int)) : s.feed K (es.filter keepB) = s.feed K es := GS.feed_filter K keepB es s fun e _ h => by
  unfold keepB at h
  simp at h
  exact h

theorem new_sum (line ways : Int) (sets : Nat) (w : World) (hs : simShapeB ⟨line, sets, ways, line, sets, ways, line, sets, ways, ((3 : Nat) : Int), 2, 4⟩ = true) :
    Calls Try.prog 31 #[.agg #[.int .i64 line, .int .i64 (sets : Int), .int .i64 ways, .int .i64 line, .int .i64 (sets : Int), .int .i64 ways, .int .i64 line, .int .i64 (sets : Int), .int .i64 ways, .int .i64 3, .int .i64 2, .int .i64 4]] w fun e w' => ∃ qi qd ql qp, e = .returned (.tuple #[.agg #[.int .i64 line, .int .i64 (sets : Int), .int .i64 ways, .int .i64 line, .int .i64 (sets : Int), .int .i64 ways, .int .i64 line, .int .i64 (sets : Int), .int .i64 ways, .int .i64 3, .int .i64 2, .int .i64 4, .int .i64 line, .int .i64 (sets : Int), .int .i64 ways, .slice (some ⟨qi, 0, none⟩) sets sets, .int .i64 line, .int .i64 (sets : Int), .int .i64 ways, .slice (some ⟨qd, 0, none⟩) sets sets, .int .i64 line, .int .i64 (sets : Int), .int .i64 ways, .slice (some ⟨ql, 0, none⟩) sets sets, .int .i64 3, .int .i64 2, .int .i64 4, .slice (some ⟨qp, 0, none⟩) 8 8, .int .u32 0, .slice none 0 0, .slice none 0 0], .int .i64 0]) ∧
      OwnSets w' w.heap.size qi sets (List.replicate sets (.slice none 0 0)) (List.replicate sets []) ∧ OwnSets w' w.heap.size qd sets (List.replicate sets (.slice none 0 0)) (List.replicate sets []) ∧ OwnSets w' w.heap.size ql sets (List.replicate sets (.slice none 0 0)) (List.replicate sets []) ∧
      w'.ownsRow w.heap.size 3 1 (.slice (some ⟨qp, 0, none⟩) 8 8) 8 (List.replicate 8 (.int .i64 1)) ∧ Below w.heap.size w w' := New_ok line ways line ways line ways 2 4 sets sets sets 3 w hs

attribute [local irreducible] World.setCell World.setRow in
set_option maxRecDepth 1000000 in
set_option maxHeartbeats 8000000 in
theorem sums_any (a b c : Int) (AE : Option Addr) (ce : Nat) (es : List (List Int)) (w : World) (ha : 0 ≤ a ∧ a < 256) (hb : 0 ≤ b ∧ b < 256) (hc : 0 ≤ c ∧ c < 256) (he : RdE w AE es) (hev : ∀ k, k < es.length → EvU (gn es k)) :
    Calls Try.prog 11 #[.int .u8 a, .int .u8 b, .int .u8 c, .slice AE es.length ce] w fun e w' => e = .returned (.bool true) ∧ Below w.heap.size w w' := by
  have HE := Lib.hid he
  have HEV := Lib.hid hev
  have HCF := Lib.hid (sumConf a b c ha hb hc)
  have hle := he.le
  clear he hev
  by_cases hlong : 60 < es.length
  · go_enter Try.func11, Try.ntmps11
    go_wp2_with fail
    refine (sane_any _).mono ?_
    rintro e W1 ⟨rfl, hb1⟩
    have HB1 := Lib.hid hb1
    clear hb1
    go_wp2_with fail
    go_ret
    exact ⟨rfl, HB1.out⟩
  have hel : es.length ≤ 60 := by omega
  clear hlong
  go_enter Try.func11, Try.ntmps11
  go_wp2_with fail
  refine (shaped_any a b c ha hb hc w).mono ?_
  rintro e W1 ⟨rfl, hb1⟩
  obtain ⟨line, hline⟩ : ∃ x, lineOf a = x := ⟨_, rfl⟩
  obtain ⟨sets, hsets⟩ : ∃ x, setsOf b = x := ⟨_, rfl⟩
  obtain ⟨ways, hways⟩ : ∃ x, waysOf c = x := ⟨_, rfl⟩
  have hcf := HCF.out
  rw [hline, hsets, hways] at *
  obtain ⟨LI, hLI⟩ : ∃ LI : List (List Int), List.replicate sets [] = LI := ⟨_, rfl⟩
  obtain rfl : sets = LI.length := by rw [← hLI]; simp
  have HLI := Lib.hid hLI
  have HCF := Lib.hid hcf
  clear hline hsets hways hcf hLI
  obtain ⟨V1, hV1⟩ : ∃ V, W1.alloc (.cells #[.int .i64 line, .int .i64 (LI.length : Int), .int .i64 ways] 25) = V := ⟨_, rfl⟩
  have hbv : Below W1.heap.size W1 V1 := by rw [← hV1]; exact balloc _ _
  have hx1 : V1.heap[W1.heap.size]? = some (.cells #[.int .i64 line, .int .i64 (LI.length : Int), .int .i64 ways] 25 (0, 0)) := by rw [← hV1]; exact heap_alloc_new _ _
  have x0 := boxAt (i := 0) hx1 rfl
  have x1 := boxAt (i := 1) hx1 rfl
  have x2 := boxAt (i := 2) hx1 rfl
  have HB1 := Lib.hid (bvia hb1 hbv (Nat.le_refl _))
  clear hbv hx1 hb1
  go_wp2_with fail
  refine (new_sum line ways LI.length V1 HCF.out).mono ?_
  rintro e W2 ⟨qi, qd, ql, qp, rfl, hI, hD, hL, hC, hb2⟩
  have hau : AllU LI := by rw [← HLI.out]; exact allU_new _
  rw [HLI.out] at hI hD hL
  clear x0 x1 x2
  obtain ⟨W3, hW3⟩ : ∃ W3, (W2.alloc zeroS).setRow W2.heap.size #[.int .i64 line, .int .i64 (LI.length : Int), .int .i64 ways, .int .i64 line, .int .i64 (LI.length : Int), .int .i64 ways, .int .i64 line, .int .i64 (LI.length : Int), .int .i64 ways, .int .i64 3, .int .i64 2, .int .i64 4, .int .i64 line, .int .i64 (LI.length : Int), .int .i64 ways, .slice (some ⟨qi, 0, none⟩) LI.length LI.length, .int .i64 line, .int .i64 (LI.length : Int), .int .i64 ways, .slice (some ⟨qd, 0, none⟩) LI.length LI.length, .int .i64 line, .int .i64 (LI.length : Int), .int .i64 ways, .slice (some ⟨ql, 0, none⟩) LI.length LI.length, .int .i64 3, .int .i64 2, .int .i64 4, .slice (some ⟨qp, 0, none⟩) 8 8, .int .u32 0, .slice none 0 0, .slice none 0 0] = W3 := ⟨_, rfl⟩
  have hb23 : Below W2.heap.size W2 W3 := by rw [← hW3]; exact (balloc W2 zeroS).trans ((Upd.setRow _ _ _).below (by simp) fun k hk => by omega)
  have hx3 : W3.heap[W2.heap.size]? = some (.cells #[.int .i64 line, .int .i64 (LI.length : Int), .int .i64 ways, .int .i64 line, .int .i64 (LI.length : Int), .int .i64 ways, .int .i64 line, .int .i64 (LI.length : Int), .int .i64 ways, .int .i64 3, .int .i64 2, .int .i64 4, .int .i64 line, .int .i64 (LI.length : Int), .int .i64 ways, .slice (some ⟨qi, 0, none⟩) LI.length LI.length, .int .i64 line, .int .i64 (LI.length : Int), .int .i64 ways, .slice (some ⟨qd, 0, none⟩) LI.length LI.length, .int .i64 line, .int .i64 (LI.length : Int), .int .i64 ways, .slice (some ⟨ql, 0, none⟩) LI.length LI.length, .int .i64 3, .int .i64 2, .int .i64 4, .slice (some ⟨qp, 0, none⟩) 8 8, .int .u32 0, .slice none 0 0, .slice none 0 0] 67 (0, 0)) := by rw [← hW3]; exact setRow_heap (heap_alloc_new W2 zeroS) _
  have HW3 := Lib.hid hW3
  have HX3 := Lib.hid hx3
  have HB3 := Lib.hid (bvia HB1.out (bvia hb2 hb23 (Nat.le_refl _)) (Nat.le_refl _))
  have HI3 := Lib.hid (hI.rdSets hau |>.below hb23)
  have HD3 := Lib.hid (hD.rdSets hau |>.below hb23)
  have HL3 := Lib.hid (hL.rdSets hau |>.below hb23)
  have HC3 := Lib.hid (own_upd hC (Upd.of_below hb23) fun k hk e => by have := (hC.lt k hk).2; omega)
  clear hW3 hb23 hx3 hb2 hI hD hL hC
  have hzb : (W3.alloc zeroCnt).heap[W3.heap.size]? = some (.cells (nCells []) 79 (0, 0)) := by
    have hz : nCells [] = #[.int .u32 0, .int .i64 0, .int .i64 0, .int .i64 0, .int .i64 0, .int .i64 0, .int .i64 0, .int .i64 0, .int .i64 0, .int .i64 0, .int .i64 0, .int .i64 0, .int .i64 0, .int .i64 0] := by simp [nCells, evSum]
    rw [hz]
    exact heap_alloc_new W3 zeroCnt
  have HZB := Lib.hid hzb
  have hs3 : w.heap.size ≤ W3.heap.size := HB3.out.size
  have hs23 : W2.heap.size < W3.heap.size := (Array.getElem?_eq_some_iff.1 HX3.out).1
  have hup : ∀ W, Upd (fun b => b = W3.heap.size) (W3.alloc zeroCnt) W → Below W3.heap.size W3 W := fun W hu => (balloc W3 zeroCnt).trans (hu.below (by simp) fun k hk => by omega)
  have HUP := Lib.hid hup
  have HAU := Lib.hid hau
  clear hzb hup hau
  go_upto_block 0 with (refine wpList_store_row rfl 67 (.tmp 10) (.tmp 37) rfl W2.heap.size #[.int .i64 line, .int .i64 (LI.length : Int), .int .i64 ways, .int .i64 line, .int .i64 (LI.length : Int), .int .i64 ways, .int .i64 line, .int .i64 (LI.length : Int), .int .i64 ways, .int .i64 3, .int .i64 2, .int .i64 4, .int .i64 line, .int .i64 (LI.length : Int), .int .i64 ways, .slice (some ⟨qi, 0, none⟩) LI.length LI.length, .int .i64 line, .int .i64 (LI.length : Int), .int .i64 ways, .slice (some ⟨qd, 0, none⟩) LI.length LI.length, .int .i64 line, .int .i64 (LI.length : Int), .int .i64 ways, .slice (some ⟨ql, 0, none⟩) LI.length LI.length, .int .i64 3, .int .i64 2, .int .i64 4, .slice (some ⟨qp, 0, none⟩) 8 8, .int .u32 0, .slice none 0 0, .slice none 0 0] rfl rfl 67 _ (heap_alloc_new W2 zeroS) (by kernel_rfl) rfl (by simp [Value.oneCell']) ?_; rw [HW3.out])
  refine sums_loop W3.heap.size (W3.alloc zeroCnt) AE ce es _ _ _ _ _ _ _ _ _ _ _ _ _ _ _ _ _ _ _ _ _ _ _ _ _ _ _ _ _ _ _ _ _ _ _ _ _ _ _ _ _ _ _ _ _ _ _ _ _ _ _ _ _ _ _ _ _ _ _ _ _ _ _ _ _ _ _ _ _ _ _ _ _ _ _ _ _ _ _ _ _ _ _ _ _ _ _ _ _ _ _ _ _ _ _ _ _ _ _ _ _ _ _ _ _ _ _ _ _ _ _ _ _ _ _ _ _ _ _ _ _ _ _ _ _ _ _ _ _ _ _ _ _ _ _ _ _ _ _ _ _ _ _ _ _ _ _ _ _ _ _ _ _ _ _ _ _ _ _ _ _ _ _ _ _ _ _ _ _ _ _ _ _ _ _ _ _ _ _ _ _ _ _ _ _ _ _ _ _ _ _ _ _ _ _ _ _ _ _ _ _ _ _ _ _ _ _ _ _ _ _ _ _ _ _ _ _ _ _ _ _ _ _ _ _ _ _ _ _ _ _ _ _ _ _ _ _ _ _ _ _ _  (by simp) hel HZB.out (fun W hu => HE.out.below (bvia HB3.out (HUP.out W hu) (Nat.le_refl _))) HEV.out ?_ ?_
  rotate_left
  · intro v i u14 u15 u16 u44 u45 u46 u47 u48 u49 u50 u51 u52 u53 u54 u55 u56 u57 u58 u59 u60 u61 u62 u63 u64 u65 u66 u67 u68 u69 u70 u71 u72 u73 u74 u75 u76 u77 u78 u79 u80 u81 u82 u83 u84 u85 u86 u87 u88 u89 u90 u91 u92 u93 u94 u95 u96 u97 u98 u99 u100 u101 u102 u103 u104 u105 u106 u107 u108 u109 u110 u111 u112 u113 u114 u115 u116 u117 u118 u119 u120 u121 u122 u123 u124 u125 u126 u127 u128 u129 u130 u131 u132 u133 u134 u135 u136 u137 u138 u139 u140 u141 u142 u143 u144 W4 hu4
    have HB4 := Lib.hid (bvia HB3.out (HUP.out W4 hu4) (Nat.le_refl _))
    clear hu4
    (try simp only [Exit.inBlock, Exit.then])
    go_ret
    exact ⟨rfl, HB4.out⟩
  intro v u8 u43 u14 u15 u16 u44 u45 u46 u47 u48 u49 u50 u51 u52 u53 u54 u55 u56 u57 u58 u59 u60 u61 u62 u63 u64 u65 u66 u67 u68 u69 u70 u71 u72 u73 u74 u75 u76 u77 u78 u79 u80 u81 u82 u83 u84 u85 u86 u87 u88 u89 u90 u91 u92 u93 u94 u95 u96 u97 u98 u99 u100 u101 u102 u103 u104 u105 u106 u107 u108 u109 u110 u111 u112 u113 u114 u115 u116 u117 u118 u119 u120 u121 u122 u123 u124 u125 u126 u127 u128 u129 u130 u131 u132 u133 u134 u135 u136 u137 u138 u139 u140 u141 u142 u143 u144 W4 hsum
  obtain ⟨hbn, hown, hu4⟩ := hsum
  have b34 := HUP.out W4 hu4
  obtain ⟨N4, c4, rfl, hrd4⟩ := own_rd hown
  obtain ⟨ks, hks⟩ : ∃ ks, keepL es es.length = ks := ⟨_, rfl⟩
  rw [hks] at hrd4 ⊢
  have hks2 : es.filter keepB = ks := by rw [← hks]; unfold keepL; rw [List.take_length]
  have hkl : ks.length ≤ 60 := by rw [← hks2]; have := List.length_filter_le keepB es; omega
  have hkm : ∀ k, k < ks.length → EvU (gn ks k) := fun k hk => by
    have h1 : gn ks k ∈ es.filter keepB := by rw [hks2, gn_get ks k hk]; exact List.getElem_mem hk
    have h2 := (List.mem_filter.1 h1).1
    obtain ⟨j, hj, h3⟩ := List.getElem_of_mem h2
    have h4 := HEV.out j hj
    rw [gn_get es j hj, h3] at h4
    exact h4
  rw [List.take_length] at hbn
  have hE4 := HE.out.below (bvia HB3.out b34 (Nat.le_refl _))
  have hx4 := belowBox b34 HX3.out
  obtain ⟨s1, s2, s3, s4, _, _⟩ := simShapeB_parts HCF.out
  have s1 : shapeB line LI.length ways = true := s1
  obtain ⟨l1, l2, l3, l4, l5, l6⟩ := shapeB_line s1
  have hok0 : GOk ⟨line, ways, line, ways, line, ways, 4, 2⟩ 3 LI.length LI.length LI.length ⟨LI, LI, LI, [], [1, 1, 1, 1, 1, 1, 1, 1], 0, []⟩ := by
    have hco : cacheOk line LI.length ways LI := by have := cacheOk_new s1; rw [HLI.out] at this; exact this
    exact ⟨hco, hco, hco, NOk.nil, of_decide_eq_true (by kernel_rfl), Int.le_refl 0⟩
  obtain ⟨s, hs⟩ := feed_some es 0 hok0 (Int.le_refl _) (fun c hc => by cases hc) (by omega) fun e he => by
    obtain ⟨j, hj, h3⟩ := List.getElem_of_mem he
    have h4 := HEV.out j hj
    rw [gn_get es j hj, h3] at h4
    exact h4
  have hsk : GS.feed ⟨line, ways, line, ways, line, ways, 4, 2⟩ ⟨LI, LI, LI, [], [1, 1, 1, 1, 1, 1, 1, 1], 0, []⟩ ks = some s := by rw [← hks2, keep_feed]; exact hs
  have hok := hok0.feed es hs
  have hgu : GU s := GU.feed (K := ⟨line, ways, line, ways, line, ways, 4, 2⟩) ⟨by show 1 ≤ line; omega, by show line ≤ 4294967296; omega⟩ ⟨by show 1 ≤ line; omega, by show line ≤ 4294967296; omega⟩ ⟨by show 1 ≤ line; omega, by show line ≤ 4294967296; omega⟩ es ⟨HAU.out, HAU.out, HAU.out⟩ hs
  have hsp := sums_plain (K := ⟨line, ways, line, ways, line, ways, 4, 2⟩) rfl (by show 1 ≤ line; omega) (by show line ≤ 4294967296; omega) rfl rfl hs
  have HS := Lib.hid hs
  have HSK := Lib.hid hsk
  have HOK0 := Lib.hid hok0
  have HOK := Lib.hid hok
  have HGU := Lib.hid hgu
  have HSP := Lib.hid hsp
  have HKM := Lib.hid hkm
  have HE4 := Lib.hid hE4
  have HK4 := Lib.hid (rd_rdE (by rw [← hks] at hrd4 ⊢; exact hrd4) : RdE W4 N4 ks)
  have HX4 := Lib.hid hx4
  have HBN := Lib.hid hbn
  have HB34 := Lib.hid b34
  have HC4 := Lib.hid (own_upd HC3.out (Upd.of_below b34) fun k hk e => by have := (HC3.out.lt k hk).2; omega)
  have HI4 := Lib.hid (HI3.out.below b34)
  have HD4 := Lib.hid (HD3.out.below b34)
  have HL4 := Lib.hid (HL3.out.below b34)
  have HR4 := Lib.hid (range_sub hx4 0 [.int .i64 line, .int .i64 (LI.length : Int), .int .i64 ways, .int .i64 line, .int .i64 (LI.length : Int), .int .i64 ways, .int .i64 line, .int .i64 (LI.length : Int), .int .i64 ways, .int .i64 3, .int .i64 2, .int .i64 4, .int .i64 line, .int .i64 (LI.length : Int), .int .i64 ways, .slice (some ⟨qi, 0, none⟩) LI.length LI.length, .int .i64 line, .int .i64 (LI.length : Int), .int .i64 ways, .slice (some ⟨qd, 0, none⟩) LI.length LI.length, .int .i64 line, .int .i64 (LI.length : Int), .int .i64 ways, .slice (some ⟨ql, 0, none⟩) LI.length LI.length, .int .i64 3, .int .i64 2, .int .i64 4, .slice (some ⟨qp, 0, none⟩) 8 8, .int .u32 0, .slice none 0 0, .slice none 0 0] rfl)
  have hs4 := b34.size
  clear hs hsk hok0 hok hgu hsp hkm hE4 hx4 hbn b34 hrd4 hown hu4 hks hks2 s1 s2 s3 s4 l1 l2 l3 l4 l5 l6 HX3 HI3 HD3 HL3 HC3
  (try simp only [Exit.inBlock, Exit.then])
  go_wp2_with (with_reducible refine wpList_load_mid rfl 67 (Operand.tmp 10) rfl W2.heap.size 0 rfl [.int .i64 line, .int .i64 (LI.length : Int), .int .i64 ways, .int .i64 line, .int .i64 (LI.length : Int), .int .i64 ways, .int .i64 line, .int .i64 (LI.length : Int), .int .i64 ways, .int .i64 3, .int .i64 2, .int .i64 4, .int .i64 line, .int .i64 (LI.length : Int), .int .i64 ways, .slice (some ⟨qi, 0, none⟩) LI.length LI.length, .int .i64 line, .int .i64 (LI.length : Int), .int .i64 ways, .slice (some ⟨qd, 0, none⟩) LI.length LI.length, .int .i64 line, .int .i64 (LI.length : Int), .int .i64 ways, .slice (some ⟨ql, 0, none⟩) LI.length LI.length, .int .i64 3, .int .i64 2, .int .i64 4, .slice (some ⟨qp, 0, none⟩) 8 8, .int .u32 0, .slice none 0 0, .slice none 0 0] _ HR4.out Try.underlying67 rfl (by kernel_rfl) ?_)
  have HP4 := Lib.hid (prd_new HC4.out)
  refine (Feed_any line ways line ways line ways 3 2 4 (some ⟨qi, 0, none⟩) (some ⟨qd, 0, none⟩) (some ⟨ql, 0, none⟩) (some ⟨qp, 0, none⟩) none none AE LI.length LI.length LI.length 8 0 0 ce 2 _ _ _ LI LI LI [1, 1, 1, 1, 1, 1, 1, 1] [] 0 [] es _ HCF.out HI4.out HD4.out HL4.out (fun h => by cases h) (fun h => by cases h) (fun h => by cases h) HP4.out ⟨by simp, fun k hk => absurd hk (Nat.not_lt_zero _)⟩ (fun _ => rfl) HE4.out HOK0.out.i HOK0.out.d HOK0.out.l HOK0.out.p NOk.nil rfl ⟨by omega, by omega⟩ (by omega) (by simp; omega) HEV.out).mono ?_
  rintro e W5 hF5
  obtain ⟨gI5, kI5, aI5, gD5, kD5, aD5, gL5, kL5, aL5, N5, nc5, gP5, cP5, R5, r5, he5, fr5⟩ := hF5.ok s HS.out
  dsimp only at he5
  subst he5
  have hb5 := hF5.bel
  obtain ⟨W6, hW6⟩ : ∃ W6, (W5.alloc zeroS).setRow W5.heap.size #[.int .i64 line, .int .i64 (LI.length : Int), .int .i64 ways, .int .i64 line, .int .i64 (LI.length : Int), .int .i64 ways, .int .i64 line, .int .i64 (LI.length : Int), .int .i64 ways, .int .i64 3, .int .i64 2, .int .i64 4, .int .i64 line, .int .i64 (LI.length : Int), .int .i64 ways, .slice (some ⟨gI5, 0, none⟩) LI.length kI5, .int .i64 line, .int .i64 (LI.length : Int), .int .i64 ways, .slice (some ⟨gD5, 0, none⟩) LI.length kD5, .int .i64 line, .int .i64 (LI.length : Int), .int .i64 ways, .slice (some ⟨gL5, 0, none⟩) LI.length kL5, .int .i64 3, .int .i64 2, .int .i64 4, .slice (some ⟨gP5, 0, none⟩) s.cs.length cP5, .int .u32 s.hist, .slice R5 s.rs.length r5, .slice N5 s.N.length nc5] = W6 := ⟨_, rfl⟩
  have hb56 : Below W5.heap.size W5 W6 := by rw [← hW6]; exact (balloc W5 zeroS).trans ((Upd.setRow _ _ _).below (by simp) fun k hk => by omega)
  have hx6 : W6.heap[W5.heap.size]? = some (.cells #[.int .i64 line, .int .i64 (LI.length : Int), .int .i64 ways, .int .i64 line, .int .i64 (LI.length : Int), .int .i64 ways, .int .i64 line, .int .i64 (LI.length : Int), .int .i64 ways, .int .i64 3, .int .i64 2, .int .i64 4, .int .i64 line, .int .i64 (LI.length : Int), .int .i64 ways, .slice (some ⟨gI5, 0, none⟩) LI.length kI5, .int .i64 line, .int .i64 (LI.length : Int), .int .i64 ways, .slice (some ⟨gD5, 0, none⟩) LI.length kD5, .int .i64 line, .int .i64 (LI.length : Int), .int .i64 ways, .slice (some ⟨gL5, 0, none⟩) LI.length kL5, .int .i64 3, .int .i64 2, .int .i64 4, .slice (some ⟨gP5, 0, none⟩) s.cs.length cP5, .int .u32 s.hist, .slice R5 s.rs.length r5, .slice N5 s.N.length nc5] 67 (0, 0)) := by rw [← hW6]; exact setRow_heap (heap_alloc_new W5 zeroS) _
  have b46 := bvia hb5 hb56 (Nat.le_refl _)
  have HW6 := Lib.hid hW6
  have HX6 := Lib.hid hx6
  have HB46 := Lib.hid b46
  have HB56 := Lib.hid hb56
  have HFR5 := Lib.hid fr5
  have HI6 := Lib.hid (HI4.out.below b46)
  have HD6 := Lib.hid (HD4.out.below b46)
  have HL6 := Lib.hid (HL4.out.below b46)
  have HP6 := Lib.hid (HP4.out.below b46)
  have HK6 := Lib.hid (HK4.out.below b46)
  have HR6 := Lib.hid (range_sub (belowBox b46 HX4.out) 0 [.int .i64 line, .int .i64 (LI.length : Int), .int .i64 ways, .int .i64 line, .int .i64 (LI.length : Int), .int .i64 ways, .int .i64 line, .int .i64 (LI.length : Int), .int .i64 ways, .int .i64 3, .int .i64 2, .int .i64 4, .int .i64 line, .int .i64 (LI.length : Int), .int .i64 ways, .slice (some ⟨qi, 0, none⟩) LI.length LI.length, .int .i64 line, .int .i64 (LI.length : Int), .int .i64 ways, .slice (some ⟨qd, 0, none⟩) LI.length LI.length, .int .i64 line, .int .i64 (LI.length : Int), .int .i64 ways, .slice (some ⟨ql, 0, none⟩) LI.length LI.length, .int .i64 3, .int .i64 2, .int .i64 4, .slice (some ⟨qp, 0, none⟩) 8 8, .int .u32 0, .slice none 0 0, .slice none 0 0] rfl)
  clear hF5 hb5 fr5 hW6 hb56 hx6 b46
  go_wp2_with (first
    | (refine wpList_store_row rfl 67 (.tmp 17) (.tmp 149) rfl W5.heap.size #[.int .i64 line, .int .i64 (LI.length : Int), .int .i64 ways, .int .i64 line, .int .i64 (LI.length : Int), .int .i64 ways, .int .i64 line, .int .i64 (LI.length : Int), .int .i64 ways, .int .i64 3, .int .i64 2, .int .i64 4, .int .i64 line, .int .i64 (LI.length : Int), .int .i64 ways, .slice (some ⟨gI5, 0, none⟩) LI.length kI5, .int .i64 line, .int .i64 (LI.length : Int), .int .i64 ways, .slice (some ⟨gD5, 0, none⟩) LI.length kD5, .int .i64 line, .int .i64 (LI.length : Int), .int .i64 ways, .slice (some ⟨gL5, 0, none⟩) LI.length kL5, .int .i64 3, .int .i64 2, .int .i64 4, .slice (some ⟨gP5, 0, none⟩) s.cs.length cP5, .int .u32 s.hist, .slice R5 s.rs.length r5, .slice N5 s.N.length nc5] rfl rfl 67 _ (heap_alloc_new W5 zeroS) (by kernel_rfl) rfl (by simp [Value.oneCell']) ?_; rw [HW6.out])
    | (with_reducible refine wpList_load_mid rfl 67 (Operand.tmp 10) rfl W2.heap.size 0 rfl [.int .i64 line, .int .i64 (LI.length : Int), .int .i64 ways, .int .i64 line, .int .i64 (LI.length : Int), .int .i64 ways, .int .i64 line, .int .i64 (LI.length : Int), .int .i64 ways, .int .i64 3, .int .i64 2, .int .i64 4, .int .i64 line, .int .i64 (LI.length : Int), .int .i64 ways, .slice (some ⟨qi, 0, none⟩) LI.length LI.length, .int .i64 line, .int .i64 (LI.length : Int), .int .i64 ways, .slice (some ⟨qd, 0, none⟩) LI.length LI.length, .int .i64 line, .int .i64 (LI.length : Int), .int .i64 ways, .slice (some ⟨ql, 0, none⟩) LI.length LI.length, .int .i64 3, .int .i64 2, .int .i64 4, .slice (some ⟨qp, 0, none⟩) 8 8, .int .u32 0, .slice none 0 0, .slice none 0 0] _ HR6.out Try.underlying67 rfl (by kernel_rfl) ?_))
  refine (Feed_any line ways line ways line ways 3 2 4 (some ⟨qi, 0, none⟩) (some ⟨qd, 0, none⟩) (some ⟨ql, 0, none⟩) (some ⟨qp, 0, none⟩) none none N4 LI.length LI.length LI.length 8 0 0 c4 2 _ _ _ LI LI LI [1, 1, 1, 1, 1, 1, 1, 1] [] 0 [] ks _ HCF.out HI6.out HD6.out HL6.out (fun h => by cases h) (fun h => by cases h) (fun h => by cases h) HP6.out ⟨by simp, fun k hk => absurd hk (Nat.not_lt_zero _)⟩ (fun _ => rfl) HK6.out HOK0.out.i HOK0.out.d HOK0.out.l HOK0.out.p NOk.nil rfl ⟨by omega, by omega⟩ (by omega) (by simp; omega) HKM.out).mono ?_
  rintro e W7 hF7
  obtain ⟨gI7, kI7, aI7, gD7, kD7, aD7, gL7, kL7, aL7, N7, nc7, gP7, cP7, R7, r7, he7, fr7⟩ := hF7.ok s HSK.out
  dsimp only at he7
  subst he7
  have hb7 := hF7.bel
  obtain ⟨W8, hW8⟩ : ∃ W8, (W7.alloc zeroS).setRow W7.heap.size #[.int .i64 line, .int .i64 (LI.length : Int), .int .i64 ways, .int .i64 line, .int .i64 (LI.length : Int), .int .i64 ways, .int .i64 line, .int .i64 (LI.length : Int), .int .i64 ways, .int .i64 3, .int .i64 2, .int .i64 4, .int .i64 line, .int .i64 (LI.length : Int), .int .i64 ways, .slice (some ⟨gI7, 0, none⟩) LI.length kI7, .int .i64 line, .int .i64 (LI.length : Int), .int .i64 ways, .slice (some ⟨gD7, 0, none⟩) LI.length kD7, .int .i64 line, .int .i64 (LI.length : Int), .int .i64 ways, .slice (some ⟨gL7, 0, none⟩) LI.length kL7, .int .i64 3, .int .i64 2, .int .i64 4, .slice (some ⟨gP7, 0, none⟩) s.cs.length cP7, .int .u32 s.hist, .slice R7 s.rs.length r7, .slice N7 s.N.length nc7] = W8 := ⟨_, rfl⟩
  have hb78 : Below W7.heap.size W7 W8 := by rw [← hW8]; exact (balloc W7 zeroS).trans ((Upd.setRow _ _ _).below (by simp) fun k hk => by omega)
  have hx8 : W8.heap[W7.heap.size]? = some (.cells #[.int .i64 line, .int .i64 (LI.length : Int), .int .i64 ways, .int .i64 line, .int .i64 (LI.length : Int), .int .i64 ways, .int .i64 line, .int .i64 (LI.length : Int), .int .i64 ways, .int .i64 3, .int .i64 2, .int .i64 4, .int .i64 line, .int .i64 (LI.length : Int), .int .i64 ways, .slice (some ⟨gI7, 0, none⟩) LI.length kI7, .int .i64 line, .int .i64 (LI.length : Int), .int .i64 ways, .slice (some ⟨gD7, 0, none⟩) LI.length kD7, .int .i64 line, .int .i64 (LI.length : Int), .int .i64 ways, .slice (some ⟨gL7, 0, none⟩) LI.length kL7, .int .i64 3, .int .i64 2, .int .i64 4, .slice (some ⟨gP7, 0, none⟩) s.cs.length cP7, .int .u32 s.hist, .slice R7 s.rs.length r7, .slice N7 s.N.length nc7] 67 (0, 0)) := by rw [← hW8]; exact setRow_heap (heap_alloc_new W7 zeroS) _
  have b68 := bvia hb7 hb78 (Nat.le_refl _)
  have b58 : Below W5.heap.size W5 W8 := bvia HB56.out b68 (Nat.le_refl _)
  have HW8 := Lib.hid hW8
  have HX8 := Lib.hid hx8
  have HY8 := Lib.hid (belowBox b68 HX6.out)
  have HR8 := Lib.hid (range_sub (belowBox b68 HX6.out) 0 [.int .i64 line, .int .i64 (LI.length : Int), .int .i64 ways, .int .i64 line, .int .i64 (LI.length : Int), .int .i64 ways, .int .i64 line, .int .i64 (LI.length : Int), .int .i64 ways, .int .i64 3, .int .i64 2, .int .i64 4, .int .i64 line, .int .i64 (LI.length : Int), .int .i64 ways, .slice (some ⟨gI5, 0, none⟩) LI.length kI5, .int .i64 line, .int .i64 (LI.length : Int), .int .i64 ways, .slice (some ⟨gD5, 0, none⟩) LI.length kD5, .int .i64 line, .int .i64 (LI.length : Int), .int .i64 ways, .slice (some ⟨gL5, 0, none⟩) LI.length kL5, .int .i64 3, .int .i64 2, .int .i64 4, .slice (some ⟨gP5, 0, none⟩) s.cs.length cP5, .int .u32 s.hist, .slice R5 s.rs.length r5, .slice N5 s.N.length nc5] rfl)
  have HB8 := Lib.hid (bvia HB46.out b68 (Nat.le_refl _))
  have HI8 := Lib.hid ((HFR5.out.i.rdSets HGU.out.i).below b58)
  have HD8 := Lib.hid ((HFR5.out.d.rdSets HGU.out.d).below b58)
  have HL8 := Lib.hid ((HFR5.out.l.rdSets HGU.out.l).below b58)
  have HI8' := Lib.hid ((fr7.i.rdSets HGU.out.i).below hb78)
  have HD8' := Lib.hid ((fr7.d.rdSets HGU.out.d).below hb78)
  have HL8' := Lib.hid ((fr7.l.rdSets HGU.out.l).below hb78)
  obtain ⟨hp5, hn5, _⟩ := HFR5.out.rest W5 (Upd.refl _ _)
  obtain ⟨hp7, hn7, _⟩ := fr7.rest W7 (Upd.refl _ _)
  have HP8 := Lib.hid (hp5.below b58)
  have HN8 := Lib.hid (hn5.below b58)
  have HP8' := Lib.hid (hp7.below hb78)
  have HN8' := Lib.hid (hn7.below hb78)
  clear hF7 hb7 fr7 hW8 hb78 hx8 b68 b58 hp5 hn5 hp7 hn7
  go_wp2_with (first
    | (refine wpList_store_row rfl 67 (.tmp 18) (.tmp 155) rfl W7.heap.size #[.int .i64 line, .int .i64 (LI.length : Int), .int .i64 ways, .int .i64 line, .int .i64 (LI.length : Int), .int .i64 ways, .int .i64 line, .int .i64 (LI.length : Int), .int .i64 ways, .int .i64 3, .int .i64 2, .int .i64 4, .int .i64 line, .int .i64 (LI.length : Int), .int .i64 ways, .slice (some ⟨gI7, 0, none⟩) LI.length kI7, .int .i64 line, .int .i64 (LI.length : Int), .int .i64 ways, .slice (some ⟨gD7, 0, none⟩) LI.length kD7, .int .i64 line, .int .i64 (LI.length : Int), .int .i64 ways, .slice (some ⟨gL7, 0, none⟩) LI.length kL7, .int .i64 3, .int .i64 2, .int .i64 4, .slice (some ⟨gP7, 0, none⟩) s.cs.length cP7, .int .u32 s.hist, .slice R7 s.rs.length r7, .slice N7 s.N.length nc7] rfl rfl 67 _ (heap_alloc_new W7 zeroS) (by kernel_rfl) rfl (by simp [Value.oneCell']) ?_; rw [HW8.out])
    | (with_reducible refine wpList_load_mid rfl 67 (Operand.tmp 17) rfl W5.heap.size 0 rfl [.int .i64 line, .int .i64 (LI.length : Int), .int .i64 ways, .int .i64 line, .int .i64 (LI.length : Int), .int .i64 ways, .int .i64 line, .int .i64 (LI.length : Int), .int .i64 ways, .int .i64 3, .int .i64 2, .int .i64 4, .int .i64 line, .int .i64 (LI.length : Int), .int .i64 ways, .slice (some ⟨gI5, 0, none⟩) LI.length kI5, .int .i64 line, .int .i64 (LI.length : Int), .int .i64 ways, .slice (some ⟨gD5, 0, none⟩) LI.length kD5, .int .i64 line, .int .i64 (LI.length : Int), .int .i64 ways, .slice (some ⟨gL5, 0, none⟩) LI.length kL5, .int .i64 3, .int .i64 2, .int .i64 4, .slice (some ⟨gP5, 0, none⟩) s.cs.length cP5, .int .u32 s.hist, .slice R5 s.rs.length r5, .slice N5 s.N.length nc5] _ HR8.out Try.underlying67 rfl (by kernel_rfl) ?_))
  obtain ⟨eI, eD, eL⟩ := HOK.out.lens
  refine (Total_n line LI.length ways line LI.length ways line LI.length ways 3 2 4 (some ⟨gI5, 0, none⟩) (some ⟨gD5, 0, none⟩) (some ⟨gL5, 0, none⟩) (some ⟨gP5, 0, none⟩) R5 N5 kI5 kD5 kL5 cP5 r5 nc5 aI5 aD5 aL5 s.I s.D s.L s.cs s.rs s.hist s.N _ LI.length LI.length LI.length HCF.out HI8.out HD8.out HL8.out HP8.out.cnt HN8.out HOK.out.i HOK.out.d HOK.out.l HOK.out.p (hist_lt HOK.out) (by have := feed_len es HOK0.out HS.out; simp at this; omega) HOK.out.n.cntsOk eI eD eL).mono ?_
  rintro e W9 ⟨rfl, hb9⟩
  have hsp := HSP.out
  obtain ⟨T, hT⟩ : ∃ T, totL s.N s.N.length = T := ⟨_, rfl⟩
  rw [hT] at hsp ⊢
  obtain ⟨t0, t1, t2, t3, t4, t5, t6, t7, t8, t9, t10, t11, t12, rfl⟩ := list13 T (by rw [← hT]; exact totL_len _ _)
  obtain ⟨p1, p2, p3, p4, p5, p6⟩ := hsp
  have c1 : t0 = evSum es 1 := p1 1 (by omega)
  have c4 : t3 = evSum es 4 := p1 4 (by omega)
  have c7 : t6 = evSum es 7 := p1 7 (by omega)
  have c10 : t9 = evSum es 10 := p1 10 (by omega)
  have c12 : t11 = evSum es 12 := p1 12 (by omega)
  have p2 : t2 ≤ t1 := p2
  have p3 : t5 ≤ t4 := p3
  have p4 : t8 ≤ t7 := p4
  have p5 : t10 ≤ t9 := by rw [c10]; exact p5
  have p6 : t12 ≤ t11 := by rw [c12]; exact p6
  have hnb := HBN.out
  unfold nCells at hnb
  rw [← c1, ← c4, ← c7, ← c10, ← c12] at hnb
  have HNB := Lib.hid hnb
  clear hT p1 c1 c4 c7 c10 c12 hnb
  obtain ⟨W10, hW10⟩ : ∃ W10, (W9.alloc zeroCnt).setRow W9.heap.size #[.int .u32 0, .int .i64 t0, .int .i64 t1, .int .i64 t2, .int .i64 t3, .int .i64 t4, .int .i64 t5, .int .i64 t6, .int .i64 t7, .int .i64 t8, .int .i64 t9, .int .i64 t10, .int .i64 t11, .int .i64 t12] = W10 := ⟨_, rfl⟩
  have hb910 : Below W9.heap.size W9 W10 := by rw [← hW10]; exact (balloc W9 zeroCnt).trans ((Upd.setRow _ _ _).below (by simp) fun k hk => by omega)
  have hx10 : W10.heap[W9.heap.size]? = some (.cells #[.int .u32 0, .int .i64 t0, .int .i64 t1, .int .i64 t2, .int .i64 t3, .int .i64 t4, .int .i64 t5, .int .i64 t6, .int .i64 t7, .int .i64 t8, .int .i64 t9, .int .i64 t10, .int .i64 t11, .int .i64 t12] 79 (0, 0)) := by rw [← hW10]; exact setRow_heap (heap_alloc_new W9 zeroCnt) _
  have b810 := bvia hb9 hb910 (Nat.le_refl _)
  have HW10 := Lib.hid hW10
  have HX10 := Lib.hid hx10
  have HRA := Lib.hid (range_sub (belowBox b810 HY8.out) 0 [.int .i64 line, .int .i64 (LI.length : Int), .int .i64 ways, .int .i64 line, .int .i64 (LI.length : Int), .int .i64 ways, .int .i64 line, .int .i64 (LI.length : Int), .int .i64 ways, .int .i64 3, .int .i64 2, .int .i64 4, .int .i64 line, .int .i64 (LI.length : Int), .int .i64 ways, .slice (some ⟨gI5, 0, none⟩) LI.length kI5, .int .i64 line, .int .i64 (LI.length : Int), .int .i64 ways, .slice (some ⟨gD5, 0, none⟩) LI.length kD5, .int .i64 line, .int .i64 (LI.length : Int), .int .i64 ways, .slice (some ⟨gL5, 0, none⟩) LI.length kL5, .int .i64 3, .int .i64 2, .int .i64 4, .slice (some ⟨gP5, 0, none⟩) s.cs.length cP5, .int .u32 s.hist, .slice R5 s.rs.length r5, .slice N5 s.N.length nc5] rfl)
  have HRB := Lib.hid (range_sub (belowBox b810 HX8.out) 0 [.int .i64 line, .int .i64 (LI.length : Int), .int .i64 ways, .int .i64 line, .int .i64 (LI.length : Int), .int .i64 ways, .int .i64 line, .int .i64 (LI.length : Int), .int .i64 ways, .int .i64 3, .int .i64 2, .int .i64 4, .int .i64 line, .int .i64 (LI.length : Int), .int .i64 ways, .slice (some ⟨gI7, 0, none⟩) LI.length kI7, .int .i64 line, .int .i64 (LI.length : Int), .int .i64 ways, .slice (some ⟨gD7, 0, none⟩) LI.length kD7, .int .i64 line, .int .i64 (LI.length : Int), .int .i64 ways, .slice (some ⟨gL7, 0, none⟩) LI.length kL7, .int .i64 3, .int .i64 2, .int .i64 4, .slice (some ⟨gP7, 0, none⟩) s.cs.length cP7, .int .u32 s.hist, .slice R7 s.rs.length r7, .slice N7 s.N.length nc7] rfl)
  have HI10 := Lib.hid (HI8.out.below b810)
  have HD10 := Lib.hid (HD8.out.below b810)
  have HL10 := Lib.hid (HL8.out.below b810)
  have HI10' := Lib.hid (HI8'.out.below b810)
  have HD10' := Lib.hid (HD8'.out.below b810)
  have HL10' := Lib.hid (HL8'.out.below b810)
  have HP10 := Lib.hid (HP8.out.below b810)
  have HN10 := Lib.hid (HN8.out.below b810)
  have HP10' := Lib.hid (HP8'.out.below b810)
  have HN10' := Lib.hid (HN8'.out.below b810)
  have hb410 := bvia HB8.out b810 (Nat.le_refl _)
  have HB10 := Lib.hid hb410
  have HNB10 := Lib.hid (belowBox hb410 HNB.out)
  clear hb9 hW10 hb910 hx10 b810 hb410
  go_wp2_with (first
    | (refine wpList_store_row rfl 79 (.tmp 20) (.tmp 160) rfl W9.heap.size #[.int .u32 0, .int .i64 t0, .int .i64 t1, .int .i64 t2, .int .i64 t3, .int .i64 t4, .int .i64 t5, .int .i64 t6, .int .i64 t7, .int .i64 t8, .int .i64 t9, .int .i64 t10, .int .i64 t11, .int .i64 t12] rfl rfl 79 _ (heap_alloc_new W9 zeroCnt) (by kernel_rfl) rfl (by simp [Value.oneCell']) ?_; rw [HW10.out])
    | (with_reducible refine wpList_load_midW (by kernel_rfl) 67 (Operand.tmp 17) rfl W5.heap.size 0 rfl [.int .i64 line, .int .i64 (LI.length : Int), .int .i64 ways, .int .i64 line, .int .i64 (LI.length : Int), .int .i64 ways, .int .i64 line, .int .i64 (LI.length : Int), .int .i64 ways, .int .i64 3, .int .i64 2, .int .i64 4, .int .i64 line, .int .i64 (LI.length : Int), .int .i64 ways, .slice (some ⟨gI5, 0, none⟩) LI.length kI5, .int .i64 line, .int .i64 (LI.length : Int), .int .i64 ways, .slice (some ⟨gD5, 0, none⟩) LI.length kD5, .int .i64 line, .int .i64 (LI.length : Int), .int .i64 ways, .slice (some ⟨gL5, 0, none⟩) LI.length kL5, .int .i64 3, .int .i64 2, .int .i64 4, .slice (some ⟨gP5, 0, none⟩) s.cs.length cP5, .int .u32 s.hist, .slice R5 s.rs.length r5, .slice N5 s.N.length nc5] _ HRA.out Try.underlying67 rfl (by kernel_rfl) ?_)
    | (with_reducible refine wpList_load_midW (by kernel_rfl) 67 (Operand.tmp 18) rfl W7.heap.size 0 rfl [.int .i64 line, .int .i64 (LI.length : Int), .int .i64 ways, .int .i64 line, .int .i64 (LI.length : Int), .int .i64 ways, .int .i64 line, .int .i64 (LI.length : Int), .int .i64 ways, .int .i64 3, .int .i64 2, .int .i64 4, .int .i64 line, .int .i64 (LI.length : Int), .int .i64 ways, .slice (some ⟨gI7, 0, none⟩) LI.length kI7, .int .i64 line, .int .i64 (LI.length : Int), .int .i64 ways, .slice (some ⟨gD7, 0, none⟩) LI.length kD7, .int .i64 line, .int .i64 (LI.length : Int), .int .i64 ways, .slice (some ⟨gL7, 0, none⟩) LI.length kL7, .int .i64 3, .int .i64 2, .int .i64 4, .slice (some ⟨gP7, 0, none⟩) s.cs.length cP7, .int .u32 s.hist, .slice R7 s.rs.length r7, .slice N7 s.N.length nc7] _ HRB.out Try.underlying67 rfl (by kernel_rfl) ?_))
  refine (sameSim_n line ways line ways line ways 3 2 4 gI5 kI5 gD5 kD5 gL5 kL5 gI7 kI7 gD7 kD7 gL7 kL7 (some ⟨gP5, 0, none⟩) (some ⟨gP7, 0, none⟩) R5 R7 N5 N7 cP5 cP7 r5 r7 nc5 nc7 aI5 aD5 aL5 aI7 aD7 aL7 s.I s.D s.L s.cs s.rs s.hist s.N _ LI.length LI.length LI.length HI10.out HD10.out HL10.out HI10'.out HD10'.out HL10'.out HP10.out.cnt HP10'.out.cnt HP10.out.ret HP10'.out.ret HN10.out HN10'.out eI eD eL).mono ?_
  rintro e W11 ⟨rfl, hb11⟩
  have hx11 := belowBox hb11 HX10.out
  have hn11 := belowBox hb11 HNB10.out
  have x1 := boxAt (i := 1) hx11 rfl
  have x4 := boxAt (i := 4) hx11 rfl
  have x7 := boxAt (i := 7) hx11 rfl
  have x10 := boxAt (i := 10) hx11 rfl
  have x12 := boxAt (i := 12) hx11 rfl
  have y1 := boxAt (i := 1) hn11 rfl
  have y4 := boxAt (i := 4) hn11 rfl
  have y7 := boxAt (i := 7) hn11 rfl
  have y10 := boxAt (i := 10) hn11 rfl
  have y12 := boxAt (i := 12) hn11 rfl
  have HX11 := Lib.hid hx11
  have HN11 := Lib.hid hn11
  have HB11 := Lib.hid (bvia HB10.out hb11 (Nat.le_refl _))
  clear hb11 hx11 hn11
  go_wp2_with fail
  refine (sane_any _).mono ?_
  rintro e W12 ⟨rfl, hb12⟩
  clear x1 y1 x4 y4 x7 y7 x10 y10 x12 y12
  have hx12 := belowBox hb12 HX11.out
  have hn12 := belowBox hb12 HN11.out
  have x2 := boxAt (i := 2) hx12 rfl
  have x3 := boxAt (i := 3) hx12 rfl
  have x5 := boxAt (i := 5) hx12 rfl
  have x6 := boxAt (i := 6) hx12 rfl
  have x8 := boxAt (i := 8) hx12 rfl
  have x9 := boxAt (i := 9) hx12 rfl
  have x11 := boxAt (i := 11) hx12 rfl
  have x13 := boxAt (i := 13) hx12 rfl
  have y10 := boxAt (i := 10) hn12 rfl
  have y12 := boxAt (i := 12) hn12 rfl
  have HB12 := Lib.hid (bvia HB3.out (bvia HB34.out (bvia HB11.out hb12 (Nat.le_refl _)) (Nat.le_refl _)) (Nat.le_refl _))
  clear hb12 hx12 hn12
  go_wp2_with fail
  go_ret
  exact ⟨rfl, HB12.out⟩
end Go.Proofs.Ytdkacdfhapgboaa
