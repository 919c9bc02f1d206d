/- Part 12 of the texts that the proof stands on: SlJ. -/
import Derived.Test.YtdkacdfhapgboaaM11
import Derived.Deep.AppendLies

/- slices.Insert of one element at []candling/api.SimCount, in a row of the call's own: at the end, with room, without. -/
set_option linter.unusedVariables false
set_option linter.unusedSimpArgs false
namespace Go.Proofs.Ytdkacdfhapgboaa
open Go.RowKit

theorem info_cnt_i : (Try.prog.info? 79).map (fun i => (i.zero, i.size, i.bytes)) = some (some (Value.agg #[Value.int .u32 0, Value.int .i64 0, Value.int .i64 0, Value.int .i64 0, Value.int .i64 0, Value.int .i64 0, Value.int .i64 0, Value.int .i64 0, Value.int .i64 0, Value.int .i64 0, Value.int .i64 0, Value.int .i64 0, Value.int .i64 0, Value.int .i64 0]), 14, 112) := by kernel_rfl
theorem size_cnt (w : World) : (Go.sizeOf 79).run Try.prog w = .ok 14 w := by kernel_rfl

set_option maxRecDepth 100000 in
theorem insert_cnt_end (B n c i q : Nat) (g : Nat) (cs news : List Value) (w : World) (h : w.ownsRow B 79 14 (Value.slice (some ⟨g, 0, none⟩) n c) n cs) (hi : i = n)
    (hq : w.heap[q]? = some (.cells news.toArray 79 (0, 0))) (hnl : news.length = 14) (hne : (Value.slice (some ⟨g, 0, none⟩) n c).ownBlock ≠ some q) (h1 : ∀ u ∈ cs, u.oneCell' = true) (h1n : ∀ u ∈ news, u.oneCell' = true)
    (hB : B ≤ w.heap.size) (hby : (n + 1) * 112 ≤ 140737488355328) :
    Calls Try.prog 64 #[Value.slice (some ⟨g, 0, none⟩) n c, .int .i64 (i : Int), .slice (some ⟨q, 0, none⟩) 1 1] w fun e w' =>
      ∃ g' c', e = .returned (.slice (some ⟨g', 0, none⟩) (n + 1) c') ∧ w'.ownsRow B 79 14 (.slice (some ⟨g', 0, none⟩) (n + 1) c') (n + 1) (cs.take (i * 14) ++ (news ++ cs.drop (i * 14))) ∧ w.grownBy w' (Value.slice (some ⟨g, 0, none⟩) n c).ownBlock ∧ ((Value.slice (some ⟨g, 0, none⟩) n c).ownBlock = some g' ∨ w.heap.size ≤ g') := by
  have H := Lib.hid h
  have H1 := Lib.hid h1
  have H1n := Lib.hid h1n
  have HQ := Lib.hid hq
  have HNL := Lib.hid hnl
  have HNE := Lib.hid hne
  have HBY := Lib.hid hby
  have hcl := Lib.hid h.1
  clear h h1 h1n hq hnl hne hby
  obtain ⟨i0, hi0, hz0, hz1, hz2⟩ := info_parts info_cnt_i
  have HNC : Hid (∀ j u, news[j]? = some u → w.cell? ((⟨q, 0, none⟩ : Addr).add j) = some u) := fun j u hu => by
    have e : (⟨q, 0, none⟩ : Addr).add j = ⟨q, j, none⟩ := by unfold Addr.add; split <;> simp_all
    rw [e]
    simp [World.cell?, HQ.out, hu]
  have t1 : ((1 : Int) == 0) = false := by decide
  have q0 : (0 : Int) ≤ (i : Int) := by omega
  have q1 : (i : Int) ≤ (n : Int) := by omega
  have t2 : ((i : Int) == (n : Int)) = true := by simp; omega
  have HI := Lib.hid hi
  clear hi
  have hd : (c = i) = True ∨ (c = i) = False := by by_cases h : c = i <;> simp [h]
  rcases hd with hd | hd
  all_goals
    go_enter Try.func64, Try.ntmps64
    go_wp2_with (at_builtin; go_loud (refine wpList_append_lies _ (by rfl) (.tmp 23) (.tmp 24) 65 (by rfl) B 79 i0 (Value.agg #[Value.int .u32 0, Value.int .i64 0, Value.int .i64 0, Value.int .i64 0, Value.int .i64 0, Value.int .i64 0, Value.int .i64 0, Value.int .i64 0, Value.int .i64 0, Value.int .i64 0, Value.int .i64 0, Value.int .i64 0, Value.int .i64 0, Value.int .i64 0]) 14 112 Try.underlying65 hi0 hz0 hz1 hz2 rfl (by decide) (Value.slice (some ⟨g, 0, none⟩) n c) n cs (by rfl) H.out ⟨q, 0, none⟩ 1 1 news (by rfl) HNL.out HNC.out H1n.out (by decide) (by have := HBY.out; unfold maxLen; omega) (by have := HBY.out; omega) hB w.heap.size rfl ?_); intro g cap w1 hown hgrow hat hlt)
    go_ret
    refine ⟨g, cap, rfl, ?_, hgrow, ?_⟩
    · have e : cs.length = i * 14 := by rw [hcl.out, HI.out]
      rw [← e, List.take_length, List.drop_length, List.append_nil]
      exact hown
    · rcases hat with e | e
      · exact .inl e
      · exact .inr (by omega)

set_option maxRecDepth 100000 in
theorem insert_cnt_shift (B n c i q : Nat) (g : Nat) (cs news : List Value) (w : World) (h : w.ownsRow B 79 14 (Value.slice (some ⟨g, 0, none⟩) n c) n cs) (hi : i < n)
    (hq : w.heap[q]? = some (.cells news.toArray 79 (0, 0))) (hnl : news.length = 14) (hne : (Value.slice (some ⟨g, 0, none⟩) n c).ownBlock ≠ some q) (h1 : ∀ u ∈ cs, u.oneCell' = true) (h1n : ∀ u ∈ news, u.oneCell' = true)
    (hB : B ≤ w.heap.size) (hby : (n + 1) * 112 ≤ 140737488355328) (hroom : n + 1 ≤ c) :
    Calls Try.prog 64 #[Value.slice (some ⟨g, 0, none⟩) n c, .int .i64 (i : Int), .slice (some ⟨q, 0, none⟩) 1 1] w fun e w' =>
      ∃ g' c', e = .returned (.slice (some ⟨g', 0, none⟩) (n + 1) c') ∧ w'.ownsRow B 79 14 (.slice (some ⟨g', 0, none⟩) (n + 1) c') (n + 1) (cs.take (i * 14) ++ (news ++ cs.drop (i * 14))) ∧ w.grownBy w' (Value.slice (some ⟨g, 0, none⟩) n c).ownBlock ∧ ((Value.slice (some ⟨g, 0, none⟩) n c).ownBlock = some g' ∨ w.heap.size ≤ g') := by
  have H := Lib.hid h
  have H1 := Lib.hid h1
  have H1n := Lib.hid h1n
  have HQ := Lib.hid hq
  have HNL := Lib.hid hnl
  have HNE := Lib.hid hne
  have HBY := Lib.hid hby
  have hcl := Lib.hid h.1
  clear h h1 h1n hq hnl hne hby
  obtain ⟨i0, hi0, hz0, hz1, hz2⟩ := info_parts info_cnt_i
  have HNC : Hid (∀ j u, news[j]? = some u → w.cell? ((⟨q, 0, none⟩ : Addr).add j) = some u) := fun j u hu => by
    have e : (⟨q, 0, none⟩ : Addr).add j = ⟨q, j, none⟩ := by unfold Addr.add; split <;> simp_all
    rw [e]
    simp [World.cell?, HQ.out, hu]
  have t1 : ((1 : Int) == 0) = false := by decide
  have q0 : (0 : Int) ≤ (i : Int) := by omega
  obtain ⟨cur, hBg, hh, hnc, hcm, hcs, htake⟩ := own_open H.out
  have hg2 := (own_caps H.out).2
  have q1 : (i : Int) ≤ (n : Int) := by omega
  have t2 : ((i : Int) == (n : Int)) = false := by simp; omega
  have t3 : decide ((c : Int) < (n : Int) + 1) = false := by simp; omega
  have q2 : ((n : Int) + 1) ≤ (c : Int) := by omega
  have q3 : ((i : Int) + 1) ≤ (n : Int) + 1 := by omega
  have q4 : (0 : Int) ≤ (i : Int) + 1 := by omega
  have q5 : ¬ c = i + 1 := by omega
  have q6 : ¬ c = i := by omega
  have q7 : (i : Int) ≤ (n : Int) + 1 := by omega
  have q8 : (0 : Int) ≤ (n : Int) + 1 := by omega
  have q9 : i ≤ n := by omega
  have hov : ∀ lb cb, (callFunc 90 #[.slice (some ⟨q, 0, none⟩) 1 1, .slice (some ⟨g, (i + 1) * 14, none⟩) lb cb]).run Try.prog w = .ok (.value (.bool false)) w := fun lb cb => by
    rw [run_callFunc_extern Try.func90 (by kernel_rfl) (by kernel_rfl) (by kernel_rfl) (e := Extern.SlicesOverlaps.overlaps #[65, 65] #[4]) (by kernel_rfl),
      Lib.run_overlaps_apart w 65 4 79 Try.underlying65 14 size_cnt ⟨q, 0, none⟩ ⟨g, (i + 1) * 14, none⟩ 1 1 lb cb (fun e => HNE.out (by simp only at e; rw [e]; rfl)) 79 79 news.length cur.size
        (by simp [World.shape?, HQ.out]) (by simp [World.shape?, hh]) (by rw [hcs]; omega) (by simp [World.frozen?, HQ.out]) (by simp [World.frozen?, HQ.out])]
    rfl
  have hcN : cs.length = n * 14 := hcl.out
  have hfit1 : n * 14 + 14 ≤ cur.size := by rw [hcs]; have := Nat.mul_le_mul_right 14 (show n + 1 ≤ c by omega); rw [Nat.add_mul] at this; omega
  have hi1 : i * 14 ≤ n * 14 := Nat.mul_le_mul_right _ q9
  have hdl : (cs.drop (i * 14)).length = (n - i) * 14 := by rw [List.length_drop, hcN, Nat.sub_mul]
  have hrow : ∀ j u, cs[j]? = some u → w.cell? ⟨g, j, none⟩ = some u := fun j u hu => by
    have hj : j < cs.length := (List.getElem?_eq_some_iff.1 hu).1
    rw [← htake, List.getElem?_take, if_pos (by omega)] at hu
    simp only [World.cell?, hh]
    simpa using hu
  have hcp1 : ∀ ty dc sc, (Builtin.copy_ #[65, 65] ty #[.slice (some ⟨g, (i + 1) * 14, none⟩) (n - i) dc, .slice (some ⟨g, i * 14, none⟩) (n + 1 - i) sc]).run Try.prog w.drew = .ok (goInt ((n - i : Nat) : Int)) (w.drew.setRow g (splice cur.toList ((i + 1) * 14) (cs.drop (i * 14))).toArray) := fun ty dc sc =>
    run_copy_onto Try.underlying65 hi0 hz1 (w := w.drew) hh (cs.drop (i * 14)) (by simp only [Nat.min_def]; split <;> omega) hdl (fun j u hu => by
      rw [List.getElem?_drop] at hu
      have e : (⟨g, i * 14, none⟩ : Addr).add j = ⟨g, i * 14 + j, none⟩ := by unfold Addr.add; split <;> simp_all
      rw [e]; exact hrow _ _ hu) (by rw [hdl]; have := Nat.sub_mul n i 14; omega) (fun u hu => H1.out u (List.mem_of_mem_drop hu))
  have HG1 := Lib.hid (Go.setRow_heap w.drew g cur (splice cur.toList ((i + 1) * 14) (cs.drop (i * 14))).toArray 79 (0, 0) hh)
  have hX : (splice cur.toList ((i + 1) * 14) (cs.drop (i * 14))).length = cur.size := by rw [length_splice _ _ _ (by rw [hdl, Array.length_toList]; have := Nat.sub_mul n i 14; omega)]; simp
  obtain ⟨X, hXe⟩ : ∃ X, X = splice cur.toList ((i + 1) * 14) (cs.drop (i * 14)) := ⟨_, rfl⟩
  rw [← hXe] at hX HG1 hcp1
  have hcp2 : ∀ ty dc, (Builtin.copy_ #[65, 65] ty #[.slice (some ⟨g, i * 14, none⟩) (n + 1 - i) dc, .slice (some ⟨q, 0, none⟩) 1 1]).run Try.prog (w.drew.setRow g X.toArray) = .ok (goInt ((1 : Nat) : Int)) ((w.drew.setRow g X.toArray).setRow g (splice X (i * 14) news).toArray) := fun ty dc => by
    have := run_copy_onto (P := Try.prog) (ty := ty) (sT := 65) (dCap := dc) (sCap := 1) Try.underlying65 hi0 hz1 (w := w.drew.setRow g X.toArray) (o := i * 14) (dLen := n + 1 - i) (sLen := 1) (a := ⟨q, 0, none⟩) HG1.out news (m := 1) (by simp only [Nat.min_def]; split <;> omega) (by rw [HNL.out]) (fun j u hu => by
      have := HNC.out j u hu
      rw [← this]
      exact World.cell?_of_block (setRow_other w.drew g _ _ (fun e => HNE.out (by
        have e2 : (⟨q, 0, none⟩ : Addr).add j = ⟨q, j, none⟩ := by unfold Addr.add; split <;> simp_all
        rw [e2] at e; simp only at e; rw [e]; rfl)))) (by rw [HNL.out]; simp [hX]; omega) H1n.out
    simpa using this
  have hfin : (((w.drew.setRow g X.toArray).setRow g (splice X (i * 14) news).toArray).ownsRow B 79 14 (.slice (some ⟨g, 0, none⟩) (n + 1) c) (n + 1) (cs.take (i * 14) ++ (news ++ cs.drop (i * 14)))) := by
    have hsl : (splice X (i * 14) news).length = cur.size := by rw [length_splice _ _ _ (by rw [HNL.out, hX]; omega), hX]
    refine ⟨by simp [HNL.out, hcN]; omega, .inr ⟨g, c, _, rfl, hBg, Go.setRow_heap _ g _ _ 79 (0, 0) HG1.out, by omega, hcm, by simp [hsl, hcs], ?_⟩⟩
    have := splice_insert cur.toList cs news (i * 14) (by rw [hcN]; exact hi1) (by rw [hcN]; exact htake) (by rw [HNL.out, hcN]; simpa using hfit1)
    rw [HNL.out] at this
    have e3 : i * 14 + 14 = (i + 1) * 14 := by omega
    have e4 : cs.length + 14 = (n + 1) * 14 := by rw [hcN]; omega
    rw [e3, ← hXe, e4] at this
    simp only [Nat.mul_one, List.toList_toArray] at this ⊢
    exact this
  have HF := Lib.hid hfin
  have HG := Lib.hid (gdrew (gtrans (gsetRow w.drew g X.toArray) (gsetRow _ g (splice X (i * 14) news).toArray)))
  clear HG1 hX hfin hrow hdl hi1 hfit1 hcN htake hcs hcm hh HNC H1n H1 HNL HNE HQ HBY hcl
  clear hXe
  have wi : IntKind.i64.wrap ((i : Int) + 1) = (i : Int) + 1 := by rw [IntKind.wrap_i64]; omega
  go_enter Try.func64, Try.ntmps64
  go_wp2_with (simp only [hov])
  go_still_tail 8, (by kernel_rfl)
  refine wpList_copy_eq (by rfl) (.tmp 73) (.tmp 76) 65 65 (by rfl) _ _ (by rfl) (by rfl) (hcp1 _ _ _) ?_
  clear hcp1 hov
  obtain ⟨W1, hW1⟩ : ∃ W1, W1 = w.drew.setRow g X.toArray := ⟨_, rfl⟩
  rw [← hW1] at hcp2 HF HG ⊢
  clear hW1
  go_wp2_with (refine wpList_copy_eq (by rfl) (.tmp 80) (.tmp 81) 65 65 (by rfl) _ _ (by rfl) (by rfl) (hcp2 _ _) ?_)
  go_ret
  exact ⟨g, c, rfl, HF.out, HG.out, .inl rfl⟩

set_option maxRecDepth 100000 in
theorem insert_cnt_grow (B n c i q : Nat) (g : Nat) (cs news : List Value) (w : World) (h : w.ownsRow B 79 14 (Value.slice (some ⟨g, 0, none⟩) n c) n cs) (hi : i < n)
    (hq : w.heap[q]? = some (.cells news.toArray 79 (0, 0))) (hnl : news.length = 14) (hne : (Value.slice (some ⟨g, 0, none⟩) n c).ownBlock ≠ some q) (h1 : ∀ u ∈ cs, u.oneCell' = true) (h1n : ∀ u ∈ news, u.oneCell' = true)
    (hB : B ≤ w.heap.size) (hby : (n + 1) * 112 ≤ 140737488355328) (hroom : ¬ n + 1 ≤ c) :
    Calls Try.prog 64 #[Value.slice (some ⟨g, 0, none⟩) n c, .int .i64 (i : Int), .slice (some ⟨q, 0, none⟩) 1 1] w fun e w' =>
      ∃ g' c', e = .returned (.slice (some ⟨g', 0, none⟩) (n + 1) c') ∧ w'.ownsRow B 79 14 (.slice (some ⟨g', 0, none⟩) (n + 1) c') (n + 1) (cs.take (i * 14) ++ (news ++ cs.drop (i * 14))) ∧ w.grownBy w' (Value.slice (some ⟨g, 0, none⟩) n c).ownBlock ∧ ((Value.slice (some ⟨g, 0, none⟩) n c).ownBlock = some g' ∨ w.heap.size ≤ g') := by
  have H := Lib.hid h
  have H1 := Lib.hid h1
  have H1n := Lib.hid h1n
  have HQ := Lib.hid hq
  have HNL := Lib.hid hnl
  have HNE := Lib.hid hne
  have HBY := Lib.hid hby
  have hcl := Lib.hid h.1
  clear h h1 h1n hq hnl hne hby
  obtain ⟨i0, hi0, hz0, hz1, hz2⟩ := info_parts info_cnt_i
  have HNC : Hid (∀ j u, news[j]? = some u → w.cell? ((⟨q, 0, none⟩ : Addr).add j) = some u) := fun j u hu => by
    have e : (⟨q, 0, none⟩ : Addr).add j = ⟨q, j, none⟩ := by unfold Addr.add; split <;> simp_all
    rw [e]
    simp [World.cell?, HQ.out, hu]
  have t1 : ((1 : Int) == 0) = false := by decide
  have q0 : (0 : Int) ≤ (i : Int) := by omega
  obtain ⟨cur, hBg, hh, hnc, hcm, hcs, htake⟩ := own_open H.out
  have q1 : (i : Int) ≤ (n : Int) := by omega
  have t2 : ((i : Int) == (n : Int)) = false := by simp; omega
  have t3 : decide ((c : Int) < (n : Int) + 1) = true := by simp; omega
  have q3 : ((i : Int) + 1) ≤ (n : Int) + 1 := by omega
  have q4 : (0 : Int) ≤ (i : Int) + 1 := by omega
  have q5 : (i : Int) ≤ (c : Int) := by omega
  have q6 : ¬ c = i := by omega
  have q7 : (i : Int) ≤ (n : Int) + 1 := by omega
  have q8 : (0 : Int) ≤ (n : Int) + 1 := by omega
  have q9 : i ≤ n := by omega
  have hcN : cs.length = n * 14 := hcl.out
  have hi1 : i * 14 ≤ n * 14 := Nat.mul_le_mul_right _ q9
  have hdl : (cs.drop (i * 14)).length = (n - i) * 14 := by rw [List.length_drop, hcN, Nat.sub_mul]
  have hrow : ∀ j u, cs[j]? = some u → w.cell? ⟨g, j, none⟩ = some u := fun j u hu => by
    have hj : j < cs.length := (List.getElem?_eq_some_iff.1 hu).1
    rw [← htake, List.getElem?_take, if_pos (by omega)] at hu
    simp only [World.cell?, hh]
    simpa using hu
  obtain ⟨G, hG⟩ : ∃ G, G = grownCap w (n + 1) c 79 := ⟨_, rfl⟩
  have hGn : n + 1 ≤ G := by rw [hG]; exact grownCap_ge w _ _ _
  have hGm : G ≤ maxLen := by rw [hG]; exact grownCap_le_maxLen w _ _ _ (by have := HBY.out; unfold maxLen; omega)
  obtain ⟨Z, hZ⟩ : ∃ Z : Array Value, Z = (cs.take (i * 14)).toArray ++ Builtin.zeroCells (Value.agg #[Value.int .u32 0, Value.int .i64 0, Value.int .i64 0, Value.int .i64 0, Value.int .i64 0, Value.int .i64 0, Value.int .i64 0, Value.int .i64 0, Value.int .i64 0, Value.int .i64 0, Value.int .i64 0, Value.int .i64 0, Value.int .i64 0, Value.int .i64 0]).cells (n + 1 - i) ++ Builtin.zeroCells (Value.agg #[Value.int .u32 0, Value.int .i64 0, Value.int .i64 0, Value.int .i64 0, Value.int .i64 0, Value.int .i64 0, Value.int .i64 0, Value.int .i64 0, Value.int .i64 0, Value.int .i64 0, Value.int .i64 0, Value.int .i64 0, Value.int .i64 0, Value.int .i64 0]).cells (G - (n + 1)) := ⟨_, rfl⟩
  have hZl : Z.size = G * 14 := by
    rw [hZ]
    have e0 : (Value.agg #[Value.int .u32 0, Value.int .i64 0, Value.int .i64 0, Value.int .i64 0, Value.int .i64 0, Value.int .i64 0, Value.int .i64 0, Value.int .i64 0, Value.int .i64 0, Value.int .i64 0, Value.int .i64 0, Value.int .i64 0, Value.int .i64 0, Value.int .i64 0]).cells.size = 14 := rfl
    simp only [Array.size_append, List.size_toArray, List.length_take, size_zeroCells, e0]
    have := Nat.sub_mul (n + 1) i 14
    have := Nat.sub_mul G (n + 1) 14
    have := Nat.mul_le_mul_right 14 hGn
    rw [Nat.min_eq_left (by omega)]
    omega
  have hap : ∀ ty, (Builtin.append_ #[65, 3] ty #[.slice (some ⟨g, 0, none⟩) i c, .int .i64 ((n : Int) + 1 - (i : Int))]).run Try.prog w = .ok (.slice (some ⟨w.heap.size, 0, none⟩) (n + 1) G) (w.drew.alloc (.cells Z 79)) := fun ty => by
    have hold : (Builtin.firstCells i0.size i (.slice (some ⟨g, 0, none⟩) i c)).run Try.prog w.drew = .ok (cs.take (i * 14)).toArray w.drew := by
      rw [hz1]
      refine run_firstCells_some w.drew 14 i ⟨g, 0, none⟩ i c _ (by rw [List.length_take]; omega) (fun j u hu => ?_)
      rw [List.getElem?_take] at hu
      split at hu
      · have e : (⟨g, 0, none⟩ : Addr).add j = ⟨g, j, none⟩ := by unfold Addr.add; split <;> simp_all
        rw [e]; exact hrow _ _ hu
      · cases hu
    have := Lib.run_append_grow_zeros (P := Try.prog) w 65 3 ty 79 i0 (Value.agg #[Value.int .u32 0, Value.int .i64 0, Value.int .i64 0, Value.int .i64 0, Value.int .i64 0, Value.int .i64 0, Value.int .i64 0, Value.int .i64 0, Value.int .i64 0, Value.int .i64 0, Value.int .i64 0, Value.int .i64 0, Value.int .i64 0, Value.int .i64 0]) .i64 .i64 Try.underlying65 Try.underlying3 hi0 hz0 (some ⟨g, 0, none⟩) i c (cs.take (i * 14)) hold (n + 1 - i) (by omega) (by omega) (by omega) (by have := HBY.out; omega) (by rw [hz2]; have := HBY.out; have := Nat.mul_le_mul_right 112 (show n + 1 - i ≤ n + 1 by omega); omega) (by
      rw [hz2, show i + (n + 1 - i) = n + 1 by omega]
      exact growslice_fits (by omega) HBY.out)
    rw [show i + (n + 1 - i) = n + 1 by omega, ← hG, ← hZ] at this
    rw [show ((n : Int) + 1 - (i : Int)) = ((n + 1 - i : Nat) : Int) by omega]
    exact this
  obtain ⟨W1, hW1⟩ : ∃ W1, W1 = w.drew.alloc (.cells Z 79) := ⟨_, rfl⟩
  rw [← hW1] at hap
  have hhN : W1.heap[w.heap.size]? = some (.cells Z 79 (0, 0)) := by rw [hW1]; exact heap_alloc_new w.drew _
  have hold1 : ∀ k, k < w.heap.size → W1.heap[k]? = w.heap[k]? := fun k hk => by rw [hW1]; exact heap_alloc_old w.drew _ hk
  have hqs : q < w.heap.size := (Array.getElem?_eq_some_iff.1 HQ.out).1
  have hgs : g < w.heap.size := (Array.getElem?_eq_some_iff.1 hh).1
  have hgG := Nat.mul_le_mul_right 14 hGn
  have hcpA : ∀ ty dc, (Builtin.copy_ #[65, 65] ty #[.slice (some ⟨w.heap.size, i * 14, none⟩) (n + 1 - i) dc, .slice (some ⟨q, 0, none⟩) 1 1]).run Try.prog W1 = .ok (goInt ((1 : Nat) : Int)) (W1.setRow w.heap.size (splice Z.toList (i * 14) news).toArray) := fun ty dc =>
    run_copy_onto Try.underlying65 hi0 hz1 (w := W1) hhN news (by simp only [Nat.min_def]; split <;> omega) (by rw [HNL.out]) (fun j u hu => by
      have := HNC.out j u hu
      rw [← this]
      have e2 : (⟨q, 0, none⟩ : Addr).add j = ⟨q, j, none⟩ := by unfold Addr.add; split <;> simp_all
      rw [e2]
      exact World.cell?_of_block (hold1 _ hqs)) (by rw [HNL.out, hZl]; omega) H1n.out
  obtain ⟨Y, hY⟩ : ∃ Y, Y = splice Z.toList (i * 14) news := ⟨_, rfl⟩
  rw [← hY] at hcpA
  have hYl : Y.length = G * 14 := by rw [hY, length_splice _ _ _ (by rw [HNL.out, Array.length_toList, hZl]; omega), Array.length_toList, hZl]
  obtain ⟨W2, hW2⟩ : ∃ W2, W2 = W1.setRow w.heap.size Y.toArray := ⟨_, rfl⟩
  rw [← hW2] at hcpA
  have hhN2 : W2.heap[w.heap.size]? = some (.cells Y.toArray 79 (0, 0)) := by rw [hW2]; exact Go.setRow_heap W1 _ _ _ _ _ hhN
  have hold2 : ∀ k, k < w.heap.size → W2.heap[k]? = w.heap[k]? := fun k hk => by rw [hW2, setRow_other _ _ _ _ (by omega)]; exact hold1 k hk
  have hcpB : ∀ ty dc sc, (Builtin.copy_ #[65, 65] ty #[.slice (some ⟨w.heap.size, (i + 1) * 14, none⟩) (n - i) dc, .slice (some ⟨g, i * 14, none⟩) (n - i) sc]).run Try.prog W2.drew = .ok (goInt ((n - i : Nat) : Int)) (W2.drew.setRow w.heap.size (splice Y ((i + 1) * 14) (cs.drop (i * 14))).toArray) := fun ty dc sc => by
    have := run_copy_onto (P := Try.prog) (ty := ty) (sT := 65) (dCap := dc) (sCap := sc) Try.underlying65 hi0 hz1 (w := W2.drew) (o := (i + 1) * 14) (dLen := n - i) (sLen := n - i) (a := ⟨g, i * 14, none⟩) (m := n - i) hhN2 (cs.drop (i * 14)) (by simp only [Nat.min_def]; split <;> omega) hdl (fun j u hu => by
      rw [List.getElem?_drop] at hu
      have e : (⟨g, i * 14, none⟩ : Addr).add j = ⟨g, i * 14 + j, none⟩ := by unfold Addr.add; split <;> simp_all
      rw [e, ← hrow _ _ hu]
      exact World.cell?_of_block (hold2 g hgs)) (by rw [hdl]; simp [hYl]; have := Nat.sub_mul n i 14; omega) (fun u hu => H1.out u (List.mem_of_mem_drop hu))
    simpa using this
  have hfin : ((W2.drew.setRow w.heap.size (splice Y ((i + 1) * 14) (cs.drop (i * 14))).toArray).ownsRow B 79 14 (.slice (some ⟨w.heap.size, 0, none⟩) (n + 1) G) (n + 1) (cs.take (i * 14) ++ (news ++ cs.drop (i * 14)))) := by
    have hsl : (splice Y ((i + 1) * 14) (cs.drop (i * 14))).length = G * 14 := by rw [length_splice _ _ _ (by rw [hdl, hYl]; have := Nat.sub_mul n i 14; omega), hYl]
    refine ⟨by simp [HNL.out, hcN]; omega, .inr ⟨w.heap.size, G, _, rfl, hB, Go.setRow_heap _ _ _ _ 79 (0, 0) hhN2, by omega, hGm, by simp only [List.size_toArray, hsl], ?_⟩⟩
    have ea : (cs.take (i * 14)).length = i * 14 := by rw [List.length_take]; omega
    have eY : Y.take ((i + 1) * 14) = cs.take (i * 14) ++ news := by
      rw [hY, hZ]
      unfold splice
      have e5 : ((cs.take (i * 14)).toArray ++ Builtin.zeroCells (Value.agg #[Value.int .u32 0, Value.int .i64 0, Value.int .i64 0, Value.int .i64 0, Value.int .i64 0, Value.int .i64 0, Value.int .i64 0, Value.int .i64 0, Value.int .i64 0, Value.int .i64 0, Value.int .i64 0, Value.int .i64 0, Value.int .i64 0, Value.int .i64 0]).cells (n + 1 - i) ++ Builtin.zeroCells (Value.agg #[Value.int .u32 0, Value.int .i64 0, Value.int .i64 0, Value.int .i64 0, Value.int .i64 0, Value.int .i64 0, Value.int .i64 0, Value.int .i64 0, Value.int .i64 0, Value.int .i64 0, Value.int .i64 0, Value.int .i64 0, Value.int .i64 0, Value.int .i64 0]).cells (G - (n + 1))).toList.take (i * 14) = cs.take (i * 14) := by
        simp only [Array.toList_append]
        rw [List.append_assoc, List.take_append_of_le_length (by rw [ea]; omega), List.take_of_length_le (by rw [ea]; omega)]
      rw [e5, ← List.append_assoc, List.take_append_of_le_length (by rw [List.length_append, ea, HNL.out]; omega), List.take_of_length_le (by rw [List.length_append, ea, HNL.out]; omega)]
    simp only [splice]
    rw [eY, ← List.append_assoc, List.take_append_of_le_length (by simp only [List.length_append, ea, HNL.out, hdl]; have := Nat.sub_mul n i 14; omega), List.take_of_length_le (by simp only [List.length_append, ea, HNL.out, hdl]; have := Nat.sub_mul n i 14; omega), List.append_assoc]
  have HF := Lib.hid hfin
  have hg : w.grownBy (W2.drew.setRow w.heap.size (splice Y ((i + 1) * 14) (cs.drop (i * 14))).toArray) (some g) := by
    refine ⟨by rw [hW2, hW1]; rfl, by rw [hW2, hW1]; rfl, by rw [hW2, hW1]; rfl, by rw [hW2, hW1]; simp, fun k hk _ => ?_⟩
    rw [setRow_other _ _ _ _ (by omega)]
    exact hold2 k hk
  have HG := Lib.hid hg
  clear hg hfin
  obtain ⟨W3, hW3⟩ : ∃ W3, W3 = W2.drew.setRow w.heap.size (splice Y ((i + 1) * 14) (cs.drop (i * 14))).toArray := ⟨_, rfl⟩
  rw [← hW3] at hcpB HF HG
  clear hW3
  have hG63 : G ≤ 9223372036854775807 := hGm
  have g1 : ¬ G = i := by omega
  have g2 : ¬ G = i + 1 := by omega
  have g3 : (i : Int) ≤ (n : Int) + 1 := by omega
  clear hold2 hhN2 hYl hgG hold1 hhN hZl hrow hdl hi1 hcN htake hcs hcm hh HNC H1n H1 HNL HNE HQ HBY hcl hGm hY hZ hG hqs hgs
  clear hW1 hW2
  go_enter Try.func64, Try.ntmps64
  have wi : IntKind.i64.wrap ((i : Int) + 1) = (i : Int) + 1 := by rw [IntKind.wrap_i64]; omega
  go_wp2_with (first
    | (at_builtin; refine wpList_append_eq (by rfl) (.tmp 34) (.tmp 39) 65 3 (by rfl) _ _ (by rfl) (by rfl) (hap _) ?_; clear hap)
    | (refine wpList_copy_eq (by rfl) (.tmp 43) (.tmp 44) 65 65 (by rfl) _ _ (by rfl) (by rfl) (hcpA _ _) ?_; clear hcpA))
  go_still_tail 8, (by kernel_rfl)
  refine wpList_copy_eq (by rfl) (.tmp 50) (.tmp 53) 65 65 (by rfl) _ _ (by rfl) (by rfl) (hcpB _ _ _) ?_
  go_wp2
  go_ret
  exact ⟨_, _, rfl, HF.out, HG.out, .inr (Nat.le_refl _)⟩

set_option maxRecDepth 100000 in
theorem insert_cnt_nil (B q : Nat) (news : List Value) (w : World) (hq : w.heap[q]? = some (.cells news.toArray 79 (0, 0))) (hnl : news.length = 14) (h1n : ∀ u ∈ news, u.oneCell' = true) (hB : B ≤ w.heap.size) :
    Calls Try.prog 64 #[.slice none 0 0, .int .i64 0, .slice (some ⟨q, 0, none⟩) 1 1] w fun e w' =>
      ∃ g' c', e = .returned (.slice (some ⟨g', 0, none⟩) 1 c') ∧ w'.ownsRow B 79 14 (.slice (some ⟨g', 0, none⟩) 1 c') 1 news ∧ w.grownBy w' none ∧ w.heap.size ≤ g' := by
  have H1n := Lib.hid h1n
  have HQ := Lib.hid hq
  have HNL := Lib.hid hnl
  clear h1n hq hnl
  obtain ⟨i0, hi0, hz0, hz1, hz2⟩ := info_parts info_cnt_i
  have HNC : Hid (∀ j u, news[j]? = some u → w.cell? ((⟨q, 0, none⟩ : Addr).add j) = some u) := fun j u hu => by
    have e : (⟨q, 0, none⟩ : Addr).add j = ⟨q, j, none⟩ := by unfold Addr.add; split <;> simp_all
    rw [e]
    simp [World.cell?, HQ.out, hu]
  have t1 : ((1 : Int) == 0) = false := by decide
  have t2 : ((0 : Int) == 0) = true := by decide
  go_enter Try.func64, Try.ntmps64
  go_wp2_with (at_builtin; refine wpList_append_lies _ (by rfl) (.tmp 23) (.tmp 24) 65 (by rfl) B 79 i0 (Value.agg #[Value.int .u32 0, Value.int .i64 0, Value.int .i64 0, Value.int .i64 0, Value.int .i64 0, Value.int .i64 0, Value.int .i64 0, Value.int .i64 0, Value.int .i64 0, Value.int .i64 0, Value.int .i64 0, Value.int .i64 0, Value.int .i64 0, Value.int .i64 0]) 14 112 Try.underlying65 hi0 hz0 hz1 hz2 rfl (by decide) (.slice none 0 0) 0 [] (by rfl) (World.ownsRow_nil _ _ _ _) ⟨q, 0, none⟩ 1 1 news (by rfl) HNL.out HNC.out H1n.out (by decide) (by decide) (by decide) hB w.heap.size rfl ?_; intro g cap w1 hown hgrow hat hlt)
  go_ret
  refine ⟨g, cap, rfl, hown, hgrow, ?_⟩
  rcases hat with e | e
  · simp [Value.ownBlock] at e
  · omega

/-- slices.Insert of one element at i, for every row that the call owns (nil too). -/
theorem insert_cnt (B n i q : Nat) (v : Value) (cs news : List Value) (w : World) (h : w.ownsRow B 79 14 v n cs) (hi : i ≤ n)
    (hq : w.heap[q]? = some (.cells news.toArray 79 (0, 0))) (hnl : news.length = 14) (hne : v.ownBlock ≠ some q) (h1 : ∀ u ∈ cs, u.oneCell' = true) (h1n : ∀ u ∈ news, u.oneCell' = true)
    (hB : B ≤ w.heap.size) (hby : (n + 1) * 112 ≤ 140737488355328) :
    Calls Try.prog 64 #[v, .int .i64 (i : Int), .slice (some ⟨q, 0, none⟩) 1 1] w fun e w' =>
      ∃ g' c', e = .returned (.slice (some ⟨g', 0, none⟩) (n + 1) c') ∧ w'.ownsRow B 79 14 (.slice (some ⟨g', 0, none⟩) (n + 1) c') (n + 1) (cs.take (i * 14) ++ (news ++ cs.drop (i * 14))) ∧ w.grownBy w' v.ownBlock ∧ (v.ownBlock = some g' ∨ w.heap.size ≤ g') := by
  have h' := h
  rcases h.2 with ⟨rfl, rfl⟩ | ⟨g, c, cur, rfl, _⟩
  · obtain rfl : i = 0 := by omega
    obtain rfl : cs = [] := List.eq_nil_of_length_eq_zero (by simpa using h.1)
    refine (insert_cnt_nil B q news w hq hnl h1n hB).mono fun e w' ⟨g', c', he, ho, hg, hs⟩ => ⟨g', c', he, by simpa using ho, hg, .inr hs⟩
  · by_cases hin : i = n
    · exact insert_cnt_end B n c i q g cs news w h' hin hq hnl hne h1 h1n hB hby
    · by_cases hr : n + 1 ≤ c
      · exact insert_cnt_shift B n c i q g cs news w h' (by omega) hq hnl hne h1 h1n hB hby hr
      · exact insert_cnt_grow B n c i q g cs news w h' (by omega) hq hnl hne h1 h1n hB hby hr
end Go.Proofs.Ytdkacdfhapgboaa
