/- Part 14 of the texts that the proof stands on: FeedT, FeedU. -/
import Derived.Test.YtdkacdfhapgboaaM13

/- sim.Feed in full: sums of the numbers, for SimSums. No program in sight. -/
set_option linter.unusedVariables false
set_option linter.unusedSimpArgs false
namespace Go.Proofs.Ytdkacdfhapgboaa

/-- The sum of one number over all instructions. -/
def colS (N : List (List Int)) (j : Nat) : Int := (N.map fun c => gi c j).sum
theorem colS_append (A B : List (List Int)) (j : Nat) : colS (A ++ B) j = colS A j + colS B j := by simp [colS]
theorem colS_cons (c : List Int) (B : List (List Int)) (j : Nat) : colS (c :: B) j = gi c j + colS B j := by simp [colS]
theorem colS_set (N : List (List Int)) (i : Nat) (hi : i < N.length) (d : List Int) (j : Nat) : colS (N.set i d) j = colS N j - gi (gn N i) j + gi d j := by
  have hg : gn N i = N[i] := by simp [gn, List.getD_eq_getElem?_getD, hi]
  have h1 : N = N.take i ++ N[i] :: N.drop (i + 1) := by
    conv => lhs; rw [← List.take_append_drop i N, List.drop_eq_getElem_cons hi]
  have h2 : N.set i d = N.take i ++ d :: N.drop (i + 1) := by rw [List.set_eq_take_append_cons_drop, if_pos hi]
  have h3 : colS N j = colS (N.take i) j + (gi N[i] j + colS (N.drop (i + 1)) j) := by
    conv => lhs; rw [h1]
    rw [colS_append, colS_cons]
  rw [h2, colS_append, colS_cons, h3, hg]
  omega
theorem colS_row (N : List (List Int)) (pc : Int) (j : Nat) (h1 : 1 ≤ j) (hj : j < 14) : colS (rowN N pc) j = colS N j := by
  unfold rowN
  split
  · rfl
  · rw [colS_append, colS_cons, zeros_gi pc j h1 hj]
    have : colS N j = colS (N.take (posN N pc)) j + colS (N.drop (posN N pc)) j := by
      rw [← colS_append, List.take_append_drop]
    omega
/-- What an event adds to how often it was counted. -/
def evCol (k : Int) (j : Nat) : Int :=
  if k = 1 then (if j = 1 then 1 else 0) else if k = 2 then (if j = 4 then 1 else 0) else if k = 3 then (if j = 7 then 1 else 0) else if k = 4 then (if j = 4 ∨ j = 7 then 1 else 0) else if k = 5 then (if j = 10 then 1 else 0) else (if j = 12 then 1 else 0)
theorem acts_col (K : GC) (s : GS) (e c : List Int) (hl : c.length = 14) (j : Nat) (hj : j = 1 ∨ j = 4 ∨ j = 7 ∨ j = 10 ∨ j = 12) : gi (s.acts K e c).2 j = gi c j + evCol (gi e 0) j := by
  have hj14 : j < 14 := by omega
  unfold GS.acts evCol
  split
  · rw [addC_gi c 1 _ _ hl (by omega) j hj14]
    rcases hj with rfl | rfl | rfl | rfl | rfl <;> simp
  · split
    · rw [addC_gi c 4 _ _ hl (by omega) j hj14]
      rcases hj with rfl | rfl | rfl | rfl | rfl <;> simp
    · split
      · rw [addC_gi c 7 _ _ hl (by omega) j hj14]
        rcases hj with rfl | rfl | rfl | rfl | rfl <;> simp
      · split
        · rw [add1_gi _ 7 j (by rw [addC_len]; omega) (by rw [addC_len]; omega), addC_gi c 4 _ _ hl (by omega) j hj14]
          rcases hj with rfl | rfl | rfl | rfl | rfl <;> simp
        · split
          · dsimp only
            split
            · rw [add1_gi _ 10 j (by omega) (by omega)]
              rcases hj with rfl | rfl | rfl | rfl | rfl <;> simp
            · rw [add1_gi _ 11 j (by rw [add1_len]; omega) (by rw [add1_len]; omega), add1_gi _ 10 j (by omega) (by omega)]
              rcases hj with rfl | rfl | rfl | rfl | rfl <;> simp
          · dsimp only
            split
            · rw [add1_gi _ 12 j (by omega) (by omega)]
              rcases hj with rfl | rfl | rfl | rfl | rfl <;> simp
            · rw [add1_gi _ 13 j (by rw [add1_len]; omega) (by rw [add1_len]; omega), add1_gi _ 12 j (by omega) (by omega)]
              rcases hj with rfl | rfl | rfl | rfl | rfl <;> simp
/-- Does an event count? -/
def evOn (e : List Int) : Bool := kindB (gi e 0) && wfB (gi e 0) (gi e 4) (gi e 5)
theorem GS.ev_col {K : GC} {s s' : GS} {e : List Int} (h : NOk s.N) (he : s.ev K e = some s') (j : Nat) (hj : j = 1 ∨ j = 4 ∨ j = 7 ∨ j = 10 ∨ j = 12) : colS s'.N j = colS s.N j + if evOn e then evCol (gi e 0) j else 0 := by
  have hc : (s.called K e).N = s.N := by unfold GS.called; split <;> rfl
  unfold GS.ev at he
  by_cases ho : evOn e = true
  · rw [if_pos (show (kindB (gi e 0) && wfB (gi e 0) (gi e 4) (gi e 5)) = true from ho), hc] at he
    rw [if_pos ho]
    have h1 := h.row (gi e 2)
    obtain ⟨h2, _⟩ := rowN_at (pc := gi e 2) h.sorted
    have hl : (gn (rowN s.N (gi e 2)) (posN s.N (gi e 2))).length = 14 := by
      have : gn (rowN s.N (gi e 2)) (posN s.N (gi e 2)) = (rowN s.N (gi e 2))[posN s.N (gi e 2)] := by simp [gn, List.getD_eq_getElem?_getD, h2]
      rw [this]
      exact h1.len _ (List.getElem_mem h2)
    dsimp only at he
    split at he
    · cases he
    · cases he
      dsimp only
      rw [colS_set _ _ h2, colS_row _ _ j (by omega) (by omega), acts_col K _ e _ hl j hj]
      omega
  · rw [if_neg (show ¬ (kindB (gi e 0) && wfB (gi e 0) (gi e 4) (gi e 5)) = true from ho)] at he
    rw [if_neg ho]
    cases he
    rw [hc]
    omega
/-- How often events of a feed are counted. -/
def evSum (es : List (List Int)) (j : Nat) : Int := (es.map fun e => if evOn e then evCol (gi e 0) j else 0).sum
theorem GS.feed_col {K : GC} (j : Nat) (hj : j = 1 ∨ j = 4 ∨ j = 7 ∨ j = 10 ∨ j = 12) : ∀ (es : List (List Int)) {s s' : GS}, NOk s.N → s.feed K es = some s' → colS s'.N j = colS s.N j + evSum es j
  | [], s, s', h, he => by
    unfold GS.feed at he
    cases he
    simp [evSum]
  | e :: es, s, s', h, he => by
    unfold GS.feed at he
    rw [List.foldlM_cons] at he
    cases h1 : s.ev K e with
    | none => rw [h1] at he; cases he
    | some s1 =>
      rw [h1] at he
      have h2 := GS.feed_col j hj es (h.ev h1) he
      have h3 := GS.ev_col h h1 j hj
      have h4 : evSum (e :: es) j = (if evOn e then evCol (gi e 0) j else 0) + evSum es j := by simp [evSum]
      rw [h2, h3, h4]
      omega
/-- Events that neither count nor are calls change nothing. -/
theorem GS.ev_idle (K : GC) (s : GS) (e : List Int) (h : evOn e = false) (h6 : gi e 0 ≠ 6) : s.ev K e = some s := by
  unfold GS.ev
  rw [if_neg (by unfold evOn at h; rw [h]; simp)]
  unfold GS.called
  rw [if_neg h6]
theorem GS.feed_filter (K : GC) (p : List Int → Bool) : ∀ (es : List (List Int)) (s : GS), (∀ e ∈ es, p e = false → evOn e = false ∧ gi e 0 ≠ 6) → s.feed K (es.filter p) = s.feed K es
  | [], s, _ => rfl
  | e :: es, s, h => by
    cases hp : p e
    · obtain ⟨h1, h2⟩ := h e (by simp) hp
      rw [List.filter_cons_of_neg (by rw [hp]; simp)]
      have h3 := GS.feed_filter K p es s fun x hx => h x (by simp [hx])
      rw [h3]
      unfold GS.feed
      rw [List.foldlM_cons, GS.ev_idle K s e h1 h2]
      rfl
    · rw [List.filter_cons_of_pos hp]
      unfold GS.feed
      rw [List.foldlM_cons, List.foldlM_cons]
      cases s.ev K e with
      | none => rfl
      | some s1 => exact GS.feed_filter K p es s1 fun x hx => h x (by simp [hx])
theorem nLines_one (line x : Int) (h1 : 1 ≤ line) : nLines line (x * line) line = 1 := by
  unfold nLines
  have e1 : x * line / line = x := Int.mul_ediv_cancel _ (by omega)
  have e2 : (x * line + line - 1) / line = x := by
    rw [show x * line + line - 1 = (line - 1) + line * x by rw [Int.mul_comm]; omega, Int.add_mul_ediv_left _ _ (by omega), Int.ediv_eq_zero_of_lt (by omega) (by omega)]
    omega
  rw [e1, e2]
  omega
theorem far_near (line nL lw : Int) (h1 : 1 ≤ line) : ∀ (xs : List Int) (L : List (List Int)), (∀ x ∈ xs, 0 ≤ x ∧ x * line < 4294967296) → (farL line line nL lw L xs).2 ≤ xs.length
  | [], L, _ => by simp [farL]
  | x :: xs, L, h => by
    have hx := h x (by simp)
    have h0 : 0 ≤ x * line := Int.mul_nonneg hx.1 (by omega)
    have hw : IntKind.u32.wrap (x * line) = x * line := by rw [IntKind.wrap_u32]; omega
    have ih := far_near line nL lw h1 xs (runL nL lw L (linI line (IntKind.u32.wrap (x * line)) line)).1 fun y hy => h y (by simp [hy])
    have ho := runL_out_le nL lw (linI line (IntKind.u32.wrap (x * line)) line) L
    rw [linI_len, hw, nLines_one line x h1] at ho
    rw [hw] at ih
    simp only [farL, List.length_cons, hw]
    omega
/-- Of what is counted, not more is far than near, and not more is wrong than there is. -/
structure RowLe (c : List Int) : Prop where
  x : gi c 3 ≤ gi c 2
  l : gi c 6 ≤ gi c 5
  s : gi c 9 ≤ gi c 8
  b : gi c 11 ≤ gi c 10
  r : gi c 13 ≤ gi c 12
theorem RowLe.zero (pc : Int) : RowLe (pc :: List.replicate 13 0) := ⟨by simp [gi], by simp [gi], by simp [gi], by simp [gi], by simp [gi]⟩
theorem RowLe.addC {c : List Int} (h : RowLe c) (hl : c.length = 14) (j : Nat) (hj : j = 1 ∨ j = 4 ∨ j = 7) (m d : Int) (hd : d ≤ m) : RowLe (addC c j m d) := by
  have e : ∀ i, i < 14 → gi (Go.Proofs.Ytdkacdfhapgboaa.addC c j m d) i = _ := fun i hi => addC_gi c j m d hl (by omega) i hi
  obtain ⟨h1, h2, h3, h4, h5⟩ := h
  rcases hj with rfl | rfl | rfl
  all_goals
    refine ⟨?_, ?_, ?_, ?_, ?_⟩
    all_goals
      rw [e _ (by omega), e _ (by omega)]
      simp
      try omega
theorem RowLe.add1 {c : List Int} (h : RowLe c) (hl : c.length = 14) (j : Nat) (hj : j = 7 ∨ j = 10 ∨ j = 12) : RowLe (add1 c j) := by
  have e : ∀ i, i < 14 → gi (Go.Proofs.Ytdkacdfhapgboaa.add1 c j) i = _ := fun i hi => add1_gi c j i (by omega) (by omega)
  obtain ⟨h1, h2, h3, h4, h5⟩ := h
  rcases hj with rfl | rfl | rfl
  all_goals
    refine ⟨?_, ?_, ?_, ?_, ?_⟩
    all_goals
      rw [e _ (by omega), e _ (by omega)]
      simp
      try omega
theorem RowLe.add2 {c : List Int} (h : RowLe c) (hl : c.length = 14) (j : Nat) (hj : j = 10 ∨ j = 12) : RowLe (Go.Proofs.Ytdkacdfhapgboaa.add1 (Go.Proofs.Ytdkacdfhapgboaa.add1 c j) (j + 1)) := by
  have e : ∀ i, i < 14 → gi (Go.Proofs.Ytdkacdfhapgboaa.add1 (Go.Proofs.Ytdkacdfhapgboaa.add1 c j) (j + 1)) i = if j + 1 = i then (if j = i then gi c i + 1 else gi c i) + 1 else (if j = i then gi c i + 1 else gi c i) := fun i hi => by
    rw [add1_gi _ (j + 1) i (by rw [add1_len]; omega) (by rw [add1_len]; omega), add1_gi c j i (by omega) (by omega)]
  obtain ⟨h1, h2, h3, h4, h5⟩ := h
  rcases hj with rfl | rfl
  all_goals
    refine ⟨?_, ?_, ?_, ?_, ?_⟩
    all_goals
      rw [e _ (by omega), e _ (by omega)]
      simp
      try omega
theorem near_range {line nL w : Int} {L : List (List Int)} (at_ n : Int) (h1 : 1 ≤ line) (h2 : line ≤ 4294967296) : ∀ x ∈ (runL nL w L (linI line at_ n)).2, 0 ≤ x ∧ x * line < 4294967296 := fun x hx => by
  obtain ⟨a, b⟩ := linI_lt line at_ n h1 h2 x ((runL_sub nL w (linI line at_ n) L).1 x hx)
  refine ⟨a, ?_⟩
  have h3 : (x + 1) * line ≤ 4294967296 := by
    have h4 : x + 1 ≤ 4294967296 / line := by omega
    have h5 : (x + 1) * line ≤ (4294967296 / line) * line := Int.mul_le_mul_of_nonneg_right h4 (by omega)
    have h6 : (4294967296 / line) * line ≤ 4294967296 := Int.ediv_mul_le _ (by omega)
    omega
  rw [Int.add_mul, Int.one_mul] at h3
  omega
theorem acts_le (K : GC) (s : GS) (e c : List Int) (hl : c.length = 14) (h : RowLe c) (h1 : 1 ≤ K.ll) (h2 : K.ll ≤ 4294967296) (hi : K.il = K.ll) (hd : K.dl = K.ll) : RowLe (s.acts K e c).2 := by
  have f1 : (farL K.il K.ll s.L.length K.lw s.L (runL s.I.length K.iw s.I (linI K.il (gi e 2) (gi e 5))).2).2 ≤ (runL s.I.length K.iw s.I (linI K.il (gi e 2) (gi e 5))).2.length := by
    rw [hi]; exact far_near K.ll _ _ h1 _ _ (near_range _ _ h1 h2)
  have f2 : (farL K.dl K.ll s.L.length K.lw s.L (runL s.D.length K.dw s.D (linI K.dl (gi e 3) (gi e 5))).2).2 ≤ (runL s.D.length K.dw s.D (linI K.dl (gi e 3) (gi e 5))).2.length := by
    rw [hd]; exact far_near K.ll _ _ h1 _ _ (near_range _ _ h1 h2)
  unfold GS.acts
  split
  · exact h.addC hl 1 (by omega) _ _ (by omega)
  · split
    · exact h.addC hl 4 (by omega) _ _ (by omega)
    · split
      · exact h.addC hl 7 (by omega) _ _ (by omega)
      · split
        · exact (h.addC hl 4 (by omega) _ _ (by omega)).add1 (by rw [addC_len, hl]) 7 (by omega)
        · split
          · dsimp only
            split
            · exact h.add1 hl 10 (by omega)
            · exact h.add2 hl 10 (by omega)
          · dsimp only
            split
            · exact h.add1 hl 12 (by omega)
            · exact h.add2 hl 12 (by omega)
theorem rowsLe_ev {K : GC} {s s' : GS} {e : List Int} (h : NOk s.N) (hr : ∀ c ∈ s.N, RowLe c) (h1 : 1 ≤ K.ll) (h2 : K.ll ≤ 4294967296) (hi : K.il = K.ll) (hd : K.dl = K.ll) (he : s.ev K e = some s') : ∀ c ∈ s'.N, RowLe c := by
  have hc : (s.called K e).N = s.N := by unfold GS.called; split <;> rfl
  unfold GS.ev at he
  split at he
  · rw [hc] at he
    have hk := h.row (gi e 2)
    obtain ⟨hp, _⟩ := rowN_at (pc := gi e 2) h.sorted
    have hg : gn (rowN s.N (gi e 2)) (posN s.N (gi e 2)) = (rowN s.N (gi e 2))[posN s.N (gi e 2)] := by simp [gn, List.getD_eq_getElem?_getD, hp]
    have hmem : ∀ c ∈ rowN s.N (gi e 2), RowLe c := fun c hc => by
      unfold rowN at hc
      split at hc
      · exact hr c hc
      · rcases List.mem_append.1 hc with m1 | m1
        · exact hr c (List.mem_of_mem_take m1)
        · rcases List.mem_cons.1 m1 with m2 | m2
          · rw [m2]; exact RowLe.zero _
          · exact hr c (List.mem_of_mem_drop m2)
    dsimp only at he
    split at he
    · cases he
    · cases he
      intro c hc
      rcases List.mem_or_eq_of_mem_set hc with m1 | m1
      · exact hmem c m1
      · rw [m1]
        refine acts_le K _ e _ ?_ ?_ h1 h2 hi hd
        · rw [hg]; exact hk.len _ (List.getElem_mem hp)
        · rw [hg]; exact hmem _ (List.getElem_mem hp)
  · cases he
    rw [hc]
    exact hr
theorem rowsLe_feed {K : GC} (h1 : 1 ≤ K.ll) (h2 : K.ll ≤ 4294967296) (hi : K.il = K.ll) (hd : K.dl = K.ll) : ∀ (es : List (List Int)) {s s' : GS}, NOk s.N → (∀ c ∈ s.N, RowLe c) → s.feed K es = some s' → ∀ c ∈ s'.N, RowLe c
  | [], s, s', h, hr, he => by
    unfold GS.feed at he
    cases he
    exact hr
  | e :: es, s, s', h, hr, he => by
    unfold GS.feed at he
    rw [List.foldlM_cons] at he
    cases h3 : s.ev K e with
    | none => rw [h3] at he; cases he
    | some s1 =>
      rw [h3] at he
      exact rowsLe_feed h1 h2 hi hd es (h.ev h3) (rowsLe_ev h hr h1 h2 hi hd h3) he
theorem colS_le (i j : Nat) : ∀ (N : List (List Int)), (∀ c ∈ N, gi c i ≤ gi c j) → colS N i ≤ colS N j
  | [], _ => by simp [colS]
  | c :: N, h => by
    rw [colS_cons, colS_cons]
    have h1 := h c (by simp)
    have h2 := colS_le i j N fun x hx => h x (by simp [hx])
    omega
end Go.Proofs.Ytdkacdfhapgboaa

/- SimSums in plain words: Total's sums are colS. -/
set_option linter.unusedVariables false
set_option linter.unusedSimpArgs false
namespace Go.Proofs.Ytdkacdfhapgboaa

theorem totL_col (ns : List (List Int)) (j : Nat) (hj : j < 13) : ∀ k, k ≤ ns.length → gi (totL ns k) j = colS (ns.take k) (j + 1)
  | 0, _ => by
    simp only [totL, List.take_zero, colS, List.map_nil, List.sum_nil]
    rw [gi_get _ _ (by simp; exact hj), List.getElem_replicate]
  | k + 1, hk => by
    have ih := totL_col ns j hj k (by omega)
    have hg : gn ns k = ns[k] := by simp [gn, List.getD_eq_getElem?_getD, show k < ns.length by omega]
    simp only [totL]
    rw [addL_gi _ _ _ _ hj, if_pos hj, ih, cntX_gi _ _ hj, List.take_succ_eq_append_getElem (by omega), colS_append, hg]
    simp [colS]
theorem tot_col (ns : List (List Int)) (j : Nat) (hj : j < 13) : gi (totL ns ns.length) j = colS ns (j + 1) := by
  have := totL_col ns j hj ns.length (Nat.le_refl _)
  rw [List.take_length] at this
  exact this
theorem NOk.nil : NOk [] := ⟨fun i j _ h => absurd h (by simp), fun c h => absurd h (by simp), fun c h => absurd h (by simp)⟩
theorem NOk.cntsOk {N : List (List Int)} (h : NOk N) : cntsOk N := fun k hk => by
  have hg : gn N k = N[k] := by simp [gn, List.getD_eq_getElem?_getD, hk]
  refine ⟨fun h0 => h.sorted (k - 1) k (by omega) hk, ?_⟩
  rw [List.any_eq_false]
  intro x hx
  unfold cntX at hx
  obtain ⟨j, hj, e⟩ := List.mem_map.1 hx
  have h1 := h.num _ (List.getElem_mem hk) (j + 1) (by omega) (by simp at hj; omega)
  rw [← e, hg]
  simp [bigN]
  omega
/-- SimSums in plain words: a new simulation (no numbers) that was fed. -/
theorem sums_plain {K : GC} {s s' : GS} {es : List (List Int)} (h0 : s.N = []) (h1 : 1 ≤ K.ll) (h2 : K.ll ≤ 4294967296) (hi : K.il = K.ll) (hd : K.dl = K.ll) (he : s.feed K es = some s') :
    (∀ j, j = 1 ∨ j = 4 ∨ j = 7 ∨ j = 10 ∨ j = 12 → gi (totL s'.N s'.N.length) (j - 1) = evSum es j) ∧ gi (totL s'.N s'.N.length) 2 ≤ gi (totL s'.N s'.N.length) 1 ∧ gi (totL s'.N s'.N.length) 5 ≤ gi (totL s'.N s'.N.length) 4 ∧ gi (totL s'.N s'.N.length) 8 ≤ gi (totL s'.N s'.N.length) 7 ∧
      gi (totL s'.N s'.N.length) 10 ≤ evSum es 10 ∧ gi (totL s'.N s'.N.length) 12 ≤ evSum es 12 := by
  have hn : NOk s.N := by rw [h0]; exact NOk.nil
  have hz : ∀ j, colS s.N j = 0 := fun j => by rw [h0]; rfl
  have hr := rowsLe_feed h1 h2 hi hd es hn (by rw [h0]; intro c hc; cases hc) he
  have hcol : ∀ j, j = 1 ∨ j = 4 ∨ j = 7 ∨ j = 10 ∨ j = 12 → colS s'.N j = evSum es j := fun j hj => by
    have := GS.feed_col j hj es hn he
    rw [hz] at this
    omega
  have c10 := hcol 10 (by omega)
  have c12 := hcol 12 (by omega)
  refine ⟨fun j hj => ?_, ?_, ?_, ?_, ?_, ?_⟩
  · rw [tot_col _ _ (by omega), show j - 1 + 1 = j by omega]
    exact hcol j hj
  · rw [tot_col _ _ (by omega), tot_col _ _ (by omega)]
    exact colS_le 3 2 _ fun c hc => (hr c hc).x
  · rw [tot_col _ _ (by omega), tot_col _ _ (by omega)]
    exact colS_le 6 5 _ fun c hc => (hr c hc).l
  · rw [tot_col _ _ (by omega), tot_col _ _ (by omega)]
    exact colS_le 9 8 _ fun c hc => (hr c hc).s
  · rw [tot_col _ _ (by omega), ← c10]
    exact colS_le 11 10 _ fun c hc => (hr c hc).b
  · rw [tot_col _ _ (by omega), ← c12]
    exact colS_le 13 12 _ fun c hc => (hr c hc).r
end Go.Proofs.Ytdkacdfhapgboaa
