/- Part 11 of the texts that the proof stands on: Args, LawP, LawS, LawC, LawO, LawQ, LawR, LawK. -/
import Derived.Test.YtdkacdfhapgboaaM10
import Derived.OpenShut

/- Arguments as they come in: slices of numbers, numbers. -/
set_option linter.unusedVariables false
namespace Go.Proofs.Ytdkacdfhapgboaa
open Go.RowKit

theorem wf_u32 {n : Int} (h : (Lit.int .u32 n).wf = true) : 0 ≤ n ∧ n < 4294967296 := by
  have := bounds_u32 h
  omega
theorem wf_u8 {n : Int} (h : (Lit.int .u8 n).wf = true) : 0 ≤ n ∧ n < 256 := by
  have := bounds_u8 h
  omega
theorem wf_u16 {n : Int} (h : (Lit.int .u16 n).wf = true) : 0 ≤ n ∧ n < 65536 := by
  have := bounds_u16 h
  omega
/-- A slice of numbers that came in. -/
theorem row_rd {k : IntKind} {w : World} {a : Option Addr} {len cap : Nat} {zs : List Int}
    (h : (a = none ∧ len = 0 ∧ cap = 0 ∧ zs = []) ∨ ∃ x, a = some x ∧ len ≤ cap ∧ cap ≤ maxLen ∧ zs.length = cap ∧ (∀ i, i < zs.length → w.cell? (x.add i) = some (.int k (zs.getD i 0))) ∧ ∀ n ∈ zs, (Lit.int k n).wf = true) :
    ∃ xs : List Int, xs.length = len ∧ RdI w k a len xs ∧ (a = none → cap = 0) ∧ len ≤ cap ∧ len ≤ 9223372036854775807 ∧ ∀ n ∈ xs, (Lit.int k n).wf = true := by
  rcases h with ⟨rfl, rfl, rfl, rfl⟩ | ⟨x, rfl, h1, h2, h3, h4, h5⟩
  · exact ⟨[], rfl, ⟨by simp, by omega, fun j hj => absurd hj (by simp)⟩, fun _ => rfl, Nat.le_refl _, by omega, fun n hn => absurd hn (by simp)⟩
  · have hl : len ≤ 9223372036854775807 := by unfold maxLen at h2; omega
    refine ⟨zs.take len, by simp; omega, ⟨by simp; omega, hl, fun j hj => ⟨x, rfl, ?_⟩⟩, fun h => (by cases h), h1, hl, fun n hn => h5 n (List.mem_of_mem_take hn)⟩
    have hj' : j < len := by simp at hj; omega
    rw [h4 j (by omega)]
    simp [nums, List.getD_eq_getElem?_getD, List.getElem?_eq_getElem (show j < zs.length by omega)]
end Go.Proofs.Ytdkacdfhapgboaa

/- The statements on caches in plain words: hits by distance, more ways, first accesses, exchanged accesses. No program in sight. -/
set_option linter.unusedVariables false
set_option linter.unusedSimpArgs false
namespace Go.Proofs.Ytdkacdfhapgboaa

theorem setNo_ltn (n : Nat) (hn : 1 ≤ n) (x : Int) : setNo n x < n := by
  unfold setNo
  have h1 := Int.emod_nonneg x (show (n : Int) ≠ 0 by omega)
  have h2 := Int.emod_lt_of_pos x (show (0 : Int) < n by omega)
  omega
theorem gl_new (n i : Nat) (hi : i < n) : gl (List.replicate n []) i = [] := by
  simp [gl, List.getD_eq_getElem?_getD, List.getElem?_replicate, hi]
/-- The lines of a set, in order of their use. -/
def ofSet (n : Nat) (s : Nat) (xs : List Int) : List Int := xs.filter fun x => setNo n x == s
theorem mem_ofSet (n s : Nat) (xs : List Int) (y : Int) : y ∈ ofSet n s xs ↔ y ∈ xs ∧ setNo n y = s := by simp [ofSet]
/-- Whether access i hits: its line is among the lines last used of its set. -/
theorem hit_lru (line ways : Int) (n : Nat) (h1 : 1 ≤ line) (hd : 4294967296 % line = 0) (hn : 1 ≤ n) (l : List Int) (hu : ∀ x ∈ l, 0 ≤ x ∧ x < 4294967296) (i : Nat) (hi : i < l.length) :
    gb (replayL line n ways (List.replicate n []) l).2 i = decide (gi l i / line ∈ lruK ways.toNat [] (ofSet n (setNo n (gi l i / line)) (lns line (l.take i)))) := by
  rw [replayL_hit line n ways h1 hd l _ hu i hi]
  unfold hitL
  rw [gl_run n ways _ _ _ (by rw [List.length_replicate]; exact setNo_ltn n hn _), gl_new n _ (setNo_ltn n hn _)]
  rfl
theorem mem_take_mono {x : Int} {l : List Int} {a b : Nat} (hab : a ≤ b) (h : x ∈ l.take a) : x ∈ l.take b := by
  have e : l.take a = (l.take b).take a := by rw [List.take_take, Nat.min_eq_left hab]
  rw [e] at h
  exact List.mem_of_mem_take h
/-- With more ways every access that hit hits. -/
theorem ways_hit (line w1 w2 : Int) (n : Nat) (h1 : 1 ≤ line) (hd : 4294967296 % line = 0) (hn : 1 ≤ n) (hw : w1 ≤ w2) (l : List Int) (hu : ∀ x ∈ l, 0 ≤ x ∧ x < 4294967296) (i : Nat) (hi : i < l.length)
    (h : gb (replayL line n w1 (List.replicate n []) l).2 i = true) : gb (replayL line n w2 (List.replicate n []) l).2 i = true := by
  rw [hit_lru line _ n h1 hd hn l hu i hi, decide_eq_true_eq, lruK_nil] at h ⊢
  exact mem_take_mono (by omega) h
/-- .. and the sets of the lesser cache are beginnings of those of the greater one. -/
theorem ways_sets (w1 w2 : Int) (n : Nat) (hw : w1 ≤ w2) (xs : List Int) (s : Nat) (hs : s < n) :
    let a := gl (runL n w1 (List.replicate n []) xs).1 s; let b := gl (runL n w2 (List.replicate n []) xs).1 s
    a.length ≤ b.length ∧ a = b.take a.length ∧ (a.length < w1.toNat → ¬ a.length < b.length) := by
  simp only
  rw [gl_run n w1 s xs _ (by simpa using hs), gl_run n w2 s xs _ (by simpa using hs), gl_new n s hs, lruK_nil, lruK_nil]
  obtain ⟨L, hL⟩ : ∃ L, lru [] (xs.filter fun x => setNo n x == s) = L := ⟨_, rfl⟩
  rw [hL]
  have h12 : w1.toNat ≤ w2.toNat := by omega
  simp only [List.length_take]
  refine ⟨by omega, ?_, fun h h' => by omega⟩
  rw [List.take_take]
  by_cases h : w1.toNat ≤ L.length
  · congr 1; omega
  · rw [List.take_of_length_le (by omega), List.take_of_length_le (by omega)]
/-- A line that was not used before is missed. -/
theorem first_miss (line ways : Int) (n : Nat) (h1 : 1 ≤ line) (hd : 4294967296 % line = 0) (hn : 1 ≤ n) (l : List Int) (hu : ∀ x ∈ l, 0 ≤ x ∧ x < 4294967296) (i : Nat) (hi : i < l.length) (h : gi l i / line ∉ lns line (l.take i)) :
    gb (replayL line n ways (List.replicate n []) l).2 i = false := by
  rw [hit_lru line _ n h1 hd hn l hu i hi, decide_eq_false_iff_not]
  exact miss_new _ _ _ fun hm => h ((mem_ofSet _ _ _ _).1 hm).1
/-- If all lines of its set fit, a line that was used before hits. -/
theorem later_hit (line ways : Int) (n : Nat) (h1 : 1 ≤ line) (hd : 4294967296 % line = 0) (hn : 1 ≤ n) (l : List Int) (hu : ∀ x ∈ l, 0 ≤ x ∧ x < 4294967296) (i : Nat) (hi : i < l.length) (h : gi l i / line ∈ lns line (l.take i))
    (all : List Int) (hall : ∀ y, y ∈ lns line l → setNo n y = setNo n (gi l i / line) → y ∈ all) (hw : all.length ≤ ways.toNat) : gb (replayL line n ways (List.replicate n []) l).2 i = true := by
  rw [hit_lru line _ n h1 hd hn l hu i hi, decide_eq_true_eq, lruK_nil]
  have hm := mem_lru (ofSet n (setNo n (gi l i / line)) (lns line (l.take i))) List.nodup_nil
  have hnd := lru_nodup (ofSet n (setNo n (gi l i / line)) (lns line (l.take i))) List.nodup_nil
  have hle : (lru [] (ofSet n (setNo n (gi l i / line)) (lns line (l.take i)))).length ≤ all.length := nodup_len_le hnd fun y hy => by
    rcases (hm y).1 hy with h2 | h2
    · obtain ⟨h3, h4⟩ := (mem_ofSet _ _ _ _).1 h2
      refine hall y ?_ h4
      unfold lns at h3 ⊢
      obtain ⟨a, ha, rfl⟩ := List.mem_map.1 h3
      exact List.mem_map.2 ⟨a, List.mem_of_mem_take ha, rfl⟩
    · simp at h2
  rw [List.take_of_length_le (by omega)]
  exact (hm _).2 (.inl ((mem_ofSet _ _ _ _).2 ⟨h, rfl⟩))
/-- By distance: the last use of the line is access k, and 'since' are the different lines of its set used behind it. -/
theorem distance_hit (line ways : Int) (n : Nat) (h1 : 1 ≤ line) (hd : 4294967296 % line = 0) (hn : 1 ≤ n) (l : List Int) (hu : ∀ x ∈ l, 0 ≤ x ∧ x < 4294967296) (i : Nat) (hi : i < l.length) (k : Nat) (hk : k < i) (hkx : gi l k / line = gi l i / line)
    (hno : ∀ j, k < j → j < i → gi l j / line ≠ gi l i / line) (since : List Int) (hs : since.Nodup) (hm : ∀ y, y ∈ since ↔ ∃ j, k < j ∧ j < i ∧ gi l j / line = y ∧ setNo n y = setNo n (gi l i / line)) :
    gb (replayL line n ways (List.replicate n []) l).2 i = decide (since.length < ways.toNat) := by
  rw [hit_lru line _ n h1 hd hn l hu i hi]
  obtain ⟨x, hx⟩ : ∃ x, gi l i / line = x := ⟨_, rfl⟩
  rw [hx] at hkx hno hm ⊢
  have e : lns line (l.take i) = lns line (l.take k) ++ x :: lns line ((l.take i).drop (k + 1)) := by
    have e1 : l.take i = l.take k ++ gi l k :: (l.take i).drop (k + 1) := by
      have e2 : (l.take i).take k = l.take k := by rw [List.take_take, Nat.min_eq_left (by omega)]
      have e3 : (l.take i).drop k = gi l k :: (l.take i).drop (k + 1) := by
        rw [List.drop_eq_getElem_cons (by rw [List.length_take]; omega), List.getElem_take, gi_get l k (by omega)]
      rw [← e3, ← e2, List.take_append_drop]
    conv => lhs; rw [e1]
    simp [lns, hkx]
  rw [e]
  unfold ofSet
  rw [List.filter_append, List.filter_cons_of_pos (by simp)]
  have hb : x ∉ (lns line ((l.take i).drop (k + 1))).filter fun y => setNo n y == setNo n x := fun h => by
    obtain ⟨h2, _⟩ := List.mem_filter.1 h
    obtain ⟨a, ha, e2⟩ := List.mem_map.1 h2
    obtain ⟨j, hj, e3⟩ := List.getElem_of_mem ha
    rw [List.length_drop, List.length_take] at hj
    rw [List.getElem_drop, List.getElem_take] at e3
    refine hno (k + 1 + j) (by omega) (by omega) ?_
    rw [gi_get l _ (by omega), e3, e2]
  have := hit_iff ways.toNat ((lns line (l.take k)).filter fun y => setNo n y == setNo n x) ((lns line ((l.take i).drop (k + 1))).filter fun y => setNo n y == setNo n x) since x hb hs (fun y => by
    rw [hm, List.mem_filter]
    constructor
    · rintro ⟨j, hj1, hj2, hj3, hj4⟩
      refine ⟨List.mem_map.2 ⟨gi l j, ?_, hj3⟩, by simpa using hj4⟩
      rw [gi_get l j (by omega)]
      have e4 : ((l.take i).drop (k + 1))[j - (k + 1)]'(by rw [List.length_drop, List.length_take]; omega) = l[j]'(by omega) := by
        rw [List.getElem_drop, List.getElem_take]
        congr 1
        omega
      rw [← e4]
      exact List.getElem_mem _
    · rintro ⟨h2, h3⟩
      obtain ⟨a, ha, e2⟩ := List.mem_map.1 h2
      obtain ⟨j, hj, e3⟩ := List.getElem_of_mem ha
      rw [List.length_drop, List.length_take] at hj
      rw [List.getElem_drop, List.getElem_take] at e3
      exact ⟨k + 1 + j, by omega, by omega, by rw [gi_get l _ (by omega), e3, e2], by simpa using h3⟩)
  exact decide_eq_decide.2 this
end Go.Proofs.Ytdkacdfhapgboaa

/- Two neighbouring accesses of lines of different sets, exchanged. No program in sight. -/
set_option linter.unusedVariables false
set_option linter.unusedSimpArgs false
namespace Go.Proofs.Ytdkacdfhapgboaa

theorem touch_comm (sets ways : Int) (L : List (List Int)) (x y : Int) (h : setNo sets x ≠ setNo sets y) : touchL sets ways (touchL sets ways L x) y = touchL sets ways (touchL sets ways L y) x := by
  have e1 := gl_touch_other sets ways L x (setNo sets y) h
  have e2 := gl_touch_other sets ways L y (setNo sets x) (Ne.symm h)
  show (touchL sets ways L x).set (setNo sets y) ((frontL (gl (touchL sets ways L x) (setNo sets y)) y).take ways.toNat) = (touchL sets ways L y).set (setNo sets x) ((frontL (gl (touchL sets ways L y) (setNo sets x)) x).take ways.toNat)
  rw [e1, e2]
  unfold touchL
  rw [List.set_comm _ _ h]
theorem hit_touch (sets ways : Int) (L : List (List Int)) (x y : Int) (h : setNo sets x ≠ setNo sets y) : hitL sets (touchL sets ways L x) y = hitL sets L y := by
  unfold hitL
  rw [gl_touch_other sets ways L x (setNo sets y) h]
theorem replayL_append (line sets ways : Int) : ∀ (l m : List Int) (L : List (List Int)), replayL line sets ways L (l ++ m) =
    ((replayL line sets ways (replayL line sets ways L l).1 m).1, (replayL line sets ways L l).2 ++ (replayL line sets ways (replayL line sets ways L l).1 m).2)
  | [], m, L => rfl
  | x :: l, m, L => by
    simp only [List.cons_append, replayL]
    rw [replayL_append line sets ways l m]
theorem run1 (sets ways : Int) (L : List (List Int)) (x : Int) : runL sets ways L [x] = (touchL sets ways L x, missL (hitL sets L x) x) := by
  simp [runL]
theorem miss_zero (h : Bool) (x : Int) : (((missL h x).length : Int) == 0) = h := by cases h <;> simp [missL]
theorem swap_replay (line sets ways : Int) (h1 : 1 ≤ line) (hd : 4294967296 % line = 0) (L : List (List Int)) (pre post : List Int) (a b : Int) (ha : 0 ≤ a ∧ a < 4294967296) (hb : 0 ≤ b ∧ b < 4294967296) (h : setNo sets (a / line) ≠ setNo sets (b / line)) :
    ∃ P x y Q, (replayL line sets ways L (pre ++ a :: b :: post)).2 = P ++ x :: y :: Q ∧ (replayL line sets ways L (pre ++ b :: a :: post)).2 = P ++ y :: x :: Q ∧ P.length = pre.length ∧
      (replayL line sets ways L (pre ++ a :: b :: post)).1 = (replayL line sets ways L (pre ++ b :: a :: post)).1 := by
  obtain ⟨K, hK⟩ : ∃ K, replayL line sets ways L pre = K := ⟨_, rfl⟩
  have hl : K.2.length = pre.length := by rw [← hK]; exact replayL_len _ _ _ _ _
  rw [replayL_append, replayL_append, hK]
  simp only [replayL, linI_one line a h1 ha hd, linI_one line b h1 hb hd, run1, miss_zero]
  refine ⟨K.2, hitL sets K.1 (a / line), hitL sets K.1 (b / line), (replayL line sets ways (touchL sets ways (touchL sets ways K.1 (a / line)) (b / line)) post).2, ?_, ?_, hl, ?_⟩
  · rw [hit_touch _ _ _ _ _ h]
  · rw [hit_touch _ _ _ _ _ (Ne.symm h), touch_comm _ _ _ _ _ h]
  · rw [touch_comm _ _ _ _ _ h]
end Go.Proofs.Ytdkacdfhapgboaa

/- The least recently used against any replacement, by phases. No program in sight. -/
set_option linter.unusedVariables false
set_option linter.unusedSimpArgs false
namespace Go.Proofs.Ytdkacdfhapgboaa

/-- Misses of a set of k ways that drops what was used least recently. -/
def lruMiss (k : Nat) : List Int → List Int → Nat
  | _, [] => 0
  | l, x :: xs => (if x ∈ l.take k then 0 else 1) + lruMiss k (frontL l x) xs
/-- Some replacement in a set of h ways serves lines: it drops one line at most at each miss. m: its misses. -/
inductive Serve (h : Nat) : List Int → List Int → Nat → Prop
  | nil (C : List Int) : Serve h C [] 0
  | hit {C xs : List Int} {x : Int} {m : Nat} (hx : x ∈ C) (s : Serve h C xs m) : Serve h C (x :: xs) m
  | miss {C E xs : List Int} {x e : Int} {m : Nat} (hx : x ∉ C) (hE : x ∈ E) (hl : E.length ≤ h) (he : ∀ y ∈ C, y = e ∨ y ∈ E) (s : Serve h E xs m) : Serve h C (x :: xs) (m + 1)

theorem front_take_in {l : List Int} {x : Int} {d : Nat} (hn : l.Nodup) (hx : x ∈ l.take d) : ∀ y, y ∈ (frontL l x).take d → y ∈ l.take d := by
  intro y hy
  cases d with
  | zero => simp at hx
  | succ d =>
    unfold frontL at hy
    rw [List.take_succ_cons] at hy
    rcases List.mem_cons.1 hy with rfl | hy
    · exact hx
    · rw [← take_erase] at hy
      exact List.mem_of_mem_erase (List.mem_of_mem_take hy)
theorem front_take_out {l : List Int} {x : Int} {d : Nat} (hx : x ∉ l.take d) : ∀ y, y ∈ (frontL l x).take (d + 1) → y = x ∨ y ∈ l.take d := by
  intro y hy
  unfold frontL at hy
  rw [List.take_succ_cons] at hy
  rcases List.mem_cons.1 hy with rfl | hy
  · exact .inl rfl
  · refine .inr ?_
    have : ∀ (l : List Int) (d : Nat), y ∈ (l.erase x).take d → y ∈ l.take d ∨ x ∈ l.take d := by
      intro l
      induction l with
      | nil => intro d h; simp at h
      | cons a l ih =>
        intro d h
        cases d with
        | zero => simp at h
        | succ d =>
          by_cases e : a = x
          · right; simp [e]
          · rw [List.erase_cons_tail (by simpa using e), List.take_succ_cons] at h
            rcases List.mem_cons.1 h with rfl | h
            · left; simp
            · rcases ih d h with h1 | h1
              · left; simp [h1]
              · right; simp [h1]
    rcases this l d hy with h | h
    · exact h
    · exact absurd h hx
theorem front_len {l : List Int} {x : Int} : l.length ≤ (frontL l x).length ∧ (x ∉ l → (frontL l x).length = l.length + 1) := by
  unfold frontL
  constructor
  · by_cases h : x ∈ l
    · rw [List.length_cons, List.length_erase_of_mem h]; omega
    · rw [List.erase_of_not_mem h]; simp
  · intro h; rw [List.erase_of_not_mem h]; simp
theorem cover_le {l C G : List Int} {d : Nat} (hn : l.Nodup) (hd : d ≤ l.length) (h : ∀ y ∈ l.take d, y ∈ C ∨ y ∈ G) : d ≤ C.length + G.length := by
  have h1 := nodup_len_le (d := l.take d) (e := C ++ G) (hn.sublist (List.take_sublist _ _)) fun y hy => List.mem_append.2 (h y hy)
  rw [List.length_take, List.length_append] at h1
  omega
theorem front_room {l : List Int} {x : Int} {d : Nat} (hd : d ≤ l.length) (hx : x ∉ l.take d) : d + 1 ≤ (frontL l x).length := by
  by_cases h : x ∈ l
  · have h1 : d < l.length := by
      by_cases e : d < l.length
      · exact e
      · rw [List.take_of_length_le (by omega)] at hx; exact absurd h hx
    have := front_len (l := l) (x := x)
    omega
  · have := (front_len (l := l) (x := x)).2 h
    omega
theorem mul_step (a b q k m g : Nat) (h1 : a * q ≤ k * m) (h2 : b ≤ k) (h3 : q ≤ g) : (a + b) * q ≤ k * (m + g) := by
  rw [Nat.add_mul, Nat.mul_add]
  have := Nat.mul_le_mul h2 h3
  omega
theorem competes (k h : Nat) (hk : h ≤ k) (hh : 1 ≤ h) {C xs : List Int} {m : Nat} (s : Serve h C xs m) : ∀ (l G : List Int) (d f g M0 m0 : Nat), l.Nodup → 1 ≤ d → d ≤ l.length → d ≤ k → f + 1 ≤ d → G.length ≤ g → C.length ≤ h → (∀ y ∈ l.take d, y ∈ C ∨ y ∈ G) → M0 * (k - h + 1) ≤ k * m0 →
    (M0 + f + lruMiss k l xs) * (k - h + 1) ≤ k * (m0 + g + m + h) := by
  induction s with
  | nil C =>
    intro l G d f g M0 m0 hn hd1 hd hdk hf hG hC hcov hM
    have h1 := cover_le hn hd hcov
    have h2 := mul_step M0 f (k - h + 1) k m0 0 hM (by omega)
    simp only [lruMiss, Nat.add_zero]
    have h3 : f * (k - h + 1) ≤ (g + h) * k := Nat.mul_le_mul (by omega) (by omega)
    rw [Nat.mul_comm (g + h) k] at h3
    have h6 : m0 + g + h = m0 + (g + h) := by omega
    rw [h6, Nat.mul_add k m0 (g + h), Nat.add_mul]
    exact Nat.add_le_add hM h3
  | @hit C xs x m hx s ih =>
    intro l G d f g M0 m0 hn hd1 hd hdk hf hG hC hcov hM
    simp only [lruMiss]
    by_cases h1 : x ∈ l.take d
    · rw [if_pos (mem_take_mono hdk h1), Nat.zero_add]
      exact ih (frontL l x) G d f g M0 m0 (frontL_nodup hn x) hd1 (by have := (front_len (l := l) (x := x)).1; omega) hdk hf hG hC (fun y hy => hcov y (front_take_in hn h1 y hy)) hM
    · by_cases h2 : d < k
      · obtain ⟨b, hb⟩ : ∃ b, (if x ∈ l.take k then 0 else 1) = b := ⟨_, rfl⟩
        have hb1 : b ≤ 1 := by rw [← hb]; split <;> omega
        rw [hb]
        have := ih (frontL l x) G (d + 1) (f + b) g M0 m0 (frontL_nodup hn x) (by omega) (front_room hd h1) (by omega) (by omega) hG hC (fun y hy => by
          rcases front_take_out h1 y hy with rfl | hy
          · exact .inl hx
          · exact hcov y hy) hM
        have e : M0 + f + (b + lruMiss k (frontL l x) xs) = M0 + (f + b) + lruMiss k (frontL l x) xs := by omega
        rw [e]
        exact this
      · obtain rfl : d = k := by omega
        rw [if_neg h1]
        have hc : d + 1 ≤ C.length + G.length := cover_le (l := frontL l x) (frontL_nodup hn x) (front_room hd h1) fun y hy => by
          rcases front_take_out h1 y hy with rfl | hy
          · exact .inl hx
          · exact hcov y hy
        have := ih (frontL l x) [] 1 0 0 (M0 + (f + 1)) (m0 + g) (frontL_nodup hn x) (Nat.le_refl _) (by have := front_room hd h1; omega) (by omega) (by omega) (by simp) hC (fun y hy => by
          unfold frontL at hy
          simp at hy
          exact .inl (hy ▸ hx)) (mul_step _ _ _ _ _ _ hM (by omega) (by omega))
        have e : M0 + f + (1 + lruMiss d (frontL l x) xs) = M0 + (f + 1) + 0 + lruMiss d (frontL l x) xs := by omega
        rw [e]
        exact this
  | @miss C E xs x e m hx hE hl he s ih =>
    intro l G d f g M0 m0 hn hd1 hd hdk hf hG hC hcov hM
    simp only [lruMiss]
    have hcov' : ∀ y ∈ l.take d, y ∈ E ∨ y ∈ e :: G := fun y hy => by
      rcases hcov y hy with h1 | h1
      · rcases he y h1 with rfl | h2
        · exact .inr (by simp)
        · exact .inl h2
      · exact .inr (by simp [h1])
    have e0 : m0 + g + (m + 1) + h = m0 + (g + 1) + m + h := by omega
    rw [e0]
    by_cases h1 : x ∈ l.take d
    · rw [if_pos (mem_take_mono hdk h1), Nat.zero_add]
      exact ih (frontL l x) (e :: G) d f (g + 1) M0 m0 (frontL_nodup hn x) hd1 (by have := (front_len (l := l) (x := x)).1; omega) hdk hf (by simp; omega) hl (fun y hy => hcov' y (front_take_in hn h1 y hy)) hM
    · by_cases h2 : d < k
      · obtain ⟨b, hb⟩ : ∃ b, (if x ∈ l.take k then 0 else 1) = b := ⟨_, rfl⟩
        have hb1 : b ≤ 1 := by rw [← hb]; split <;> omega
        rw [hb]
        have := ih (frontL l x) (e :: G) (d + 1) (f + b) (g + 1) M0 m0 (frontL_nodup hn x) (by omega) (front_room hd h1) (by omega) (by omega) (by simp; omega) hl (fun y hy => by
          rcases front_take_out h1 y hy with rfl | hy
          · exact .inl hE
          · exact hcov' y hy) hM
        have e1 : M0 + f + (b + lruMiss k (frontL l x) xs) = M0 + (f + b) + lruMiss k (frontL l x) xs := by omega
        rw [e1]
        exact this
      · obtain rfl : d = k := by omega
        rw [if_neg h1]
        have hc : d + 1 ≤ E.length + (e :: G).length := cover_le (l := frontL l x) (frontL_nodup hn x) (front_room hd h1) fun y hy => by
          rcases front_take_out h1 y hy with rfl | hy
          · exact .inl hE
          · exact hcov' y hy
        simp only [List.length_cons] at hc
        have := ih (frontL l x) [] 1 0 0 (M0 + (f + 1)) (m0 + (g + 1)) (frontL_nodup hn x) (Nat.le_refl _) (by have := front_room hd h1; omega) (by omega) (by omega) (by simp) hl (fun y hy => by
          unfold frontL at hy
          simp at hy
          exact .inl (hy ▸ hE)) (mul_step _ _ _ _ _ _ hM (by omega) (by omega))
        have e1 : M0 + f + (1 + lruMiss d (frontL l x) xs) = M0 + (f + 1) + 0 + lruMiss d (frontL l x) xs := by omega
        rw [e1]
        exact this
/-- A set of k ways that drops what was used least recently, against any replacement in h ways, both empty at the start. -/
theorem competes_new (k h : Nat) (hk : h ≤ k) (hh : 1 ≤ h) {xs : List Int} {m : Nat} (s : Serve h [] xs m) : lruMiss k [] xs * (k - h + 1) ≤ k * (m + h) := by
  cases s with
  | nil => simp [lruMiss]
  | hit hx s => simp at hx
  | @miss _ E xs x e m hx hE hl he s =>
    have := competes k h hk hh s [x] [] 1 0 0 1 1 (by simp) (Nat.le_refl _) (by simp) (by omega) (by omega) (by simp) hl (fun y hy => by simp at hy; exact .inl (hy ▸ hE)) (by omega)
    simp only [lruMiss, List.take_nil, List.not_mem_nil, if_false]
    have e1 : frontL [] x = [x] := by simp [frontL]
    rw [e1]
    have e2 : 1 + 0 + m + h = m + 1 + h := by omega
    rw [e2] at this
    simpa using this
end Go.Proofs.Ytdkacdfhapgboaa

/- What is used latest is dropped: no replacement misses less. No program in sight. -/
set_option linter.unusedVariables false
set_option linter.unusedSimpArgs false
namespace Go.Proofs.Ytdkacdfhapgboaa

theorem mem_take_idx (y : Int) : ∀ (xs : List Int) (t : Nat), t ≤ xs.length → (y ∈ xs.take t ↔ xs.idxOf y < t)
  | [], t, h => by simp at h; subst h; simp
  | x :: xs, 0, h => by simp
  | x :: xs, t + 1, h => by
    rw [List.take_succ_cons, List.mem_cons, List.idxOf_cons]
    by_cases e : x = y
    · simp [e]
    · have e' : (x == y) = false := by simpa using e
      rw [e', mem_take_idx y xs t (by simpa using h)]
      simp [Ne.symm e]
/-- How many of A are in S. -/
def cnt (A S : List Int) : Nat := (A.filter fun y => decide (y ∈ S)).length
theorem cnt_nil (A : List Int) : cnt A [] = 0 := by
  unfold cnt
  rw [List.filter_eq_nil_iff.2 (by simp)]
  rfl
theorem mem_cnt (A S : List Int) (y : Int) : (y ∈ A.filter fun y => decide (y ∈ S)) ↔ y ∈ A ∧ y ∈ S := by simp
theorem cnt_le (A S : List Int) : cnt A S ≤ A.length := List.length_filter_le _ _
theorem cnt_le_of {A B S T X : List Int} (hA : A.Nodup) (h : ∀ y, y ∈ A → y ∈ S → (y ∈ B ∧ y ∈ T) ∨ y ∈ X) : cnt A S ≤ cnt B T + X.length := by
  have := nodup_len_le (d := A.filter fun y => decide (y ∈ S)) (e := (B.filter fun y => decide (y ∈ T)) ++ X) (hA.sublist List.filter_sublist) fun y hy => by
    obtain ⟨h1, h2⟩ := (mem_cnt A S y).1 hy
    rcases h y h1 h2 with h3 | h3
    · exact List.mem_append.2 (.inl ((mem_cnt B T y).2 h3))
    · exact List.mem_append.2 (.inr h3)
  rw [List.length_append] at this
  exact this
theorem cnt_cons_in {A S : List Int} {x : Int} (hx : x ∈ S) : cnt A (x :: S) = cnt A S := by
  unfold cnt
  congr 1
  apply List.filter_congr
  intro y _
  simp only [List.mem_cons, decide_eq_decide]
  exact ⟨fun h => h.elim (fun e => e ▸ hx) id, .inr⟩
theorem cnt_cons_no {A S : List Int} {x : Int} (hx : x ∉ A) : cnt A (x :: S) = cnt A S := by
  unfold cnt
  congr 1
  apply List.filter_congr
  intro y hy
  simp only [List.mem_cons, decide_eq_decide]
  exact ⟨fun h => h.elim (fun e => absurd (e ▸ hy) hx) id, .inr⟩
theorem cnt_cons_out {A S : List Int} {x : Int} (hn : A.Nodup) (hA : x ∈ A) (hS : x ∉ S) : cnt A (x :: S) = cnt A S + 1 := by
  apply Nat.le_antisymm
  · have := cnt_le_of (A := A) (B := A) (S := x :: S) (T := S) (X := [x]) hn fun y h1 h2 => by
      rcases List.mem_cons.1 h2 with rfl | h2
      · exact .inr (by simp)
      · exact .inl ⟨h1, h2⟩
    simpa using this
  · have := nodup_len_le (d := x :: A.filter fun y => decide (y ∈ S)) (e := A.filter fun y => decide (y ∈ x :: S)) (List.nodup_cons.2 ⟨fun h => hS ((mem_cnt A S x).1 h).2, hn.sublist List.filter_sublist⟩) fun y hy => by
      rw [mem_cnt]
      rcases List.mem_cons.1 hy with rfl | hy
      · exact ⟨hA, by simp⟩
      · obtain ⟨h1, h2⟩ := (mem_cnt A S y).1 hy
        exact ⟨h1, by simp [h2]⟩
    rw [List.length_cons] at this
    exact this
/-- A replacement that holds only what it held, and the line asked for. -/
inductive Run (k : Nat) : List Int → List Int → Nat → Prop
  | nil (B : List Int) : Run k B [] 0
  | hit {B xs : List Int} {x : Int} {m : Nat} (hx : x ∈ B) (s : Run k B xs m) : Run k B (x :: xs) m
  | miss {B E xs : List Int} {x : Int} {m : Nat} (hx : x ∉ B) (hE : x ∈ E) (hn : E.Nodup) (hl : E.length ≤ k) (he : ∀ y ∈ E, y = x ∨ y ∈ B) (s : Run k E xs m) : Run k B (x :: xs) (m + 1)
/-- What is used latest is dropped. -/
inductive Bel (k : Nat) : List Int → List Int → Nat → Prop
  | nil (A : List Int) : Bel k A [] 0
  | hit {A xs : List Int} {x : Int} {m : Nat} (hx : x ∈ A) (s : Bel k A xs m) : Bel k A (x :: xs) m
  | room {A E xs : List Int} {x : Int} {m : Nat} (hx : x ∉ A) (hl : E.length ≤ k) (hn : E.Nodup) (he : ∀ y, y ∈ E ↔ y = x ∨ y ∈ A) (s : Bel k E xs m) : Bel k A (x :: xs) (m + 1)
  | drop {A E xs : List Int} {x z : Int} {m : Nat} (hx : x ∉ A) (hz : z ∈ A) (hmax : ∀ y ∈ A, xs.idxOf y ≤ xs.idxOf z) (hl : E.length = k) (hn : E.Nodup) (he : ∀ y, y ∈ E ↔ y = x ∨ (y ∈ A ∧ y ≠ z)) (s : Bel k E xs m) : Bel k A (x :: xs) (m + 1)

theorem run_step {k : Nat} {A B E S : List Int} {x : Int} (hE : E.Nodup) (he : ∀ y ∈ E, y = x ∨ y ∈ B) : cnt E S ≤ cnt B S + (if x ∈ S then 1 else 0) := by
  by_cases h : x ∈ S
  · rw [if_pos h]
    have := cnt_le_of (A := E) (B := B) (S := S) (T := S) (X := [x]) hE fun y h1 h2 => (he y h1).elim (fun e => .inr (by simp [e])) fun h3 => .inl ⟨h3, h2⟩
    simpa using this
  · rw [if_neg h]
    have := cnt_le_of (A := E) (B := B) (S := S) (T := S) (X := []) hE fun y h1 h2 => (he y h1).elim (fun e => absurd (e ▸ h2) h) fun h3 => .inl ⟨h3, h2⟩
    simpa using this
theorem cnt_all_but {k : Nat} {E S : List Int} {x : Int} (hl : E.length ≤ k) (hn : E.Nodup) (hx : x ∈ E) (hS : x ∉ S) : cnt E S + 1 ≤ k := by
  have h1 := cnt_cons_out hn hx hS
  have h2 := cnt_le E (x :: S)
  omega
/-- The new contents of the one that drops what is used latest hold at least so many of S. -/
theorem bel_cnt {k : Nat} {A E S : List Int} {x : Int} (hA : A.Nodup) (hn : E.Nodup) (hx : x ∉ A) (h : ∀ y, y ∈ A → y ∈ S → y ∈ E) (hE : x ∈ E) : cnt A S + (if x ∈ S then 1 else 0) ≤ cnt E S := by
  by_cases hs : x ∈ S
  · rw [if_pos hs]
    have := nodup_len_le (d := x :: A.filter fun y => decide (y ∈ S)) (e := E.filter fun y => decide (y ∈ S)) (List.nodup_cons.2 ⟨fun h => hx ((mem_cnt A S x).1 h).1, hA.sublist List.filter_sublist⟩) fun y hy => by
      rw [mem_cnt]
      rcases List.mem_cons.1 hy with rfl | hy
      · exact ⟨hE, hs⟩
      · obtain ⟨h1, h2⟩ := (mem_cnt A S y).1 hy
        exact ⟨h y h1 h2, h2⟩
    rw [List.length_cons] at this
    exact this
  · rw [if_neg hs]
    have := cnt_le_of (A := A) (B := E) (S := S) (T := S) (X := []) hA fun y h1 h2 => .inl ⟨h y h1 h2, h2⟩
    simpa using this
theorem cnt_all {E S : List Int} {x : Int} (hn : E.Nodup) (h : ∀ y ∈ E, y ≠ x → y ∈ S) : E.length ≤ cnt E S + (if x ∈ S then 0 else 1) := by
  by_cases hs : x ∈ S
  · rw [if_pos hs]
    exact nodup_len_le hn fun y hy => by
      rw [mem_cnt]
      by_cases e : y = x
      · exact ⟨hy, e ▸ hs⟩
      · exact ⟨hy, h y hy e⟩
  · rw [if_neg hs]
    have := nodup_len_le (d := E) (e := x :: E.filter fun y => decide (y ∈ S)) hn fun y hy => by
      rw [List.mem_cons, mem_cnt]
      by_cases e : y = x
      · exact .inl e
      · exact .inr ⟨hy, h y hy e⟩
    rw [List.length_cons] at this
    exact this
/-- One step, when both have been asked for x: what holds of x :: S holds of S. -/
theorem both_step {A B S : List Int} {x : Int} {d : Nat} (hA : A.Nodup) (hB : B.Nodup) (h : cnt B (x :: S) ≤ cnt A (x :: S) + d) (ha : x ∈ A) (hb : x ∈ B) : cnt B S ≤ cnt A S + d := by
  by_cases hs : x ∈ S
  · rw [cnt_cons_in hs, cnt_cons_in hs] at h; exact h
  · rw [cnt_cons_out hB hb hs, cnt_cons_out hA ha hs] at h; omega
theorem belady {k : Nat} {A xs : List Int} {m1 : Nat} (b : Bel k A xs m1) : ∀ {B : List Int} {m2 : Nat}, Run k B xs m2 → ∀ d : Nat, A.Nodup → B.Nodup → B.length ≤ k → (∀ t, t ≤ xs.length → cnt B (xs.take t) ≤ cnt A (xs.take t) + d) → m1 ≤ m2 + d := by
  induction b with
  | nil A => intros; omega
  | @hit A xs x m hx s ih =>
    intro B m2 r d hA hB hl hc
    have hc' : ∀ t, t ≤ xs.length → cnt B (x :: xs.take t) ≤ cnt A (x :: xs.take t) + d := fun t ht => hc (t + 1) (by simpa using ht)
    cases r with
    | hit hxB r => exact ih r d hA hB hl fun t ht => both_step hA hB (hc' t ht) hx hxB
    | @miss _ E _ _ m' hxB hE hn hlE he r =>
      have := ih r (d + 1) hA hn hlE fun t ht => by
        have h1 := hc' t ht
        have h2 := run_step (k := k) (A := A) (S := xs.take t) hn he
        rw [cnt_cons_no hxB] at h1
        by_cases hs : x ∈ xs.take t
        · rw [cnt_cons_in hs] at h1; rw [if_pos hs] at h2; omega
        · rw [cnt_cons_out hA hx hs] at h1; rw [if_neg hs] at h2; omega
      omega
  | @room A E xs x m hx hlE hnE heE s ih =>
    intro B m2 r d hA hB hl hc
    have hc' : ∀ t, t ≤ xs.length → cnt B (x :: xs.take t) ≤ cnt A (x :: xs.take t) + d := fun t ht => hc (t + 1) (by simpa using ht)
    have hb := fun t => bel_cnt (k := k) (S := xs.take t) hA hnE hx (fun y h1 _ => (heE y).2 (.inr h1)) ((heE x).2 (.inl rfl))
    cases r with
    | hit hxB r =>
      have hd : 1 ≤ d := by
        have h0 := hc' 0 (Nat.zero_le _)
        rw [List.take_zero, cnt_cons_out hB hxB (by simp), cnt_cons_no hx] at h0
        rw [cnt_nil, cnt_nil] at h0
        omega
      have := ih r (d - 1) hnE hB hl fun t ht => by
        have h1 := hc' t ht
        have h2 := hb t
        rw [cnt_cons_no hx] at h1
        by_cases hs : x ∈ xs.take t
        · rw [cnt_cons_in hs] at h1; rw [if_pos hs] at h2; omega
        · rw [cnt_cons_out hB hxB hs] at h1; rw [if_neg hs] at h2; omega
      omega
    | @miss _ F _ _ m' hxB hF hn hlF he r =>
      have := ih r d hnE hn hlF fun t ht => by
        have h1 := hc' t ht
        have h2 := hb t
        have h3 := run_step (k := k) (A := A) (S := xs.take t) hn he
        rw [cnt_cons_no hx, cnt_cons_no hxB] at h1
        omega
      omega
  | @drop A E xs x z m hx hz hmax hlE hnE heE s ih =>
    intro B m2 r d hA hB hl hc
    have hc' : ∀ t, t ≤ xs.length → cnt B (x :: xs.take t) ≤ cnt A (x :: xs.take t) + d := fun t ht => hc (t + 1) (by simpa using ht)
    have hb : ∀ t, t ≤ xs.length → cnt A (xs.take t) + (if x ∈ xs.take t then 1 else 0) ≤ cnt E (xs.take t) ∨ k ≤ cnt E (xs.take t) + (if x ∈ xs.take t then 0 else 1) := fun t ht => by
      by_cases hzs : z ∈ xs.take t
      · right
        have := cnt_all (S := xs.take t) (x := x) hnE fun y hy hyx => by
          rcases (heE y).1 hy with e | ⟨hyA, _⟩
          · exact absurd e hyx
          · rw [mem_take_idx _ _ _ ht] at hzs ⊢
            have := hmax y hyA
            omega
        omega
      · left
        exact bel_cnt (k := k) hA hnE hx (fun y h1 h2 => (heE y).2 (.inr ⟨h1, fun e => hzs (e ▸ h2)⟩)) ((heE x).2 (.inl rfl))
    cases r with
    | hit hxB r =>
      have hd : 1 ≤ d := by
        have h0 := hc' 0 (Nat.zero_le _)
        rw [List.take_zero, cnt_cons_out hB hxB (by simp), cnt_cons_no hx] at h0
        rw [cnt_nil, cnt_nil] at h0
        omega
      have := ih r (d - 1) hnE hB hl fun t ht => by
        have h1 := hc' t ht
        rw [cnt_cons_no hx] at h1
        have h4 := cnt_le B (xs.take t)
        by_cases hs : x ∈ xs.take t
        · have h2 := hb t ht
          rw [cnt_cons_in hs] at h1; simp only [if_pos hs] at h2; omega
        · have h2 := hb t ht
          have h5 := cnt_all_but hl hB hxB hs
          rw [cnt_cons_out hB hxB hs] at h1; simp only [if_neg hs] at h2; omega
      omega
    | @miss _ F _ _ m' hxB hF hn hlF he r =>
      have := ih r d hnE hn hlF fun t ht => by
        have h1 := hc' t ht
        have h2 := hb t ht
        have h3 := run_step (k := k) (A := A) (S := xs.take t) hn he
        have h4 := cnt_le F (xs.take t)
        rw [cnt_cons_no hx, cnt_cons_no hxB] at h1
        by_cases hs : x ∈ xs.take t
        · simp only [if_pos hs] at h2 h3; omega
        · have h5 := cnt_all_but hlF hn hF hs
          simp only [if_neg hs] at h2 h3; omega
      omega
end Go.Proofs.Ytdkacdfhapgboaa

/- The statement's 'least' as a replacement, and the least recently used one as a run. No program in sight. -/
set_option linter.unusedVariables false
set_option linter.unusedSimpArgs false
namespace Go.Proofs.Ytdkacdfhapgboaa

theorem bel_serve {w : Nat} {A xs : List Int} {m : Nat} (b : Bel w A xs m) : Serve w A xs m := by
  induction b with
  | nil A => exact .nil A
  | hit hx s ih => exact .hit hx ih
  | @room A E xs x m hx hl hn he s ih => exact .miss (e := x) hx ((he x).2 (.inl rfl)) hl (fun y hy => .inr ((he y).2 (.inr hy))) ih
  | @drop A E xs x z m hx hz hmax hl hn he s ih =>
    refine .miss (e := z) hx ((he x).2 (.inl rfl)) (Nat.le_of_eq hl) (fun y hy => ?_) ih
    by_cases e : y = z
    · exact .inl e
    · exact .inr ((he y).2 (.inr ⟨hy, e⟩))
theorem sub_all {d e : List Int} (hd : d.Nodup) (h : ∀ y ∈ d, y ∈ e) (hl : e.length ≤ d.length) : ∀ y ∈ e, y ∈ d := by
  intro y hy
  by_cases hyd : y ∈ d
  · exact hyd
  · have := nodup_len_le (d := y :: d) (e := e) (List.nodup_cons.2 ⟨hyd, hd⟩) fun z hz => by
      rcases List.mem_cons.1 hz with rfl | hz
      · exact hy
      · exact h z hz
    rw [List.length_cons] at this
    omega
theorem front_take_iff {l : List Int} {x : Int} {k : Nat} (hn : l.Nodup) (hx : x ∈ l.take k) : ∀ y, y ∈ (frontL l x).take k ↔ y ∈ l.take k := by
  intro y
  refine ⟨front_take_in hn hx y, fun h => ?_⟩
  refine sub_all ((frontL_nodup hn x).sublist (List.take_sublist _ _)) (front_take_in hn hx) ?_ y h
  have := (front_len (l := l) (x := x)).1
  rw [List.length_take, List.length_take]
  omega
theorem lru_run (k : Nat) (hk : 1 ≤ k) : ∀ (xs l B : List Int), l.Nodup → B.Nodup → (∀ y, y ∈ B ↔ y ∈ l.take k) → Run k B xs (lruMiss k l xs)
  | [], l, B, _, _, _ => .nil B
  | x :: xs, l, B, hn, hB, h => by
    simp only [lruMiss]
    by_cases hx : x ∈ l.take k
    · rw [if_pos hx, Nat.zero_add]
      exact .hit ((h x).2 hx) (lru_run k hk xs (frontL l x) B (frontL_nodup hn x) hB fun y => (h y).trans (front_take_iff hn hx y).symm)
    · rw [if_neg hx, Nat.add_comm]
      obtain ⟨k, rfl⟩ : ∃ j, k = j + 1 := ⟨k - 1, by omega⟩
      refine .miss (E := (frontL l x).take (k + 1)) (fun hb => hx ((h x).1 hb)) ?_ ((frontL_nodup hn x).sublist (List.take_sublist _ _)) (by rw [List.length_take]; omega) (fun y hy => ?_) (lru_run (k + 1) hk xs (frontL l x) _ (frontL_nodup hn x) ((frontL_nodup hn x).sublist (List.take_sublist _ _)) fun y => Iff.rfl)
      · unfold frontL; rw [List.take_succ_cons]; simp
      · rcases front_take_out (d := k) (fun hh => hx (mem_take_mono (by omega) hh)) y hy with rfl | hy
        · exact .inl rfl
        · exact .inr ((h y).2 (mem_take_mono (by omega) hy))

/-! ### 'least', as the statement computes it -/
/-- When a line is used next; L: never. -/
def nextU (L : Nat) (xs : List Int) (y : Int) : Int := if y ∈ xs then (xs.idxOf y : Int) + 1 else L
/-- The first place of the greatest value. -/
def scanM (f : Int → Int) : List Int → Nat → Int × Nat → Int × Nat
  | [], _, r => r
  | y :: ys, k, r => scanM f ys (k + 1) (if r.1 < f y then (f y, k) else r)
def farI (L : Nat) (xs here : List Int) : Nat := (scanM (nextU L xs) here 0 (-1, 0)).2
def leastL (L w : Nat) : List Int → List Int → Nat
  | here, [] => 0
  | here, x :: xs => if x ∈ here then leastL L w here xs else if here.length < w then leastL L w (here ++ [x]) xs + 1 else leastL L w (here.set (farI L xs here) x) xs + 1
theorem scanM_spec (f : Int → Int) (all : List Int) : ∀ (ys : List Int) (k : Nat) (r : Int × Nat), all.drop k = ys → (∀ j, j < k → f (gi all j) ≤ r.1) → (r.2 < all.length ∧ f (gi all r.2) = r.1 ∨ k = 0 ∧ r.1 = -1) → (∀ y, 0 ≤ f y) → 1 ≤ all.length →
    (scanM f ys k r).2 < all.length ∧ ∀ j, j < all.length → f (gi all j) ≤ f (gi all (scanM f ys k r).2)
  | [], k, r, hd, hj, hr, hf, hl => by
    have hkl : all.length ≤ k := by have := congrArg List.length hd; rw [List.length_drop] at this; simp at this; omega
    rcases hr with ⟨h1, h2⟩ | ⟨h1, _⟩
    · exact ⟨h1, fun j hjl => by simp only [scanM]; rw [h2]; exact hj j (by omega)⟩
    · omega
  | y :: ys, k, r, hd, hj, hr, hf, hl => by
    have hk : k < all.length := by have := congrArg List.length hd; rw [List.length_drop] at this; simp at this; omega
    have hy : gi all k = y := by
      rw [gi_get all k hk]
      rw [List.drop_eq_getElem_cons hk] at hd
      exact (List.cons.inj hd).1
    have hd' : all.drop (k + 1) = ys := by
      rw [List.drop_eq_getElem_cons hk] at hd
      exact (List.cons.inj hd).2
    simp only [scanM]
    by_cases h : r.1 < f y
    · rw [if_pos h]
      exact scanM_spec f all ys (k + 1) (f y, k) hd' (fun j hjk => by
        by_cases e : j = k
        · rw [e, hy]; exact Int.le_refl _
        · have := hj j (by omega); simp only; omega) (.inl ⟨hk, by simp only; rw [hy]⟩) hf hl
    · rw [if_neg h]
      refine scanM_spec f all ys (k + 1) r hd' (fun j hjk => by
        by_cases e : j = k
        · rw [e, hy]; omega
        · exact hj j (by omega)) ?_ hf hl
      rcases hr with hr | ⟨_, h2⟩
      · exact .inl hr
      · have := hf y; omega
end Go.Proofs.Ytdkacdfhapgboaa

/- 'least' drops what is used latest; the two bounds of SimCompetes in plain words. No program in sight. -/
set_option linter.unusedVariables false
set_option linter.unusedSimpArgs false
namespace Go.Proofs.Ytdkacdfhapgboaa

theorem split_at (l : List Int) (a : Nat) (h : a < l.length) : l = l.take a ++ gi l a :: l.drop (a + 1) := by
  rw [gi_get l a h, ← List.drop_eq_getElem_cons h, List.take_append_drop]
theorem set_split (l : List Int) (a : Nat) (x : Int) (h : a < l.length) : l.set a x = l.take a ++ x :: l.drop (a + 1) := by
  conv => lhs; rw [split_at l a h]
  have e : (l.take a).length = a := by rw [List.length_take]; omega
  rw [List.set_append_right _ _ (by omega), e]
  simp
theorem set_mem (l : List Int) (a : Nat) (x : Int) (h : a < l.length) (hn : l.Nodup) (hx : x ∉ l) : (l.set a x).Nodup ∧ ∀ y, y ∈ l.set a x ↔ y = x ∨ (y ∈ l ∧ y ≠ gi l a) := by
  rw [set_split l a x h]
  have hs := split_at l a h
  obtain ⟨p, hp⟩ : ∃ p, l.take a = p := ⟨_, rfl⟩
  obtain ⟨q, hq⟩ : ∃ q, l.drop (a + 1) = q := ⟨_, rfl⟩
  obtain ⟨z, hz⟩ : ∃ z, gi l a = z := ⟨_, rfl⟩
  rw [hp, hq, hz] at hs
  rw [hp, hq, hz]
  rw [hs] at hn hx
  rw [hs]
  rw [List.nodup_append] at hn
  obtain ⟨n1, n2, n3⟩ := hn
  rw [List.nodup_cons] at n2
  simp only [List.mem_append, List.mem_cons, not_or] at hx
  constructor
  · rw [List.nodup_append]
    refine ⟨n1, List.nodup_cons.2 ⟨hx.2.2, n2.2⟩, fun u hu v hv e => ?_⟩
    rcases List.mem_cons.1 hv with rfl | hv
    · exact hx.1 (e ▸ hu)
    · exact n3 u hu v (by simp [hv]) e
  · intro y
    simp only [List.mem_append, List.mem_cons]
    constructor
    · rintro (h | h | h)
      · exact .inr ⟨.inl h, fun e => n3 y h z (by simp) e⟩
      · exact .inl h
      · exact .inr ⟨.inr (.inr h), fun e => n2.1 (e ▸ h)⟩
    · rintro (h | ⟨h | h | h, h2⟩)
      · exact .inr (.inl h)
      · exact .inl h
      · exact absurd h h2
      · exact .inr (.inr h)
theorem nextU_nonneg (L : Nat) (xs : List Int) (y : Int) : 0 ≤ nextU L xs y := by
  unfold nextU
  split <;> omega
theorem nextU_idx {L : Nat} {xs : List Int} (hL : xs.length < L) {y z : Int} (h : nextU L xs y ≤ nextU L xs z) : xs.idxOf y ≤ xs.idxOf z := by
  unfold nextU at h
  have hy := List.idxOf_le_length (a := y) (l := xs)
  by_cases hz : z ∈ xs
  · have h1 := List.idxOf_lt_length_of_mem hz
    rw [if_pos hz] at h
    by_cases hy2 : y ∈ xs
    · rw [if_pos hy2] at h; omega
    · rw [if_neg hy2] at h; omega
  · rw [List.idxOf_eq_length hz]
    exact hy
theorem leastL_bel (L w : Nat) (hw : 1 ≤ w) : ∀ (xs here : List Int), here.Nodup → here.length ≤ w → xs.length ≤ L → Bel w here xs (leastL L w here xs)
  | [], here, _, _, _ => .nil here
  | x :: xs, here, hn, hl, hL => by
    rw [List.length_cons] at hL
    simp only [leastL]
    by_cases hx : x ∈ here
    · rw [if_pos hx]
      exact .hit hx (leastL_bel L w hw xs here hn hl (by omega))
    · rw [if_neg hx]
      by_cases hr : here.length < w
      · rw [if_pos hr]
        have hn' : (here ++ [x]).Nodup := by
          rw [List.nodup_append]
          exact ⟨hn, by simp, fun u hu v hv e => by simp at hv; exact hx (hv ▸ e ▸ hu)⟩
        exact .room hx (by simp; omega) hn' (fun y => by simp [or_comm]) (leastL_bel L w hw xs _ hn' (by simp; omega) (by omega))
      · rw [if_neg hr]
        obtain ⟨h1, h2⟩ := scanM_spec (nextU L xs) here here 0 (-1, 0) (by simp) (fun j hj => absurd hj (Nat.not_lt_zero _)) (.inr ⟨rfl, rfl⟩) (nextU_nonneg L xs) (by omega)
        obtain ⟨h3, h4⟩ := set_mem here (farI L xs here) x h1 hn hx
        refine .drop (z := gi here (farI L xs here)) hx (gi_mem _ _ h1) (fun y hy => ?_) (by rw [List.length_set]; omega) h3 h4 (leastL_bel L w hw xs _ h3 (by rw [List.length_set]; omega) (by omega))
        obtain ⟨j, hj, e⟩ := List.getElem_of_mem hy
        have := h2 j hj
        rw [gi_get here j hj, e] at this
        exact nextU_idx (by omega) this
/-- The two bounds. -/
theorem competes_bounds (k h : Nat) (hk : h ≤ k) (hh : 1 ≤ h) (xs : List Int) : lruMiss k [] xs * (k - h + 1) ≤ k * (leastL xs.length h [] xs + h) ∧ leastL xs.length k [] xs ≤ lruMiss k [] xs := by
  constructor
  · exact competes_new k h hk hh (bel_serve (leastL_bel xs.length h hh xs [] (by simp) (by simp) (Nat.le_refl _)))
  · have := belady (leastL_bel xs.length k (by omega) xs [] (by simp) (by simp) (Nat.le_refl _)) (lru_run k (by omega) xs [] [] (by simp) (by simp) (by simp)) 0 (by simp) (by simp) (by simp) (fun t _ => by simp [cnt])
    omega
/-- A cache with one set. -/
theorem ofSet_one (xs : List Int) (s : Nat) (hs : s = 0) : ofSet 1 s xs = xs := by
  unfold ofSet
  rw [List.filter_eq_self]
  intro x _
  have := setNo_ltn 1 (Nat.le_refl _) x
  simp only [beq_iff_eq]
  omega
theorem hit_one (line ways : Int) (h1 : 1 ≤ line) (hd : 4294967296 % line = 0) (l : List Int) (hu : ∀ x ∈ l, 0 ≤ x ∧ x < 4294967296) (i : Nat) (hi : i < l.length) :
    gb (replayL line (1 : Nat) ways (List.replicate 1 []) l).2 i = decide (gi l i / line ∈ (lru [] (lns line (l.take i))).take ways.toNat) := by
  have := hit_lru line ways 1 h1 hd (Nat.le_refl _) l hu i hi
  rw [ofSet_one _ _ (by have := setNo_ltn 1 (Nat.le_refl _) (gi l i / line); omega), lruK_nil] at this
  exact this
theorem lruMiss_snoc (k : Nat) (x : Int) : ∀ (xs l : List Int), lruMiss k l (xs ++ [x]) = lruMiss k l xs + (if x ∈ (lru l xs).take k then 0 else 1)
  | [], l => by
    show (if x ∈ l.take k then 0 else 1) + 0 = 0 + (if x ∈ l.take k then 0 else 1)
    omega
  | y :: xs, l => by
    show (if y ∈ l.take k then 0 else 1) + lruMiss k (frontL l y) (xs ++ [x]) = (if y ∈ l.take k then 0 else 1) + lruMiss k (frontL l y) xs + (if x ∈ (lru (frontL l y) xs).take k then 0 else 1)
    rw [lruMiss_snoc k x xs]
    omega
theorem lns_take (line : Int) (l : List Int) (i : Nat) (hi : i < l.length) : lns line (l.take (i + 1)) = lns line (l.take i) ++ [gi l i / line] := by
  rw [List.take_succ_eq_append_getElem hi, gi_get l i hi]
  unfold lns
  rw [List.map_append]
  rfl
/-- Misses, counted one by one. -/
theorem miss_count (line ways : Int) (h1 : 1 ≤ line) (hd : 4294967296 % line = 0) (l : List Int) (hu : ∀ x ∈ l, 0 ≤ x ∧ x < 4294967296) (i : Nat) (hi : i < l.length) :
    lruMiss ways.toNat [] (lns line (l.take (i + 1))) = lruMiss ways.toNat [] (lns line (l.take i)) + (if gb (replayL line (1 : Nat) ways (List.replicate 1 []) l).2 i then 0 else 1) := by
  rw [lns_take line l i hi, lruMiss_snoc, hit_one line ways h1 hd l hu i hi]
  simp
end Go.Proofs.Ytdkacdfhapgboaa

/- Counters and return stacks in plain words. No program in sight. -/
set_option linter.unusedVariables false
set_option linter.unusedSimpArgs false
namespace Go.Proofs.Ytdkacdfhapgboaa
open Go.RowKit

theorem trainC_step (v : Int) (t : Bool) (h : 0 ≤ v ∧ v ≤ 3) : (0 ≤ trainC v t ∧ trainC v t ≤ 3) ∧ trainC v t - v ≤ 1 ∧ v - trainC v t ≤ 1 := by
  cases t <;> simp only [trainC] <;> omega
theorem trainC_up (v : Int) (h : 0 ≤ v ∧ v ≤ 3) : trainC v true = if v < 3 then v + 1 else 3 := by
  simp only [trainC]
  split <;> omega
theorem trainH_zero (t : Bool) : trainH 0 0 t = 0 := by
  cases t <;> kernel_rfl
theorem callL_room (r : Int) (rs : List Int) (a : Int) (h : (rs.length : Int) < r) : callL r rs a = rs ++ [a] := by
  unfold callL
  have e : decide (r < ((rs ++ [a]).length : Int)) = false := by simp; omega
  rw [e]
theorem retB_last (rs : List Int) (a : Int) : retB (rs ++ [a]) a = true := by
  unfold retB
  have e : (rs ++ [a]).length = rs.length + 1 := by simp
  rw [e]
  simp [gi, List.getD_eq_getElem?_getD]
theorem xor_zero (x : Int) (h : 0 ≤ x ∧ x < 4294967296) : bits .xor .u32 x 0 = x := by
  unfold bits
  dsimp only
  rw [IntKind.wrap_u32]
  have e : (x.toNat : Int) = x := Int.toNat_of_nonneg h.1
  have hb : IntKind.u32.bits = 32 := rfl
  simp [hb]
  omega
theorem ctrI_zero (pc : Int) (n : Nat) (h : 0 ≤ pc ∧ pc < 4294967296) : ctrI pc 0 n = (pc / 4) % (n : Int) := by
  unfold ctrI
  rw [xor_zero _ ⟨by omega, by omega⟩]
end Go.Proofs.Ytdkacdfhapgboaa
